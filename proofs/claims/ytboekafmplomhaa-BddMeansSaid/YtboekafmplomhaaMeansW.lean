/-
  BddMeans: the walk.
-/
import Derived.Test.YtboekafmplomhaaMeansQ
set_option linter.unusedVariables false
set_option linter.unusedSimpArgs false
namespace Go.Proofs.Ytboekafmplomhaa
open Go.RowKit

/-- What stays through the second part: the store, the told diagrams, the row of numbers. -/
structure M2 (w : World) (p : Nat) (F : List Nat) (S : Sto) (sv : Value) (G : Option Nat) (all : List Int) (g : Nat) (xs : List Value) (wr : World) : Prop where
  held : Held w.heap.size wr p F S sv G all
  arr : Arr wr g 36 xs
  below : Below w.heap.size w wr
  gF : g ∉ F
  gG : G ≠ some g
  from_ : w.heap.size ≤ g
theorem M2.next {w : World} {p : Nat} {F : List Nat} {S : Sto} {sv : Value} {G : Option Nat} {all : List Int} {g : Nat} {xs : List Value} {wr wr' : World} (h : M2 w p F S sv G all g xs wr) (hb : Below wr.heap.size wr wr') : M2 w p F S sv G all g xs wr' :=
  ⟨h.held.below hb, h.arr.below hb, h.below.trans (hb.mono h.below.size), h.gF, h.gG, h.from_⟩
theorem M2.set_ {w : World} {p : Nat} {F : List Nat} {S : Sto} {sv : Value} {G : Option Nat} {all : List Int} {g : Nat} {xs : List Value} {wr : World} (h : M2 w p F S sv G all g xs wr) (i : Nat) (v : Value) : M2 w p F S sv G all g (xs.set i v) (wr.setCell ⟨g, i, none⟩ v) :=
  have hk : ∀ k, k ≠ g → (wr.setCell ⟨g, i, none⟩ v).heap[k]? = wr.heap[k]? := fun k hk => Below.heap_setCell _ _ _ _ hk
  ⟨h.held.keep (fun k hk' => hk k (fun e => by
      subst e
      rcases hk' with q | q
      · exact h.gF q
      · exact h.gG q)), h.arr.set_ i v, h.below.setCell h.from_ v, h.gF, h.gG, h.from_⟩
theorem M2.far {w : World} {p : Nat} {F : List Nat} {S : Sto} {sv : Value} {G : Option Nat} {all : List Int} {g : Nat} {xs : List Value} {wr : World} (h : M2 w p F S sv G all g xs wr) {gb : Nat} (h1 : gb ≠ g) (h2 : gb ∉ F) (h3 : G ≠ some gb) (h4 : w.heap.size ≤ gb) (i : Nat) (v : Value) :
    M2 w p F S sv G all g xs (wr.setCell ⟨gb, i, none⟩ v) :=
  have hk : ∀ k, k ≠ gb → (wr.setCell ⟨gb, i, none⟩ v).heap[k]? = wr.heap[k]? := fun k hk => Below.heap_setCell _ _ _ _ hk
  ⟨h.held.keep (fun k hk' => hk k (fun e => by
      subst e
      rcases hk' with q | q
      · exact h2 q
      · exact h3 q)), h.arr.keep (hk g (fun e => h1 e.symm)), h.below.setCell h4 v, h.gF, h.gG, h.from_⟩

def M1Rel (w : World) (p : Nat) (l : List OpD) (i v : Value) (wr : World) : Prop :=
  ∃ k : Nat, k ≤ l.length ∧ i = .int .i64 k ∧ ∃ F G, Held w.heap.size wr p F (runV (newS 1048576) [] (l.take k)).1 v G (runV (newS 1048576) [] (l.take k)).2 ∧ Below w.heap.size w wr

set_option maxRecDepth 100000 in
set_option maxHeartbeats 4000000 in
theorem bddMeans_any {w : World} {a : Option Addr} {cap : Nat} {l : List OpD} (h : Rd w 5 (.slice a l.length cap) (flatO l)) (hlm : l.length ≤ 9223372036854775807) :
    Calls Try.prog 3 #[.slice a l.length cap] w (Pure (.bool true) w) := by
  by_cases hl : 30 < l.length
  · have hl' : (30 : Int) < (l.length : Int) := by omega
    go_enter Try.func3, Try.ntmps3
    go_wp2_with (first
      | ((with_reducible refine (new_call 1048576 (by omega) (by omega) _).mono ?_); rintro e w1 ⟨p, F, rfl, hS, hb, hF⟩)
      | ((with_reducible refine (known15 _).mono ?_); rintro e w2 ⟨rfl, m1, d1, rfl⟩))
    go_returns
    exact Pure.of rfl (Below.ext_mk hb hb.size _ _)
  · have hl' : ¬ (30 : Int) < (l.length : Int) := by omega
    go_enter Try.func3, Try.ntmps3
    go_wp2_with ((with_reducible refine (new_call 1048576 (by omega) (by omega) _).mono ?_); rintro e w1 ⟨p, F, rfl, hS, hb, hF⟩)
    go_loopw [39, 5] (fun i v wr => M1Rel w p l i v wr) (fun i _ _ => l.length - (intOf i).toNat)
    case atStart =>
      exact ⟨0, by omega, rfl, F, none, ⟨hS, ⟨rfl, .inl ⟨rfl, rfl, rfl⟩⟩, hF, fun g hg => by simp at hg⟩, hb⟩
    case round =>
      obtain ⟨k, hk, rfl, F1, G1, hH, hbel⟩ := hrel
      have RG := runV_ok (l.take k) (newS 1048576) 0 [] good_new (by simp; omega)
      have hlen : (runV (newS 1048576) [] (l.take k)).2.length = k := by rw [RG.2.1]; simp; omega
      by_cases hlt : k < l.length
      · obtain ⟨o, ho⟩ : ∃ o, l[k]? = some o := ⟨l[k], List.getElem?_eq_getElem hlt⟩
        obtain ⟨b, off, rfl, hbb, o0, o1, o2, o3, o4⟩ := (h.below hbel).op ho
        have hk1 : (k : Int) < (l.length : Int) := by omega
        have hk0 : (0 : Int) ≤ (k : Int) := by omega
        have hsnoc := runV_snoc (l.take k) (newS 1048576) [] o
        rw [← take_snoc l k o ho] at hsnoc
        have HS := hid hsnoc
        have HRG := hid RG
        have Hlen := hid hlen
        clear ho hsnoc RG hlen
        go_upto_region 10 with (fail)
        refine wp_gen (fun V hV => ?_)
        have hbV : Below wr.heap.size wr V := by rw [hV]; ((repeat' (first | (with_reducible exact Below.refl _ _) | (with_reducible refine Below.ext_mk ?_ ?_ _ _) | (with_reducible refine Below.alloc ?_ ?_ _) | (with_reducible refine Below.drew ?_) | (with_reducible refine Below.setCell ?_ ?_ _) | go_size)))
        have zV0 : wr.heap.size < V.heap.size := by rw [hV]; first | (simp; done) | (simp; omega)
        have cV0_0 : V.cell? ⟨wr.heap.size, 0, none⟩ = some (.int .i64 o.k) := by rw [hV]; first | (go_simp; done) | (rw [World.cell?_alloc_past _ _ _ (by first | (simp; done) | (simp; omega))]; go_simp)
        have cV0_1 : V.cell? ⟨wr.heap.size, 1, none⟩ = some (.int .i64 o.a) := by rw [hV]; first | (go_simp; done) | (rw [World.cell?_alloc_past _ _ _ (by first | (simp; done) | (simp; omega))]; go_simp)
        have cV0_2 : V.cell? ⟨wr.heap.size, 2, none⟩ = some (.int .i64 o.b) := by rw [hV]; first | (go_simp; done) | (rw [World.cell?_alloc_past _ _ _ (by first | (simp; done) | (simp; omega))]; go_simp)
        have cV0_3 : V.cell? ⟨wr.heap.size, 3, none⟩ = some (.int .i64 o.c) := by rw [hV]; first | (go_simp; done) | (rw [World.cell?_alloc_past _ _ _ (by first | (simp; done) | (simp; omega))]; go_simp)
        have cV0_4 : V.cell? ⟨wr.heap.size, 4, none⟩ = some (.bool o.on) := by rw [hV]; first | (go_simp; done) | (rw [World.cell?_alloc_past _ _ _ (by first | (simp; done) | (simp; omega))]; go_simp)
        clear hV
        have hHV := hH.below hbV
        clear o0 o1 o2 o3 o4 hH
        generalize hR : runV (newS 1048576) [] (l.take k) = R at *
        obtain ⟨sa, sc, rfl, _⟩ := RowIs.form hHV.row
        have D := does_any hHV.sto HRG.out.1.wf (RowIs.rd hHV.row) (by rw [Hlen.out]; omega) o
        unfold Tells at D
        refine wp_region_doc (fun F hF => ?_)
        have HF := hid hF
        clear hF
        repeat (refine doc_val rfl (by first | (go_simp; done) | (go_simp; exact ⟨rfl, rfl⟩)) ?_; simp only [Act.put, List.setIfInBounds_toArray, List.set_cons_zero, List.set_cons_succ])
        refine doc_call rfl (by first | (go_simp; done) | (go_simp; exact ⟨rfl, rfl⟩)) (D.mono ?_)
        rintro e w2 ⟨rfl, F2, hS2, st2⟩
        refine ⟨_, rfl, ?_⟩
        simp only [Act.put, List.setIfInBounds_toArray, List.set_cons_zero, List.set_cons_succ]
        obtain ⟨v', w3, G', r1, r2, r3⟩ := hHV.grow (by have := hbV.size; have := hbel.size; omega) hS2 st2 (by rw [Hlen.out]; omega) (doesV R.1 R.2 o).2
        refine doc_val rfl (by first | (go_simp; done) | (go_simp; exact ⟨rfl, rfl⟩)) ?_
        simp only [Act.put, List.setIfInBounds_toArray, List.set_cons_zero, List.set_cons_succ]
        refine doc_val rfl (run_append_op _ _ _ _ _ _ _ _ _ r1) ?_
        simp only [Act.put, List.setIfInBounds_toArray, List.set_cons_zero, List.set_cons_succ]
        refine doc_val rfl (by first | (go_simp; done) | (go_simp; exact ⟨rfl, rfl⟩)) ?_
        simp only [Act.put, List.setIfInBounds_toArray, List.set_cons_zero, List.set_cons_succ]
        refine doc_end (HF.out _ _ ?_)
        clear HF F D
        go_wp2
        go_roundw
        case rel =>
          refine ⟨k + 1, by omega, by go_num, F2, some G', ?_, hbel.trans ((hbV.mono hbel.size).trans r3)⟩
          rw [HS.out]
          exact r2
        case measure => simp [intOf]; omega
      · have e : k = l.length := by omega
        subst e
        rw [List.take_length] at hH RG hlen
        have HRG := hid RG
        have Hlen := hid hlen
        clear RG hlen hk hlt hS hb hF
        generalize hR : runV (newS 1048576) [] l = R at *
        have HR := hid hR
        clear hR
        obtain ⟨S, all⟩ := R
        simp only at hH HRG Hlen
        have hmk := make_row 32 36 infoU64 (.int .u64 0) Try.underlying32 infoU64_is infoU64_zero .i64 .i64 l.length l.length (Nat.le_refl _) (by rw [infoU64_bytes]; omega) hlm
        rw [infoU64_size, Nat.mul_one] at hmk
        obtain ⟨sa, sc, rfl, _⟩ := RowIs.form hH.row
        go_wp2
        refine wp_gen (fun W hW => ?_)
        have hbW : Below wr.heap.size wr W := by rw [hW]; (repeat' (first | (with_reducible exact Below.refl _ _) | (with_reducible refine Below.ext_mk ?_ ?_ _ _) | (with_reducible refine Below.alloc ?_ ?_ _) | (with_reducible refine Below.drew ?_) | (with_reducible refine Below.setCell ?_ ?_ _) | go_size))
        have hA : Arr W wr.heap.size 36 (List.replicate l.length (.int .u64 0)) := by rw [hW]; exact Arr.made (z := .int .u64 0) rfl
        have hM : M2 w p F1 S (.slice sa all.length sc) G1 all wr.heap.size (mrow l 0 0) W :=
          ⟨hH.below hbW, by rw [mrow_start]; exact hA, hbel.trans (hbW.mono hbel.size), fun hm => Nat.lt_irrefl _ (hH.sto.lt _ hm), fun e => Nat.lt_irrefl _ (RowIs.lt hH.row _ e), hbel.size⟩
        generalize wr.heap.size = g at *
        clear hW hmk hH hA hbW hbel
        clear wr
        go_loopw [54] (fun i wr => ∃ b : Nat, b ≤ 64 ∧ i = .int .u8 b ∧ M2 w p F1 S (.slice sa all.length sc) G1 all g (mrow l b 0) wr) (fun i _ => 64 - (intOf i).toNat)
        case atStart => exact ⟨0, by omega, rfl, hM⟩
        case round =>
          obtain ⟨b, hb, rfl, hMr⟩ := hrel
          by_cases hb64 : b < 64
          · have hb1 : (b : Int) < 64 := by omega
            have hmk6 : ∀ w : World, (Instr.makeSlice 33 (.int .i64 6) (.int .i64 6)).run Try.prog w = .ok (.slice (some ⟨w.heap.size, 0, none⟩) 6 6) (w.alloc (.cells (madeCells (Value.bool false).cells (6 * infoBool.size)) 4)) := make_row 33 4 infoBool (.bool false) Try.underlying33 infoBool_is infoBool_zero .i64 .i64 6 6 (Nat.le_refl _) (by rw [infoBool_bytes]; omega) (by omega)
            rw [infoBool_size, Nat.mul_one] at hmk6
            go_wp2
            refine wp_gen (fun V hV => ?_)
            have hbV : Below wr.heap.size wr V := by rw [hV]; (repeat' (first | (with_reducible exact Below.refl _ _) | (with_reducible refine Below.ext_mk ?_ ?_ _ _) | (with_reducible refine Below.alloc ?_ ?_ _) | (with_reducible refine Below.drew ?_) | (with_reducible refine Below.setCell ?_ ?_ _) | go_size))
            have hL : Arr V wr.heap.size 4 (bools (brow b 0)) := by rw [hV, brow_start]; exact Arr.made (z := .bool false) rfl
            have hMV := hMr.next hbV
            have hgL : wr.heap.size ≠ g := fun e => by have := hMr.arr.lt; omega
            have hLF : wr.heap.size ∉ F1 := fun hm => Nat.lt_irrefl _ (hMr.held.sto.lt _ hm)
            have hLG : G1 ≠ some wr.heap.size := fun e => Nat.lt_irrefl _ (RowIs.lt hMr.held.row _ e)
            have hLw : w.heap.size ≤ wr.heap.size := hMr.below.size
            generalize wr.heap.size = gb at *
            clear hV hmk6 hMr hbV hM
            go_loopw [60] (fun i wr => ∃ v : Nat, v ≤ 6 ∧ i = .int .i64 v ∧ M2 w p F1 S (.slice sa all.length sc) G1 all g (mrow l b 0) wr ∧ Arr wr gb 4 (bools (brow b v))) (fun i _ => 6 - (intOf i).toNat)
            case atStart => exact ⟨0, by omega, rfl, hMV, hL⟩
            case round =>
              obtain ⟨v, hv, rfl, hMr, hA⟩ := hrel
              by_cases hv6 : v < 6
              · have hv1 : (v : Int) < 6 := by omega
                have hv0 : (0 : Int) ≤ (v : Int) := by omega
                have hbit := bit8 ⟨b, hb64⟩ ⟨v, hv6⟩
                simp only at hbit
                have hc := hA.cell v
                rw [show (bools (brow b v))[v]? = some (.bool ((brow b v).getD v false)) by simp [bools, brow, hv6]] at hc
                have hf := hA.free v
                have hz := hA.lt
                go_wp2
                go_roundw
                case rel =>
                  refine ⟨v + 1, by omega, by go_num, hMr.far hgL hLF hLG hLw _ _, ?_⟩
                  rw [← brow_set b v hv6]
                  exact hA.set_ _ _
                case measure => simp [intOf]; omega
              · have e6 : v = 6 := by omega
                subst e6
                have hops := h.below hMr.below
                clear hMV hL
                go_wp2_with (go_at_call 18; refine (lund_any hops (by omega) b hb64).mono ?_; rintro e w5 ⟨sv5, G5, rfl, hR5, hB5, hG5⟩; obtain ⟨sa5, sc5, rfl, _⟩ := RowIs.form hR5)
                have hM5 := hMr.next hB5
                have hA5 := hA.below hB5
                have hrl := runB_length (bitsOf b) l []
                have hg5 : ∀ g', G5 = some g' → g' ≠ g := fun g' hg' e => by have := hG5 g' hg'; have := hMr.arr.lt; omega
                clear hMr hA hB5 hG5 hops
                go_loopw [76] (fun i wr => ∃ k : Nat, k ≤ l.length ∧ i = .int .i64 k ∧ M2 w p F1 S (.slice sa all.length sc) G1 all g (mrow l b k) wr ∧ w5.grownBy wr (some g)) (fun i _ => l.length - (intOf i).toNat)
                case atStart => exact ⟨0, by omega, rfl, hM5, grown_refl _ _⟩
                case round =>
                  obtain ⟨k, hk, rfl, hMr, hgr⟩ := hrel
                  by_cases hkl : k < l.length
                  · obtain ⟨x, hx, hxh, hxe⟩ := told_ev HRG.out.1 (by rw [Hlen.out]) (fun β => by have := HRG.out.2.2 β; simpa using this) hb64 hkl
                    have hA' := hA5.keep (hgr.block gb hA5.lt (fun e => hgL (by cases e; rfl)))
                    have hHo := holds_call hMr.held.sto HRG.out.1.wf x (hA'.bits (by simp [brow]))
                    rw [hxe] at hHo
                    have hrow5 : (bools (runB (bitsOf b) [] l))[k]? = some (.bool (truth l k b)) := by
                      simp only [bools, List.getElem?_map, truth]
                      rw [List.getElem?_eq_getElem (by rw [hrl]; simp; omega)]
                      simp [List.getD_eq_getElem?_getD]
                      rw [List.getElem?_eq_getElem (by rw [hrl]; simp; omega)]; rfl
                    obtain ⟨g5, c5, q1, q2, q3, q4⟩ := RowIs.one hR5 hrow5
                    obtain ⟨ga, ca, q5, q6, q7, q8⟩ := RowIs.one hMr.held.row (show (ints all)[k]? = some (.int .i64 x) by simp [ints, hx])
                    simp only [Value.slice.injEq] at q1 q5
                    obtain ⟨rfl, _, rfl⟩ := q1
                    obtain ⟨rfl, _, rfl⟩ := q5
                    have hk1 : (k : Int) < (l.length : Int) := by omega
                    have hk0 : (0 : Int) ≤ (k : Int) := by omega
                    have hk2 : (k : Int) < (all.length : Int) := by rw [Hlen.out]; omega
                    have q4' := (cell_of_heap k (hgr.block _ q3 (fun e => hg5 _ q2 (by cases e; rfl)))).trans q4
                    have q3' := Nat.lt_of_lt_of_le q3 hgr.size
                    have hcm := hMr.arr.cell k
                    rw [mrow_at l b k k hkl, if_neg (by omega)] at hcm
                    have hfm := hMr.arr.free k
                    have hgz := hMr.arr.lt
                    have hor := msk_or' (truth l k) b hb64
                    have hHx := hid hx
                    have hHe := hid hxe
                    have hHm := hid hMr
                    have hHg := hid hgr
                    clear hx hxe hMr hgr q4 hrow5 hA' hM5
                    cases ht : truth l k b with
                    | false =>
                      rw [ht] at hHo q4'
                      have HT := hid ht
                      clear ht
                      go_wp2_with (go_at_call 19; refine hHo.mono ?_; rintro e w6 ⟨rfl, m6, d6, rfl⟩)
                      go_roundw
                      case rel =>
                        refine ⟨k + 1, by omega, by go_num, ?_, grown_below hHg.out (Below.ext_mk (Below.refl _ _) (Nat.le_refl _) _ _)⟩
                        rw [mrow_no l b k HT.out]
                        exact hHm.out.next (Below.ext_mk (Below.refl _ _) (Nat.le_refl _) _ _)
                      case measure => simp [intOf]; omega
                    | true =>
                      rw [ht] at hHo q4'
                      have HT := hid ht
                      clear ht
                      go_wp2_with (go_at_call 19; refine hHo.mono ?_; rintro e w6 ⟨rfl, m6, d6, rfl⟩)
                      go_roundw
                      case rel =>
                        refine ⟨k + 1, by omega, by go_num, ?_, grown_below (grown_set hHg.out k _) (Below.ext_mk (Below.refl _ _) (Nat.le_refl _) _ _)⟩
                        rw [mrow_yes l b k hkl HT.out]
                        exact (hHm.out.set_ k _).next (Below.ext_mk (Below.refl _ _) (Nat.le_refl _) _ _)
                      case measure => simp [intOf]; omega
                  · have ek : k = l.length := by omega
                    subst ek
                    rw [mrow_end] at hMr
                    clear hM5 hgr
                    go_wp2
                    go_roundw
                    case rel => exact ⟨b + 1, by omega, by go_num, hMr⟩
                    case measure => simp [intOf]; omega
          · have eb : b = 64 := by omega
            subst eb
            refine wp_gen (fun W hW => ?_)
            rw [← hW] at hMr
            clear hW hb64
            have hgz := hMr.arr.lt
            have hcells : ∀ k : Nat, k < l.length → ∃ x, all[k]? = some x ∧ ∃ ga, sa = some ⟨ga, 0, none⟩ ∧ ga < W.heap.size ∧ W.cell? ⟨ga, k, none⟩ = some (.int .i64 x) ∧ W.cell? ⟨g, k, none⟩ = some (.int .u64 ((msk (truth l k) 64 : Nat) : Int)) := fun k hk => by
              obtain ⟨x, hx, hxh, hxe⟩ := told_ev HRG.out.1 (by rw [Hlen.out]) (fun β => by have := HRG.out.2.2 β; simpa using this) (b := 0) (by omega) hk
              obtain ⟨ga, ca, q5, q6, q7, q8⟩ := RowIs.one hMr.held.row (show (ints all)[k]? = some (.int .i64 x) by simp [ints, hx])
              simp only [Value.slice.injEq] at q5
              refine ⟨x, hx, ga, q5.1, q7, q8, ?_⟩
              rw [hMr.arr.cell, mrow_at l 64 0 k hk, if_neg (by omega)]
            have hpair : ∀ (i k : Nat) (x y : Int), all[i]? = some x → all[k]? = some y → (x = y ↔ msk (truth l i) 64 = msk (truth l k) 64) := fun i k x y hx hy => told_pair HRG.out.1 (fun β => by have := HRG.out.2.2 β; simpa using this) hx hy
            have HC := hid hcells
            have HP := hid hpair
            have HM := hid hMr
            have hlen2 : (all.length : Int) = (l.length : Int) := by rw [Hlen.out]
            have HL2 := hid hlen2
            clear hcells hpair hMr hM hlen2
            go_wp2
            go_loopw [103] (fun i wr => ∃ k : Nat, k ≤ l.length ∧ i = .int .i64 k ∧ Ext W wr) (fun i _ => l.length - (intOf i).toNat)
            case atStart => exact ⟨0, by omega, rfl, Ext.refl W⟩
            case round =>
              obtain ⟨i, hi, rfl, mi, di, rfl⟩ := hrel
              by_cases hil : i < l.length
              · obtain ⟨x, hx, ga, rfl, hga, hxc, hxm⟩ := HC.out i hil
                have hi0 : (0 : Int) ≤ (i : Int) := by omega
                have hi1 : (i : Int) < (all.length : Int) := by rw [HL2.out]; omega
                have hi2 : (i : Int) < (l.length : Int) := by omega
                have HX := hid hx
                clear hx
                go_wp2
                go_loopw [108] (fun k wr => ∃ j : Nat, j ≤ l.length ∧ k = .int .i64 j ∧ Ext W wr) (fun k _ => l.length - (intOf k).toNat)
                case atStart => exact ⟨0, by omega, rfl, _, _, rfl⟩
                case round =>
                  obtain ⟨j, hj, rfl, mj, dj, rfl⟩ := hrel
                  by_cases hjl : j < l.length
                  · obtain ⟨y, hy, ga', q, _, hyc, hym⟩ := HC.out j hjl
                    obtain rfl : ga = ga' := by simpa using q
                    have hj0 : (0 : Int) ≤ (j : Int) := by omega
                    have hj1 : (j : Int) < (all.length : Int) := by rw [HL2.out]; omega
                    have hj2 : (j : Int) < (l.length : Int) := by omega
                    have hp := HP.out i j x y HX.out hy
                    clear hy q
                    by_cases hxy : x = y
                    · have e1 : (x == y) = true := by simpa using hxy
                      have e2 : (((msk (truth l i) 64 : Nat) : Int) == ((msk (truth l j) 64 : Nat) : Int)) = true := by rw [hp.1 hxy]; simp
                      clear hp hxy
                      generalize ((msk (truth l i) 64 : Nat) : Int) = u at *
                      generalize ((msk (truth l j) 64 : Nat) : Int) = u' at *
                      go_upto_region 37 with (fail)
                      refine wp_region_ext (by kernel_rfl) (by kernel_rfl) (fun F hF => ?_)
                      have HF := hid hF; clear hF
                      repeat (first
                        | (apply text_skip; (focus rfl); simp only [Act.put, List.setIfInBounds_toArray, List.set_cons_zero, List.set_cons_succ])
                        | (apply text_val; (focus rfl); (focus (intro _ _; go_simp; with_reducible rfl)); simp only [Act.put, List.setIfInBounds_toArray, List.set_cons_zero, List.set_cons_succ])
                        | (apply text_if; (focus (first | exact wanted_t rfl rfl | exact wanted_f rfl rfl | exact wanted_gt rfl rfl | exact wanted_gf rfl rfl)); (focus (intro hc _ _; (try simp only [Bool.and_eq_true, Bool.not_eq_true', Bool.true_and] at hc); go_simp; with_reducible rfl)); simp only [Act.put, List.setIfInBounds_toArray, List.set_cons_zero, List.set_cons_succ]))
                      refine text_nil (HF.out _ (fun mx dx => ?_))
                      clear HF F
                      go_wp2
                      go_roundw
                      case rel => exact ⟨j + 1, by omega, by go_num, _, _, rfl⟩
                      case measure => simp [intOf]; omega
                    · have e1 : (x == y) = false := by simpa using hxy
                      have e2 : (((msk (truth l i) 64 : Nat) : Int) == ((msk (truth l j) 64 : Nat) : Int)) = false := by
                        simp; intro e; exact hxy (hp.2 (by omega))
                      clear hp hxy
                      generalize ((msk (truth l i) 64 : Nat) : Int) = u at *
                      generalize ((msk (truth l j) 64 : Nat) : Int) = u' at *
                      go_upto_region 37 with (fail)
                      refine wp_region_ext (by kernel_rfl) (by kernel_rfl) (fun F hF => ?_)
                      have HF := hid hF; clear hF
                      repeat (first
                        | (apply text_skip; (focus rfl); simp only [Act.put, List.setIfInBounds_toArray, List.set_cons_zero, List.set_cons_succ])
                        | (apply text_val; (focus rfl); (focus (intro _ _; go_simp; with_reducible rfl)); simp only [Act.put, List.setIfInBounds_toArray, List.set_cons_zero, List.set_cons_succ])
                        | (apply text_if; (focus (first | exact wanted_t rfl rfl | exact wanted_f rfl rfl | exact wanted_gt rfl rfl | exact wanted_gf rfl rfl)); (focus (intro hc _ _; (try simp only [Bool.and_eq_true, Bool.not_eq_true', Bool.true_and] at hc); go_simp; with_reducible rfl)); simp only [Act.put, List.setIfInBounds_toArray, List.set_cons_zero, List.set_cons_succ]))
                      refine text_nil (HF.out _ (fun mx dx => ?_))
                      clear HF F
                      go_wp2
                      go_roundw
                      case rel => exact ⟨j + 1, by omega, by go_num, _, _, rfl⟩
                      case measure => simp [intOf]; omega
                  · have ej : j = l.length := by omega
                    subst ej
                    have hn : ¬ (l.length : Int) < (all.length : Int) := by rw [HL2.out]; omega
                    go_wp2
                    go_roundw
                    case rel => exact ⟨i + 1, by omega, by go_num, _, _, rfl⟩
                    case measure => simp [intOf]; omega
              · have ei : i = l.length := by omega
                subst ei
                have hn : ¬ (l.length : Int) < (all.length : Int) := by rw [HL2.out]; omega
                have hWf := HRG.out.1.wf
                have hcap : S.cap ≠ 0 := by have := hWf.cap2; omega
                have hlm : S.nodes.length ≤ 1048576 := by have := hWf.len; have := hWf.cap; omega
                have hSt := HM.out.held.sto
                have hLen := fun V (hb : Below W.heap.size W V) => len_any (hSt.below hb) hcap
                have hAt := fun V x (hb : Below W.heap.size W V) => at_call (hSt.below hb) hWf x
                have hFull := fun V (hb : Below W.heap.size W V) => full_any (hSt.below hb) hcap
                rw [HRG.out.1.free (by omega)] at hFull
                have hbW := HM.out.below
                go_wp2
                go_loopw [16] (fun i wr => ∃ j : Nat, j ≤ S.nodes.length ∧ i = .int .i64 ((j : Int) + 2) ∧ Ext W wr) (fun i _ => S.nodes.length + 2 - (intOf i).toNat)
                case atStart => exact ⟨0, by omega, rfl, _, _, rfl⟩
                case round =>
                  obtain ⟨j, hj, rfl, mj, dj, rfl⟩ := hrel
                  by_cases hjl : j < S.nodes.length
                  · obtain ⟨nd, hnd⟩ : ∃ nd, S.nodes[j]? = some nd := ⟨S.nodes[j], List.getElem?_eq_getElem hjl⟩
                    have hok := hWf.node j nd hnd
                    have hch := hWf.child hnd
                    have a0 := fun V (hb : Below W.heap.size W V) => hAt V ((j : Int) + 2) hb
                    have a1 := fun V (hb : Below W.heap.size W V) => hAt V nd.2.1 hb
                    have a2 := fun V (hb : Below W.heap.size W V) => hAt V nd.2.2 hb
                    simp only [at_node hnd] at a0
                    have p1 := at_part hch.1 hok.tlo
                    have p2 := at_part hch.2 hok.thi
                    obtain ⟨nv, nlo, nhi⟩ := nd
                    have k1 := hok.lo
                    have k2 := hok.hi
                    have k3 := hok.ne
                    simp only at a0 a1 a2 p1 p2 k1 k2 k3
                    have k3' : (nlo == nhi) = false := by simpa using k3
                    have k1' : ¬ ((j : Int) + 2 ≤ nlo) := by omega
                    have k2' : ¬ ((j : Int) + 2 ≤ nhi) := by omega
                    have hw2 : IntKind.i64.wrap ((S.nodes.length : Int) + 2) = (S.nodes.length : Int) + 2 := IntWalk.i64_in _ (by omega)
                    have hjl' : (j : Int) + 2 < (S.nodes.length : Int) + 2 := by omega
                    clear hnd hok hch k3 hAt
                    generalize atV S nlo = A1 at *
                    generalize atV S nhi = A2 at *
                    go_upto_region 45 with (first
                      | ((with_reducible refine (hLen _ (by (repeat' (first | (with_reducible exact Below.refl _ _) | (with_reducible refine Below.ext_mk ?_ ?_ _ _) | (with_reducible refine Below.alloc ?_ ?_ _) | (with_reducible refine Below.drew ?_) | (with_reducible refine Below.setCell ?_ ?_ _) | go_size)))).mono ?_); rintro e w7 ⟨rfl, m7, d7, rfl⟩)
                      | ((with_reducible refine (a0 _ (by (repeat' (first | (with_reducible exact Below.refl _ _) | (with_reducible refine Below.ext_mk ?_ ?_ _ _) | (with_reducible refine Below.alloc ?_ ?_ _) | (with_reducible refine Below.drew ?_) | (with_reducible refine Below.setCell ?_ ?_ _) | go_size)))).mono ?_); rintro e w8 ⟨rfl, m8, d8, rfl⟩))
                    refine wp_gen (fun V1 hV1 => ?_)
                    have hb1 : Below W.heap.size W V1 := by rw [hV1]; (repeat' (first | (with_reducible exact Below.refl _ _) | (with_reducible refine Below.ext_mk ?_ ?_ _ _) | (with_reducible refine Below.alloc ?_ ?_ _) | (with_reducible refine Below.drew ?_) | (with_reducible refine Below.setCell ?_ ?_ _) | go_size))
                    obtain ⟨n1, hn1⟩ : ∃ n1, n1 = W.heap.size + (mj.size + (m7.size + m8.size)) := ⟨_, rfl⟩
                    have z1 : n1 < V1.heap.size := by rw [hV1, hn1]; simp
                    have c10 : V1.cell? ⟨n1, 0, none⟩ = some (.int .i64 nv) := by rw [hV1, hn1]; go_simp
                    have c11 : V1.cell? ⟨n1, 1, none⟩ = some (.int .i64 nlo) := by rw [hV1, hn1]; go_simp
                    have c12 : V1.cell? ⟨n1, 2, none⟩ = some (.int .i64 nhi) := by rw [hV1, hn1]; go_simp
                    rw [← hn1]
                    clear hV1 hn1
                    have a1' := a1 V1 hb1
                    have a2' := fun V (hb : Below V1.heap.size V1 V) => a2 V (hb1.trans (hb.mono hb1.size))
                    clear a0 a1 a2
                    go_upto_region 46 with ((with_reducible refine a1'.mono ?_); rintro e w9 ⟨rfl, m9, d9, rfl⟩)
                    refine wp_gen (fun V2 hV2 => ?_)
                    have hb2 : Below V1.heap.size V1 V2 := by rw [hV2]; (repeat' (first | (with_reducible exact Below.refl _ _) | (with_reducible refine Below.ext_mk ?_ ?_ _ _) | (with_reducible refine Below.alloc ?_ ?_ _) | (with_reducible refine Below.drew ?_) | (with_reducible refine Below.setCell ?_ ?_ _) | go_size))
                    obtain ⟨n2, hn2⟩ : ∃ n2, n2 = V1.heap.size + m9.size := ⟨_, rfl⟩
                    have z2 : n2 < V2.heap.size := by rw [hV2, hn2]; simp
                    have c20 : V2.cell? ⟨n2, 0, none⟩ = some (.int .i64 A1.1.1) := by rw [hV2, hn2]; go_simp
                    rw [← hn2]
                    clear hV2 hn2
                    have z1' := Nat.lt_of_lt_of_le z1 hb2.size
                    have c10' := (hb2.cell (p := ⟨n1, 0, none⟩) z1).trans c10
                    have c11' := (hb2.cell (p := ⟨n1, 1, none⟩) z1).trans c11
                    have c12' := (hb2.cell (p := ⟨n1, 2, none⟩) z1).trans c12
                    have a2'' := a2' V2 hb2
                    clear c10 c11 c12 a1' a2'
                    go_upto_region 47 with ((with_reducible refine a2''.mono ?_); rintro e w6 ⟨rfl, m6, d6, rfl⟩)
                    refine wp_gen (fun V3 hV3 => ?_)
                    have hb3 : Below V2.heap.size V2 V3 := by rw [hV3]; (repeat' (first | (with_reducible exact Below.refl _ _) | (with_reducible refine Below.ext_mk ?_ ?_ _ _) | (with_reducible refine Below.alloc ?_ ?_ _) | (with_reducible refine Below.drew ?_) | (with_reducible refine Below.setCell ?_ ?_ _) | go_size))
                    obtain ⟨n3, hn3⟩ : ∃ n3, n3 = V2.heap.size + m6.size := ⟨_, rfl⟩
                    have z3 : n3 < V3.heap.size := by rw [hV3, hn3]; simp
                    have c30 : V3.cell? ⟨n3, 0, none⟩ = some (.int .i64 A2.1.1) := by rw [hV3, hn3]; go_simp
                    rw [← hn3]
                    clear hV3 hn3
                    have c10 := (hb3.cell (p := ⟨n1, 0, none⟩) z1').trans c10'
                    have c11 := (hb3.cell (p := ⟨n1, 1, none⟩) z1').trans c11'
                    have c12 := (hb3.cell (p := ⟨n1, 2, none⟩) z1').trans c12'
                    have c20' := (hb3.cell (p := ⟨n2, 0, none⟩) z2).trans c20
                    have hEV : Ext W V3 := Below.to_ext (hb1.trans ((hb2.trans (hb3.mono hb2.size)).mono hb1.size))
                    have z1'' := Nat.lt_of_lt_of_le z1' hb3.size
                    have z2' := Nat.lt_of_lt_of_le z2 hb3.size
                    clear c10' c11' c12' c20 hb1 hb2 hb3 a2'' z1 z1' z2
                    rcases p1 with rfl | ⟨m1, rfl, p1v⟩ <;> rcases p2 with rfl | ⟨m2, rfl, p2v⟩
                    all_goals
                      go_wp2
                      go_roundw
                      case rel => exact ⟨j + 1, by omega, by go_num, hEV⟩
                      case measure => simp [intOf]; omega
                  · have ej : j = S.nodes.length := by omega
                    subst ej
                    have hw2 : IntKind.i64.wrap ((S.nodes.length : Int) + 2) = (S.nodes.length : Int) + 2 := IntWalk.i64_in _ (by omega)
                    go_upto_region 49 with ((with_reducible refine (hLen _ (by (repeat' (first | (with_reducible exact Below.refl _ _) | (with_reducible refine Below.ext_mk ?_ ?_ _ _) | (with_reducible refine Below.alloc ?_ ?_ _) | (with_reducible refine Below.drew ?_) | (with_reducible refine Below.setCell ?_ ?_ _) | go_size)))).mono ?_); rintro e w7 ⟨rfl, m7, d7, rfl⟩)
                    refine wp_region_seq (fun F hF => ?_)
                    have HF := hid hF; clear hF
                    repeat (first
                      | (apply text_skip; (focus rfl); simp only [Act.put, List.setIfInBounds_toArray, List.set_cons_zero, List.set_cons_succ])
                      | (apply text_val; (focus rfl); (focus (intro _ _; go_simp; with_reducible rfl)); simp only [Act.put, List.setIfInBounds_toArray, List.set_cons_zero, List.set_cons_succ])
                      | (apply text_call; (focus rfl); (focus (intro _ _; go_simp; exact ⟨rfl, rfl⟩)); (focus (intro _ _; with_reducible (first | exact hFull _ (by (repeat' (first | (with_reducible exact Below.refl _ _) | (with_reducible refine Below.ext_mk ?_ ?_ _ _) | (with_reducible refine Below.alloc ?_ ?_ _) | (with_reducible refine Below.drew ?_) | (with_reducible refine Below.setCell ?_ ?_ _) | go_size))) | exact known15 _))); simp only [Act.put, List.setIfInBounds_toArray, List.set_cons_zero, List.set_cons_succ])
                      | (apply text_if; (focus (first | exact wanted_t rfl rfl | exact wanted_f rfl rfl | exact wanted_gt rfl rfl | exact wanted_gf rfl rfl)); (focus (intro hc _ _; (try simp only [Bool.and_eq_true, Bool.not_eq_true', Bool.true_and] at hc); go_simp; with_reducible rfl)); simp only [Act.put, List.setIfInBounds_toArray, List.set_cons_zero, List.set_cons_succ])
                      | (apply text_if_call; (focus (first | exact wanted_t rfl rfl | exact wanted_f rfl rfl | exact wanted_gt rfl rfl | exact wanted_gf rfl rfl)); (focus (intro hc _ _; (try simp only [Bool.and_eq_true, Bool.not_eq_true', Bool.true_and] at hc); go_simp; exact ⟨rfl, rfl⟩)); (focus (intro hc _ _; with_reducible (first | exact hFull _ (by (repeat' (first | (with_reducible exact Below.refl _ _) | (with_reducible refine Below.ext_mk ?_ ?_ _ _) | (with_reducible refine Below.alloc ?_ ?_ _) | (with_reducible refine Below.drew ?_) | (with_reducible refine Below.setCell ?_ ?_ _) | go_size))) | exact known15 _))); simp only [Act.put, List.setIfInBounds_toArray, List.set_cons_zero, List.set_cons_succ]))
                    refine text_nil (HF.out _ (fun mx dx => ?_))
                    clear HF F
                    go_wp2
                    go_returns
                    rw [World.ext_ext]
                    exact Pure.of rfl (Below.ext_mk hbW hbW.size _ _)
end Go.Proofs.Ytboekafmplomhaa
