/-
  Package graph: the closure of Next, Next.
-/
import Derived.Test.YtidnhnfmbebeaaaZGrB
import Derived.Laws.MakeOwn
import Derived.Test.YtidnhnfmbebeaaaZStage
import Derived.Test.YtidnhnfmbebeaaaZRfA
import Derived.Test.YtidnhnfmbebeaaaZGrJ
set_option linter.unusedVariables false
set_option linter.unusedSimpArgs false
namespace Go.Proofs.Ytidnhnfmbebeaaa
open Go.RowKit Go.Gr

/-- One more name. -/
def addN (sts : List StP) (l : List Nat) (nm : ByteArray) : List Nat :=
  if (stateV sts nm).2 = true ∧ 0 ≤ (stateV sts nm).1 ∧ (stateV sts nm).1.toNat ∉ l then l ++ [(stateV sts nm).1.toNat] else l
def nextN (sts : List StP) (i : Nat) : List Nat :=
  match sts[i]? with
  | none => []
  | some s => (s.dest :: s.cases).foldl (addN sts) []
def nextV (sts : List StP) (i : Int) : List Nat := if 0 ≤ i ∧ i < (sts.length : Int) then nextN sts i.toNat else []
theorem stateV_lt (sts : List StP) (nm : ByteArray) (h : (stateV sts nm).2 = true) (h0 : 0 ≤ (stateV sts nm).1) : (stateV sts nm).1.toNat < sts.length := by
  unfold stateV at *
  by_cases ha : nm.toList = accL
  · rw [if_pos ha] at h0; simp at h0
  · rw [if_neg ha] at h h0 ⊢
    by_cases hr : nm.toList = rejL
    · rw [if_pos hr] at h0; simp at h0
    · rw [if_neg hr] at h h0 ⊢
      simp only [decide_eq_true_eq] at h ⊢
      rcases findN_le sts nm 0 with e | ⟨j, hj, e⟩
      · rw [e] at h; simp at h
      · rw [e]; omega
/-- A list of states: no twins, all below n. -/
def Few (n : Nat) (l : List Nat) : Prop := l.Nodup ∧ ∀ x ∈ l, x < n
theorem Few.len {n : Nat} {l : List Nat} (h : Few n l) : l.length ≤ n := nodup_len n l h.1 h.2
theorem Few.nil (n : Nat) : Few n [] := ⟨by simp, fun x h => by simp at h⟩
theorem Few.add {sts : List StP} {l : List Nat} (h : Few sts.length l) (nm : ByteArray) : Few sts.length (addN sts l nm) := by
  unfold addN
  by_cases hc : (stateV sts nm).2 = true ∧ 0 ≤ (stateV sts nm).1 ∧ (stateV sts nm).1.toNat ∉ l
  · rw [if_pos hc]
    have hlt := stateV_lt sts nm hc.1 hc.2.1
    generalize (stateV sts nm).1.toNat = k at *
    refine ⟨?_, fun x hx => ?_⟩
    · rw [List.nodup_append]
      refine ⟨h.1, by simp, fun a ha b hb => ?_⟩
      simp at hb; subst hb; exact fun e => hc.2.2 (e ▸ ha)
    · rcases List.mem_append.1 hx with hx | hx
      · exact h.2 x hx
      · simp at hx; omega
  · rw [if_neg hc]; exact h
theorem Few.fold {sts : List StP} : ∀ (ns : List ByteArray) {l : List Nat}, Few sts.length l → Few sts.length (ns.foldl (addN sts) l)
  | [], l, h => h
  | n :: r, l, h => Few.fold r (h.add n)
theorem nextN_few (sts : List StP) (i : Nat) : Few sts.length (nextN sts i) := by
  unfold nextN
  split
  · exact Few.nil _
  · exact Few.fold _ (Few.nil _)
theorem nextV_few (sts : List StP) (i : Int) : Few sts.length (nextV sts i) := by
  unfold nextV
  split
  · exact nextN_few _ _
  · exact Few.nil _

/-- Between two names. -/
structure NxSt (w0 : World) (p : PgS) (sts : List StP) (pb lb : Nat) (l : List Nat) (w : World) : Prop where
  bel : Below w0.heap.size w0 w
  pge : w0.heap.size ≤ pb
  lge : w0.heap.size ≤ lb
  ne : pb ≠ lb
  pblk : Blk w pb 30 p.cs
  row : ∃ sv G, Blk w lb 33 [sv] ∧ RowIs w sv G 3 1 l.length (nats l) ∧ ∀ g, G = some g → w0.heap.size ≤ g ∧ g ≠ pb ∧ g ≠ lb
  few : Few sts.length l
theorem NxSt.more {w0 w w' : World} {p : PgS} {sts : List StP} {pb lb : Nat} {l : List Nat} (h : NxSt w0 p sts pb lb l w) (hb : Below w.heap.size w w') : NxSt w0 p sts pb lb l w' := by
  obtain ⟨sv, G, h1, h2, h3⟩ := h.row
  exact ⟨h.bel.trans (hb.mono h.bel.size), h.pge, h.lge, h.ne, h.pblk.below hb, ⟨sv, G, h1.below hb, h2.keep (fun g hg => hb.block g (h2.lt g hg)), h3⟩, h.few⟩

set_option maxRecDepth 100000 in
theorem add_any {w0 w : World} {p : PgS} {sts : List StP} {pb lb : Nat} {l : List Nat} (hs : StsIs w0 p.states sts) (hn : sts.length ≤ 1000) (h : NxSt w0 p sts pb lb l w) (nm : ByteArray) :
    Calls Try.prog 18 #[.string nm, .pointer (some ⟨pb, 0, none⟩), .pointer (some ⟨lb, 0, none⟩)] w
      (fun e w' => e = .returned (.tuple #[]) ∧ NxSt w0 p sts pb lb (addN sts l nm) w' ∧ w.heap.size ≤ w'.heap.size) := by
  have S := fun w' (hb : Below w0.heap.size w0 w') => state_any (p := p) (hs.below hb) nm
  have hlen := h.few.len
  obtain ⟨sv, G, hB, hrow, hG⟩ := h.row
  have hp := h.pblk
  have p0 := hp.cell 0
  have p1 := hp.cell 1
  have p2 := hp.cell 2
  have p3 := hp.cell 3
  have p4 := hp.cell 4
  have p5 := hp.cell 5
  have p6 := hp.cell 6
  simp only [PgS.cs, List.getElem?_cons_zero, List.getElem?_cons_succ] at p0 p1 p2 p3 p4 p5 p6
  have pz := hp.lt
  have lz := hB.lt
  have l0 := hB.cell 0
  simp only [List.getElem?_cons_zero] at l0
  have hbel := h.bel
  have H := hid h
  clear h hp
  unfold addN
  cases hr : (stateV sts nm).2 with
  | false =>
    rw [hr] at S
    rw [if_neg (by simp)]
    generalize (stateV sts nm).1 = i at *
    go_enter Try.func18, Try.ntmps18
    go_wp2_with ((with_reducible refine (S _ (by (repeat' (first | (with_reducible exact hbel) | (with_reducible exact Below.refl _ _) | (with_reducible refine Below.ext_mk ?_ ?_ _ _) | (with_reducible refine Below.alloc ?_ ?_ _) | (with_reducible refine Below.drew ?_) | (with_reducible refine Below.setCell ?_ ?_ _) | go_size)))).mono ?_); rintro e w1 ⟨rfl, mz, dz, rfl⟩)
    go_returns
    exact ⟨rfl, H.out.more (by (repeat' (first | (with_reducible exact Below.refl _ _) | (with_reducible refine Below.ext_mk ?_ ?_ _ _) | (with_reducible refine Below.alloc ?_ ?_ _) | (with_reducible refine Below.drew ?_) | (with_reducible refine Below.setCell ?_ ?_ _) | go_size))), by simp⟩
  | true =>
    rw [hr] at S
    by_cases h0 : 0 ≤ (stateV sts nm).1
    · have hlt := stateV_lt sts nm hr h0
      clear hr
      generalize (stateV sts nm).1 = i at *
      obtain ⟨k, rfl⟩ : ∃ k : Nat, i = (k : Int) := ⟨i.toNat, by omega⟩
      simp only [Int.toNat_natCast] at hlt ⊢
      obtain ⟨s, hsv, hsn, hrd⟩ := RowIs.rdS hrow
      subst hsv
      by_cases hk : k ∈ l
      · rw [if_neg (by simp [hk])]
        have C := fun w' hb => contains_any (hrd.below (w' := w') hb) k
        rw [decide_eq_true hk] at C
        clear hk
        go_enter Try.func18, Try.ntmps18
        go_wp2_with (first
          | ((with_reducible refine (S _ (by (repeat' (first | (with_reducible exact hbel) | (with_reducible exact Below.refl _ _) | (with_reducible refine Below.ext_mk ?_ ?_ _ _) | (with_reducible refine Below.alloc ?_ ?_ _) | (with_reducible refine Below.drew ?_) | (with_reducible refine Below.setCell ?_ ?_ _) | go_size)))).mono ?_); rintro e w1 ⟨rfl, mz, dz, rfl⟩)
          | ((with_reducible refine (C _ (by (repeat' (first | (with_reducible exact Below.refl _ _) | (with_reducible refine Below.ext_mk ?_ ?_ _ _) | (with_reducible refine Below.alloc ?_ ?_ _) | (with_reducible refine Below.drew ?_) | (with_reducible refine Below.setCell ?_ ?_ _) | go_size)))).mono ?_); rintro e w1 ⟨rfl, mz, dz, rfl⟩))
        go_returns
        exact ⟨rfl, H.out.more (by (repeat' (first | (with_reducible exact Below.refl _ _) | (with_reducible refine Below.ext_mk ?_ ?_ _ _) | (with_reducible refine Below.alloc ?_ ?_ _) | (with_reducible refine Below.drew ?_) | (with_reducible refine Below.setCell ?_ ?_ _) | go_size))), by simp⟩
      · rw [if_pos (by exact ⟨by simp, h0, hk⟩)]
        have C := fun w' hb => contains_any (hrd.below (w' := w') hb) k
        rw [decide_eq_false hk] at C
        have HK := hid hk
        clear hk
        go_enter Try.func18, Try.ntmps18
        go_upto_region 2 with (first
          | ((with_reducible refine (S _ (by (repeat' (first | (with_reducible exact hbel) | (with_reducible exact Below.refl _ _) | (with_reducible refine Below.ext_mk ?_ ?_ _ _) | (with_reducible refine Below.alloc ?_ ?_ _) | (with_reducible refine Below.drew ?_) | (with_reducible refine Below.setCell ?_ ?_ _) | go_size)))).mono ?_); rintro e w1 ⟨rfl, mz, dz, rfl⟩)
          | ((with_reducible refine (C _ (by (repeat' (first | (with_reducible exact Below.refl _ _) | (with_reducible refine Below.ext_mk ?_ ?_ _ _) | (with_reducible refine Below.alloc ?_ ?_ _) | (with_reducible refine Below.drew ?_) | (with_reducible refine Below.setCell ?_ ?_ _) | go_size)))).mono ?_); rintro e w1 ⟨rfl, mz, dz, rfl⟩))
        refine wp_gen (fun X hX => ?_)
        have hbX : Below w.heap.size w X := by rw [hX]; (repeat' (first | (with_reducible exact Below.refl _ _) | (with_reducible refine Below.ext_mk ?_ ?_ _ _) | (with_reducible refine Below.alloc ?_ ?_ _) | (with_reducible refine Below.drew ?_) | (with_reducible refine Below.setCell ?_ ?_ _) | go_size))
        clear hX
        have HX := H.out.more hbX
        have lX := hB.below hbX
        have rX := hrow.keep (fun g hg => hbX.block g (hrow.lt g hg))
        obtain ⟨v', w1, G', r1, r2, r3, r4, ro, rt, rp, rz⟩ := grow_nat rX (by omega) k
        have bl1 := lX.keep (r4 lb (lX.lt) (fun e => by have := (hG lb e).2.2; exact this rfl))
        have cl1 := bl1.cell 0
        have fl1 := bl1.free 0
        have zl1 := bl1.lt
        simp only [List.getElem?_cons_zero] at cl1
        have cX := lX.cell 0
        simp only [List.getElem?_cons_zero] at cX
        have zX := lX.lt
        obtain ⟨a', c', rfl, -⟩ := r2.form
        have hfin : NxSt w0 p sts pb lb (l ++ [k]) (w1.setCell ⟨lb, 0, none⟩ (.slice a' (l ++ [k]).length c')) ∧ w.heap.size ≤ (w1.setCell ⟨lb, 0, none⟩ (.slice a' (l ++ [k]).length c')).heap.size := by
          have hge := H.out.pge
          have hle := H.out.lge
          have hs1 := hbel.size
          have hs2 := hbX.size
          have q1 : ∀ k', k' < X.heap.size → k' ≠ lb → G ≠ some k' → (w1.setCell ⟨lb, 0, none⟩ (.slice a' (l ++ [k]).length c')).heap[k']? = X.heap[k']? := fun k' e1 e2 e3 =>
            (Below.heap_setCell _ _ _ _ e2).trans (r4 k' e1 e3)
          have hG' : w0.heap.size ≤ G' ∧ G' ≠ pb ∧ G' ≠ lb := by
            rcases r3 with e | ⟨e, _⟩
            · exact hG G' e
            · have hpz := HX.pblk.lt
              exact ⟨by omega, by omega, by omega⟩
          refine ⟨⟨?_, hge, hle, H.out.ne, HX.pblk.keep (q1 pb HX.pblk.lt H.out.ne (fun e => (hG pb e).2.1 rfl)), ⟨_, some G', bl1.set_ 0 _, r2.keep (fun g hg => by cases hg; exact Below.heap_setCell _ _ _ _ hG'.2.2), fun g hg => by cases hg; exact hG'⟩, ?_⟩, by simp; omega⟩
          · refine HX.bel.trans ⟨ro, rt, rp, by simp; omega, fun k' hk' => q1 k' (by omega) (by omega) (fun e => by have := (hG k' e).1; omega)⟩
          · refine ⟨?_, fun x hx => ?_⟩
            · rw [List.nodup_append]
              refine ⟨H.out.few.1, by simp, fun a ha b hb => ?_⟩
              simp at hb; subst hb; exact fun e => HK.out (e ▸ ha)
            · rcases List.mem_append.1 hx with hx | hx
              · exact H.out.few.2 x hx
              · simp at hx; omega
        have HF0 := hid hfin
        have R1 := hid r1
        clear hfin r1 r2 r3 r4 bl1 lX rX HX hG hrow hrd H hs S C
        refine wp_region_doc (fun F' hF => ?_)
        have HF := hid hF
        clear hF
        iterate 3 (refine doc_val rfl (by first | (go_simp; done) | (go_simp; exact ⟨rfl, rfl⟩) | (go_simp; with_reducible rfl)) ?_; simp only [Act.put, List.setIfInBounds_toArray, List.set_cons_zero, List.set_cons_succ])
        refine doc_val rfl (run_append_op _ _ _ _ _ _ _ _ _ R1.out) ?_
        simp only [Act.put, List.setIfInBounds_toArray, List.set_cons_zero, List.set_cons_succ]
        refine doc_skip rfl (by first | (go_simp; done) | (go_simp; exact ⟨rfl, rfl⟩) | (go_simp; with_reducible rfl)) ?_
        simp only [Act.put, List.setIfInBounds_toArray, List.set_cons_zero, List.set_cons_succ]
        refine doc_end (HF.out _ _ ?_)
        clear HF F'
        go_wp2_with fail
        go_returns
        have q := HF0.out
        rw [List.length_append] at q
        exact ⟨rfl, q⟩
    · have h0' : (decide (0 ≤ (stateV sts nm).1)) = false := by simpa using h0
      rw [if_neg (fun e => h0 e.2.1)]
      have H0 := hid h0
      clear hr
      generalize (stateV sts nm).1 = i at *
      have h1 : ¬ 0 ≤ i := H0.out
      have h2 : i < 0 := by omega
      clear h0 h1
      go_enter Try.func18, Try.ntmps18
      go_wp2_with ((with_reducible refine (S _ (by (repeat' (first | (with_reducible exact hbel) | (with_reducible exact Below.refl _ _) | (with_reducible refine Below.ext_mk ?_ ?_ _ _) | (with_reducible refine Below.alloc ?_ ?_ _) | (with_reducible refine Below.drew ?_) | (with_reducible refine Below.setCell ?_ ?_ _) | go_size)))).mono ?_); rintro e w1 ⟨rfl, mz, dz, rfl⟩)
      go_returns
      exact ⟨rfl, H.out.more (by (repeat' (first | (with_reducible exact Below.refl _ _) | (with_reducible refine Below.ext_mk ?_ ?_ _ _) | (with_reducible refine Below.alloc ?_ ?_ _) | (with_reducible refine Below.drew ?_) | (with_reducible refine Below.setCell ?_ ?_ _) | go_size))), by simp⟩
end Go.Proofs.Ytidnhnfmbebeaaa
set_option linter.unusedVariables false
set_option linter.unusedSimpArgs false
namespace Go.Proofs.Ytidnhnfmbebeaaa
open Go.RowKit Go.Gr

/-- A list of one's own, in new memory. -/
def NewL (w : World) (l : List Nat) (e : Ending) (w' : World) : Prop :=
  ∃ sv G, e = .returned sv ∧ RowIs w' sv G 3 1 l.length (nats l) ∧ (∀ g, G = some g → w.heap.size ≤ g) ∧ Below w.heap.size w w'

theorem nextV_out {sts : List StP} {i : Int} (h : ¬ (0 ≤ i ∧ i < (sts.length : Int))) : nextV sts i = [] := by unfold nextV; rw [if_neg h]
theorem row_nil (w : World) : RowIs w (.slice none 0 0) none 3 1 ([] : List Nat).length (nats []) := ⟨rfl, .inl ⟨rfl, rfl, rfl⟩⟩

set_option maxRecDepth 100000 in
theorem next_out {w : World} {p : PgS} {sts : List StP} (hs : StsIs w p.states sts) (i : Int) (ho : ¬ (0 ≤ i ∧ i < (sts.length : Int))) :
    Calls Try.prog 9 #[p.v, .int .i64 i] w (NewL w []) := by
  have hlen := hs.len.1
  clear hs
  by_cases h0 : i < 0
  · clear ho
    go_enter Try.func9, Try.ntmps9
    go_upto_region 1 with (fail)
    refine wp_gen (fun V hV => ?_)
    have hbV : Below w.heap.size w V := by rw [hV]; (repeat' (first | (with_reducible exact Below.refl _ _) | (with_reducible refine Below.ext_mk ?_ ?_ _ _) | (with_reducible refine Below.alloc ?_ ?_ _) | (with_reducible refine Below.drew ?_) | (with_reducible refine Below.setCell ?_ ?_ _) | go_size))
    have bp : Blk V w.heap.size 30 p.cs := by
      rw [hV]
      exact (Blk.new w 30 p.cs).below (by (repeat' (first | (with_reducible exact Below.refl _ _) | (with_reducible refine Below.ext_mk ?_ ?_ _ _) | (with_reducible refine Below.alloc ?_ ?_ _) | (with_reducible refine Below.drew ?_) | (with_reducible refine Below.setCell ?_ ?_ _) | go_size)))
    have bl : Blk V (w.heap.size + 1) 33 [.slice none 0 0] := by
      rw [hV]
      have h := Blk.new (w.alloc (.cells p.cs.toArray 30)) 33 [.slice none 0 0]
      rw [World.size_alloc] at h
      exact h
    clear hV
    have p2 := bp.cell 2
    have l0 := bl.cell 0
    have lf := bl.free 0
    simp only [PgS.cs, List.getElem?_cons_zero, List.getElem?_cons_succ] at p2 l0
    have pz := bp.lt
    have lz := bl.lt
    have lge : w.heap.size ≤ w.heap.size + 1 := by omega
    have lne : w.heap.size ≠ w.heap.size + 1 := by omega
    generalize w.heap.size + 1 = lb at *
    refine wp_region_seq (fun F hF => ?_)
    have HF := hid hF; clear hF
    repeat (first
      | (apply text_skip; (focus rfl); simp only [Act.put, List.setIfInBounds_toArray, List.set_cons_zero, List.set_cons_succ])
      | (apply text_val; (focus rfl); (focus (intro _ _; go_simp; with_reducible rfl)); simp only [Act.put, List.setIfInBounds_toArray, List.set_cons_zero, List.set_cons_succ])
      | (apply text_if; (focus (first | exact wanted_t rfl rfl | exact wanted_f rfl rfl | exact wanted_gt rfl rfl | exact wanted_gf rfl rfl)); (focus (intro hc _ _; (try simp only [Bool.and_eq_true, Bool.not_eq_true', Bool.true_and] at hc); go_simp; with_reducible rfl)); simp only [Act.put, List.setIfInBounds_toArray, List.set_cons_zero, List.set_cons_succ]))
    refine text_nil (HF.out _ (fun mx dx => ?_))
    clear HF F
    go_upto_region 2 with (fail)
    refine wp_gen (fun Y hY => ?_)
    have hbY : Below w.heap.size w Y := by rw [hY]; exact Below.ext_mk hbV hbV.size _ _
    have bpY := bp.ext mx dx
    have blY := bl.ext mx dx
    rw [← hY] at bpY blY
    clear hY bp bl p2 l0 lf pz lz hbV
    have p2 := bpY.cell 2
    have l0 := blY.cell 0
    have lf := blY.free 0
    simp only [PgS.cs, List.getElem?_cons_zero, List.getElem?_cons_succ] at p2 l0
    have pz := bpY.lt
    have lz := blY.lt
    have cz : ∀ v, (Y.setCell ⟨lb, 0, none⟩ v).cell? ⟨lb, 0, none⟩ = some v := fun v => (blY.set_ 0 v).cell 0
    go_wp2_with fail
    (try simp only [Exit.inBlock, Exit.then])
    refine bodyPost_ret (v := .slice none 0 0) (by simp [results, Try.results9, go_sem, cz]) rfl ?_
    exact ⟨_, none, rfl, row_nil _, fun g hg => by (cases hg), by (repeat' (first | (with_reducible exact hbY) | (with_reducible exact Below.refl _ _) | (with_reducible refine Below.ext_mk ?_ ?_ _ _) | (with_reducible refine Below.alloc ?_ ?_ _) | (with_reducible refine Below.drew ?_) | (with_reducible refine Below.setCell ?_ ?_ _) | go_size))⟩
  · have h1 : (sts.length : Int) ≤ i := by omega
    have h2 : 0 ≤ i := by omega
    have h3 : ((p.states.n : Nat) : Int) ≤ i := by rw [hlen]; exact h1
    clear ho
    go_enter Try.func9, Try.ntmps9
    go_upto_region 1 with (fail)
    refine wp_gen (fun V hV => ?_)
    have hbV : Below w.heap.size w V := by rw [hV]; (repeat' (first | (with_reducible exact Below.refl _ _) | (with_reducible refine Below.ext_mk ?_ ?_ _ _) | (with_reducible refine Below.alloc ?_ ?_ _) | (with_reducible refine Below.drew ?_) | (with_reducible refine Below.setCell ?_ ?_ _) | go_size))
    have bp : Blk V w.heap.size 30 p.cs := by
      rw [hV]
      exact (Blk.new w 30 p.cs).below (by (repeat' (first | (with_reducible exact Below.refl _ _) | (with_reducible refine Below.ext_mk ?_ ?_ _ _) | (with_reducible refine Below.alloc ?_ ?_ _) | (with_reducible refine Below.drew ?_) | (with_reducible refine Below.setCell ?_ ?_ _) | go_size)))
    have bl : Blk V (w.heap.size + 1) 33 [.slice none 0 0] := by
      rw [hV]
      have h := Blk.new (w.alloc (.cells p.cs.toArray 30)) 33 [.slice none 0 0]
      rw [World.size_alloc] at h
      exact h
    clear hV
    have p2 := bp.cell 2
    have l0 := bl.cell 0
    have lf := bl.free 0
    simp only [PgS.cs, List.getElem?_cons_zero, List.getElem?_cons_succ] at p2 l0
    have pz := bp.lt
    have lz := bl.lt
    have lge : w.heap.size ≤ w.heap.size + 1 := by omega
    have lne : w.heap.size ≠ w.heap.size + 1 := by omega
    generalize w.heap.size + 1 = lb at *
    refine wp_region_seq (fun F hF => ?_)
    have HF := hid hF; clear hF
    repeat (first
      | (apply text_skip; (focus rfl); simp only [Act.put, List.setIfInBounds_toArray, List.set_cons_zero, List.set_cons_succ])
      | (apply text_val; (focus rfl); (focus (intro _ _; go_simp; with_reducible rfl)); simp only [Act.put, List.setIfInBounds_toArray, List.set_cons_zero, List.set_cons_succ])
      | (apply text_if; (focus (first | exact wanted_t rfl rfl | exact wanted_f rfl rfl | exact wanted_gt rfl rfl | exact wanted_gf rfl rfl)); (focus (intro hc _ _; (try simp only [Bool.and_eq_true, Bool.not_eq_true', Bool.true_and] at hc); go_simp; with_reducible rfl)); simp only [Act.put, List.setIfInBounds_toArray, List.set_cons_zero, List.set_cons_succ]))
    refine text_nil (HF.out _ (fun mx dx => ?_))
    clear HF F
    go_upto_region 2 with (fail)
    refine wp_gen (fun Y hY => ?_)
    have hbY : Below w.heap.size w Y := by rw [hY]; exact Below.ext_mk hbV hbV.size _ _
    have bpY := bp.ext mx dx
    have blY := bl.ext mx dx
    rw [← hY] at bpY blY
    clear hY bp bl p2 l0 lf pz lz hbV
    have p2 := bpY.cell 2
    have l0 := blY.cell 0
    have lf := blY.free 0
    simp only [PgS.cs, List.getElem?_cons_zero, List.getElem?_cons_succ] at p2 l0
    have pz := bpY.lt
    have lz := blY.lt
    have cz : ∀ v, (Y.setCell ⟨lb, 0, none⟩ v).cell? ⟨lb, 0, none⟩ = some v := fun v => (blY.set_ 0 v).cell 0
    go_wp2_with fail
    (try simp only [Exit.inBlock, Exit.then])
    refine bodyPost_ret (v := .slice none 0 0) (by simp [results, Try.results9, go_sem, cz]) rfl ?_
    exact ⟨_, none, rfl, row_nil _, fun g hg => by (cases hg), by (repeat' (first | (with_reducible exact hbY) | (with_reducible exact Below.refl _ _) | (with_reducible refine Below.ext_mk ?_ ?_ _ _) | (with_reducible refine Below.alloc ?_ ?_ _) | (with_reducible refine Below.drew ?_) | (with_reducible refine Below.setCell ?_ ?_ _) | go_size))⟩

/-- Cells of an element of a slice that is read. -/
theorem RdS.cells {w : World} {size : Nat} {s : SL} {xs : List Value} (h : RdS w size s xs) {i : Nat} (hi : i < s.n) :
    ∃ b off, s.a = some ⟨b, off, none⟩ ∧ b < w.heap.size ∧ ∀ j v, xs[i * size + j]? = some v → w.cell? ⟨b, off + i * size + j, none⟩ = some v := by
  obtain ⟨b, off, e1, e2, e3⟩ := h.2.2.2 (by omega)
  exact ⟨b, off, e1, e2, fun j v hv => by rw [Nat.add_assoc]; exact e3 _ _ hv⟩

set_option maxRecDepth 100000 in
theorem next_in {w : World} {p : PgS} {sts : List StP} (hs : StsIs w p.states sts) (hn : sts.length ≤ 1000) {j : Nat} {x : StP} (hx : sts[j]? = some x) :
    Calls Try.prog 9 #[p.v, .int .i64 (j : Int)] w (NewL w (nextN sts j)) := by
  obtain ⟨hl, hc, hm⟩ := hs.len
  have hj : j < sts.length := (List.getElem?_eq_some_iff.1 hx).1
  have hj1 : (j : Int) < (sts.length : Int) := by omega
  have hj0 : (0 : Int) ≤ (j : Int) := by omega
  have e0 : nextN sts j = x.cases.foldl (addN sts) (addN sts [] x.dest) := by unfold nextN; rw [hx]; rfl
  rw [e0]
  have A := fun (w' : World) (pb lb : Nat) (l : List Nat) (nm : ByteArray) (h : NxSt w p sts pb lb l w') => add_any hs hn h nm
  obtain ⟨b, off, c, ha, zb, hok, hcell⟩ := hs.at hx
  obtain ⟨s0, s1, ⟨sa, sn, sc⟩, s3, s4, s5, s6⟩ := p
  simp only at ha hl hc hm
  subst ha hl
  obtain ⟨tk, ks, ⟨ca, cn, cc⟩, ys⟩ := c
  obtain ⟨O1, O2, O3⟩ := hok
  simp only at O1 O2 O3
  subst O2
  have HX := hid hx
  clear hx e0
  have D0 := hid hcell
  have OK := hid (And.intro O1 O3)
  clear hcell O1 O3 hs
  generalize hp : (PgS.mk s0 s1 ⟨some ⟨b, off, none⟩, sts.length, sc⟩ s3 s4 s5 s6) = p at *
  have q2' : p.states = ⟨some ⟨b, off, none⟩, sts.length, sc⟩ := by rw [← hp]
  have q2 := hid q2'
  clear hp q2'
  go_enter Try.func9, Try.ntmps9
  go_upto_region 1 with (fail)
  refine wp_gen (fun V hV => ?_)
  have hbV : Below w.heap.size w V := by rw [hV]; (repeat' (first | (with_reducible exact Below.refl _ _) | (with_reducible refine Below.ext_mk ?_ ?_ _ _) | (with_reducible refine Below.alloc ?_ ?_ _) | (with_reducible refine Below.drew ?_) | (with_reducible refine Below.setCell ?_ ?_ _) | go_size))
  have bp : Blk V w.heap.size 30 p.cs := by
    rw [hV]
    exact (Blk.new w 30 p.cs).below (by (repeat' (first | (with_reducible exact Below.refl _ _) | (with_reducible refine Below.ext_mk ?_ ?_ _ _) | (with_reducible refine Below.alloc ?_ ?_ _) | (with_reducible refine Below.drew ?_) | (with_reducible refine Below.setCell ?_ ?_ _) | go_size)))
  have bl : Blk V (w.heap.size + 1) 33 [.slice none 0 0] := by
    rw [hV]
    have h := Blk.new (w.alloc (.cells p.cs.toArray 30)) 33 [.slice none 0 0]
    rw [World.size_alloc] at h
    exact h
  clear hV
  have p2 := bp.cell 2
  have l0 := bl.cell 0
  have lf := bl.free 0
  simp only [PgS.cs, List.getElem?_cons_zero, List.getElem?_cons_succ] at p2 l0
  have pz := bp.lt
  have lz := bl.lt
  have lge : w.heap.size ≤ w.heap.size + 1 := by omega
  have lne : w.heap.size ≠ w.heap.size + 1 := by omega
  generalize w.heap.size + 1 = lb at *
  rw [q2.out] at p2
  simp only [SL.v_mk] at p2
  refine wp_region_seq (fun F hF => ?_)
  have HF := hid hF; clear hF
  repeat (first
    | (apply text_skip; (focus rfl); simp only [Act.put, List.setIfInBounds_toArray, List.set_cons_zero, List.set_cons_succ])
    | (apply text_val; (focus rfl); (focus (intro _ _; go_simp; with_reducible rfl)); simp only [Act.put, List.setIfInBounds_toArray, List.set_cons_zero, List.set_cons_succ])
    | (apply text_if; (focus (first | exact wanted_t rfl rfl | exact wanted_f rfl rfl | exact wanted_gt rfl rfl | exact wanted_gf rfl rfl)); (focus (intro hc _ _; (try simp only [Bool.and_eq_true, Bool.not_eq_true', Bool.true_and] at hc); go_simp; with_reducible rfl)); simp only [Act.put, List.setIfInBounds_toArray, List.set_cons_zero, List.set_cons_succ]))
  refine text_nil (HF.out _ (fun mx dx => ?_))
  clear HF F
  go_upto_region 3 with (fail)
  refine wp_gen (fun Y hY => ?_)
  have hbY : Below w.heap.size w Y := by rw [hY]; exact Below.ext_mk hbV hbV.size _ _
  have bpY := bp.ext mx dx
  have blY := bl.ext mx dx
  rw [← hY] at bpY blY
  clear hY bp bl p2 l0 lf pz lz hbV
  have p2 := bpY.cell 2
  have l0 := blY.cell 0
  have lf := blY.free 0
  simp only [PgS.cs, List.getElem?_cons_zero, List.getElem?_cons_succ] at p2 l0
  have pz := bpY.lt
  have lz := blY.lt
  have cz : ∀ v, (Y.setCell ⟨lb, 0, none⟩ v).cell? ⟨lb, 0, none⟩ = some v := fun v => (blY.set_ 0 v).cell 0
  rw [q2.out] at p2
  simp only [SL.v_mk] at p2
  have N0 : NxSt w p sts w.heap.size lb [] Y := ⟨hbY, Nat.le_refl _, lge, lne, bpY, ⟨_, none, blY, row_nil _, fun g hg => by (cases hg)⟩, Few.nil _⟩
  have d2 := (hbY.cell (p := ⟨b, off + j * 5 + 2, none⟩) zb).trans (D0.out 2 _ rfl)
  have zbY : b < Y.heap.size := Nat.lt_of_lt_of_le zb hbY.size
  go_upto_region 4 with (fail)
  have A0 := A _ _ _ _ x.dest N0
  clear N0 bpY blY l0 lf cz
  go_upto_region 5 with ((with_reducible refine A0.mono ?_); rintro e w1 ⟨rfl, N1, z1⟩)
  clear A0 p2 d2 zbY hbY pz lz
  have hb1 := N1.bel
  have p2 := N1.pblk.cell 2
  simp only [PgS.cs, List.getElem?_cons_zero, List.getElem?_cons_succ] at p2
  rw [q2.out] at p2
  simp only [SL.v_mk] at p2
  have d4 := (hb1.cell (p := ⟨b, off + j * 5 + 4, none⟩) zb).trans (D0.out 4 _ rfl)
  simp only [SL.v_mk] at d4
  have zb1 : b < w1.heap.size := Nat.lt_of_lt_of_le zb hb1.size
  have pz := N1.pblk.lt
  have hcm := OK.out.1.2.1
  simp only at hcm
  generalize hl1 : addN sts [] x.dest = l1 at *
  clear hl1
  have HN1 := hid N1
  clear N1
  go_wp2_with fail
  clear p2 d4 zb1 pz
  go_loopw [33] (fun i wr => ∃ k : Nat, k ≤ x.cases.length ∧ i = .int .i64 k ∧ NxSt w p sts w.heap.size lb ((x.cases.take k).foldl (addN sts) l1) wr) (fun i _ => x.cases.length - (intOf i).toNat)
  case atStart => exact ⟨0, by omega, rfl, by simpa using HN1.out⟩
  case round =>
    obtain ⟨k, hk, rfl, N⟩ := hrel
    have hb := N.bel
    by_cases hlt : k < x.cases.length
    · have hk1 : (k : Int) < (x.cases.length : Int) := by omega
      obtain ⟨t, ht⟩ : ∃ t, x.cases[k]? = some t := ⟨x.cases[k], List.getElem?_eq_getElem hlt⟩
      obtain ⟨bo, y, y0, y1, y2⟩ := OK.out.2 k t ht
      obtain ⟨b2, off2, ha2, zb2, hc2⟩ := RdS.cells (OK.out.1.below hb) (i := k) hlt
      simp only at ha2
      subst ha2
      have e0 := hc2 0 _ y0
      have e1 := hc2 1 _ y1
      have e2 := hc2 2 _ y2
      simp only [Nat.add_zero] at e0
      have HT := hid ht
      have HN := hid N
      clear hc2 y0 y1 y2 ht N
      go_upto_region 8 with (fail)
      refine wp_gen (fun X hX => ?_)
      have hbX : Below wr.heap.size wr X := by rw [hX]; ((repeat' (first | (with_reducible exact Below.refl _ _) | (with_reducible refine Below.ext_mk ?_ ?_ _ _) | (with_reducible refine Below.alloc ?_ ?_ _) | (with_reducible refine Below.drew ?_) | (with_reducible refine Below.setCell ?_ ?_ _) | go_size)))
      have zX0 : wr.heap.size < X.heap.size := by rw [hX]; first | (simp; done) | (simp; omega)
      have cX0_0 : X.cell? ⟨wr.heap.size, 0, none⟩ = some (.bool bo) := by rw [hX]; first | (go_simp; done) | (rw [World.cell?_alloc_past _ _ _ (by first | (simp; done) | (simp; omega))]; go_simp)
      have cX0_1 : X.cell? ⟨wr.heap.size, 1, none⟩ = some (y.v) := by rw [hX]; first | (go_simp; done) | (rw [World.cell?_alloc_past _ _ _ (by first | (simp; done) | (simp; omega))]; go_simp)
      have cX0_2 : X.cell? ⟨wr.heap.size, 2, none⟩ = some (.string t) := by rw [hX]; first | (go_simp; done) | (rw [World.cell?_alloc_past _ _ _ (by first | (simp; done) | (simp; omega))]; go_simp)
      clear hX
      have A1 := A _ _ _ _ t (HN.out.more hbX)
      go_wp2_with ((with_reducible refine A1.mono ?_); rintro e w2 ⟨rfl, N2, z2⟩)
      go_roundw
      case rel =>
        refine ⟨k + 1, hlt, by go_num, ?_⟩
        rw [List.take_add_one, HT.out, List.foldl_append]
        exact N2
      case measure => simp [intOf]; omega
    · obtain rfl : k = x.cases.length := by omega
      rw [List.take_length] at N
      obtain ⟨sv, G, hB, hrow, hG⟩ := N.row
      have l0 := hB.cell 0
      have lf := hB.free 0
      have lz := hB.lt
      simp only [List.getElem?_cons_zero] at l0
      have cz : ∀ v, (wr.setCell ⟨lb, 0, none⟩ v).cell? ⟨lb, 0, none⟩ = some v := fun v => (hB.set_ 0 v).cell 0
      have HN := hid N
      have HR := hid (And.intro hrow hG)
      clear N hrow hG
      go_upto_region 10 with (fail)
      obtain ⟨s, hsv, -⟩ := RowIs.rdS HR.out.1
      subst hsv
      go_wp2_with fail
      (try simp only [Exit.inBlock, Exit.then])
      refine bodyPost_ret (v := s.v) (by simp [results, Try.results9, go_sem, cz]) rfl ?_
      refine ⟨_, G, rfl, HR.out.1.keep (fun g hg => Below.heap_setCell _ _ _ _ (HR.out.2 g hg).2.2), fun g hg => (HR.out.2 g hg).1, HN.out.bel.setCell HN.out.lge _⟩

theorem next_any {w : World} {p : PgS} {sts : List StP} (hs : StsIs w p.states sts) (hn : sts.length ≤ 1000) (i : Int) :
    Calls Try.prog 9 #[p.v, .int .i64 i] w (NewL w (nextV sts i)) := by
  by_cases h : 0 ≤ i ∧ i < (sts.length : Int)
  · obtain ⟨j, rfl⟩ : ∃ j : Nat, i = (j : Int) := ⟨i.toNat, by omega⟩
    have hj : j < sts.length := by omega
    unfold nextV
    rw [if_pos h, Int.toNat_natCast]
    exact next_in hs hn (List.getElem?_eq_getElem hj)
  · rw [nextV_out h]
    exact next_out hs i h
end Go.Proofs.Ytidnhnfmbebeaaa
set_option linter.unusedVariables false
set_option linter.unusedSimpArgs false
namespace Go.Proofs.Ytidnhnfmbebeaaa
open Go.RowKit Go.Gr

theorem bool_info_some : (Try.prog.info? 4).isSome = true := by kernel_rfl
noncomputable abbrev infoBo : TypeInfo := (Try.prog.info? 4).get bool_info_some
theorem infoBo_is : Try.prog.info? 4 = some infoBo := (Option.some_get _).symm
theorem infoBo_zero : infoBo.zero = some (.bool false) := by kernel_rfl
theorem infoBo_size : infoBo.size = 1 := by kernel_rfl
theorem infoBo_bytes : infoBo.bytes = 1 := by kernel_rfl
theorem rows_info_some : (Try.prog.info? 33).isSome = true := by kernel_rfl
noncomputable abbrev infoRo : TypeInfo := (Try.prog.info? 33).get rows_info_some
theorem infoRo_is : Try.prog.info? 33 = some infoRo := (Option.some_get _).symm
theorem infoRo_zero : infoRo.zero = some (.slice none 0 0) := by kernel_rfl
theorem infoRo_size : infoRo.size = 1 := by kernel_rfl
theorem infoRo_bytes : infoRo.bytes = 24 := by kernel_rfl
theorem gmake_row (t e : TypeId) (i : TypeInfo) (z : Value) (ht : Try.prog.underlying t = some (.slice e)) (hi : Try.prog.info? e = some i) (hz : i.zero = some z)
    (n : Nat) (hbytes : i.bytes * n ≤ 281474976710656) (h63 : n ≤ 9223372036854775807) (w : World) :
    (Instr.makeSlice t (.int .i64 (n : Int)) (.int .i64 (n : Int))).run Try.prog w = .ok (.slice (some ⟨w.heap.size, 0, none⟩) n n) (w.alloc (.cells (madeCells z.cells (n * i.size)) e)) := by
  have hb : (i.bytes : Int) * (n : Int) ≤ 281474976710656 := by
    have h : ((i.bytes * n : Nat) : Int) ≤ 281474976710656 := by omega
    rwa [Int.natCast_mul] at h
  have hr := run_make (P := Try.prog) w t e i z ht hi hz .i64 .i64 n n (by omega) (by omega) hb (by omega)
  simp only [Int.toNat_natCast] at hr
  exact hr
/-- A row of truths that are false; of lists that are nil. -/
theorem make_bools (n : Nat) (hn : n ≤ 1000000) (w : World) :
    (Instr.makeSlice 40 (.int .i64 (n : Int)) (.int .i64 (n : Int))).run Try.prog w = .ok (.slice (some ⟨w.heap.size, 0, none⟩) n n) (w.alloc (.cells (bools (List.replicate n false)).toArray 4)) := by
  have h := gmake_row 40 4 infoBo (.bool false) Try.underlying40 infoBo_is infoBo_zero n (by rw [infoBo_bytes]; omega) (by omega) w
  rw [infoBo_size, Nat.mul_one] at h
  have e : madeCells (Value.bool false).cells n = (bools (List.replicate n false)).toArray := by
    unfold madeCells
    rw [show (Value.bool false).cells = #[Value.bool false] from rfl]
    apply Array.ext
    · simp [bools]
    · intro i h1 h2
      simp [bools, Nat.mod_one]
  rw [e] at h
  exact h
theorem make_rows (n : Nat) (hn : n ≤ 1000000) (w : World) :
    (Instr.makeSlice 48 (.int .i64 (n : Int)) (.int .i64 (n : Int))).run Try.prog w = .ok (.slice (some ⟨w.heap.size, 0, none⟩) n n) (w.alloc (.cells (List.replicate n (Value.slice none 0 0)).toArray 33)) := by
  have h := gmake_row 48 33 infoRo (.slice none 0 0) Try.underlying48 infoRo_is infoRo_zero n (by rw [infoRo_bytes]; omega) (by omega) w
  rw [infoRo_size, Nat.mul_one] at h
  have e : madeCells (Value.slice none 0 0).cells n = (List.replicate n (Value.slice none 0 0)).toArray := by
    unfold madeCells
    rw [show (Value.slice none 0 0).cells = #[Value.slice none 0 0] from rfl]
    apply Array.ext
    · simp
    · intro i h1 h2
      simp [Nat.mod_one]
  rw [e] at h
  exact h

def graphN (sts : List StP) : Gph := (List.range sts.length).map (nextN sts)
theorem graphN_len (sts : List StP) : (graphN sts).length = sts.length := by simp [graphN]
theorem nextN_out {sts : List StP} {i : Nat} (h : sts.length ≤ i) : nextN sts i = [] := by
  unfold nextN; rw [List.getElem?_eq_none h]
theorem graphN_row (sts : List StP) (i : Nat) : rowN (graphN sts) i = nextN sts i := by
  unfold rowN graphN
  rcases Nat.lt_or_ge i sts.length with h | h
  · simp [List.getD_eq_getElem?_getD, h]
  · rw [nextN_out h]
    simp [List.getD_eq_getElem?_getD, h]
theorem graphN_valid (sts : List StP) : Valid (graphN sts) := by
  intro i k hk
  rw [graphN_row] at hk
  rw [graphN_len]
  exact (nextN_few sts i).2 k hk

/-- The lists so far. -/
structure NsSt (w : World) (p : PgS) (sts : List StP) (g : Nat) (k : Nat) (wr : World) : Prop where
  bel : Below w.heap.size w wr
  pblk : Blk wr w.heap.size 30 p.cs
  rows : ∃ ss : List SL, ss.length = k ∧ Blk wr g 33 (ss.map SL.v ++ List.replicate (sts.length - k) (.slice none 0 0)) ∧
    ∀ (i : Nat) (a : SL), ss[i]? = some a → RdS wr 1 a (nats (nextN sts i)) ∧ ∀ b off, a.a = some ⟨b, off, none⟩ → b ≠ g
theorem NsSt.put {w wr w1 : World} {p : PgS} {sts : List StP} {g k : Nat} (h : NsSt w p sts g k wr) (hg : w.heap.size < g) (hk : k < sts.length) (hb : Below wr.heap.size wr w1) {s : SL} (hs : RdS w1 1 s (nats (nextN sts k))) (hne : ∀ b off, s.a = some ⟨b, off, none⟩ → b ≠ g) :
    NsSt w p sts g (k + 1) (w1.setCell ⟨g, k, none⟩ s.v) := by
  obtain ⟨ss, h1, h2, h3⟩ := h.rows
  have hz := h.bel.size
  have hgz := h2.lt
  have hkeep : ∀ q, q ≠ g → (w1.setCell ⟨g, k, none⟩ s.v).heap[q]? = w1.heap[q]? := fun q hq => Below.heap_setCell _ _ _ _ hq
  refine ⟨(h.bel.trans (hb.mono hz)).setCell (by show w.heap.size ≤ g; omega) _, (h.pblk.below hb).keep (hkeep _ (by omega)), ss ++ [s], by simp [h1], ?_, fun i a ha => ?_⟩
  · have := (h2.below hb).set_ k s.v
    refine this.cast ?_
    have e : sts.length - k = (sts.length - (k + 1)) + 1 := by omega
    rw [e, List.replicate_succ, List.set_append_right _ _ (by simp [h1])]
    simp [h1]
  · rcases Nat.lt_or_ge i ss.length with hi | hi
    · rw [List.getElem?_append_left hi] at ha
      obtain ⟨q1, q2⟩ := h3 i a ha
      exact ⟨(q1.below hb).keep (by simp) (fun b off hb' _ => hkeep b (q2 b off hb')), q2⟩
    · have hi' : i = ss.length := by
        rcases Nat.eq_or_lt_of_le hi with e | e
        · exact e.symm
        · rw [List.getElem?_eq_none (by simp; omega)] at ha; cases ha
      subst hi'
      rw [List.getElem?_append_right (Nat.le_refl _)] at ha
      simp at ha
      subst ha
      rw [h1]
      exact ⟨hs.keep (by simp) (fun b off hb' _ => hkeep b (hne b off hb')), hne⟩

set_option maxRecDepth 100000 in
theorem nexts_any {w : World} {p : PgS} {sts : List StP} (hs : StsIs w p.states sts) (hn : sts.length ≤ 1000) :
    Calls Try.prog 16 #[p.v] w (fun e w' => ∃ s : SL, e = .returned s.v ∧ NxIs w' s (graphN sts) ∧ Below w.heap.size w w') := by
  obtain ⟨hl, hc, hm⟩ := hs.len
  have A := fun (w' : World) (hb : Below w.heap.size w w') (i : Nat) => next_any (p := p) (hs.below hb) hn (i : Int)
  have HS := hid hs
  clear hs
  have mk := fun w => make_rows sts.length (by omega) w
  generalize hp : p.states = ps at *
  obtain ⟨sa, sn, sc⟩ := ps
  simp only at hl hc hm
  subst hl
  have q2 := hid hp
  clear hp
  go_enter Try.func16, Try.ntmps16
  go_upto_region 1 with (fail)
  refine wp_gen (fun V hV => ?_)
  have hbV : Below w.heap.size w V := by rw [hV]; (repeat' (first | (with_reducible exact Below.refl _ _) | (with_reducible refine Below.ext_mk ?_ ?_ _ _) | (with_reducible refine Below.alloc ?_ ?_ _) | (with_reducible refine Below.drew ?_) | (with_reducible refine Below.setCell ?_ ?_ _) | go_size))
  have bp : Blk V w.heap.size 30 p.cs := by
    rw [hV]
    exact Blk.new w 30 p.cs
  have zV : V.heap.size = w.heap.size + 1 := by rw [hV]; simp
  clear hV
  have p2 := bp.cell 2
  simp only [PgS.cs, List.getElem?_cons_zero, List.getElem?_cons_succ] at p2
  rw [q2.out] at p2
  simp only [SL.v_mk] at p2
  have pz := bp.lt
  go_upto_region 2 with (fail)
  refine wp_gen (fun U hU => ?_)
  have hbU : Below V.heap.size V U := by rw [hU]; (repeat' (first | (with_reducible exact Below.refl _ _) | (with_reducible refine Below.ext_mk ?_ ?_ _ _) | (with_reducible refine Below.alloc ?_ ?_ _) | (with_reducible refine Below.drew ?_) | (with_reducible refine Below.setCell ?_ ?_ _) | go_size))
  have bU : Blk U (w.heap.size + 1) 33 (List.replicate sts.length (Value.slice none 0 0)) := by
    rw [hU, ← zV]
    have h := Blk.new V 33 (List.replicate sts.length (Value.slice none 0 0))
    simpa using h
  have N0 : NsSt w p sts (w.heap.size + 1) 0 U :=
    ⟨hbV.trans (hbU.mono hbV.size), bp.below hbU, [], rfl, by simpa using bU, fun i a ha => by simp at ha⟩
  have hg : w.heap.size < w.heap.size + 1 := by omega
  clear hU bU hbU hbV bp p2 pz zV
  generalize w.heap.size + 1 = g at *
  have HN0 := hid N0
  clear N0
  go_wp2_with fail
  go_loopw [11] (fun i wr => ∃ k : Nat, k ≤ sts.length ∧ i = .int .i64 k ∧ NsSt w p sts g k wr) (fun i _ => sts.length - (intOf i).toNat)
  case atStart => exact ⟨0, by omega, rfl, HN0.out⟩
  case round =>
    obtain ⟨k, hk, rfl, N⟩ := hrel
    have hb := N.bel
    by_cases hlt : k < sts.length
    · have hk1 : (k : Int) < (sts.length : Int) := by omega
      have hk0 : (0 : Int) ≤ (k : Int) := by omega
      have A1 := A wr hb k
      have ev : nextV sts (k : Int) = nextN sts k := by unfold nextV; rw [if_pos ⟨hk0, hk1⟩, Int.toNat_natCast]
      rw [ev] at A1
      have bp := N.pblk
      have p0 := bp.cell 0
      have p1 := bp.cell 1
      have p2 := bp.cell 2
      have p3 := bp.cell 3
      have p4 := bp.cell 4
      have p5 := bp.cell 5
      have p6 := bp.cell 6
      simp only [PgS.cs, List.getElem?_cons_zero, List.getElem?_cons_succ] at p0 p1 p2 p3 p4 p5 p6
      have pz := bp.lt
      obtain ⟨ss, e1, e2, e3⟩ := N.rows
      have gz := e2.lt
      have gc : wr.cell? ⟨g, k, none⟩ = some (.slice none 0 0) := by
        rw [e2.cell k, List.getElem?_append_right (by simp [e1])]
        rw [List.getElem?_replicate, if_pos (by simp [e1]; omega)]
      have gf := e2.free k
      have HN := hid N
      clear N bp e1 e2 e3 ev
      go_upto_region 6 with ((with_reducible refine A1.mono ?_); rintro e w1 ⟨sv, G, rfl, hrow, hG, hb1⟩; obtain ⟨s, rfl, -, hrd⟩ := RowIs.rdS hrow; have gz1 := Nat.lt_of_lt_of_le gz hb1.size; have gc1 := (hb1.cell (p := ⟨g, k, none⟩) gz).trans gc; have gf1 := (hb1.frozen (p := ⟨g, k, none⟩) gz).trans gf)
      have hne : ∀ b off, s.a = some ⟨b, off, none⟩ → b ≠ g := by
        intro b off hsa
        have := hG b (by
          rcases hrow with ⟨_, ⟨h1, _, _⟩ | ⟨g', cap, cur, h1, h2, _⟩⟩
          · obtain ⟨a1, a2, a3⟩ := s
            simp only at hsa h1
            rw [hsa] at h1
            simp at h1
          · obtain ⟨a1, a2, a3⟩ := s
            simp only at hsa h1
            rw [hsa] at h1
            simp at h1
            rw [h2, h1.1.1])
        omega
      have N1 := HN.out.put hg hlt hb1 hrd hne
      go_wp2_with fail
      go_roundw
      case rel => exact ⟨k + 1, hlt, by go_num, N1⟩
      case measure => simp [intOf]; omega
    · obtain rfl : k = sts.length := by omega
      obtain ⟨ss, e1, e2, e3⟩ := N.rows
      rw [Nat.sub_self, List.replicate_zero, List.append_nil] at e2
      have HE := hid (And.intro e1 (And.intro e2 e3))
      clear e1 e2 e3
      have HN := hid N
      clear N
      go_wp2_with fail
      go_returns
      obtain ⟨e1, e2, e3⟩ := HE.out
      refine ⟨⟨some ⟨g, 0, none⟩, sts.length, sts.length⟩, rfl, ⟨ss, ⟨Nat.le_refl _, hm, by simp [e1], fun _ => ⟨g, 0, rfl, e2.lt, fun j u hu => by rw [Nat.zero_add, e2.cell j]; exact hu⟩⟩, by rw [graphN_len]; exact e1, fun i a l ha hl => ?_⟩, HN.out.bel⟩
      have hi : i < sts.length := by have := (List.getElem?_eq_some_iff.1 ha).1; omega
      have : l = nextN sts i := by
        unfold graphN at hl
        simp [hi] at hl
        exact hl.symm
      rw [this]
      exact (e3 i a ha).1
end Go.Proofs.Ytidnhnfmbebeaaa
set_option linter.unusedVariables false
set_option linter.unusedSimpArgs false
namespace Go.Proofs.Ytidnhnfmbebeaaa
open Go.RowKit Go.Gr

@[go_sem] theorem run_store_func {P : Program} {w : World} {a : Addr} {fn : Fn} {x y : Array Value} {m : Mode} : (store a (.func fn x y) m).run P w = stored P w a (.func fn x y) m := run_store P w a _ m rfl
/-- The walk's memory. -/
structure FrSt (w0 : World) (s : SL) (n : Nat) (nb sb gb kb : Nat) (l : List Bool) (w : World) : Prop where
  bel : Below w0.heap.size w0 w
  kge : w0.heap.size ≤ kb
  nz : nb < w.heap.size
  sz : sb < w.heap.size
  gz : gb < w.heap.size
  nc : w.cell? ⟨nb, 0, none⟩ = some s.v
  sc : w.cell? ⟨sb, 0, none⟩ = some (.slice (some ⟨kb, 0, none⟩) n n)
  gc : w.cell? ⟨gb, 0, none⟩ = some (.func (.func 29) #[] #[.pointer (some ⟨nb, 0, none⟩), .pointer (some ⟨sb, 0, none⟩), .pointer (some ⟨gb, 0, none⟩)])
  kblk : Blk w kb 4 (bools l)
  len : l.length = n
  n1 : nb ≠ kb
  n2 : sb ≠ kb
  n3 : gb ≠ kb
theorem FrSt.put {w0 w : World} {s : SL} {n nb sb gb kb : Nat} {l : List Bool} (h : FrSt w0 s n nb sb gb kb l w) (k : Nat) : FrSt w0 s n nb sb gb kb (l.set k true) (w.setCell ⟨kb, k, none⟩ (.bool true)) := by
  have hk : ∀ q, q ≠ kb → (w.setCell ⟨kb, k, none⟩ (.bool true)).heap[q]? = w.heap[q]? := fun q hq => Below.heap_setCell _ _ _ _ hq
  refine ⟨h.bel.setCell h.kge _, h.kge, by simpa using h.nz, by simpa using h.sz, by simpa using h.gz, (cell_of_heap 0 (hk _ h.n1)).trans h.nc, (cell_of_heap 0 (hk _ h.n2)).trans h.sc, (cell_of_heap 0 (hk _ h.n3)).trans h.gc, ?_, by rw [List.length_set]; exact h.len, h.n1, h.n2, h.n3⟩
  have := h.kblk.set_ k (.bool true)
  exact this.cast (by simp [bools, List.map_set])

theorem bools_getD {l : List Bool} {x : Nat} (h : x < l.length) : (bools l)[x]? = some (.bool (l.getD x false)) := by
  simp [bools, List.getD_eq_getElem?_getD, h]
set_option maxRecDepth 100000 in
theorem go1_any {w0 : World} {s : SL} {N : Gph} (hN : NxIs w0 s N) (hv : Valid N) (nb sb gb kb : Nat) : ∀ (f : Nat) (w : World) (l : List Bool) (i : Nat), FrSt w0 s N.length nb sb gb kb l w → i < N.length → fals l < f →
    Calls Try.prog 29 #[.int .i64 (i : Int), .pointer (some ⟨nb, 0, none⟩), .pointer (some ⟨sb, 0, none⟩), .pointer (some ⟨gb, 0, none⟩)] w
      (fun e w' => e = .returned (.tuple #[]) ∧ FrSt w0 s N.length nb sb gb kb (goN N f i l) w' ∧ w.heap.size ≤ w'.heap.size) := by
  intro f
  induction f with
  | zero => intro w l i _ _ h; omega
  | succ f ih =>
    intro w l i h hi hf
    have hlt := hN.len
    obtain ⟨b, off, t, ha, zb, hc, hr⟩ := hN.row hi
    have zbw : b < w.heap.size := Nat.lt_of_lt_of_le zb h.bel.size
    have hc := (h.bel.cell (p := ⟨b, off + i, none⟩) zb).trans hc
    have hrl := hr.nat
    obtain ⟨sa, sn, sc⟩ := s
    simp only at ha hlt
    obtain ⟨e1, e2, e3⟩ := hlt
    subst ha e1
    obtain ⟨ta, tn, tc⟩ := t
    simp only at hrl hc
    subst hrl
    have q1 := h.nc
    have q2 := h.nz
    simp only [SL.v_mk] at q1 hc
    have hi1 : (i : Int) < (N.length : Int) := by omega
    have hi0 : (0 : Int) ≤ (i : Int) := by omega
    rw [goN_succ]
    have hrv := hv i
    have hfold := fun L => fold_ok N hv f L l h.len hf
    have HR := hid hr
    have H := hid h
    generalize rowN N i = r at *
    have hrm := hr.2.1
    simp only at hrm
    clear hr h
    go_enter Try.func29, Try.ntmps29
    go_wp2_with fail
    go_loopw [12] (fun ix wr => ∃ k : Nat, k ≤ r.length ∧ ix = .int .i64 k ∧ FrSt w0 ⟨some ⟨b, off, none⟩, N.length, sc⟩ N.length nb sb gb kb ((r.take k).foldl (stepN N f) l) wr ∧ w.heap.size ≤ wr.heap.size) (fun ix _ => r.length - (intOf ix).toNat)
    case atStart => exact ⟨0, by omega, rfl, by simpa using H.out, by first | exact Nat.le_refl _ | simp⟩
    case round =>
      obtain ⟨k, hk, rfl, F, hzz⟩ := hrel
      by_cases hlt : k < r.length
      · have hk1 : (k : Int) < (r.length : Int) := by omega
        obtain ⟨x, hx⟩ : ∃ x, r[k]? = some x := ⟨r[k], List.getElem?_eq_getElem hlt⟩
        have hxN : x < N.length := hrv x (List.mem_of_getElem? hx)
        obtain ⟨b2, off2, hta, zb2, hc2⟩ := RdS.natAt (HR.out.below (F.bel)) hlt
        simp only at hta
        subst hta
        have hxe : r[k] = x := by rw [List.getElem?_eq_getElem hlt] at hx; simpa using hx
        rw [hxe] at hc2
        have hx1 : (x : Int) < (N.length : Int) := by omega
        have hx0 : (0 : Int) ≤ (x : Int) := by omega
        have hst : (r.take (k + 1)).foldl (stepN N f) l = stepN N f ((r.take k).foldl (stepN N f) l) x := by
          rw [List.take_add_one, hx, Option.toList_some, List.foldl_append]; rfl
        have hgo := hfold (r.take k) (fun y hy => hrv y (List.mem_of_mem_take hy))
        have HST := hid hst
        have hcnt := hgo.cnt
        clear hx hxe hst hgo
        generalize (r.take k).foldl (stepN N f) l = l' at *
        have c3 := F.sc
        have z3 := F.sz
        have kz := F.kblk.lt
        have kf := F.kblk.free x
        have hxl : x < l'.length := by rw [F.len]; exact hxN
        have kc := F.kblk.cell x
        rw [bools_getD hxl] at kc
        have HF := hid F
        clear F
        cases hs : l'.getD x false with
        | true =>
          rw [hs] at kc
          go_wp2_with fail
          go_roundw
          case rel =>
            refine ⟨k + 1, hlt, by go_num, ?_, hzz⟩
            rw [HST.out]
            unfold stepN
            rw [hs, if_pos rfl]
            exact HF.out
          case measure => simp [intOf]; omega
        | false =>
          rw [hs] at kc
          go_upto_region 5 with (fail)
          refine wp_gen (fun X hX => ?_)
          have FX : FrSt w0 ⟨some ⟨b, off, none⟩, N.length, sc⟩ N.length nb sb gb kb (l'.set x true) X := by rw [hX]; exact HF.out.put x
          have zX : wr.heap.size ≤ X.heap.size := by rw [hX]; simp
          clear hX
          have c4 := FX.gc
          have z4 := FX.gz
          have I := ih X _ x FX hxN (by have := fals_set l' x hxl hs; omega)
          clear FX
          go_wp2_with ((with_reducible refine I.mono ?_); rintro e w2 ⟨rfl, F2, z2⟩)
          go_roundw
          case rel =>
            refine ⟨k + 1, hlt, by go_num, ?_, by omega⟩
            rw [HST.out]
            unfold stepN
            rw [hs, if_neg (by simp)]
            exact F2
          case measure => simp [intOf]; omega
      · obtain rfl : k = r.length := by omega
        rw [List.take_length] at F
        have HF := hid F
        clear F
        go_wp2_with fail
        go_returns
        exact ⟨rfl, HF.out, hzz⟩

/-- What from gives back: marks, in new memory. -/
def FromP (w : World) (l : List Bool) (e : Ending) (w' : World) : Prop :=
  ∃ kb, w.heap.size ≤ kb ∧ e = .returned (.slice (some ⟨kb, 0, none⟩) l.length l.length) ∧ Blk w' kb 4 (bools l) ∧ Below w.heap.size w w'
set_option maxRecDepth 100000 in
theorem from_any {w : World} {s : SL} {N : Gph} (hN : NxIs w s N) (hv : Valid N) (hn : N.length ≤ 1000) (i : Nat) (hi : i < N.length) :
    Calls Try.prog 17 #[s.v, .int .i64 (i : Int)] w (FromP w (fromN N i)) := by
  have hmf : ∀ (fn : Fn) (first cap : Array Value) (w : World), (Instr.makeFunc fn first cap).run Try.prog w = .ok (.func fn first cap) w := fun _ _ _ _ => rfl
  obtain ⟨e1, e2, e3⟩ := hN.len
  have mk := fun w => make_bools N.length (by omega) w
  have G1 := fun (nb sb gb kb : Nat) (w' : World) h => go1_any hN hv nb sb gb kb (N.length + 1) w' (List.replicate N.length false) i h hi (by rw [fals_rep]; omega)
  obtain ⟨sa, sn, sc⟩ := s
  simp only at e1 e2 e3
  subst e1
  have HN := hid hN
  clear hN
  simp only [SL.v_mk]
  go_enter Try.func17, Try.ntmps17
  go_upto_region 2 with (fail)
  refine wp_gen (fun U hU => ?_)
  have hbU : Below w.heap.size w U := by rw [hU]; (repeat' (first | (with_reducible exact Below.refl _ _) | (with_reducible refine Below.ext_mk ?_ ?_ _ _) | (with_reducible refine Below.alloc ?_ ?_ _) | (with_reducible refine Below.drew ?_) | (with_reducible refine Below.setCell ?_ ?_ _) | go_size))
  have zU : U.heap.size = w.heap.size + 3 := by rw [hU]; simp
  have c0 : U.cell? ⟨w.heap.size, 0, none⟩ = some (.slice sa N.length sc) := by rw [hU]; go_simp
  have c2 : U.cell? ⟨w.heap.size + 1 + 1, 0, none⟩ = some (.slice (some ⟨w.heap.size + 1, 0, none⟩) N.length N.length) := by rw [hU]; go_simp
  have b1 : Blk U (w.heap.size + 1) 4 (bools (List.replicate N.length false)) := by
    rw [hU]
    have h := Blk.new (w.alloc (.cells #[Value.slice sa N.length sc] 48)) 4 (bools (List.replicate N.length false))
    rw [World.size_alloc] at h
    exact h.below (by (repeat' (first | (with_reducible exact Below.refl _ _) | (with_reducible refine Below.ext_mk ?_ ?_ _ _) | (with_reducible refine Below.alloc ?_ ?_ _) | (with_reducible refine Below.drew ?_) | (with_reducible refine Below.setCell ?_ ?_ _) | go_size)))
  have ZU := hid zU
  clear zU hU
  go_upto_region 4 with (fail)
  refine wp_gen (fun X hX => ?_)
  have hbX : Below U.heap.size U X := by rw [hX]; (repeat' (first | (with_reducible exact Below.refl _ _) | (with_reducible refine Below.ext_mk ?_ ?_ _ _) | (with_reducible refine Below.alloc ?_ ?_ _) | (with_reducible refine Below.drew ?_) | (with_reducible refine Below.setCell ?_ ?_ _) | go_size))
  have gX : X.cell? ⟨U.heap.size, 0, none⟩ = some (.func (.func 29) #[] #[.pointer (some ⟨w.heap.size, 0, none⟩), .pointer (some ⟨w.heap.size + 1 + 1, 0, none⟩), .pointer (some ⟨U.heap.size, 0, none⟩)]) := by rw [hX]; go_simp
  have zX : U.heap.size < X.heap.size := by rw [hX]; simp
  have hs := ZU.out
  have FX : FrSt w ⟨sa, N.length, sc⟩ N.length w.heap.size (w.heap.size + 1 + 1) U.heap.size (w.heap.size + 1) (List.replicate N.length false) X :=
    { bel := hbU.trans (hbX.mono hbU.size), kge := by omega, nz := by omega, sz := by omega, gz := zX
      nc := (hbX.cell (p := ⟨w.heap.size, 0, none⟩) (by show w.heap.size < U.heap.size; omega)).trans c0
      sc := (hbX.cell (p := ⟨w.heap.size + 1 + 1, 0, none⟩) (by show w.heap.size + 1 + 1 < U.heap.size; omega)).trans c2
      gc := gX, kblk := b1.below hbX, len := by simp, n1 := by omega, n2 := by omega, n3 := by omega }
  have I := G1 _ _ _ _ X FX
  have hkg : w.heap.size ≤ w.heap.size + 1 := by omega
  clear hX FX hbX b1 c0 c2 hbU HN G1 mk hs ZU
  generalize w.heap.size + 1 + 1 = sb at *
  generalize w.heap.size + 1 = kb at *
  generalize U.heap.size = gb at *
  go_upto_region 5 with ((with_reducible refine I.mono ?_); rintro e w2 ⟨rfl, F2, z2⟩)
  have c5 := F2.sc
  have z5 := F2.sz
  have hl := fromN_len N hv i
  have HF := hid F2
  clear F2 I gX zX
  go_wp2_with fail
  go_returns
  refine ⟨kb, hkg, ?_, HF.out.kblk, HF.out.bel⟩
  rw [hl]
  rfl
end Go.Proofs.Ytidnhnfmbebeaaa
set_option linter.unusedVariables false
set_option linter.unusedSimpArgs false
namespace Go.Proofs.Ytidnhnfmbebeaaa
open Go.RowKit Go.Gr

abbrev ki (n : Int) : Value := .int .i64 n
theorem gcheck_int (em : Bool) (m : Nat) (x : Int) (w : World) : (Instr.checkKey em (m + 1) 3 (.int .i64 x)).run Try.prog w = .ok () w := by
  unfold Instr.checkKey; simp [go_sem]
theorem key_int : KeyOk Try.prog 3 (.int .i64) ki where
  und := by kernel_rfl
  check em n w := gcheck_int em 9999 n w
  now a b := .inr (by unfold Instr.sameNow; simp; rfl)
  eq a b w := by
    unfold Op.equal
    rw [show Op.maxDepth = 9999 + 1 from rfl]
    simp [go_sem]
    rfl
  same a := by unfold Instr.sameBits; simp [Instr.sameBits]
theorem zero_int (w : World) : (zeroValue 3).run Try.prog w = .ok (.int .i64 0) w := by kernel_rfl
/-- Block b is a map that gives A. -/
def AM (w : World) (b : Nat) (A : Nat → Int) : Prop := ∃ K, MapIs ki w b K ∧ ∀ i : Nat, (aget K (i : Int)).getD 0 = A i
theorem AM.lt {w : World} {b : Nat} {A : Nat → Int} (h : AM w b A) : b < w.heap.size := by
  obtain ⟨K, ⟨_, _, q, _⟩, _⟩ := h; exact (Array.getElem?_eq_some_iff.1 q).1
theorem AM.keep {w w' : World} {b : Nat} {A : Nat → Int} (h : AM w b A) (hk : w'.heap[b]? = w.heap[b]?) : AM w' b A := by
  obtain ⟨K, ⟨es, cl, h1, h2⟩, h3⟩ := h
  exact ⟨K, ⟨es, cl, by rw [hk]; exact h1, h2⟩, h3⟩
theorem AM.cast {w : World} {b : Nat} {A B : Nat → Int} (h : AM w b A) (e : ∀ i, A i = B i) : AM w b B := by
  obtain ⟨K, h1, h2⟩ := h
  exact ⟨K, h1, fun i => (h2 i).trans (e i)⟩
theorem AM.new {w : World} {b : Nat} (h : w.heap[b]? = some (.map #[] 0)) : AM w b (fun _ => 0) := ⟨[], ⟨#[], 0, h, rfl⟩, fun i => rfl⟩
theorem AM.look {w : World} {b : Nat} {A : Nat → Int} (h : AM w b A) (k : Nat) : (Instr.lookup 39 (.map (some b)) (.int .i64 (k : Int)) false).run Try.prog w = .ok (.int .i64 (A k)) w := by
  obtain ⟨K, h1, h2⟩ := h
  have := lookup_run key_int Try.underlying39 (zero_int w) h1 (k : Int) false
  rw [h2] at this
  simpa using this
theorem AM.upd {w : World} {b : Nat} {A : Nat → Int} (h : AM w b A) (k : Nat) (v : Int) :
    ∃ o, (Instr.mapUpdate 39 (.map (some b)) (.int .i64 (k : Int)) (.int .i64 v)).run Try.prog w = .ok () (w.putOwn b o) ∧ AM (w.putOwn b o) b (fun i => if i = k then v else A i) := by
  obtain ⟨K, h1, h2⟩ := h
  obtain ⟨o, u1, u2⟩ := update_run (t := 39) key_int Try.underlying39 h1 (k : Int) v
  refine ⟨o, u1, _, u2, fun i => ?_⟩
  rw [aget_aput]
  by_cases e : i = k
  · subst e; simp
  · have : ¬ (k : Int) = (i : Int) := by omega
    simp only [this, e, if_false]
    exact h2 i
theorem putOwn_size (w : World) (b : Nat) (o : Obj) : (w.putOwn b o).heap.size = w.heap.size := by simp [World.putOwn]
theorem putOwn_ne (w : World) {b q : Nat} (o : Obj) (h : q ≠ b) : (w.putOwn b o).heap[q]? = w.heap[q]? := by
  simp only [World.putOwn]
  rw [Array.getElem?_setIfInBounds]
  rw [if_neg (fun e => h e.symm)]
theorem Below.putOwn {B : Nat} {a w : World} (h : Below B a w) {b : Nat} (hb : B ≤ b) (o : Obj) : Below B a (w.putOwn b o) :=
  ⟨h.os, h.tape, h.output, by rw [putOwn_size]; exact h.size, fun k hk => (putOwn_ne w o (by omega)).trans (h.block k hk)⟩

/-- The first state on a cycle. -/
def cycR (N : Gph) : Int × Bool :=
  match cycN N with
  | none => (0, false)
  | some i => ((i : Int), true)
def cycV (sts : List StP) : Int × Bool := cycR (graphN sts)
theorem cycN_some {N : Gph} {k : Nat} (hk : k < N.length) (hno : ∀ i, i < k → (fromN N i).getD i false = false) (hy : (fromN N k).getD k false = true) : cycN N = some k := by
  unfold cycN
  rw [List.find?_range_eq_some]
  exact ⟨hy, by simpa using hk, fun j hj => by simpa using hno j hj⟩
theorem cycN_none {N : Gph} (hno : ∀ i, i < N.length → (fromN N i).getD i false = false) : cycN N = none := by
  unfold cycN
  rw [List.find?_eq_none]
  intro i hi
  rw [hno i (by simpa using hi)]
  simp

set_option maxRecDepth 100000 in
theorem cycle_any {w : World} {p : PgS} {sts : List StP} (hs : StsIs w p.states sts) (hn : sts.length ≤ 1000) :
    Calls Try.prog 7 #[p.v] w (Pure (.tuple #[.int .i64 (cycV sts).1, .bool (cycV sts).2]) w) := by
  have NX := fun w' (hb : Below w.heap.size w w') => nexts_any (p := p) (hs.below hb) hn
  have hv := graphN_valid sts
  have hgl := graphN_len sts
  clear hs
  unfold cycV
  generalize graphN sts = N at *
  rw [← hgl] at hn
  clear hgl
  have HC : ∀ c, cycN N = c → cycR N = match c with | none => (0, false) | some i => ((i : Int), true) := fun c h => by rw [← h]; rfl
  generalize cycR N = C at *
  have HCC := hid HC
  clear HC
  go_enter Try.func7, Try.ntmps7
  go_upto_region 2 with ((with_reducible refine (NX _ (by (repeat' (first | (with_reducible exact Below.refl _ _) | (with_reducible refine Below.ext_mk ?_ ?_ _ _) | (with_reducible refine Below.alloc ?_ ?_ _) | (with_reducible refine Below.drew ?_) | (with_reducible refine Below.setCell ?_ ?_ _) | go_size)))).mono ?_); rintro e w1 ⟨s, rfl, hN, hb1⟩)
  have hb1' : Below w.heap.size w w1 := by
    refine Below.trans (?_ : Below w.heap.size w _) (hb1.mono ?_)
    · (repeat' (first | (with_reducible exact Below.refl _ _) | (with_reducible refine Below.ext_mk ?_ ?_ _ _) | (with_reducible refine Below.alloc ?_ ?_ _) | (with_reducible refine Below.drew ?_) | (with_reducible refine Below.setCell ?_ ?_ _) | go_size))
    · simp
  clear hb1 NX
  obtain ⟨e1, e2, e3⟩ := hN.len
  obtain ⟨sa, sn, sc⟩ := s
  simp only at e1 e2 e3
  subst e1
  have HN := hid hN
  have HB := hid hb1'
  have F := fun w' (hb : Below w1.heap.size w1 w') i hi => from_any (hN.below hb) hv hn i hi
  simp only [SL.v_mk] at F ⊢
  clear hN hb1'
  go_wp2_with fail
  go_loopw [10] (fun ix wr => ∃ k : Nat, k ≤ N.length ∧ ix = .int .i64 k ∧ (∀ i, i < k → (fromN N i).getD i false = false) ∧ Below w1.heap.size w1 wr) (fun ix _ => N.length - (intOf ix).toNat)
  case atStart => exact ⟨0, by omega, rfl, fun i hi => by omega, Below.refl _ _⟩
  case round =>
    obtain ⟨k, hk, rfl, hno, hb⟩ := hrel
    have HO := hid hno
    clear hno
    by_cases hlt : k < N.length
    · have hk1 : (k : Int) < (N.length : Int) := by omega
      have hk0 : (0 : Int) ≤ (k : Int) := by omega
      have F1 := F wr hb k hlt
      have hrl := fromN_len N hv k
      have HR0 := hid (rfl : fromN N k = fromN N k)
      generalize hR : fromN N k = R at *
      have hk2 : (k : Int) < (R.length : Int) := by omega
      have hkR : k < R.length := by omega
      have HR := hid hR
      clear hR HR0 hrl
      cases hy : R.getD k false with
      | true =>
        go_wp2_with ((with_reducible refine F1.mono ?_); rintro e w2 ⟨kb, hkb, rfl, hB, hb2⟩; have kc := hB.cell k; rw [bools_getD hkR, hy] at kc; have kz := hB.lt)
        go_returns
        refine Pure.of ?_ (HB.out.trans ((hb.trans (hb2.mono hb.size)).mono HB.out.size))
        have hc : cycN N = some k := cycN_some hlt HO.out (by rw [HR.out]; exact hy)
        rw [HCC.out _ hc]
        rfl
      | false =>
        go_wp2_with ((with_reducible refine F1.mono ?_); rintro e w2 ⟨kb, hkb, rfl, hB, hb2⟩; have kc := hB.cell k; rw [bools_getD hkR, hy] at kc; have kz := hB.lt)
        go_roundw
        case rel =>
          refine ⟨k + 1, hlt, by go_num, fun i hi => ?_, hb.trans (hb2.mono hb.size)⟩
          rcases Nat.lt_or_ge i k with h' | h'
          · exact HO.out i h'
          · obtain rfl : i = k := by omega
            rw [HR.out]; exact hy
        case measure => simp [intOf]; omega
    · obtain rfl : k = N.length := by omega
      go_wp2_with fail
      go_returns
      refine Pure.of ?_ (HB.out.trans (hb.mono HB.out.size))
      rw [HCC.out _ (cycN_none HO.out)]
      rfl
end Go.Proofs.Ytidnhnfmbebeaaa
set_option linter.unusedVariables false
set_option linter.unusedSimpArgs false
namespace Go.Proofs.Ytidnhnfmbebeaaa
open Go.RowKit Go.Gr

def reachV (sts : List StP) : List Bool := if sts.length = 0 then [] else (fromN (graphN sts) 0).set 0 true
theorem reachV_len (sts : List StP) : (reachV sts).length = sts.length := by
  unfold reachV
  by_cases h : sts.length = 0
  · rw [if_pos h, h]; rfl
  · rw [if_neg h, List.length_set, fromN_len _ (graphN_valid sts), graphN_len]

set_option maxRecDepth 100000 in
theorem reached_any {w : World} {p : PgS} {sts : List StP} (hs : StsIs w p.states sts) (hn : sts.length ≤ 1000) :
    Calls Try.prog 8 #[p.v] w (fun e w' => ∃ s : SL, e = .returned s.v ∧ RdS w' 1 s (bools (reachV sts)) ∧ Below w.heap.size w w') := by
  have NX := fun w' (hb : Below w.heap.size w w') => nexts_any (p := p) (hs.below hb) hn
  have hv := graphN_valid sts
  have hgl := graphN_len sts
  have hlen := hs.len.1
  clear hs
  unfold reachV
  generalize graphN sts = N at *
  by_cases h0 : sts.length = 0
  · rw [if_pos h0]
    rw [h0] at hlen
    go_enter Try.func8, Try.ntmps8
    go_wp2_with fail
    go_returns
    exact ⟨slNil, rfl, rdNil, by (repeat' (first | (with_reducible exact Below.refl _ _) | (with_reducible refine Below.ext_mk ?_ ?_ _ _) | (with_reducible refine Below.alloc ?_ ?_ _) | (with_reducible refine Below.drew ?_) | (with_reducible refine Below.setCell ?_ ?_ _) | go_size))⟩
  · rw [if_neg h0]
    rw [← hgl] at h0 hn hlen
    have h0' : ((p.states.n : Nat) : Int) ≠ 0 := by omega
    have h1 : 0 < N.length := by omega
    clear hgl h0
    go_enter Try.func8, Try.ntmps8
    go_upto_region 3 with (fail)
    refine wp_gen (fun V hV => ?_)
    have hbV : Below w.heap.size w V := by rw [hV]; (repeat' (first | (with_reducible exact Below.refl _ _) | (with_reducible refine Below.ext_mk ?_ ?_ _ _) | (with_reducible refine Below.alloc ?_ ?_ _) | (with_reducible refine Below.drew ?_) | (with_reducible refine Below.setCell ?_ ?_ _) | go_size))
    have bp : Blk V w.heap.size 30 p.cs := by
      rw [hV]
      exact Blk.new w 30 p.cs
    clear hV
    have p0 := bp.cell 0
    have p1 := bp.cell 1
    have p2 := bp.cell 2
    have p3 := bp.cell 3
    have p4 := bp.cell 4
    have p5 := bp.cell 5
    have p6 := bp.cell 6
    simp only [PgS.cs, List.getElem?_cons_zero, List.getElem?_cons_succ] at p0 p1 p2 p3 p4 p5 p6
    have pz := bp.lt
    have N1 := NX V hbV
    have F : ∀ (w1 : World) (s : SL), NxIs w1 s N → Calls Try.prog 17 #[s.v, .int .i64 0] w1 (FromP w1 (fromN N 0)) := fun w1 s h => from_any h hv hn 0 h1
    have hrl := fromN_len N hv 0
    generalize hR : fromN N 0 = R at *
    have hr0 : (0 : Int) < (R.length : Int) := by omega
    have hr1 : 0 < R.length := by omega
    go_upto_region 4 with (first
      | ((with_reducible refine N1.mono ?_); rintro e w1 ⟨s, rfl, hN, hb1⟩)
      | ((with_reducible refine (F _ _ hN).mono ?_); rintro e w2 ⟨kb, hkb, rfl, hB, hb2⟩))
    have kz := hB.lt
    have kf := hB.free 0
    have kc := hB.cell 0
    rw [bools_getD hr1] at kc
    have hb3 : Below w.heap.size w w2 := (hbV.trans (hb1.mono hbV.size)).trans (hb2.mono (by have := hbV.size; have := hb1.size; omega))
    have hk3 : w.heap.size ≤ kb := by have := hbV.size; have := hb1.size; omega
    have HB := hid (And.intro hB (And.intro hb3 hk3))
    clear hB hb3 hk3 hb1 hb2 hN N1 F NX
    go_wp2_with fail
    go_returns
    rw [hR]
    refine ⟨⟨some ⟨kb, 0, none⟩, N.length, N.length⟩, rfl, ⟨Nat.le_refl _, by simp only; omega, by rw [bools_length, List.length_set, hrl]; simp, fun _ => ⟨kb, 0, rfl, by simpa using kz, fun j u hu => ?_⟩⟩, HB.out.2.1.setCell HB.out.2.2 _⟩
    rw [Nat.zero_add]
    have q := HB.out.1.set_ 0 (.bool true)
    have e : (bools R).set 0 (.bool true) = bools (R.set 0 true) := by simp [bools, List.map_set]
    rw [e] at q
    rw [q.cell j]; exact hu
end Go.Proofs.Ytidnhnfmbebeaaa
set_option linter.unusedVariables false
set_option linter.unusedSimpArgs false
namespace Go.Proofs.Ytidnhnfmbebeaaa
open Go.RowKit Go.Gr

/-- What Order gives back where nothing is on a cycle. -/
def OrdP (w : World) (l : List Nat) (e : Ending) (w' : World) : Prop :=
  ∃ sv G, e = .returned (.tuple #[sv, .int .i64 0]) ∧ RowIs w' sv G 3 1 l.length (nats l) ∧ (∀ g, G = some g → w.heap.size ≤ g) ∧ Below w.heap.size w w'
theorem count_snoc (r : List Nat) (t x i : Nat) (h : r[t]? = some x) : (r.take (t + 1)).count i = (r.take t).count i + if i = x then 1 else 0 := by
  rw [List.take_add_one, h, Option.toList_some, List.count_append, List.count_singleton]
  by_cases e : i = x
  · subst e; simp
  · have : ¬ x = i := fun q => e q.symm
    simp [e, this]
theorem count_take_le (r : List Nat) (t i : Nat) : (r.take t).count i ≤ r.length := by
  have h1 : (r.take t).count i ≤ (r.take t).length := List.count_le_length
  have h2 : (r.take t).length ≤ r.length := by simp; omega
  omega
theorem graphN_few (sts : List StP) (j : Nat) : (rowN (graphN sts) j).length ≤ (graphN sts).length := by
  rw [graphN_row, graphN_len]
  exact (nextN_few sts j).len

/-- What the map holds behind the edges of k states and t of the next one's. -/
def cntA (N : Gph) (k t i : Nat) : Int := (indeg N [] i k : Int) + ((rowN N k).take t).count i
theorem cntA_le {N : Gph} (hf : ∀ j, (rowN N j).length ≤ N.length) (hn : N.length ≤ 1000) (k t i : Nat) (hk : k ≤ N.length) : 0 ≤ cntA N k t i ∧ cntA N k t i ≤ 1001000 := by
  have h1 := indeg_le N [] i N.length hf k
  have h2 := count_take_le (rowN N k) t i
  have h3 := hf k
  have h4 : k * N.length ≤ 1000 * 1000 := Nat.mul_le_mul (by omega) hn
  unfold cntA
  omega
theorem cntA_step {N : Gph} {k t x : Nat} (h : (rowN N k)[t]? = some x) (i : Nat) : cntA N k (t + 1) i = if i = x then cntA N k t x + 1 else cntA N k t i := by
  unfold cntA
  rw [count_snoc _ _ _ _ h]
  by_cases e : i = x
  · subst e; simp; omega
  · simp [e]
theorem cntA_row {N : Gph} (k i : Nat) : cntA N (k + 1) 0 i = cntA N k (rowN N k).length i := by
  unfold cntA
  rw [List.take_length]
  simp [indeg]
theorem cntA_end {N : Gph} (i : Nat) : cntA N N.length 0 i = aheadV N [] i := by
  unfold cntA aheadV; simp
/-- .. and behind one state's leaving, t of its edges. -/
def decA (N : Gph) (out : List Nat) (k t i : Nat) : Int := aheadV N out i - (if i = k then 1 else 0) - ((rowN N k).take t).count i
theorem decA_le {N : Gph} (hf : ∀ j, (rowN N j).length ≤ N.length) (hn : N.length ≤ 1000) (out : List Nat) (k t i : Nat) : -2000 ≤ decA N out k t i ∧ decA N out k t i ≤ 1001000 := by
  have h1 := indeg_le N out i N.length hf N.length
  have h2 := count_take_le (rowN N k) t i
  have h3 := hf k
  have h4 : N.length * N.length ≤ 1000 * 1000 := Nat.mul_le_mul hn hn
  unfold decA aheadV
  split <;> split <;> omega
theorem aheadV_le {N : Gph} (hf : ∀ j, (rowN N j).length ≤ N.length) (hn : N.length ≤ 1000) (out : List Nat) (i : Nat) : -2000 ≤ aheadV N out i ∧ aheadV N out i ≤ 1001000 := by
  have h1 := indeg_le N out i N.length hf N.length
  have h4 : N.length * N.length ≤ 1000 * 1000 := Nat.mul_le_mul hn hn
  unfold aheadV
  split <;> omega
theorem decA_step {N : Gph} {out : List Nat} {k t x : Nat} (h : (rowN N k)[t]? = some x) (i : Nat) : decA N out k (t + 1) i = if i = x then decA N out k t x - 1 else decA N out k t i := by
  unfold decA
  rw [count_snoc _ _ _ _ h]
  by_cases e : i = x
  · subst e; simp; omega
  · simp [e]
theorem decA_start {N : Gph} (out : List Nat) (k i : Nat) : decA N out k 0 i = if i = k then aheadV N out k - 1 else aheadV N out i := by
  unfold decA
  by_cases e : i = k
  · subst e; simp
  · simp [e]
theorem decA_end {N : Gph} {out : List Nat} {k : Nat} (hk : k ∉ out) (hlt : k < N.length) (i : Nat) : decA N out k (rowN N k).length i = aheadV N (out ++ [k]) i := by
  unfold decA
  rw [List.take_length, aheadV_snoc N out k hk hlt]

set_option maxRecDepth 100000 in
theorem order_cyc {w : World} {p : PgS} {sts : List StP} (hs : StsIs w p.states sts) (hn : sts.length ≤ 1000) (hy : (cycV sts).2 = true) :
    Calls Try.prog 6 #[p.v] w (Pure (.tuple #[.slice none 0 0, .int .i64 11]) w) := by
  have NX := fun w' (hb : Below w.heap.size w w') => nexts_any (p := p) (hs.below hb) hn
  have CY := fun w' (hb : Below w.heap.size w w') => cycle_any (p := p) (hs.below hb) hn
  rw [hy] at CY
  clear hs
  go_enter Try.func6, Try.ntmps6
  go_upto_region 1 with (fail)
  refine wp_gen (fun V hV => ?_)
  have hbV : Below w.heap.size w V := by rw [hV]; (repeat' (first | (with_reducible exact Below.refl _ _) | (with_reducible refine Below.ext_mk ?_ ?_ _ _) | (with_reducible refine Below.alloc ?_ ?_ _) | (with_reducible refine Below.drew ?_) | (with_reducible refine Below.setCell ?_ ?_ _) | go_size))
  have bp : Blk V w.heap.size 30 p.cs := by
    rw [hV]
    exact Blk.new w 30 p.cs
  clear hV
  have p0 := bp.cell 0
  have p1 := bp.cell 1
  have p2 := bp.cell 2
  have p3 := bp.cell 3
  have p4 := bp.cell 4
  have p5 := bp.cell 5
  have p6 := bp.cell 6
  simp only [PgS.cs, List.getElem?_cons_zero, List.getElem?_cons_succ] at p0 p1 p2 p3 p4 p5 p6
  have pz := bp.lt
  have N1 := NX V hbV
  go_upto_region 2 with ((with_reducible refine N1.mono ?_); rintro e w1 ⟨s, rfl, hN, hb1⟩)
  have hbw : Below w.heap.size w w1 := hbV.trans (hb1.mono hbV.size)
  have bq := bp.below hb1
  clear p0 p1 p2 p3 p4 p5 p6 pz
  have p0 := bq.cell 0
  have p1 := bq.cell 1
  have p2 := bq.cell 2
  have p3 := bq.cell 3
  have p4 := bq.cell 4
  have p5 := bq.cell 5
  have p6 := bq.cell 6
  simp only [PgS.cs, List.getElem?_cons_zero, List.getElem?_cons_succ] at p0 p1 p2 p3 p4 p5 p6
  have pz := bq.lt
  have C1 := CY w1 hbw
  go_wp2_with ((with_reducible refine C1.mono ?_); rintro e w2 ⟨rfl, m, d, rfl⟩)
  go_returns
  exact Pure.of rfl (Below.ext_mk hbw hbw.size _ _)
end Go.Proofs.Ytidnhnfmbebeaaa
set_option linter.unusedVariables false
set_option linter.unusedSimpArgs false
namespace Go.Proofs.Ytidnhnfmbebeaaa
open Go.RowKit Go.Gr

def lenOf : Value → Nat
  | .slice _ n _ => n
  | _ => 0
set_option maxRecDepth 100000 in
set_option maxHeartbeats 4000000 in
theorem order_ok {w : World} {p : PgS} {sts : List StP} (hs : StsIs w p.states sts) (hn : sts.length ≤ 1000) (hy : (cycV sts).2 = false) :
    Calls Try.prog 6 #[p.v] w (OrdP w (kahnN (graphN sts) sts.length)) := by
  have hmm := @run_makeMap Try.prog
  have NX := fun w' (hb : Below w.heap.size w w') => nexts_any (p := p) (hs.below hb) hn
  have CY := fun w' (hb : Below w.heap.size w w') => cycle_any (p := p) (hs.below hb) hn
  rw [hy] at CY
  have hv := hid (graphN_valid sts)
  have hgl := graphN_len sts
  have hf := hid (graphN_few sts)
  have hcyc : cycN (graphN sts) = none := by
    unfold cycV cycR at hy
    cases hq : cycN (graphN sts) with
    | none => rfl
    | some i => rw [hq] at hy; cases hy
  have HC := hid hcyc
  clear hs hcyc hy
  generalize (cycV sts).1 = c1 at *
  generalize graphN sts = N at *
  rw [← hgl] at hn ⊢
  clear hgl
  go_enter Try.func6, Try.ntmps6
  go_upto_region 1 with (fail)
  refine wp_gen (fun V hV => ?_)
  have hbV : Below w.heap.size w V := by rw [hV]; (repeat' (first | (with_reducible exact Below.refl _ _) | (with_reducible refine Below.ext_mk ?_ ?_ _ _) | (with_reducible refine Below.alloc ?_ ?_ _) | (with_reducible refine Below.drew ?_) | (with_reducible refine Below.setCell ?_ ?_ _) | go_size))
  have bp : Blk V w.heap.size 30 p.cs := by
    rw [hV]
    exact Blk.new w 30 p.cs
  clear hV
  have p0 := bp.cell 0
  have p1 := bp.cell 1
  have p2 := bp.cell 2
  have p3 := bp.cell 3
  have p4 := bp.cell 4
  have p5 := bp.cell 5
  have p6 := bp.cell 6
  simp only [PgS.cs, List.getElem?_cons_zero, List.getElem?_cons_succ] at p0 p1 p2 p3 p4 p5 p6
  have pz := bp.lt
  have N1 := NX V hbV
  go_upto_region 2 with ((with_reducible refine N1.mono ?_); rintro e w1 ⟨s, rfl, hN, hb1⟩)
  have hbw : Below w.heap.size w w1 := hbV.trans (hb1.mono hbV.size)
  have bq := bp.below hb1
  clear p0 p1 p2 p3 p4 p5 p6 pz bp
  have p0 := bq.cell 0
  have p1 := bq.cell 1
  have p2 := bq.cell 2
  have p3 := bq.cell 3
  have p4 := bq.cell 4
  have p5 := bq.cell 5
  have p6 := bq.cell 6
  simp only [PgS.cs, List.getElem?_cons_zero, List.getElem?_cons_succ] at p0 p1 p2 p3 p4 p5 p6
  have pz := bq.lt
  have C1 := CY w1 hbw
  clear NX CY N1 hb1 hbV bq
  go_upto_region 5 with ((with_reducible refine C1.mono ?_); rintro e w2 ⟨rfl, m, d, rfl⟩)
  clear p0 p1 p2 p3 p4 p5 p6 pz C1
  have hb12 : Below w1.heap.size w1 (w1.ext m d) := Below.ext_mk (Below.refl _ _) (Nat.le_refl _) _ _
  generalize hX : w1.ext m d = X at *
  clear hX
  go_upto_region 6 with (fail)
  refine wp_gen (fun U hU => ?_)
  have mU : AM U X.heap.size (fun _ => 0) := AM.new (by rw [hU]; exact heap_alloc_new X _)
  have hmb : w1.heap.size ≤ X.heap.size := hb12.size
  have hbU : Below w1.heap.size w1 U := by rw [hU]; exact hb12.alloc hmb _
  clear hU hb12 hmm
  generalize X.heap.size = mb at *
  clear X
  obtain ⟨e1, e2, e3⟩ := hN.len
  obtain ⟨sa, sn, sc⟩ := s
  simp only at e1 e2 e3
  subst e1
  simp only [SL.v_mk]
  have HN := hid hN
  have HU := hid (And.intro mU hbU)
  have HW := hid hbw
  have HM := hid hmb
  clear hN mU hbU hbw hmb
  go_wp2_with fail
  go_loopw [27] (fun ix wr => ∃ k : Nat, k ≤ N.length ∧ ix = .int .i64 k ∧ AM wr mb (fun i => cntA N k 0 i) ∧ Below w1.heap.size w1 wr) (fun ix _ => N.length - (intOf ix).toNat)
  case atStart => exact ⟨0, by omega, rfl, HU.out.1.cast (fun i => by simp [cntA, indeg]), HU.out.2⟩
  case round =>
    obtain ⟨k, hk, rfl, hA, hb⟩ := hrel
    have HA := hid hA
    have HB := hid hb
    clear hA hb
    by_cases hlt : k < N.length
    · have hk1 : (k : Int) < (N.length : Int) := by omega
      obtain ⟨b, off, t, ha, zb, hc, hr⟩ := HN.out.row hlt
      have hrl := hr.nat
      simp only at ha
      subst ha
      obtain ⟨ta, tn, tc⟩ := t
      simp only at hrl hc
      subst hrl
      simp only [SL.v_mk] at hc
      have hrm := hr.2.1
      simp only at hrm
      have HR := hid hr
      have hcw := (HB.out.cell (p := ⟨b, off + k, none⟩) zb).trans hc
      have zbw : b < wr.heap.size := Nat.lt_of_lt_of_le zb HB.out.size
      have hrv := hid (hv.out k)
      have HK := hid (And.intro HA.out HB.out)
      clear hr hc HA HB
      generalize hrow : rowN N k = r at *
      have HRW := hid hrow
      clear hrow
      go_wp2_with fail
      clear hcw zbw
      go_loopw [33] (fun ix wr => ∃ t : Nat, t ≤ r.length ∧ ix = .int .i64 t ∧ AM wr mb (fun i => cntA N k t i) ∧ Below w1.heap.size w1 wr) (fun ix _ => r.length - (intOf ix).toNat)
      case atStart => exact ⟨0, by omega, rfl, HK.out.1, HK.out.2⟩
      case round =>
        obtain ⟨t, ht, rfl, hA, hb⟩ := hrel
        by_cases hlt2 : t < r.length
        · have ht1 : (t : Int) < (r.length : Int) := by omega
          obtain ⟨b2, off2, hta, zb2, hc2⟩ := RdS.natAt (HR.out.below hb) hlt2
          simp only at hta
          subst hta
          obtain ⟨x, hx⟩ : ∃ x, r[t] = x := ⟨_, rfl⟩
          rw [hx] at hc2
          have hxs : r[t]? = some x := by rw [List.getElem?_eq_getElem hlt2, hx]
          have hlook := hA.look x
          have hle := cntA_le hf.out hn k t x hk
          have hst := fun i => cntA_step (N := N) (k := k) (t := t) (x := x) (by rw [HRW.out]; exact hxs) i
          have HST := hid hst
          generalize hga : cntA N k t x = a at *
          have ew : IntKind.i64.wrap (a + 1) = a + 1 := IntWalk.i64_in _ (by omega)
          obtain ⟨o, u1, u2⟩ := hA.upd x (a + 1)
          have HA := hid (u2.cast (fun i => (HST.out i).symm))
          have HB := hid (Below.putOwn hb HM.out o)
          clear hst u2 hA hb hx hxs hle HST
          go_wp2_with fail
          go_roundw
          case rel => exact ⟨t + 1, hlt2, by go_num, HA.out, HB.out⟩
          case measure => simp [intOf]; omega
        · obtain rfl : t = r.length := by omega
          have HA := hid hA
          have HB := hid hb
          clear hA hb
          go_wp2_with fail
          go_roundw
          case rel => exact ⟨k + 1, hlt, by go_num, HA.out.cast (fun i => by rw [cntA_row, HRW.out]), HB.out⟩
          case measure => simp [intOf]; omega
    · obtain rfl : k = N.length := by omega
      have HA' := hid (HA.out.cast (fun i => cntA_end i))
      clear HA
      go_wp2_with fail
      go_loopw [2] (fun sv wr => ∃ (k : Nat) (G : Option Nat), k ≤ N.length ∧ RowIs wr sv G 3 1 (kahnN N k).length (nats (kahnN N k)) ∧ (∀ g, G = some g → w1.heap.size ≤ g ∧ g ≠ mb) ∧ AM wr mb (aheadV N (kahnN N k)) ∧ Below w1.heap.size w1 wr) (fun sv _ => N.length - (lenOf sv))
      case atStart => exact ⟨0, none, by omega, row_nil _, fun g hg => by (cases hg), HA'.out, HB.out⟩
      case round =>
        obtain ⟨k, G, hk, hrow, hG, hA, hb⟩ := hrel
        obtain ⟨hok, hkl⟩ := kahn_ok hv.out HC.out k hk
        obtain ⟨s, hsv, hsn, -⟩ := RowIs.rdS hrow
        obtain ⟨oa, on, oc⟩ := s
        simp only at hsn
        rw [hkl] at hsn
        subst hsn
        subst hsv
        simp only [SL.v_mk] at hrow ⊢
        have HOK := hid (And.intro hok hkl)
        have HROW := hid (And.intro hrow hG)
        have HA := hid (And.intro hA hb)
        clear hrow hG hA hb hok hkl
        by_cases hlt : on < N.length
        · have hk1 : (on : Int) < (N.length : Int) := by omega
          go_wp2_with fail
          go_loopw [2, 50] (fun sv ix wr => ∃ i : Nat, i ≤ N.length ∧ sv = .slice oa on oc ∧ ix = .int .i64 i ∧ (∀ j, j < i → aheadV N (kahnN N on) j ≠ 0) ∧ RowIs wr (.slice oa on oc) G 3 1 (kahnN N on).length (nats (kahnN N on)) ∧ AM wr mb (aheadV N (kahnN N on)) ∧ Below w1.heap.size w1 wr) (fun _ ix _ => N.length - (intOf ix).toNat)
          case atStart => exact ⟨0, by omega, rfl, rfl, fun j hj => by omega, HROW.out.1, HA.out.1, HA.out.2⟩
          case round =>
            obtain ⟨i, hi, rfl, rfl, hno, hrow, hA, hb⟩ := hrel
            by_cases hlt2 : i < N.length
            · have hi1 : (i : Int) < (N.length : Int) := by omega
              obtain ⟨b, off, t, ha, zb, hc, hr⟩ := HN.out.row hlt2
              have hrl := hr.nat
              simp only at ha
              subst ha
              obtain ⟨ta, tn, tc⟩ := t
              simp only at hrl hc
              subst hrl
              simp only [SL.v_mk] at hc
              have hrm := hr.2.1
              simp only at hrm
              have HR := hid hr
              have hcw := (hb.cell (p := ⟨b, off + i, none⟩) zb).trans hc
              have zbw : b < wr.heap.size := Nat.lt_of_lt_of_le zb hb.size
              have hlook := hA.look i
              have HNO := hid hno
              clear hr hc hno
              by_cases hz : aheadV N (kahnN N on) i = 0
              · rw [hz] at hlook
                obtain ⟨hnin, hind⟩ := aheadV_zero HOK.out.1 hz
                have hfirst := firstK_some hlt2 HNO.out hz
                have hks : kahnN N (on + 1) = kahnN N on ++ [i] := by rw [kahnN, hfirst]; rfl
                obtain ⟨o, u1, u2⟩ := hA.upd i (-1)
                have hA2 : AM (wr.putOwn mb o) mb (decA N (kahnN N on) i 0) := u2.cast (fun j => by rw [decA_start, hz]; simp)
                have hb2 := Below.putOwn hb HM.out o
                have hrow2 : RowIs (wr.putOwn mb o) (.slice oa on oc) G 3 1 (kahnN N on).length (nats (kahnN N on)) := hrow.keep (fun g hg => putOwn_ne wr o (HROW.out.2 g hg).2)
                have HX := hid (And.intro hA2 (And.intro hb2 hrow2))
                have HKS := hid (And.intro hks hnin)
                clear u2 hA2 hb2 hrow2 hA hrow hb hnin hind hfirst hks hz
                go_upto_region 21 with (fail)
                generalize hXg : wr.putOwn mb o = X at *
                clear hXg hlook u1 hcw zbw
                obtain ⟨hA2, hb2, hrow2⟩ := HX.out
                obtain ⟨v', w2, G', r1, r2, r3, r4, ro, rt, rp, rz⟩ := grow_nat hrow2 (by rw [HOK.out.2]; omega) i
                have hmz := hA2.lt
                have hA3 : AM w2 mb (decA N (kahnN N on) i 0) := hA2.keep (r4 mb hmz (fun e => (HROW.out.2 mb e).2 rfl))
                have hm := HM.out
                have hs2 := hb2.size
                have hb3 : Below w1.heap.size w1 w2 := hb2.trans ⟨ro, rt, rp, by omega, fun q hq => r4 q (by omega) (fun e => by have := (HROW.out.2 q e).1; omega)⟩
                have hG3 : w1.heap.size ≤ G' ∧ G' ≠ mb := by
                  rcases r3 with e | ⟨e, _⟩
                  · exact HROW.out.2 G' e
                  · exact ⟨by omega, by omega⟩
                rw [← HKS.out.1] at r2
                have hkl2 : (kahnN N (on + 1)).length = on + 1 := (kahn_ok hv.out HC.out (on + 1) (by omega)).2
                rw [hkl2] at r2
                obtain ⟨oa', oc', rfl, -⟩ := r2.form
                have HY := hid (And.intro hA3 (And.intro hb3 (And.intro r2 hG3)))
                have R1 := hid r1
                have HRW := hid (rfl : rowN N i = rowN N i)
                clear HX hA2 hb2 hrow2 hmz hA3 hm hs2 hb3 hG3 hkl2 r1 r2 r3 r4 ro rt rp rz
                refine wp_region_doc (fun F' hF => ?_)
                have HF := hid hF
                clear hF
                iterate 3 (refine doc_val rfl (by first | (go_simp; done) | (go_simp; exact ⟨rfl, rfl⟩) | (go_simp; with_reducible rfl)) ?_; simp only [Act.put, List.setIfInBounds_toArray, List.set_cons_zero, List.set_cons_succ])
                refine doc_val rfl (run_append_op _ _ _ _ _ _ _ _ _ R1.out) ?_
                simp only [Act.put, List.setIfInBounds_toArray, List.set_cons_zero, List.set_cons_succ]
                refine doc_val rfl (by first | (go_simp; done) | (go_simp; exact ⟨rfl, rfl⟩) | (go_simp; with_reducible rfl)) ?_
                simp only [Act.put, List.setIfInBounds_toArray, List.set_cons_zero, List.set_cons_succ]
                refine doc_end (HF.out _ _ ?_)
                clear HF F'
                have hrv := hid (hv.out i)
                go_wp2_with fail
                go_loopw [69] (fun ix wr => ∃ t : Nat, t ≤ (rowN N i).length ∧ ix = .int .i64 t ∧ AM wr mb (decA N (kahnN N on) i t) ∧ RowIs wr (.slice oa' (on + 1) oc') (some G') 3 1 (on + 1) (nats (kahnN N (on + 1))) ∧ Below w1.heap.size w1 wr) (fun ix _ => (rowN N i).length - (intOf ix).toNat)
                case atStart => exact ⟨0, by omega, rfl, HY.out.1, HY.out.2.2.1, HY.out.2.1⟩
                case round =>
                  obtain ⟨t, ht, rfl, hA, hrow, hb⟩ := hrel
                  by_cases hlt3 : t < (rowN N i).length
                  · have ht1 : (t : Int) < ((rowN N i).length : Int) := by omega
                    obtain ⟨b2, off2, hta, zb2, hc2⟩ := RdS.natAt (HR.out.below hb) hlt3
                    simp only at hta
                    subst hta
                    obtain ⟨x, hx⟩ : ∃ x, (rowN N i)[t] = x := ⟨_, rfl⟩
                    rw [hx] at hc2
                    have hxs : (rowN N i)[t]? = some x := by rw [List.getElem?_eq_getElem hlt3, hx]
                    have hlook := hA.look x
                    have hle := decA_le hf.out hn (kahnN N on) i t x
                    have hst := fun j => decA_step (N := N) (out := kahnN N on) (k := i) (t := t) (x := x) hxs j
                    have HST := hid hst
                    generalize hga : decA N (kahnN N on) i t x = a at *
                    have ew : IntKind.i64.wrap (a - 1) = a - 1 := IntWalk.i64_in _ (by omega)
                    obtain ⟨o2, u1, u2⟩ := hA.upd x (a - 1)
                    have HA3 := hid (u2.cast (fun j => (HST.out j).symm))
                    have HB3 := hid (Below.putOwn hb HM.out o2)
                    have HR3 := hid (hrow.keep (w' := wr.putOwn mb o2) (fun g hg => by cases hg; exact putOwn_ne wr o2 HY.out.2.2.2.2))
                    clear hst u2 hA hb hrow hx hxs hle HST
                    go_wp2_with fail
                    go_roundw
                    case rel => exact ⟨t + 1, hlt3, by go_num, HA3.out, HR3.out, HB3.out⟩
                    case measure => simp [intOf]; omega
                  · obtain rfl : t = (rowN N i).length := by omega
                    have HA3 := hid (hA.cast (fun j => decA_end HKS.out.2 hlt2 j))
                    have HB3 := hid hb
                    have HR3 := hid hrow
                    clear hA hb hrow
                    go_wp2_with fail
                    go_roundw
                    case rel =>
                      have hq := (kahn_ok hv.out HC.out (on + 1) (by omega)).2
                      refine ⟨on + 1, some G', hlt, by rw [hq]; exact HR3.out, fun g hg => by cases hg; exact HY.out.2.2.2, ?_, HB3.out⟩
                      rw [HKS.out.1]
                      exact HA3.out
                    case measure => simp [lenOf]; omega
              · have hz' : (aheadV N (kahnN N on) i == 0) = false := by simpa using hz
                have HZ := hid hz
                have HA2 := hid (And.intro hA (And.intro hb hrow))
                clear hz hA hb hrow
                generalize hga : aheadV N (kahnN N on) i = a at hlook hz' HZ
                go_wp2_with fail
                go_roundw
                case rel =>
                  refine ⟨i + 1, hlt2, rfl, by go_num, fun j hj => ?_, HA2.out.2.2, HA2.out.1, HA2.out.2.1⟩
                  rcases Nat.lt_or_ge j i with h' | h'
                  · exact HNO.out j h'
                  · obtain rfl : j = i := by omega
                    rw [hga]; exact HZ.out
                case measure => simp [intOf]; omega
            · exfalso
              obtain ⟨j, hj, hjz⟩ := aheadV_ex hv.out HC.out HOK.out.1 (by rw [HOK.out.2]; exact hlt)
              exact hno j (by omega) hjz
        · obtain rfl : on = N.length := by omega
          go_wp2_with fail
          go_returns
          exact ⟨_, G, rfl, HROW.out.1, fun g hg => Nat.le_trans HW.out.size (HROW.out.2 g hg).1, HW.out.trans (HA.out.2.mono HW.out.size)⟩
end Go.Proofs.Ytidnhnfmbebeaaa
set_option linter.unusedVariables false
set_option linter.unusedSimpArgs false
namespace Go.Proofs.Ytidnhnfmbebeaaa
open Go.RowKit Go.Gr

theorem load_struct_op {w : World} (a : Act) (dst : Option Tmp) (ty t : TypeId) (x : Operand) (pos : String) (after : Array Edge) (guard : Option (Nat × Bool)) {g : Nat} {e : TypeId} {xs : List Value} {fs : _}
    (hu : Try.prog.underlying ty = some (.struct fs)) (hi : (Try.prog.info? ty).map (·.size) = some xs.length) (hx : a.eval x = .pointer (some ⟨g, 0, none⟩)) (hg : Blk w g e xs) :
    (execOp a.eval { dst, op := .load ty x, type := t, pos, after, guard }).run Try.prog w = .ok (.value (.agg xs.toArray)) w := by
  have h := run_loadVar_row (P := Try.prog) w g e ty xs.toArray (0, 0) _ hg hu rfl (by simpa using hi)
  unfold execOp
  simp only [hx, Instr.loadAt, Instr.sureAddr, Sem.run_bind, Sem.run_pure, Result.andThen_ok, h]
theorem pg_size (xs : List Value) (h : xs.length = 7) : (Try.prog.info? 30).map (·.size) = some xs.length := by
  have q : (Try.prog.info? 30).map (·.size) = some 7 := by kernel_rfl
  rw [h]; exact q
theorem infoSt_some : (Try.prog.info? 57).isSome = true := by kernel_rfl
noncomputable def infoSt : TypeInfo := (Try.prog.info? 57).get infoSt_some
theorem infoSt_is : Try.prog.info? 57 = some infoSt := (Option.some_get _).symm
theorem infoSt_zero : infoSt.zero = some (.agg #[.string ⟨#[]⟩, .slice none 0 0, .string ⟨#[]⟩, .slice none 0 0, .slice none 0 0]) := by kernel_rfl
theorem infoSt_size : infoSt.size = 5 := by kernel_rfl
theorem infoSt_bytes : infoSt.bytes = 104 := by kernel_rfl

/-- Two names: a state's five cells. -/
def pairCells (x : ByteArray × ByteArray) : List Value := [.string x.1, .slice none 0 0, .string x.2, .slice none 0 0, .slice none 0 0]
def pairsC (l : List (ByteArray × ByteArray)) : List Value := l.flatMap pairCells
theorem pairsC_len (l : List (ByteArray × ByteArray)) : (pairsC l).length = l.length * 5 := flatMapG_len pairCells (fun _ => rfl) l
/-- The states of pairs of names. -/
def pairSt (x : ByteArray × ByteArray) : StP := ⟨x.1, x.2, []⟩
def stcNil : StC := ⟨slNil, slNil, slNil, []⟩
theorem pairsC_zip : ∀ l : List (ByteArray × ByteArray), pairsC l = ((l.map pairSt).zip (List.replicate l.length stcNil)).flatMap (fun x => stCells x.1 x.2)
  | [] => rfl
  | x :: r => by
    have := pairsC_zip r
    unfold pairsC at this ⊢
    rw [List.flatMap_cons, this]
    simp [List.replicate_succ, stCells, pairCells, pairSt, stcNil, slNil]
/-- One more state at a row's end. -/
theorem grow_st {w : World} {sv : Value} {G : Option Nat} {l : List (ByteArray × ByteArray)} (h : RowIs w sv G 57 5 l.length (pairsC l)) (hk : l.length ≤ 1000) (x : ByteArray × ByteArray) :
    ∃ v' w1 G', (Builtin.append_ #[24, 24] 24 #[sv, .slice (some ⟨w.heap.size, 0, none⟩) 1 1]).run Try.prog (w.alloc (.cells (pairCells x).toArray 57)) = .ok v' w1 ∧
      RowIs w1 v' (some G') 57 5 (l ++ [x]).length (pairsC (l ++ [x])) ∧ (G = some G' ∨ (w.heap.size ≤ G' ∧ G' < w1.heap.size)) ∧ (∀ k, k < w.heap.size → G ≠ some k → w1.heap[k]? = w.heap[k]?) ∧
      w1.os = w.os ∧ w1.tape = w.tape ∧ w1.output = w.output ∧ w.heap.size ≤ w1.heap.size := by
  have lit : (w.alloc (.cells (pairCells x).toArray 57)).heap[w.heap.size]? = some (.cells (pairCells x).toArray 57 (0, 0)) := heap_alloc_new w _
  have row : RowIs (w.alloc (.cells (pairCells x).toArray 57)) sv G 57 5 l.length (pairsC l) := RowIs.keep h (fun g' hg => Below.heap_alloc _ _ _ (RowIs.lt h g' hg))
  obtain ⟨v', w1, G', r1, r2, r3, r4⟩ := append_row (P := Try.prog) 24 24 infoSt (.agg #[.string ⟨#[]⟩, .slice none 0 0, .string ⟨#[]⟩, .slice none 0 0, .slice none 0 0]) 104 Try.underlying24 infoSt_is infoSt_zero infoSt_size infoSt_bytes rfl (by omega) row
    ⟨w.heap.size, 0, none⟩ 1 1 (pairCells x) rfl (fun j u hu => by
      have hj : (⟨w.heap.size, 0, none⟩ : Addr).add j = ⟨w.heap.size, j, none⟩ := by unfold Addr.add; by_cases e : j = 0 <;> simp [e]
      rw [hj]
      simp only [World.cell?]
      rw [lit]
      simpa using hu) (by intro u hu; simp [pairCells] at hu; rcases hu with rfl | rfl | rfl | rfl <;> rfl) (by omega) (by unfold maxLen; omega) (by omega)
  have e2 : (l ++ [x]).length = l.length + 1 := by simp
  have e3 : pairsC (l ++ [x]) = pairsC l ++ pairCells x := by unfold pairsC; simp
  rw [← e3, ← e2] at r2
  refine ⟨v', w1, G', r1, r2, ?_, fun k hk hn => ?_, r3.os, r3.tape, r3.output, by have := r3.size; simp at this; omega⟩
  · rcases r4 with e | ⟨e, e'⟩
    · exact .inl e
    · simp at e; exact .inr ⟨by omega, e'⟩
  · exact (r3.block k (by simp; omega) (fun e => hn e.symm)).trans (Below.heap_alloc _ _ _ hk)
/-- The program of these states. -/
def onlySt (s : SL) : PgS := ⟨slNil, slNil, s, slNil, slNil, slNil, slNil⟩

def twoC (x : ByteArray × ByteArray) : List Value := [.string x.1, .string x.2]
def pgC (sv : Value) : List Value := [.slice none 0 0, .slice none 0 0, sv, .slice none 0 0, .slice none 0 0, .slice none 0 0, .slice none 0 0]
/-- Between two states. -/
structure StSt (w : World) (l : List (ByteArray × ByteArray)) (tb rb : Nat) (wr : World) : Prop where
  bel : Below w.heap.size w wr
  row : ∃ sv G, Blk wr tb 30 (pgC sv) ∧ RowIs wr sv G 57 5 l.length (pairsC l) ∧ ∀ g, G = some g → w.heap.size ≤ g ∧ g ≠ tb ∧ g ≠ rb
  res : Blk wr rb 30 (pgC (.slice none 0 0))
set_option maxRecDepth 100000 in
set_option maxHeartbeats 4000000 in
theorem states_any {w : World} {s : SL} {ts : List (ByteArray × ByteArray)} (h : RdS w 1 s (ts.flatMap twoC)) (hn : ts.length ≤ 100) :
    Calls Try.prog 12 #[s.v] w (fun e w' => ∃ st : SL, e = .returned (onlySt st).v ∧ StsIs w' st (ts.map pairSt) ∧ RdS w' 5 st (pairsC ts) ∧ Below w.heap.size w w') := by
  have hlen : s.n = ts.length * 2 := by
    have h1 := h.2.2.1
    rw [flatMapG_len twoC (size := 2) (fun _ => rfl)] at h1
    omega
  have hc := h.1
  obtain ⟨sa, sn, sc⟩ := s
  simp only at hlen hc
  have HS := hid h
  have HL := hid hlen
  clear h hlen
  simp only [SL.v_mk]
  go_enter Try.func12, Try.ntmps12
  go_upto_region 2 with (fail)
  refine wp_gen (fun V hV => ?_)
  have hbV : Below w.heap.size w V := by rw [hV]; (repeat' (first | (with_reducible exact Below.refl _ _) | (with_reducible refine Below.ext_mk ?_ ?_ _ _) | (with_reducible refine Below.alloc ?_ ?_ _) | (with_reducible refine Below.drew ?_) | (with_reducible refine Below.setCell ?_ ?_ _) | go_size))
  have b0 : Blk V w.heap.size 30 (pgC (.slice none 0 0)) := by
    rw [hV]
    show Blk ((w.alloc (.cells (pgC (.slice none 0 0)).toArray 30)).alloc (.cells (pgC (.slice none 0 0)).toArray 30)) w.heap.size _ _
    exact (Blk.new w 30 (pgC (.slice none 0 0))).below (Below.alloc (Below.refl _ _) (Nat.le_refl _) _)
  have b1 : Blk V (w.heap.size + 1) 30 (pgC (.slice none 0 0)) := by
    rw [hV]
    have h := Blk.new (w.alloc (.cells (pgC (.slice none 0 0)).toArray 30)) 30 (pgC (.slice none 0 0))
    rw [World.size_alloc] at h
    exact h
  have S0 : StSt w [] (w.heap.size + 1) w.heap.size V := ⟨hbV, ⟨_, none, b1, ⟨rfl, .inl ⟨rfl, rfl, rfl⟩⟩, fun g hg => (by cases hg)⟩, b0⟩
  have hge : w.heap.size ≤ w.heap.size + 1 := by omega
  have hne : w.heap.size ≠ w.heap.size + 1 := by omega
  have HS0 := hid S0
  clear hV hbV b0 b1 S0
  generalize w.heap.size + 1 = tb at *
  go_wp2_with fail
  go_loopw [4] (fun i wr => ∃ (j k : Nat), j ≤ ts.length ∧ k = j * 2 ∧ i = .int .i64 (k : Int) ∧ StSt w (ts.take j) tb w.heap.size wr) (fun i _ => ts.length * 2 - (intOf i).toNat)
  case atStart => exact ⟨0, 0, by omega, rfl, rfl, by simpa using HS0.out⟩
  case round =>
    obtain ⟨j, k, hj, hk, rfl, S⟩ := hrel
    obtain ⟨k1, hk1⟩ : ∃ k1 : Nat, k1 = k + 1 := ⟨_, rfl⟩
    have HLO := HL.out
    have ew : IntKind.i64.wrap ((k : Int) + 1) = (k1 : Int) := by rw [IntWalk.i64_in _ (by omega)]; omega
    have ew2 : wrap64 ((k : Int) + 1) = (k1 : Int) := by rw [IntWalk.wrap64_in _ (by omega)]; omega
    by_cases hlt : j < ts.length
    · have hl1 : (k1 : Int) < (sn : Int) := by omega
      have hl2 : (k : Int) < (sn : Int) := by omega
      have hl0 : (0 : Int) ≤ (k1 : Int) := by omega
      obtain ⟨x, hx⟩ : ∃ x, ts[j]? = some x := ⟨ts[j], List.getElem?_eq_getElem hlt⟩
      have hb := S.bel
      have hT := HS.out.below hb
      have q0 : (ts.flatMap twoC)[k]? = some (.string x.1) := by
        have := flatMapG_at twoC (size := 2) (fun _ => rfl) ts j 0 (by omega)
        rw [hx] at this
        rw [hk]; exact this
      have q1 : (ts.flatMap twoC)[k1]? = some (.string x.2) := by
        have := flatMapG_at twoC (size := 2) (fun _ => rfl) ts j 1 (by omega)
        rw [hx] at this
        rw [hk1, hk]; exact this
      obtain ⟨b, off, ha, zb, _, c0⟩ := hT.one q0
      obtain ⟨b', off', ha', _, _, c1⟩ := hT.one q1
      simp only at ha ha'
      have hbb : b' = b ∧ off' = off := by
        rw [ha] at ha'
        simp at ha'
        exact ⟨ha'.1.symm, ha'.2.symm⟩
      obtain ⟨rfl, rfl⟩ := hbb
      subst ha
      obtain ⟨sv, G, hB, hrow, hG⟩ := S.row
      have hres := S.res
      have HX := hid hx
      have HKK := hid (And.intro hk hk1)
      clear hx q0 q1 ha' hT S hk hk1 HLO
      go_upto_region 5 with (fail)
      have hbs := hb.size
      have hlt8 : (ts.take j).length = j := by simp; omega
      obtain ⟨va, vc, rfl, -⟩ := hrow.form
      have hrowD : RowIs wr.drew (.slice va (ts.take j).length vc) G 57 5 (ts.take j).length (pairsC (ts.take j)) := hrow.keep (fun g hg => rfl)
      obtain ⟨v', W1, G', g1, g2, g3, g4, ro, rt, rp, rz⟩ := grow_st hrowD (by omega) x
      obtain ⟨va', vc', rfl, -⟩ := g2.form
      have htake : ts.take j ++ [x] = ts.take (j + 1) := by rw [List.take_add_one, HX.out]; rfl
      rw [htake] at g1 g2
      have tz := hB.lt
      have B1 := hB.keep (w' := W1) (g4 tb tz (fun e => (hG tb e).2.1 rfl))
      have R1 := hres.keep (w' := W1) (g4 w.heap.size hres.lt (fun e => (hG _ e).2.2 rfl))
      have hG' : w.heap.size ≤ G' ∧ G' ≠ tb ∧ G' ≠ w.heap.size := by
        rcases g3 with e | ⟨e, _⟩
        · exact hG G' e
        · have : wr.drew.heap.size = wr.heap.size := rfl
          have := hres.lt
          exact ⟨by omega, by omega, by omega⟩
      have hb1 : Below w.heap.size w W1 := hb.trans ⟨ro, rt, rp, rz, fun q hq => g4 q (Nat.lt_of_lt_of_le hq hbs) (fun e => by have := (hG q e).1; omega)⟩
      have hfin : StSt w (ts.take (j + 1)) tb w.heap.size (W1.setCell ⟨tb, 2, none⟩ (.slice va' (ts.take (j + 1)).length vc')) :=
        ⟨hb1.setCell hge _, ⟨_, some G', (B1.set_ 2 _).cast rfl, g2.keep (fun g hg => by cases hg; exact Below.heap_setCell _ _ _ _ hG'.2.1), fun g hg => by cases hg; exact hG'⟩, R1.keep (Below.heap_setCell _ _ _ _ hne)⟩
      have HFIN := hid hfin
      have Q1 := hid g1
      have e2 := B1.cell 2
      have f2 := B1.free 2
      have z2 := B1.lt
      have c2 := hB.cell 2
      have cx : (wr.drew.heap.size) = wr.heap.size := rfl
      simp only [pgC, List.getElem?_cons_zero, List.getElem?_cons_succ] at e2 c2
      have htl : (ts.take (j + 1)).length = j + 1 := by simp; omega
      rw [htl] at HFIN Q1
      rw [hlt8] at Q1 e2 c2
      obtain ⟨xa, xb⟩ := x
      simp only at c0 c1
      have hpc : (pairCells (xa, xb)).toArray = #[.string xa, .slice none 0 0, .string xb, .slice none 0 0, .slice none 0 0] := rfl
      rw [hpc] at Q1
      clear hfin g1 g2 g3 g4 ro rt rp rz B1 R1 hG' hb1 hrowD hrow hB hres htake hpc cx
      refine wp_region_stage [12, 13, 15] (fun i W => (i = 0 → W = wr.drew) ∧ (i = 1 → W = wr.drew.alloc (.cells #[.string xa, .slice none 0 0, .string xb, .slice none 0 0, .slice none 0 0] 57)) ∧ (i = 2 → W = W1) ∧ (i = 3 → W = W1.setCell ⟨tb, 2, none⟩ (.slice va' (j + 1) vc'))) (by kernel_rfl) (by kernel_rfl) (by kernel_rfl) (by kernel_rfl) ⟨fun _ => rfl, fun h => by omega, fun h => by omega, fun h => by omega⟩ (fun F' hF' => ?_)
      have HF := hid hF'
      clear hF'
      refine sg_any rfl rfl (fun _ => by go_simp; with_reducible rfl) ?_
      simp only [Act.put, List.setIfInBounds_toArray, List.set_cons_zero, List.set_cons_succ]
      refine sg_read 0 1 rfl (by decide +kernel) (by decide +kernel) rfl (fun ii w' l' u hR => by
        rcases (show ii = 0 ∨ ii = 1 by omega) with rfl | rfl
        · rw [hR.1 rfl]; clear hR; go_simp; with_reducible rfl
        · rw [hR.2.1 rfl]; clear hR; first | (go_simp; done) | (go_simp; with_reducible rfl)) ?_
      simp only [Act.put, List.setIfInBounds_toArray, List.set_cons_zero, List.set_cons_succ]
      iterate 3 (refine sg_any rfl rfl (fun _ => by go_simp; with_reducible rfl) ?_; simp only [Act.put, List.setIfInBounds_toArray, List.set_cons_zero, List.set_cons_succ])
      refine sg_read 0 0 rfl (by decide +kernel) (by decide +kernel) rfl (fun ii w' l' u hR => by
        rw [hR.1 (by omega)]; clear hR; first | (go_simp; done) | (go_simp; with_reducible rfl)) ?_
      simp only [Act.put, List.setIfInBounds_toArray, List.set_cons_zero, List.set_cons_succ]
      iterate 4 (refine sg_any rfl rfl (fun _ => by go_simp; with_reducible rfl) ?_; simp only [Act.put, List.setIfInBounds_toArray, List.set_cons_zero, List.set_cons_succ])
      refine sg_read 0 0 rfl (by decide +kernel) (by decide +kernel) rfl (fun ii w' l' u hR => by
        rw [hR.1 (by omega)]; clear hR; first | (go_simp; done) | (go_simp; with_reducible rfl)) ?_
      simp only [Act.put, List.setIfInBounds_toArray, List.set_cons_zero, List.set_cons_succ]
      refine sg_any rfl rfl (fun _ => by go_simp; with_reducible rfl) ?_
      simp only [Act.put, List.setIfInBounds_toArray, List.set_cons_zero, List.set_cons_succ]
      refine sg_turn 0 (v := .slice (some ⟨wr.drew.heap.size, 0, none⟩) 1 1) rfl rfl (fun W hR => ⟨wr.drew.alloc (.cells #[.string xa, .slice none 0 0, .string xb, .slice none 0 0, .slice none 0 0] 57), by rw [hR.1 rfl]; clear hR; go_simp, fun h => by omega, fun _ => rfl, fun h => by omega, fun h => by omega⟩) ?_
      simp only [Act.put, List.setIfInBounds_toArray, List.set_cons_zero, List.set_cons_succ]
      refine sg_turn 1 (v := .slice va' (j + 1) vc') rfl rfl (fun W hR => ⟨W1, by rw [hR.2.1 rfl]; clear hR; exact run_append_op _ _ _ _ _ _ _ _ _ Q1.out, fun h => by omega, fun h => by omega, fun _ => rfl, fun h => by omega⟩) ?_
      simp only [Act.put, List.setIfInBounds_toArray, List.set_cons_zero, List.set_cons_succ]
      refine sg_any rfl rfl (fun _ => by go_simp; with_reducible rfl) ?_
      simp only [Act.put, List.setIfInBounds_toArray, List.set_cons_zero, List.set_cons_succ]
      refine sg_do 2 rfl rfl (fun W hR => ⟨W1.setCell ⟨tb, 2, none⟩ (.slice va' (j + 1) vc'), by rw [hR.2.2.1 rfl]; clear hR; go_simp, fun h => by omega, fun h => by omega, fun h => by omega, fun _ => rfl⟩) ?_
      simp only [Act.put, List.setIfInBounds_toArray, List.set_cons_zero, List.set_cons_succ]
      refine sg_end (HF.out _ (fun w3 hR => ?_))
      obtain rfl := hR.2.2.2 rfl
      clear hR HF F' Q1 c2 e2 f2 z2
      have hk9 := HKK.out.1
      have hl9 := HL.out
      have ew3 : wrap64 ((k : Int) + 2) = (k : Int) + 2 := IntWalk.wrap64_in _ (by omega)
      have HW3 := hid ew3
      clear ew3
      go_wp2_with fail
      go_roundw
      case rel => exact ⟨j + 1, k + 2, hlt, by omega, by go_num, HFIN.out⟩
      case measure => simp [intOf, HW3.out]; omega
    · obtain rfl : j = ts.length := by omega
      have hl1 : ¬ (k1 : Int) < (sn : Int) := by omega
      rw [List.take_length] at S
      obtain ⟨sv, G, hB, hrow, hG⟩ := S.row
      have hres := S.res
      have HSS := hid S
      have HRR := hid (And.intro hrow hG)
      clear S hrow hG HLO
      go_upto_region 6 with (fail)
      refine wp_region_doc (fun F' hF => ?_)
      have HF := hid hF
      clear hF
      refine doc_val rfl (load_struct_op _ _ _ _ _ _ _ _ Try.underlying30 (pg_size _ rfl) rfl hB) ?_
      simp only [Act.put, List.setIfInBounds_toArray, List.set_cons_zero, List.set_cons_succ]
      obtain ⟨st, hst, hsn, hrd⟩ := RowIs.rdS HRR.out.1
      subst hst
      refine doc_skip rfl (store_row_op (xs := pgC (.slice none 0 0)) (ys := pgC st.v) _ _ _ _ _ _ _ _ _ (pg_size _ rfl) rfl rfl rfl rfl hres) ?_
      simp only [Act.put, List.setIfInBounds_toArray, List.set_cons_zero, List.set_cons_succ]
      refine doc_end (HF.out _ _ ?_)
      clear HF F'
      have bZ := hres.row (pgC st.v)
      have hbZ : Below w.heap.size w (wr.setRow w.heap.size (pgC st.v).toArray) := Below.setRow HSS.out.bel (Nat.le_refl _) _
      have kZ : ∀ g, g ≠ w.heap.size → (wr.setRow w.heap.size (pgC st.v).toArray).heap[g]? = wr.heap[g]? := fun g hg => by
        unfold World.setRow; simp [Array.getElem?_modify, show ¬ w.heap.size = g from fun e => hg e.symm]
      have rZ := HRR.out.1.keep (w' := wr.setRow w.heap.size (pgC st.v).toArray) (fun g hg => kZ g (HRR.out.2 g hg).2.2)
      generalize wr.setRow w.heap.size (pgC st.v).toArray = Z at *
      have y0 := bZ.cell 0
      have y1 := bZ.cell 1
      have y2 := bZ.cell 2
      have y3 := bZ.cell 3
      have y4 := bZ.cell 4
      have y5 := bZ.cell 5
      have y6 := bZ.cell 6
      simp only [pgC, List.getElem?_cons_zero, List.getElem?_cons_succ] at y0 y1 y2 y3 y4 y5 y6
      go_wp2_with fail
      (try simp only [Exit.inBlock, Exit.then])
      refine bodyPost_ret (v := .agg #[.slice none 0 0, .slice none 0 0, st.v, .slice none 0 0, .slice none 0 0, .slice none 0 0, .slice none 0 0]) (by simp [results, Try.results12, go_sem, y0, y1, y2, y3, y4, y5, y6]) rfl ?_
      have hZr : RdS Z 5 st (pairsC ts) := by
        obtain ⟨st2, hst2, hsn2, hrd2⟩ := RowIs.rdS rZ
        have : st2 = st := by
          obtain ⟨a1, a2, a3⟩ := st
          obtain ⟨b1, b2, b3⟩ := st2
          simp at hst2
          obtain ⟨q1, q2, q3⟩ := hst2
          subst q1 q2 q3
          rfl
        subst this
        exact hrd2
      refine ⟨st, rfl, ⟨List.replicate ts.length stcNil, by simp, by rw [← pairsC_zip]; exact hZr, fun i a c ha hc => ?_⟩, hZr, hbZ⟩
      · have hcn : c = stcNil := by
          rw [List.getElem?_replicate] at hc
          split at hc
          · simpa using hc.symm
          · cases hc
        subst hcn
        rw [List.getElem?_map] at ha
        obtain ⟨y, _, rfl⟩ := Option.map_eq_some_iff.1 ha
        exact ⟨rdNil, rfl, fun i t ht => by simp [pairSt] at ht⟩
end Go.Proofs.Ytidnhnfmbebeaaa
set_option linter.unusedVariables false
set_option linter.unusedSimpArgs false
namespace Go.Proofs.Ytidnhnfmbebeaaa
open Go.RowKit Go.Gr

/-- An item: its kind, and of which one it is. -/
structure It where
  kind : Int
  a : Int
def itC (x : It) : List Value := [.int .u8 x.kind, .int .i64 x.a, .int .i64 0, .int .u8 0, .string ⟨#[]⟩, .string ⟨#[]⟩, .int .u8 0, .int .i64 0, .int .u64 0, .int .u64 0, .string ⟨#[]⟩, .string ⟨#[]⟩, .int .i64 0, .int .i64 0, .slice none 0 0, .slice none 0 0, .slice none 0 0]
abbrev itV (x : It) : Value := .agg #[.int .u8 x.kind, .int .i64 x.a, .int .i64 0, .int .u8 0, .string ⟨#[]⟩, .string ⟨#[]⟩, .int .u8 0, .int .i64 0, .int .u64 0, .int .u64 0, .string ⟨#[]⟩, .string ⟨#[]⟩, .int .i64 0, .int .i64 0, .slice none 0 0, .slice none 0 0, .slice none 0 0]

/-- The program that the iterator reads. -/
structure AllW (W : World) (pb sb : Nat) (st : SL) (ts : List (ByteArray × ByteArray)) : Prop where
  pblk : Blk W pb 30 (pgC st.v)
  rd : RdS W 5 st (pairsC ts)
  at_ : ∀ b off, st.a = some ⟨b, off, none⟩ → b = sb
  sz : sb < W.heap.size
theorem AllW.kept {W W' : World} {pb sb : Nat} {st : SL} {ts : List (ByteArray × ByteArray)} (h : AllW W pb sb st ts) (k : Kept [pb, sb] W W') : AllW W' pb sb st ts :=
  ⟨h.pblk.keep (k.2 pb (by simp)), h.rd.keep k.1 (fun b off e _ => k.2 b (by rw [h.at_ b off e]; simp)), h.at_, Nat.lt_of_lt_of_le h.sz k.1⟩
theorem AllW.lt {W : World} {pb sb : Nat} {st : SL} {ts : List (ByteArray × ByteArray)} (h : AllW W pb sb st ts) : ∀ q ∈ [pb, sb], q < W.heap.size := fun q hq => by
  simp only [List.mem_cons, List.not_mem_nil, or_false] at hq
  rcases hq with rfl | rfl
  · exact h.pblk.lt
  · exact h.sz

/-- A round goes on, whatever the item, as long as fewer than m were told. -/
def GoesOn (m : Nat) (T : List Nat) (l : Nat) (J : List It → List Nat → World → Prop) : Prop :=
  ∀ pre B x W1, J pre B W1 → pre.length < m → (∀ q ∈ T, q ∉ B) → YieldAt Fence.wide 0 Try.prog l #[itV x] W1 fun e W' =>
    e = .returned (.bool true) ∧ J (pre ++ [x]) B W' ∧ Kept (T ++ B) W1 W'
/-- A part of the walk has told L. -/
def Told (T : List Nat) (J : List It → List Nat → World → Prop) (pre L : List It) (B : List Nat) (W : World) (e : Ending) (W' : World) : Prop :=
  e = .returned (.bool true) ∧ J (pre ++ L) B W' ∧ Kept (T ++ B) W W'

theorem many_none (k a : Int) (f : Value) (w : World) : Calls Try.prog 42 #[.int .u8 k, .int .i64 a, .int .i64 0, f] w (Pure (.bool true) w) := by
  go_enter Try.func42, Try.ntmps42
  go_wp2_with fail
  go_rounds 1
  all_goals (first | (go_returns; exact Pure.of rfl (by (repeat' (first | (with_reducible exact Below.refl _ _) | (with_reducible refine Below.ext_mk ?_ ?_ _ _) | (with_reducible refine Below.alloc ?_ ?_ _) | (with_reducible refine Below.drew ?_) | (with_reducible refine Below.setCell ?_ ?_ _) | go_size)))) | skip)
theorem each_none (k : Int) (f g : Value) (w : World) : Calls Try.prog 40 #[.int .u8 k, .int .i64 0, f, g] w (Pure (.bool true) w) := by
  go_enter Try.func40, Try.ntmps40
  go_wp2_with fail
  go_rounds 1
  all_goals (first | (go_returns; exact Pure.of rfl (by (repeat' (first | (with_reducible exact Below.refl _ _) | (with_reducible refine Below.ext_mk ?_ ?_ _ _) | (with_reducible refine Below.alloc ?_ ?_ _) | (with_reducible refine Below.drew ?_) | (with_reducible refine Below.setCell ?_ ?_ _) | go_size)))) | skip)
theorem stmts_none (k : Int) (f : Value) (w : World) : Calls Try.prog 45 #[.int .i64 k, .slice none 0 0, f] w (Pure (.bool true) w) := by
  go_enter Try.func45, Try.ntmps45
  go_wp2_with fail
  go_rounds 1
  all_goals (first | (go_returns; exact Pure.of rfl (by (repeat' (first | (with_reducible exact Below.refl _ _) | (with_reducible refine Below.ext_mk ?_ ?_ _ _) | (with_reducible refine Below.alloc ?_ ?_ _) | (with_reducible refine Below.drew ?_) | (with_reducible refine Below.setCell ?_ ?_ _) | go_size)))) | skip)
end Go.Proofs.Ytidnhnfmbebeaaa
set_option linter.unusedVariables false
set_option linter.unusedSimpArgs false
namespace Go.Proofs.Ytidnhnfmbebeaaa
open Go.RowKit Go.Gr

theorem pairsC_at {ts : List (ByteArray × ByteArray)} {i : Nat} {x : ByteArray × ByteArray} (hx : ts[i]? = some x) (j : Nat) (v : Value) (hj : (pairCells x)[j]? = some v) : (pairsC ts)[i * 5 + j]? = some v := by
  have h5 : j < 5 := (List.getElem?_eq_some_iff.1 hj).1
  have := flatMapG_at pairCells (size := 5) (fun _ => rfl) ts i j h5
  rw [hx] at this
  exact this.trans hj

section
variable {pb sb : Nat} {st : SL} {ts : List (ByteArray × ByteArray)} {l m : Nat} {J : List It → List Nat → World → Prop}

set_option maxRecDepth 100000 in
set_option maxHeartbeats 2000000 in
theorem in3_any (hJ : AbB J) (hY : GoesOn m [pb, sb] l J) {pre : List It} {B : List Nat} {W : World} (hA : AllW W pb sb st ts) (hlen : st.n = ts.length) {yb : Nat} (hyb : yb ∈ B) (cy : W.cell? ⟨yb, 0, none⟩ = some (.func (.yield l) #[] #[]))
    (hB : ∀ q ∈ B, q < W.heap.size) (hTB : ∀ q ∈ [pb, sb], q ∉ B) (h0 : J pre B W) (hpm : pre.length < m) (i : Nat) (hi : i < ts.length) :
    Calls Try.prog 43 #[.int .i64 (i : Int), .pointer (some ⟨pb, 0, none⟩), .pointer (some ⟨yb, 0, none⟩)] W (Told [pb, sb] J pre [⟨6, (i : Int)⟩] B W) := by
  obtain ⟨x, hx⟩ : ∃ x, ts[i]? = some x := ⟨ts[i], List.getElem?_eq_getElem hi⟩
  have hi1 : (i : Int) < (ts.length : Int) := by omega
  have hi0 : (0 : Int) ≤ (i : Int) := by omega
  have p2 := hA.pblk.cell 2
  have pz := hA.pblk.lt
  have yz := hB yb hyb
  have hrn := hA.rd.2.1
  have hrc := hA.rd.1
  obtain ⟨b, off, ha, zb, hcell⟩ := RdS.cells hA.rd (i := i) (by omega)
  have hat := hA.at_ b off ha
  have d0 := hcell 0 _ (pairsC_at hx 0 _ rfl)
  have d1 := hcell 1 _ (pairsC_at hx 1 _ rfl)
  have d2 := hcell 2 _ (pairsC_at hx 2 _ rfl)
  have d3 := hcell 3 _ (pairsC_at hx 3 _ rfl)
  have d4 := hcell 4 _ (pairsC_at hx 4 _ rfl)
  simp only [Nat.add_zero] at d0
  have HA := hid hA
  have HB := hid hB
  have HTB := hid hTB
  have H0 := hid h0
  obtain ⟨sa, sn, sc⟩ := st
  simp only at ha hlen hrn hrc
  subst ha hlen hat
  simp only [pgC, List.getElem?_cons_zero, List.getElem?_cons_succ, SL.v_mk] at p2
  obtain ⟨xa, xb⟩ := x
  simp only at d0 d2
  clear hA hB hTB h0 hcell hx
  go_enter Try.func43, Try.ntmps43
  go_upto_region 2 with (fail)
  refine wp_gen (fun V hV => ?_)
  have hbV : Below W.heap.size W V := by rw [hV]; ((repeat' (first | (with_reducible exact Below.refl _ _) | (with_reducible refine Below.ext_mk ?_ ?_ _ _) | (with_reducible refine Below.alloc ?_ ?_ _) | (with_reducible refine Below.drew ?_) | (with_reducible refine Below.setCell ?_ ?_ _) | go_size)))
  have zV0 : W.heap.size < V.heap.size := by rw [hV]; first | (simp; done) | (simp; omega)
  have cV0_0 : V.cell? ⟨W.heap.size, 0, none⟩ = some (.string xa) := by rw [hV]; first | (go_simp; done) | (rw [World.cell?_alloc_past _ _ _ (by first | (simp; done) | (simp; omega))]; go_simp)
  have cV0_1 : V.cell? ⟨W.heap.size, 1, none⟩ = some (.slice none 0 0) := by rw [hV]; first | (go_simp; done) | (rw [World.cell?_alloc_past _ _ _ (by first | (simp; done) | (simp; omega))]; go_simp)
  have cV0_2 : V.cell? ⟨W.heap.size, 2, none⟩ = some (.string xb) := by rw [hV]; first | (go_simp; done) | (rw [World.cell?_alloc_past _ _ _ (by first | (simp; done) | (simp; omega))]; go_simp)
  have cV0_3 : V.cell? ⟨W.heap.size, 3, none⟩ = some (.slice none 0 0) := by rw [hV]; first | (go_simp; done) | (rw [World.cell?_alloc_past _ _ _ (by first | (simp; done) | (simp; omega))]; go_simp)
  have cV0_4 : V.cell? ⟨W.heap.size, 4, none⟩ = some (.slice none 0 0) := by rw [hV]; first | (go_simp; done) | (rw [World.cell?_alloc_past _ _ _ (by first | (simp; done) | (simp; omega))]; go_simp)
  clear hV
  clear d0 d1 d2 d3 d4 p2
  have hnew : W.heap.size ∉ B := fun hm => by have := HB.out _ hm; omega
  have JV : J pre (W.heap.size :: B) V := hJ _ _ _ _ _ H0.out (step_below hbV (fun k hk => by
    rcases List.mem_cons.1 hk with rfl | hk
    · exact .inr ⟨Nat.le_refl _, zV0⟩
    · exact .inl hk))
  have hT2 : ∀ q ∈ [pb, b], q ∉ W.heap.size :: B := fun q hq hm => by
    rcases List.mem_cons.1 hm with rfl | hm
    · have := HA.out.lt _ hq; omega
    · exact HTB.out q hq hm
  have KV : Kept ([pb, b] ++ B) W V := Kept.of_below hbV (fun q hq => (List.mem_append.1 hq).elim (HA.out.lt q) (HB.out q))
  have cy2 := (hbV.cell (p := ⟨yb, 0, none⟩) yz).trans cy
  have yz2 := Nat.lt_of_lt_of_le yz hbV.size
  have HKV := hid KV
  have M1 := fun w => many_none 5 (i : Int) (.func (.yield l) #[] #[]) w
  have M2 := fun w => many_none 7 (i : Int) (.func (.yield l) #[] #[]) w
  have hbb := Below.size hbV
  refine wp_region_dy (by kernel_rfl) (fun F' hF0 => ?_)
  have HF := hid hF0
  clear hF0
  iterate 5 (refine dy_val rfl (by first | (go_simp; done) | (go_simp; exact ⟨rfl, rfl⟩) | (go_simp; with_reducible rfl)) ?_; simp only [Act.put, List.setIfInBounds_toArray, List.set_cons_zero, List.set_cons_succ])
  refine dy_call rfl (by first | (go_simp; done) | (go_simp; exact ⟨rfl, rfl⟩) | (go_simp; with_reducible rfl)) ((M1 _).mono ?_)
  rintro _ _ ⟨rfl, m1, q1, rfl⟩
  refine ⟨_, rfl, ?_⟩
  simp only [Act.put, List.setIfInBounds_toArray, List.set_cons_zero, List.set_cons_succ]
  have hbX : Below V.heap.size V (V.ext m1 q1) := Below.ext_mk (Below.refl _ _) (Nat.le_refl _) _ _
  have hbW : Below W.heap.size W (V.ext m1 q1) := hbV.trans (hbX.mono hbV.size)
  have JX : J pre (W.heap.size :: B) (V.ext m1 q1) := hJ _ _ _ _ _ JV (step_below hbX (fun k hk => .inl hk))
  have t4 := (hbX.cell (p := ⟨W.heap.size, 4, none⟩) zV0).trans cV0_4
  have tz := Nat.lt_of_lt_of_le zV0 hbX.size
  have cy3 := (hbX.cell (p := ⟨yb, 0, none⟩) yz2).trans cy2
  have yz3 := Nat.lt_of_lt_of_le yz2 hbX.size
  have KX : Kept ([pb, b] ++ B) W (V.ext m1 q1) := Kept.of_below hbW (fun q hq => (List.mem_append.1 hq).elim (HA.out.lt q) (HB.out q))
  generalize V.ext m1 q1 = X at *
  obtain ⟨fn, tmps, assign, body, hy, hR⟩ := hY pre (W.heap.size :: B) ⟨6, (i : Int)⟩ X JX hpm hT2
  have HR := hid hR
  have HKX := hid KX
  clear hR JX KX hbW HKV KV JV
  iterate 4 (refine dy_val rfl (by first | (go_simp; done) | (go_simp; exact ⟨rfl, rfl⟩) | (go_simp; with_reducible rfl)) ?_; simp only [Act.put, List.setIfInBounds_toArray, List.set_cons_zero, List.set_cons_succ])
  refine dy_round rfl (by go_simp; exact run_call_yield hy) (HR.out.mono ?_)
  rintro e W2 ⟨rfl, J2, K2⟩
  refine ⟨_, rfl, ?_⟩
  simp only [Act.put, List.setIfInBounds_toArray, List.set_cons_zero, List.set_cons_succ]
  have t5 := (cell_of_heap 4 (K2.2 W.heap.size (by simp))).trans t4
  have tz2 := Nat.lt_of_lt_of_le tz K2.1
  have cy4 := (cell_of_heap 0 (K2.2 yb (by simp [hyb]))).trans cy3
  have yz4 := Nat.lt_of_lt_of_le yz3 K2.1
  have J3 : J (pre ++ [⟨6, (i : Int)⟩]) B W2 := hJ _ _ _ _ _ J2 (step_drop _ (fun k hk => by simp [hk]))
  have K3 : Kept ([pb, b] ++ B) W W2 := HKX.out.trans (K2.sub (fun q hq => by
    simp only [List.mem_append, List.mem_cons] at hq ⊢
    rcases hq with h | h
    · exact .inl h
    · exact .inr (.inr h)))
  have HJK := hid (And.intro J3 K3)
  clear J2 K2 J3 K3 t4 cy3 hy HR HKX
  iterate 7 (refine dy_val rfl (by first | (go_simp; done) | (go_simp; exact ⟨rfl, rfl⟩) | (go_simp; with_reducible rfl)) ?_; simp only [Act.put, List.setIfInBounds_toArray, List.set_cons_zero, List.set_cons_succ])
  refine dy_call rfl (by first | (go_simp; done) | (go_simp; exact ⟨rfl, rfl⟩) | (go_simp; with_reducible rfl)) ((M2 _).mono ?_)
  rintro _ _ ⟨rfl, m2, q2, rfl⟩
  refine ⟨_, rfl, ?_⟩
  simp only [Act.put, List.setIfInBounds_toArray, List.set_cons_zero, List.set_cons_succ]
  iterate 2 (refine dy_val rfl (by first | (go_simp; done) | (go_simp; exact ⟨rfl, rfl⟩) | (go_simp; with_reducible rfl)) ?_; simp only [Act.put, List.setIfInBounds_toArray, List.set_cons_zero, List.set_cons_succ])
  refine dy_end (HF.out _ _ ?_)
  clear HF F'
  go_wp2_with fail
  go_returns
  have hbY : Below W2.heap.size W2 (W2.ext m2 q2) := Below.ext_mk (Below.refl _ _) (Nat.le_refl _) _ _
  refine ⟨rfl, hJ _ _ _ _ _ HJK.out.1 (step_below hbY (fun k hk => .inl hk)), HJK.out.2.trans (Kept.of_below hbY (fun q hq => ?_))⟩
  have h1 : q < W.heap.size := (List.mem_append.1 hq).elim (HA.out.lt q) (HB.out q)
  exact Nat.lt_of_lt_of_le h1 HJK.out.2.1

/-- The items of k states. -/
def itemsN : Nat → List It
  | 0 => []
  | k + 1 => itemsN k ++ [⟨4, (k : Int)⟩, ⟨6, (k : Int)⟩]
theorem itemsN_len : ∀ k, (itemsN k).length = 2 * k
  | 0 => rfl
  | k + 1 => by rw [itemsN, List.length_append, itemsN_len k]; simp; omega
set_option maxRecDepth 100000 in
set_option maxHeartbeats 2000000 in
theorem each_any (hJ : AbB J) (hY : GoesOn m [pb, sb] l J) {pre : List It} {B : List Nat} {W : World} (hA : AllW W pb sb st ts) (hlen : st.n = ts.length) {yb : Nat} (hyb : yb ∈ B) (cy : W.cell? ⟨yb, 0, none⟩ = some (.func (.yield l) #[] #[]))
    (hB : ∀ q ∈ B, q < W.heap.size) (hTB : ∀ q ∈ [pb, sb], q ∉ B) (h0 : J pre B W) (hpm : pre.length + 2 * ts.length ≤ m) (hn : ts.length ≤ 100) :
    Calls Try.prog 40 #[.int .u8 4, .int .i64 (ts.length : Int), .func (.yield l) #[] #[], .func (.func 43) #[] #[.pointer (some ⟨pb, 0, none⟩), .pointer (some ⟨yb, 0, none⟩)]] W (Told [pb, sb] J pre (itemsN ts.length) B W) := by
  have HA := hid hA
  have HB := hid hB
  have H0 := hid h0
  have HL := hid hlen
  clear hA hB h0 hlen
  go_enter Try.func40, Try.ntmps40
  go_wp2_with fail
  go_loopw [11] (fun ix wr => ∃ k : Nat, k ≤ ts.length ∧ ix = .int .i64 k ∧ J (pre ++ itemsN k) B wr ∧ Kept ([pb, sb] ++ B) W wr) (fun ix _ => ts.length - (intOf ix).toNat)
  case atStart => exact ⟨0, by omega, rfl, by simpa [itemsN] using H0.out, Kept.refl _ _⟩
  case round =>
    obtain ⟨k, hk, rfl, hJk, hK⟩ := hrel
    have HK := hid hK
    clear hK
    by_cases hlt : k < ts.length
    · have hk1 : (k : Int) < (ts.length : Int) := by omega
      obtain ⟨fn, tmps, assign, body, hy, hR⟩ := hY (pre ++ itemsN k) B ⟨4, (k : Int)⟩ wr hJk (by rw [List.length_append, itemsN_len]; omega) hTB
      have HR := hid hR
      clear hR hJk
      go_upto_region 4 with (fail)
      refine wp_region_dy (by kernel_rfl) (fun F' hF0 => ?_)
      have HF := hid hF0
      clear hF0
      iterate 4 (refine dy_val rfl (by first | (go_simp; done) | (go_simp; exact ⟨rfl, rfl⟩) | (go_simp; with_reducible rfl)) ?_; simp only [Act.put, List.setIfInBounds_toArray, List.set_cons_zero, List.set_cons_succ])
      refine dy_round rfl (by go_simp; exact run_call_yield hy) (HR.out.mono ?_)
      rintro e W2 ⟨rfl, J2, K2⟩
      refine ⟨_, rfl, ?_⟩
      simp only [Act.put, List.setIfInBounds_toArray, List.set_cons_zero, List.set_cons_succ]
      have K3 := HK.out.trans K2
      have hyz : yb < W.heap.size := HB.out yb hyb
      have cy2 := (cell_of_heap 0 (K3.2 yb (by simp [hyb]))).trans cy
      have A2 := HA.out.kept (K3.sub (fun q hq => List.mem_append_left _ hq))
      have IN := in3_any hJ hY A2 HL.out hyb cy2 (fun q hq => Nat.lt_of_lt_of_le (HB.out q hq) K3.1) hTB J2 (by simp only [List.length_append, itemsN_len, List.length_cons, List.length_nil]; omega) k hlt
      have HK3 := hid K3
      clear J2 K2 K3 cy2 A2 hy HR
      iterate 4 (refine dy_val rfl (by first | (go_simp; done) | (go_simp; exact ⟨rfl, rfl⟩) | (go_simp; with_reducible rfl)) ?_; simp only [Act.put, List.setIfInBounds_toArray, List.set_cons_zero, List.set_cons_succ])
      refine dy_call rfl (by first | (go_simp; done) | (go_simp; exact ⟨rfl, rfl⟩) | (go_simp; with_reducible rfl)) (IN.mono ?_)
      rintro e W4 ⟨rfl, J4, K4⟩
      refine ⟨_, rfl, ?_⟩
      simp only [Act.put, List.setIfInBounds_toArray, List.set_cons_zero, List.set_cons_succ]
      have HJ4 := hid (And.intro J4 (HK3.out.trans K4))
      clear J4 K4 IN
      iterate 2 (refine dy_val rfl (by first | (go_simp; done) | (go_simp; exact ⟨rfl, rfl⟩) | (go_simp; with_reducible rfl)) ?_; simp only [Act.put, List.setIfInBounds_toArray, List.set_cons_zero, List.set_cons_succ])
      refine dy_end (HF.out _ _ ?_)
      clear HF F'
      go_wp2_with fail
      go_roundw
      case rel =>
        refine ⟨k + 1, hlt, by go_num, ?_, HJ4.out.2⟩
        have := HJ4.out.1
        rw [List.append_assoc, List.append_assoc] at this
        exact this
      case measure => simp [intOf]; omega
    · obtain rfl : k = ts.length := by omega
      have HJ4 := hid hJk
      clear hJk
      go_wp2_with fail
      go_returns
      exact ⟨rfl, HJ4.out, HK.out⟩

set_option maxRecDepth 100000 in
set_option maxHeartbeats 4000000 in
theorem all1_any (hJ : AbB J) (hY : GoesOn m [pb, sb] l J) {W : World} (hA : AllW W pb sb st ts) (hlen : st.n = ts.length) (h0 : J [] [] W) (hpm : 2 * ts.length ≤ m) (hn : ts.length ≤ 100) :
    Calls Try.prog 38 #[.func (.yield l) #[] #[], .pointer (some ⟨pb, 0, none⟩)] W (fun e W' => (∃ v, e = .returned v) ∧ ∃ B, J (itemsN ts.length) B W') := by
  have hmf : ∀ (fn : Fn) (first cap : Array Value) (w : World), (Instr.makeFunc fn first cap).run Try.prog w = .ok (.func fn first cap) w := fun _ _ _ _ => rfl
  have p0 := hA.pblk.cell 0
  have p1 := hA.pblk.cell 1
  have p2 := hA.pblk.cell 2
  have p3 := hA.pblk.cell 3
  have p4 := hA.pblk.cell 4
  have p5 := hA.pblk.cell 5
  have p6 := hA.pblk.cell 6
  have pz := hA.pblk.lt
  simp only [pgC, List.getElem?_cons_zero, List.getElem?_cons_succ] at p0 p1 p2 p3 p4 p5 p6
  have HA := hid hA
  have H0 := hid h0
  have HL := hid hlen
  obtain ⟨sa, sn, sc⟩ := st
  simp only at hlen
  subst hlen
  simp only [SL.v_mk] at p2
  clear hA h0
  go_enter Try.func38, Try.ntmps38
  go_upto_region 2 with (fail)
  refine wp_gen (fun V hV => ?_)
  have hbV : Below W.heap.size W V := by rw [hV]; ((repeat' (first | (with_reducible exact Below.refl _ _) | (with_reducible refine Below.ext_mk ?_ ?_ _ _) | (with_reducible refine Below.alloc ?_ ?_ _) | (with_reducible refine Below.drew ?_) | (with_reducible refine Below.setCell ?_ ?_ _) | go_size)))
  have zV0 : W.heap.size < V.heap.size := by rw [hV]; first | (simp; done) | (simp; omega)
  have cV0_0 : V.cell? ⟨W.heap.size, 0, none⟩ = some (.func (.yield l) #[] #[]) := by rw [hV]; first | (go_simp; done) | (rw [World.cell?_alloc_past _ _ _ (by first | (simp; done) | (simp; omega))]; go_simp)
  clear hV
  have q0 := (hbV.cell (p := ⟨pb, 0, none⟩) pz).trans p0
  have q1 := (hbV.cell (p := ⟨pb, 1, none⟩) pz).trans p1
  have q2 := (hbV.cell (p := ⟨pb, 2, none⟩) pz).trans p2
  have pz2 : pb < V.heap.size := by omega
  have JV : J [] [W.heap.size] V := hJ _ _ _ _ _ H0.out (step_below hbV (fun k hk => by
    simp only [List.mem_singleton] at hk
    subst hk
    exact .inr ⟨Nat.le_refl _, zV0⟩))
  have AV := HA.out.kept (Kept.of_below hbV HA.out.lt)
  have hTB : ∀ q ∈ [pb, sb], q ∉ [W.heap.size] := fun q hq hm => by
    simp only [List.mem_singleton] at hm
    have := HA.out.lt q hq
    omega
  have JB := hid JV
  have AB := hid AV
  clear JV AV p0 p1 p2
  have E1 := fun k f g w => each_none k f g w
  refine wp_region_doc (fun F' hF0 => ?_)
  have HF := hid hF0
  clear hF0
  iterate 5 (refine doc_val rfl (by first | (go_simp; done) | (go_simp; exact ⟨rfl, rfl⟩) | (go_simp; with_reducible rfl)) ?_; simp only [Act.put, List.setIfInBounds_toArray, List.set_cons_zero, List.set_cons_succ])
  refine doc_call rfl (by first | (go_simp; done) | (go_simp; exact ⟨rfl, rfl⟩) | (go_simp; with_reducible rfl)) ((E1 1 (.func (.yield l) #[] #[]) (.func (.func 41) #[] #[.pointer (some ⟨pb, 0, none⟩), .pointer (some ⟨W.heap.size, 0, none⟩)]) _).mono ?_)
  rintro _ _ ⟨rfl, m1, d1, rfl⟩
  refine ⟨_, rfl, ?_⟩
  simp only [Act.put, List.setIfInBounds_toArray, List.set_cons_zero, List.set_cons_succ]
  iterate 6 (refine doc_val rfl (by first | (go_simp; done) | (go_simp; exact ⟨rfl, rfl⟩) | (go_simp; with_reducible rfl)) ?_; simp only [Act.put, List.setIfInBounds_toArray, List.set_cons_zero, List.set_cons_succ])
  refine doc_call rfl (by first | (go_simp; done) | (go_simp; exact ⟨rfl, rfl⟩) | (go_simp; with_reducible rfl)) ((E1 3 (.func (.yield l) #[] #[]) (.func (.func 39) #[] #[]) _).mono ?_)
  rintro _ _ ⟨rfl, m2, d2, rfl⟩
  refine ⟨_, rfl, ?_⟩
  simp only [Act.put, List.setIfInBounds_toArray, List.set_cons_zero, List.set_cons_succ]
  simp only [World.ext_ext]
  iterate 7 (refine doc_val rfl (by first | (go_simp; done) | (go_simp; exact ⟨rfl, rfl⟩) | (go_simp; with_reducible rfl)) ?_; simp only [Act.put, List.setIfInBounds_toArray, List.set_cons_zero, List.set_cons_succ])
  have hbX : Below V.heap.size V (V.ext (m1 ++ m2) d2) := Below.ext_mk (Below.refl _ _) (Nat.le_refl _) _ _
  have cX := (hbX.cell (p := ⟨W.heap.size, 0, none⟩) zV0).trans cV0_0
  have AX := AB.out.kept (Kept.of_below hbX (AB.out.lt))
  have JX := hJ _ _ _ _ _ JB.out (step_below (B' := [W.heap.size]) hbX (fun k hk => .inl hk))
  have EA := each_any hJ hY AX HL.out (yb := W.heap.size) (by simp) cX (fun q hq => by
    simp only [List.mem_singleton] at hq
    have := hbX.size
    omega) hTB JX (by simpa using hpm) hn
  have zX := Nat.lt_of_lt_of_le zV0 hbX.size
  generalize V.ext (m1 ++ m2) d2 = X at *
  refine doc_call rfl (by first | (go_simp; done) | (go_simp; exact ⟨rfl, rfl⟩) | (go_simp; with_reducible rfl)) (EA.mono ?_)
  rintro _ X2 ⟨rfl, J2, K2⟩
  refine ⟨_, rfl, ?_⟩
  simp only [Act.put, List.setIfInBounds_toArray, List.set_cons_zero, List.set_cons_succ]
  have A2 := AX.kept (K2.sub (fun q hq => List.mem_append_left _ hq))
  have r3 := A2.pblk.cell 3
  have r4 := A2.pblk.cell 4
  have r5 := A2.pblk.cell 5
  have r6 := A2.pblk.cell 6
  have rz := A2.pblk.lt
  simp only [pgC, List.getElem?_cons_zero, List.getElem?_cons_succ] at r3 r4 r5 r6
  have cy := (cell_of_heap 0 (K2.2 W.heap.size (by simp))).trans cX
  have yz := Nat.lt_of_lt_of_le zX K2.1
  have HJ2 := hid J2
  clear J2 K2 A2 EA AX JX JB AB cX zX q0 q1 q2 p3 p4 p5 p6
  iterate 7 (refine doc_val rfl (by first | (go_simp; done) | (go_simp; exact ⟨rfl, rfl⟩) | (go_simp; with_reducible rfl)) ?_; simp only [Act.put, List.setIfInBounds_toArray, List.set_cons_zero, List.set_cons_succ])
  refine doc_call rfl (by first | (go_simp; done) | (go_simp; exact ⟨rfl, rfl⟩) | (go_simp; with_reducible rfl)) ((E1 8 (.func (.yield l) #[] #[]) (.func (.func 44) #[] #[.pointer (some ⟨pb, 0, none⟩), .pointer (some ⟨W.heap.size, 0, none⟩)]) _).mono ?_)
  rintro _ _ ⟨rfl, m3, d3, rfl⟩
  refine ⟨_, rfl, ?_⟩
  simp only [Act.put, List.setIfInBounds_toArray, List.set_cons_zero, List.set_cons_succ]
  iterate 7 (refine doc_val rfl (by first | (go_simp; done) | (go_simp; exact ⟨rfl, rfl⟩) | (go_simp; with_reducible rfl)) ?_; simp only [Act.put, List.setIfInBounds_toArray, List.set_cons_zero, List.set_cons_succ])
  refine doc_call rfl (by first | (go_simp; done) | (go_simp; exact ⟨rfl, rfl⟩) | (go_simp; with_reducible rfl)) ((E1 11 (.func (.yield l) #[] #[]) (.func (.func 46) #[] #[.pointer (some ⟨pb, 0, none⟩), .pointer (some ⟨W.heap.size, 0, none⟩)]) _).mono ?_)
  rintro _ _ ⟨rfl, m4, d4, rfl⟩
  refine ⟨_, rfl, ?_⟩
  simp only [Act.put, List.setIfInBounds_toArray, List.set_cons_zero, List.set_cons_succ]
  simp only [World.ext_ext]
  iterate 5 (refine doc_val rfl (by first | (go_simp; done) | (go_simp; exact ⟨rfl, rfl⟩) | (go_simp; with_reducible rfl)) ?_; simp only [Act.put, List.setIfInBounds_toArray, List.set_cons_zero, List.set_cons_succ])
  refine doc_call rfl (by first | (go_simp; done) | (go_simp; exact ⟨rfl, rfl⟩) | (go_simp; with_reducible rfl)) ((stmts_none (-1) (.func (.yield l) #[] #[]) _).mono ?_)
  rintro _ _ ⟨rfl, m5, d5, rfl⟩
  refine ⟨_, rfl, ?_⟩
  simp only [Act.put, List.setIfInBounds_toArray, List.set_cons_zero, List.set_cons_succ]
  simp only [World.ext_ext]
  iterate 7 (refine doc_val rfl (by first | (go_simp; done) | (go_simp; exact ⟨rfl, rfl⟩) | (go_simp; with_reducible rfl)) ?_; simp only [Act.put, List.setIfInBounds_toArray, List.set_cons_zero, List.set_cons_succ])
  refine doc_call rfl (by first | (go_simp; done) | (go_simp; exact ⟨rfl, rfl⟩) | (go_simp; with_reducible rfl)) ((E1 15 (.func (.yield l) #[] #[]) (.func (.func 39) #[] #[]) _).mono ?_)
  rintro _ _ ⟨rfl, m6, d6, rfl⟩
  refine ⟨_, rfl, ?_⟩
  simp only [Act.put, List.setIfInBounds_toArray, List.set_cons_zero, List.set_cons_succ]
  simp only [World.ext_ext]
  refine doc_val rfl (by first | (go_simp; done) | (go_simp; exact ⟨rfl, rfl⟩) | (go_simp; with_reducible rfl)) ?_
  simp only [Act.put, List.setIfInBounds_toArray, List.set_cons_zero, List.set_cons_succ]
  refine doc_end (HF.out _ _ ?_)
  clear HF F'
  go_wp2_with fail
  go_returns
  refine ⟨⟨_, rfl⟩, [W.heap.size], ?_⟩
  have := HJ2.out
  rw [List.nil_append] at this
  exact hJ _ _ _ _ _ this (step_below (Below.ext_mk (Below.refl _ _) (Nat.le_refl _) _ _) (fun k hk => .inl hk))
end
end Go.Proofs.Ytidnhnfmbebeaaa
set_option linter.unusedVariables false
set_option linter.unusedSimpArgs false
namespace Go.Proofs.Ytidnhnfmbebeaaa
open Go.RowKit Go.Gr

theorem cell_same {W W' : World} {b : Nat} (h : W'.heap[b]? = W.heap[b]?) (i : Nat) : W'.cell? ⟨b, i, none⟩ = W.cell? ⟨b, i, none⟩ := by simp [World.cell?, h]
theorem all_seq {w : World} {pb sb : Nat} {st : SL} {ts : List (ByteArray × ByteArray)} (hA : AllW w pb sb st ts) (hlen : st.n = ts.length) (hn : ts.length ≤ 100) :
    SeqA Try.prog 38 #[.pointer (some ⟨pb, 0, none⟩)] (fun (pre : List It) _ => pre.length < 200) (fun (x : It) => #[itV x]) [pb, sb] (fun xs => xs = itemsN ts.length) (fun _ => False) w := by
  intro l J Jx W hk hJ hJx hno hY h0
  have hG : GoesOn 200 [pb, sb] l J := fun pre B x W1 hj hp hTB => by
    obtain ⟨fn, tmps, assign, body, hy, hR⟩ := hY pre B x W1 hj hp hTB
    refine ⟨fn, tmps, assign, body, hy, RoundIn.mono hR (fun e W' h => ?_)⟩
    rcases h with h | ⟨_, h⟩
    · exact h
    · exact (hno _ _ _ h).elim
  have := all1_any hJ hG (hA.kept hk) hlen h0 (by omega) hn
  refine Calls.mono this (fun e W' h => ?_)
  obtain ⟨hv, B, hJ'⟩ := h
  exact ⟨hv, .inl ⟨_, B, rfl, hJ'⟩⟩

/-- Items in a row. -/
def itsC (l : List It) : List Value := l.flatMap itC
theorem itsC_len (l : List It) : (itsC l).length = l.length * 17 := flatMapG_len itC (fun _ => rfl) l
theorem infoIt_some : (Try.prog.info? 91).isSome = true := by kernel_rfl
noncomputable def infoIt : TypeInfo := (Try.prog.info? 91).get infoIt_some
theorem infoIt_is : Try.prog.info? 91 = some infoIt := (Option.some_get _).symm
theorem infoIt_zero : infoIt.zero = some (itV ⟨0, 0⟩) := by kernel_rfl
theorem infoIt_size : infoIt.size = 17 := by kernel_rfl
theorem infoIt_bytes : infoIt.bytes ≤ 1000 := by decide +kernel
/-- One more item at a row's end. -/
theorem grow_it {w : World} {sv : Value} {G : Option Nat} {l : List It} (h : RowIs w sv G 91 17 l.length (itsC l)) (hk : l.length ≤ 1000) (x : It) :
    ∃ v' w1 G', (Builtin.append_ #[85, 85] 85 #[sv, .slice (some ⟨w.heap.size, 0, none⟩) 1 1]).run Try.prog (w.alloc (.cells (itC x).toArray 91)) = .ok v' w1 ∧
      RowIs w1 v' (some G') 91 17 (l ++ [x]).length (itsC (l ++ [x])) ∧ (G = some G' ∨ (w.heap.size ≤ G' ∧ G' < w1.heap.size)) ∧ (∀ k, k < w.heap.size → G ≠ some k → w1.heap[k]? = w.heap[k]?) ∧
      w1.os = w.os ∧ w1.tape = w.tape ∧ w1.output = w.output ∧ w.heap.size ≤ w1.heap.size := by
  have lit : (w.alloc (.cells (itC x).toArray 91)).heap[w.heap.size]? = some (.cells (itC x).toArray 91 (0, 0)) := heap_alloc_new w _
  have row : RowIs (w.alloc (.cells (itC x).toArray 91)) sv G 91 17 l.length (itsC l) := RowIs.keep h (fun g' hg => Below.heap_alloc _ _ _ (RowIs.lt h g' hg))
  have hby := infoIt_bytes
  obtain ⟨v', w1, G', r1, r2, r3, r4⟩ := append_row (P := Try.prog) 85 85 infoIt (itV ⟨0, 0⟩) infoIt.bytes Try.underlying85 infoIt_is infoIt_zero infoIt_size rfl rfl (by omega) row
    ⟨w.heap.size, 0, none⟩ 1 1 (itC x) rfl (fun j u hu => by
      have hj : (⟨w.heap.size, 0, none⟩ : Addr).add j = ⟨w.heap.size, j, none⟩ := by unfold Addr.add; by_cases e : j = 0 <;> simp [e]
      rw [hj]
      simp only [World.cell?]
      rw [lit]
      simpa using hu) (by
        have h : (itC x).all (·.oneCell') = true := rfl
        rw [List.all_eq_true] at h
        exact h) (by omega) (by unfold maxLen; omega) (Nat.le_trans (Nat.mul_le_mul (by omega : l.length + 1 ≤ 1001) hby) (by omega))
  have e2 : (l ++ [x]).length = l.length + 1 := by simp
  have e3 : itsC (l ++ [x]) = itsC l ++ itC x := by unfold itsC; simp
  rw [← e3, ← e2] at r2
  refine ⟨v', w1, G', r1, r2, ?_, fun k hk hn => ?_, r3.os, r3.tape, r3.output, by have := r3.size; simp at this; omega⟩
  · rcases r4 with e | ⟨e, e'⟩
    · exact .inl e
    · simp at e; exact .inr ⟨by omega, e'⟩
  · exact (r3.block k (by simp; omega) (fun e => hn e.symm)).trans (Below.heap_alloc _ _ _ hk)

/-- Between two rounds of AppendSeq. -/
structure ApI (w W0 : World) (pre : List It) (B : List Nat) (W : World) : Prop where
  bel : Below w.heap.size w W
  own : ∀ q ∈ B, W0.heap.size ≤ q
  size : W0.heap.size ≤ W.heap.size
  l : ∃ sv G, Blk W w.heap.size 85 [sv] ∧ RowIs W sv G 91 17 pre.length (itsC pre) ∧ ∀ g, G = some g → W0.heap.size ≤ g ∧ g ∉ B
theorem ApI.step {w W0 : World} (hw : w.heap.size < W0.heap.size) : AbB (fun pre B W => ApI w W0 pre B W) := by
  rintro pre B B' W W' h st
  have hn : ∀ k, k < W0.heap.size → k ∉ B := fun k hk hm => by have := h.own k hm; omega
  have hs := h.size
  refine ⟨h.bel.trans (st.below (fun k hk => by have := h.own k hk; omega) (by have := h.bel.size; omega)), fun q hq => ?_, Nat.le_trans h.size st.size, ?_⟩
  · rcases st.fresh q hq with h1 | h1
    · exact h.own q h1
    · omega
  · obtain ⟨sv, G, h1, h2, h3⟩ := h.l
    refine ⟨sv, G, h1.keep (st.block _ (by omega) (hn _ hw)), h2.keep (fun g hg => st.block g (h2.lt g hg) (h3 g hg).2), fun g hg => ⟨(h3 g hg).1, fun hm => ?_⟩⟩
    have := h2.lt g hg
    rcases st.fresh g hm with h4 | h4
    · exact (h3 g hg).2 h4
    · omega
/-- One more item in the list. -/
theorem ApI.next {w W0 : World} (hw : w.heap.size < W0.heap.size) {pre : List It} {B : List Nat} {W : World} (hi : ApI w W0 pre B W) (hB : ∀ q ∈ B, W0.heap.size ≤ q ∧ q < W.heap.size) (hp : pre.length < 200) {sv : Value} {G : Option Nat} (hbl : Blk W w.heap.size 85 [sv])
    (hrow : RowIs W sv G 91 17 pre.length (itsC pre)) (hG : ∀ g, G = some g → W0.heap.size ≤ g ∧ g ∉ B) (x : It) :
    ∃ (v' : Value) (w1 : World), (Builtin.append_ #[85, 85] 85 #[sv, .slice (some ⟨W.heap.size, 0, none⟩) 1 1]).run Try.prog (W.alloc (.cells (itC x).toArray 91)) = .ok v' w1 ∧ (∃ a n c, v' = .slice a n c) ∧
      w.heap.size < w1.heap.size ∧ w1.cell? ⟨w.heap.size, 0, none⟩ = some sv ∧ w1.frozen? ⟨w.heap.size, 0, none⟩ = false ∧ ApI w W0 (pre ++ [x]) B (w1.setCell ⟨w.heap.size, 0, none⟩ v') ∧
      ∀ L : List Nat, (∀ q ∈ L, q < W.heap.size ∧ q ≠ w.heap.size ∧ G ≠ some q) → Kept L W (w1.setCell ⟨w.heap.size, 0, none⟩ v') := by
  have hs := hi.size
  obtain ⟨v', w1, G', r1, r2, r3, r4, ro, rt, rp, rz⟩ := grow_it hrow (by omega) x
  have bl1 : Blk w1 w.heap.size 85 [sv] := hbl.keep (r4 _ (by omega) (fun e => by have := (hG _ e).1; omega))
  have q1 : ∀ k, k < W.heap.size → k ≠ w.heap.size → G ≠ some k → (w1.setCell ⟨w.heap.size, 0, none⟩ v').heap[k]? = W.heap[k]? := fun k h1 h2 h3 =>
    (Below.heap_setCell _ _ _ _ h2).trans (r4 k (by omega) h3)
  have hsz : (w1.setCell ⟨w.heap.size, 0, none⟩ v').heap.size = w1.heap.size := by simp
  have hG' : W0.heap.size ≤ G' ∧ G' ∉ B := by
    rcases r3 with e | ⟨e, _⟩
    · exact hG G' e
    · exact ⟨by omega, fun hm => by have := (hB _ hm).2; omega⟩
  refine ⟨v', w1, r1, (by obtain ⟨a, c, h, -⟩ := r2.form; exact ⟨a, _, c, h⟩), bl1.lt, bl1.cell 0, bl1.free 0, ⟨?_, hi.own, by omega, ⟨v', some G', bl1.set_ 0 v', ?_, ?_⟩⟩, fun L hL => ⟨by omega, fun q hq => q1 q (hL q hq).1 (hL q hq).2.1 (hL q hq).2.2⟩⟩
  · exact hi.bel.trans ⟨ro, rt, rp, by have := hi.bel.size; omega, fun k hk => q1 k (by have := hi.bel.size; omega) (by omega) (fun e => by have := (hG k e).1; omega)⟩
  · exact r2.keep (fun g hg => by cases hg; exact Below.heap_setCell _ _ _ _ (by show G' ≠ w.heap.size; omega))
  · rintro g hg
    cases hg
    exact hG'
end Go.Proofs.Ytidnhnfmbebeaaa
set_option linter.unusedVariables false
set_option linter.unusedSimpArgs false
namespace Go.Proofs.Ytidnhnfmbebeaaa
open Go.RowKit Go.Gr

theorem it_size (x : It) : (Try.prog.info? 91).map (·.size) = some (itC x).length := by
  have h : (Try.prog.info? 91).map (·.size) = some 17 := by kernel_rfl
  exact h
theorem it_arr (x : It) : (itC x).toArray = #[.int .u8 x.kind, .int .i64 x.a, .int .i64 0, .int .u8 0, .string ⟨#[]⟩, .string ⟨#[]⟩, .int .u8 0, .int .i64 0, .int .u64 0, .int .u64 0, .string ⟨#[]⟩, .string ⟨#[]⟩, .int .i64 0, .int .i64 0, .slice none 0 0, .slice none 0 0, .slice none 0 0] := rfl
theorem it_zero : (itC ⟨0, 0⟩).toArray = #[.int .u8 0, .int .i64 0, .int .i64 0, .int .u8 0, .string ⟨#[]⟩, .string ⟨#[]⟩, .int .u8 0, .int .i64 0, .int .u64 0, .int .u64 0, .string ⟨#[]⟩, .string ⟨#[]⟩, .int .i64 0, .int .i64 0, .slice none 0 0, .slice none 0 0, .slice none 0 0] := rfl
theorem append_leave {w W : World} {sv : Value} {G : Option Nat} {L : List It} {D : Nat} (bl : Blk W w.heap.size 85 [sv])
    (hrow : RowIs W sv G 91 17 L.length (itsC L)) (hG : ∀ g, G = some g → w.heap.size ≤ g ∧ g ≠ D) (hb : Below w.heap.size w W) (hK : W.heap[D]? = some (.deferred (some [])))
    (hD : w.heap.size < D) (x0 x1 x2 x3 x5 x6 x7 x8 x9 x10 x11 x12 : Value) :
    bodyPostM Fence.wide 1 Try.prog Try.f37 (fun e w' => ∃ sv G, e = .returned sv ∧ RowIs w' sv G 91 17 L.length (itsC L) ∧ (∀ g, G = some g → w.heap.size ≤ g) ∧ Below w.heap.size w w') .ret
      { tmps := #[x0, x1, x2, x3, sv, x5, x6, x7, x8, x9, x10, x11, x12], defers := [{ target := .collected D, args := #[] }] } W := by
  refine leave_mark hK ?_
  have st : StoStep W (W.putObj D (.deferred none)) [D] [D] := step_putObj W (by simp) _
  have hrow2 := hrow.keep (w' := W.putObj D (.deferred none)) (fun g hg => World.putObj_heap_other (hG g hg).2)
  have hb2 := hb.trans (st.below (B := w.heap.size) (fun k hk => by simp only [List.mem_singleton] at hk; omega) hb.size)
  generalize W.putObj D (.deferred none) = Z at *
  exact ⟨sv, by simp [results, Try.results37, go_sem], _, G, rfl, hrow2, fun g hg => (hG g hg).1, hb2⟩

set_option maxRecDepth 100000 in
set_option maxHeartbeats 4000000 in
theorem appendseq_any {w : World} {pb sb : Nat} {st : SL} {ts : List (ByteArray × ByteArray)} (hA : AllW w pb sb st ts) (hlen : st.n = ts.length) (hn : ts.length ≤ 100) :
    Calls Try.prog 37 #[.slice none 0 0, .func (.func 38) #[] #[.pointer (some ⟨pb, 0, none⟩)]] w
      fun e w' => ∃ sv G, e = .returned sv ∧ RowIs w' sv G 91 17 (itemsN ts.length).length (itsC (itemsN ts.length)) ∧ (∀ g, G = some g → w.heap.size ≤ g) ∧ Below w.heap.size w w' := by
  refine calls_of_marks Try.func37 rfl ?_
  simp only [Try.ntmps37, List.size_toArray, List.length_cons, List.length_nil, Nat.reduceAdd, Nat.reduceSub, Array.replicate_succ, Array.replicate_zero, List.push_toArray, List.append_toArray, List.nil_append, List.cons_append]
  go_upto_region 1 with (fail)
  refine wp_gen (fun V hV => ?_)
  have hbV : Below w.heap.size w V := by rw [hV]; (repeat' (first | (with_reducible exact Below.refl _ _) | (with_reducible refine Below.ext_mk ?_ ?_ _ _) | (with_reducible refine Below.alloc ?_ ?_ _) | (with_reducible refine Below.drew ?_) | (with_reducible refine Below.setCell ?_ ?_ _) | go_size))
  have bl : Blk V w.heap.size 85 [.slice none 0 0] := by
    rw [hV]; exact Blk.new w 85 [.slice none 0 0]
  have hzV : w.heap.size < V.heap.size := bl.lt
  clear hV
  have AV := hA.kept (Kept.of_below hbV hA.lt)
  have HA := hid hA
  clear hA
  go_wp2_with fail
  have AT : ∀ q ∈ [pb, sb], q < V.heap.size ∧ q ≠ w.heap.size := fun q hq => ⟨AV.lt q hq, by have := HA.out.lt q hq; omega⟩
  refine wpIn_wide.1 (wpIn_rangeFunc_a (n := 0) (gf := 38) (lb := #[.pointer (some ⟨pb, 0, none⟩)]) rfl (fun _ _ => by kernel_rfl)
    (all_seq AV hlen hn) AV.lt (fun _ => rfl)
    (fun pre B W => ApI w V pre B W)
    (fun c pre B W => False)
    (fun c s B W h => h) (ApI.step hzV) (fun c s B B' W W' h _ => h)
    ⟨hbV, fun q hq => (by cases hq), Nat.le_refl _, ⟨_, none, bl, ⟨rfl, .inl ⟨rfl, rfl, rfl⟩⟩, fun g hg => (by cases hg)⟩⟩
    (fun pre x B a' W => ApI w V pre B W ∧ pre.length < 200 ∧ ∃ cb, Blk W cb 91 (itC x) ∧ V.heap.size ≤ cb ∧ cb ∉ B ∧
      a' = { tmps := #[.slice none 0 0, .func (.func 38) #[] #[.pointer (some ⟨pb, 0, none⟩)], .pointer (some ⟨w.heap.size, 0, none⟩), undef, .slice none 0 0, .pointer (some ⟨cb, 0, none⟩),
        .func (.func 38) #[] #[.pointer (some ⟨pb, 0, none⟩)], itV x, undef, undef, undef, undef, undef], defers := [] })
    ?assign ?body ?done ?stop)
  case assign =>
    intro l pre B x W K hi hok hl hB hK
    rw [fold_one]
    simp only [List.setIfInBounds_toArray, List.set_cons_succ, List.set_cons_zero]
    have bn := Blk.new W 91 (itC ⟨0, 0⟩)
    refine wpIn_region_doc (by kernel_rfl) (fun F' hF0 => ?_)
    have HF := hid hF0
    clear hF0
    refine doc_val rfl (by first | (go_simp; done) | (go_simp; exact ⟨rfl, rfl⟩) | (go_simp; with_reducible rfl)) ?_
    simp only [Act.put, List.setIfInBounds_toArray, List.set_cons_zero, List.set_cons_succ]
    refine doc_skip rfl (store_row_op (xs := itC ⟨0, 0⟩) (ys := itC x) _ _ _ _ _ _ _ _ _ (it_size x) rfl rfl rfl rfl bn) ?_
    simp only [Act.put, List.setIfInBounds_toArray, List.set_cons_zero, List.set_cons_succ]
    refine doc_end (HF.out _ _ ?_)
    clear HF F'
    simp only [Exit.then]
    have hb2 : Below W.heap.size W ((W.alloc (.cells (itC ⟨0, 0⟩).toArray 91)).setRow W.heap.size (itC x).toArray) := Below.setRow (Below.alloc (Below.refl _ _) (Nat.le_refl _) _) (Nat.le_refl _) _
    have bx := bn.row (itC x)
    have hz2 : ((W.alloc (.cells (itC ⟨0, 0⟩).toArray 91)).setRow W.heap.size (itC x).toArray).heap.size = W.heap.size + 1 := by simp [World.setRow]
    rw [it_zero] at hb2 bx hz2
    generalize (W.alloc (.cells #[.int .u8 0, .int .i64 0, .int .i64 0, .int .u8 0, .string ⟨#[]⟩, .string ⟨#[]⟩, .int .u8 0, .int .i64 0, .int .u64 0, .int .u64 0, .string ⟨#[]⟩, .string ⟨#[]⟩, .int .i64 0, .int .i64 0, .slice none 0 0, .slice none 0 0, .slice none 0 0] 91)).setRow W.heap.size (itC x).toArray = X at *
    have hsz := hi.size
    refine hK _ _ ?_ ?_
    · exact Kept.of_below hb2 (fun q hq => by
        rcases List.mem_append.1 hq with h1 | h1
        · have := (AT q h1).1; omega
        · exact (hB q h1).2)
    · intro W2 st2
      have hs := st2.size
      have hnew : W.heap.size ∉ B := fun hm => by have := (hB _ hm).2; omega
      exact ⟨ApI.step hzV _ _ _ _ _ (ApI.step hzV _ _ _ _ _ hi (step_below (B' := B) hb2 (fun k hk => .inl hk))) st2, hok, W.heap.size, bx.keep (st2.block _ (by omega) hnew), hi.size, hnew, rfl⟩
  case body =>
    rintro l pre B x a' W hl hloop hB hTB ⟨hi, hp, cb, bc, zc, nc, rfl⟩
    obtain ⟨sv, G, bl', hrow, hG⟩ := hi.l
    obtain ⟨la, lc, rfl, hlm⟩ := hrow.form
    have c0 := bl'.cell 0
    simp only [List.getElem?_cons_zero] at c0
    have z0 := bl'.lt
    obtain ⟨v', w1, r1, ⟨va, vn, vc, rfl⟩, r2, r3, r4, r5, r6⟩ := hi.next hzV (fun q hq => ⟨hi.own q hq, (hB q hq).2⟩) hp bl' hrow hG x
    have R5 := hid r5
    have R6 := hid r6
    have hsz := hi.size
    clear r5 r6
    rw [it_arr] at r1
    refine wpIn_block ?_
    refine wpIn_region_doc (by kernel_rfl) (fun F' hF0 => ?_)
    have HF := hid hF0
    clear hF0
    refine doc_val rfl (by first | (go_simp; done) | (go_simp; exact ⟨rfl, rfl⟩) | (go_simp; with_reducible rfl)) ?_
    simp only [Act.put, List.setIfInBounds_toArray, List.set_cons_zero, List.set_cons_succ]
    refine doc_val (v := itV x) rfl (load_struct_op _ _ _ _ _ _ _ _ Try.underlying91 (it_size x) rfl bc) ?_
    simp only [Act.put, List.setIfInBounds_toArray, List.set_cons_zero, List.set_cons_succ]
    refine doc_val rfl (by first | (go_simp; done) | (go_simp; exact ⟨rfl, rfl⟩) | (go_simp; with_reducible rfl)) ?_
    simp only [Act.put, List.setIfInBounds_toArray, List.set_cons_zero, List.set_cons_succ]
    refine doc_val rfl (run_append_op _ _ _ _ _ _ _ _ _ r1) ?_
    simp only [Act.put, List.setIfInBounds_toArray, List.set_cons_zero, List.set_cons_succ]
    refine doc_skip rfl (by first | (go_simp; done) | (go_simp; exact ⟨rfl, rfl⟩) | (go_simp; with_reducible rfl)) ?_
    simp only [Act.put, List.setIfInBounds_toArray, List.set_cons_zero, List.set_cons_succ]
    refine doc_end (HF.out _ _ ?_)
    clear HF F'
    simp only [Exit.then, Exit.inBlock]
    refine ⟨R6.out _ (fun q hq => ?_), R5.out⟩
    rcases List.mem_append.1 hq with h1 | h1
    · have t1 := AT q h1
      exact ⟨by omega, t1.2, fun e => by have := (hG q e).1; omega⟩
    · have t1 := hi.own q h1
      exact ⟨(hB q h1).2, by omega, fun e => (hG q e).2 h1⟩
  case done =>
    rintro D B xs W hD hDB rfl hi hK
    obtain ⟨sv, G, bl', hrow, hG⟩ := hi.l
    have c0 := bl'.cell 0
    simp only [List.getElem?_cons_zero] at c0
    have z0 := bl'.lt
    have hDn : G ≠ some D := fun e => (hG D e).2 hDB
    have hbel := hi.bel
    have hL := append_leave (w := w) (D := D) bl' hrow (fun g hg => ⟨by have := (hG g hg).1; have := hbV.size; omega, fun e => hDn (by rw [hg, e])⟩) hbel hK (by omega)
    have HLV := hid hL
    clear hL
    go_wp2_with fail
    (try simp only [Exit.inBlock, Exit.then])
    exact HLV.out _ _ _ _ _ _ _ _ _ _ _ _
  case stop =>
    rintro D B c pre W _ _ _ h
    exact h.elim
end Go.Proofs.Ytidnhnfmbebeaaa
set_option linter.unusedVariables false
set_option linter.unusedSimpArgs false
namespace Go.Proofs.Ytidnhnfmbebeaaa
open Go.RowKit Go.Gr

theorem onlySt_cs (st : SL) : (onlySt st).cs = pgC st.v := rfl
theorem all_any (st : SL) (w : World) : Calls Try.prog 34 #[(onlySt st).v] w (fun e w' =>
    e = .returned (.func (.func 38) #[] #[.pointer (some ⟨w.heap.size, 0, none⟩)]) ∧ Blk w' w.heap.size 30 (pgC st.v) ∧ Below w.heap.size w w') := by
  have hmf : ∀ (fn : Fn) (first cap : Array Value) (w : World), (Instr.makeFunc fn first cap).run Try.prog w = .ok (.func fn first cap) w := fun _ _ _ _ => rfl
  show Calls Try.prog 34 #[.agg #[.slice none 0 0, .slice none 0 0, st.v, .slice none 0 0, .slice none 0 0, .slice none 0 0, .slice none 0 0]] w _
  go_enter Try.func34, Try.ntmps34
  go_wp2_with fail
  go_returns
  exact ⟨rfl, Blk.new w 30 (pgC st.v), by (repeat' (first | (with_reducible exact Below.refl _ _) | (with_reducible refine Below.ext_mk ?_ ?_ _ _) | (with_reducible refine Below.alloc ?_ ?_ _) | (with_reducible refine Below.drew ?_) | (with_reducible refine Below.setCell ?_ ?_ _) | go_size))⟩

/-- The items' row. -/
def ItsP (w : World) (n : Nat) (e : Ending) (w' : World) : Prop :=
  ∃ sv G, e = .returned sv ∧ RowIs w' sv G 91 17 (itemsN n).length (itsC (itemsN n)) ∧ Below w.heap.size w w'
theorem collect_any {w : World} {pb sb : Nat} {st : SL} {ts : List (ByteArray × ByteArray)} (hA : AllW w pb sb st ts) (hlen : st.n = ts.length) (hn : ts.length ≤ 100) :
    Calls Try.prog 33 #[.func (.func 38) #[] #[.pointer (some ⟨pb, 0, none⟩)]] w (ItsP w ts.length) := by
  have A := appendseq_any hA hlen hn
  clear hA
  go_enter Try.func33, Try.ntmps33
  go_wp2_with ((with_reducible refine A.mono ?_); rintro e w1 ⟨sv, G, rfl, hrow, hG, hb⟩)
  go_returns
  exact ⟨sv, G, rfl, hrow, hb⟩

set_option maxRecDepth 100000 in
theorem items_any {w : World} {sb : Nat} {st : SL} {ts : List (ByteArray × ByteArray)} (hr : RdS w 5 st (pairsC ts)) (hlen : st.n = ts.length) (hpos : 0 < ts.length) (hn : ts.length ≤ 100) :
    Calls Try.prog 26 #[(onlySt st).v] w (ItsP w ts.length) := by
  obtain ⟨b0, off0, hb0, hz0, -⟩ := hr.2.2.2 (by omega)
  have AL := fun w => all_any st w
  have CO := fun (w' : World) (pb : Nat) (hA : AllW w' pb b0 st ts) => collect_any hA hlen hn
  have HR := hid (And.intro hr (And.intro hb0 hz0))
  clear hr hb0 hz0
  show Calls Try.prog 26 #[.agg #[.slice none 0 0, .slice none 0 0, st.v, .slice none 0 0, .slice none 0 0, .slice none 0 0, .slice none 0 0]] w _
  have AL' : ∀ w, Calls Try.prog 34 #[.agg #[.slice none 0 0, .slice none 0 0, st.v, .slice none 0 0, .slice none 0 0, .slice none 0 0, .slice none 0 0]] w _ := AL
  clear AL
  go_enter Try.func26, Try.ntmps26
  go_upto_region 1 with (fail)
  refine wp_gen (fun V hV => ?_)
  have hbV : Below w.heap.size w V := by rw [hV]; ((repeat' (first | (with_reducible exact Below.refl _ _) | (with_reducible refine Below.ext_mk ?_ ?_ _ _) | (with_reducible refine Below.alloc ?_ ?_ _) | (with_reducible refine Below.drew ?_) | (with_reducible refine Below.setCell ?_ ?_ _) | go_size)))
  have zV0 : w.heap.size < V.heap.size := by rw [hV]; first | (simp; done) | (simp; omega)
  have cV0_0 : V.cell? ⟨w.heap.size, 0, none⟩ = some (.slice none 0 0) := by rw [hV]; first | (go_simp; done) | (rw [World.cell?_alloc_past _ _ _ (by first | (simp; done) | (simp; omega))]; go_simp)
  have cV0_1 : V.cell? ⟨w.heap.size, 1, none⟩ = some (.slice none 0 0) := by rw [hV]; first | (go_simp; done) | (rw [World.cell?_alloc_past _ _ _ (by first | (simp; done) | (simp; omega))]; go_simp)
  have cV0_2 : V.cell? ⟨w.heap.size, 2, none⟩ = some (st.v) := by rw [hV]; first | (go_simp; done) | (rw [World.cell?_alloc_past _ _ _ (by first | (simp; done) | (simp; omega))]; go_simp)
  have cV0_3 : V.cell? ⟨w.heap.size, 3, none⟩ = some (.slice none 0 0) := by rw [hV]; first | (go_simp; done) | (rw [World.cell?_alloc_past _ _ _ (by first | (simp; done) | (simp; omega))]; go_simp)
  have cV0_4 : V.cell? ⟨w.heap.size, 4, none⟩ = some (.slice none 0 0) := by rw [hV]; first | (go_simp; done) | (rw [World.cell?_alloc_past _ _ _ (by first | (simp; done) | (simp; omega))]; go_simp)
  have cV0_5 : V.cell? ⟨w.heap.size, 5, none⟩ = some (.slice none 0 0) := by rw [hV]; first | (go_simp; done) | (rw [World.cell?_alloc_past _ _ _ (by first | (simp; done) | (simp; omega))]; go_simp)
  have cV0_6 : V.cell? ⟨w.heap.size, 6, none⟩ = some (.slice none 0 0) := by rw [hV]; first | (go_simp; done) | (rw [World.cell?_alloc_past _ _ _ (by first | (simp; done) | (simp; omega))]; go_simp)
  clear hV
  have A1 := AL' V
  clear AL'
  refine wp_region_doc (fun F' hF => ?_)
  have HF := hid hF
  clear hF
  refine doc_val rfl (by first | (go_simp; done) | (go_simp; exact ⟨rfl, rfl⟩) | (go_simp; with_reducible rfl)) ?_
  simp only [Act.put, List.setIfInBounds_toArray, List.set_cons_zero, List.set_cons_succ]
  refine doc_call rfl (by first | (go_simp; done) | (go_simp; exact ⟨rfl, rfl⟩) | (go_simp; with_reducible rfl)) (A1.mono ?_)
  rintro e w1 ⟨rfl, hB, hb1⟩
  refine ⟨_, rfl, ?_⟩
  simp only [Act.put, List.setIfInBounds_toArray, List.set_cons_zero, List.set_cons_succ]
  have hbw := hbV.trans (hb1.mono hbV.size)
  have AW : AllW w1 V.heap.size b0 st ts := ⟨hB, HR.out.1.below hbw, fun b off e => by
    have := HR.out.2.1
    rw [this] at e
    simp at e
    exact e.1.symm, Nat.lt_of_lt_of_le HR.out.2.2 hbw.size⟩
  have C1 := CO w1 _ AW
  refine doc_call rfl (by first | (go_simp; done) | (go_simp; exact ⟨rfl, rfl⟩) | (go_simp; with_reducible rfl)) (C1.mono ?_)
  rintro e w2 ⟨sv, G, rfl, hrow, hb2⟩
  refine ⟨_, rfl, ?_⟩
  simp only [Act.put, List.setIfInBounds_toArray, List.set_cons_zero, List.set_cons_succ]
  refine doc_val rfl (by first | (go_simp; done) | (go_simp; exact ⟨rfl, rfl⟩) | (go_simp; with_reducible rfl)) ?_
  simp only [Act.put, List.setIfInBounds_toArray, List.set_cons_zero, List.set_cons_succ]
  refine doc_end (HF.out _ _ ?_)
  clear HF F'
  go_wp2_with fail
  go_returns
  exact ⟨sv, G, rfl, hrow, hbw.trans (hb2.mono hbw.size)⟩

/-- The first item is a state's, the first one's. -/
theorem check1_any (w : World) (b : Nat) (z : b < w.heap.size) (c : w.cell? ⟨b, 0, none⟩ = some (.int .i64 0)) :
    Calls Try.prog 28 #[itV ⟨4, 0⟩, .pointer (some ⟨b, 0, none⟩)] w (Pure (.bool true) w) := by
  go_enter Try.func28, Try.ntmps28
  go_wp2_with fail
  go_returns
  exact Pure.of rfl (by (repeat' (first | (with_reducible exact Below.refl _ _) | (with_reducible refine Below.ext_mk ?_ ?_ _ _) | (with_reducible refine Below.alloc ?_ ?_ _) | (with_reducible refine Below.drew ?_) | (with_reducible refine Below.setCell ?_ ?_ _) | go_size)))
end Go.Proofs.Ytidnhnfmbebeaaa
set_option linter.unusedVariables false
set_option linter.unusedSimpArgs false
namespace Go.Proofs.Ytidnhnfmbebeaaa
open Go.RowKit Go.Gr

theorem itemsN_head : ∀ n, 0 < n → ∃ r, itemsN n = ⟨4, 0⟩ :: r
  | 1, _ => ⟨_, rfl⟩
  | n + 2, _ => by
    obtain ⟨r, hr⟩ := itemsN_head (n + 1) (by omega)
    exact ⟨r ++ [⟨4, ((n + 1 : Nat) : Int)⟩, ⟨6, ((n + 1 : Nat) : Int)⟩], by rw [itemsN, hr]; rfl⟩

set_option maxRecDepth 100000 in
theorem idx0_any {w : World} {s : SL} {r : List It} (h : RdS w 17 s (itsC (⟨4, 0⟩ :: r))) (b : Nat) (z : b < w.heap.size) (c : w.cell? ⟨b, 0, none⟩ = some (.int .i64 0)) :
    Calls Try.prog 27 #[s.v, .func (.func 28) #[] #[.pointer (some ⟨b, 0, none⟩)]] w (Pure (.int .i64 0) w) := by
  have hl := h.2.2.1
  rw [itsC_len, List.length_cons] at hl
  have hc := h.1
  have hm := h.2.1
  have hpos : 0 < s.n := by omega
  obtain ⟨b0, off, ha, zb, hcell⟩ := h.cells (i := 0) hpos
  have K := fun (w' : World) (hb : Below w.heap.size w w') => check1_any w' b (Nat.lt_of_lt_of_le z hb.size) ((hb.cell (p := ⟨b, 0, none⟩) z).trans c)
  have e0 := hcell 0 _ rfl
  have e1 := hcell 1 _ rfl
  have e2 := hcell 2 _ rfl
  have e3 := hcell 3 _ rfl
  have e4 := hcell 4 _ rfl
  have e5 := hcell 5 _ rfl
  have e6 := hcell 6 _ rfl
  have e7 := hcell 7 _ rfl
  have e8 := hcell 8 _ rfl
  have e9 := hcell 9 _ rfl
  have e10 := hcell 10 _ rfl
  have e11 := hcell 11 _ rfl
  have e12 := hcell 12 _ rfl
  have e13 := hcell 13 _ rfl
  have e14 := hcell 14 _ rfl
  have e15 := hcell 15 _ rfl
  have e16 := hcell 16 _ rfl
  simp only [Nat.zero_mul, Nat.add_zero] at e0 e1 e2 e3 e4 e5 e6 e7 e8 e9 e10 e11 e12 e13 e14 e15 e16
  obtain ⟨sa, sn, sc⟩ := s
  simp only at ha hpos hm hc
  subst ha
  have hp1 : (0 : Int) < (sn : Int) := by omega
  clear h hl hcell c
  simp only [SL.v_mk]
  go_enter Try.func27, Try.ntmps27
  go_wp2_with fail
  go_loopw [8] (fun i wr => i = .int .i64 0 ∧ wr = w) (fun i _ => 0)
  case atStart => exact ⟨rfl, rfl⟩
  case round =>
    obtain ⟨rfl, rfl⟩ := hrel
    have K1 := K _ (Below.refl _ _)
    go_wp2_with ((with_reducible refine K1.mono ?_); rintro e w2 ⟨rfl, mz, dz, rfl⟩)
    go_returns
    exact Pure.of rfl (by (repeat' (first | (with_reducible exact Below.refl _ _) | (with_reducible refine Below.ext_mk ?_ ?_ _ _) | (with_reducible refine Below.alloc ?_ ?_ _) | (with_reducible refine Below.drew ?_) | (with_reducible refine Below.setCell ?_ ?_ _) | go_size)))
end Go.Proofs.Ytidnhnfmbebeaaa
set_option linter.unusedVariables false
set_option linter.unusedSimpArgs false
namespace Go.Proofs.Ytidnhnfmbebeaaa
open Go.RowKit Go.Gr

set_option maxRecDepth 100000 in
theorem check_any {w : World} {st : SL} {ts : List (ByteArray × ByteArray)} (hs : StsIs w st (ts.map pairSt)) (hr : RdS w 5 st (pairsC ts)) (hpos : 0 < ts.length) (hn : ts.length ≤ 100) (hc : cycV (ts.map pairSt) = (0, true)) :
    Calls Try.prog 13 #[(onlySt st).v] w (Pure (.tuple #[.int .i64 0, .int .i64 11]) w) := by
  have hmf : ∀ (fn : Fn) (first cap : Array Value) (w : World), (Instr.makeFunc fn first cap).run Try.prog w = .ok (.func fn first cap) w := fun _ _ _ _ => rfl
  have hlen : st.n = ts.length := by have := hs.len.1; simpa using this
  have IT := fun (w' : World) (hb : Below w.heap.size w w') => items_any (sb := 0) (hr.below hb) hlen hpos hn
  have CY := fun (w' : World) (hb : Below w.heap.size w w') => cycle_any (p := onlySt st) (sts := ts.map pairSt) (hs.below hb) (by simp; omega)
  rw [hc] at CY
  simp only at CY
  have IT' : ∀ w', Below w.heap.size w w' → Calls Try.prog 26 #[.agg #[.slice none 0 0, .slice none 0 0, st.v, .slice none 0 0, .slice none 0 0, .slice none 0 0, .slice none 0 0]] w' (ItsP w' ts.length) := IT
  have CY' : ∀ w', Below w.heap.size w w' → Calls Try.prog 7 #[.agg #[.slice none 0 0, .slice none 0 0, st.v, .slice none 0 0, .slice none 0 0, .slice none 0 0, .slice none 0 0]] w' (Pure (.tuple #[.int .i64 0, .bool true]) w') := CY
  obtain ⟨r, hhead⟩ := itemsN_head ts.length hpos
  clear IT CY hs hr hc
  show Calls Try.prog 13 #[.agg #[.slice none 0 0, .slice none 0 0, st.v, .slice none 0 0, .slice none 0 0, .slice none 0 0, .slice none 0 0]] w _
  go_enter Try.func13, Try.ntmps13
  go_upto_region 1 with (fail)
  refine wp_gen (fun V hV => ?_)
  have hbV : Below w.heap.size w V := by rw [hV]; ((repeat' (first | (with_reducible exact Below.refl _ _) | (with_reducible refine Below.ext_mk ?_ ?_ _ _) | (with_reducible refine Below.alloc ?_ ?_ _) | (with_reducible refine Below.drew ?_) | (with_reducible refine Below.setCell ?_ ?_ _) | go_size)))
  have zV0 : w.heap.size < V.heap.size := by rw [hV]; first | (simp; done) | (simp; omega)
  have cV0_0 : V.cell? ⟨w.heap.size, 0, none⟩ = some (.slice none 0 0) := by rw [hV]; first | (go_simp; done) | (rw [World.cell?_alloc_past _ _ _ (by first | (simp; done) | (simp; omega))]; go_simp)
  have cV0_1 : V.cell? ⟨w.heap.size, 1, none⟩ = some (.slice none 0 0) := by rw [hV]; first | (go_simp; done) | (rw [World.cell?_alloc_past _ _ _ (by first | (simp; done) | (simp; omega))]; go_simp)
  have cV0_2 : V.cell? ⟨w.heap.size, 2, none⟩ = some (st.v) := by rw [hV]; first | (go_simp; done) | (rw [World.cell?_alloc_past _ _ _ (by first | (simp; done) | (simp; omega))]; go_simp)
  have cV0_3 : V.cell? ⟨w.heap.size, 3, none⟩ = some (.slice none 0 0) := by rw [hV]; first | (go_simp; done) | (rw [World.cell?_alloc_past _ _ _ (by first | (simp; done) | (simp; omega))]; go_simp)
  have cV0_4 : V.cell? ⟨w.heap.size, 4, none⟩ = some (.slice none 0 0) := by rw [hV]; first | (go_simp; done) | (rw [World.cell?_alloc_past _ _ _ (by first | (simp; done) | (simp; omega))]; go_simp)
  have cV0_5 : V.cell? ⟨w.heap.size, 5, none⟩ = some (.slice none 0 0) := by rw [hV]; first | (go_simp; done) | (rw [World.cell?_alloc_past _ _ _ (by first | (simp; done) | (simp; omega))]; go_simp)
  have cV0_6 : V.cell? ⟨w.heap.size, 6, none⟩ = some (.slice none 0 0) := by rw [hV]; first | (go_simp; done) | (rw [World.cell?_alloc_past _ _ _ (by first | (simp; done) | (simp; omega))]; go_simp)
  clear hV
  have I1 := IT' V hbV
  go_upto_region 2 with ((with_reducible refine I1.mono ?_); rintro e w1 ⟨sv, G, rfl, hrow, hb1⟩)
  have hbw := hbV.trans (hb1.mono hbV.size)
  have q0 := (hb1.cell (p := ⟨w.heap.size, 0, none⟩) zV0).trans cV0_0
  have q1 := (hb1.cell (p := ⟨w.heap.size, 1, none⟩) zV0).trans cV0_1
  have q2 := (hb1.cell (p := ⟨w.heap.size, 2, none⟩) zV0).trans cV0_2
  have q3 := (hb1.cell (p := ⟨w.heap.size, 3, none⟩) zV0).trans cV0_3
  have q4 := (hb1.cell (p := ⟨w.heap.size, 4, none⟩) zV0).trans cV0_4
  have q5 := (hb1.cell (p := ⟨w.heap.size, 5, none⟩) zV0).trans cV0_5
  have q6 := (hb1.cell (p := ⟨w.heap.size, 6, none⟩) zV0).trans cV0_6
  have qz := Nat.lt_of_lt_of_le zV0 hb1.size
  have C1 := CY' w1 hbw
  obtain ⟨s, hsv, -, hrd⟩ := RowIs.rdS hrow
  subst hsv
  rw [hhead] at hrd
  have HRD := hid hrd
  have HBW := hid hbw
  clear I1 IT' CY' hrow hb1 hrd hbw hhead cV0_0 cV0_1 cV0_2 cV0_3 cV0_4 cV0_5 cV0_6 zV0 hbV
  go_upto_region 3 with ((with_reducible refine C1.mono ?_); rintro e w2 ⟨rfl, mz, dz, rfl⟩)
  clear q0 q1 q2 q3 q4 q5 q6 qz C1
  refine wp_gen (fun Y hY => ?_)
  have hbY : Below w1.heap.size w1 Y := by rw [hY]; ((repeat' (first | (with_reducible exact Below.refl _ _) | (with_reducible refine Below.ext_mk ?_ ?_ _ _) | (with_reducible refine Below.alloc ?_ ?_ _) | (with_reducible refine Below.drew ?_) | (with_reducible refine Below.setCell ?_ ?_ _) | go_size)))
  have zY0 : w1.heap.size + mz.size < Y.heap.size := by rw [hY]; first | (simp; done) | (simp; omega)
  have cY0_0 : Y.cell? ⟨w1.heap.size + mz.size, 0, none⟩ = some (.int .i64 0) := by rw [hY]; first | (go_simp; done) | (rw [World.cell?_alloc_past _ _ _ (by first | (simp; done) | (simp; omega))]; go_simp)
  clear hY
  have hwY : Below w.heap.size w Y := HBW.out.trans (hbY.mono HBW.out.size)
  have I2 := idx0_any (HRD.out.below hbY) (w1.heap.size + mz.size) zY0 cY0_0
  clear hbY
  generalize w1.heap.size + mz.size = tb at *
  go_wp2_with ((with_reducible refine I2.mono ?_); rintro e w3 ⟨rfl, m3, d3, rfl⟩)
  go_returns
  exact Pure.of rfl (Below.ext_mk hwY hwY.size _ _)

/-- slices.Equal, of rows of whole numbers; of truths. -/
theorem RdS.nn {w : World} {s : SL} {xs : List Value} (h : RdS w 1 s xs) : s.n = xs.length ∧ s.n ≤ 9223372036854775807 := ⟨by have := h.2.2.1; omega, h.2.1⟩
theorem take_same {α : Type} {l m : List α} {j : Nat} (hp : l.take j = m.take j) {x y : α} (hx : l[j]? = some x) (hy : m[j]? = some y) (e : x = y) : l.take (j + 1) = m.take (j + 1) := by
  rw [List.take_add_one, List.take_add_one, hp, hx, hy, e]
set_option maxRecDepth 100000 in
theorem equal_nats {w : World} {l1 l2 : List Nat} {s1 s2 : SL} (h1 : RdS w 1 s1 (nats l1)) (h2 : RdS w 1 s2 (nats l2)) :
    Calls Try.prog 14 #[s1.v, s2.v] w (Pure (.bool (decide (l1 = l2))) w) := by
  have n1 := h1.nat
  have n2 := h2.nat
  have m1 := h1.2.1
  have L1 := hid h1
  have L2 := hid h2
  obtain ⟨a1, k1, c1⟩ := s1
  obtain ⟨a2, k2, c2⟩ := s2
  simp only at n1 n2 m1
  subst n1 n2
  clear h1 h2
  simp only [SL.v_mk]
  by_cases hl : l1.length = l2.length
  · have hl' : (l1.length : Int) = (l2.length : Int) := by omega
    have HL := hid hl
    clear hl
    go_enter Try.func14, Try.ntmps14
    go_wp2_with fail
    go_loopw [13] (fun i wr => ∃ j : Nat, j ≤ l1.length ∧ i = .int .i64 j ∧ l1.take j = l2.take j ∧ Below w.heap.size w wr) (fun i _ => l1.length - (intOf i).toNat)
    case atStart => exact ⟨0, by omega, rfl, rfl, by (repeat' (first | (with_reducible exact Below.refl _ _) | (with_reducible refine Below.ext_mk ?_ ?_ _ _) | (with_reducible refine Below.alloc ?_ ?_ _) | (with_reducible refine Below.drew ?_) | (with_reducible refine Below.setCell ?_ ?_ _) | go_size))⟩
    case round =>
      obtain ⟨j, hj, rfl, hpre, hb⟩ := hrel
      have hbs := hb.size
      have HP := hid hpre
      have HLO := HL.out
      clear hpre
      by_cases hlt : j < l1.length
      · have hj1 : (j : Int) < (l1.length : Int) := by omega
        have hj2 : (j : Int) < (l2.length : Int) := by omega
        have hlt2 : j < l2.length := by omega
        obtain ⟨b1, o1, ha1, zb1, cc1⟩ := RdS.natAt (L1.out.below hb) hlt
        obtain ⟨b2, o2, ha2, zb2, cc2⟩ := RdS.natAt (L2.out.below hb) hlt2
        simp only at ha1 ha2
        subst ha1 ha2
        obtain ⟨x1, hx1⟩ : ∃ x, x = l1[j] := ⟨_, rfl⟩
        obtain ⟨x2, hx2⟩ : ∃ x, x = l2[j] := ⟨_, rfl⟩
        rw [← hx1] at cc1
        rw [← hx2] at cc2
        have X := hid (And.intro hx1 hx2)
        have hg1 : l1[j]? = some x1 := by rw [List.getElem?_eq_getElem hlt, hx1]
        have hg2 : l2[j]? = some x2 := by rw [List.getElem?_eq_getElem hlt2, hx2]
        have HG := hid (And.intro hg1 hg2)
        clear hx1 hx2 hl' hg1 hg2 HLO
        by_cases hx : x1 = x2
        · have HX := hid hx
          subst hx
          go_upto_region 6 with (fail)
          refine wp_region_ext (by kernel_rfl) (by kernel_rfl) (fun F hF => ?_)
          have HF := hid hF; clear hF
          repeat (first
            | (apply text_skip; (focus rfl); simp only [Act.put, List.setIfInBounds_toArray, List.set_cons_zero, List.set_cons_succ])
            | (apply text_val; (focus rfl); (focus (intro _ _; go_simp; with_reducible rfl)); simp only [Act.put, List.setIfInBounds_toArray, List.set_cons_zero, List.set_cons_succ])
            | (apply text_if; (focus (first | exact wanted_t rfl rfl | exact wanted_f rfl rfl | exact wanted_gt rfl rfl | exact wanted_gf rfl rfl)); (focus (intro hc _ _; (try simp only [Bool.and_eq_true, Bool.not_eq_true', Bool.true_and] at hc); go_simp; with_reducible rfl)); simp only [Act.put, List.setIfInBounds_toArray, List.set_cons_zero, List.set_cons_succ]))
          refine text_nil (HF.out _ (fun mx dx => ?_))
          clear HF F
          go_wp2_with fail
          go_roundw
          case rel => exact ⟨j + 1, by omega, by go_num, take_same HP.out HG.out.1 HG.out.2 rfl, by (repeat' (first | (with_reducible exact hb) | (with_reducible exact Below.refl _ _) | (with_reducible refine Below.ext_mk ?_ ?_ _ _) | (with_reducible refine Below.alloc ?_ ?_ _) | (with_reducible refine Below.drew ?_) | (with_reducible refine Below.setCell ?_ ?_ _) | go_size))⟩
          case measure => simp [intOf]; omega
        · have hne : l1 ≠ l2 := fun e => hx (by have h1 := HG.out.1; rw [e, HG.out.2] at h1; simpa using h1.symm)
          have hx' : ((x1 : Int) != (x2 : Int)) = true := by simp; omega
          rw [decide_eq_false hne]
          clear hx hne
          go_upto_region 6 with (fail)
          refine wp_region_ext (by kernel_rfl) (by kernel_rfl) (fun F hF => ?_)
          have HF := hid hF; clear hF
          repeat (first
            | (apply text_skip; (focus rfl); simp only [Act.put, List.setIfInBounds_toArray, List.set_cons_zero, List.set_cons_succ])
            | (apply text_val; (focus rfl); (focus (intro _ _; go_simp; with_reducible rfl)); simp only [Act.put, List.setIfInBounds_toArray, List.set_cons_zero, List.set_cons_succ])
            | (apply text_if; (focus (first | exact wanted_t rfl rfl | exact wanted_f rfl rfl | exact wanted_gt rfl rfl | exact wanted_gf rfl rfl)); (focus (intro hc _ _; (try simp only [Bool.and_eq_true, Bool.not_eq_true', Bool.true_and] at hc); go_simp; with_reducible rfl)); simp only [Act.put, List.setIfInBounds_toArray, List.set_cons_zero, List.set_cons_succ]))
          refine text_nil (HF.out _ (fun mx dx => ?_))
          clear HF F
          go_wp2_with fail
          go_returns
          exact Pure.of rfl (by (repeat' (first | (with_reducible exact hb) | (with_reducible exact Below.refl _ _) | (with_reducible refine Below.ext_mk ?_ ?_ _ _) | (with_reducible refine Below.alloc ?_ ?_ _) | (with_reducible refine Below.drew ?_) | (with_reducible refine Below.setCell ?_ ?_ _) | go_size)))
      · obtain rfl : j = l1.length := by omega
        have he : l1 = l2 := by
          have h := HP.out
          rw [List.take_length, HLO, List.take_length] at h
          exact h
        have HE := hid he
        clear he
        go_wp2_with fail
        go_returns
        refine Pure.of ?_ (by (repeat' (first | (with_reducible exact hb) | (with_reducible exact Below.refl _ _) | (with_reducible refine Below.ext_mk ?_ ?_ _ _) | (with_reducible refine Below.alloc ?_ ?_ _) | (with_reducible refine Below.drew ?_) | (with_reducible refine Below.setCell ?_ ?_ _) | go_size)))
        rw [decide_eq_true HE.out]
        rfl
  · have hl' : ((l1.length : Int) != (l2.length : Int)) = true := by simp; omega
    have hne : l1 ≠ l2 := fun e => hl (by rw [e])
    rw [decide_eq_false hne]
    clear hl hne
    go_enter Try.func14, Try.ntmps14
    go_wp2_with fail
    go_returns
    exact Pure.of rfl (by (repeat' (first | (with_reducible exact Below.refl _ _) | (with_reducible refine Below.ext_mk ?_ ?_ _ _) | (with_reducible refine Below.alloc ?_ ?_ _) | (with_reducible refine Below.drew ?_) | (with_reducible refine Below.setCell ?_ ?_ _) | go_size)))
theorem RdS.truth {w : World} {s : SL} {l : List Bool} (h : RdS w 1 s (bools l)) : s.n = l.length := by have := h.2.2.1; rw [bools_length] at this; omega
theorem RdS.boolAt {w : World} {s : SL} {l : List Bool} (h : RdS w 1 s (bools l)) {j : Nat} (hj : j < l.length) :
    ∃ b off, s.a = some ⟨b, off, none⟩ ∧ b < w.heap.size ∧ w.cell? ⟨b, off + j, none⟩ = some (.bool l[j]) := by
  obtain ⟨b, off, e1, e2, _, e3⟩ := h.one (bools_at (List.getElem?_eq_getElem hj))
  exact ⟨b, off, e1, e2, e3⟩
set_option maxRecDepth 100000 in
theorem equal_bools {w : World} {l1 l2 : List Bool} {s1 s2 : SL} (h1 : RdS w 1 s1 (bools l1)) (h2 : RdS w 1 s2 (bools l2)) :
    Calls Try.prog 15 #[s1.v, s2.v] w (Pure (.bool (decide (l1 = l2))) w) := by
  have n1 := h1.truth
  have n2 := h2.truth
  have m1 := h1.2.1
  have L1 := hid h1
  have L2 := hid h2
  obtain ⟨a1, k1, c1⟩ := s1
  obtain ⟨a2, k2, c2⟩ := s2
  simp only at n1 n2 m1
  subst n1 n2
  clear h1 h2
  simp only [SL.v_mk]
  by_cases hl : l1.length = l2.length
  · have hl' : (l1.length : Int) = (l2.length : Int) := by omega
    have HL := hid hl
    clear hl
    go_enter Try.func15, Try.ntmps15
    go_wp2_with fail
    go_loopw [13] (fun i wr => ∃ j : Nat, j ≤ l1.length ∧ i = .int .i64 j ∧ l1.take j = l2.take j ∧ Below w.heap.size w wr) (fun i _ => l1.length - (intOf i).toNat)
    case atStart => exact ⟨0, by omega, rfl, rfl, by (repeat' (first | (with_reducible exact Below.refl _ _) | (with_reducible refine Below.ext_mk ?_ ?_ _ _) | (with_reducible refine Below.alloc ?_ ?_ _) | (with_reducible refine Below.drew ?_) | (with_reducible refine Below.setCell ?_ ?_ _) | go_size))⟩
    case round =>
      obtain ⟨j, hj, rfl, hpre, hb⟩ := hrel
      have hbs := hb.size
      have HP := hid hpre
      have HLO := HL.out
      clear hpre
      by_cases hlt : j < l1.length
      · have hj1 : (j : Int) < (l1.length : Int) := by omega
        have hj2 : (j : Int) < (l2.length : Int) := by omega
        have hlt2 : j < l2.length := by omega
        obtain ⟨b1, o1, ha1, zb1, cc1⟩ := RdS.boolAt (L1.out.below hb) hlt
        obtain ⟨b2, o2, ha2, zb2, cc2⟩ := RdS.boolAt (L2.out.below hb) hlt2
        simp only at ha1 ha2
        subst ha1 ha2
        obtain ⟨x1, hx1⟩ : ∃ x, x = l1[j] := ⟨_, rfl⟩
        obtain ⟨x2, hx2⟩ : ∃ x, x = l2[j] := ⟨_, rfl⟩
        rw [← hx1] at cc1
        rw [← hx2] at cc2
        have X := hid (And.intro hx1 hx2)
        have hg1 : l1[j]? = some x1 := by rw [List.getElem?_eq_getElem hlt, hx1]
        have hg2 : l2[j]? = some x2 := by rw [List.getElem?_eq_getElem hlt2, hx2]
        have HG := hid (And.intro hg1 hg2)
        clear hx1 hx2 hl' hg1 hg2 HLO
        clear X
        cases x1
        · cases x2
          · go_upto_region 6 with (fail)
            refine wp_region_ext (by kernel_rfl) (by kernel_rfl) (fun F hF => ?_)
            have HF := hid hF; clear hF
            repeat (first
              | (apply text_skip; (focus rfl); simp only [Act.put, List.setIfInBounds_toArray, List.set_cons_zero, List.set_cons_succ])
              | (apply text_val; (focus rfl); (focus (intro _ _; go_simp; with_reducible rfl)); simp only [Act.put, List.setIfInBounds_toArray, List.set_cons_zero, List.set_cons_succ])
              | (apply text_if; (focus (first | exact wanted_t rfl rfl | exact wanted_f rfl rfl | exact wanted_gt rfl rfl | exact wanted_gf rfl rfl)); (focus (intro hc _ _; (try simp only [Bool.and_eq_true, Bool.not_eq_true', Bool.true_and] at hc); go_simp; with_reducible rfl)); simp only [Act.put, List.setIfInBounds_toArray, List.set_cons_zero, List.set_cons_succ]))
            refine text_nil (HF.out _ (fun mx dx => ?_))
            clear HF F
            go_wp2_with fail
            go_roundw
            case rel => exact ⟨j + 1, by omega, by go_num, take_same HP.out HG.out.1 HG.out.2 rfl, by (repeat' (first | (with_reducible exact hb) | (with_reducible exact Below.refl _ _) | (with_reducible refine Below.ext_mk ?_ ?_ _ _) | (with_reducible refine Below.alloc ?_ ?_ _) | (with_reducible refine Below.drew ?_) | (with_reducible refine Below.setCell ?_ ?_ _) | go_size))⟩
            case measure => simp [intOf]; omega
          · have hne : l1 ≠ l2 := fun e => by have h1 := HG.out.1; rw [e, HG.out.2] at h1; simp at h1
            rw [decide_eq_false hne]
            clear hne
            go_upto_region 6 with (fail)
            refine wp_region_ext (by kernel_rfl) (by kernel_rfl) (fun F hF => ?_)
            have HF := hid hF; clear hF
            repeat (first
              | (apply text_skip; (focus rfl); simp only [Act.put, List.setIfInBounds_toArray, List.set_cons_zero, List.set_cons_succ])
              | (apply text_val; (focus rfl); (focus (intro _ _; go_simp; with_reducible rfl)); simp only [Act.put, List.setIfInBounds_toArray, List.set_cons_zero, List.set_cons_succ])
              | (apply text_if; (focus (first | exact wanted_t rfl rfl | exact wanted_f rfl rfl | exact wanted_gt rfl rfl | exact wanted_gf rfl rfl)); (focus (intro hc _ _; (try simp only [Bool.and_eq_true, Bool.not_eq_true', Bool.true_and] at hc); go_simp; with_reducible rfl)); simp only [Act.put, List.setIfInBounds_toArray, List.set_cons_zero, List.set_cons_succ]))
            refine text_nil (HF.out _ (fun mx dx => ?_))
            clear HF F
            go_wp2_with fail
            go_returns
            exact Pure.of rfl (by (repeat' (first | (with_reducible exact hb) | (with_reducible exact Below.refl _ _) | (with_reducible refine Below.ext_mk ?_ ?_ _ _) | (with_reducible refine Below.alloc ?_ ?_ _) | (with_reducible refine Below.drew ?_) | (with_reducible refine Below.setCell ?_ ?_ _) | go_size)))
        · cases x2
          · have hne : l1 ≠ l2 := fun e => by have h1 := HG.out.1; rw [e, HG.out.2] at h1; simp at h1
            rw [decide_eq_false hne]
            clear hne
            go_upto_region 6 with (fail)
            refine wp_region_ext (by kernel_rfl) (by kernel_rfl) (fun F hF => ?_)
            have HF := hid hF; clear hF
            repeat (first
              | (apply text_skip; (focus rfl); simp only [Act.put, List.setIfInBounds_toArray, List.set_cons_zero, List.set_cons_succ])
              | (apply text_val; (focus rfl); (focus (intro _ _; go_simp; with_reducible rfl)); simp only [Act.put, List.setIfInBounds_toArray, List.set_cons_zero, List.set_cons_succ])
              | (apply text_if; (focus (first | exact wanted_t rfl rfl | exact wanted_f rfl rfl | exact wanted_gt rfl rfl | exact wanted_gf rfl rfl)); (focus (intro hc _ _; (try simp only [Bool.and_eq_true, Bool.not_eq_true', Bool.true_and] at hc); go_simp; with_reducible rfl)); simp only [Act.put, List.setIfInBounds_toArray, List.set_cons_zero, List.set_cons_succ]))
            refine text_nil (HF.out _ (fun mx dx => ?_))
            clear HF F
            go_wp2_with fail
            go_returns
            exact Pure.of rfl (by (repeat' (first | (with_reducible exact hb) | (with_reducible exact Below.refl _ _) | (with_reducible refine Below.ext_mk ?_ ?_ _ _) | (with_reducible refine Below.alloc ?_ ?_ _) | (with_reducible refine Below.drew ?_) | (with_reducible refine Below.setCell ?_ ?_ _) | go_size)))
          · go_upto_region 6 with (fail)
            refine wp_region_ext (by kernel_rfl) (by kernel_rfl) (fun F hF => ?_)
            have HF := hid hF; clear hF
            repeat (first
              | (apply text_skip; (focus rfl); simp only [Act.put, List.setIfInBounds_toArray, List.set_cons_zero, List.set_cons_succ])
              | (apply text_val; (focus rfl); (focus (intro _ _; go_simp; with_reducible rfl)); simp only [Act.put, List.setIfInBounds_toArray, List.set_cons_zero, List.set_cons_succ])
              | (apply text_if; (focus (first | exact wanted_t rfl rfl | exact wanted_f rfl rfl | exact wanted_gt rfl rfl | exact wanted_gf rfl rfl)); (focus (intro hc _ _; (try simp only [Bool.and_eq_true, Bool.not_eq_true', Bool.true_and] at hc); go_simp; with_reducible rfl)); simp only [Act.put, List.setIfInBounds_toArray, List.set_cons_zero, List.set_cons_succ]))
            refine text_nil (HF.out _ (fun mx dx => ?_))
            clear HF F
            go_wp2_with fail
            go_roundw
            case rel => exact ⟨j + 1, by omega, by go_num, take_same HP.out HG.out.1 HG.out.2 rfl, by (repeat' (first | (with_reducible exact hb) | (with_reducible exact Below.refl _ _) | (with_reducible refine Below.ext_mk ?_ ?_ _ _) | (with_reducible refine Below.alloc ?_ ?_ _) | (with_reducible refine Below.drew ?_) | (with_reducible refine Below.setCell ?_ ?_ _) | go_size))⟩
            case measure => simp [intOf]; omega
      · obtain rfl : j = l1.length := by omega
        have he : l1 = l2 := by
          have h := HP.out
          rw [List.take_length, HLO, List.take_length] at h
          exact h
        have HE := hid he
        clear he
        go_wp2_with fail
        go_returns
        refine Pure.of ?_ (by (repeat' (first | (with_reducible exact hb) | (with_reducible exact Below.refl _ _) | (with_reducible refine Below.ext_mk ?_ ?_ _ _) | (with_reducible refine Below.alloc ?_ ?_ _) | (with_reducible refine Below.drew ?_) | (with_reducible refine Below.setCell ?_ ?_ _) | go_size)))
        rw [decide_eq_true HE.out]
        rfl
  · have hl' : ((l1.length : Int) != (l2.length : Int)) = true := by simp; omega
    have hne : l1 ≠ l2 := fun e => hl (by rw [e])
    rw [decide_eq_false hne]
    clear hl hne
    go_enter Try.func15, Try.ntmps15
    go_wp2_with fail
    go_returns
    exact Pure.of rfl (by (repeat' (first | (with_reducible exact Below.refl _ _) | (with_reducible refine Below.ext_mk ?_ ?_ _ _) | (with_reducible refine Below.alloc ?_ ?_ _) | (with_reducible refine Below.drew ?_) | (with_reducible refine Below.setCell ?_ ?_ _) | go_size)))
end Go.Proofs.Ytidnhnfmbebeaaa
set_option linter.unusedVariables false
set_option linter.unusedSimpArgs false
namespace Go.Proofs.Ytidnhnfmbebeaaa
open Go.RowKit Go.Gr

def bA : ByteArray := ⟨#[97]⟩
def bB : ByteArray := ⟨#[98]⟩
def bC : ByteArray := ⟨#[99]⟩
def bAcc : ByteArray := ⟨#[97, 99, 99, 101, 112, 116]⟩
def tsA : List (ByteArray × ByteArray) := [(bA, bB), (bB, bAcc), (bC, bA)]
def tsB : List (ByteArray × ByteArray) := [(bA, bB), (bB, bA)]
theorem knownA : cycV (tsA.map pairSt) = (0, false) ∧ kahnN (graphN (tsA.map pairSt)) (tsA.map pairSt).length = [2, 0, 1] ∧ reachV (tsA.map pairSt) = [true, true, false] := by decide +kernel
theorem knownB : cycV (tsB.map pairSt) = (0, true) := by decide +kernel
theorem rdS_lit (w : World) (e : TypeId) (xs : List Value) (h : xs.length ≤ 1000000) : RdS (w.alloc (.cells xs.toArray e)) 1 ⟨some ⟨w.heap.size, 0, none⟩, xs.length, xs.length⟩ xs :=
  ⟨Nat.le_refl _, by simp only; omega, by simp, fun _ => ⟨w.heap.size, 0, rfl, by simp, fun j u hu => by
    have := (Blk.new w e xs).cell j
    rw [Nat.zero_add, this]; exact hu⟩⟩

set_option maxRecDepth 100000 in
set_option maxHeartbeats 4000000 in
theorem known_any (w : World) : Calls Try.prog 5 #[] w (Pure (.bool true) w) := by
  obtain ⟨kA1, kA2, kA3⟩ := knownA
  have kB := knownB
  go_enter Try.func5, Try.ntmps5
  go_upto_region 1 with (fail)
  refine wp_region_doc (fun F' hF => ?_)
  have HF := hid hF
  clear hF
  refine doc_val rfl (by first | (go_simp; done) | (go_simp; exact ⟨rfl, rfl⟩) | (go_simp; with_reducible rfl)) ?_
  simp only [Act.put, List.setIfInBounds_toArray, List.set_cons_zero, List.set_cons_succ]
  have r1 : RdS (w.alloc (.cells #[.string ⟨#[97]⟩, .string ⟨#[98]⟩, .string ⟨#[98]⟩, .string ⟨#[97, 99, 99, 101, 112, 116]⟩, .string ⟨#[99]⟩, .string ⟨#[97]⟩] 9)) 1 ⟨some ⟨w.heap.size, 0, none⟩, 6, 6⟩ (tsA.flatMap twoC) := rdS_lit w 9 (tsA.flatMap twoC) (by decide)
  have b1 : Below w.heap.size w (w.alloc (.cells #[.string ⟨#[97]⟩, .string ⟨#[98]⟩, .string ⟨#[98]⟩, .string ⟨#[97, 99, 99, 101, 112, 116]⟩, .string ⟨#[99]⟩, .string ⟨#[97]⟩] 9)) := by (repeat' (first | (with_reducible exact Below.refl _ _) | (with_reducible refine Below.ext_mk ?_ ?_ _ _) | (with_reducible refine Below.alloc ?_ ?_ _) | (with_reducible refine Below.drew ?_) | (with_reducible refine Below.setCell ?_ ?_ _) | go_size))
  generalize w.alloc (.cells #[.string ⟨#[97]⟩, .string ⟨#[98]⟩, .string ⟨#[98]⟩, .string ⟨#[97, 99, 99, 101, 112, 116]⟩, .string ⟨#[99]⟩, .string ⟨#[97]⟩] 9) = X1 at *
  have S1 := states_any r1 (by decide)
  simp only [SL.v_mk] at S1
  refine doc_call rfl (by first | (go_simp; done) | (go_simp; exact ⟨rfl, rfl⟩) | (go_simp; with_reducible rfl)) (S1.mono ?_)
  rintro e w1 ⟨st, rfl, hs, hr, hb⟩
  refine ⟨_, rfl, ?_⟩
  simp only [Act.put, List.setIfInBounds_toArray, List.set_cons_zero, List.set_cons_succ]
  have O1 := order_ok (p := onlySt st) hs (by decide) (by rw [kA1])
  rw [kA2] at O1
  refine doc_call rfl (by first | (go_simp; done) | (go_simp; exact ⟨rfl, rfl⟩) | (go_simp; with_reducible rfl)) (O1.mono ?_)
  rintro e w2 ⟨sv, G, rfl, hrow, hG, hb2⟩
  refine ⟨_, rfl, ?_⟩
  simp only [Act.put, List.setIfInBounds_toArray, List.set_cons_zero, List.set_cons_succ]
  obtain ⟨s1, hsv1, -, hl⟩ := RowIs.rdS hrow
  subst hsv1
  have bw2 : Below w.heap.size w w2 := (b1.trans (hb.mono b1.size)).trans (hb2.mono (Nat.le_trans b1.size hb.size))
  have HL := hid hl
  have HB := hid bw2
  clear S1 O1 r1 b1 hs hr hb hrow hG hb2 hl bw2
  iterate 5 (refine doc_val rfl (by first | (go_simp; done) | (go_simp; exact ⟨rfl, rfl⟩) | (go_simp; with_reducible rfl)) ?_; simp only [Act.put, List.setIfInBounds_toArray, List.set_cons_zero, List.set_cons_succ])
  refine doc_end (HF.out _ _ ?_)
  clear HF F'
  go_upto_region 2 with (fail)
  refine wp_region_doc (fun F' hF => ?_)
  have HF := hid hF
  clear hF
  refine doc_val rfl (by first | (go_simp; done) | (go_simp; exact ⟨rfl, rfl⟩) | (go_simp; with_reducible rfl)) ?_
  simp only [Act.put, List.setIfInBounds_toArray, List.set_cons_zero, List.set_cons_succ]
  have r2 : RdS (w2.alloc (.cells #[.string ⟨#[97]⟩, .string ⟨#[98]⟩, .string ⟨#[98]⟩, .string ⟨#[97]⟩] 9)) 1 ⟨some ⟨w2.heap.size, 0, none⟩, 4, 4⟩ (tsB.flatMap twoC) := rdS_lit w2 9 (tsB.flatMap twoC) (by decide)
  have b2 : Below w2.heap.size w2 (w2.alloc (.cells #[.string ⟨#[97]⟩, .string ⟨#[98]⟩, .string ⟨#[98]⟩, .string ⟨#[97]⟩] 9)) := by (repeat' (first | (with_reducible exact Below.refl _ _) | (with_reducible refine Below.ext_mk ?_ ?_ _ _) | (with_reducible refine Below.alloc ?_ ?_ _) | (with_reducible refine Below.drew ?_) | (with_reducible refine Below.setCell ?_ ?_ _) | go_size))
  generalize w2.alloc (.cells #[.string ⟨#[97]⟩, .string ⟨#[98]⟩, .string ⟨#[98]⟩, .string ⟨#[97]⟩] 9) = X2 at *
  have S2 := states_any r2 (by decide)
  simp only [SL.v_mk] at S2
  refine doc_call rfl (by first | (go_simp; done) | (go_simp; exact ⟨rfl, rfl⟩) | (go_simp; with_reducible rfl)) (S2.mono ?_)
  rintro e w3 ⟨st2, rfl, hs, hr, hb⟩
  refine ⟨_, rfl, ?_⟩
  simp only [Act.put, List.setIfInBounds_toArray, List.set_cons_zero, List.set_cons_succ]
  have C2 := check_any hs hr (by decide) (by decide) kB
  refine doc_call rfl (by first | (go_simp; done) | (go_simp; exact ⟨rfl, rfl⟩) | (go_simp; with_reducible rfl)) (C2.mono ?_)
  rintro e w4 ⟨rfl, m4, d4, rfl⟩
  refine ⟨_, rfl, ?_⟩
  simp only [Act.put, List.setIfInBounds_toArray, List.set_cons_zero, List.set_cons_succ]
  have bw4 : Below w2.heap.size w2 (w3.ext m4 d4) := Below.ext_mk (b2.trans (hb.mono b2.size)) (Nat.le_trans b2.size hb.size) _ _
  have HB4 := hid bw4
  clear S2 C2 r2 b2 hs hr hb bw4
  iterate 5 (refine doc_val rfl (by first | (go_simp; done) | (go_simp; exact ⟨rfl, rfl⟩) | (go_simp; with_reducible rfl)) ?_; simp only [Act.put, List.setIfInBounds_toArray, List.set_cons_zero, List.set_cons_succ])
  refine doc_end (HF.out _ _ ?_)
  clear HF F'
  generalize w3.ext m4 d4 = Z at *
  go_upto_region 3 with (fail)
  refine wp_region_doc (fun F' hF => ?_)
  have HF := hid hF
  clear hF
  iterate 5 (refine doc_val rfl (by first | (go_simp; done) | (go_simp; exact ⟨rfl, rfl⟩) | (go_simp; with_reducible rfl)) ?_; simp only [Act.put, List.setIfInBounds_toArray, List.set_cons_zero, List.set_cons_succ])
  have r5 : RdS (Z.alloc (.cells #[.int .i64 2, .int .i64 0, .int .i64 1] 3)) 1 ⟨some ⟨Z.heap.size, 0, none⟩, 3, 3⟩ (nats [2, 0, 1]) := rdS_lit Z 3 (nats [2, 0, 1]) (by decide)
  have b5 : Below Z.heap.size Z (Z.alloc (.cells #[.int .i64 2, .int .i64 0, .int .i64 1] 3)) := by (repeat' (first | (with_reducible exact Below.refl _ _) | (with_reducible refine Below.ext_mk ?_ ?_ _ _) | (with_reducible refine Below.alloc ?_ ?_ _) | (with_reducible refine Below.drew ?_) | (with_reducible refine Below.setCell ?_ ?_ _) | go_size))
  generalize Z.alloc (.cells #[.int .i64 2, .int .i64 0, .int .i64 1] 3) = X5 at *
  have E5 := equal_nats ((HL.out.below HB4.out).below b5) r5
  rw [decide_eq_true rfl] at E5
  refine doc_call rfl (by first | (go_simp; done) | (go_simp; exact ⟨rfl, rfl⟩) | (go_simp; with_reducible rfl)) (E5.mono ?_)
  rintro e w6 ⟨rfl, m6, d6, rfl⟩
  refine ⟨_, rfl, ?_⟩
  simp only [Act.put, List.setIfInBounds_toArray, List.set_cons_zero, List.set_cons_succ]
  have b6 : Below Z.heap.size Z (X5.ext m6 d6) := Below.ext_mk b5 b5.size _ _
  clear E5 r5 b5
  generalize X5.ext m6 d6 = Y at *
  iterate 3 (refine doc_val rfl (by first | (go_simp; done) | (go_simp; exact ⟨rfl, rfl⟩) | (go_simp; with_reducible rfl)) ?_; simp only [Act.put, List.setIfInBounds_toArray, List.set_cons_zero, List.set_cons_succ])
  have r7 : RdS (Y.alloc (.cells #[.string ⟨#[97]⟩, .string ⟨#[98]⟩, .string ⟨#[98]⟩, .string ⟨#[97, 99, 99, 101, 112, 116]⟩, .string ⟨#[99]⟩, .string ⟨#[97]⟩] 9)) 1 ⟨some ⟨Y.heap.size, 0, none⟩, 6, 6⟩ (tsA.flatMap twoC) := rdS_lit Y 9 (tsA.flatMap twoC) (by decide)
  have b7 : Below Y.heap.size Y (Y.alloc (.cells #[.string ⟨#[97]⟩, .string ⟨#[98]⟩, .string ⟨#[98]⟩, .string ⟨#[97, 99, 99, 101, 112, 116]⟩, .string ⟨#[99]⟩, .string ⟨#[97]⟩] 9)) := by (repeat' (first | (with_reducible exact Below.refl _ _) | (with_reducible refine Below.ext_mk ?_ ?_ _ _) | (with_reducible refine Below.alloc ?_ ?_ _) | (with_reducible refine Below.drew ?_) | (with_reducible refine Below.setCell ?_ ?_ _) | go_size))
  generalize Y.alloc (.cells #[.string ⟨#[97]⟩, .string ⟨#[98]⟩, .string ⟨#[98]⟩, .string ⟨#[97, 99, 99, 101, 112, 116]⟩, .string ⟨#[99]⟩, .string ⟨#[97]⟩] 9) = X7 at *
  have S7 := states_any r7 (by decide)
  simp only [SL.v_mk] at S7
  refine doc_call rfl (by first | (go_simp; done) | (go_simp; exact ⟨rfl, rfl⟩) | (go_simp; with_reducible rfl)) (S7.mono ?_)
  rintro e w8 ⟨st8, rfl, hs8, hr8, hb8⟩
  refine ⟨_, rfl, ?_⟩
  simp only [Act.put, List.setIfInBounds_toArray, List.set_cons_zero, List.set_cons_succ]
  have R8 := reached_any (p := onlySt st8) hs8 (by decide)
  rw [kA3] at R8
  refine doc_call rfl (by first | (go_simp; done) | (go_simp; exact ⟨rfl, rfl⟩) | (go_simp; with_reducible rfl)) (R8.mono ?_)
  rintro e w9 ⟨s9, rfl, hr9, hb9⟩
  refine ⟨_, rfl, ?_⟩
  simp only [Act.put, List.setIfInBounds_toArray, List.set_cons_zero, List.set_cons_succ]
  have b9 : Below Y.heap.size Y w9 := (b7.trans (hb8.mono b7.size)).trans (hb9.mono (Nat.le_trans b7.size hb8.size))
  clear S7 R8 r7 b7 hs8 hr8 hb8 hb9
  refine doc_val rfl (by first | (go_simp; done) | (go_simp; exact ⟨rfl, rfl⟩) | (go_simp; with_reducible rfl)) ?_
  simp only [Act.put, List.setIfInBounds_toArray, List.set_cons_zero, List.set_cons_succ]
  have r10 : RdS (w9.alloc (.cells #[.bool true, .bool true, .bool false] 4)) 1 ⟨some ⟨w9.heap.size, 0, none⟩, 3, 3⟩ (bools [true, true, false]) := rdS_lit w9 4 (bools [true, true, false]) (by decide)
  have b10 : Below w9.heap.size w9 (w9.alloc (.cells #[.bool true, .bool true, .bool false] 4)) := by (repeat' (first | (with_reducible exact Below.refl _ _) | (with_reducible refine Below.ext_mk ?_ ?_ _ _) | (with_reducible refine Below.alloc ?_ ?_ _) | (with_reducible refine Below.drew ?_) | (with_reducible refine Below.setCell ?_ ?_ _) | go_size))
  generalize w9.alloc (.cells #[.bool true, .bool true, .bool false] 4) = X10 at *
  have E10 := equal_bools (hr9.below b10) r10
  rw [decide_eq_true rfl] at E10
  refine doc_call rfl (by first | (go_simp; done) | (go_simp; exact ⟨rfl, rfl⟩) | (go_simp; with_reducible rfl)) (E10.mono ?_)
  rintro e w11 ⟨rfl, m11, d11, rfl⟩
  refine ⟨_, rfl, ?_⟩
  simp only [Act.put, List.setIfInBounds_toArray, List.set_cons_zero, List.set_cons_succ]
  have b11 : Below w9.heap.size w9 (X10.ext m11 d11) := Below.ext_mk b10 b10.size _ _
  have hfin : Below w.heap.size w (X10.ext m11 d11) := by
    have h1 := HB.out
    have h2 := h1.trans (HB4.out.mono h1.size)
    have h3 := h2.trans (b6.mono h2.size)
    have h4 := h3.trans (b9.mono h3.size)
    exact h4.trans (b11.mono h4.size)
  clear E10 r10 b10 b11 hr9
  generalize X10.ext m11 d11 = F1 at *
  iterate 10 (refine doc_val rfl (by first | (go_simp; done) | (go_simp; exact ⟨rfl, rfl⟩) | (go_simp; with_reducible rfl)) ?_; simp only [Act.put, List.setIfInBounds_toArray, List.set_cons_zero, List.set_cons_succ])
  refine doc_end (HF.out _ _ ?_)
  clear HF F'
  go_wp2_with fail
  go_returns
  exact Pure.of rfl hfin
end Go.Proofs.Ytidnhnfmbebeaaa
set_option linter.unusedVariables false
set_option linter.unusedSimpArgs false
namespace Go.Proofs.Ytidnhnfmbebeaaa
open Go.RowKit Go.Deep

section
variable {H : Type} {enc : TypeId × Value → H} {W : World} {base : Nat} {sp : Nat → Bool} {hd : Bool}

set_option maxRecDepth 100000 in
set_option maxHeartbeats 8000000 in
theorem vastp_some {k : Nat} {p : PgS} (T : PgT enc W base sp hd k p) {w : World} (hw : Below W.heap.size W w) : Calls Try.prog 11 #[p.v] w (SomeB w) := by
  obtain ⟨v1, hv1⟩ := vast_gives T.metas
  have hm1 := T.heads.2.1
  have hm3 := T.acts.2.1
  have HT := hid T
  clear T
  obtain ⟨⟨ha, hn, hc⟩, ⟨ma, mn, mc⟩, ⟨sa, sn, sc⟩, ⟨aa, an, ac⟩, ⟨ta, tn, tc⟩, ⟨ca, cn, cc⟩, ⟨ea, en, ec⟩⟩ := p
  simp only [SL.v_mk] at hv1
  simp only at hm1 hm3
  simp only [PgS.v, SL.v_mk]
  go_enter Try.func11, Try.ntmps11
  go_upto_region 1 with (fail)
  refine wp_gen (fun V hV => ?_)
  have hbV : Below w.heap.size w V := by rw [hV]; ((repeat' (first | (with_reducible exact Below.refl _ _) | (with_reducible refine Below.ext_mk ?_ ?_ _ _) | (with_reducible refine Below.alloc ?_ ?_ _) | (with_reducible refine Below.drew ?_) | (with_reducible refine Below.setCell ?_ ?_ _) | go_size)))
  have zV0 : w.heap.size < V.heap.size := by rw [hV]; first | (simp; done) | (simp; omega)
  have cV0_0 : V.cell? ⟨w.heap.size, 0, none⟩ = some (.slice ha hn hc) := by rw [hV]; first | (go_simp; done) | (rw [World.cell?_alloc_past _ _ _ (by first | (simp; done) | (simp; omega))]; go_simp)
  have cV0_1 : V.cell? ⟨w.heap.size, 1, none⟩ = some (.slice ma mn mc) := by rw [hV]; first | (go_simp; done) | (rw [World.cell?_alloc_past _ _ _ (by first | (simp; done) | (simp; omega))]; go_simp)
  have cV0_2 : V.cell? ⟨w.heap.size, 2, none⟩ = some (.slice sa sn sc) := by rw [hV]; first | (go_simp; done) | (rw [World.cell?_alloc_past _ _ _ (by first | (simp; done) | (simp; omega))]; go_simp)
  have cV0_3 : V.cell? ⟨w.heap.size, 3, none⟩ = some (.slice aa an ac) := by rw [hV]; first | (go_simp; done) | (rw [World.cell?_alloc_past _ _ _ (by first | (simp; done) | (simp; omega))]; go_simp)
  have cV0_4 : V.cell? ⟨w.heap.size, 4, none⟩ = some (.slice ta tn tc) := by rw [hV]; first | (go_simp; done) | (rw [World.cell?_alloc_past _ _ _ (by first | (simp; done) | (simp; omega))]; go_simp)
  have cV0_5 : V.cell? ⟨w.heap.size, 5, none⟩ = some (.slice ca cn cc) := by rw [hV]; first | (go_simp; done) | (rw [World.cell?_alloc_past _ _ _ (by first | (simp; done) | (simp; omega))]; go_simp)
  have cV0_6 : V.cell? ⟨w.heap.size, 6, none⟩ = some (.slice ea en ec) := by rw [hV]; first | (go_simp; done) | (rw [World.cell?_alloc_past _ _ _ (by first | (simp; done) | (simp; omega))]; go_simp)
  clear hV
  have hWV := hw.trans (hbV.mono hw.size)
  have K1 := hv1 V hWV
  clear hv1
  cases v1 with
  | true =>
    go_wp2_with ((with_reducible refine K1.mono ?_); rintro e w2 ⟨rfl, mz, dz, rfl⟩)
    go_returns
    exact ⟨_, Pure.of rfl (by (repeat' (first | (with_reducible exact hbV) | (with_reducible exact Below.refl _ _) | (with_reducible refine Below.ext_mk ?_ ?_ _ _) | (with_reducible refine Below.alloc ?_ ?_ _) | (with_reducible refine Below.drew ?_) | (with_reducible refine Below.setCell ?_ ?_ _) | go_size)))⟩
  | false =>
    go_upto_region 3 with ((with_reducible refine K1.mono ?_); rintro e w2 ⟨rfl, mz, dz, rfl⟩)
    have hb0 : Below V.heap.size V (V.ext mz dz) := Below.ext_mk (Below.refl _ _) (Nat.le_refl _) _ _
    clear K1
    generalize V.ext mz dz = X at *
    have HB0 := hid hb0
    clear hb0
    go_wp2_with fail
    go_loopw [3] (fun i wr => ∃ (j : Nat), j ≤ hn ∧ i = .int .i64 j ∧ Below V.heap.size V wr) (fun i _ => hn - (intOf i).toNat)
    case atStart => exact ⟨0, by omega, rfl, HB0.out⟩
    case round =>
      obtain ⟨j, hj, rfl, hb⟩ := hrel
      have hbs := hb.size
      have p0 := (hb.cell (p := ⟨w.heap.size, 0, none⟩) zV0).trans cV0_0
      have pz : w.heap.size < wr.heap.size := Nat.lt_of_lt_of_le zV0 hb.size
      by_cases hlt : j < hn
      · have hj1 : (j : Int) < (hn : Int) := by omega
        obtain ⟨b, off, cs, ha', zb, hl, hcell, htr⟩ := HT.out.heads.2.2 j hlt
        simp only at ha'
        subst ha'
        obtain ⟨m, nm, fs, hm, rfl, hfs⟩ := tr_Header htr
        have hbw := hWV.trans (hb.mono hWV.size)
        have d1 := (hbw.cell (p := ⟨b, off + (j * 2 + 1), none⟩) zb).trans (hcell 1 _ rfl)
        rw [← Nat.add_assoc] at d1
        have zb2 : b < wr.heap.size := Nat.lt_of_lt_of_le zb hbw.size
        obtain ⟨u, hu⟩ := vast_gives hfs
        obtain ⟨fa, fn, fc⟩ := fs
        simp only [SL.v_mk] at d1 hu
        have K := hu wr hbw
        clear hcell htr hfs hu
        cases u with
        | true =>
          go_wp2_with ((with_reducible refine K.mono ?_); rintro e w2 ⟨rfl, mz, dz, rfl⟩)
          go_returns
          exact ⟨_, Pure.of rfl (hbV.trans ((by (repeat' (first | (with_reducible exact hb) | (with_reducible exact Below.refl _ _) | (with_reducible refine Below.ext_mk ?_ ?_ _ _) | (with_reducible refine Below.alloc ?_ ?_ _) | (with_reducible refine Below.drew ?_) | (with_reducible refine Below.setCell ?_ ?_ _) | go_size)) : Below V.heap.size V (wr.ext mz dz)).mono hbV.size))⟩
        | false =>
          go_wp2_with ((with_reducible refine K.mono ?_); rintro e w2 ⟨rfl, mz, dz, rfl⟩)
          go_roundw
          case rel => exact ⟨j + 1, hlt, by go_num, by (repeat' (first | (with_reducible exact hb) | (with_reducible exact Below.refl _ _) | (with_reducible refine Below.ext_mk ?_ ?_ _ _) | (with_reducible refine Below.alloc ?_ ?_ _) | (with_reducible refine Below.drew ?_) | (with_reducible refine Below.setCell ?_ ?_ _) | go_size))⟩
          case measure => simp [intOf]; omega
      · obtain rfl : j = hn := by omega
        have HB1 := hid hb
        clear hb
        go_wp2_with fail
        go_loopw [4] (fun i wr => ∃ (j : Nat), j ≤ an ∧ i = .int .i64 j ∧ Below V.heap.size V wr) (fun i _ => an - (intOf i).toNat)
        case atStart => exact ⟨0, by omega, rfl, HB1.out⟩
        case round =>
          obtain ⟨j, hj, rfl, hb⟩ := hrel
          have hbs := hb.size
          have p3 := (hb.cell (p := ⟨w.heap.size, 3, none⟩) zV0).trans cV0_3
          have pz : w.heap.size < wr.heap.size := Nat.lt_of_lt_of_le zV0 hb.size
          by_cases hlt : j < an
          · have hj1 : (j : Int) < (an : Int) := by omega
            obtain ⟨b, off, cs, ha', zb, hl, hcell, htr⟩ := HT.out.acts.2.2 j hlt
            simp only at ha'
            subst ha'
            obtain ⟨m, nm, fs, bo, hm, rfl, hfs, hbo⟩ := tr_Action htr
            have hbw := hWV.trans (hb.mono hWV.size)
            have d1 := (hbw.cell (p := ⟨b, off + (j * 3 + 1), none⟩) zb).trans (hcell 1 _ rfl)
            rw [← Nat.add_assoc] at d1
            have zb2 : b < wr.heap.size := Nat.lt_of_lt_of_le zb hbw.size
            obtain ⟨u, hu⟩ := vast_gives hfs
            obtain ⟨fa, fn, fc⟩ := fs
            simp only [SL.v_mk] at d1 hu
            have K := hu wr hbw
            clear hcell htr hfs hu
            cases u with
            | true =>
              go_wp2_with ((with_reducible refine K.mono ?_); rintro e w2 ⟨rfl, mz, dz, rfl⟩)
              go_returns
              exact ⟨_, Pure.of rfl (hbV.trans ((by (repeat' (first | (with_reducible exact hb) | (with_reducible exact Below.refl _ _) | (with_reducible refine Below.ext_mk ?_ ?_ _ _) | (with_reducible refine Below.alloc ?_ ?_ _) | (with_reducible refine Below.drew ?_) | (with_reducible refine Below.setCell ?_ ?_ _) | go_size)) : Below V.heap.size V (wr.ext mz dz)).mono hbV.size))⟩
            | false =>
              go_wp2_with ((with_reducible refine K.mono ?_); rintro e w2 ⟨rfl, mz, dz, rfl⟩)
              go_roundw
              case rel => exact ⟨j + 1, hlt, by go_num, by (repeat' (first | (with_reducible exact hb) | (with_reducible exact Below.refl _ _) | (with_reducible refine Below.ext_mk ?_ ?_ _ _) | (with_reducible refine Below.alloc ?_ ?_ _) | (with_reducible refine Below.drew ?_) | (with_reducible refine Below.setCell ?_ ?_ _) | go_size))⟩
              case measure => simp [intOf]; omega
          · obtain rfl : j = an := by omega
            have HB4 := hid (hbV.trans (hb.mono hbV.size))
            clear hb
            go_wp2_with fail
            go_returns
            exact ⟨_, Pure.of rfl HB4.out⟩

/-- great: some truth; if it is false, there are few states. -/
def GreatP (n : Nat) (w : World) (e : Ending) (w' : World) : Prop := ∃ b : Bool, (b = false → n ≤ 20) ∧ Pure (.bool b) w e w'
set_option maxRecDepth 100000 in
theorem great_any {k : Nat} {p : PgS} (T : PgT enc W base sp hd k p) {w : World} (hw : Below W.heap.size W w) : Calls Try.prog 4 #[p.v] w (GreatP p.states.n w) := by
  have G := fun w' hb => great_some T (w := w') hb
  have VA := fun w' hb => vastp_some T (w := w') hb
  clear T
  obtain ⟨⟨ha, hn, hc⟩, ⟨ma, mn, mc⟩, ⟨sa, sn, sc⟩, ⟨aa, an, ac⟩, ⟨ta, tn, tc⟩, ⟨ca, cn, cc⟩, ⟨ea, en, ec⟩⟩ := p
  simp only [PgS.v, SL.v_mk] at G VA ⊢
  go_enter Try.func4, Try.ntmps4
  go_upto_region 1 with (fail)
  refine wp_gen (fun V hV => ?_)
  have hbV : Below w.heap.size w V := by rw [hV]; ((repeat' (first | (with_reducible exact Below.refl _ _) | (with_reducible refine Below.ext_mk ?_ ?_ _ _) | (with_reducible refine Below.alloc ?_ ?_ _) | (with_reducible refine Below.drew ?_) | (with_reducible refine Below.setCell ?_ ?_ _) | go_size)))
  have zV0 : w.heap.size < V.heap.size := by rw [hV]; first | (simp; done) | (simp; omega)
  have cV0_0 : V.cell? ⟨w.heap.size, 0, none⟩ = some (.slice ha hn hc) := by rw [hV]; first | (go_simp; done) | (rw [World.cell?_alloc_past _ _ _ (by first | (simp; done) | (simp; omega))]; go_simp)
  have cV0_1 : V.cell? ⟨w.heap.size, 1, none⟩ = some (.slice ma mn mc) := by rw [hV]; first | (go_simp; done) | (rw [World.cell?_alloc_past _ _ _ (by first | (simp; done) | (simp; omega))]; go_simp)
  have cV0_2 : V.cell? ⟨w.heap.size, 2, none⟩ = some (.slice sa sn sc) := by rw [hV]; first | (go_simp; done) | (rw [World.cell?_alloc_past _ _ _ (by first | (simp; done) | (simp; omega))]; go_simp)
  have cV0_3 : V.cell? ⟨w.heap.size, 3, none⟩ = some (.slice aa an ac) := by rw [hV]; first | (go_simp; done) | (rw [World.cell?_alloc_past _ _ _ (by first | (simp; done) | (simp; omega))]; go_simp)
  have cV0_4 : V.cell? ⟨w.heap.size, 4, none⟩ = some (.slice ta tn tc) := by rw [hV]; first | (go_simp; done) | (rw [World.cell?_alloc_past _ _ _ (by first | (simp; done) | (simp; omega))]; go_simp)
  have cV0_5 : V.cell? ⟨w.heap.size, 5, none⟩ = some (.slice ca cn cc) := by rw [hV]; first | (go_simp; done) | (rw [World.cell?_alloc_past _ _ _ (by first | (simp; done) | (simp; omega))]; go_simp)
  have cV0_6 : V.cell? ⟨w.heap.size, 6, none⟩ = some (.slice ea en ec) := by rw [hV]; first | (go_simp; done) | (rw [World.cell?_alloc_past _ _ _ (by first | (simp; done) | (simp; omega))]; go_simp)
  clear hV
  have hWV := hw.trans (hbV.mono hw.size)
  have K1 := G V hWV
  have K2 := fun m d => VA (V.ext m d) (Below.ext_mk hWV hWV.size m d)
  clear G VA
  refine wp_region_doc (fun F' hF => ?_)
  have HF := hid hF
  clear hF
  refine doc_val rfl (by first | (go_simp; done) | (go_simp; exact ⟨rfl, rfl⟩) | (go_simp; with_reducible rfl)) ?_
  simp only [Act.put, List.setIfInBounds_toArray, List.set_cons_zero, List.set_cons_succ]
  refine doc_call rfl (by first | (go_simp; done) | (go_simp; exact ⟨rfl, rfl⟩) | (go_simp; with_reducible rfl)) (K1.mono ?_)
  rintro e w1 ⟨b1, rfl, m1, d1, rfl⟩
  refine ⟨_, rfl, ?_⟩
  simp only [Act.put, List.setIfInBounds_toArray, List.set_cons_zero, List.set_cons_succ]
  cases b1 with
  | true =>
    refine doc_val rfl (by first | (go_simp; done) | (go_simp; exact ⟨rfl, rfl⟩) | (go_simp; with_reducible rfl)) ?_
    simp only [Act.put, List.setIfInBounds_toArray, List.set_cons_zero, List.set_cons_succ]
    iterate 4 (refine doc_not rfl ?_; simp only [Act.put, List.setIfInBounds_toArray, List.set_cons_zero, List.set_cons_succ])
    iterate 2 (refine doc_val rfl (by first | (go_simp; done) | (go_simp; exact ⟨rfl, rfl⟩) | (go_simp; with_reducible rfl)) ?_; simp only [Act.put, List.setIfInBounds_toArray, List.set_cons_zero, List.set_cons_succ])
    iterate 2 (refine doc_not rfl ?_; simp only [Act.put, List.setIfInBounds_toArray, List.set_cons_zero, List.set_cons_succ])
    iterate 2 (refine doc_val rfl (by first | (go_simp; done) | (go_simp; exact ⟨rfl, rfl⟩) | (go_simp; with_reducible rfl)) ?_; simp only [Act.put, List.setIfInBounds_toArray, List.set_cons_zero, List.set_cons_succ])
    refine doc_end (HF.out _ _ ?_)
    clear HF F'
    go_wp2_with fail
    go_returns
    exact ⟨true, fun h => (by cases h), Pure.of rfl (by (repeat' (first | (with_reducible exact hbV) | (with_reducible exact Below.refl _ _) | (with_reducible refine Below.ext_mk ?_ ?_ _ _) | (with_reducible refine Below.alloc ?_ ?_ _) | (with_reducible refine Below.drew ?_) | (with_reducible refine Below.setCell ?_ ?_ _) | go_size)))⟩
  | false =>
    by_cases hlt : 20 < sn
    · have hl1 : (20 : Int) < (sn : Int) := by omega
      iterate 4 (refine doc_val rfl (by first | (go_simp; done) | (go_simp; exact ⟨rfl, rfl⟩) | (go_simp; with_reducible rfl)) ?_; simp only [Act.put, List.setIfInBounds_toArray, List.set_cons_zero, List.set_cons_succ])
      refine doc_val (v := .bool true) rfl (by go_simp; (try simp [hlt, hl1]); (try rfl)) ?_
      simp only [Act.put, List.setIfInBounds_toArray, List.set_cons_zero, List.set_cons_succ]
      iterate 2 (refine doc_val rfl (by first | (go_simp; done) | (go_simp; exact ⟨rfl, rfl⟩) | (go_simp; with_reducible rfl)) ?_; simp only [Act.put, List.setIfInBounds_toArray, List.set_cons_zero, List.set_cons_succ])
      iterate 2 (refine doc_not rfl ?_; simp only [Act.put, List.setIfInBounds_toArray, List.set_cons_zero, List.set_cons_succ])
      iterate 2 (refine doc_val rfl (by first | (go_simp; done) | (go_simp; exact ⟨rfl, rfl⟩) | (go_simp; with_reducible rfl)) ?_; simp only [Act.put, List.setIfInBounds_toArray, List.set_cons_zero, List.set_cons_succ])
      refine doc_end (HF.out _ _ ?_)
      clear HF F'
      go_wp2_with fail
      go_returns
      exact ⟨true, fun h => (by cases h), Pure.of rfl (by (repeat' (first | (with_reducible exact hbV) | (with_reducible exact Below.refl _ _) | (with_reducible refine Below.ext_mk ?_ ?_ _ _) | (with_reducible refine Below.alloc ?_ ?_ _) | (with_reducible refine Below.drew ?_) | (with_reducible refine Below.setCell ?_ ?_ _) | go_size)))⟩
    · have hl1 : ¬ (20 : Int) < (sn : Int) := by omega
      have hl2 : (decide ((20 : Int) < (sn : Int))) = false := by simp; omega
      iterate 4 (refine doc_val rfl (by first | (go_simp; done) | (go_simp; exact ⟨rfl, rfl⟩) | (go_simp; with_reducible rfl)) ?_; simp only [Act.put, List.setIfInBounds_toArray, List.set_cons_zero, List.set_cons_succ])
      refine doc_val (v := .bool false) rfl (by go_simp; (try simp [hlt, hl1]); (try rfl)) ?_
      simp only [Act.put, List.setIfInBounds_toArray, List.set_cons_zero, List.set_cons_succ]
      iterate 3 (refine doc_val rfl (by first | (go_simp; done) | (go_simp; exact ⟨rfl, rfl⟩) | (go_simp; with_reducible rfl)) ?_; simp only [Act.put, List.setIfInBounds_toArray, List.set_cons_zero, List.set_cons_succ])
      refine doc_call rfl (by first | (go_simp; done) | (go_simp; exact ⟨rfl, rfl⟩) | (go_simp; with_reducible rfl)) ((K2 _ _).mono ?_)
      rintro e w2 ⟨b2, rfl, m2, d2, rfl⟩
      refine ⟨_, rfl, ?_⟩
      simp only [Act.put, List.setIfInBounds_toArray, List.set_cons_zero, List.set_cons_succ]
      iterate 2 (refine doc_val rfl (by first | (go_simp; done) | (go_simp; exact ⟨rfl, rfl⟩) | (go_simp; with_reducible rfl)) ?_; simp only [Act.put, List.setIfInBounds_toArray, List.set_cons_zero, List.set_cons_succ])
      refine doc_end (HF.out _ _ ?_)
      clear HF F'
      go_wp2_with fail
      go_returns
      exact ⟨_, fun _ => by omega, Pure.of rfl (by (repeat' (first | (with_reducible exact hbV) | (with_reducible exact Below.refl _ _) | (with_reducible refine Below.ext_mk ?_ ?_ _ _) | (with_reducible refine Below.alloc ?_ ?_ _) | (with_reducible refine Below.drew ?_) | (with_reducible refine Below.setCell ?_ ?_ _) | go_size)))⟩
end
end Go.Proofs.Ytidnhnfmbebeaaa
set_option linter.unusedVariables false
set_option linter.unusedSimpArgs false
namespace Go.Proofs.Ytidnhnfmbebeaaa
open Go.RowKit Go.Gr

section
variable {H : Type} {enc : TypeId × Value → H} {W : World} {base : Nat} {sp : Nat → Bool} {hd : Bool}

set_option maxRecDepth 100000 in
set_option maxHeartbeats 8000000 in
theorem graphOrder_any {k : Nat} {p : PgS} {sts : List StP} (T : PgT enc W base sp hd k p) (hs : StsIs W p.states sts) :
    Calls Try.prog 3 #[p.v] W (Pure (.bool true) W) := by
  have hmm := @run_makeMap Try.prog
  have GR := fun w hb => great_any T (w := w) hb
  have KN := known_any
  have hlen := hs.len.1
  have HS := hid hs
  clear T hs
  go_enter Try.func3, Try.ntmps3
  go_upto_region 1 with (fail)
  refine wp_gen (fun V hV => ?_)
  have hbV : Below W.heap.size W V := by rw [hV]; (repeat' (first | (with_reducible exact Below.refl _ _) | (with_reducible refine Below.ext_mk ?_ ?_ _ _) | (with_reducible refine Below.alloc ?_ ?_ _) | (with_reducible refine Below.drew ?_) | (with_reducible refine Below.setCell ?_ ?_ _) | go_size))
  have bp : Blk V W.heap.size 30 p.cs := by
    rw [hV]
    exact Blk.new W 30 p.cs
  clear hV
  have p0 := bp.cell 0
  have p1 := bp.cell 1
  have p2 := bp.cell 2
  have p3 := bp.cell 3
  have p4 := bp.cell 4
  have p5 := bp.cell 5
  have p6 := bp.cell 6
  simp only [PgS.cs, List.getElem?_cons_zero, List.getElem?_cons_succ] at p0 p1 p2 p3 p4 p5 p6
  have pz := bp.lt
  have G1 := GR V hbV
  clear GR
  refine wp_region_doc (fun F' hF => ?_)
  have HF := hid hF
  clear hF
  refine doc_val rfl (by first | (go_simp; done) | (go_simp; exact ⟨rfl, rfl⟩) | (go_simp; with_reducible rfl)) ?_
  simp only [Act.put, List.setIfInBounds_toArray, List.set_cons_zero, List.set_cons_succ]
  refine doc_call rfl (by first | (go_simp; done) | (go_simp; exact ⟨rfl, rfl⟩) | (go_simp; with_reducible rfl)) (G1.mono ?_)
  rintro e w1 ⟨b1, hb20, rfl, m1, d1, rfl⟩
  refine ⟨_, rfl, ?_⟩
  simp only [Act.put, List.setIfInBounds_toArray, List.set_cons_zero, List.set_cons_succ]
  refine doc_end (HF.out _ _ ?_)
  clear HF F' G1
  have hb1 : Below W.heap.size W (V.ext m1 d1) := Below.ext_mk hbV hbV.size _ _
  have bp1 := bp.ext m1 d1
  clear p0 p1 p2 p3 p4 p5 p6 pz bp
  generalize V.ext m1 d1 = X at *
  clear hbV
  cases b1 with
  | true =>
    have K1 := KN X
    go_wp2_with ((with_reducible refine K1.mono ?_); rintro e w3 ⟨rfl, m3, d3, rfl⟩)
    go_returns
    exact Pure.of rfl (Below.ext_mk hb1 hb1.size _ _)
  | false =>
    have hn20 := hb20 rfl
    rw [hlen] at hn20
    clear hb20
    have bp := bp1
    have p0 := bp.cell 0
    have p1 := bp.cell 1
    have p2 := bp.cell 2
    have p3 := bp.cell 3
    have p4 := bp.cell 4
    have p5 := bp.cell 5
    have p6 := bp.cell 6
    simp only [PgS.cs, List.getElem?_cons_zero, List.getElem?_cons_succ] at p0 p1 p2 p3 p4 p5 p6
    have pz := bp.lt
    cases hy : (cycV sts).2 with
    | true =>
      have O1 := order_cyc (p := p) (HS.out.below hb1) (by omega) hy
      have HY := hid hy
      clear hy
      go_upto_region 5 with ((with_reducible refine O1.mono ?_); rintro e w2 ⟨rfl, m2, d2, rfl⟩)
      have hb2 : Below W.heap.size W (X.ext m2 d2) := Below.ext_mk hb1 hb1.size _ _
      have bp2 := bp.ext m2 d2
      clear p0 p1 p2 p3 p4 p5 p6 pz bp bp1 O1
      generalize X.ext m2 d2 = Y at *
      have bp := bp2
      have p0 := bp.cell 0
      have p1 := bp.cell 1
      have p2 := bp.cell 2
      have p3 := bp.cell 3
      have p4 := bp.cell 4
      have p5 := bp.cell 5
      have p6 := bp.cell 6
      simp only [PgS.cs, List.getElem?_cons_zero, List.getElem?_cons_succ] at p0 p1 p2 p3 p4 p5 p6
      have pz := bp.lt
      have C1 := cycle_any (p := p) (HS.out.below hb2) (by omega)
      rw [HY.out] at C1
      generalize (cycV sts).1 = c1 at *
      go_upto_region 6 with ((with_reducible refine C1.mono ?_); rintro e w3 ⟨rfl, m3, d3, rfl⟩)
      have hb3 : Below W.heap.size W (Y.ext m3 d3) := Below.ext_mk hb2 hb2.size _ _
      generalize Y.ext m3 d3 = Z at *
      have K1 := KN Z
      clear p0 p1 p2 p3 p4 p5 p6 pz bp bp2 C1
      go_wp2_with ((with_reducible refine K1.mono ?_); rintro e w4 ⟨rfl, m4, d4, rfl⟩)
      go_returns
      exact Pure.of rfl (Below.ext_mk hb3 hb3.size _ _)
    | false =>
      have O1 := order_ok (p := p) (HS.out.below hb1) (by omega) hy
      have HY := hid hy
      clear hy
      go_upto_region 4 with ((with_reducible refine O1.mono ?_); rintro e w2 ⟨sv, G, rfl, hrow, hG, hb2⟩)
      have hcyc : cycN (graphN sts) = none := by
        have hy := HY.out
        unfold cycV cycR at hy
        cases hq : cycN (graphN sts) with
        | none => rfl
        | some i => rw [hq] at hy; cases hy
      obtain ⟨hok, hkl⟩ := kahn_ok (graphN_valid sts) hcyc sts.length (by rw [graphN_len]; exact Nat.le_refl _)
      generalize kahnN (graphN sts) sts.length = out at *
      have hb : Below W.heap.size W w2 := hb1.trans (hb2.mono hb1.size)
      have bp2 := bp.below hb2
      obtain ⟨s, hsv, hsn, hrd⟩ := RowIs.rdS hrow
      obtain ⟨oa, on, oc⟩ := s
      simp only at hsn
      rw [hkl] at hsn
      subst hsv hsn
      have HO := hid (And.intro hok hkl)
      have HL := hid hrd
      have HB := hid hb
      have HB2 := hid bp2
      clear p0 p1 p2 p3 p4 p5 p6 pz bp bp1 O1 hrow hG hb2 hrd hb hok hkl hcyc
      have bp := HB2.out
      have p2 := bp.cell 2
      simp only [PgS.cs, List.getElem?_cons_zero, List.getElem?_cons_succ] at p2
      have pz := bp.lt
      clear bp
      simp only [SL.v_mk]
      go_upto_region 10 with (fail)
      refine wp_gen (fun U hU => ?_)
      have mU : AM U w2.heap.size (fun _ => 0) := AM.new (by rw [hU]; exact heap_alloc_new w2 _)
      have hbU : Below w2.heap.size w2 U := by rw [hU]; (repeat' (first | (with_reducible exact Below.refl _ _) | (with_reducible refine Below.ext_mk ?_ ?_ _ _) | (with_reducible refine Below.alloc ?_ ?_ _) | (with_reducible refine Below.drew ?_) | (with_reducible refine Below.setCell ?_ ?_ _) | go_size))
      have hmb : w2.heap.size ≤ w2.heap.size := Nat.le_refl _
      have HU := hid (And.intro mU hbU)
      clear hU mU hbU hmm p2
      have hpw : W.heap.size < w2.heap.size := pz
      have hbU2 : Below w2.heap.size w2 U := HU.out.2
      have mU2 : AM U w2.heap.size (posA out 0) := HU.out.1
      have TB0 : ∀ (mb : Nat), w2.heap.size = mb → ∀ w', Below mb w2 w' → Below w2.heap.size w2 w' := fun mb h w' hb => by rw [h]; exact hb
      have TB := fun mb h => hid (TB0 mb h)
      have hq : ∃ mb, w2.heap.size = mb := ⟨_, rfl⟩
      obtain ⟨mb, hmbv⟩ := hq
      have TB := TB mb hmbv
      rw [hmbv] at hbU2 mU2 hpw
      clear TB0 HU hmb pz
      have HU := hid (And.intro mU2 hbU2)
      have HM := hid hmbv
      clear mU2 hbU2
      simp only [hmbv]
      clear hmbv
      go_wp2_with fail
      go_loopw [47] (fun ix wr => ∃ j : Nat, j ≤ sts.length ∧ ix = .int .i64 j ∧ AM wr mb (posA out j) ∧ Below mb w2 wr) (fun ix _ => sts.length - (intOf ix).toNat)
      case atStart => exact ⟨0, by omega, rfl, HU.out.1, HU.out.2⟩
      case round =>
        obtain ⟨j, hj, rfl, hA, hb⟩ := hrel
        have hb' := TB.out wr hb
        have hbs := hb.size
        have bp := HB2.out.below hb'
        by_cases hlt : j < sts.length
        · have hj1 : (j : Int) < (sts.length : Int) := by omega
          have hj0 : (0 : Int) ≤ (j : Int) := by omega
          have p2 := bp.cell 2
          simp only [PgS.cs, List.getElem?_cons_zero, List.getElem?_cons_succ] at p2
          have pz := bp.lt
          obtain ⟨b, off, hoa, zb, hc⟩ := RdS.natAt (HL.out.below hb') (j := j) (by rw [HO.out.2]; exact hlt)
          simp only at hoa
          subst hoa
          have hjo : j < out.length := by rw [HO.out.2]; exact hlt
          obtain ⟨x, hx⟩ : ∃ x, out[j] = x := ⟨_, rfl⟩
          rw [hx] at hc
          have hxs : out[j]? = some x := by rw [List.getElem?_eq_getElem hjo, hx]
          have hxn : x < sts.length := by
            have := HO.out.1.lt x (List.mem_of_getElem? hxs)
            rwa [graphN_len] at this
          have hx1 : (x : Int) < (sts.length : Int) := by omega
          have hx0 : (0 : Int) ≤ (x : Int) := by omega
          have hlook := hA.look x
          rw [posA_new HO.out.1.nodup hxs] at hlook
          have ew : IntKind.i64.wrap ((j : Int) + 1) = (j : Int) + 1 := IntWalk.i64_in _ (by omega)
          obtain ⟨o, u1, u2⟩ := hA.upd x ((j : Int) + 1)
          have HA := hid (u2.cast (B := posA out (j + 1)) (fun i => by
            rw [posA]
            by_cases e : i = x
            · subst e; rw [if_pos rfl, if_pos hxs]
            · rw [if_neg e, if_neg (fun h => e (by rw [hxs] at h; simpa using h.symm))]))
          have HBB := hid (Below.putOwn hb (Nat.le_refl mb) o)
          clear u2 hA hb hb' hx hxs bp
          go_wp2_with fail
          go_roundw
          case rel => exact ⟨j + 1, hlt, by go_num, HA.out, HBB.out⟩
          case measure => simp [intOf]; omega
        · obtain rfl : j = sts.length := by omega
          have p0 := bp.cell 0
          have p1 := bp.cell 1
          have p2 := bp.cell 2
          have p3 := bp.cell 3
          have p4 := bp.cell 4
          have p5 := bp.cell 5
          have p6 := bp.cell 6
          simp only [PgS.cs, List.getElem?_cons_zero, List.getElem?_cons_succ] at p0 p1 p2 p3 p4 p5 p6
          have pz := bp.lt
          have HA := hid hA
          have HBB := hid hb'
          have bW : Below W.heap.size W wr := HB.out.trans (hb'.mono HB.out.size)
          have R1 := reached_any (p := p) (HS.out.below bW) (by omega)
          have hml := hA.lt
          clear hA hb hb'
          go_upto_region 18 with ((with_reducible refine R1.mono ?_); rintro e w3 ⟨s9, rfl, hr9, hb9⟩)
          have A3 := HA.out.keep (hb9.block mb hml)
          have bp3 := bp.below hb9
          have bW3 : Below W.heap.size W w3 := bW.trans (hb9.mono bW.size)
          have hrn := hr9.truth
          have hrl := reachV_len sts
          obtain ⟨ra, rn, rc⟩ := s9
          simp only at hrn
          rw [hrl] at hrn
          subst hrn
          have H9 := hid hr9
          have HA3 := hid A3
          have HB3 := hid (And.intro bp3 bW3)
          have hmb3 : mb < w3.heap.size := A3.lt
          clear p0 p1 p2 p3 p4 p5 p6 pz R1 hr9 hb9 A3 bW HA HBB hbs hml bp
          have bp := bp3
          have p2 := bp.cell 2
          simp only [PgS.cs, List.getElem?_cons_zero, List.getElem?_cons_succ] at p2
          have pz := bp.lt
          clear bp bp3 bW3
          simp only [SL.v_mk]
          go_wp2_with fail
          clear p2 pz
          go_loopw [83] (fun ix wr => ∃ k : Nat, k ≤ sts.length ∧ ix = .int .i64 k ∧ Below w3.heap.size w3 wr) (fun ix _ => sts.length - (intOf ix).toNat)
          case atStart => exact ⟨0, by omega, rfl, Below.refl _ _⟩
          case round =>
            obtain ⟨k, hk, rfl, hb⟩ := hrel
            have hbs := hb.size
            have bp := HB3.out.1.below hb
            have bW := HB3.out.2.trans (hb.mono HB3.out.2.size)
            by_cases hlt : k < sts.length
            · have hk1 : (k : Int) < (sts.length : Int) := by omega
              have hk0 : (0 : Int) ≤ (k : Int) := by omega
              have p0 := bp.cell 0
              have p1 := bp.cell 1
              have p2 := bp.cell 2
              have p3 := bp.cell 3
              have p4 := bp.cell 4
              have p5 := bp.cell 5
              have p6 := bp.cell 6
              simp only [PgS.cs, List.getElem?_cons_zero, List.getElem?_cons_succ] at p0 p1 p2 p3 p4 p5 p6
              have pz := bp.lt
              have N1 := next_any (p := p) (HS.out.below bW) (by omega) (k : Int)
              have ev : nextV sts (k : Int) = nextN sts k := by unfold nextV; rw [if_pos ⟨hk0, hk1⟩, Int.toNat_natCast]
              rw [ev] at N1
              have HBB := hid hb
              clear hb ev
              go_wp2_with ((with_reducible refine N1.mono ?_); rintro e w4 ⟨sv4, G4, rfl, hrow4, hG4, hb4⟩; obtain ⟨s4, rfl, hs4, hrd4⟩ := RowIs.rdS hrow4)
              have hnf := nextN_few sts k
              have hnr := graphN_row sts k
              generalize hlg : nextN sts k = lst at *
              obtain ⟨la, ln, lc⟩ := s4
              simp only at hs4
              subst hs4
              have hbw4 : Below w3.heap.size w3 w4 := HBB.out.trans (hb4.mono HBB.out.size)
              have HR4 := hid hrd4
              have HW4 := hid hbw4
              have HNF := hid (And.intro hnf hnr)
              clear p0 p1 p2 p3 p4 p5 p6 pz N1 hrow4 hG4 hb4 hrd4 hbw4 hnf hnr hbs bp bW
              simp only [SL.v_mk]
              have hlm : (lst.length : Int) ≤ 9223372036854775807 := by have := HR4.out.2.1; simp only at this; omega
              go_loopw [90] (fun ix wr => ∃ t : Nat, t ≤ lst.length ∧ ix = .int .i64 t ∧ Below w4.heap.size w4 wr) (fun ix _ => lst.length - (intOf ix).toNat)
              case atStart => exact ⟨0, by omega, rfl, Below.refl _ _⟩
              case round =>
                obtain ⟨t, ht, rfl, hb⟩ := hrel
                have hbs := hb.size
                have hb3 : Below w3.heap.size w3 wr := HW4.out.trans (hb.mono HW4.out.size)
                by_cases hlt2 : t < lst.length
                · have ht1 : (t : Int) < (lst.length : Int) := by omega
                  have bp := HB3.out.1.below hb3
                  have p2 := bp.cell 2
                  simp only [PgS.cs, List.getElem?_cons_zero, List.getElem?_cons_succ] at p2
                  have pz := bp.lt
                  obtain ⟨b, off, hla, zb, hc⟩ := RdS.natAt (HR4.out.below hb) hlt2
                  simp only at hla
                  subst hla
                  obtain ⟨x, hx⟩ : ∃ x, lst[t] = x := ⟨_, rfl⟩
                  rw [hx] at hc
                  have hxm : x ∈ lst := by rw [← hx]; exact List.getElem_mem _
                  have hxn : x < sts.length := HNF.out.1.2 x hxm
                  have hx1 : (x : Int) < (sts.length : Int) := by omega
                  have hx0 : (0 : Int) ≤ (x : Int) := by omega
                  have A4 := HA3.out.keep (hb3.block mb hmb3)
                  have lk1 := A4.look x
                  have lk2 := A4.look k
                  have hpos := edge_pos HO.out.1 (by rw [HO.out.2, graphN_len]) (s := k) (k := x) (by rw [graphN_len]; exact hlt) (by rw [graphN_len]; exact hxn) (by rw [HNF.out.2]; exact hxm)
                  rw [graphN_len] at hpos
                  generalize posA out sts.length x = ax at *
                  generalize posA out sts.length k = ak at *
                  have hle : ¬ ax ≤ ak := by omega
                  obtain ⟨rb, ro, hra, zr, rk⟩ := RdS.boolAt (H9.out.below hb3) (j := k) (by rw [reachV_len]; exact hlt)
                  obtain ⟨rb', ro', hra', _, rx⟩ := RdS.boolAt (H9.out.below hb3) (j := x) (by rw [reachV_len]; exact hxn)
                  simp only at hra hra'
                  have hbb : rb' = rb ∧ ro' = ro := by
                    rw [hra] at hra'
                    simp at hra'
                    exact ⟨hra'.1.symm, hra'.2.symm⟩
                  obtain ⟨rfl, rfl⟩ := hbb
                  subst hra
                  have hon : (reachV sts)[k]'(by rw [reachV_len]; exact hlt) = true → (reachV sts)[x]'(by rw [reachV_len]; exact hxn) = true := by
                    intro h
                    have h0 : ¬ sts.length = 0 := by omega
                    have e1 : (reachV sts).getD k false = true := by rw [List.getD_eq_getElem?_getD, List.getElem?_eq_getElem (by rw [reachV_len]; exact hlt), h]; rfl
                    have e2 : reachV sts = (fromN (graphN sts) 0).set 0 true := by unfold reachV; rw [if_neg h0]
                    rw [e2] at e1
                    have e3 := reach_on (graphN_valid sts) (by rw [graphN_len]; omega) (s := k) (k := x) (by rw [HNF.out.2]; exact hxm) e1
                    rw [← e2, List.getD_eq_getElem?_getD, List.getElem?_eq_getElem (by rw [reachV_len]; exact hxn)] at e3
                    exact e3
                  have HBT := hid hb
                  generalize (reachV sts)[k]'(by rw [reachV_len]; exact hlt) = vk at *
                  generalize (reachV sts)[x]'(by rw [reachV_len]; exact hxn) = vx at *
                  clear hra' hxm hx A4 bp hb hb3
                  cases vk with
                  | true =>
                    have hvx := hon rfl
                    subst hvx
                    clear hon
                    go_wp2_with fail
                    go_roundw
                    case rel => exact ⟨t + 1, hlt2, by go_num, HBT.out⟩
                    case measure => simp [intOf]; omega
                  | false =>
                    clear hon
                    go_wp2_with fail
                    go_roundw
                    case rel => exact ⟨t + 1, hlt2, by go_num, HBT.out⟩
                    case measure => simp [intOf]; omega
                · obtain rfl : t = lst.length := by omega
                  have HB5 := hid hb3
                  clear hb hb3
                  go_wp2_with fail
                  go_roundw
                  case rel => exact ⟨k + 1, hlt, by go_num, HB5.out⟩
                  case measure => simp [intOf]; omega
            · obtain rfl : k = sts.length := by omega
              have KW := KN wr
              have HFI := hid bW
              have hr0 : ∀ (h : 0 < sts.length), ∃ b off, ra = some ⟨b, off, none⟩ ∧ b < wr.heap.size ∧ wr.cell? ⟨b, off, none⟩ = some (.bool true) := by
                intro h
                obtain ⟨rb, ro, hra, zr, rk⟩ := RdS.boolAt (H9.out.below hb) (j := 0) (by rw [reachV_len]; exact h)
                refine ⟨rb, ro, hra, zr, ?_⟩
                rw [Nat.add_zero] at rk
                rw [rk]
                have h0 : ¬ sts.length = 0 := by omega
                have hl0 : 0 < (fromN (graphN sts) 0).length := by rw [fromN_len _ (graphN_valid sts), graphN_len]; exact h
                congr 2
                unfold reachV
                simp [h0]
              have HR0 := hid hr0
              clear hr0 hb bp bW hbs
              by_cases h0 : sts.length = 0
              · have h1 : ((sts.length : Nat) : Int) = 0 := by omega
                go_wp2_with ((with_reducible refine KW.mono ?_); rintro e w9 ⟨rfl, m9, d9, rfl⟩)
                go_returns
                exact Pure.of rfl (Below.ext_mk HFI.out HFI.out.size _ _)
              · obtain ⟨rb, ro, hra, zr, rk⟩ := HR0.out (by omega)
                subst hra
                have h1 : ((sts.length : Nat) : Int) ≠ 0 := by omega
                have h2 : (0 : Int) < (sts.length : Int) := by omega
                have h3 : (((sts.length : Nat) : Int) == 0) = false := by rw [beq_eq_false_iff_ne]; exact h1
                clear h0 HR0
                go_wp2_with ((with_reducible refine KW.mono ?_); rintro e w9 ⟨rfl, m9, d9, rfl⟩)
                go_returns
                exact Pure.of rfl (Below.ext_mk HFI.out HFI.out.size _ _)
end
end Go.Proofs.Ytidnhnfmbebeaaa
