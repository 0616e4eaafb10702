/-
  Package header: Emit's closure, that lays one bit.
-/
import Derived.Test.YtkblldmpdihamaaZClone
import Derived.Deep.Upon
set_option linter.unusedVariables false
set_option linter.unusedSimpArgs false
namespace Go.Proofs.Ytkblldmpdihamaa
open Go.RowKit

/-- The bytes behind one bit more. -/
def layN (o : List Nat) (m : Nat) (b : Bool) : List Nat :=
  if b then (if m % 8 = 0 then o ++ [0] else o).set ((if m % 8 = 0 then o ++ [0] else o).length - 1) ((if m % 8 = 0 then o ++ [0] else o).getD ((if m % 8 = 0 then o ++ [0] else o).length - 1) 0 ||| 2 ^ (7 - m % 8))
  else (if m % 8 = 0 then o ++ [0] else o)
theorem or_u8 (x s : Nat) (h : x < 256) (hs : s < 8) : bits BinOp.or .u8 (x : Int) ((2 ^ s : Nat) : Int) = ((x ||| 2 ^ s : Nat) : Int) ∧ x ||| 2 ^ s < 256 := by
  have : ∀ (x : Fin 256) (s : Fin 8), bits BinOp.or .u8 ((x.val : Nat) : Int) ((2 ^ s.val : Nat) : Int) = ((x.val ||| 2 ^ s.val : Nat) : Int) ∧ x.val ||| 2 ^ s.val < 256 := by decide +kernel
  exact this ⟨x, h⟩ ⟨s, hs⟩

/-- How many bits are laid, and where; the bytes. -/
structure LayW (w : World) (i0 i1 : Nat) (sv : Value) (G : Option Nat) (o : List Nat) (m : Nat) : Prop where
  many : Blk w i0 3 [.int .i64 (m : Int)]
  out : Blk w i1 34 [sv]
  row : RowIs w sv G 5 1 o.length (byts o)
  ne : i0 ≠ i1
  g0 : ∀ g, G = some g → g ≠ i0 ∧ g ≠ i1
  byte : ∀ x ∈ o, x < 256
  full : o.length = (m + 7) / 8
/-- What lay does to the rest: nothing. -/
def LayStep (w w' : World) (i0 i1 : Nat) (G G' : Option Nat) : Prop := Turn w w' (i0 :: i1 :: G.toList) ∧ (∀ g, G' = some g → G = some g ∨ w.heap.size ≤ g)

theorem byts_snoc (o : List Nat) (x : Nat) : byts (o ++ [x]) = byts o ++ [.int .u8 (x : Int)] := by simp [byts]
theorem byts_set (o : List Nat) (i x : Nat) : byts (o.set i x) = (byts o).set i (.int .u8 (x : Int)) := by simp [byts, List.map_set]

/-- A byte of a row of our own is written. -/
theorem RowIs.setB {w : World} {sv : Value} {G : Option Nat} {o : List Nat} (h : RowIs w sv G 5 1 o.length (byts o)) {i x : Nat} (hi : i < o.length) {g : Nat} (hg : G = some g) :
    RowIs (w.setCell ⟨g, i, none⟩ (.int .u8 (x : Int))) sv G 5 1 (o.set i x).length (byts (o.set i x)) := by
  obtain ⟨h0, ⟨_, h1, _⟩ | ⟨g', cap, cur, h1, h2, h3, h4, h5, h6, h7⟩⟩ := h
  · omega
  · rw [hg] at h2; cases h2
    refine ⟨by rw [byts_length]; omega, .inr ⟨g, cap, cur.setIfInBounds i (.int .u8 (x : Int)), by rw [List.length_set]; exact h1, hg, ?_, by rw [List.length_set]; exact h4, h5, by simpa using h6, ?_⟩⟩
    · simp [World.setCell, Array.getElem?_modify, h3]
    · rw [byts_set, ← h7]
      simp [List.length_set, List.take_set]

theorem grow_byte {w : World} {sv : Value} {G : Option Nat} {o : List Nat} (h : RowIs w sv G 5 1 o.length (byts o)) (hk : o.length ≤ 100000) (x : Nat) :
    ∃ v' w1 G', (Builtin.append_ #[34, 34] 34 #[sv, .slice (some ⟨w.heap.size, 0, none⟩) 1 1]).run Try.prog (w.alloc (.cells #[.int .u8 (x : Int)] 5)) = .ok v' w1 ∧
      RowIs w1 v' (some G') 5 1 (o ++ [x]).length (byts (o ++ [x])) ∧ Turn w w1 G.toList ∧ (G = some G' ∨ w.heap.size ≤ G') := by
  have hbl : Below w.heap.size w (w.alloc (.cells #[.int .u8 (x : Int)] 5)) := by (repeat' (first | (with_reducible exact Below.refl _ _) | (with_reducible refine Below.ext_mk ?_ ?_ _ _) | (with_reducible refine Below.alloc ?_ ?_ _) | (with_reducible refine Below.drew ?_) | (with_reducible refine Below.setCell ?_ ?_ _) | go_size))
  have bl := Blk.new w 5 [.int .u8 (x : Int)]
  have rowL : RowIs (w.alloc (.cells #[.int .u8 (x : Int)] 5)) sv G 5 1 o.length (byts o) := RowIs.keep h (fun g hg => hbl.block g (RowIs.lt h g hg))
  obtain ⟨v', w1, G', r1, r2, r3, r4⟩ := append_row (P := Try.prog) 34 34 infoU8 (.int .u8 0) 1 Try.underlying34 infoU8_is infoU8_zero infoU8_size infoU8_bytes rfl (by omega) rowL
    ⟨w.heap.size, 0, none⟩ 1 1 [.int .u8 (x : Int)] rfl (fun j u hu => by
      rw [hadd_off, Nat.zero_add]
      exact (bl.cell j).trans hu) (by simp [Value.oneCell']) (by omega) (by unfold maxLen; omega) (by omega)
  refine ⟨v', w1, G', r1, ?_, ?_, ?_⟩
  · rw [byts_snoc, List.length_append]; exact r2
  · refine (Turn.of_below hbl).trans ⟨r3.os, r3.tape, r3.output, r3.size, fun k hk hn => r3.block k hk (fun e => hn ?_)⟩
    rw [← e]; simp
  · rcases r4 with r4 | ⟨r4, _⟩
    · exact .inl r4
    · right; simp at r4; omega

set_option maxRecDepth 100000 in
set_option maxHeartbeats 8000000 in
theorem lay_any {w : World} {i0 i1 : Nat} {sv : Value} {G : Option Nat} {o : List Nat} {m : Nat} (L : LayW w i0 i1 sv G o m) (hmx : m ≤ 90000) (bit : Bool) :
    Calls Try.prog 40 #[.bool bit, .pointer (some ⟨i0, 0, none⟩), .pointer (some ⟨i1, 0, none⟩)] w
      (fun e w' => e = .returned (.tuple #[]) ∧ ∃ sv' G', LayW w' i0 i1 sv' G' (layN o m bit) (m + 1) ∧ LayStep w w' i0 i1 G G') := by
  have et : (m : Int).tmod 8 = ((m % 8 : Nat) : Int) := by rw [Int.tmod_eq_emod_of_nonneg (by omega)]; omega
  have c0 := L.many.cell 0
  have c1 := L.out.cell 0
  simp only [List.getElem?_cons_zero] at c0 c1
  have z0 := L.many.lt
  have z1 := L.out.lt
  have hw1 : IntKind.i64.wrap ((m : Int) + 1) = (m : Int) + 1 := IntWalk.i64_in _ (by omega)
  by_cases hm : m % 8 = 0
  · rw [hm] at et
    have et' : (m : Int).tmod 8 = 0 := et
    clear et
    go_enter Try.func40, Try.ntmps40
    go_upto_region 1 with (fail)
    obtain ⟨v', w1, g, r1, r2, r3, r4⟩ := grow_byte L.row (by have := L.full; omega) 0
    have m1 : Blk w1 i0 3 [.int .i64 (m : Int)] := r3.blk L.many (fun hm => by simp at hm; exact (L.g0 _ hm).1 rfl)
    have o1 : Blk w1 i1 34 [sv] := r3.blk L.out (fun hm => by simp at hm; exact (L.g0 _ hm).2 rfl)
    have q0 := o1.cell 0
    have q1 := o1.free 0
    have zq := o1.lt
    simp only [List.getElem?_cons_zero] at q0
    refine wp_region_doc (fun F' hF => ?_)
    have HF := hid hF
    clear hF
    refine doc_val rfl (by first | (go_simp; done) | (go_simp; exact ⟨rfl, rfl⟩) | (go_simp; with_reducible rfl)) ?_
    simp only [Act.put, List.setIfInBounds_toArray, List.set_cons_zero, List.set_cons_succ]
    refine doc_val rfl (by first | (go_simp; done) | (go_simp; exact ⟨rfl, rfl⟩) | (go_simp; with_reducible rfl)) ?_
    simp only [Act.put, List.setIfInBounds_toArray, List.set_cons_zero, List.set_cons_succ]
    refine doc_val rfl (run_append_op _ _ _ _ _ _ _ _ _ r1) ?_
    simp only [Act.put, List.setIfInBounds_toArray, List.set_cons_zero, List.set_cons_succ]
    obtain ⟨va, vc, rfl, _⟩ := r2.form
    refine doc_skip rfl (by first | (go_simp; done) | (go_simp; exact ⟨rfl, rfl⟩) | (go_simp; with_reducible rfl)) ?_
    simp only [Act.put, List.setIfInBounds_toArray, List.set_cons_zero, List.set_cons_succ]
    refine doc_end (HF.out _ _ ?_)
    clear HF F'
    go_upto_region 2 with (fail)
    refine wp_gen (fun U hU => ?_)
    have hgi : g ≠ i0 ∧ g ≠ i1 := by
      rcases r4 with r4 | r4
      · exact L.g0 g r4
      · omega
    have bm : Blk U i0 3 [.int .i64 (m : Int)] := by rw [hU]; exact m1.far (fun e => L.ne e.symm) _ _
    have bo : Blk U i1 34 [.slice va (o ++ [0]).length vc] := by
      have h := o1.set_ 0 (.slice va (o ++ [0]).length vc)
      rw [hU]; simpa using h
    have row1 : RowIs U (.slice va (o ++ [0]).length vc) (some g) 5 1 (o ++ [0]).length (byts (o ++ [0])) := by
      rw [hU]; exact RowIs.keep r2 (fun k hk => Below.heap_setCell _ _ _ _ (fun e => by cases hk; simp at e; exact hgi.2 e))
    have hst : Turn w U (i0 :: i1 :: G.toList) := by
      rw [hU]; exact (r3.weak (fun k hk => by simp [hk])).trans (Turn.set_ i1 0 _ (by simp))
    have hlay : layN o m bit = if bit then (o ++ [0]).set ((o ++ [0]).length - 1) ((o ++ [0]).getD ((o ++ [0]).length - 1) 0 ||| 2 ^ (7 - m % 8)) else o ++ [0] := by unfold layN; rw [if_pos hm]
    have hol : (o ++ [0]).length = (m + 1 + 7) / 8 := by have := L.full; simp; omega
    have hby : ∀ x ∈ o ++ [0], x < 256 := fun x hx => by
      rcases List.mem_append.1 hx with hx | hx
      · exact L.byte x hx
      · simp at hx; omega
    clear hU r1 r2 r3 m1 o1 q0 q1 zq c0 c1
    generalize o ++ [0] = p at *
    have zg := RowIs.lt row1 g rfl
    obtain ⟨g0, g1⟩ := hgi
    have f0 := bm.free 0
    have f1 := bo.free 0
    have d0 := bm.cell 0
    have d1 := bo.cell 0
    simp only [List.getElem?_cons_zero] at d0 d1
    have y0 := bm.lt
    have y1 := bo.lt
    cases bit
    · simp only [Bool.false_eq_true, if_false] at hlay
      go_upto_region 4 with (fail)
      go_wp2
      go_returns
      refine ⟨rfl, (.slice va p.length vc), some g, ⟨?_, ?_, ?_, L.ne, fun q hq => (by cases hq; exact ⟨g0, g1⟩), ?_, ?_⟩, ?_, ?_⟩
      · exact Blk.cast (bm.set_ 0 _) (by simp)
      · exact bo.far L.ne _ _
      · rw [hlay]; exact RowIs.keep row1 (fun k hk => Below.heap_setCell _ _ _ _ (fun e => by cases hk; simp at e; exact g0 e))
      · rw [hlay]; exact hby
      · rw [hlay, hol]
      · exact hst.trans (Turn.set_ i0 0 _ (by simp))
      · intro q hq; cases hq; exact r4
    · simp only [if_true] at hlay
      obtain ⟨t, ht⟩ : ∃ t, t = p.length - 1 := ⟨_, rfl⟩
      have hpl : 0 < p.length := by omega
      have htl : t < p.length := by omega
      obtain ⟨x, hx⟩ : ∃ x, x = p.getD t 0 := ⟨_, rfl⟩
      rw [← ht, ← hx] at hlay
      have hpx : p[t]? = some x := by rw [hx]; simp [htl]
      have hx256 := hby x (List.mem_of_getElem? hpx)
      obtain ⟨s, hs⟩ : ∃ s : Nat, s = 7 - m % 8 := ⟨_, rfl⟩
      rw [← hs] at hlay
      have hor := or_u8 x s hx256 (by omega)
      obtain ⟨Z, hZ⟩ : ∃ Z, Z = x ||| 2 ^ s := ⟨_, rfl⟩
      rw [← hZ] at hor hlay
      obtain ⟨Y, hY⟩ : ∃ Y : Nat, Y = 2 ^ s := ⟨_, rfl⟩
      rw [← hY] at hor
      obtain ⟨r, hr⟩ : ∃ r, r = m % 8 := ⟨_, rfl⟩
      have etr : (m : Int).tmod 8 = (r : Int) := by rw [Int.tmod_eq_emod_of_nonneg (by omega)]; omega
      have hsub2 : IntKind.i64.wrap (7 - (r : Int)) = (s : Int) := by rw [IntWalk.i64_in _ (by omega)]; omega
      have hsub1 : IntKind.i64.wrap ((p.length : Int) - 1) = (t : Int) := by rw [IntWalk.i64_in _ (by omega)]; omega
      have hYs : Y < 256 := by rw [hY]; exact Nat.lt_of_le_of_lt (Nat.pow_le_pow_right (by omega) (show s ≤ 7 by omega)) (by decide)
      have hshl : IntKind.u8.wrap ((2 : Int) ^ s) = (Y : Int) := by
        rw [show ((2 : Int) ^ s) = (Y : Int) by rw [hY]; simp]
        rw [IntKind.wrap_u8]; omega
      have hsn : ((s : Int)).toNat = s := by omega
      have hs0 : (0 : Int) ≤ (s : Int) := by omega
      have hs7 : (s : Int) ≤ 7 := by omega
      have ht0 : (0 : Int) ≤ (t : Int) := by omega
      have ht1 : (t : Int) < (p.length : Int) := by omega
      have hrow := RowIs.setB row1 (x := Z) htl rfl
      obtain ⟨g', cap', hsv, hG, hcell, hfr⟩ := RowIs.at row1 (i := t) (j := 0) htl (by omega)
      cases hG
      simp only [Value.slice.injEq] at hsv
      obtain ⟨rfl, _, rfl⟩ := hsv
      rw [Nat.mul_one, Nat.add_zero, show (byts p)[t]? = some (.int .u8 (x : Int)) by simp [byts, hpx]] at hcell
      rw [Nat.mul_one, Nat.add_zero] at hfr
      have hor1 := hor.1
      have HP := hid hor.2
      clear hs hr hor hY hZ hx ht hYs hx256
      try clear et'
      try clear et2
      try clear et3
      have HO := hid hol
      have HLY := hid hlay
      have HPX := hid hpx
      clear hol hlay hpx
      go_upto_region 3 with (fail)
      refine wp_region_store 12 (by kernel_rfl) (by kernel_rfl) (by kernel_rfl) rfl (fun F hF G hG => ?_)
      simp only [List.take_succ_cons, List.take_zero, List.drop_succ_cons, List.drop_zero] at hG ⊢
      have HF := hid hF; clear hF
      have HG := hid hG; clear hG
      repeat (first
        | (apply text_skip; (focus rfl); simp only [Act.put, List.setIfInBounds_toArray, List.set_cons_zero, List.set_cons_succ])
        | (apply text_val; (focus rfl); (focus (intro _ _; go_simp; with_reducible rfl)); simp only [Act.put, List.setIfInBounds_toArray, List.set_cons_zero, List.set_cons_succ])
        | (apply text_if; (focus (first | exact wanted_t rfl rfl | exact wanted_f rfl rfl | exact wanted_gt rfl rfl | exact wanted_gf rfl rfl)); (focus (intro hc _ _; (try simp only [Bool.and_eq_true, Bool.not_eq_true', Bool.true_and] at hc); go_simp; with_reducible rfl)); simp only [Act.put, List.setIfInBounds_toArray, List.set_cons_zero, List.set_cons_succ]))
      refine text_nil (HG.out _ ?_)
      clear HG G
      apply store_step; (focus rfl); (focus (intro _ _; apply Exists.intro; apply Exists.intro; go_simp; with_reducible rfl))
      try simp only [Act.put, List.setIfInBounds_toArray, List.set_cons_zero, List.set_cons_succ]
      repeat (apply both_val; (focus rfl); (focus (intro _; go_simp; with_reducible rfl)); simp only [Act.put, List.setIfInBounds_toArray, List.set_cons_zero, List.set_cons_succ])
      refine both_nil (HF.out _ _ (fun mx dx => ?_))
      clear HF F
      go_wp2
      go_returns
      refine ⟨rfl, .slice (some ⟨g, 0, none⟩) p.length vc, some g, ⟨?_, ?_, ?_, L.ne, fun q hq => (by cases hq; exact ⟨g0, g1⟩), ?_, ?_⟩, ?_, ?_⟩
      · exact Blk.ext (Blk.cast ((bm.far g0 _ _).set_ 0 _) (by simp)) _ _
      · exact ((bo.far g1 _ _).far L.ne _ _).ext _ _
      · rw [HLY.out]
        refine RowIs.keep hrow (fun k hk => ?_)
        cases hk
        rw [World.heap_ext _ _ _ (by simpa [World.setCell] using zg), Below.heap_setCell _ _ _ _ (fun e => g0 (by simpa using e))]
      · rw [HLY.out]
        intro y hy
        rcases List.mem_or_eq_of_mem_set hy with h | h
        · exact hby y h
        · rw [h]; exact HP.out
      · rw [HLY.out, List.length_set, HO.out]
      · refine hst.from (M := [g, i0]) ((Turn.set_ g _ _ (by simp)).trans ((Turn.set_ i0 _ _ (by simp)).trans (Turn.of_below (Below.ext_mk (Below.refl _ _) (Nat.le_refl _) _ _)))) (fun i hi => ?_)
        simp at hi
        rcases hi with rfl | rfl
        · rcases r4 with r4 | r4
          · exact .inl (by rw [r4]; simp)
          · exact .inr r4
        · exact .inl (by simp)
      · intro q hq; cases hq; exact r4
  · obtain ⟨g, hG⟩ : ∃ g, G = some g := by
      rcases L.row with ⟨h0, ⟨_, h1, _⟩ | ⟨g, _, _, _, h2, _⟩⟩
      · have := L.full; omega
      · exact ⟨g, h2⟩
    obtain ⟨va, vc, rfl, _⟩ := L.row.form
    obtain ⟨r0, hr0⟩ : ∃ r0, r0 = m % 8 := ⟨_, rfl⟩
    have et2 : (m : Int).tmod 8 = (r0 : Int) := by rw [et]; omega
    have et3 : ((r0 : Int) == 0) = false := by simp; omega
    have et4 : ¬ (r0 : Int) = 0 := by omega
    have et5 : ¬ r0 = 0 := by omega
    clear hr0
    have hgi : g ≠ i0 ∧ g ≠ i1 := L.g0 g hG
    have bm := L.many
    have bo := L.out
    have row1 := L.row
    rw [hG] at row1
    have r4 : G = some g ∨ w.heap.size ≤ g := .inl hG
    have hst : Turn w w (i0 :: i1 :: G.toList) := Turn.refl _ _
    have hlay : layN o m bit = if bit then o.set (o.length - 1) (o.getD (o.length - 1) 0 ||| 2 ^ (7 - m % 8)) else o := by unfold layN; rw [if_neg hm]
    have hol : o.length = (m + 1 + 7) / 8 := by have := L.full; omega
    have hby := L.byte
    clear et hm
    go_enter Try.func40, Try.ntmps40
    go_upto_region 2 with (fail)
    clear c0 c1 z0 z1
    clear et3 et4 et5
    have et' := et2
    refine wp_gen (fun U hU => ?_)
    obtain rfl : U = w := hU
    have zg := RowIs.lt row1 g rfl
    obtain ⟨g0, g1⟩ := hgi
    have f0 := bm.free 0
    have f1 := bo.free 0
    have d0 := bm.cell 0
    have d1 := bo.cell 0
    simp only [List.getElem?_cons_zero] at d0 d1
    have y0 := bm.lt
    have y1 := bo.lt
    cases bit
    · simp only [Bool.false_eq_true, if_false] at hlay
      go_upto_region 4 with (fail)
      go_wp2
      go_returns
      refine ⟨rfl, (.slice va o.length vc), some g, ⟨?_, ?_, ?_, L.ne, fun q hq => (by cases hq; exact ⟨g0, g1⟩), ?_, ?_⟩, ?_, ?_⟩
      · exact Blk.cast (bm.set_ 0 _) (by simp)
      · exact bo.far L.ne _ _
      · rw [hlay]; exact RowIs.keep row1 (fun k hk => Below.heap_setCell _ _ _ _ (fun e => by cases hk; simp at e; exact g0 e))
      · rw [hlay]; exact hby
      · rw [hlay, hol]
      · exact hst.trans (Turn.set_ i0 0 _ (by simp))
      · intro q hq; cases hq; exact r4
    · simp only [if_true] at hlay
      obtain ⟨t, ht⟩ : ∃ t, t = o.length - 1 := ⟨_, rfl⟩
      have hpl : 0 < o.length := by omega
      have htl : t < o.length := by omega
      obtain ⟨x, hx⟩ : ∃ x, x = o.getD t 0 := ⟨_, rfl⟩
      rw [← ht, ← hx] at hlay
      have hpx : o[t]? = some x := by rw [hx]; simp [htl]
      have hx256 := hby x (List.mem_of_getElem? hpx)
      obtain ⟨s, hs⟩ : ∃ s : Nat, s = 7 - m % 8 := ⟨_, rfl⟩
      rw [← hs] at hlay
      have hor := or_u8 x s hx256 (by omega)
      obtain ⟨Z, hZ⟩ : ∃ Z, Z = x ||| 2 ^ s := ⟨_, rfl⟩
      rw [← hZ] at hor hlay
      obtain ⟨Y, hY⟩ : ∃ Y : Nat, Y = 2 ^ s := ⟨_, rfl⟩
      rw [← hY] at hor
      obtain ⟨r, hr⟩ : ∃ r, r = m % 8 := ⟨_, rfl⟩
      have etr : (m : Int).tmod 8 = (r : Int) := by rw [Int.tmod_eq_emod_of_nonneg (by omega)]; omega
      have hsub2 : IntKind.i64.wrap (7 - (r : Int)) = (s : Int) := by rw [IntWalk.i64_in _ (by omega)]; omega
      have hsub1 : IntKind.i64.wrap ((o.length : Int) - 1) = (t : Int) := by rw [IntWalk.i64_in _ (by omega)]; omega
      have hYs : Y < 256 := by rw [hY]; exact Nat.lt_of_le_of_lt (Nat.pow_le_pow_right (by omega) (show s ≤ 7 by omega)) (by decide)
      have hshl : IntKind.u8.wrap ((2 : Int) ^ s) = (Y : Int) := by
        rw [show ((2 : Int) ^ s) = (Y : Int) by rw [hY]; simp]
        rw [IntKind.wrap_u8]; omega
      have hsn : ((s : Int)).toNat = s := by omega
      have hs0 : (0 : Int) ≤ (s : Int) := by omega
      have hs7 : (s : Int) ≤ 7 := by omega
      have ht0 : (0 : Int) ≤ (t : Int) := by omega
      have ht1 : (t : Int) < (o.length : Int) := by omega
      have hrow := RowIs.setB row1 (x := Z) htl rfl
      obtain ⟨g', cap', hsv, hG, hcell, hfr⟩ := RowIs.at row1 (i := t) (j := 0) htl (by omega)
      cases hG
      simp only [Value.slice.injEq] at hsv
      obtain ⟨rfl, _, rfl⟩ := hsv
      rw [Nat.mul_one, Nat.add_zero, show (byts o)[t]? = some (.int .u8 (x : Int)) by simp [byts, hpx]] at hcell
      rw [Nat.mul_one, Nat.add_zero] at hfr
      have hor1 := hor.1
      have HP := hid hor.2
      clear hs hr hor hY hZ hx ht hYs hx256
      try clear et'
      try clear et2
      try clear et3
      have HO := hid hol
      have HLY := hid hlay
      have HPX := hid hpx
      clear hol hlay hpx
      go_upto_region 3 with (fail)
      refine wp_region_store 12 (by kernel_rfl) (by kernel_rfl) (by kernel_rfl) rfl (fun F hF G hG => ?_)
      simp only [List.take_succ_cons, List.take_zero, List.drop_succ_cons, List.drop_zero] at hG ⊢
      have HF := hid hF; clear hF
      have HG := hid hG; clear hG
      repeat (first
        | (apply text_skip; (focus rfl); simp only [Act.put, List.setIfInBounds_toArray, List.set_cons_zero, List.set_cons_succ])
        | (apply text_val; (focus rfl); (focus (intro _ _; go_simp; with_reducible rfl)); simp only [Act.put, List.setIfInBounds_toArray, List.set_cons_zero, List.set_cons_succ])
        | (apply text_if; (focus (first | exact wanted_t rfl rfl | exact wanted_f rfl rfl | exact wanted_gt rfl rfl | exact wanted_gf rfl rfl)); (focus (intro hc _ _; (try simp only [Bool.and_eq_true, Bool.not_eq_true', Bool.true_and] at hc); go_simp; with_reducible rfl)); simp only [Act.put, List.setIfInBounds_toArray, List.set_cons_zero, List.set_cons_succ]))
      refine text_nil (HG.out _ ?_)
      clear HG G
      apply store_step; (focus rfl); (focus (intro _ _; apply Exists.intro; apply Exists.intro; go_simp; with_reducible rfl))
      try simp only [Act.put, List.setIfInBounds_toArray, List.set_cons_zero, List.set_cons_succ]
      repeat (apply both_val; (focus rfl); (focus (intro _; go_simp; with_reducible rfl)); simp only [Act.put, List.setIfInBounds_toArray, List.set_cons_zero, List.set_cons_succ])
      refine both_nil (HF.out _ _ (fun mx dx => ?_))
      clear HF F
      go_wp2
      go_returns
      refine ⟨rfl, .slice (some ⟨g, 0, none⟩) o.length vc, some g, ⟨?_, ?_, ?_, L.ne, fun q hq => (by cases hq; exact ⟨g0, g1⟩), ?_, ?_⟩, ?_, ?_⟩
      · exact Blk.ext (Blk.cast ((bm.far g0 _ _).set_ 0 _) (by simp)) _ _
      · exact ((bo.far g1 _ _).far L.ne _ _).ext _ _
      · rw [HLY.out]
        refine RowIs.keep hrow (fun k hk => ?_)
        cases hk
        rw [World.heap_ext _ _ _ (by simpa [World.setCell] using zg), Below.heap_setCell _ _ _ _ (fun e => g0 (by simpa using e))]
      · rw [HLY.out]
        intro y hy
        rcases List.mem_or_eq_of_mem_set hy with h | h
        · exact hby y h
        · rw [h]; exact HP.out
      · rw [HLY.out, List.length_set, HO.out]
      · refine hst.from (M := [g, i0]) ((Turn.set_ g _ _ (by simp)).trans ((Turn.set_ i0 _ _ (by simp)).trans (Turn.of_below (Below.ext_mk (Below.refl _ _) (Nat.le_refl _) _ _)))) (fun i hi => ?_)
        simp at hi
        rcases hi with rfl | rfl
        · rcases r4 with r4 | r4
          · exact .inl (by rw [r4]; simp)
          · exact .inr r4
        · exact .inl (by simp)
      · intro q hq; cases hq; exact r4
end Go.Proofs.Ytkblldmpdihamaa
set_option linter.unusedVariables false
set_option linter.unusedSimpArgs false
namespace Go.Proofs.Ytkblldmpdihamaa
open Go.RowKit

def layAll (s : List Nat × Nat) (l : List Bool) : List Nat × Nat := l.foldl (fun s b => (layN s.1 s.2 b, s.2 + 1)) s
theorem layAll_append (s : List Nat × Nat) (a b : List Bool) : layAll s (a ++ b) = layAll (layAll s a) b := by simp [layAll]
theorem layAll_snoc (s : List Nat × Nat) (l : List Bool) {c : Nat} (hc : c < l.length) : layAll s (l.take (c + 1)) = (layN (layAll s (l.take c)).1 (layAll s (l.take c)).2 l[c], (layAll s (l.take c)).2 + 1) := by
  rw [List.take_add_one, layAll_append]
  simp [layAll, hc]
theorem layAll_many (s : List Nat × Nat) (l : List Bool) : (layAll s l).2 = s.2 + l.length := by
  induction l generalizing s with
  | nil => simp [layAll]
  | cons b r ih =>
    have := ih (layN s.1 s.2 b, s.2 + 1)
    simp only [layAll, List.foldl_cons, List.length_cons] at this ⊢
    omega
/-- One field's bits, the highest one first. -/
def bitsOne (ns : List (BitVec 128)) (f : Nat) (x : Int) : List Bool := (List.range x.toNat).map fun (i : Nat) => decide (f < ns.length) && bitV (ns.getD f 0#128) (x - 1 - (i : Int))
theorem bitsOne_length (ns : List (BitVec 128)) (f : Nat) (x : Int) : (bitsOne ns f x).length = x.toNat := by simp [bitsOne]
theorem bitsOne_at (ns : List (BitVec 128)) (f : Nat) (x : Int) {c : Nat} (hc : c < (bitsOne ns f x).length) : (bitsOne ns f x)[c] = (decide (f < ns.length) && bitV (ns.getD f 0#128) (x - 1 - (c : Int))) := by simp [bitsOne]
/-- The bits of the first fields. -/
def fbT (ns : List (BitVec 128)) (ws : List Int) : Nat → List Bool
  | 0 => []
  | f + 1 => fbT ns ws f ++ bitsOne ns f (ws.getD f 0)
/-- A header's bits: none, if it isn't there. -/
def hBits (hs : List (SL × List Int)) (va : List Bool) (fs : List (SL × List (BitVec 128))) (h : Int) : List Bool :=
  if 0 ≤ h ∧ h.toNat < va.length ∧ h.toNat < fs.length ∧ va.getD h.toNat false = true then fbT ((fs.getD h.toNat (slNil, [])).2) (headAt hs h).2 (headAt hs h).2.length else []
def emT (hs : List (SL × List Int)) (va : List Bool) (fs : List (SL × List (BitVec 128))) (es : List Int) : Nat → List Bool
  | 0 => []
  | j + 1 => emT hs va fs es j ++ hBits hs va fs (es.getD j 0)

/-- Bits are being laid. -/
def EmW (V : World) (i0 i1 g0 : Nat) (wr : World) (s : List Nat × Nat) : Prop :=
  ∃ sv G, LayW wr i0 i1 sv G s.1 s.2 ∧ Turn V wr [i0, i1, g0] ∧ (∀ g, G = some g → g = g0 ∨ V.heap.size ≤ g)
theorem EmW.ext {V wr : World} {i0 i1 g0 : Nat} {s : List Nat × Nat} (h : EmW V i0 i1 g0 wr s) (m : Array Obj) (d : Nat) : EmW V i0 i1 g0 (wr.ext m d) s := by
  obtain ⟨sv, G, L, t, hG⟩ := h
  have hb : Below wr.heap.size wr (wr.ext m d) := Below.ext_mk (Below.refl _ _) (Nat.le_refl _) _ _
  exact ⟨sv, G, { L with many := L.many.ext m d, out := L.out.ext m d, row := RowIs.keep L.row (fun g hg => hb.block g (RowIs.lt L.row g hg)) }, t.trans (Turn.of_below hb), hG⟩
theorem EmW.lay {V wr : World} {i0 i1 g0 : Nat} {s : List Nat × Nat} (h : EmW V i0 i1 g0 wr s) (hm : s.2 ≤ 90000) (bit : Bool) :
    Calls Try.prog 40 #[.bool bit, .pointer (some ⟨i0, 0, none⟩), .pointer (some ⟨i1, 0, none⟩)] wr
      (fun e w' => e = .returned (.tuple #[]) ∧ EmW V i0 i1 g0 w' (layN s.1 s.2 bit, s.2 + 1)) := by
  obtain ⟨sv, G, L, t, hG⟩ := h
  refine (lay_any L hm bit).mono ?_
  rintro e w' ⟨rfl, sv', G', L', t', hG'⟩
  refine ⟨rfl, sv', G', L', t.from t' (fun i hi => ?_), fun g hg => ?_⟩
  · simp at hi
    rcases hi with rfl | rfl | hi
    · exact .inl (by simp)
    · exact .inl (by simp)
    · rcases hG i hi with e | e
      · exact .inl (by simp [e])
      · exact .inr e
  · rcases hG' g hg with e | e
    · exact hG g e
    · exact .inr (Nat.le_trans t.size e)
end Go.Proofs.Ytkblldmpdihamaa
set_option linter.unusedVariables false
set_option linter.unusedSimpArgs false
namespace Go.Proofs.Ytkblldmpdihamaa
open Go.RowKit

structure EmitIn (w : World) (p : PG) (k : PK) (hs : List (SL × List Int)) (es : List Int) (va : List Bool) (fs : List (SL × List (BitVec 128))) (l : List Nat) : Prop where
  heads : HeadsAre w p.heads hs
  emit : RdS w 1 p.emit (ints es)
  valid : RdS w 1 k.valid (bools va)
  fields : FieldsAre w k.fields fs
  rest : RdS w 1 k.rest (byts l)
  pos : ∀ x ∈ hs, ∀ y ∈ x.2, 0 ≤ y
  sum : ∀ x ∈ hs, x.2.sum ≤ 1000
  few : es.length ≤ 80
  restFew : l.length ≤ 1000000
theorem EmitIn.below {w w' : World} {p : PG} {k : PK} {hs : List (SL × List Int)} {es : List Int} {va : List Bool} {fs : List (SL × List (BitVec 128))} {l : List Nat} (h : EmitIn w p k hs es va fs l) (hb : Below w.heap.size w w') : EmitIn w' p k hs es va fs l :=
  { h with heads := h.heads.below hb, emit := h.emit.below hb, valid := h.valid.below hb, fields := h.fields.below hb, rest := h.rest.below hb }

set_option maxRecDepth 100000 in
set_option maxHeartbeats 8000000 in
theorem emit_any {w : World} {p : PG} {k : PK} {hs : List (SL × List Int)} {es : List Int} {va : List Bool} {fs : List (SL × List (BitVec 128))} {l : List Nat} (EI : EmitIn w p k hs es va fs l) :
    Calls Try.prog 13 #[p.v, k.v] w
      (fun e w' => ∃ r : SL, e = .returned r.v ∧ RdS w' 1 r (byts ((layAll ([], 0) (emT hs va fs es es.length)).1 ++ l)) ∧ Below w.heap.size w w') := by
  have hmf : ∀ (fn : Fn) (first cap : Array Value) (w : World), (Instr.makeFunc fn first cap).run Try.prog w = .ok (.func fn first cap) w := fun _ _ _ _ => rfl
  have hel := EI.emit.int
  have hem := EI.emit.2.1
  have hvl : k.valid.n = va.length := by have := EI.valid.2.2.1; rw [bools_length] at this; omega
  have hfl := EI.fields.len
  have hrl : k.rest.n = l.length := by have := EI.rest.2.2.1; rw [byts_length] at this; omega
  have H := hid EI
  clear EI
  obtain ⟨ph, pm, s2, s3, s4, s5, ⟨ea, en, ec⟩, n0, n1, n2, n3, n4⟩ := p
  obtain ⟨port, ⟨ra, rn, rc⟩, ⟨va', vn, vc⟩, ⟨fa, fn, fc⟩, mt, dr, se, eg, ac⟩ := k
  simp only at hel hvl hfl hrl hem
  subst hel hvl hfl hrl
  go_enter Try.func13, Try.ntmps13
  go_upto_region 4 with (fail)
  refine wp_gen (fun V hV => ?_)
  have hbV : Below w.heap.size w V := by rw [hV]; (repeat' (first | (with_reducible exact Below.refl _ _) | (with_reducible refine Below.ext_mk ?_ ?_ _ _) | (with_reducible refine Below.alloc ?_ ?_ _) | (with_reducible refine Below.drew ?_) | (with_reducible refine Below.setCell ?_ ?_ _) | go_size))
  have bp : Blk V w.heap.size 33 [ph.v, pm.v, s2.v, s3.v, s4.v, s5.v, .slice ea es.length ec, n0.v, n1.v, n2.v, n3.v, n4.v] := by
    rw [hV]; exact (Blk.new w 33 [ph.v, pm.v, s2.v, s3.v, s4.v, s5.v, .slice ea es.length ec, n0.v, n1.v, n2.v, n3.v, n4.v]).below (by (repeat' (first | (with_reducible exact Below.refl _ _) | (with_reducible refine Below.ext_mk ?_ ?_ _ _) | (with_reducible refine Below.alloc ?_ ?_ _) | (with_reducible refine Below.drew ?_) | (with_reducible refine Below.setCell ?_ ?_ _) | go_size)))
  have bk : Blk V (w.heap.size + 1) 39 (PK.mk port ⟨ra, l.length, rc⟩ ⟨va', va.length, vc⟩ ⟨fa, fs.length, fc⟩ mt dr se eg ac).cs := by
    have h := Blk.new (w.alloc (.cells #[ph.v, pm.v, s2.v, s3.v, s4.v, s5.v, .slice ea es.length ec, n0.v, n1.v, n2.v, n3.v, n4.v] 33)) 39 (PK.mk port ⟨ra, l.length, rc⟩ ⟨va', va.length, vc⟩ ⟨fa, fs.length, fc⟩ mt dr se eg ac).cs
    simp only [World.size_alloc] at h
    rw [hV]; exact h.below (by (repeat' (first | (with_reducible exact Below.refl _ _) | (with_reducible refine Below.ext_mk ?_ ?_ _ _) | (with_reducible refine Below.alloc ?_ ?_ _) | (with_reducible refine Below.drew ?_) | (with_reducible refine Below.setCell ?_ ?_ _) | go_size)))
  have bg : Blk V (w.heap.size + 1 + 1) 5 [] := by
    have h := Blk.new ((w.alloc (.cells #[ph.v, pm.v, s2.v, s3.v, s4.v, s5.v, .slice ea es.length ec, n0.v, n1.v, n2.v, n3.v, n4.v] 33)).alloc (.cells (PK.mk port ⟨ra, l.length, rc⟩ ⟨va', va.length, vc⟩ ⟨fa, fs.length, fc⟩ mt dr se eg ac).cs.toArray 39)) 5 []
    simp only [World.size_alloc] at h
    rw [hV]; exact h.below (by (repeat' (first | (with_reducible exact Below.refl _ _) | (with_reducible refine Below.ext_mk ?_ ?_ _ _) | (with_reducible refine Below.alloc ?_ ?_ _) | (with_reducible refine Below.drew ?_) | (with_reducible refine Below.setCell ?_ ?_ _) | go_size)))
  have b1 : Blk V (w.heap.size + 1 + 1 + 1) 34 [.slice (some ⟨w.heap.size + 1 + 1, 0, none⟩) 0 0] := by
    have h := Blk.new (((w.alloc (.cells #[ph.v, pm.v, s2.v, s3.v, s4.v, s5.v, .slice ea es.length ec, n0.v, n1.v, n2.v, n3.v, n4.v] 33)).alloc (.cells (PK.mk port ⟨ra, l.length, rc⟩ ⟨va', va.length, vc⟩ ⟨fa, fs.length, fc⟩ mt dr se eg ac).cs.toArray 39)).alloc (.cells #[] 5)) 34 [.slice (some ⟨w.heap.size + 1 + 1, 0, none⟩) 0 0]
    simp only [World.size_alloc] at h
    rw [hV]; exact h.below (by (repeat' (first | (with_reducible exact Below.refl _ _) | (with_reducible refine Below.ext_mk ?_ ?_ _ _) | (with_reducible refine Below.alloc ?_ ?_ _) | (with_reducible refine Below.drew ?_) | (with_reducible refine Below.setCell ?_ ?_ _) | go_size)))
  have b0 : Blk V (w.heap.size + 1 + 1 + 1 + 1) 3 [.int .i64 0] := by
    have h := Blk.new ((((w.alloc (.cells #[ph.v, pm.v, s2.v, s3.v, s4.v, s5.v, .slice ea es.length ec, n0.v, n1.v, n2.v, n3.v, n4.v] 33)).alloc (.cells (PK.mk port ⟨ra, l.length, rc⟩ ⟨va', va.length, vc⟩ ⟨fa, fs.length, fc⟩ mt dr se eg ac).cs.toArray 39)).alloc (.cells #[] 5)).alloc (.cells #[.slice (some ⟨w.heap.size + 1 + 1, 0, none⟩) 0 0] 34)) 3 [.int .i64 0]
    simp only [World.size_alloc] at h
    rw [hV]; exact h
  clear hV
  obtain ⟨i1, hi1⟩ : ∃ i1, i1 = w.heap.size + 1 + 1 + 1 := ⟨_, rfl⟩
  obtain ⟨i0, hi0⟩ : ∃ i0, i0 = w.heap.size + 1 + 1 + 1 + 1 := ⟨_, rfl⟩
  obtain ⟨g0, hg0⟩ : ∃ g0, g0 = w.heap.size + 1 + 1 := ⟨_, rfl⟩
  rw [← hi0] at b0
  rw [← hi1, ← hg0] at b1
  rw [← hg0] at bg
  have EM : EmW V i0 i1 g0 V ([], 0) := ⟨_, some g0, ⟨b0, b1, ⟨rfl, .inr ⟨g0, 0, #[], rfl, rfl, bg, Nat.le_refl _, Nat.zero_le _, rfl, rfl⟩⟩, by omega, fun g hg => (by cases hg; omega), fun x hx => (by cases hx), rfl⟩, Turn.refl _ _, fun g hg => (by cases hg; exact .inl rfl)⟩
  have hPC := bp.cell 0
  have hPE := bp.cell 6
  simp only [List.getElem?_cons_zero, List.getElem?_cons_succ] at hPC hPE
  have zp := bp.lt
  have zi0 := b0.lt
  rw [← hi0, ← hi1]
  have hout : w.heap.size < i0 ∧ w.heap.size < i1 ∧ w.heap.size < g0 ∧ w.heap.size + 1 < i0 ∧ w.heap.size + 1 < i1 ∧ w.heap.size + 1 < g0 := by omega
  have BP := hid bp
  have BK := hid bk
  clear bg b1 b0 bp bk hi1 hi0
  go_wp2_with fail
  clear hPC hPE
  go_loopw [18] (fun i wr => ∃ j : Nat, j ≤ es.length ∧ i = .int .i64 j ∧ EmW V i0 i1 g0 wr (layAll ([], 0) (emT hs va fs es j)) ∧ (emT hs va fs es j).length ≤ j * 1000) (fun i _ => es.length - (intOf i).toNat)
  case atStart => exact ⟨0, by omega, rfl, EM, by simp [emT]⟩
  case round =>
    obtain ⟨j, hj, rfl, hE, hlen⟩ := hrel
    obtain ⟨t, hL⟩ : Turn V wr [i0, i1, g0] ∧ (∀ q ∈ [i0, i1, g0], q ∈ ([] : List Nat) ∨ w.heap.size ≤ q) := by
      obtain ⟨_, _, _, t, _⟩ := hE
      exact ⟨t, fun q hq => by simp at hq; rcases hq with rfl | rfl | rfl <;> (right; omega)⟩
    have away : ∀ s : SL, Away s [] := fun s b off _ => by simp
    have hpn : w.heap.size ∉ [i0, i1, g0] := by simp; omega
    have hkn : w.heap.size + 1 ∉ [i0, i1, g0] := by simp; omega
    have bpr := t.blk BP.out hpn
    have bkr := t.blk BK.out hkn
    by_cases hlt : j < es.length
    · have hj1 : (j : Int) < (es.length : Int) := by omega
      obtain ⟨eb, eo, ee, ze, ce⟩ := RdS.intAt (RdS.away H.out.emit hbV t (away _) hL) hlt
      simp only at ee
      subst ee
      obtain ⟨h, hh⟩ : ∃ h, h = es[j] := ⟨_, rfl⟩
      rw [← hh] at ce
      have hnext : emT hs va fs es (j + 1) = emT hs va fs es j ++ hBits hs va fs h := by
        rw [emT, hh]; simp [hlt]
      have HN := hid hnext
      clear hnext hh
      have HS := hid (fun W (hb : Below wr.heap.size wr W) => has_any (bkr.below hb) h)
      by_cases hhas : 0 ≤ h ∧ h.toNat < va.length ∧ h.toNat < fs.length
      · obtain ⟨q0, q1, q2⟩ := hhas
        obtain ⟨hn, rfl⟩ : ∃ hn : Nat, h = (hn : Int) := ⟨h.toNat, by omega⟩
        rw [show ((hn : Int)).toNat = hn by omega] at q1 q2
        have hv : hasB (PK.mk port ⟨ra, l.length, rc⟩ ⟨va', va.length, vc⟩ ⟨fa, fs.length, fc⟩ mt dr se eg ac) (hn : Int) = true := by
          unfold hasB; simp; omega
        rw [hv] at HS
        obtain ⟨vb, vo, ev, zv, _, cv⟩ := (RdS.away H.out.valid hbV t (away _) hL).one (i := hn) (u := .bool va[hn]) (by simp [bools, q1])
        simp only at ev
        subst ev
        have bk2 := bkr.cell 2
        have bk3 := bkr.cell 3
        simp only [List.getElem?_cons_zero, List.getElem?_cons_succ, SL.v_mk] at bk2 bk3
        have zk := bkr.lt
        have q1' : (hn : Int) < (va.length : Int) := by omega
        have q2' : (hn : Int) < (fs.length : Int) := by omega
        have hvv : va.getD hn false = va[hn] := by simp [q1]
        obtain ⟨v, hvx⟩ : ∃ v, v = va[hn] := ⟨_, rfl⟩
        rw [← hvx] at cv hvv
        clear hvx hv
        cases v
        · have hb : hBits hs va fs (hn : Int) = [] := by
            unfold hBits
            rw [if_neg (fun q => by rw [show ((hn : Int)).toNat = hn by omega, hvv] at q; exact absurd q.2.2.2 (by simp))]
          rw [hb, List.append_nil] at HN
          go_wp2_with (go_at_call 33; refine (HS.out _ (by (repeat' (first | (with_reducible exact Below.refl _ _) | (with_reducible refine Below.ext_mk ?_ ?_ _ _) | (with_reducible refine Below.alloc ?_ ?_ _) | (with_reducible refine Below.drew ?_) | (with_reducible refine Below.setCell ?_ ?_ _) | go_size)))).mono ?_; rintro e w' ⟨rfl, m2, d2, rfl⟩)
          go_roundw
          case rel => exact ⟨j + 1, hlt, by go_num, by rw [HN.out]; exact hE.ext _ _, by rw [HN.out]; omega⟩
          case measure => simp [intOf]; omega
        · have hb : hBits hs va fs (hn : Int) = fbT ((fs.getD hn (slNil, [])).2) (headAt hs (hn : Int)).2 (headAt hs (hn : Int)).2.length := by
            unfold hBits
            rw [if_pos ⟨q0, by omega, by omega, by rw [show ((hn : Int)).toNat = hn by omega]; exact hvv⟩, show ((hn : Int)).toNat = hn by omega]
          rw [hb] at HN
          clear hb hvv
          obtain ⟨hd, hhd⟩ : ∃ hd, hd = headAt hs (hn : Int) := ⟨_, rfl⟩
          rw [← hhd] at HN
          obtain ⟨ff, hff⟩ : ∃ ff, ff = fs.getD hn (slNil, []) := ⟨_, rfl⟩
          rw [← hff] at HN
          have hfx : fs[hn]? = some ff := by rw [hff]; simp [q2]
          have WD := hid (fun W (hb : Below wr.heap.size wr W) => widths_any (p := PG.mk ph pm s2 s3 s4 s5 ⟨some ⟨eb, eo, none⟩, es.length, ec⟩ n0 n1 n2 n3 n4) (hs := hs) (w := W) ⟨(RdS.away H.out.heads.row hbV t (away _) hL).below hb, fun x hx => (RdS.away (H.out.heads.each x hx) hbV t (away _) hL).below hb⟩ (hn : Int))
          have WS := hid (RdS.away (H.out.heads.at (hn : Int)) hbV t (away _) hL)
          have hpos : ∀ y ∈ hd.2, 0 ≤ y := by
            rw [hhd]; unfold headAt
            rw [if_neg (by omega)]
            cases hx : hs[((hn : Int)).toNat]? with
            | none => intro y hy; simp at hy
            | some x => exact H.out.pos x (List.mem_of_getElem? hx)
          have hsum : hd.2.sum ≤ 1000 := by
            rw [hhd]; unfold headAt
            rw [if_neg (by omega)]
            cases hx : hs[((hn : Int)).toNat]? with
            | none => simp
            | some x => exact H.out.sum x (List.mem_of_getElem? hx)
          have WW := hid (H.out.heads.at (hn : Int))
          have FW := hid (H.out.fields.each ff (List.mem_of_getElem? hfx))
          rw [← hhd] at WD WS WW
          clear hhd hff
          obtain ⟨⟨wa, wn, wc⟩, ws⟩ := hd
          obtain ⟨⟨fa1, fn1, fc1⟩, ns⟩ := ff
          have hwn := WS.out.int
          have hwm := WS.out.2.1
          simp only at hpos hsum HN hwn hwm
          subst hwn
          have R0 := bpr.cell 0
          have R1 := bpr.cell 1
          have R2 := bpr.cell 2
          have R3 := bpr.cell 3
          have R4 := bpr.cell 4
          have R5 := bpr.cell 5
          have R6 := bpr.cell 6
          have R7 := bpr.cell 7
          have R8 := bpr.cell 8
          have R9 := bpr.cell 9
          have R10 := bpr.cell 10
          have R11 := bpr.cell 11
          simp only [List.getElem?_cons_zero, List.getElem?_cons_succ] at R0 R1 R2 R3 R4 R5 R6 R7 R8 R9 R10 R11
          have zpp := bpr.lt
          go_upto_region 8 with (go_at_call 33; refine (HS.out _ (by (repeat' (first | (with_reducible exact Below.refl _ _) | (with_reducible refine Below.ext_mk ?_ ?_ _ _) | (with_reducible refine Below.alloc ?_ ?_ _) | (with_reducible refine Below.drew ?_) | (with_reducible refine Below.setCell ?_ ?_ _) | go_size)))).mono ?_; rintro e w' ⟨rfl, m2, d2, rfl⟩)
          refine wp_gen (fun X hX => ?_)
          have hbX : Below wr.heap.size wr X := by rw [hX]; (repeat' (first | (with_reducible exact Below.refl _ _) | (with_reducible refine Below.ext_mk ?_ ?_ _ _) | (with_reducible refine Below.alloc ?_ ?_ _) | (with_reducible refine Below.drew ?_) | (with_reducible refine Below.setCell ?_ ?_ _) | go_size))
          have hEX : EmW V i0 i1 g0 X (layAll ([], 0) (emT hs va fs es j)) := by rw [hX]; exact hE.ext _ _
          have zpX : w.heap.size < X.heap.size := by have := hbX.size; omega
          have P0 := (hbX.cell (p := ⟨w.heap.size, 0, none⟩) zpp).trans R0
          have P1 := (hbX.cell (p := ⟨w.heap.size, 1, none⟩) zpp).trans R1
          have P2 := (hbX.cell (p := ⟨w.heap.size, 2, none⟩) zpp).trans R2
          have P3 := (hbX.cell (p := ⟨w.heap.size, 3, none⟩) zpp).trans R3
          have P4 := (hbX.cell (p := ⟨w.heap.size, 4, none⟩) zpp).trans R4
          have P5 := (hbX.cell (p := ⟨w.heap.size, 5, none⟩) zpp).trans R5
          have P6 := (hbX.cell (p := ⟨w.heap.size, 6, none⟩) zpp).trans R6
          have P7 := (hbX.cell (p := ⟨w.heap.size, 7, none⟩) zpp).trans R7
          have P8 := (hbX.cell (p := ⟨w.heap.size, 8, none⟩) zpp).trans R8
          have P9 := (hbX.cell (p := ⟨w.heap.size, 9, none⟩) zpp).trans R9
          have P10 := (hbX.cell (p := ⟨w.heap.size, 10, none⟩) zpp).trans R10
          have P11 := (hbX.cell (p := ⟨w.heap.size, 11, none⟩) zpp).trans R11
          have WX := hid (fun W (hb : Below X.heap.size X W) => WD.out W (hbX.trans (hb.mono hbX.size)))
          clear R0 R1 R2 R3 R4 R5 R6 R7 R8 R9 R10 R11 hX bk2 bk3 cv ce HS WD hE bpr bkr
          go_wp2_with (go_at_call 35; refine (WX.out _ (by (repeat' (first | (with_reducible exact Below.refl _ _) | (with_reducible refine Below.ext_mk ?_ ?_ _ _) | (with_reducible refine Below.alloc ?_ ?_ _) | (with_reducible refine Below.drew ?_) | (with_reducible refine Below.setCell ?_ ?_ _) | go_size)))).mono ?_; rintro e w' ⟨rfl, m3, d3, rfl⟩)
          clear P0 P1 P2 P3 P4 P5 P6 P7 P8 P9 P10 P11 WX
          obtain ⟨S, hS⟩ : ∃ S, S = layAll ([], 0) (emT hs va fs es j) := ⟨_, rfl⟩
          rw [← hS] at hEX
          have hS2 : S.2 = (emT hs va fs es j).length := by rw [hS, layAll_many]; simp
          have HSS := hid hS
          clear hS
          have hfn : fn1 = ns.length := by have := FW.out.2.2.1; rw [nums_length] at this; simp only at this; omega
          subst hfn
          go_loopw [37] (fun i wq => ∃ f : Nat, f ≤ ws.length ∧ i = .int .i64 f ∧ EmW V i0 i1 g0 wq (layAll S (fbT ns ws f)) ∧ (fbT ns ws f).length = (ws.take f).sum.toNat) (fun i _ => ws.length - (intOf i).toNat)
          case atStart => exact ⟨0, by omega, rfl, (hEX.ext _ _), by simp [fbT]⟩
          case round =>
            obtain ⟨f, hf, rfl, hE2, hl2⟩ := hrel
            have sm := sum_mono hpos f
            by_cases hlf : f < ws.length
            · have hf1 : (f : Int) < (ws.length : Int) := by omega
              obtain ⟨x, hx⟩ : ∃ x, x = ws[f] := ⟨_, rfl⟩
              have hsn := sum_snoc ws hlf
              have sm1 := sum_mono hpos (f + 1)
              rw [← hx] at hsn
              have hx0 : 0 ≤ x := by rw [hx]; exact hpos _ (List.getElem_mem _)
              have hfb : fbT ns ws (f + 1) = fbT ns ws f ++ bitsOne ns f x := by rw [fbT, hx]; simp [hlf]
              have HFB := hid hfb
              have hl3 : (fbT ns ws (f + 1)).length = (ws.take (f + 1)).sum.toNat := by rw [hfb, List.length_append, bitsOne_length, hl2, hsn]; omega
              have hfew := H.out.few
              have hm2 : (layAll S (fbT ns ws f)).2 + x.toNat ≤ 89000 := by rw [layAll_many, hS2, hl2]; omega
              obtain ⟨S2, hS3⟩ : ∃ S2, S2 = layAll S (fbT ns ws f) := ⟨_, rfl⟩
              rw [← hS3] at hE2 hm2
              have HS3 := hid hS3
              have HL3 := hid hl3
              obtain ⟨t2, _⟩ : Turn V wr [i0, i1, g0] ∧ True := by
                obtain ⟨_, _, _, t, _⟩ := hE2
                exact ⟨t, trivial⟩
              obtain ⟨wb, wo, ew, zw, cw⟩ := RdS.intAt (RdS.away WW.out hbV t2 (away _) hL) hlf
              simp only at ew
              subst ew
              rw [← hx] at cw
              have hx1 : x ≤ 1000 := by omega
              clear hx hsn sm1 sm hfb hl3 hS3 hl2
              go_wp2_with fail
              clear t2 cw
              go_loopw [43] (fun i wz => ∃ c : Nat, c ≤ x.toNat ∧ i = .int .i64 c ∧ EmW V i0 i1 g0 wz (layAll S2 ((bitsOne ns f x).take c))) (fun i _ => x.toNat - (intOf i).toNat)
              case atStart => exact ⟨0, by omega, rfl, hE2⟩
              case round =>
                obtain ⟨c, hc, rfl, hE3⟩ := hrel
                by_cases hlc : c < x.toNat
                · have hc1 : (c : Int) < x := by omega
                  have hbl : c < (bitsOne ns f x).length := by rw [bitsOne_length]; exact hlc
                  have hsn := layAll_snoc S2 (bitsOne ns f x) hbl
                  rw [bitsOne_at ns f x hbl] at hsn
                  have HSN := hid hsn
                  have hmm : (layAll S2 ((bitsOne ns f x).take c)).2 ≤ 90000 := by rw [layAll_many, List.length_take, bitsOne_length]; omega
                  obtain ⟨t3, _⟩ : Turn V wr [i0, i1, g0] ∧ True := by
                    obtain ⟨_, _, _, t, _⟩ := hE3
                    exact ⟨t, trivial⟩
                  have bkz := t3.blk BK.out hkn
                  have z3 := bkz.cell 3
                  simp only [List.getElem?_cons_zero, List.getElem?_cons_succ, SL.v_mk] at z3
                  have zkz := bkz.lt
                  obtain ⟨fb, fo, ef, zf, _, cf⟩ := (RdS.away H.out.fields.row hbV t3 (away _) hL).one (i := hn) (u := .slice fa1 ns.length fc1) (by rw [List.getElem?_map, hfx]; rfl)
                  simp only at ef
                  subst ef
                  have hw1 : IntKind.i64.wrap (x - 1) = x - 1 := IntWalk.i64_in _ (by omega)
                  have hw2 : IntKind.i64.wrap (x - 1 - (c : Int)) = x - 1 - (c : Int) := IntWalk.i64_in _ (by omega)
                  by_cases hfn : f < ns.length
                  · have hfn1 : (f : Int) < (ns.length : Int) := by omega
                    obtain ⟨nb, no, en, zn, _, cn0, cn1⟩ := (RdS.away FW.out hbV t3 (away _) hL).num (i := f) (n := ns[f]) (by simp [hfn])
                    simp only at en
                    subst en
                    obtain ⟨n, hn1⟩ : ∃ n, n = ns[f] := ⟨_, rfl⟩
                    rw [← hn1] at cn0 cn1
                    have hval : (decide (f < ns.length) && bitV (ns.getD f 0#128) (x - 1 - (c : Int))) = bitV n (x - 1 - (c : Int)) := by rw [hn1]; simp [hfn]
                    rw [hval] at HSN
                    have BT := hid (fun W => bit_any n (x - 1 - (c : Int)) (by omega) (by omega) W)
                    generalize bitV n (x - 1 - (c : Int)) = bv at *
                    have LY := hid (fun m d => (hE3.ext m d).lay hmm bv)
                    clear hsn hval hn1 hfx bkz hE3
                    go_upto_region 14 with (fail)
                    refine wp_region_doc (fun F' hF' => ?_)
                    have HF := hid hF'
                    clear hF'
                    repeat (refine doc_val rfl (by first | (go_simp; done) | (go_simp; exact ⟨rfl, rfl⟩) | (go_simp; with_reducible rfl)) ?_; simp only [Act.put, List.setIfInBounds_toArray, List.set_cons_zero, List.set_cons_succ])
                    refine doc_call rfl (by first | (go_simp; done) | (go_simp; exact ⟨rfl, rfl⟩) | (go_simp; with_reducible rfl)) ((BT.out _).mono ?_)
                    rintro e w1 ⟨rfl, m5, d5, rfl⟩
                    refine ⟨_, rfl, ?_⟩
                    simp only [Act.put, List.setIfInBounds_toArray, List.set_cons_zero, List.set_cons_succ]
                    repeat (refine doc_val rfl (by first | (go_simp; done) | (go_simp; exact ⟨rfl, rfl⟩) | (go_simp; with_reducible rfl)) ?_; simp only [Act.put, List.setIfInBounds_toArray, List.set_cons_zero, List.set_cons_succ])
                    refine doc_call rfl (by first | (go_simp; done) | (go_simp; exact ⟨rfl, rfl⟩) | (go_simp; with_reducible rfl)) ((LY.out m5 d5).mono ?_)
                    rintro e w2 ⟨rfl, hE4⟩
                    refine ⟨_, rfl, ?_⟩
                    simp only [Act.put, List.setIfInBounds_toArray, List.set_cons_zero, List.set_cons_succ]
                    refine doc_end (HF.out _ _ ?_)
                    clear HF F'
                    go_wp2_with fail
                    go_roundw
                    case rel => exact ⟨c + 1, hlc, by go_num, by rw [HSN.out]; exact hE4⟩
                    case measure => simp [intOf]; omega
                  · have hfn1 : ¬ (f : Int) < (ns.length : Int) := by omega
                    have hval : (decide (f < ns.length) && bitV (ns.getD f 0#128) (x - 1 - (c : Int))) = false := by simp [hfn]
                    rw [hval] at HSN
                    have LY := hid (hE3.lay hmm false)
                    clear hsn hval hfx bkz hE3
                    go_upto_region 14 with (fail)
                    refine wp_region_doc (fun F' hF' => ?_)
                    have HF := hid hF'
                    clear hF'
                    repeat (first | (refine doc_val rfl (by first | (go_simp; done) | (go_simp; exact ⟨rfl, rfl⟩) | (go_simp; with_reducible rfl)) ?_; simp only [Act.put, List.setIfInBounds_toArray, List.set_cons_zero, List.set_cons_succ]) | (refine doc_not rfl ?_; simp only [Act.put, List.setIfInBounds_toArray, List.set_cons_zero, List.set_cons_succ]))
                    refine doc_call rfl (by first | (go_simp; done) | (go_simp; exact ⟨rfl, rfl⟩) | (go_simp; with_reducible rfl)) ((LY.out).mono ?_)
                    rintro e w2 ⟨rfl, hE4⟩
                    refine ⟨_, rfl, ?_⟩
                    simp only [Act.put, List.setIfInBounds_toArray, List.set_cons_zero, List.set_cons_succ]
                    refine doc_end (HF.out _ _ ?_)
                    clear HF F'
                    go_wp2_with fail
                    go_roundw
                    case rel => exact ⟨c + 1, hlc, by go_num, by rw [HSN.out]; exact hE4⟩
                    case measure => simp [intOf]; omega
                · obtain rfl : c = x.toNat := by omega
                  rw [← bitsOne_length ns f x, List.take_length] at hE3
                  have hlay : layAll S (fbT ns ws (f + 1)) = layAll S2 (bitsOne ns f x) := by rw [HFB.out, layAll_append, ← HS3.out]
                  go_wp2_with fail
                  go_roundw
                  case rel => exact ⟨f + 1, hlf, by go_num, by rw [hlay]; exact hE3, HL3.out⟩
                  case measure => simp [intOf]; omega
            · obtain rfl : f = ws.length := by omega
              rw [List.take_length] at hl2 sm
              have hlay : layAll ([], 0) (emT hs va fs es (j + 1)) = layAll S (fbT ns ws ws.length) := by rw [HN.out, layAll_append, ← HSS.out]
              have hlen2 : (emT hs va fs es (j + 1)).length ≤ (j + 1) * 1000 := by rw [HN.out, List.length_append, hl2]; omega
              go_wp2_with fail
              go_roundw
              case rel => exact ⟨j + 1, hlt, by go_num, by rw [hlay]; exact hE2, hlen2⟩
              case measure => simp [intOf]; omega
      · have hb : hBits hs va fs h = [] := by
          unfold hBits
          rw [if_neg (fun q => hhas ⟨q.1, q.2.1, q.2.2.1⟩)]
        rw [hb, List.append_nil] at HN
        have hv : hasB (PK.mk port ⟨ra, l.length, rc⟩ ⟨va', va.length, vc⟩ ⟨fa, fs.length, fc⟩ mt dr se eg ac) h = false := by
          unfold hasB
          simp only
          by_cases q0 : 0 ≤ h
          · by_cases q1 : h < (va.length : Int)
            · have : ¬ h < (fs.length : Int) := by omega
              simp [this]
            · simp [q1]
          · simp [q0]
        rw [hv] at HS
        go_wp2_with (go_at_call 33; refine (HS.out _ (by (repeat' (first | (with_reducible exact Below.refl _ _) | (with_reducible refine Below.ext_mk ?_ ?_ _ _) | (with_reducible refine Below.alloc ?_ ?_ _) | (with_reducible refine Below.drew ?_) | (with_reducible refine Below.setCell ?_ ?_ _) | go_size)))).mono ?_; rintro e w' ⟨rfl, m2, d2, rfl⟩)
        go_roundw
        case rel => exact ⟨j + 1, hlt, by go_num, by rw [HN.out]; exact hE.ext _ _, by rw [HN.out]; omega⟩
        case measure => simp [intOf]; omega
    · obtain rfl : j = es.length := by omega
      obtain ⟨sv, G, L, _, hG⟩ := hE
      have rR := RdS.away H.out.rest hbV t (away _) hL
      have k1 := bkr.cell 1
      simp only [List.getElem?_cons_zero, List.getElem?_cons_succ, SL.v_mk] at k1
      have zk := bkr.lt
      have d1 := L.out.cell 0
      simp only [List.getElem?_cons_zero] at d1
      have z1 := L.out.lt
      have hrf := H.out.restFew
      have hfew := H.out.few
      have hm : (layAll ([], 0) (emT hs va fs es es.length)).2 ≤ 80000 := by rw [layAll_many]; simp; omega
      have hol := L.full
      have hlw : Below w.heap.size w wr := hbV.trans (t.below (fun q hq => (hL q hq).elim (fun h => by simp at h) id) hbV.size)
      have hap : ∃ (sa' : Option Addr) (n' sc' : Nat) (w1 : World), (Builtin.append_ #[34, 34] 34 #[sv, .slice ra l.length rc]).run Try.prog wr = .ok (.slice sa' n' sc') w1 ∧
          RdS w1 1 ⟨sa', n', sc'⟩ (byts ((layAll ([], 0) (emT hs va fs es es.length)).1 ++ l)) ∧ Below w.heap.size w w1 := by
        rcases Nat.eq_zero_or_pos l.length with h0 | hrs
        · have hl0 : l = [] := List.length_eq_zero_iff.1 h0
          rw [h0]
          obtain ⟨sa', sc', he, _⟩ := L.row.form
          have hrow := L.row
          rw [he] at hrow
          have hR := (RowIs.rdS (s := ⟨sa', _, sc'⟩) hrow).1
          rw [he]
          refine ⟨sa', _, sc', wr, run_append_nothing (P := Try.prog) wr _ _ _ 5 infoU8 Try.underlying34 infoU8_is sa' _ sc' hR.1 _ ?_, by rw [hl0, List.append_nil]; exact hR, hlw⟩
          cases ra with
          | none => exact Src.ofNil wr Try.underlying34 rc
          | some a => exact Src.ofSlice wr Try.underlying34 a 0 rc [] (by simp) (fun j u hu => by simp at hu) (fun u hu => by simp at hu)
        · obtain ⟨rb, ro, er, zr, cr⟩ := rR.2.2.2 hrs
          simp only at er
          obtain ⟨v', w1, G', r1, r2, r3, r4⟩ := append_row (P := Try.prog) 34 34 infoU8 (.int .u8 0) 1 Try.underlying34 infoU8_is infoU8_zero infoU8_size infoU8_bytes rfl (by omega) L.row
            ⟨rb, ro, none⟩ l.length rc (byts l) (by rw [byts_length]; omega) (fun j u hu => by rw [hadd_off]; exact cr j u hu) (by intro u hu; simp [byts] at hu; obtain ⟨x, _, rfl⟩ := hu; rfl) hrs (by unfold maxLen; omega) (by omega)
          obtain ⟨sa', sc', rfl, _⟩ := r2.form
          have hfin : Below w.heap.size w w1 := hlw.grown r3 hlw.size (fun g hg => by
            rcases hG g hg with e | e
            · omega
            · have := hbV.size; omega)
          have Q := (RowIs.rdS (s := ⟨sa', _, sc'⟩) r2).1
          refine ⟨sa', _, sc', w1, by rw [er]; exact r1, ?_, hfin⟩
          rw [show byts ((layAll ([], 0) (emT hs va fs es es.length)).1 ++ l) = byts (layAll ([], 0) (emT hs va fs es es.length)).1 ++ byts l by simp [byts]]
          exact Q
      obtain ⟨sa', n', sc', w1, r1, q1, hfin⟩ := hap
      have R1 := hid r1
      have Q := hid q1
      clear r1 q1 hol hG hm
      go_upto_region 18 with (fail)
      refine wp_region_doc (fun F' hF' => ?_)
      have HF := hid hF'
      clear hF'
      refine doc_val rfl (by first | (go_simp; done) | (go_simp; exact ⟨rfl, rfl⟩) | (go_simp; with_reducible rfl)) ?_
      simp only [Act.put, List.setIfInBounds_toArray, List.set_cons_zero, List.set_cons_succ]
      refine doc_val rfl (by first | (go_simp; done) | (go_simp; exact ⟨rfl, rfl⟩) | (go_simp; with_reducible rfl)) ?_
      simp only [Act.put, List.setIfInBounds_toArray, List.set_cons_zero, List.set_cons_succ]
      refine doc_val rfl (by first | (go_simp; done) | (go_simp; exact ⟨rfl, rfl⟩) | (go_simp; with_reducible rfl)) ?_
      simp only [Act.put, List.setIfInBounds_toArray, List.set_cons_zero, List.set_cons_succ]
      refine doc_val rfl (run_append_op _ _ _ _ _ _ _ _ _ R1.out) ?_
      simp only [Act.put, List.setIfInBounds_toArray, List.set_cons_zero, List.set_cons_succ]
      refine doc_val rfl (by first | (go_simp; done) | (go_simp; exact ⟨rfl, rfl⟩) | (go_simp; with_reducible rfl)) ?_
      simp only [Act.put, List.setIfInBounds_toArray, List.set_cons_zero, List.set_cons_succ]
      refine doc_end (HF.out _ _ ?_)
      clear HF F'
      go_wp2
      go_returns
      exact ⟨⟨sa', n', sc'⟩, rfl, Q.out, hfin⟩
end Go.Proofs.Ytkblldmpdihamaa
