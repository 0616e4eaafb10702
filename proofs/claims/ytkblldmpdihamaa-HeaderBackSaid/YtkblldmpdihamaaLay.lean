/-
  Package header: Emit's closure, that lays one bit.
-/
import Derived.Test.YtkblldmpdihamaaClone
set_option linter.unusedVariables false
set_option linter.unusedSimpArgs false
namespace Go.Proofs.Ytkblldmpdihamaa
open Go.RowKit

/-- The bytes behind one bit more. -/
def layN (o : List Nat) (m : Nat) (b : Bool) : List Nat :=
  if b then (if m % 8 = 0 then o ++ [0] else o).set ((if m % 8 = 0 then o ++ [0] else o).length - 1) ((if m % 8 = 0 then o ++ [0] else o).getD ((if m % 8 = 0 then o ++ [0] else o).length - 1) 0 ||| 2 ^ (7 - m % 8))
  else (if m % 8 = 0 then o ++ [0] else o)
theorem or_u8 (x s : Nat) (h : x < 256) (hs : s < 8) : bits BinOp.or .u8 (x : Int) ((2 ^ s : Nat) : Int) = ((x ||| 2 ^ s : Nat) : Int) ∧ x ||| 2 ^ s < 256 := by
  have : ∀ (x : Fin 256) (s : Fin 8), bits BinOp.or .u8 ((x.val : Nat) : Int) ((2 ^ s.val : Nat) : Int) = ((x.val ||| 2 ^ s.val : Nat) : Int) ∧ x.val ||| 2 ^ s.val < 256 := by decide +kernel
  exact this ⟨x, h⟩ ⟨s, hs⟩

/-- How many bits are laid, and where; the bytes. -/
structure LayW (w : World) (i0 i1 : Nat) (sv : Value) (G : Option Nat) (o : List Nat) (m : Nat) : Prop where
  many : Blk w i0 3 [.int .i64 (m : Int)]
  out : Blk w i1 34 [sv]
  row : RowIs w sv G 5 1 o.length (byts o)
  ne : i0 ≠ i1
  g0 : ∀ g, G = some g → g ≠ i0 ∧ g ≠ i1
  byte : ∀ x ∈ o, x < 256
  full : o.length = (m + 7) / 8
/-- What lay does to the rest: nothing. -/
def LayStep (w w' : World) (i0 i1 : Nat) (G G' : Option Nat) : Prop := Turn w w' (i0 :: i1 :: G.toList) ∧ (∀ g, G' = some g → G = some g ∨ w.heap.size ≤ g)

theorem byts_snoc (o : List Nat) (x : Nat) : byts (o ++ [x]) = byts o ++ [.int .u8 (x : Int)] := by simp [byts]
theorem byts_set (o : List Nat) (i x : Nat) : byts (o.set i x) = (byts o).set i (.int .u8 (x : Int)) := by simp [byts, List.map_set]

/-- A byte of a row of our own is written. -/
theorem RowIs.setB {w : World} {sv : Value} {G : Option Nat} {o : List Nat} (h : RowIs w sv G 5 1 o.length (byts o)) {i x : Nat} (hi : i < o.length) {g : Nat} (hg : G = some g) :
    RowIs (w.setCell ⟨g, i, none⟩ (.int .u8 (x : Int))) sv G 5 1 (o.set i x).length (byts (o.set i x)) := by
  obtain ⟨h0, ⟨_, h1, _⟩ | ⟨g', cap, cur, h1, h2, h3, h4, h5, h6, h7⟩⟩ := h
  · omega
  · rw [hg] at h2; cases h2
    refine ⟨by rw [byts_length]; omega, .inr ⟨g, cap, cur.setIfInBounds i (.int .u8 (x : Int)), by rw [List.length_set]; exact h1, hg, ?_, by rw [List.length_set]; exact h4, h5, by simpa using h6, ?_⟩⟩
    · simp [World.setCell, Array.getElem?_modify, h3]
    · rw [byts_set, ← h7]
      simp [List.length_set, List.take_set]

theorem grow_byte {w : World} {sv : Value} {G : Option Nat} {o : List Nat} (h : RowIs w sv G 5 1 o.length (byts o)) (hk : o.length ≤ 100000) (x : Nat) :
    ∃ v' w1 G', (Builtin.append_ #[34, 34] 34 #[sv, .slice (some ⟨w.heap.size, 0, none⟩) 1 1]).run Try.prog (w.alloc (.cells #[.int .u8 (x : Int)] 5)) = .ok v' w1 ∧
      RowIs w1 v' (some G') 5 1 (o ++ [x]).length (byts (o ++ [x])) ∧ Turn w w1 G.toList ∧ (G = some G' ∨ w.heap.size ≤ G') := by
  have hbl : Below w.heap.size w (w.alloc (.cells #[.int .u8 (x : Int)] 5)) := by (repeat' (first | (with_reducible exact Below.refl _ _) | (with_reducible refine Below.ext_mk ?_ ?_ _ _) | (with_reducible refine Below.alloc ?_ ?_ _) | (with_reducible refine Below.drew ?_) | (with_reducible refine Below.setCell ?_ ?_ _) | go_size))
  have bl := Blk.new w 5 [.int .u8 (x : Int)]
  have rowL : RowIs (w.alloc (.cells #[.int .u8 (x : Int)] 5)) sv G 5 1 o.length (byts o) := RowIs.keep h (fun g hg => hbl.block g (RowIs.lt h g hg))
  obtain ⟨v', w1, G', r1, r2, r3, r4⟩ := append_row (P := Try.prog) 34 34 infoU8 (.int .u8 0) 1 Try.underlying34 infoU8_is infoU8_zero infoU8_size infoU8_bytes rfl (by omega) rowL
    ⟨w.heap.size, 0, none⟩ 1 1 [.int .u8 (x : Int)] rfl (fun j u hu => by
      rw [hadd_off, Nat.zero_add]
      exact (bl.cell j).trans hu) (by simp [Value.oneCell']) (by omega) (by unfold maxLen; omega) (by omega)
  refine ⟨v', w1, G', r1, ?_, ?_, ?_⟩
  · rw [byts_snoc, List.length_append]; exact r2
  · refine (Turn.of_below hbl).trans ⟨r3.os, r3.tape, r3.output, r3.size, fun k hk hn => r3.block k hk (fun e => hn ?_)⟩
    rw [← e]; simp
  · rcases r4 with r4 | ⟨r4, _⟩
    · exact .inl r4
    · right; simp at r4; omega

set_option maxRecDepth 100000 in
set_option maxHeartbeats 8000000 in
theorem lay_any {w : World} {i0 i1 : Nat} {sv : Value} {G : Option Nat} {o : List Nat} {m : Nat} (L : LayW w i0 i1 sv G o m) (hmx : m ≤ 90000) (bit : Bool) :
    Calls Try.prog 40 #[.bool bit, .pointer (some ⟨i0, 0, none⟩), .pointer (some ⟨i1, 0, none⟩)] w
      (fun e w' => e = .returned (.tuple #[]) ∧ ∃ sv' G', LayW w' i0 i1 sv' G' (layN o m bit) (m + 1) ∧ LayStep w w' i0 i1 G G') := by
  have et : (m : Int).tmod 8 = ((m % 8 : Nat) : Int) := by rw [Int.tmod_eq_emod_of_nonneg (by omega)]; omega
  have c0 := L.many.cell 0
  have c1 := L.out.cell 0
  simp only [List.getElem?_cons_zero] at c0 c1
  have z0 := L.many.lt
  have z1 := L.out.lt
  have hw1 : IntKind.i64.wrap ((m : Int) + 1) = (m : Int) + 1 := IntWalk.i64_in _ (by omega)
  by_cases hm : m % 8 = 0
  · rw [hm] at et
    have et' : (m : Int).tmod 8 = 0 := et
    clear et
    go_enter Try.func40, Try.ntmps40
    go_upto_region 1 with (fail)
    obtain ⟨v', w1, g, r1, r2, r3, r4⟩ := grow_byte L.row (by have := L.full; omega) 0
    have m1 : Blk w1 i0 3 [.int .i64 (m : Int)] := r3.blk L.many (fun hm => by simp at hm; exact (L.g0 _ hm).1 rfl)
    have o1 : Blk w1 i1 34 [sv] := r3.blk L.out (fun hm => by simp at hm; exact (L.g0 _ hm).2 rfl)
    have q0 := o1.cell 0
    have q1 := o1.free 0
    have zq := o1.lt
    simp only [List.getElem?_cons_zero] at q0
    refine wp_region_doc (fun F' hF => ?_)
    have HF := hid hF
    clear hF
    refine doc_val rfl (by first | (go_simp; done) | (go_simp; exact ⟨rfl, rfl⟩) | (go_simp; with_reducible rfl)) ?_
    simp only [Act.put, List.setIfInBounds_toArray, List.set_cons_zero, List.set_cons_succ]
    refine doc_val rfl (by first | (go_simp; done) | (go_simp; exact ⟨rfl, rfl⟩) | (go_simp; with_reducible rfl)) ?_
    simp only [Act.put, List.setIfInBounds_toArray, List.set_cons_zero, List.set_cons_succ]
    refine doc_val rfl (run_append_op _ _ _ _ _ _ _ _ _ r1) ?_
    simp only [Act.put, List.setIfInBounds_toArray, List.set_cons_zero, List.set_cons_succ]
    obtain ⟨va, vc, rfl, _⟩ := r2.form
    refine doc_skip rfl (by first | (go_simp; done) | (go_simp; exact ⟨rfl, rfl⟩) | (go_simp; with_reducible rfl)) ?_
    simp only [Act.put, List.setIfInBounds_toArray, List.set_cons_zero, List.set_cons_succ]
    refine doc_end (HF.out _ _ ?_)
    clear HF F'
    go_upto_region 2 with (fail)
    refine wp_gen (fun U hU => ?_)
    have hgi : g ≠ i0 ∧ g ≠ i1 := by
      rcases r4 with r4 | r4
      · exact L.g0 g r4
      · omega
    have bm : Blk U i0 3 [.int .i64 (m : Int)] := by rw [hU]; exact m1.far (fun e => L.ne e.symm) _ _
    have bo : Blk U i1 34 [.slice va (o ++ [0]).length vc] := by
      have h := o1.set_ 0 (.slice va (o ++ [0]).length vc)
      rw [hU]; simpa using h
    have row1 : RowIs U (.slice va (o ++ [0]).length vc) (some g) 5 1 (o ++ [0]).length (byts (o ++ [0])) := by
      rw [hU]; exact RowIs.keep r2 (fun k hk => Below.heap_setCell _ _ _ _ (fun e => by cases hk; simp at e; exact hgi.2 e))
    have hst : Turn w U (i0 :: i1 :: G.toList) := by
      rw [hU]; exact (r3.weak (fun k hk => by simp [hk])).trans (Turn.set_ i1 0 _ (by simp))
    have hlay : layN o m bit = if bit then (o ++ [0]).set ((o ++ [0]).length - 1) ((o ++ [0]).getD ((o ++ [0]).length - 1) 0 ||| 2 ^ (7 - m % 8)) else o ++ [0] := by unfold layN; rw [if_pos hm]
    have hol : (o ++ [0]).length = (m + 1 + 7) / 8 := by have := L.full; simp; omega
    have hby : ∀ x ∈ o ++ [0], x < 256 := fun x hx => by
      rcases List.mem_append.1 hx with hx | hx
      · exact L.byte x hx
      · simp at hx; omega
    clear hU r1 r2 r3 m1 o1 q0 q1 zq c0 c1
    generalize o ++ [0] = p at *
    have zg := RowIs.lt row1 g rfl
    obtain ⟨g0, g1⟩ := hgi
    have f0 := bm.free 0
    have f1 := bo.free 0
    have d0 := bm.cell 0
    have d1 := bo.cell 0
    simp only [List.getElem?_cons_zero] at d0 d1
    have y0 := bm.lt
    have y1 := bo.lt
    cases bit
    · simp only [Bool.false_eq_true, if_false] at hlay
      go_upto_region 4 with (fail)
      go_wp2
      go_returns
      refine ⟨rfl, (.slice va p.length vc), some g, ⟨?_, ?_, ?_, L.ne, fun q hq => (by cases hq; exact ⟨g0, g1⟩), ?_, ?_⟩, ?_, ?_⟩
      · exact Blk.cast (bm.set_ 0 _) (by simp)
      · exact bo.far L.ne _ _
      · rw [hlay]; exact RowIs.keep row1 (fun k hk => Below.heap_setCell _ _ _ _ (fun e => by cases hk; simp at e; exact g0 e))
      · rw [hlay]; exact hby
      · rw [hlay, hol]
      · exact hst.trans (Turn.set_ i0 0 _ (by simp))
      · intro q hq; cases hq; exact r4
    · simp only [if_true] at hlay
      obtain ⟨t, ht⟩ : ∃ t, t = p.length - 1 := ⟨_, rfl⟩
      have hpl : 0 < p.length := by omega
      have htl : t < p.length := by omega
      obtain ⟨x, hx⟩ : ∃ x, x = p.getD t 0 := ⟨_, rfl⟩
      rw [← ht, ← hx] at hlay
      have hpx : p[t]? = some x := by rw [hx]; simp [htl]
      have hx256 := hby x (List.mem_of_getElem? hpx)
      obtain ⟨s, hs⟩ : ∃ s : Nat, s = 7 - m % 8 := ⟨_, rfl⟩
      rw [← hs] at hlay
      have hor := or_u8 x s hx256 (by omega)
      obtain ⟨Z, hZ⟩ : ∃ Z, Z = x ||| 2 ^ s := ⟨_, rfl⟩
      rw [← hZ] at hor hlay
      obtain ⟨Y, hY⟩ : ∃ Y : Nat, Y = 2 ^ s := ⟨_, rfl⟩
      rw [← hY] at hor
      obtain ⟨r, hr⟩ : ∃ r, r = m % 8 := ⟨_, rfl⟩
      have etr : (m : Int).tmod 8 = (r : Int) := by rw [Int.tmod_eq_emod_of_nonneg (by omega)]; omega
      have hsub2 : IntKind.i64.wrap (7 - (r : Int)) = (s : Int) := by rw [IntWalk.i64_in _ (by omega)]; omega
      have hsub1 : IntKind.i64.wrap ((p.length : Int) - 1) = (t : Int) := by rw [IntWalk.i64_in _ (by omega)]; omega
      have hYs : Y < 256 := by rw [hY]; exact Nat.lt_of_le_of_lt (Nat.pow_le_pow_right (by omega) (show s ≤ 7 by omega)) (by decide)
      have hshl : IntKind.u8.wrap ((2 : Int) ^ s) = (Y : Int) := by
        rw [show ((2 : Int) ^ s) = (Y : Int) by rw [hY]; simp]
        rw [IntKind.wrap_u8]; omega
      have hsn : ((s : Int)).toNat = s := by omega
      have hs0 : (0 : Int) ≤ (s : Int) := by omega
      have hs7 : (s : Int) ≤ 7 := by omega
      have ht0 : (0 : Int) ≤ (t : Int) := by omega
      have ht1 : (t : Int) < (p.length : Int) := by omega
      have hrow := RowIs.setB row1 (x := Z) htl rfl
      obtain ⟨g', cap', hsv, hG, hcell, hfr⟩ := RowIs.at row1 (i := t) (j := 0) htl (by omega)
      cases hG
      simp only [Value.slice.injEq] at hsv
      obtain ⟨rfl, _, rfl⟩ := hsv
      rw [Nat.mul_one, Nat.add_zero, show (byts p)[t]? = some (.int .u8 (x : Int)) by simp [byts, hpx]] at hcell
      rw [Nat.mul_one, Nat.add_zero] at hfr
      have hor1 := hor.1
      have HP := hid hor.2
      clear hs hr hor hY hZ hx ht hYs hx256
      try clear et'
      try clear et2
      try clear et3
      have HO := hid hol
      have HLY := hid hlay
      have HPX := hid hpx
      clear hol hlay hpx
      go_upto_region 3 with (fail)
      refine wp_region_store 12 (by kernel_rfl) (by kernel_rfl) (by kernel_rfl) rfl (fun F hF G hG => ?_)
      simp only [List.take_succ_cons, List.take_zero, List.drop_succ_cons, List.drop_zero] at hG ⊢
      have HF := hid hF; clear hF
      have HG := hid hG; clear hG
      repeat (first
        | (apply text_skip; (focus rfl); simp only [Act.put, List.setIfInBounds_toArray, List.set_cons_zero, List.set_cons_succ])
        | (apply text_val; (focus rfl); (focus (intro _ _; go_simp; with_reducible rfl)); simp only [Act.put, List.setIfInBounds_toArray, List.set_cons_zero, List.set_cons_succ])
        | (apply text_if; (focus (first | exact wanted_t rfl rfl | exact wanted_f rfl rfl | exact wanted_gt rfl rfl | exact wanted_gf rfl rfl)); (focus (intro hc _ _; (try simp only [Bool.and_eq_true, Bool.not_eq_true', Bool.true_and] at hc); go_simp; with_reducible rfl)); simp only [Act.put, List.setIfInBounds_toArray, List.set_cons_zero, List.set_cons_succ]))
      refine text_nil (HG.out _ ?_)
      clear HG G
      apply store_step; (focus rfl); (focus (intro _ _; apply Exists.intro; apply Exists.intro; go_simp; with_reducible rfl))
      try simp only [Act.put, List.setIfInBounds_toArray, List.set_cons_zero, List.set_cons_succ]
      repeat (apply both_val; (focus rfl); (focus (intro _; go_simp; with_reducible rfl)); simp only [Act.put, List.setIfInBounds_toArray, List.set_cons_zero, List.set_cons_succ])
      refine both_nil (HF.out _ _ (fun mx dx => ?_))
      clear HF F
      go_wp2
      go_returns
      refine ⟨rfl, .slice (some ⟨g, 0, none⟩) p.length vc, some g, ⟨?_, ?_, ?_, L.ne, fun q hq => (by cases hq; exact ⟨g0, g1⟩), ?_, ?_⟩, ?_, ?_⟩
      · exact Blk.ext (Blk.cast ((bm.far g0 _ _).set_ 0 _) (by simp)) _ _
      · exact ((bo.far g1 _ _).far L.ne _ _).ext _ _
      · rw [HLY.out]
        refine RowIs.keep hrow (fun k hk => ?_)
        cases hk
        rw [World.heap_ext _ _ _ (by simpa [World.setCell] using zg), Below.heap_setCell _ _ _ _ (fun e => g0 (by simpa using e))]
      · rw [HLY.out]
        intro y hy
        rcases List.mem_or_eq_of_mem_set hy with h | h
        · exact hby y h
        · rw [h]; exact HP.out
      · rw [HLY.out, List.length_set, HO.out]
      · refine hst.from (M := [g, i0]) ((Turn.set_ g _ _ (by simp)).trans ((Turn.set_ i0 _ _ (by simp)).trans (Turn.of_below (Below.ext_mk (Below.refl _ _) (Nat.le_refl _) _ _)))) (fun i hi => ?_)
        simp at hi
        rcases hi with rfl | rfl
        · rcases r4 with r4 | r4
          · exact .inl (by rw [r4]; simp)
          · exact .inr r4
        · exact .inl (by simp)
      · intro q hq; cases hq; exact r4
  · obtain ⟨g, hG⟩ : ∃ g, G = some g := by
      rcases L.row with ⟨h0, ⟨_, h1, _⟩ | ⟨g, _, _, _, h2, _⟩⟩
      · have := L.full; omega
      · exact ⟨g, h2⟩
    obtain ⟨va, vc, rfl, _⟩ := L.row.form
    obtain ⟨r0, hr0⟩ : ∃ r0, r0 = m % 8 := ⟨_, rfl⟩
    have et2 : (m : Int).tmod 8 = (r0 : Int) := by rw [et]; omega
    have et3 : ((r0 : Int) == 0) = false := by simp; omega
    have et4 : ¬ (r0 : Int) = 0 := by omega
    have et5 : ¬ r0 = 0 := by omega
    clear hr0
    have hgi : g ≠ i0 ∧ g ≠ i1 := L.g0 g hG
    have bm := L.many
    have bo := L.out
    have row1 := L.row
    rw [hG] at row1
    have r4 : G = some g ∨ w.heap.size ≤ g := .inl hG
    have hst : Turn w w (i0 :: i1 :: G.toList) := Turn.refl _ _
    have hlay : layN o m bit = if bit then o.set (o.length - 1) (o.getD (o.length - 1) 0 ||| 2 ^ (7 - m % 8)) else o := by unfold layN; rw [if_neg hm]
    have hol : o.length = (m + 1 + 7) / 8 := by have := L.full; omega
    have hby := L.byte
    clear et hm
    go_enter Try.func40, Try.ntmps40
    go_upto_region 2 with (fail)
    clear c0 c1 z0 z1
    clear et3 et4 et5
    have et' := et2
    refine wp_gen (fun U hU => ?_)
    obtain rfl : U = w := hU
    have zg := RowIs.lt row1 g rfl
    obtain ⟨g0, g1⟩ := hgi
    have f0 := bm.free 0
    have f1 := bo.free 0
    have d0 := bm.cell 0
    have d1 := bo.cell 0
    simp only [List.getElem?_cons_zero] at d0 d1
    have y0 := bm.lt
    have y1 := bo.lt
    cases bit
    · simp only [Bool.false_eq_true, if_false] at hlay
      go_upto_region 4 with (fail)
      go_wp2
      go_returns
      refine ⟨rfl, (.slice va o.length vc), some g, ⟨?_, ?_, ?_, L.ne, fun q hq => (by cases hq; exact ⟨g0, g1⟩), ?_, ?_⟩, ?_, ?_⟩
      · exact Blk.cast (bm.set_ 0 _) (by simp)
      · exact bo.far L.ne _ _
      · rw [hlay]; exact RowIs.keep row1 (fun k hk => Below.heap_setCell _ _ _ _ (fun e => by cases hk; simp at e; exact g0 e))
      · rw [hlay]; exact hby
      · rw [hlay, hol]
      · exact hst.trans (Turn.set_ i0 0 _ (by simp))
      · intro q hq; cases hq; exact r4
    · simp only [if_true] at hlay
      obtain ⟨t, ht⟩ : ∃ t, t = o.length - 1 := ⟨_, rfl⟩
      have hpl : 0 < o.length := by omega
      have htl : t < o.length := by omega
      obtain ⟨x, hx⟩ : ∃ x, x = o.getD t 0 := ⟨_, rfl⟩
      rw [← ht, ← hx] at hlay
      have hpx : o[t]? = some x := by rw [hx]; simp [htl]
      have hx256 := hby x (List.mem_of_getElem? hpx)
      obtain ⟨s, hs⟩ : ∃ s : Nat, s = 7 - m % 8 := ⟨_, rfl⟩
      rw [← hs] at hlay
      have hor := or_u8 x s hx256 (by omega)
      obtain ⟨Z, hZ⟩ : ∃ Z, Z = x ||| 2 ^ s := ⟨_, rfl⟩
      rw [← hZ] at hor hlay
      obtain ⟨Y, hY⟩ : ∃ Y : Nat, Y = 2 ^ s := ⟨_, rfl⟩
      rw [← hY] at hor
      obtain ⟨r, hr⟩ : ∃ r, r = m % 8 := ⟨_, rfl⟩
      have etr : (m : Int).tmod 8 = (r : Int) := by rw [Int.tmod_eq_emod_of_nonneg (by omega)]; omega
      have hsub2 : IntKind.i64.wrap (7 - (r : Int)) = (s : Int) := by rw [IntWalk.i64_in _ (by omega)]; omega
      have hsub1 : IntKind.i64.wrap ((o.length : Int) - 1) = (t : Int) := by rw [IntWalk.i64_in _ (by omega)]; omega
      have hYs : Y < 256 := by rw [hY]; exact Nat.lt_of_le_of_lt (Nat.pow_le_pow_right (by omega) (show s ≤ 7 by omega)) (by decide)
      have hshl : IntKind.u8.wrap ((2 : Int) ^ s) = (Y : Int) := by
        rw [show ((2 : Int) ^ s) = (Y : Int) by rw [hY]; simp]
        rw [IntKind.wrap_u8]; omega
      have hsn : ((s : Int)).toNat = s := by omega
      have hs0 : (0 : Int) ≤ (s : Int) := by omega
      have hs7 : (s : Int) ≤ 7 := by omega
      have ht0 : (0 : Int) ≤ (t : Int) := by omega
      have ht1 : (t : Int) < (o.length : Int) := by omega
      have hrow := RowIs.setB row1 (x := Z) htl rfl
      obtain ⟨g', cap', hsv, hG, hcell, hfr⟩ := RowIs.at row1 (i := t) (j := 0) htl (by omega)
      cases hG
      simp only [Value.slice.injEq] at hsv
      obtain ⟨rfl, _, rfl⟩ := hsv
      rw [Nat.mul_one, Nat.add_zero, show (byts o)[t]? = some (.int .u8 (x : Int)) by simp [byts, hpx]] at hcell
      rw [Nat.mul_one, Nat.add_zero] at hfr
      have hor1 := hor.1
      have HP := hid hor.2
      clear hs hr hor hY hZ hx ht hYs hx256
      try clear et'
      try clear et2
      try clear et3
      have HO := hid hol
      have HLY := hid hlay
      have HPX := hid hpx
      clear hol hlay hpx
      go_upto_region 3 with (fail)
      refine wp_region_store 12 (by kernel_rfl) (by kernel_rfl) (by kernel_rfl) rfl (fun F hF G hG => ?_)
      simp only [List.take_succ_cons, List.take_zero, List.drop_succ_cons, List.drop_zero] at hG ⊢
      have HF := hid hF; clear hF
      have HG := hid hG; clear hG
      repeat (first
        | (apply text_skip; (focus rfl); simp only [Act.put, List.setIfInBounds_toArray, List.set_cons_zero, List.set_cons_succ])
        | (apply text_val; (focus rfl); (focus (intro _ _; go_simp; with_reducible rfl)); simp only [Act.put, List.setIfInBounds_toArray, List.set_cons_zero, List.set_cons_succ])
        | (apply text_if; (focus (first | exact wanted_t rfl rfl | exact wanted_f rfl rfl | exact wanted_gt rfl rfl | exact wanted_gf rfl rfl)); (focus (intro hc _ _; (try simp only [Bool.and_eq_true, Bool.not_eq_true', Bool.true_and] at hc); go_simp; with_reducible rfl)); simp only [Act.put, List.setIfInBounds_toArray, List.set_cons_zero, List.set_cons_succ]))
      refine text_nil (HG.out _ ?_)
      clear HG G
      apply store_step; (focus rfl); (focus (intro _ _; apply Exists.intro; apply Exists.intro; go_simp; with_reducible rfl))
      try simp only [Act.put, List.setIfInBounds_toArray, List.set_cons_zero, List.set_cons_succ]
      repeat (apply both_val; (focus rfl); (focus (intro _; go_simp; with_reducible rfl)); simp only [Act.put, List.setIfInBounds_toArray, List.set_cons_zero, List.set_cons_succ])
      refine both_nil (HF.out _ _ (fun mx dx => ?_))
      clear HF F
      go_wp2
      go_returns
      refine ⟨rfl, .slice (some ⟨g, 0, none⟩) o.length vc, some g, ⟨?_, ?_, ?_, L.ne, fun q hq => (by cases hq; exact ⟨g0, g1⟩), ?_, ?_⟩, ?_, ?_⟩
      · exact Blk.ext (Blk.cast ((bm.far g0 _ _).set_ 0 _) (by simp)) _ _
      · exact ((bo.far g1 _ _).far L.ne _ _).ext _ _
      · rw [HLY.out]
        refine RowIs.keep hrow (fun k hk => ?_)
        cases hk
        rw [World.heap_ext _ _ _ (by simpa [World.setCell] using zg), Below.heap_setCell _ _ _ _ (fun e => g0 (by simpa using e))]
      · rw [HLY.out]
        intro y hy
        rcases List.mem_or_eq_of_mem_set hy with h | h
        · exact hby y h
        · rw [h]; exact HP.out
      · rw [HLY.out, List.length_set, HO.out]
      · refine hst.from (M := [g, i0]) ((Turn.set_ g _ _ (by simp)).trans ((Turn.set_ i0 _ _ (by simp)).trans (Turn.of_below (Below.ext_mk (Below.refl _ _) (Nat.le_refl _) _ _)))) (fun i hi => ?_)
        simp at hi
        rcases hi with rfl | rfl
        · rcases r4 with r4 | r4
          · exact .inl (by rw [r4]; simp)
          · exact .inr r4
        · exact .inl (by simp)
      · intro q hq; cases hq; exact r4
end Go.Proofs.Ytkblldmpdihamaa
