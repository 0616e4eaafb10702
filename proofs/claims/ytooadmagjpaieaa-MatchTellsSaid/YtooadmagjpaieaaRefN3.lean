/-
  The document's numbers (quillonref01): and, xor.
-/
import Derived.Test.YtooadmagjpaieaaRefN2
set_option linter.unusedVariables false
set_option linter.unusedSimpArgs false
namespace Go.Proofs.Ytooadmagjpaieaa
open Go.RowKit

def andF (x y : BitVec 128) : Nat → Bool := fun i => bt x i && bt y i
set_option maxRecDepth 100000 in
theorem rand_any (x y : BitVec 128) (w : World) : Calls Try.prog 39 #[nv x, nv y] w (Pure (nv (nOf (andF x y))) w) := by
  have hz := (zero_of_info (P := Try.prog) row_info).1
  go_enter Try.func39, Try.ntmps39
  go_upto_region 1 with (fail)
  refine wp_gen (fun V hV => ?_)
  have hbV : Below w.heap.size w V := by rw [hV]; (repeat' (first | (with_reducible exact Below.refl _ _) | (with_reducible refine Below.ext_mk ?_ ?_ _ _) | (with_reducible refine Below.alloc ?_ ?_ _) | (with_reducible refine Below.drew ?_) | (with_reducible refine Below.setCell ?_ ?_ _) | go_size))
  have bx : Blk V w.heap.size 24 [.int .u64 (hi x), .int .u64 (lo x)] := by
    rw [hV]; exact ((Blk.new w 24 [.int .u64 (hi x), .int .u64 (lo x)]).below (Below.alloc (Below.refl _ _) (Nat.le_refl _) _)).below (Below.alloc (Below.refl _ _) (Nat.le_refl _) _)
  have bY : Blk V (w.heap.size + 1) 24 [.int .u64 (hi y), .int .u64 (lo y)] := by
    rw [hV]
    have h := (Blk.new (w.alloc (.cells #[.int .u64 (hi x), .int .u64 (lo x)] 24)) 24 [.int .u64 (hi y), .int .u64 (lo y)]).below (Below.alloc (Below.refl _ _) (Nat.le_refl _) (.cells #[.int .u64 0, .int .u64 0] 24))
    simpa using h
  have br : Blk V (w.heap.size + 1 + 1) 24 [.int .u64 0, .int .u64 0] := by
    rw [hV]
    have h := Blk.new ((w.alloc (.cells #[.int .u64 (hi x), .int .u64 (lo x)] 24)).alloc (.cells #[.int .u64 (hi y), .int .u64 (lo y)] 24)) 24 [.int .u64 0, .int .u64 0]
    simpa using h
  clear hV
  have c0 := bx.cell 0
  have c1 := bx.cell 1
  have d0 := bY.cell 0
  have d1 := bY.cell 1
  simp only [List.getElem?_cons_zero, List.getElem?_cons_succ] at c0 c1 d0 d1
  have zr := br.lt
  have zx := bx.lt
  have zy := bY.lt
  refine wp_region_makes 6 [4, 5] (fun _ v w => ∃ b, v = .pointer (some ⟨b, 0, none⟩) ∧ Blk w b 57 (rowL fun _ => false)) (by kernel_rfl) (by kernel_rfl) (by kernel_rfl) (by kernel_rfl) (by kernel_rfl) (by kernel_rfl) (by kernel_rfl)
    (fun _ v w m d ⟨b, h1, h2⟩ => ⟨b, h1, h2.ext m d⟩) (fun F hF => ?_)
  simp only [List.take_succ_cons, List.take_zero, List.drop_succ_cons, List.drop_zero] at hF ⊢
  have HF := hid hF
  clear hF
  repeat (first
    | (apply tm_val; (focus rfl); (focus rfl); (focus (intro _ _; go_simp; with_reducible rfl)); simp only [Act.put, List.setIfInBounds_toArray, List.set_cons_zero, List.set_cons_succ])
    | (apply tm_call; (focus rfl); (focus rfl); (focus (intro _ _; go_simp; exact ⟨rfl, rfl⟩)); (focus (intro _ _; with_reducible (exact rbits_any _ _))); simp only [Act.put, List.setIfInBounds_toArray, List.set_cons_zero, List.set_cons_succ])
    | (apply tm_make; (focus rfl); (focus rfl); (focus (exact (fun m d => ⟨_, _, (by first | (go_simp; done) | (go_simp; exact ⟨rfl, rfl⟩) | (go_simp; with_reducible rfl)), Below.to_ext (Below.alloc (Below.refl _ _) (Nat.le_refl _) _), ⟨_, rfl, by have h := Blk.new (V.ext m d) 57 (rowL fun _ => false); rw [World.size_ext] at h; exact h⟩, by simp [blkOf], by simp [blkOf]⟩)))))
  refine tm_nil (HF.out _ (fun us m d hG hD => ?_))
  clear HF F
  obtain ⟨⟨b5, e5, k5⟩, l5⟩ := hG 4 (by simp)
  obtain ⟨⟨b6, e6, k6⟩, l6⟩ := hG 5 (by simp)
  have hne := hD 4 (by simp) 5 (by simp) (by omega)
  have hb56 : b5 ≠ b6 := by rw [e5, e6] at hne; simpa [blkOf] using hne
  have l5' : V.heap.size ≤ b5 := by rw [e5] at l5; simpa [blkOf] using l5
  have l6' : V.heap.size ≤ b6 := by rw [e6] at l6; simpa [blkOf] using l6
  simp only [setAll, List.getElem?_toArray, List.getElem?_cons_succ, List.getElem?_cons_zero, Option.bind_some, e5, e6]
  simp only [Act.put, List.setIfInBounds_toArray, List.set_cons_zero, List.set_cons_succ]
  clear hG hD hne l5 l6 e5 e6
  refine wp_list_docs (fun F hF => ?_)
  have HF := hid hF
  clear hF
  refine doc_skip rfl (store_row_op (xs := rowL fun _ => false) (ys := rowL (bt x)) _ _ _ _ _ _ _ _ _ (row_size _) (by rw [rowL_length, rowL_length]) (rowL_one _) rfl rfl k5) ?_
  simp only [Act.put, List.setIfInBounds_toArray, List.set_cons_zero, List.set_cons_succ]
  refine doc_skip rfl (store_row_op (xs := rowL fun _ => false) (ys := rowL (bt y)) _ _ _ _ _ _ _ _ _ (row_size _) (by rw [rowL_length, rowL_length]) (rowL_one _) rfl rfl (k6.farRow hb56 _)) ?_
  simp only [Act.put, List.setIfInBounds_toArray, List.set_cons_zero, List.set_cons_succ]
  refine doc_end (HF.out _ _ ?_)
  clear HF F
  go_upto_region 2 with (fail)
  refine wp_gen (fun U hU => ?_)
  have hbU : Below w.heap.size w U := by
    rw [hU]; exact Below.setRow (Below.setRow (Below.ext_mk hbV hbV.size _ _) (by omega) _) (by omega) _
  have bU : Blk U b5 57 (rowL (mix 0 (andF x y) (bt x))) := by rw [hU, mix_zero]; exact (k5.row _).farRow (fun e => hb56 e.symm) _
  have bU2 : Blk U b6 57 (rowL (bt y)) := by rw [hU]; exact (k6.farRow hb56 _).row _
  have rU : Blk U (w.heap.size + 1 + 1) 24 [.int .u64 0, .int .u64 0] := by
    rw [hU]; exact ((br.ext m d).farRow (by omega) _).farRow (by omega) _
  have hB : w.heap.size ≤ b5 := by have := hbV.size; omega
  have hR5 : w.heap.size + 1 + 1 ≠ b5 := by omega
  clear hU hbV bx bY br c0 c1 d0 d1 zr zx zy k5 k6 l5' l6'
  go_wp2
  go_loopw [7] (fun i wr => RowRel w b5 (w.heap.size + 1 + 1) (andF x y) (bt x) i wr ∧ Blk wr b6 57 (rowL (bt y))) (fun i _ => 128 - (intOf i).toNat)
  case atStart => exact ⟨⟨0, by omega, rfl, bU, rU, hbU, hB, by omega, hR5⟩, bU2⟩
  case round =>
    obtain ⟨⟨j, hj, rfl, b3, b2, hbel, h5, h6, h7⟩, b4⟩ := hrel
    by_cases hlt : j < 128
    · have hj1 : (j : Int) < 128 := by omega
      have hj0 : (0 : Int) ≤ (j : Int) := by omega
      have c := b3.cell j
      rw [rowL_at _ hlt, mix_at] at c
      have c' := b4.cell j
      rw [rowL_at _ hlt] at c'
      have f := b3.free j
      have z := b3.lt
      have z' := b4.lt
      have HN := hid (mix_next (andF x y) (bt x) hlt)
      have HV : Hid (andF x y j = (bt x j && bt y j)) := hid rfl
      cases hb : bt x j <;> cases hb2 : bt y j
      all_goals
        rw [hb] at c HV
        rw [hb2] at c' HV
        clear hb hb2
        go_wp2
        go_roundw
        case rel =>
          refine ⟨⟨j + 1, by omega, by go_num, ?_, ?_, ?_, h5, h6, h7⟩, ?_⟩
          · rw [← HN.out, HV.out]
            exact b3.set_ j _
          · exact b2.far (fun e => h7 e.symm) _ _
          · exact hbel.setCell h5 _
          · exact b4.far hb56 _ _
        case measure => simp [intOf]; omega
    · have e : j = 128 := by omega
      subst e
      rw [mix_end] at b3
      go_upto_region 6 with (fail)
      obtain ⟨N, hN⟩ : ∃ N, N = nOf ((andF x y)) := ⟨_, rfl⟩
      have rN := rnum_any ((andF x y))
      rw [← hN] at rN
      have HN := hid hN
      clear hN
      refine wp_region_doc (fun F hF => ?_)
      have HF := hid hF
      clear hF
      refine doc_val rfl (load_row_op _ _ _ _ _ _ _ _ row_arr (row_size _) rfl b3) ?_
      simp only [Act.put, List.setIfInBounds_toArray, List.set_cons_zero, List.set_cons_succ]
      refine doc_call rfl (by first | (go_simp; done) | (go_simp; exact ⟨rfl, rfl⟩) | (go_simp; with_reducible rfl)) ((rN _).mono ?_)
      rintro e w9 ⟨rfl, m9, d9, rfl⟩
      refine ⟨_, rfl, ?_⟩
      simp only [Act.put, List.setIfInBounds_toArray, List.set_cons_zero, List.set_cons_succ]
      refine doc_skip rfl (store_num_op _ _ _ _ _ _ _ _ rfl rfl (b2.ext _ _)) ?_
      simp only [Act.put, List.setIfInBounds_toArray, List.set_cons_zero, List.set_cons_succ]
      refine doc_end (HF.out _ _ ?_)
      clear HF F
      have b2' := (b2.ext m9 d9).row [.int .u64 (hi N), .int .u64 (lo N)]
      go_wp2
      exact bodyPost_ret (num_result rfl rfl b2') rfl ⟨by rw [HN.out], Below.to_ext (Below.setRow (Below.ext_mk hbel hbel.size _ _) (by omega) _)⟩

def xorF (x y : BitVec 128) : Nat → Bool := fun i => bt x i != bt y i
set_option maxRecDepth 100000 in
theorem rxor_any (x y : BitVec 128) (w : World) : Calls Try.prog 48 #[nv x, nv y] w (Pure (nv (nOf (xorF x y))) w) := by
  have hz := (zero_of_info (P := Try.prog) row_info).1
  go_enter Try.func48, Try.ntmps48
  go_upto_region 1 with (fail)
  refine wp_gen (fun V hV => ?_)
  have hbV : Below w.heap.size w V := by rw [hV]; (repeat' (first | (with_reducible exact Below.refl _ _) | (with_reducible refine Below.ext_mk ?_ ?_ _ _) | (with_reducible refine Below.alloc ?_ ?_ _) | (with_reducible refine Below.drew ?_) | (with_reducible refine Below.setCell ?_ ?_ _) | go_size))
  have bx : Blk V w.heap.size 24 [.int .u64 (hi x), .int .u64 (lo x)] := by
    rw [hV]; exact ((Blk.new w 24 [.int .u64 (hi x), .int .u64 (lo x)]).below (Below.alloc (Below.refl _ _) (Nat.le_refl _) _)).below (Below.alloc (Below.refl _ _) (Nat.le_refl _) _)
  have bY : Blk V (w.heap.size + 1) 24 [.int .u64 (hi y), .int .u64 (lo y)] := by
    rw [hV]
    have h := (Blk.new (w.alloc (.cells #[.int .u64 (hi x), .int .u64 (lo x)] 24)) 24 [.int .u64 (hi y), .int .u64 (lo y)]).below (Below.alloc (Below.refl _ _) (Nat.le_refl _) (.cells #[.int .u64 0, .int .u64 0] 24))
    simpa using h
  have br : Blk V (w.heap.size + 1 + 1) 24 [.int .u64 0, .int .u64 0] := by
    rw [hV]
    have h := Blk.new ((w.alloc (.cells #[.int .u64 (hi x), .int .u64 (lo x)] 24)).alloc (.cells #[.int .u64 (hi y), .int .u64 (lo y)] 24)) 24 [.int .u64 0, .int .u64 0]
    simpa using h
  clear hV
  have c0 := bx.cell 0
  have c1 := bx.cell 1
  have d0 := bY.cell 0
  have d1 := bY.cell 1
  simp only [List.getElem?_cons_zero, List.getElem?_cons_succ] at c0 c1 d0 d1
  have zr := br.lt
  have zx := bx.lt
  have zy := bY.lt
  refine wp_region_makes 6 [4, 5] (fun _ v w => ∃ b, v = .pointer (some ⟨b, 0, none⟩) ∧ Blk w b 57 (rowL fun _ => false)) (by kernel_rfl) (by kernel_rfl) (by kernel_rfl) (by kernel_rfl) (by kernel_rfl) (by kernel_rfl) (by kernel_rfl)
    (fun _ v w m d ⟨b, h1, h2⟩ => ⟨b, h1, h2.ext m d⟩) (fun F hF => ?_)
  simp only [List.take_succ_cons, List.take_zero, List.drop_succ_cons, List.drop_zero] at hF ⊢
  have HF := hid hF
  clear hF
  repeat (first
    | (apply tm_val; (focus rfl); (focus rfl); (focus (intro _ _; go_simp; with_reducible rfl)); simp only [Act.put, List.setIfInBounds_toArray, List.set_cons_zero, List.set_cons_succ])
    | (apply tm_call; (focus rfl); (focus rfl); (focus (intro _ _; go_simp; exact ⟨rfl, rfl⟩)); (focus (intro _ _; with_reducible (exact rbits_any _ _))); simp only [Act.put, List.setIfInBounds_toArray, List.set_cons_zero, List.set_cons_succ])
    | (apply tm_make; (focus rfl); (focus rfl); (focus (exact (fun m d => ⟨_, _, (by first | (go_simp; done) | (go_simp; exact ⟨rfl, rfl⟩) | (go_simp; with_reducible rfl)), Below.to_ext (Below.alloc (Below.refl _ _) (Nat.le_refl _) _), ⟨_, rfl, by have h := Blk.new (V.ext m d) 57 (rowL fun _ => false); rw [World.size_ext] at h; exact h⟩, by simp [blkOf], by simp [blkOf]⟩)))))
  refine tm_nil (HF.out _ (fun us m d hG hD => ?_))
  clear HF F
  obtain ⟨⟨b5, e5, k5⟩, l5⟩ := hG 4 (by simp)
  obtain ⟨⟨b6, e6, k6⟩, l6⟩ := hG 5 (by simp)
  have hne := hD 4 (by simp) 5 (by simp) (by omega)
  have hb56 : b5 ≠ b6 := by rw [e5, e6] at hne; simpa [blkOf] using hne
  have l5' : V.heap.size ≤ b5 := by rw [e5] at l5; simpa [blkOf] using l5
  have l6' : V.heap.size ≤ b6 := by rw [e6] at l6; simpa [blkOf] using l6
  simp only [setAll, List.getElem?_toArray, List.getElem?_cons_succ, List.getElem?_cons_zero, Option.bind_some, e5, e6]
  simp only [Act.put, List.setIfInBounds_toArray, List.set_cons_zero, List.set_cons_succ]
  clear hG hD hne l5 l6 e5 e6
  refine wp_list_docs (fun F hF => ?_)
  have HF := hid hF
  clear hF
  refine doc_skip rfl (store_row_op (xs := rowL fun _ => false) (ys := rowL (bt x)) _ _ _ _ _ _ _ _ _ (row_size _) (by rw [rowL_length, rowL_length]) (rowL_one _) rfl rfl k5) ?_
  simp only [Act.put, List.setIfInBounds_toArray, List.set_cons_zero, List.set_cons_succ]
  refine doc_skip rfl (store_row_op (xs := rowL fun _ => false) (ys := rowL (bt y)) _ _ _ _ _ _ _ _ _ (row_size _) (by rw [rowL_length, rowL_length]) (rowL_one _) rfl rfl (k6.farRow hb56 _)) ?_
  simp only [Act.put, List.setIfInBounds_toArray, List.set_cons_zero, List.set_cons_succ]
  refine doc_end (HF.out _ _ ?_)
  clear HF F
  go_upto_region 2 with (fail)
  refine wp_gen (fun U hU => ?_)
  have hbU : Below w.heap.size w U := by
    rw [hU]; exact Below.setRow (Below.setRow (Below.ext_mk hbV hbV.size _ _) (by omega) _) (by omega) _
  have bU : Blk U b5 57 (rowL (mix 0 (xorF x y) (bt x))) := by rw [hU, mix_zero]; exact (k5.row _).farRow (fun e => hb56 e.symm) _
  have bU2 : Blk U b6 57 (rowL (bt y)) := by rw [hU]; exact (k6.farRow hb56 _).row _
  have rU : Blk U (w.heap.size + 1 + 1) 24 [.int .u64 0, .int .u64 0] := by
    rw [hU]; exact ((br.ext m d).farRow (by omega) _).farRow (by omega) _
  have hB : w.heap.size ≤ b5 := by have := hbV.size; omega
  have hR5 : w.heap.size + 1 + 1 ≠ b5 := by omega
  clear hU hbV bx bY br c0 c1 d0 d1 zr zx zy k5 k6 l5' l6'
  go_wp2
  go_loopw [7] (fun i wr => RowRel w b5 (w.heap.size + 1 + 1) (xorF x y) (bt x) i wr ∧ Blk wr b6 57 (rowL (bt y))) (fun i _ => 128 - (intOf i).toNat)
  case atStart => exact ⟨⟨0, by omega, rfl, bU, rU, hbU, hB, by omega, hR5⟩, bU2⟩
  case round =>
    obtain ⟨⟨j, hj, rfl, b3, b2, hbel, h5, h6, h7⟩, b4⟩ := hrel
    by_cases hlt : j < 128
    · have hj1 : (j : Int) < 128 := by omega
      have hj0 : (0 : Int) ≤ (j : Int) := by omega
      have c := b3.cell j
      rw [rowL_at _ hlt, mix_at] at c
      have c' := b4.cell j
      rw [rowL_at _ hlt] at c'
      have f := b3.free j
      have z := b3.lt
      have z' := b4.lt
      have HN := hid (mix_next (xorF x y) (bt x) hlt)
      have HV : Hid (xorF x y j = (bt x j != bt y j)) := hid rfl
      cases hb : bt x j <;> cases hb2 : bt y j
      all_goals
        rw [hb] at c HV
        rw [hb2] at c' HV
        clear hb hb2
        go_upto_region 5 with (fail)
        refine wp_region_store 9 (by kernel_rfl) (by kernel_rfl) (by kernel_rfl) rfl (fun F hF G hG => ?_)
        simp only [List.take_succ_cons, List.take_zero, List.drop_succ_cons, List.drop_zero] at hG ⊢
        have HF := hid hF; clear hF
        have HG := hid hG; clear hG
        repeat (first
          | (apply text_skip; (focus rfl); simp only [Act.put, List.setIfInBounds_toArray, List.set_cons_zero, List.set_cons_succ])
          | (apply text_val; (focus rfl); (focus (intro _ _; go_simp; with_reducible rfl)); simp only [Act.put, List.setIfInBounds_toArray, List.set_cons_zero, List.set_cons_succ])
          | (apply text_if; (focus (first | exact wanted_t rfl rfl | exact wanted_f rfl rfl | exact wanted_gt rfl rfl | exact wanted_gf rfl rfl)); (focus (intro hc _ _; (try simp only [Bool.and_eq_true, Bool.not_eq_true', Bool.true_and] at hc); go_simp; with_reducible rfl)); simp only [Act.put, List.setIfInBounds_toArray, List.set_cons_zero, List.set_cons_succ]))
        refine text_nil (HG.out _ ?_)
        clear HG G
        apply store_step; (focus rfl); (focus (intro _ _; apply Exists.intro; apply Exists.intro; go_simp; with_reducible rfl))
        try simp only [Act.put, List.setIfInBounds_toArray, List.set_cons_zero, List.set_cons_succ]
        repeat (apply both_val; (focus rfl); (focus (intro _; go_simp; with_reducible rfl)); simp only [Act.put, List.setIfInBounds_toArray, List.set_cons_zero, List.set_cons_succ])
        refine both_nil (HF.out _ _ (fun mx dx => ?_))
        clear HF F
        go_wp2
        go_roundw
        case rel =>
          refine ⟨⟨j + 1, by omega, by go_num, ?_, ?_, ?_, h5, h6, h7⟩, ?_⟩
          · rw [← HN.out, HV.out]
            exact (b3.set_ j _).ext _ _
          · exact (b2.far (fun e => h7 e.symm) _ _).ext _ _
          · exact Below.ext_mk (hbel.setCell h5 _) (by simp; exact hbel.size) _ _
          · exact (b4.far hb56 _ _).ext _ _
        case measure => simp [intOf]; omega
    · have e : j = 128 := by omega
      subst e
      rw [mix_end] at b3
      go_upto_region 6 with (fail)
      obtain ⟨N, hN⟩ : ∃ N, N = nOf ((xorF x y)) := ⟨_, rfl⟩
      have rN := rnum_any ((xorF x y))
      rw [← hN] at rN
      have HN := hid hN
      clear hN
      refine wp_region_doc (fun F hF => ?_)
      have HF := hid hF
      clear hF
      refine doc_val rfl (load_row_op _ _ _ _ _ _ _ _ row_arr (row_size _) rfl b3) ?_
      simp only [Act.put, List.setIfInBounds_toArray, List.set_cons_zero, List.set_cons_succ]
      refine doc_call rfl (by first | (go_simp; done) | (go_simp; exact ⟨rfl, rfl⟩) | (go_simp; with_reducible rfl)) ((rN _).mono ?_)
      rintro e w9 ⟨rfl, m9, d9, rfl⟩
      refine ⟨_, rfl, ?_⟩
      simp only [Act.put, List.setIfInBounds_toArray, List.set_cons_zero, List.set_cons_succ]
      refine doc_skip rfl (store_num_op _ _ _ _ _ _ _ _ rfl rfl (b2.ext _ _)) ?_
      simp only [Act.put, List.setIfInBounds_toArray, List.set_cons_zero, List.set_cons_succ]
      refine doc_end (HF.out _ _ ?_)
      clear HF F
      have b2' := (b2.ext m9 d9).row [.int .u64 (hi N), .int .u64 (lo N)]
      go_wp2
      exact bodyPost_ret (num_result rfl rfl b2') rfl ⟨by rw [HN.out], Below.to_ext (Below.setRow (Below.ext_mk hbel hbel.size _ _) (by omega) _)⟩

end Go.Proofs.Ytooadmagjpaieaa
