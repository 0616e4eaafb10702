/-
  The document's numbers (quillonref01): masks, and, xor, bits.
-/
import Derived.Test.YtooadmagjpaieaaRefN
set_option linter.unusedVariables false
set_option linter.unusedSimpArgs false
namespace Go.Proofs.Ytooadmagjpaieaa
open Go.RowKit

def maskF (k : Int) : Nat → Bool := fun i => decide ((i : Int) < k)
set_option maxRecDepth 100000 in
theorem rmask_any (k : Int) (w : World) : Calls Try.prog 35 #[.int .i64 k] w (Pure (nv (nOf (maskF k))) w) := by
  have hz := (zero_of_info (P := Try.prog) row_info).1
  go_enter Try.func35, Try.ntmps35
  go_wp2
  go_loopw [4] (fun i wr => RowRel w (w.heap.size + 1) w.heap.size (maskF k) (fun _ => false) i wr) (fun i _ => 128 - (intOf i).toNat)
  case atStart =>
    refine ⟨0, by omega, rfl, ?_, ?_, by (repeat' (first | (with_reducible exact Below.refl _ _) | (with_reducible refine Below.ext_mk ?_ ?_ _ _) | (with_reducible refine Below.alloc ?_ ?_ _) | (with_reducible refine Below.drew ?_) | (with_reducible refine Below.setCell ?_ ?_ _) | go_size)), by omega, by omega, by omega⟩
    · rw [mix_zero]
      have h := Blk.new (w.alloc (.cells #[.int .u64 0, .int .u64 0] 24)) 57 (rowL fun _ => false)
      simpa using h
    · exact (Blk.new w 24 [.int .u64 0, .int .u64 0]).below (Below.alloc (Below.refl _ _) (Nat.le_refl _) _)
  case round =>
    obtain ⟨j, hj, rfl, b3, b2, hbel, h5, h6, h7⟩ := hrel
    by_cases hlt : j < 128
    · have hj1 : (j : Int) < 128 := by omega
      have hj0 : (0 : Int) ≤ (j : Int) := by omega
      have c := b3.cell j
      rw [rowL_at _ hlt, mix_at] at c
      have f := b3.free j
      have z := b3.lt
      have HN := hid (mix_next (maskF k) (fun _ => false) hlt)
      go_wp2
      go_roundw
      case rel =>
        refine ⟨j + 1, by omega, by go_num, ?_, ?_, ?_, h5, h6, h7⟩
        · rw [← HN.out]
          exact b3.set_ j _
        · exact b2.far (fun e => h7 e.symm) _ _
        · exact hbel.setCell h5 _
      case measure => simp [intOf]; omega
    · have e : j = 128 := by omega
      subst e
      rw [mix_end] at b3
      go_upto_region 6 with (fail)
      obtain ⟨N, hN⟩ : ∃ N, N = nOf ((maskF k)) := ⟨_, rfl⟩
      have rN := rnum_any ((maskF k))
      rw [← hN] at rN
      have HN := hid hN
      clear hN
      refine wp_region_doc (fun F hF => ?_)
      have HF := hid hF
      clear hF
      refine doc_val rfl (load_row_op _ _ _ _ _ _ _ _ row_arr (row_size _) rfl b3) ?_
      simp only [Act.put, List.setIfInBounds_toArray, List.set_cons_zero, List.set_cons_succ]
      refine doc_call rfl (by first | (go_simp; done) | (go_simp; exact ⟨rfl, rfl⟩) | (go_simp; with_reducible rfl)) ((rN _).mono ?_)
      rintro e w9 ⟨rfl, m9, d9, rfl⟩
      refine ⟨_, rfl, ?_⟩
      simp only [Act.put, List.setIfInBounds_toArray, List.set_cons_zero, List.set_cons_succ]
      refine doc_skip rfl (store_num_op _ _ _ _ _ _ _ _ rfl rfl (b2.ext _ _)) ?_
      simp only [Act.put, List.setIfInBounds_toArray, List.set_cons_zero, List.set_cons_succ]
      refine doc_end (HF.out _ _ ?_)
      clear HF F
      have b2' := (b2.ext m9 d9).row [.int .u64 (hi N), .int .u64 (lo N)]
      go_wp2
      exact bodyPost_ret (num_result rfl rfl b2') rfl ⟨by rw [HN.out], Below.to_ext (Below.setRow (Below.ext_mk hbel hbel.size _ _) (by omega) _)⟩

/-- Bit of any number. -/
def rbit (n : BitVec 128) (i : Int) : Bool := decide (0 ≤ i) && bt n i.toNat
theorem rbit_any (n : BitVec 128) (i : Int) (w : World) : Calls Try.prog 33 #[nv n, .int .i64 i] w (Pure (.bool (rbit n i)) w) := by
  have hz := (zero_of_info (P := Try.prog) row_info).1
  go_enter Try.func33, Try.ntmps33
  go_upto_region 1 with (fail)
  refine wp_gen (fun V hV => ?_)
  have hbV : Below w.heap.size w V := by rw [hV]; (repeat' (first | (with_reducible exact Below.refl _ _) | (with_reducible refine Below.ext_mk ?_ ?_ _ _) | (with_reducible refine Below.alloc ?_ ?_ _) | (with_reducible refine Below.drew ?_) | (with_reducible refine Below.setCell ?_ ?_ _) | go_size))
  have bn : Blk V w.heap.size 24 [.int .u64 (hi n), .int .u64 (lo n)] := by rw [hV]; exact Blk.new w 24 [.int .u64 (hi n), .int .u64 (lo n)]
  clear hV
  have c0 := bn.cell 0
  have c1 := bn.cell 1
  simp only [List.getElem?_cons_zero, List.getElem?_cons_succ] at c0 c1
  have zr := bn.lt
  refine wp_region_doc (fun F hF => ?_)
  have HF := hid hF
  clear hF
  refine doc_val rfl (by first | (go_simp; done) | (go_simp; exact ⟨rfl, rfl⟩) | (go_simp; with_reducible rfl)) ?_
  simp only [Act.put, List.setIfInBounds_toArray, List.set_cons_zero, List.set_cons_succ]
  refine doc_call rfl (by first | (go_simp; done) | (go_simp; exact ⟨rfl, rfl⟩) | (go_simp; with_reducible rfl)) ((rbits_any n _).mono ?_)
  rintro e w1 ⟨rfl, m1, d1, rfl⟩
  refine ⟨_, rfl, ?_⟩
  simp only [Act.put, List.setIfInBounds_toArray, List.set_cons_zero, List.set_cons_succ]
  refine doc_val rfl (by first | (go_simp; done) | (go_simp; exact ⟨rfl, rfl⟩) | (go_simp; with_reducible rfl)) ?_
  simp only [Act.put, List.setIfInBounds_toArray, List.set_cons_zero, List.set_cons_succ]
  refine doc_skip rfl (store_row_op (xs := rowL fun _ => false) (ys := rowL (bt n)) _ _ _ _ _ _ _ _ _ (row_size _) (by rw [rowL_length, rowL_length]) (rowL_one _) rfl rfl (by have h := Blk.new (V.ext m1 d1) 57 (rowL fun _ => false); rw [World.size_ext] at h; exact h)) ?_
  simp only [Act.put, List.setIfInBounds_toArray, List.set_cons_zero, List.set_cons_succ]
  refine doc_end (HF.out _ _ ?_)
  clear HF F
  go_upto_region 2 with (fail)
  refine wp_gen (fun U hU => ?_)
  have hbU : Below w.heap.size w U := by
    rw [hU]; exact Below.setRow (Below.alloc (Below.ext_mk hbV hbV.size _ _) (by simp; omega) _) (by omega) _
  have bU : Blk U (V.heap.size + m1.size) 57 (rowL (bt n)) := by
    rw [hU]
    have h := Blk.new (V.ext m1 d1) 57 (rowL fun _ => false)
    rw [World.size_ext] at h
    exact h.row _
  generalize V.heap.size + m1.size = B at *
  clear hU hbV bn c0 c1 zr
  have zb := bU.lt
  by_cases h0 : 0 ≤ i
  · by_cases h1 : i < 128
    · obtain ⟨k, rfl⟩ : ∃ k : Nat, i = (k : Int) := ⟨i.toNat, by omega⟩
      have c := bU.cell k
      rw [rowL_at _ (by omega)] at c
      have HB : Hid (rbit n (k : Int) = bt n k) := hid (by unfold rbit; simp)
      generalize bt n k = b at *
      go_wp2
      go_returns
      exact Pure.of (by rw [HB.out]; rfl) hbU
    · have HB : Hid (rbit n i = false) := hid (by unfold rbit; rw [bt_out n (by omega)]; simp)
      go_wp2
      go_returns
      exact Pure.of (by rw [HB.out]; rfl) hbU
  · have HB : Hid (rbit n i = false) := hid (by unfold rbit; simp [h0])
    go_wp2
    go_returns
    exact Pure.of (by rw [HB.out]; rfl) hbU

/-- A number cut to a width fits it if it is the same. -/
def rfits (n : BitVec 128) (k : Int) : Bool := decide (nOf (cutF n k) = n)
theorem rfits_gen (n N : BitVec 128) (k : Int) (C : ∀ w, Calls Try.prog 49 #[nv n, .int .i64 k] w (Pure (nv N) w)) (w : World) :
    Calls Try.prog 38 #[nv n, .int .i64 k] w (Pure (.bool (decide (N = n))) w) := by
  go_enter Try.func38, Try.ntmps38
  go_wp2
  refine wp_region_ext (by kernel_rfl) (by kernel_rfl) (fun F hF => ?_)
  have HF := hid hF; clear hF
  repeat (first
    | (apply text_skip; (focus rfl); simp only [Act.put, List.setIfInBounds_toArray, List.set_cons_zero, List.set_cons_succ])
    | (apply text_val; (focus rfl); (focus (intro _ _; go_simp; with_reducible rfl)); simp only [Act.put, List.setIfInBounds_toArray, List.set_cons_zero, List.set_cons_succ])
    | (apply text_call; (focus rfl); (focus (intro _ _; go_simp; exact ⟨rfl, rfl⟩)); (focus (intro _ _; with_reducible (exact C _))); simp only [Act.put, List.setIfInBounds_toArray, List.set_cons_zero, List.set_cons_succ])
    | (apply text_if; (focus (first | exact wanted_t rfl rfl | exact wanted_f rfl rfl | exact wanted_gt rfl rfl | exact wanted_gf rfl rfl)); (focus (intro hc _ _; (try simp only [Bool.and_eq_true, Bool.not_eq_true', Bool.true_and] at hc); go_simp; with_reducible rfl)); simp only [Act.put, List.setIfInBounds_toArray, List.set_cons_zero, List.set_cons_succ])
    | (apply text_if_call; (focus (first | exact wanted_t rfl rfl | exact wanted_f rfl rfl | exact wanted_gt rfl rfl | exact wanted_gf rfl rfl)); (focus (intro hc _ _; (try simp only [Bool.and_eq_true, Bool.not_eq_true', Bool.true_and] at hc); go_simp; exact ⟨rfl, rfl⟩)); (focus (intro hc _ _; with_reducible (exact C _))); simp only [Act.put, List.setIfInBounds_toArray, List.set_cons_zero, List.set_cons_succ]))
  refine text_nil (HF.out _ (fun mx dx => ?_))
  clear HF F
  go_wp2
  go_returns
  exact Pure.of rfl (by (repeat' (first | (with_reducible exact Below.refl _ _) | (with_reducible refine Below.ext_mk ?_ ?_ _ _) | (with_reducible refine Below.alloc ?_ ?_ _) | (with_reducible refine Below.drew ?_) | (with_reducible refine Below.setCell ?_ ?_ _) | go_size)))
theorem rfits_any (n : BitVec 128) (k : Int) (w : World) : Calls Try.prog 38 #[nv n, .int .i64 k] w (Pure (.bool (rfits n k)) w) := by
  unfold rfits
  exact rfits_gen n _ k (rcut_any n k) w
end Go.Proofs.Ytooadmagjpaieaa
