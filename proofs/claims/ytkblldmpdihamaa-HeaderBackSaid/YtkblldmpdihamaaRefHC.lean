/-
  The document's comparison of a number with nought (quillonref01.Cmp).
-/
import Derived.Test.YtkblldmpdihamaaRefH
import Derived.Test.YtkblldmpdihamaaV2
set_option linter.unusedVariables false
set_option linter.unusedSimpArgs false
namespace Go.Proofs.Ytkblldmpdihamaa
open Go.RowKit

def cmp0 (a : BitVec 128) : Int := if a = 0#128 then 0 else 1
set_option maxRecDepth 100000 in
theorem rcmp0_any (x : BitVec 128) (w : World) : Calls Try.prog 31 #[nv x, nv 0#128] w (Pure (.int .i64 (cmp0 x)) w) := by
  have hz := (zero_of_info (P := Try.prog) row_info).1
  obtain ⟨y, hy⟩ : ∃ y, y = 0#128 := ⟨_, rfl⟩
  rw [← hy]
  have HY := hid hy
  clear hy
  go_enter Try.func31, Try.ntmps31
  go_upto_region 1 with (fail)
  refine wp_gen (fun V hV => ?_)
  have hbV : Below w.heap.size w V := by rw [hV]; (repeat' (first | (with_reducible exact Below.refl _ _) | (with_reducible refine Below.ext_mk ?_ ?_ _ _) | (with_reducible refine Below.alloc ?_ ?_ _) | (with_reducible refine Below.drew ?_) | (with_reducible refine Below.setCell ?_ ?_ _) | go_size))
  have bx : Blk V w.heap.size 45 [.int .u64 (hi x), .int .u64 (lo x)] := by
    rw [hV]; exact ((Blk.new w 45 [.int .u64 (hi x), .int .u64 (lo x)]).below (Below.alloc (Below.refl _ _) (Nat.le_refl _) _))
  have bY : Blk V (w.heap.size + 1) 45 [.int .u64 (hi y), .int .u64 (lo y)] := by
    rw [hV]
    have h := (Blk.new (w.alloc (.cells #[.int .u64 (hi x), .int .u64 (lo x)] 45)) 45 [.int .u64 (hi y), .int .u64 (lo y)])
    simpa using h
  clear hV
  have c0 := bx.cell 0
  have c1 := bx.cell 1
  have d0 := bY.cell 0
  have d1 := bY.cell 1
  simp only [List.getElem?_cons_zero, List.getElem?_cons_succ] at c0 c1 d0 d1
  have zx := bx.lt
  have zy := bY.lt
  refine wp_region_makes 6 [4, 5] (fun _ v w => ∃ b, v = .pointer (some ⟨b, 0, none⟩) ∧ Blk w b 86 (rowL fun _ => false)) (by kernel_rfl) (by kernel_rfl) (by kernel_rfl) (by kernel_rfl) (by kernel_rfl) (by kernel_rfl) (by kernel_rfl)
    (fun _ v w m d ⟨b, h1, h2⟩ => ⟨b, h1, h2.ext m d⟩) (fun F hF => ?_)
  simp only [List.take_succ_cons, List.take_zero, List.drop_succ_cons, List.drop_zero] at hF ⊢
  have HF := hid hF
  clear hF
  repeat (first
    | (apply tm_val; (focus rfl); (focus rfl); (focus (intro _ _; go_simp; with_reducible rfl)); simp only [Act.put, List.setIfInBounds_toArray, List.set_cons_zero, List.set_cons_succ])
    | (apply tm_call; (focus rfl); (focus rfl); (focus (intro _ _; go_simp; exact ⟨rfl, rfl⟩)); (focus (intro _ _; with_reducible (exact rbits_any _ _))); simp only [Act.put, List.setIfInBounds_toArray, List.set_cons_zero, List.set_cons_succ])
    | (apply tm_make; (focus rfl); (focus rfl); (focus (exact (fun m d => ⟨_, _, (by first | (go_simp; done) | (go_simp; exact ⟨rfl, rfl⟩) | (go_simp; with_reducible rfl)), Below.to_ext (Below.alloc (Below.refl _ _) (Nat.le_refl _) _), ⟨_, rfl, by have h := Blk.new (V.ext m d) 86 (rowL fun _ => false); rw [World.size_ext] at h; exact h⟩, by simp [blkOf], by simp [blkOf]⟩)))))
  refine tm_nil (HF.out _ (fun us m d hG hD => ?_))
  clear HF F
  obtain ⟨⟨b5, e5, k5⟩, l5⟩ := hG 4 (by simp)
  obtain ⟨⟨b6, e6, k6⟩, l6⟩ := hG 5 (by simp)
  have hne := hD 4 (by simp) 5 (by simp) (by omega)
  have hb56 : b5 ≠ b6 := by rw [e5, e6] at hne; simpa [blkOf] using hne
  have l5' : V.heap.size ≤ b5 := by rw [e5] at l5; simpa [blkOf] using l5
  have l6' : V.heap.size ≤ b6 := by rw [e6] at l6; simpa [blkOf] using l6
  simp only [setAll, List.getElem?_toArray, List.getElem?_cons_succ, List.getElem?_cons_zero, Option.bind_some, e5, e6]
  simp only [Act.put, List.setIfInBounds_toArray, List.set_cons_zero, List.set_cons_succ]
  clear hG hD hne l5 l6 e5 e6
  refine wp_list_docs (fun F hF => ?_)
  have HF := hid hF
  clear hF
  refine doc_skip rfl (store_row_op (xs := rowL fun _ => false) (ys := rowL (bt x)) _ _ _ _ _ _ _ _ _ (row_size _) (by rw [rowL_length, rowL_length]) (rowL_one _) rfl rfl k5) ?_
  simp only [Act.put, List.setIfInBounds_toArray, List.set_cons_zero, List.set_cons_succ]
  refine doc_skip rfl (store_row_op (xs := rowL fun _ => false) (ys := rowL (bt y)) _ _ _ _ _ _ _ _ _ (row_size _) (by rw [rowL_length, rowL_length]) (rowL_one _) rfl rfl (k6.farRow hb56 _)) ?_
  simp only [Act.put, List.setIfInBounds_toArray, List.set_cons_zero, List.set_cons_succ]
  refine doc_end (HF.out _ _ ?_)
  clear HF F
  go_upto_region 2 with (fail)
  refine wp_gen (fun U hU => ?_)
  have hbU : Below w.heap.size w U := by
    rw [hU]; exact Below.setRow (Below.setRow (Below.ext_mk hbV hbV.size _ _) (by omega) _) (by omega) _
  have bU : Blk U b5 86 (rowL (bt x)) := by rw [hU]; exact (k5.row _).farRow (fun e => hb56 e.symm) _
  have bU2 : Blk U b6 86 (rowL (bt y)) := by rw [hU]; exact (k6.farRow hb56 _).row _
  clear hU hbV bx bY c0 c1 d0 d1 zx zy k5 k6 l5' l6'
  go_wp2_with fail
  go_loopw [7] (fun i wr => ∃ m : Nat, m ≤ 128 ∧ i = .int .i64 ((m : Int) - 1) ∧ wr = U ∧ ∀ k, m ≤ k → k < 128 → bt x k = false) (fun i _ => (intOf i + 1).toNat)
  case atStart => exact ⟨128, by omega, rfl, rfl, fun k h1 h2 => by omega⟩
  case round =>
    obtain ⟨m, hm, rfl, rfl, hno⟩ := hrel
    have HNO := hid hno
    clear hno
    cases m with
    | zero =>
      have HE : Hid (cmp0 x = 0) := hid (if_pos (bt_ext fun i hi => by rw [HNO.out i (by omega) hi, bt_zero]))
      go_wp2_with fail
      go_returns
      exact Pure.of (by rw [HE.out]; rfl) hbU
    | succ j =>
      have hj : j < 128 := by omega
      have hj1 : (j : Int) < 128 := by omega
      have hj0 : (0 : Int) ≤ (j : Int) := by omega
      rw [show ((j + 1 : Nat) : Int) - 1 = (j : Int) by omega]
      have c := bU.cell j
      rw [rowL_at _ hj] at c
      have c' := bU2.cell j
      rw [rowL_at _ hj, HY.out, bt_zero] at c'
      have z := bU.lt
      have z' := bU2.lt
      cases hb : bt x j
      · rw [hb] at c
        have HB := hid hb
        clear hb
        go_wp2_with fail
        go_roundw
        case rel =>
          refine ⟨j, by omega, by go_num, by trivial, fun k h1 h2 => ?_⟩
          rcases Nat.eq_or_lt_of_le h1 with e | e
          · rw [← e]; exact HB.out
          · exact HNO.out k e h2
        case measure => first | (simp [intOf]; done) | (simp [intOf]; omega)
      · rw [hb] at c
        have HE : Hid (cmp0 x = 1) := hid (if_neg (fun e => by rw [e, bt_zero] at hb; cases hb))
        clear hb
        go_wp2_with fail
        go_returns
        exact Pure.of (by rw [HE.out]; rfl) hbU
end Go.Proofs.Ytkblldmpdihamaa
