/-
  Package header: the next bit of a packet's bytes.
-/
import Derived.Test.YtkblldmpdihamaaHeadC
set_option linter.unusedVariables false
set_option linter.unusedSimpArgs false
namespace Go.Proofs.Ytkblldmpdihamaa
open Go.RowKit

/-- The bit of a row of bytes. -/
def bitAt (l : List Nat) (a : Nat) : Nat := (l.getD (a / 8) 0 / 2 ^ (7 - a % 8)) % 2
theorem bitAt_le (l : List Nat) (a : Nat) : bitAt l a ≤ 1 := by unfold bitAt; omega
theorem and_one_u8 (x : Nat) (h : x < 256) : bits BinOp.and .u8 (x : Int) 1 = ((x % 2 : Nat) : Int) := by
  have : ∀ x : Fin 256, bits BinOp.and .u8 ((x.val : Nat) : Int) 1 = ((x.val % 2 : Nat) : Int) := by decide +kernel
  exact this ⟨x, h⟩

set_option maxRecDepth 100000 in
set_option maxHeartbeats 4000000 in
theorem bit1_any {k : PK} {b i0 i1 : Nat} {w : World} {l : List Nat} {a : Nat} (B : Blk w b 39 k.cs) (R : RdS w 1 k.rest (byts l)) (hl : ∀ x ∈ l, x < 256)
    (I0 : i0 < w.heap.size ∧ w.cell? ⟨i0, 0, none⟩ = some (.pointer (some ⟨b, 0, none⟩))) (I1 : Blk w i1 3 [.int .i64 (a : Int)]) (ha : a / 8 < l.length) (ha1 : a ≤ 1000000) :
    Calls Try.prog 36 #[.pointer (some ⟨i0, 0, none⟩), .pointer (some ⟨i1, 0, none⟩)] w
      (fun e w' => e = .returned (.int .u64 (bitAt l a : Int)) ∧ ∃ m d, w' = (w.setCell ⟨i1, 0, none⟩ (.int .i64 ((a : Int) + 1))).ext m d) := by
  obtain ⟨q, hq⟩ : ∃ q, q = a / 8 := ⟨_, rfl⟩
  obtain ⟨r, hr⟩ : ∃ r, r = a % 8 := ⟨_, rfl⟩
  rw [← hq] at ha
  obtain ⟨x, hx⟩ : ∃ x, l[q]? = some x := ⟨l[q], by simp [ha]⟩
  obtain ⟨rb, ro, er, zr, hrl, cr⟩ := R.one (i := q) (u := .int .u8 (x : Int)) (by simp [byts, hx])
  have hx256 := hl x (List.mem_of_getElem? hx)
  have hq' : (a : Int) / 8 = (q : Int) := by omega
  have hr' : (a : Int) % 8 = (r : Int) := by omega
  have hr8 : r < 8 := by omega
  have hv : bitAt l a = (x / 2 ^ (7 - r)) % 2 := by unfold bitAt; rw [← hq, ← hr, List.getD_eq_getElem?_getD, hx]; rfl
  have c1 := B.cell 1
  simp only [List.getElem?_cons_zero, List.getElem?_cons_succ] at c1
  have zb := B.lt
  have z1 := I1.lt
  have g1 := I1.cell 0
  have f1 := I1.free 0
  simp only [List.getElem?_cons_zero] at g1
  obtain ⟨z0, g0⟩ := I0
  have a0 : (0 : Int) ≤ (a : Int) := by omega
  have a1 : (a : Int) ≤ 1000000 := by omega
  obtain ⟨port, ⟨ra, rn, rc⟩, valid, fields, metas, dr, se, eg, ac⟩ := k
  simp only [SL.v_mk] at er hrl c1
  subst er
  have q1 : (q : Int) < (rn : Int) := by omega
  have q0 : (0 : Int) ≤ (q : Int) := by omega
  have hwq : IntKind.i64.wrap (q : Int) = (q : Int) := IntWalk.i64_in _ (by omega)
  have hw : IntKind.i64.wrap ((a : Int) + 1) = (a : Int) + 1 := IntWalk.i64_in _ (by omega)
  clear hq hr hx hl B R ha I1
  obtain ⟨X, hX⟩ : ∃ X, X = x / 2 ^ (7 - r) := ⟨_, rfl⟩
  have hX256 : X < 256 := by rw [hX]; exact Nat.lt_of_le_of_lt (Nat.div_le_self _ _) hx256
  have hand := and_one_u8 X hX256
  rw [← hX] at hv
  have HV := hid hv
  clear hv
  have hXi : (X : Int) = (x : Int) / 2 ^ (7 - r) := by rw [hX]; simp
  have et : (a : Int).tmod 8 = (r : Int) := by rw [Int.tmod_eq_emod_of_nonneg a0]; exact hr'
  obtain ⟨s, hs⟩ : ∃ s : Nat, s = 7 - r := ⟨_, rfl⟩
  have hsub : IntKind.i64.wrap (7 - (r : Int)) = (s : Int) := by rw [IntWalk.i64_in _ (by omega)]; omega
  have s7 : s ≤ 7 := by omega
  rw [← hs] at hXi
  have hand2 : bits BinOp.and .u8 ((x : Int) / 2 ^ s) 1 = ((X % 2 : Nat) : Int) := by rw [← hXi]; exact hand
  have s0 : (0 : Int) ≤ (s : Int) := by omega
  have s1 : (s : Int) ≤ 7 := by omega
  obtain ⟨Y, hY⟩ : ∃ Y : Nat, Y = X % 2 := ⟨_, rfl⟩
  rw [← hY] at hand2 HV
  have hY1 : (Y : Int) ≤ 1 := by omega
  have hY0 : (0 : Int) ≤ (Y : Int) := by omega
  clear hr' hX hXi hand hs hr8 hX256 hY
  have hsn : ((s : Int)).toNat = s := by omega
  go_enter Try.func36, Try.ntmps36
  go_upto_region 1 with (fail)
  refine wp_region_ext (by kernel_rfl) (by kernel_rfl) (fun F hF => ?_)
  have HF := hid hF; clear hF
  repeat (first
    | (apply text_skip; (focus rfl); simp only [Act.put, List.setIfInBounds_toArray, List.set_cons_zero, List.set_cons_succ])
    | (apply text_val; (focus rfl); (focus (intro _ _; go_simp; with_reducible rfl)); simp only [Act.put, List.setIfInBounds_toArray, List.set_cons_zero, List.set_cons_succ])
    | (apply text_if; (focus (first | exact wanted_t rfl rfl | exact wanted_f rfl rfl | exact wanted_gt rfl rfl | exact wanted_gf rfl rfl)); (focus (intro hc _ _; (try simp only [Bool.and_eq_true, Bool.not_eq_true', Bool.true_and] at hc); go_simp; with_reducible rfl)); simp only [Act.put, List.setIfInBounds_toArray, List.set_cons_zero, List.set_cons_succ]))
  refine text_nil (HF.out _ (fun mx dx => ?_))
  clear HF F
  go_wp2
  go_returns
  exact ⟨by rw [HV.out]; rfl, _, _, rfl⟩
end Go.Proofs.Ytkblldmpdihamaa
