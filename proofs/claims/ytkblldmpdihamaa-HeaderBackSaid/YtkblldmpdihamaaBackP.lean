/-
  What is taken out and emitted is the same bytes, in plain Lean.
-/
import Derived.Test.YtkblldmpdihamaaOwnR
set_option linter.unusedVariables false
set_option linter.unusedSimpArgs false
namespace Go.Proofs.Ytkblldmpdihamaa
open Go.RowKit

/-- Bits of bytes, from bit a on. -/
def bitsFrom (l : List Nat) (a n : Nat) : List Bool := (List.range n).map fun i => decide (bitAt l (a + i) = 1)
theorem bitsFrom_add (l : List Nat) (a m n : Nat) : bitsFrom l a (m + n) = bitsFrom l a m ++ bitsFrom l (a + m) n := by
  unfold bitsFrom
  rw [List.range_add, List.map_append, List.map_map]
  congr 1
  apply List.map_congr_left
  intro i _
  simp only [Function.comp]
  rw [Nat.add_assoc]
theorem bitAt_drop (l : List Nat) (k t : Nat) : bitAt (l.drop k) t = bitAt l (8 * k + t) := by
  unfold bitAt
  rw [show (8 * k + t) / 8 = k + t / 8 by omega, show (8 * k + t) % 8 = t % 8 by omega, List.getD_eq_getElem?_getD, List.getD_eq_getElem?_getD, List.getElem?_drop]
theorem bitsFrom_drop (l : List Nat) (k n : Nat) : bitsFrom (l.drop k) 0 n = bitsFrom l (8 * k) n := by
  unfold bitsFrom
  apply List.map_congr_left
  intro i _
  rw [bitAt_drop, Nat.zero_add]
theorem bt_or (x y : BitVec 128) (i : Nat) : bt (x ||| y) i = (bt x i || bt y i) := by unfold bt; exact BitVec.getLsbD_or
theorem bt_shl1 (x : BitVec 128) {i : Nat} (hi : i < 128) : bt (x <<< 1) i = (decide (1 ≤ i) && bt x (i - 1)) := by
  unfold bt
  rw [BitVec.getLsbD_shiftLeft]
  by_cases h : i < 1
  · have : ¬ 1 ≤ i := by omega
    simp [h, this]
  · have : 1 ≤ i := by omega
    simp [h, this, hi]
theorem bt_ofN (b : Nat) (hb : b ≤ 1) (i : Nat) : bt (ofN b) i = (decide (i = 0) && decide (b = 1)) := by
  unfold bt ofN
  rcases (show b = 0 ∨ b = 1 by omega) with rfl | rfl
  · simp
  · cases i with
    | zero => rfl
    | succ i => simp [BitVec.getLsbD, Nat.testBit_succ]
theorem bt_valN (l : List Nat) (a : Nat) : ∀ (n i : Nat), n ≤ 128 → i < 128 → bt (valN l a n) i = (decide (i < n) && decide (bitAt l (a + (n - 1 - i)) = 1))
  | 0, i, _, hi => by rw [valN, bt_zero]; simp
  | n + 1, i, hn, hi => by
    rw [valN, bt_or, bt_and, bt_mask 128 hi, bt_shl1 _ hi, bt_ofN _ (bitAt_le l _)]
    cases i with
    | zero => simp
    | succ i =>
      rw [show i + 1 - 1 = i by omega, bt_valN l a n i (by omega) (by omega)]
      have h1 : ((i + 1 : Nat) : Int) < 128 := by omega
      have h2 : n + 1 - 1 - (i + 1) = n - 1 - i := by omega
      rw [h2]
      simp only [h1, decide_true, Bool.and_true]
      have h3 : decide (i + 1 < n + 1) = decide (i < n) := by simp
      have h4 : decide (1 ≤ i + 1) = true := by simp
      have h5 : decide (i + 1 = 0) = false := by simp
      rw [h3, h4, h5]
      simp
theorem fits_valN (l : List Nat) (a n : Nat) (hn : n ≤ 128) : fits (valN l a n) (n : Int) = true := by
  unfold fits
  simp only [decide_eq_true_eq]
  apply bt_ext
  intro i hi
  rw [bt_and, bt_mask _ hi, bt_valN l a n i hn hi]
  by_cases h : i < n
  · have : ((i : Nat) : Int) < n := by omega
    simp [this]
  · simp [h]
theorem fits_zero (x : Int) : fits 0#128 x = true := by unfold fits; simp
theorem fits_cut (n : BitVec 128) (x : Int) : fits (n &&& maskOf x) x = true := by
  unfold fits
  rw [BitVec.and_assoc, BitVec.and_self]; simp
theorem fitsL_take (l : List Nat) : ∀ (ws : List Int) (a : Nat), (∀ x ∈ ws, 1 ≤ x ∧ x ≤ 128) → fitsL (takeN l a ws) ws true = true
  | [], _, _ => rfl
  | x :: r, a, h => by
    have hx := h x (List.mem_cons_self ..)
    rw [takeN, fitsL, fitsL_take l r _ (fun y hy => h y (List.mem_cons_of_mem _ hy))]
    have := fits_valN l a x.toNat (by omega)
    rw [show ((x.toNat : Nat) : Int) = x by omega] at this
    rw [this]; rfl
theorem fitsL_zeros (on : Bool) : ∀ (ws : List Int), fitsL (List.replicate ws.length 0#128) ws on = true
  | [] => rfl
  | x :: r => by
    rw [List.length_cons, List.replicate_succ, fitsL, fits_zero, fitsL_zeros on r]
    simp
theorem fitsL_set (n : BitVec 128) : ∀ (ns : List (BitVec 128)) (ws : List Int) (f : Nat) (x : Int), fitsL ns ws true = true → ws[f]? = some x → fitsL (ns.set f (n &&& maskOf x)) ws true = true
  | [], ws, f, x, h, hx => by simpa using h
  | m :: r, [], f, x, h, hx => by simp at hx
  | m :: r, y :: ws, 0, x, h, hx => by
    simp at hx; subst hx
    rw [fitsL] at h
    simp only [Bool.and_eq_true, Bool.true_or, true_and] at h
    rw [List.set_cons_zero, fitsL, fits_cut, h.2]; rfl
  | m :: r, y :: ws, f + 1, x, h, hx => by
    rw [fitsL] at h
    simp only [Bool.and_eq_true, Bool.true_or, true_and] at h
    rw [List.set_cons_succ, fitsL, h.1, fitsL_set n r ws f x h.2 (by simpa using hx)]; rfl
/-- The bits of a taken header's fields. -/
theorem bitsOne_take (l : List Nat) (ws : List Int) (h : ∀ x ∈ ws, 1 ≤ x ∧ x ≤ 128) {f : Nat} (hf : f < ws.length) :
    bitsOne (takeN l 0 ws) f ws[f] = bitsFrom l (ws.take f).sum.toNat ws[f].toNat := by
  have hp : ∀ x ∈ ws, 0 ≤ x := fun x hx => by have := h x hx; omega
  have hx := h ws[f] (List.getElem_mem _)
  have hat := takeN_at l ws 0 f hp hf
  rw [Nat.zero_add] at hat
  unfold bitsOne bitsFrom
  apply List.map_congr_left
  intro i hi
  simp only [List.mem_range] at hi
  rw [show decide (f < (takeN l 0 ws).length) = true by simp [takeN_length, hf], List.getD_eq_getElem?_getD, hat]
  simp only [Option.getD_some, Bool.true_and]
  unfold bitV
  rw [show (ws[f] - 1 - (i : Int)).toNat = ws[f].toNat - 1 - i by omega]
  have hb := bt_valN l (ws.take f).sum.toNat ws[f].toNat (ws[f].toNat - 1 - i) (by omega) (by omega)
  unfold bt at hb
  rw [hb]
  have h1 : (0 : Int) ≤ ws[f] - 1 - (i : Int) := by omega
  have h2 : ws[f] - 1 - (i : Int) < 128 := by omega
  have h3 : ws[f].toNat - 1 - i < ws[f].toNat := by omega
  rw [show ws[f].toNat - 1 - (ws[f].toNat - 1 - i) = i by omega, decide_eq_true h1, decide_eq_true h2, decide_eq_true h3]
  simp
theorem fbT_take (l : List Nat) (ws : List Int) (h : ∀ x ∈ ws, 1 ≤ x ∧ x ≤ 128) : ∀ f, f ≤ ws.length → fbT (takeN l 0 ws) ws f = bitsFrom l 0 (ws.take f).sum.toNat
  | 0, _ => rfl
  | f + 1, hf => by
    have hlt : f < ws.length := by omega
    have hp : ∀ x ∈ ws, 0 ≤ x := fun x hx => by have := h x hx; omega
    have s0 := sum_mono hp f
    have hx := h ws[f] (List.getElem_mem _)
    rw [fbT, fbT_take l ws h f (by omega), sum_snoc ws hlt, show ((ws.take f).sum + ws[f]).toNat = (ws.take f).sum.toNat + ws[f].toNat by omega, bitsFrom_add, Nat.zero_add,
      show ws.getD f 0 = ws[f] by simp [hlt], bitsOne_take l ws h hlt]
-- bytes out of bits
theorem layN_start (o : List Nat) (m : Nat) (b : Bool) (hm : m % 8 = 0) : layN o m b = o ++ [if b then 128 else 0] := by
  unfold layN
  cases b
  · simp [hm]
  · simp [hm]
theorem layN_on (o : List Nat) (y m : Nat) (b : Bool) (hm : m % 8 ≠ 0) : layN (o ++ [y]) m b = o ++ [if b then y ||| 2 ^ (7 - m % 8) else y] := by
  unfold layN
  cases b
  · simp [hm]
  · simp [hm]
def byteOf (f : Nat → Bool) : Nat := (List.range 8).foldl (fun y i => if f i then y ||| 2 ^ (7 - i) else y) 0
theorem byteOf_congr {f g : Nat → Bool} (h : ∀ i, i < 8 → f i = g i) : byteOf f = byteOf g := by
  unfold byteOf
  rw [show List.range 8 = [0, 1, 2, 3, 4, 5, 6, 7] from rfl]
  simp only [List.foldl_cons, List.foldl_nil, h 0 (by omega), h 1 (by omega), h 2 (by omega), h 3 (by omega), h 4 (by omega), h 5 (by omega), h 6 (by omega), h 7 (by omega)]
theorem byteOf_bits : ∀ x : Fin 256, byteOf (fun i => decide (x.val / 2 ^ (7 - i) % 2 = 1)) = x.val := by decide +kernel
theorem layAll_byte (o : List Nat) (m : Nat) (f : Nat → Bool) (hm : m % 8 = 0) : layAll (o, m) ((List.range 8).map f) = (o ++ [byteOf f], m + 8) := by
  have e : (List.range 8).map f = [f 0, f 1, f 2, f 3, f 4, f 5, f 6, f 7] := rfl
  rw [e]
  unfold layAll
  simp only [List.foldl_cons, List.foldl_nil]
  rw [layN_start o m _ hm, layN_on _ _ (m + 1) _ (by omega), layN_on _ _ (m + 1 + 1) _ (by omega), layN_on _ _ (m + 1 + 1 + 1) _ (by omega), layN_on _ _ (m + 1 + 1 + 1 + 1) _ (by omega),
    layN_on _ _ (m + 1 + 1 + 1 + 1 + 1) _ (by omega), layN_on _ _ (m + 1 + 1 + 1 + 1 + 1 + 1) _ (by omega), layN_on _ _ (m + 1 + 1 + 1 + 1 + 1 + 1 + 1) _ (by omega)]
  rw [show (m + 1) % 8 = 1 by omega, show (m + 1 + 1) % 8 = 2 by omega, show (m + 1 + 1 + 1) % 8 = 3 by omega, show (m + 1 + 1 + 1 + 1) % 8 = 4 by omega, show (m + 1 + 1 + 1 + 1 + 1) % 8 = 5 by omega, show (m + 1 + 1 + 1 + 1 + 1 + 1) % 8 = 6 by omega, show (m + 1 + 1 + 1 + 1 + 1 + 1 + 1) % 8 = 7 by omega]
  unfold byteOf
  rw [show List.range 8 = [0, 1, 2, 3, 4, 5, 6, 7] from rfl]
  simp only [List.foldl_cons, List.foldl_nil]
  cases f 0 <;> simp
theorem layAll_bytes (l : List Nat) (hl : ∀ x ∈ l, x < 256) : ∀ n, n ≤ l.length → layAll ([], 0) (bitsFrom l 0 (8 * n)) = (l.take n, 8 * n)
  | 0, _ => rfl
  | n + 1, hn => by
    rw [show 8 * (n + 1) = 8 * n + 8 by omega, bitsFrom_add, layAll_append, layAll_bytes l hl n (by omega), Nat.zero_add]
    unfold bitsFrom
    rw [layAll_byte _ _ _ (by omega)]
    have hx := hl l[n] (List.getElem_mem _)
    have hb := byteOf_bits ⟨l[n], hx⟩
    have e : byteOf (fun i => decide (bitAt l (8 * n + i) = 1)) = l[n] := by
      have hb' : byteOf (fun i => decide (l[n] / 2 ^ (7 - i) % 2 = 1)) = l[n] := hb
      refine Eq.trans (byteOf_congr fun i hi => ?_) hb'
      have hbit : bitAt l (8 * n + i) = l[n] / 2 ^ (7 - i) % 2 := by
        unfold bitAt
        rw [show (8 * n + i) / 8 = n by omega, show (8 * n + i) % 8 = i by omega]
        simp [show n < l.length by omega]
      rw [hbit]
    rw [e, List.take_succ_eq_append_getElem (by omega)]
end Go.Proofs.Ytkblldmpdihamaa
