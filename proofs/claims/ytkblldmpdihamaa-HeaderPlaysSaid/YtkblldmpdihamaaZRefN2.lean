/-
  The document's numbers (quillonref01): rows of 128 truths.
-/
import Derived.Test.YtkblldmpdihamaaZArr
import Derived.Test.YtkblldmpdihamaaZNum
set_option linter.unusedVariables false
set_option linter.unusedSimpArgs false
namespace Go.Proofs.Ytkblldmpdihamaa
open Go.RowKit

/-- A row of 128 truths, as cells. -/
def rowL (f : Nat → Bool) : List Value := (List.range 128).map fun i => .bool (f i)
theorem rowL_length (f : Nat → Bool) : (rowL f).length = 128 := by simp [rowL]
theorem rowL_at (f : Nat → Bool) {i : Nat} (h : i < 128) : (rowL f)[i]? = some (.bool (f i)) := by simp [rowL, h]
theorem rowL_one (f : Nat → Bool) : (rowL f).all (·.oneCell') = true := by simp [rowL, Value.oneCell']
theorem rowL_congr {f g : Nat → Bool} (h : ∀ i, i < 128 → f i = g i) : rowL f = rowL g := by
  unfold rowL; exact List.map_congr_left fun i hi => by rw [h i (by simpa using hi)]
theorem rowL_set (f : Nat → Bool) {i : Nat} (h : i < 128) (b : Bool) : (rowL f).set i (.bool b) = rowL (fun j => if j = i then b else f j) := by
  apply List.ext_getElem
  · simp [rowL]
  · intro j h1 h2
    simp only [rowL, List.getElem_map, List.getElem_range]
    by_cases e : j = i
    · subst e; simp
    · rw [List.getElem_set_ne (fun q => e q.symm)]; simp [e]
theorem row_info : (Try.prog.info? 86).map (fun i => (i.zero, i.size)) = some (some (.agg (rowL (fun _ => false)).toArray), 128) := by kernel_rfl
theorem row_size (f : Nat → Bool) : (Try.prog.info? 86).map (·.size) = some (rowL f).length := by rw [rowL_length]; exact (zero_of_info row_info).2
theorem row_arr : Try.prog.underlying 86 = some (.array 128 4) := by kernel_rfl
/-- A row as a value. -/
abbrev rv (f : Nat → Bool) : Value := .agg (rowL f).toArray

/-- A number's bits. -/
def bt (n : BitVec 128) (i : Nat) : Bool := n.getLsbD i
def hiN (n : BitVec 128) : Nat := n.toNat / 18446744073709551616
def loN (n : BitVec 128) : Nat := n.toNat % 18446744073709551616
theorem hi_is (n : BitVec 128) : hi n = (hiN n : Int) := rfl
theorem lo_is (n : BitVec 128) : lo n = (loN n : Int) := rfl
theorem odd_int (x : Nat) : ((x : Int) % 2 == 1) = decide (x % 2 = 1) := by rw [Bool.eq_iff_iff]; simp; omega
theorem lo_bit (n : BitVec 128) {i : Nat} (h : i < 64) : (((loN n / 2 ^ i : Nat) : Int) % 2 == 1) = bt n i := by
  have e : bt n i = (loN n).testBit i := by
    unfold bt loN
    rw [show (18446744073709551616 : Nat) = 2 ^ 64 from rfl, Nat.testBit_mod_two_pow]
    simp [h, BitVec.getLsbD]
  rw [e, Nat.testBit_eq_decide_div_mod_eq, odd_int]
theorem hi_bit (n : BitVec 128) {i : Nat} (h : i < 64) : (((hiN n / 2 ^ i : Nat) : Int) % 2 == 1) = bt n (64 + i) := by
  have e : bt n (64 + i) = (hiN n).testBit i := by
    unfold bt hiN
    rw [show (18446744073709551616 : Nat) = 2 ^ 64 from rfl, Nat.testBit_div_two_pow]
    simp [BitVec.getLsbD, Nat.add_comm]
  rw [e, Nat.testBit_eq_decide_div_mod_eq, odd_int]

/-- What the row holds behind i rounds. -/
def fbits (n : BitVec 128) (i : Nat) : Nat → Bool := fun j => if j < 64 then decide (j < i) && bt n j else decide (j < 64 + i) && bt n j
theorem fbits_next (n : BitVec 128) {i : Nat} (h : i < 64) : ((rowL (fbits n i)).set i (.bool (bt n i))).set (64 + i) (.bool (bt n (64 + i))) = rowL (fbits n (i + 1)) := by
  rw [rowL_set _ (by omega), rowL_set _ (by omega)]
  apply rowL_congr
  intro j hj
  unfold fbits
  by_cases e1 : j = 64 + i
  · subst e1; simp [show ¬ (64 + i < 64) by omega]
  · rw [if_neg e1]
    by_cases e2 : j = i
    · subst e2; simp [h]
    · rw [if_neg e2]
      by_cases e3 : j < 64
      · simp [e3, show (j < i + 1) = (j < i) by simp; omega]
      · simp [e3, show (j < 64 + (i + 1)) = (j < 64 + i) by simp; omega]
theorem fbits_end (n : BitVec 128) : rowL (fbits n 64) = rowL (bt n) := by
  apply rowL_congr
  intro j hj
  unfold fbits
  by_cases e : j < 64 <;> simp [e, show j < 64 + 64 by omega]
theorem fbits_start (n : BitVec 128) : rowL (fun _ => false) = rowL (fbits n 0) := by
  apply rowL_congr
  intro j hj
  unfold fbits
  by_cases e : j < 64 <;> simp [e]

def BitsRel (w : World) (n : BitVec 128) (i : Value) (wr : World) : Prop :=
  ∃ k : Nat, k ≤ 64 ∧ i = .int .i64 k ∧ Blk wr w.heap.size 45 [.int .u64 ((hiN n / 2 ^ k : Nat) : Int), .int .u64 ((loN n / 2 ^ k : Nat) : Int)] ∧
    Blk wr (w.heap.size + 1) 86 (rowL fun _ => false) ∧ Blk wr (w.heap.size + 1 + 1) 86 (rowL (fbits n k)) ∧ Below w.heap.size w wr

set_option maxRecDepth 10000 in
theorem rbits_any (n : BitVec 128) (w : World) : Calls Try.prog 47 #[nv n] w (Pure (rv (bt n)) w) := by
  have hz := (zero_of_info (P := Try.prog) row_info).1
  go_enter Try.func47, Try.ntmps47
  go_wp2
  go_loopw [4] (fun i wr => BitsRel w n i wr) (fun i _ => 64 - (intOf i).toNat)
  case atStart =>
    refine ⟨0, by omega, rfl, ?_, ?_, ?_, by (repeat' (first | (with_reducible exact Below.refl _ _) | (with_reducible refine Below.ext_mk ?_ ?_ _ _) | (with_reducible refine Below.alloc ?_ ?_ _) | (with_reducible refine Below.drew ?_) | (with_reducible refine Below.setCell ?_ ?_ _) | go_size))⟩
    · have e : [Value.int .u64 ((hiN n / 2 ^ 0 : Nat) : Int), .int .u64 ((loN n / 2 ^ 0 : Nat) : Int)] = [.int .u64 (hi n), .int .u64 (lo n)] := by simp [hi_is, lo_is]
      rw [e]
      exact ((Blk.new w 45 [.int .u64 (hi n), .int .u64 (lo n)]).below (Below.alloc (Below.refl _ _) (Nat.le_refl _) _)).below (Below.alloc (Below.refl _ _) (Nat.le_refl _) _)
    · have h := (Blk.new (w.alloc (.cells #[.int .u64 (hi n), .int .u64 (lo n)] 45)) 86 (rowL fun _ => false)).below (Below.alloc (Below.refl _ _) (Nat.le_refl _) (.cells (rowL fun _ => false).toArray 86))
      simpa using h
    · rw [← fbits_start]
      have h := Blk.new ((w.alloc (.cells #[.int .u64 (hi n), .int .u64 (lo n)] 45)).alloc (.cells (rowL fun _ => false).toArray 86)) 86 (rowL fun _ => false)
      simpa using h
  case round =>
    obtain ⟨k, hk, rfl, b1, b2, b3, hbel⟩ := hrel
    by_cases hlt : k < 64
    · have hk1 : (k : Int) < 64 := by omega
      have hk0 : (0 : Int) ≤ (k : Int) := by omega
      have hlb := lo_bit n hlt
      have hhb := hi_bit n hlt
      have hw64 : IntKind.i64.wrap (64 + (k : Int)) = ((64 + k : Nat) : Int) := by rw [IntWalk.i64_in _ (by omega)]; omega
      have c0 := b1.cell 0
      have c1 := b1.cell 1
      have f0 := b1.free
      have c2 := b3.cell k
      have c3 := b3.cell (64 + k)
      rw [rowL_at _ (by omega)] at c2 c3
      simp only [List.getElem?_cons_zero, List.getElem?_cons_succ] at c0 c1
      have f2 := b3.free
      have z1 := b1.lt
      have z3 := b3.lt
      have hx1 : loN n / 2 ^ k ≤ 18446744073709551615 := Nat.le_trans (Nat.div_le_self _ _) (by have := lo_nat n; unfold loN; omega)
      have hy1 : hiN n / 2 ^ k ≤ 18446744073709551615 := Nat.le_trans (Nat.div_le_self _ _) (by have := hi_nat n; unfold hiN; omega)
      have HN := hid (fbits_next n hlt)
      generalize bt n k = bk at *
      generalize bt n (64 + k) = bk' at *
      generalize hX : loN n / 2 ^ k = X at *
      generalize hY : hiN n / 2 ^ k = Y at *
      have HX := hid hX
      have HY := hid hY
      clear hX hY
      have hx2 : (0 : Int) ≤ (X : Int) := by omega
      have hy2 : (0 : Int) ≤ (Y : Int) := by omega
      have hx3 : (X : Int) ≤ 18446744073709551615 := by omega
      have hy3 : (Y : Int) ≤ 18446744073709551615 := by omega
      go_wp2
      go_roundw
      case rel =>
        have ex : ((loN n / 2 ^ (k + 1) : Nat) : Int) = (X : Int) / 2 := by rw [Nat.pow_succ, ← Nat.div_div_eq_div_mul, HX.out]; omega
        have ey : ((hiN n / 2 ^ (k + 1) : Nat) : Int) = (Y : Int) / 2 := by rw [Nat.pow_succ, ← Nat.div_div_eq_div_mul, HY.out]; omega
        refine ⟨k + 1, by omega, by go_num, ?_, ?_, ?_, ?_⟩
        · rw [ex, ey]
          exact ((((b1.far (by omega) _ _).far (by omega) _ _).set_ 1 _).set_ 0 _)
        · exact ((((b2.far (by omega) _ _).far (by omega) _ _).far (by omega) _ _).far (by omega) _ _)
        · rw [← HN.out]
          exact ((((b3.set_ k _).set_ (64 + k) _).far (by omega) _ _).far (by omega) _ _)
        · exact (((hbel.setCell (by first | (simp; done) | (simp; omega)) _).setCell (by first | (simp; done) | (simp; omega)) _).setCell (by simp) _).setCell (by simp) _
      case measure => simp [intOf]; omega
    · have e : k = 64 := by omega
      subst e
      rw [fbits_end] at b3
      have hz1 := b1.lt
      go_upto_region 9 with (fail)
      refine wp_region_doc (fun F hF => ?_)
      have HF := hid hF
      clear hF
      refine doc_val rfl (load_row_op _ _ _ _ _ _ _ _ row_arr (row_size (bt n)) rfl b3) ?_
      simp only [Act.put, List.setIfInBounds_toArray, List.set_cons_zero, List.set_cons_succ]
      refine doc_skip rfl (store_row_op _ _ _ _ _ _ _ _ _ (row_size (bt n)) (by rw [rowL_length, rowL_length]) (rowL_one _) rfl rfl b2) ?_
      simp only [Act.put, List.setIfInBounds_toArray, List.set_cons_zero, List.set_cons_succ]
      refine doc_end (HF.out _ _ ?_)
      clear HF F
      have b2' := b2.row (rowL (bt n))
      go_wp2
      exact bodyPost_ret (results_cell_row (P := Try.prog) rfl _ _ _ _ _ _ _ rfl b2' row_arr rfl (by simpa using row_size (bt n))) rfl ⟨rfl, Below.to_ext (Below.setRow hbel (by omega) _)⟩

/-- 64 truths, the highest one first, as a number; the first m of them. -/
def hv (g : Nat → Bool) : Nat → Nat
  | 0 => 0
  | m + 1 => 2 * hv g m + if g (63 - m) then 1 else 0
theorem hv_lt (g : Nat → Bool) : ∀ m, hv g m < 2 ^ m
  | 0 => by simp [hv]
  | m + 1 => by have := hv_lt g m; rw [hv, Nat.pow_succ]; split <;> omega
theorem hv_bit (g : Nat → Bool) : ∀ (m j : Nat), m ≤ 64 → (hv g m).testBit j = (decide (j < m) && g (64 - m + j))
  | 0, j, _ => by simp [hv]
  | m + 1, j, h => by
    rw [hv]
    cases j with
    | zero =>
      rw [Nat.testBit_zero]
      rw [show 64 - (m + 1) + 0 = 63 - m by omega]
      cases g (63 - m) <;> simp <;> omega
    | succ j =>
      rw [Nat.testBit_succ]
      have e : (2 * hv g m + if g (63 - m) = true then 1 else 0) / 2 = hv g m := by split <;> omega
      rw [e, hv_bit g m j (by omega), show 64 - (m + 1) + (j + 1) = 64 - m + j by omega]
      simp
/-- The number of a row. -/
def nOf (f : Nat → Bool) : BitVec 128 := nmk (hv (fun j => f (64 + j)) 64 : Nat) (hv f 64 : Nat)
theorem nOf_hi (f : Nat → Bool) : hi (nOf f) = (hv (fun j => f (64 + j)) 64 : Nat) := by
  have h1 := hv_lt (fun j => f (64 + j)) 64; have h2 := hv_lt f 64
  exact hi_nmk (by omega) (by omega) (by omega) (by omega)
theorem nOf_lo (f : Nat → Bool) : lo (nOf f) = (hv f 64 : Nat) := by
  have h1 := hv_lt (fun j => f (64 + j)) 64; have h2 := hv_lt f 64
  exact lo_nmk (by omega) (by omega) (by omega) (by omega)
theorem bt_nOf (f : Nat → Bool) {i : Nat} (h : i < 128) : bt (nOf f) i = f i := by
  have e1 : ((hiN (nOf f) : Nat) : Int) = (hv (fun j => f (64 + j)) 64 : Nat) := nOf_hi f
  have e2 : ((loN (nOf f) : Nat) : Int) = (hv f 64 : Nat) := nOf_lo f
  have e1' : hiN (nOf f) = hv (fun j => f (64 + j)) 64 := by omega
  have e2' : loN (nOf f) = hv f 64 := by omega
  by_cases h64 : i < 64
  · rw [← lo_bit _ h64, odd_int, ← Nat.testBit_eq_decide_div_mod_eq, e2', hv_bit f 64 i (by omega)]; simp [h64]
  · obtain ⟨j, rfl⟩ : ∃ j, i = 64 + j := ⟨i - 64, by omega⟩
    rw [← hi_bit _ (show j < 64 by omega), odd_int, ← Nat.testBit_eq_decide_div_mod_eq, e1', hv_bit _ 64 j (by omega)]; simp [show j < 64 by omega]
theorem bt_ext {a b : BitVec 128} (h : ∀ i, i < 128 → bt a i = bt b i) : a = b := BitVec.eq_of_getLsbD_eq fun i hi => h i hi
theorem nOf_bt (n : BitVec 128) : nOf (bt n) = n := bt_ext fun i h => bt_nOf _ h
theorem bt_out (n : BitVec 128) {i : Nat} (h : 128 ≤ i) : bt n i = false := BitVec.getLsbD_of_ge n i h

def NumRel (w : World) (f : Nat → Bool) (i : Value) (wr : World) : Prop :=
  ∃ m : Nat, m ≤ 64 ∧ i = .int .i64 (63 - (m : Int)) ∧ Blk wr w.heap.size 86 (rowL f) ∧ Blk wr (w.heap.size + 1) 45 [.int .u64 0, .int .u64 0] ∧
    Blk wr (w.heap.size + 1 + 1) 45 [.int .u64 ((hv (fun j => f (64 + j)) m : Nat) : Int), .int .u64 ((hv f m : Nat) : Int)] ∧ Below w.heap.size w wr

set_option maxRecDepth 100000 in
set_option maxHeartbeats 1000000 in
theorem rnum_any (f : Nat → Bool) (w : World) : Calls Try.prog 55 #[rv f] w (Pure (nv (nOf f)) w) := by
  go_enter Try.func55, Try.ntmps55
  go_wp2
  go_loopw [4] (fun i wr => NumRel w f i wr) (fun i _ => (intOf i + 1).toNat)
  case atStart =>
    refine ⟨0, by omega, rfl, ?_, ?_, ?_, by (repeat' (first | (with_reducible exact Below.refl _ _) | (with_reducible refine Below.ext_mk ?_ ?_ _ _) | (with_reducible refine Below.alloc ?_ ?_ _) | (with_reducible refine Below.drew ?_) | (with_reducible refine Below.setCell ?_ ?_ _) | go_size))⟩
    · exact ((Blk.new w 86 (rowL f)).below (Below.alloc (Below.refl _ _) (Nat.le_refl _) _)).below (Below.alloc (Below.refl _ _) (Nat.le_refl _) _)
    · have h := (Blk.new (w.alloc (.cells (rowL f).toArray 86)) 45 [.int .u64 0, .int .u64 0]).below (Below.alloc (Below.refl _ _) (Nat.le_refl _) (.cells #[.int .u64 0, .int .u64 0] 45))
      simpa using h
    · have h := Blk.new ((w.alloc (.cells (rowL f).toArray 86)).alloc (.cells #[.int .u64 0, .int .u64 0] 45)) 45 [.int .u64 0, .int .u64 0]
      simpa [hv] using h
  case round =>
    obtain ⟨m, hm, rfl, b1, b2, b3, hbel⟩ := hrel
    have z3 := b3.lt
    by_cases hlt : m < 64
    · obtain ⟨i, hi⟩ : ∃ i : Nat, (63 - (m : Int)) = (i : Int) := ⟨63 - m, by omega⟩
      have him : i = 63 - m := by omega
      rw [hi]
      have hi0 : (0 : Int) ≤ (i : Int) := by omega
      have hi1 : (i : Int) < 64 := by omega
      have hw64 : IntKind.i64.wrap (64 + (i : Int)) = ((64 + i : Nat) : Int) := by rw [IntWalk.i64_in _ (by omega)]; omega
      have c0 := b3.cell 0
      have c1 := b3.cell 1
      have f0 := b3.free
      have c2 := b1.cell i
      have c3 := b1.cell (64 + i)
      rw [rowL_at _ (by omega)] at c2 c3
      simp only [List.getElem?_cons_zero, List.getElem?_cons_succ] at c0 c1
      have z1 := b1.lt
      have hX1 := hv_lt f m
      have hY1 := hv_lt (fun j => f (64 + j)) m
      have hpw : 2 ^ m ≤ 2 ^ 63 := Nat.pow_le_pow_right (by omega) (by omega)
      have HX : Hid (hv f (m + 1) = 2 * hv f m + if f i then 1 else 0) := hid (by rw [hv, him])
      have HY : Hid (hv (fun j => f (64 + j)) (m + 1) = 2 * hv (fun j => f (64 + j)) m + if f (64 + i) then 1 else 0) := hid (by rw [hv, him])
      generalize hv f m = X at *
      generalize hv (fun j => f (64 + j)) m = Y at *
      have hx3 : (X : Int) ≤ 9223372036854775807 := by omega
      have hy3 : (Y : Int) ≤ 9223372036854775807 := by omega
      have hx2 : (0 : Int) ≤ (X : Int) := by omega
      have hy2 : (0 : Int) ≤ (Y : Int) := by omega
      have HI := hid hi
      have HM := hid him
      clear hX1 hY1 hpw hi him
      cases h1 : f i <;> cases h2 : f (64 + i)
      all_goals
        rw [h1] at c2 HX
        rw [h2] at c3 HY
        clear h1 h2
        go_wp2
        go_roundw
        case rel =>
          refine ⟨m + 1, by omega, ?_, ?_, ?_, ?_, ?_⟩
          · congr 1
            have := HI.out
            omega
          · repeat' (first | (with_reducible exact b1) | (with_reducible refine Blk.far ?_ ?_ _ _) | omega)
          · repeat' (first | (with_reducible exact b2) | (with_reducible refine Blk.far ?_ ?_ _ _) | omega)
          · refine Blk.cast (by repeat' (first | (with_reducible exact b3) | (with_reducible apply Blk.set_))) ?_
            simp only [HX.out, HY.out]
            first | (simp; done) | (simp; omega)
          · repeat' (first | (with_reducible exact hbel) | (with_reducible refine Below.setCell ?_ ?_ _) | (simp; done) | (simp; omega))
        case measure => first | (simp [intOf]; done) | (simp [intOf]; omega)
    · have e : m = 64 := by omega
      subst e
      have c0 := b3.cell 0
      have c1 := b3.cell 1
      have d0 := b2.cell 0
      have d1 := b2.cell 1
      have f0 := b2.free
      simp only [List.getElem?_cons_zero, List.getElem?_cons_succ] at c0 c1 d0 d1
      have z2 := b2.lt
      have hneg : ¬ (0 : Int) ≤ 63 - ((64 : Nat) : Int) := by omega
      have EX := hid (nOf_lo f)
      have EY := hid (nOf_hi f)
      rw [← nOf_lo f] at c1
      rw [← nOf_hi f] at c0
      have b2' := Blk.cast (ys := [.int .u64 (hi (nOf f)), .int .u64 (lo (nOf f))]) ((b2.set_ 0 (.int .u64 (hi (nOf f)))).set_ 1 (.int .u64 (lo (nOf f)))) rfl
      have B2 := hid b2'
      clear b1 b2 b3 b2' hlt hm
      go_wp2
      refine bodyPost_ret (results_cell_row (P := Try.prog) rfl _ _ _ _ _ _ _ rfl B2.out Try.underlying45 rfl (by kernel_rfl)) rfl ⟨rfl, Below.to_ext ?_⟩
      exact (by repeat' (first | (with_reducible exact hbel) | (with_reducible refine Below.setCell ?_ ?_ _) | (simp; done) | (simp; omega)))

/-- The row behind k rounds of a loop that turns it element by element. -/
def mix (k : Nat) (g f : Nat → Bool) : Nat → Bool := fun j => if j < k then g j else f j
theorem mix_zero (g f : Nat → Bool) : mix 0 g f = f := by funext j; simp [mix]
theorem mix_at (k : Nat) (g f : Nat → Bool) : mix k g f k = f k := by simp [mix]
theorem mix_next (g f : Nat → Bool) {k : Nat} (h : k < 128) : (rowL (mix k g f)).set k (.bool (g k)) = rowL (mix (k + 1) g f) := by
  rw [rowL_set _ h]
  congr 1
  funext j
  unfold mix
  by_cases e : j = k
  · subst e; simp
  · simp [e, show (j < k + 1) = (j < k) by simp; omega]
theorem mix_end (g f : Nat → Bool) : rowL (mix 128 g f) = rowL g := rowL_congr fun i hi => by simp [mix, hi]

/-- A loop over a row: the row's block, and the result's. -/
def RowRel (w : World) (B R : Nat) (g f : Nat → Bool) (i : Value) (wr : World) : Prop :=
  ∃ k : Nat, k ≤ 128 ∧ i = .int .i64 k ∧ Blk wr B 86 (rowL (mix k g f)) ∧ Blk wr R 45 [.int .u64 0, .int .u64 0] ∧ Below w.heap.size w wr ∧ w.heap.size ≤ B ∧ w.heap.size ≤ R ∧ R ≠ B

def cutF (n : BitVec 128) (k : Int) : Nat → Bool := fun i => bt n i && decide ((i : Int) < k)

theorem num_size (x y : Value) : (Try.prog.info? 45).map (·.size) = some [x, y].length := by
  have h : (Try.prog.info? 45).map (·.size) = some 2 := by kernel_rfl
  exact h
theorem store_num_op {w : World} (a : Act) (dst : Option Tmp) (t : TypeId) (x y : Operand) (pos : String) (after : Array Edge) (guard : Option (Nat × Bool)) {g : Nat} {e : TypeId} {u v u' v' : Int}
    (hx : a.eval x = .pointer (some ⟨g, 0, none⟩)) (hy : a.eval y = .agg #[.int .u64 u', .int .u64 v']) (hg : Blk w g e [.int .u64 u, .int .u64 v]) :
    (execOp a.eval { dst, op := .store 45 x y, type := t, pos, after, guard }).run Try.prog w = .ok .skip (w.setRow g [.int .u64 u', .int .u64 v'].toArray) :=
  store_row_op (xs := [.int .u64 u, .int .u64 v]) (ys := [.int .u64 u', .int .u64 v']) a dst _ t x y pos after guard (num_size _ _) rfl rfl hx hy hg
theorem num_result {w : World} {fn : Func} {p : Tmp} {tmps : Array Value} {g : Nat} {e : TypeId} {u v : Int} (h : fn.results = #[.cell p 45]) (hp : tmps.getD p undef = .pointer (some ⟨g, 0, none⟩)) (hg : Blk w g e [.int .u64 u, .int .u64 v]) :
    (results fn tmps).run Try.prog w = .ok (.agg #[.int .u64 u, .int .u64 v]) w :=
  results_cell_row (P := Try.prog) h _ _ _ _ _ _ _ hp hg Try.underlying45 rfl (by
    have h : (Try.prog.info? 45).map (·.size) = some 2 := by kernel_rfl
    exact h)
set_option maxRecDepth 100000 in
theorem rcut_any (n : BitVec 128) (k : Int) (w : World) : Calls Try.prog 57 #[nv n, .int .i64 k] w (Pure (nv (nOf (cutF n k))) w) := by
  have hz := (zero_of_info (P := Try.prog) row_info).1
  go_enter Try.func57, Try.ntmps57
  go_upto_region 1 with (fail)
  refine wp_gen (fun V hV => ?_)
  have hbV : Below w.heap.size w V := by rw [hV]; (repeat' (first | (with_reducible exact Below.refl _ _) | (with_reducible refine Below.ext_mk ?_ ?_ _ _) | (with_reducible refine Below.alloc ?_ ?_ _) | (with_reducible refine Below.drew ?_) | (with_reducible refine Below.setCell ?_ ?_ _) | go_size))
  have bn : Blk V w.heap.size 45 [.int .u64 (hi n), .int .u64 (lo n)] := by
    rw [hV]; exact (Blk.new w 45 [.int .u64 (hi n), .int .u64 (lo n)]).below (Below.alloc (Below.refl _ _) (Nat.le_refl _) _)
  have br : Blk V (w.heap.size + 1) 45 [.int .u64 0, .int .u64 0] := by
    rw [hV]
    have h := Blk.new (w.alloc (.cells #[.int .u64 (hi n), .int .u64 (lo n)] 45)) 45 [.int .u64 0, .int .u64 0]
    simpa using h
  clear hV
  have c0 := bn.cell 0
  have c1 := bn.cell 1
  simp only [List.getElem?_cons_zero, List.getElem?_cons_succ] at c0 c1
  have zr := br.lt
  refine wp_region_doc (fun F hF => ?_)
  have HF := hid hF
  clear hF
  refine doc_val rfl (by first | (go_simp; done) | (go_simp; exact ⟨rfl, rfl⟩) | (go_simp; with_reducible rfl)) ?_
  simp only [Act.put, List.setIfInBounds_toArray, List.set_cons_zero, List.set_cons_succ]
  refine doc_call rfl (by first | (go_simp; done) | (go_simp; exact ⟨rfl, rfl⟩) | (go_simp; with_reducible rfl)) ((rbits_any n _).mono ?_)
  rintro e w1 ⟨rfl, m1, d1, rfl⟩
  refine ⟨_, rfl, ?_⟩
  simp only [Act.put, List.setIfInBounds_toArray, List.set_cons_zero, List.set_cons_succ]
  refine doc_val rfl (by first | (go_simp; done) | (go_simp; exact ⟨rfl, rfl⟩) | (go_simp; with_reducible rfl)) ?_
  simp only [Act.put, List.setIfInBounds_toArray, List.set_cons_zero, List.set_cons_succ]
  refine doc_skip rfl (store_row_op (xs := rowL fun _ => false) (ys := rowL (bt n)) _ _ _ _ _ _ _ _ _ (row_size _) (by rw [rowL_length, rowL_length]) (rowL_one _) rfl rfl (by have h := Blk.new (V.ext m1 d1) 86 (rowL fun _ => false); rw [World.size_ext] at h; exact h)) ?_
  simp only [Act.put, List.setIfInBounds_toArray, List.set_cons_zero, List.set_cons_succ]
  refine doc_end (HF.out _ _ ?_)
  clear HF F
  go_upto_region 2 with (fail)
  refine wp_gen (fun U hU => ?_)
  have hbU : Below w.heap.size w U := by
    rw [hU]; exact Below.setRow (Below.alloc (Below.ext_mk hbV hbV.size _ _) (by simp; omega) _) (by omega) _
  have bU : Blk U (V.heap.size + m1.size) 86 (rowL (mix 0 (cutF n k) (bt n))) := by
    rw [hU, mix_zero]
    have h := Blk.new (V.ext m1 d1) 86 (rowL fun _ => false)
    rw [World.size_ext] at h
    exact h.row _
  have rU : Blk U (w.heap.size + 1) 45 [.int .u64 0, .int .u64 0] := by
    rw [hU]; exact ((br.ext m1 d1).below (Below.alloc (Below.refl _ _) (Nat.le_refl _) _)).farRow (by omega) _
  have hB : w.heap.size ≤ V.heap.size + m1.size := by omega
  have hRB : w.heap.size + 1 ≠ V.heap.size + m1.size := by omega
  generalize V.heap.size + m1.size = B at *
  clear hU hbV bn br c0 c1 zr
  go_wp2
  go_loopw [6] (fun i wr => RowRel w B (w.heap.size + 1) (cutF n k) (bt n) i wr) (fun i _ => 128 - (intOf i).toNat)
  case atStart => exact ⟨0, by omega, rfl, bU, rU, hbU, hB, by omega, hRB⟩
  case round =>
    obtain ⟨j, hj, rfl, b3, b2, hbel, h5, h6, h7⟩ := hrel
    by_cases hlt : j < 128
    · have hj1 : (j : Int) < 128 := by omega
      have hj0 : (0 : Int) ≤ (j : Int) := by omega
      have c := b3.cell j
      rw [rowL_at _ hlt, mix_at] at c
      have f := b3.free j
      have z := b3.lt
      have HN := hid (mix_next (cutF n k) (bt n) hlt)
      have HV : Hid (cutF n k j = (bt n j && decide ((j : Int) < k))) := hid rfl
      cases hb : bt n j
      all_goals
        rw [hb] at c HV
        clear hb
        go_wp2
        go_roundw
        case rel =>
          refine ⟨j + 1, by omega, by go_num, ?_, ?_, ?_, h5, h6, h7⟩
          · rw [← HN.out, HV.out]
            exact b3.set_ j _
          · exact b2.far (fun e => h7 e.symm) _ _
          · exact hbel.setCell h5 _
        case measure => simp [intOf]; omega
    · have e : j = 128 := by omega
      subst e
      rw [mix_end] at b3
      go_upto_region 6 with (fail)
      obtain ⟨N, hN⟩ : ∃ N, N = nOf ((cutF n k)) := ⟨_, rfl⟩
      have rN := rnum_any ((cutF n k))
      rw [← hN] at rN
      have HN := hid hN
      clear hN
      refine wp_region_doc (fun F hF => ?_)
      have HF := hid hF
      clear hF
      refine doc_val rfl (load_row_op _ _ _ _ _ _ _ _ row_arr (row_size _) rfl b3) ?_
      simp only [Act.put, List.setIfInBounds_toArray, List.set_cons_zero, List.set_cons_succ]
      refine doc_call rfl (by first | (go_simp; done) | (go_simp; exact ⟨rfl, rfl⟩) | (go_simp; with_reducible rfl)) ((rN _).mono ?_)
      rintro e w9 ⟨rfl, m9, d9, rfl⟩
      refine ⟨_, rfl, ?_⟩
      simp only [Act.put, List.setIfInBounds_toArray, List.set_cons_zero, List.set_cons_succ]
      refine doc_skip rfl (store_num_op _ _ _ _ _ _ _ _ rfl rfl (b2.ext _ _)) ?_
      simp only [Act.put, List.setIfInBounds_toArray, List.set_cons_zero, List.set_cons_succ]
      refine doc_end (HF.out _ _ ?_)
      clear HF F
      have b2' := (b2.ext m9 d9).row [.int .u64 (hi N), .int .u64 (lo N)]
      go_wp2
      exact bodyPost_ret (num_result rfl rfl b2') rfl ⟨by rw [HN.out], Below.to_ext (Below.setRow (Below.ext_mk hbel hbel.size _ _) (by omega) _)⟩
end Go.Proofs.Ytkblldmpdihamaa
set_option linter.unusedVariables false
set_option linter.unusedSimpArgs false
namespace Go.Proofs.Ytkblldmpdihamaa
open Go.RowKit

def maskF (k : Int) : Nat → Bool := fun i => decide ((i : Int) < k)
/-- A number cut to a width fits it if it is the same. -/
def rfits (n : BitVec 128) (k : Int) : Bool := decide (nOf (cutF n k) = n)
theorem rfits_gen (n N : BitVec 128) (k : Int) (C : ∀ w, Calls Try.prog 57 #[nv n, .int .i64 k] w (Pure (nv N) w)) (w : World) :
    Calls Try.prog 48 #[nv n, .int .i64 k] w (Pure (.bool (decide (N = n))) w) := by
  go_enter Try.func48, Try.ntmps48
  go_wp2
  refine wp_region_ext (by kernel_rfl) (by kernel_rfl) (fun F hF => ?_)
  have HF := hid hF; clear hF
  repeat (first
    | (apply text_skip; (focus rfl); simp only [Act.put, List.setIfInBounds_toArray, List.set_cons_zero, List.set_cons_succ])
    | (apply text_val; (focus rfl); (focus (intro _ _; go_simp; with_reducible rfl)); simp only [Act.put, List.setIfInBounds_toArray, List.set_cons_zero, List.set_cons_succ])
    | (apply text_call; (focus rfl); (focus (intro _ _; go_simp; exact ⟨rfl, rfl⟩)); (focus (intro _ _; with_reducible (exact C _))); simp only [Act.put, List.setIfInBounds_toArray, List.set_cons_zero, List.set_cons_succ])
    | (apply text_if; (focus (first | exact wanted_t rfl rfl | exact wanted_f rfl rfl | exact wanted_gt rfl rfl | exact wanted_gf rfl rfl)); (focus (intro hc _ _; (try simp only [Bool.and_eq_true, Bool.not_eq_true', Bool.true_and] at hc); go_simp; with_reducible rfl)); simp only [Act.put, List.setIfInBounds_toArray, List.set_cons_zero, List.set_cons_succ])
    | (apply text_if_call; (focus (first | exact wanted_t rfl rfl | exact wanted_f rfl rfl | exact wanted_gt rfl rfl | exact wanted_gf rfl rfl)); (focus (intro hc _ _; (try simp only [Bool.and_eq_true, Bool.not_eq_true', Bool.true_and] at hc); go_simp; exact ⟨rfl, rfl⟩)); (focus (intro hc _ _; with_reducible (exact C _))); simp only [Act.put, List.setIfInBounds_toArray, List.set_cons_zero, List.set_cons_succ]))
  refine text_nil (HF.out _ (fun mx dx => ?_))
  clear HF F
  go_wp2
  go_returns
  exact Pure.of rfl (by (repeat' (first | (with_reducible exact Below.refl _ _) | (with_reducible refine Below.ext_mk ?_ ?_ _ _) | (with_reducible refine Below.alloc ?_ ?_ _) | (with_reducible refine Below.drew ?_) | (with_reducible refine Below.setCell ?_ ?_ _) | go_size)))
theorem rfits_any (n : BitVec 128) (k : Int) (w : World) : Calls Try.prog 48 #[nv n, .int .i64 k] w (Pure (.bool (rfits n k)) w) := by
  unfold rfits
  exact rfits_gen n _ k (rcut_any n k) w
end Go.Proofs.Ytkblldmpdihamaa
