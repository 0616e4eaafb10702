/-
  Package header: New.
-/
import Derived.Test.YtkblldmpdihamaaEmit
import Derived.Test.YtkblldmpdihamaaInv
import Derived.Laws.MakeOwn
set_option linter.unusedVariables false
set_option linter.unusedSimpArgs false
namespace Go.Proofs.Ytkblldmpdihamaa
open Go.RowKit

theorem bool_info_some : (Try.prog.info? 4).isSome = true := by kernel_rfl
noncomputable abbrev infoBo : TypeInfo := (Try.prog.info? 4).get bool_info_some
theorem infoBo_is : Try.prog.info? 4 = some infoBo := (Option.some_get _).symm
theorem infoBo_zero : infoBo.zero = some (.bool false) := by kernel_rfl
theorem infoBo_size : infoBo.size = 1 := by kernel_rfl
theorem infoBo_bytes : infoBo.bytes = 1 := by kernel_rfl
theorem num_info_some : (Try.prog.info? 45).isSome = true := by kernel_rfl
noncomputable abbrev infoNu : TypeInfo := (Try.prog.info? 45).get num_info_some
theorem infoNu_is : Try.prog.info? 45 = some infoNu := (Option.some_get _).symm
theorem infoNu_zero : infoNu.zero = some (.agg #[.int .u64 0, .int .u64 0]) := by kernel_rfl
theorem infoNu_size : infoNu.size = 2 := by kernel_rfl
theorem infoNu_bytes : infoNu.bytes = 16 := by kernel_rfl

theorem hmake_row (t e : TypeId) (i : TypeInfo) (z : Value) (ht : Try.prog.underlying t = some (.slice e)) (hi : Try.prog.info? e = some i) (hz : i.zero = some z)
    (n : Nat) (hbytes : i.bytes * n ≤ 281474976710656) (h63 : n ≤ 9223372036854775807) (w : World) :
    (Instr.makeSlice t (.int .i64 (n : Int)) (.int .i64 (n : Int))).run Try.prog w = .ok (.slice (some ⟨w.heap.size, 0, none⟩) n n) (w.alloc (.cells (madeCells z.cells (n * i.size)) e)) := by
  have hb : (i.bytes : Int) * (n : Int) ≤ 281474976710656 := by
    have h : ((i.bytes * n : Nat) : Int) ≤ 281474976710656 := by omega
    rwa [Int.natCast_mul] at h
  have hr := run_make (P := Try.prog) w t e i z ht hi hz .i64 .i64 n n (by omega) (by omega) hb (by omega)
  simp only [Int.toNat_natCast] at hr
  exact hr
/-- A row of truths that are false; of numbers that are 0. -/
theorem make_bools (n : Nat) (hn : n ≤ 1000000) (w : World) :
    (Instr.makeSlice 35 (.int .i64 (n : Int)) (.int .i64 (n : Int))).run Try.prog w = .ok (.slice (some ⟨w.heap.size, 0, none⟩) n n) (w.alloc (.cells (bools (List.replicate n false)).toArray 4)) := by
  have h := hmake_row 35 4 infoBo (.bool false) Try.underlying35 infoBo_is infoBo_zero n (by rw [infoBo_bytes]; omega) (by omega) w
  rw [infoBo_size, Nat.mul_one] at h
  have e : madeCells (Value.bool false).cells n = (bools (List.replicate n false)).toArray := by
    unfold madeCells
    rw [show (Value.bool false).cells = #[Value.bool false] from rfl]
    apply Array.ext
    · simp [bools]
    · intro i h1 h2
      simp [bools, Nat.mod_one]
  rw [e] at h
  exact h
theorem nums_zero : ∀ n, nums (List.replicate n 0#128) = List.replicate (n * 2) (.int .u64 0)
  | 0 => rfl
  | n + 1 => by
    rw [List.replicate_succ, nums, nums_zero n, show (n + 1) * 2 = n * 2 + 1 + 1 by omega, List.replicate_succ, List.replicate_succ]
    rfl
theorem make_nums (n : Nat) (hn : n ≤ 1000000) (w : World) :
    (Instr.makeSlice 37 (.int .i64 (n : Int)) (.int .i64 (n : Int))).run Try.prog w = .ok (.slice (some ⟨w.heap.size, 0, none⟩) n n) (w.alloc (.cells (nums (List.replicate n 0#128)).toArray 45)) := by
  have h := hmake_row 37 45 infoNu (.agg #[.int .u64 0, .int .u64 0]) Try.underlying37 infoNu_is infoNu_zero n (by rw [infoNu_bytes]; omega) (by omega) w
  rw [infoNu_size] at h
  have e : madeCells (Value.agg #[.int .u64 0, .int .u64 0]).cells (n * 2) = (nums (List.replicate n 0#128)).toArray := by
    unfold madeCells
    rw [show (Value.agg #[.int .u64 0, .int .u64 0]).cells = #[Value.int .u64 0, .int .u64 0] from rfl, nums_zero]
    apply Array.ext
    · simp
    · intro i h1 h2
      have : i % 2 = 0 ∨ i % 2 = 1 := by omega
      rcases this with e | e <;> simp [e]
  rw [e] at h
  exact h
end Go.Proofs.Ytkblldmpdihamaa
