/-
  Package quant: Support over a live store.
-/
import Derived.Test.YtboekafmplomhaaZSup
import Derived.Test.YtboekafmplomhaaZMeansR
set_option linter.unusedVariables false
set_option linter.unusedSimpArgs false
namespace Go.Proofs.Ytboekafmplomhaa
open Go.RowKit

@[go_sem] theorem run_store_func {P : Program} {w : World} {a : Addr} {fn : Fn} {x y : Array Value} {m : Mode} : (store a (.func fn x y) m).run P w = stored P w a (.func fn x y) m := run_store P w a _ m rfl
/-- One more number at a row's end. -/
theorem grow_int {B : Nat} {w : World} {sv : Value} {G : Option Nat} {all : List Int} (h : RowIs w sv G 3 1 all.length (ints all)) (hG : ∀ g, G = some g → B ≤ g) (hB : B ≤ w.heap.size) (hk : all.length ≤ 1000) (x : Int) :
    ∃ v' w1 G', (Builtin.append_ #[28, 28] 28 #[sv, .slice (some ⟨w.heap.size, 0, none⟩) 1 1]).run Try.prog (w.alloc (.cells #[.int .i64 x] 3)) = .ok v' w1 ∧
      RowIs w1 v' (some G') 3 1 (all ++ [x]).length (ints (all ++ [x])) ∧ B ≤ G' ∧ Below B w w1 := by
  have litn : (w.alloc (.cells #[.int .i64 x] 3)).heap[w.heap.size]? = some (.cells #[.int .i64 x] 3 (0, 0)) := World.heap_alloc_last w _
  have rowL : RowIs (w.alloc (.cells #[.int .i64 x] 3)) sv G 3 1 all.length (ints all) := RowIs.keep h (fun g hg => Below.heap_alloc _ _ _ (RowIs.lt h g hg))
  obtain ⟨v', w1, G', r1, r2, r3, r4⟩ := append_row (P := Try.prog) 28 28 infoInt (.int .i64 0) 8 Try.underlying28 infoInt_is infoInt_zero infoInt_size infoInt_bytes rfl (by omega) rowL
    ⟨w.heap.size, 0, none⟩ 1 1 [.int .i64 x] rfl (fun j u hu => by
      rcases j with _ | j
      · simp at hu; subst hu
        show (w.alloc (.cells #[.int .i64 x] 3)).cell? ⟨w.heap.size, 0, none⟩ = _
        simp only [World.cell?]
        rw [litn]; rfl
      · simp at hu) (by simp [Value.oneCell']) (by omega) (by unfold maxLen; omega) (by omega)
  refine ⟨v', w1, G', r1, ?_, ?_, ?_⟩
  · have e1 : ints (all ++ [x]) = ints all ++ [.int .i64 x] := by simp [ints]
    rw [e1, List.length_append]
    exact r2
  · rcases r4 with e | ⟨e, _⟩
    · exact hG _ e
    · simp at e; omega
  · exact ((Below.refl _ _).alloc hB _).grown r3 (by simp; omega) hG

end Go.Proofs.Ytboekafmplomhaa
