/-
  A region that draws its order, by what holds whenever some of its operations have come up.
-/
import Derived.Test.YtboekafmplomhaaZStage
import Derived.Test.YtboekafmplomhaaZAny
set_option linter.unusedVariables false
set_option linter.unusedSimpArgs false
namespace Go
open Go.RowKit

section
variable {P : Program} {ops : Array Oper} {Q : Exit → Act → World → Prop} {I : Array Bool → Act → World → Prop}

def left (L : Array Bool) : Nat := (L.toList.filter (fun b => !b)).length
theorem left_set {L : Array Bool} {k : Nat} (h : L.getD k true = false) : left (L.setIfInBounds k true) + 1 = left L := by
  have hk : k < L.size := by
    rcases Nat.lt_or_ge k L.size with h' | h'
    · exact h'
    · simp [Array.getElem?_eq_none h'] at h
  have hv : L.toList[k]'(by simpa using hk) = false := by simpa [hk] using h
  unfold left
  rw [Array.toList_setIfInBounds]
  have : ∀ (l : List Bool) (k : Nat) (hk : k < l.length), l[k] = false → ((l.set k true).filter (fun b => !b)).length + 1 = (l.filter (fun b => !b)).length := by
    intro l
    induction l with
    | nil => intro k hk; simp at hk
    | cons b r ih =>
      intro k hk hb
      cases k with
      | zero => simp at hb; subst hb; simp
      | succ k =>
        have := ih k (by simpa using hk) (by simpa using hb)
        cases b <;> simp [List.filter_cons] <;> omega
  exact this _ k (by simpa using hk) hv
theorem left_zero {L : Array Bool} (h : left L = 0) : ∀ j, j < L.size → L.getD j false = true := by
  intro j hj
  unfold left at h
  have h0 := List.length_eq_zero_iff.1 h
  rw [List.filter_eq_nil_iff] at h0
  have := h0 (L.toList[j]'(by simpa using hj)) (List.getElem_mem _)
  simpa [hj] using this
/-- As long as some has not come up, one may. -/
theorem ready_some (hlt : ∀ i, i < ops.size → ∀ k ∈ deps .any ops i, k < i) {L : Array Bool} (hs : L.size = ops.size) : ∀ (j : Nat), L.getD j true = false → Region.ready .any ops L ≠ [] := by
  intro j
  induction j using Nat.strongRecOn with
  | _ j ih =>
    intro hj
    have hjs : j < ops.size := by
      rcases Nat.lt_or_ge j L.size with h' | h'
      · omega
      · simp [Array.getElem?_eq_none h'] at hj
    by_cases h : ∀ k ∈ deps .any ops j, L.getD k false = true
    · intro e
      have : j ∈ Region.ready .any ops L := (ready_of (Array.getElem?_eq_getElem hjs)).2 ⟨hj, h⟩
      rw [e] at this; cases this
    · obtain ⟨k, hk⟩ := Classical.not_forall.1 h
      obtain ⟨hk1, hk2⟩ := Classical.not_imp.1 hk
      have hkj := hlt j hjs k hk1
      exact ih k hkj (by
        have hks : k < L.size := by omega
        simpa [hks] using hk2)

theorem any_inv (hlt : ∀ i, i < ops.size → ∀ k ∈ deps .any ops i, k < i)
    (hstep : ∀ (L : Array Bool) (a : Act) (w : World) (k : Nat) (o : Oper), ops[k]? = some o → Now .any ops k L → I L a w → StepTo P ops o a w (fun a' w' => I (L.setIfInBounds k true) a' w'))
    (hfin : ∀ (L : Array Bool) (a : Act) (w : World), (∀ j, j < ops.size → L.getD j false = true) → I L a w → Q .normal a w) :
    ∀ (n : Nat) (L : Array Bool) (a : Act) (w : World), left L = n → L.size = ops.size → Down .any ops L → I L a w → wpAny P .any ops Q n L a w := by
  intro n
  induction n with
  | zero =>
    intro L a w hl hs hd hi
    have hall := left_zero hl
    refine ⟨?_, hfin L a w (fun j hj => hall j (by omega)) hi⟩
    unfold Region.ready
    rw [List.filter_eq_nil_iff]
    intro j hj
    have hj' : j < L.size := by have := List.mem_range.1 hj; omega
    have := hall j hj'
    have h2 : L.getD j true = true := by simpa [hj'] using this
    simp [h2]
  | succ n ih =>
    intro L a w hl hs hd hi
    refine ⟨fun h0 => ?_, fun k hk => ?_⟩
    · exfalso
      have hex : ∃ j, L.getD j true = false := by
        refine Classical.byContradiction fun hno => ?_
        have : left L = 0 := by
          unfold left
          rw [List.length_eq_zero_iff, List.filter_eq_nil_iff]
          intro b hb
          obtain ⟨j, hj, rfl⟩ := List.getElem_of_mem hb
          have h1 : ¬ L.getD j true = false := fun e => hno ⟨j, e⟩
          have hj' : j < L.size := by simpa using hj
          have h2 : L[j] = true := by simpa [hj'] using h1
          simp [h2]
        omega
      obtain ⟨j, hj⟩ := hex
      exact ready_some hlt hs j hj h0
    · obtain ⟨_, o, ho, _⟩ := mem_ready.1 hk
      have hr := (ready_of ho).1 hk
      have hn : Now .any ops k L := ⟨hs, hr.1, hr.2, hd⟩
      refine wpOp_step ho (fun K hK => (hstep L a w k o ho hn hi).wp (fun a' w' h' => hK a' w' (ih _ a' w' (by have := left_set hr.1; omega) (by simpa using hs) ?_ h')))
      intro i hi' q hq
      by_cases e : k = i
      · subst e
        exact getD_set_true (hr.2 q hq)
      · rw [getD_set_ne false e] at hi'
        exact getD_set_true (hd i hi' q hq)

theorem wp_region_inv {id : Nat} {a : Act} {W : World} (I : Array Bool → Act → World → Prop) (hm : P.follows .mixedOrders = true) (hlt : (List.range ops.size).all (fun i => (deps .any ops i).all (fun k => decide (k < i))) = true)
    (h0 : I (Array.replicate ops.size false) a W.drew)
    (hstep : ∀ (L : Array Bool) (a : Act) (w : World) (k : Nat) (o : Oper), ops[k]? = some o → Now .any ops k L → I L a w → StepTo P ops o a w (fun a' w' => I (L.setIfInBounds k true) a' w'))
    (hfin : ∀ (L : Array Bool) (a : Act) (w : World), (∀ j, j < ops.size → L.getD j false = true) → I L a w → Q .normal a w) : (Code.region id ops true).wp P Q a W := by
  refine wp_region_any hm ?_
  have hl : left (Array.replicate ops.size false) = ops.size := by unfold left; simp
  have := any_inv (P := P) (Q := Q) (I := I) (fun i hi k hk => by
    simp only [List.all_eq_true, List.mem_range, decide_eq_true_eq] at hlt
    exact hlt i hi k hk) hstep hfin ops.size (Array.replicate ops.size false) a W.drew hl (by simp) (fun i hi => by
      exfalso
      by_cases h : i < ops.size
      · simp [h] at hi
      · simp [h] at hi) h0
  exact this

/-- The steps, one by one. -/
def InvSteps (P : Program) (ops : Array Oper) (I : Array Bool → Act → World → Prop) : Nat → List Oper → Prop
  | _, [] => True
  | k, o :: r => (∀ (L : Array Bool) (a : Act) (w : World), Now .any ops k L → I L a w → StepTo P ops o a w (fun a' w' => I (L.setIfInBounds k true) a' w')) ∧ InvSteps P ops I (k + 1) r
theorem inv_steps : ∀ (l : List Oper) (k : Nat), InvSteps P ops I k l → ∀ (i : Nat) (o : Oper), l[i]? = some o → ∀ (L : Array Bool) (a : Act) (w : World), Now .any ops (k + i) L → I L a w → StepTo P ops o a w (fun a' w' => I (L.setIfInBounds (k + i) true) a' w')
  | [], k, h, i, o, ho => by simp at ho
  | x :: r, k, h, 0, o, ho => by simp at ho; subst ho; exact h.1
  | x :: r, k, h, i + 1, o, ho => by
    have := inv_steps r (k + 1) h.2 i o (by simpa using ho)
    rw [show k + (i + 1) = k + 1 + i by omega]
    exact this
theorem wp_region_invs {id : Nat} {a : Act} {W : World} (I : Array Bool → Act → World → Prop) (hm : P.follows .mixedOrders = true) (hlt : (List.range ops.size).all (fun i => (deps .any ops i).all (fun k => decide (k < i))) = true)
    (h0 : I (Array.replicate ops.size false) a W.drew)
    (hfin : ∀ (L : Array Bool) (a : Act) (w : World), (∀ j, j < ops.size → L.getD j false = true) → I L a w → Q .normal a w)
    (hs : InvSteps P ops I 0 ops.toList) : (Code.region id ops true).wp P Q a W :=
  wp_region_inv I hm hlt h0 (fun L a w k o ho hn hi => by
    have := inv_steps ops.toList 0 hs k o (by simpa using ho) L a w (by rw [Nat.zero_add]; exact hn) hi
    rwa [Nat.zero_add] at this) hfin
theorem getD_up {L : Array Bool} {k : Nat} (h : L.getD k true = false) : (L.setIfInBounds k true).getD k false = true := by
  have hk : k < L.size := by
    rcases Nat.lt_or_ge k L.size with h' | h'
    · exact h'
    · simp [Array.getElem?_eq_none h'] at h
  simp [hk]
end
end Go
