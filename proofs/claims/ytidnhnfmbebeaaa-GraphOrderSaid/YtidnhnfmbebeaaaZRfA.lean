/-
  A region that draws its order, walked operation by operation: where one alone may come up, it is taken; where two may, both are tried.
-/
import Derived.Test.YtidnhnfmbebeaaaZDoC
import Derived.RegionTactic
import Derived.Test.YtidnhnfmbebeaaaZStage
import Derived.OrdersIn
import Derived.RangeFuncCalls
import Derived.Test.YtidnhnfmbebeaaaZSto
import Derived.RangeFuncBound
import Derived.RangeFuncLeaves
import Derived.OwnWalkIn
import Derived.TacticsInMore
import Derived.LoopIn
set_option linter.unusedVariables false
set_option linter.unusedSimpArgs false
namespace Go
open Go.RowKit
section
variable {P : Program} {ops : Array Oper} {Q : Exit → Act → World → Prop} {md : Region.Mode} {listed : Array Bool} {fuel : Nat} {W W1 : World} {o : Oper} {a : Act} {v : Value}

/-- One operation's step, towards a goal K. -/
def StepTo (P : Program) (ops : Array Oper) (o : Oper) (a : Act) (W : World) (K : Act → World → Prop) : Prop :=
  (Region.wanted o (yielded ops a.tmps) = true ∧
    ((∃ v w1, (execOp a.eval o).run P W = .ok (.value v) w1 ∧ K (a.put o.dst v) w1) ∨
     (∃ w1, (execOp a.eval o).run P W = .ok .skip w1 ∧ K (a.put o.dst undef) w1) ∨
     (∃ f args w1, (execOp a.eval o).run P W = .ok (.enter f args) w1 ∧ Calls P f args w1 fun e w2 => ∃ v, e = .returned v ∧ K (a.put o.dst v) w2))) ∨
  (Region.wanted o (yielded ops a.tmps) = false ∧ K (a.put o.dst undef) W)
theorem StepTo.wp {K K' : Act → World → Prop} (h : StepTo P ops o a W K) (hK : ∀ a w, K a w → K' a w) :
    if Region.wanted o (yielded ops a.tmps) = true then Oper.wp P o a W K' Q else K' (a.put o.dst undef) W := by
  rcases h with ⟨hg, h⟩ | ⟨hg, h⟩
  · rw [if_pos hg]
    unfold Oper.wp
    rcases h with ⟨v, w1, h, c⟩ | ⟨w1, h, c⟩ | ⟨f, args, w1, h, c⟩
    · rw [h]; exact hK _ _ c
    · rw [h]; exact hK _ _ c
    · rw [h]
      refine Calls.mono c fun e w2 ⟨v, he, hw⟩ => ?_
      subst he
      exact hK _ _ hw
  · rw [if_neg (by rw [hg]; simp)]
    exact hK _ _ h
theorem st_val {K : Act → World → Prop} (hg : Region.wanted o (yielded ops a.tmps) = true) (h : (execOp a.eval o).run P W = .ok (.value v) W1) (c : K (a.put o.dst v) W1) : StepTo P ops o a W K := .inl ⟨hg, .inl ⟨v, W1, h, c⟩⟩
theorem st_skip {K : Act → World → Prop} (hg : Region.wanted o (yielded ops a.tmps) = true) (h : (execOp a.eval o).run P W = .ok .skip W1) (c : K (a.put o.dst undef) W1) : StepTo P ops o a W K := .inl ⟨hg, .inr (.inl ⟨W1, h, c⟩)⟩
theorem st_call {K : Act → World → Prop} {f : FuncId} {args : Array Value} (hg : Region.wanted o (yielded ops a.tmps) = true) (h : (execOp a.eval o).run P W = .ok (.enter f args) W1)
    (c : Calls P f args W1 fun e w2 => ∃ v, e = .returned v ∧ K (a.put o.dst v) w2) : StepTo P ops o a W K := .inl ⟨hg, .inr (.inr ⟨f, args, W1, h, c⟩)⟩
theorem st_not {K : Act → World → Prop} (hg : Region.wanted o (yielded ops a.tmps) = false) (c : K (a.put o.dst undef) W) : StepTo P ops o a W K := .inr ⟨hg, c⟩

theorem op_at {k : Nat} {r : List Oper} (ho : ops.toList.drop k = o :: r) : ops[k]? = some o := by
  have := congrArg List.head? ho
  rw [List.head?_drop] at this
  simpa using this
theorem any_one (k : Nat) {r : List Oper} (hr : Region.ready md ops listed = [k]) (ho : ops.toList.drop k = o :: r) (h : StepTo P ops o a W (wpAny P md ops Q fuel (listed.setIfInBounds k true))) : wpAny P md ops Q (fuel + 1) listed a W :=
  wpAny_ready hr (by simp) (AllReady.cons (op_at ho) (fun K hK => h.wp hK) AllReady.nil)
theorem any_two (k j : Nat) {o' : Oper} {r r' : List Oper} (hr : Region.ready md ops listed = [k, j]) (ho : ops.toList.drop k = o :: r) (ho' : ops.toList.drop j = o' :: r')
    (h : StepTo P ops o a W (wpAny P md ops Q fuel (listed.setIfInBounds k true))) (h' : StepTo P ops o' a W (wpAny P md ops Q fuel (listed.setIfInBounds j true))) : wpAny P md ops Q (fuel + 1) listed a W :=
  wpAny_ready hr (by simp) (AllReady.cons (op_at ho) (fun K hK => h.wp hK) (AllReady.cons (op_at ho') (fun K hK => h'.wp hK) AllReady.nil))
theorem any_take (k : Nat) {r : List Oper} {fuel : Nat} (ho : ops.toList.drop k = o :: r) (hs : Region.noSelect ops = true) (hf : Region.free md ops listed k = true) (hr : (Region.ready md ops listed).contains k = true)
    (hQ : ∀ c a w, Q (.panic c) (a.put o.dst v) w → Q (.panic c) a w) (hy : Yields P ops o v a)
    (h : wpAny P md ops Q fuel (listed.setIfInBounds k true) (a.put o.dst v) W) : wpAny P md ops Q (fuel + 1) listed a W :=
  wpAny_take (op_at ho) hs hf hr hQ hy h
end
end Go
set_option linter.unusedVariables false
set_option linter.unusedSimpArgs false
namespace Go
open Go.RowKit

section
variable {P : Program} {ops : Array Oper} {Q : Exit → Act → World → Prop} {I : Array Bool → Act → World → Prop}

def left (L : Array Bool) : Nat := (L.toList.filter (fun b => !b)).length
theorem left_set {L : Array Bool} {k : Nat} (h : L.getD k true = false) : left (L.setIfInBounds k true) + 1 = left L := by
  have hk : k < L.size := by
    rcases Nat.lt_or_ge k L.size with h' | h'
    · exact h'
    · simp [Array.getElem?_eq_none h'] at h
  have hv : L.toList[k]'(by simpa using hk) = false := by simpa [hk] using h
  unfold left
  rw [Array.toList_setIfInBounds]
  have : ∀ (l : List Bool) (k : Nat) (hk : k < l.length), l[k] = false → ((l.set k true).filter (fun b => !b)).length + 1 = (l.filter (fun b => !b)).length := by
    intro l
    induction l with
    | nil => intro k hk; simp at hk
    | cons b r ih =>
      intro k hk hb
      cases k with
      | zero => simp at hb; subst hb; simp
      | succ k =>
        have := ih k (by simpa using hk) (by simpa using hb)
        cases b <;> simp [List.filter_cons] <;> omega
  exact this _ k (by simpa using hk) hv
theorem left_zero {L : Array Bool} (h : left L = 0) : ∀ j, j < L.size → L.getD j false = true := by
  intro j hj
  unfold left at h
  have h0 := List.length_eq_zero_iff.1 h
  rw [List.filter_eq_nil_iff] at h0
  have := h0 (L.toList[j]'(by simpa using hj)) (List.getElem_mem _)
  simpa [hj] using this
/-- As long as some has not come up, one may. -/
theorem ready_some (hlt : ∀ i, i < ops.size → ∀ k ∈ deps .any ops i, k < i) {L : Array Bool} (hs : L.size = ops.size) : ∀ (j : Nat), L.getD j true = false → Region.ready .any ops L ≠ [] := by
  intro j
  induction j using Nat.strongRecOn with
  | _ j ih =>
    intro hj
    have hjs : j < ops.size := by
      rcases Nat.lt_or_ge j L.size with h' | h'
      · omega
      · simp [Array.getElem?_eq_none h'] at hj
    by_cases h : ∀ k ∈ deps .any ops j, L.getD k false = true
    · intro e
      have : j ∈ Region.ready .any ops L := (ready_of (Array.getElem?_eq_getElem hjs)).2 ⟨hj, h⟩
      rw [e] at this; cases this
    · obtain ⟨k, hk⟩ := Classical.not_forall.1 h
      obtain ⟨hk1, hk2⟩ := Classical.not_imp.1 hk
      have hkj := hlt j hjs k hk1
      exact ih k hkj (by
        have hks : k < L.size := by omega
        simpa [hks] using hk2)

theorem any_inv (hlt : ∀ i, i < ops.size → ∀ k ∈ deps .any ops i, k < i)
    (hstep : ∀ (L : Array Bool) (a : Act) (w : World) (k : Nat) (o : Oper), ops[k]? = some o → Now .any ops k L → I L a w → StepTo P ops o a w (fun a' w' => I (L.setIfInBounds k true) a' w'))
    (hfin : ∀ (L : Array Bool) (a : Act) (w : World), (∀ j, j < ops.size → L.getD j false = true) → I L a w → Q .normal a w) :
    ∀ (n : Nat) (L : Array Bool) (a : Act) (w : World), left L = n → L.size = ops.size → Down .any ops L → I L a w → wpAny P .any ops Q n L a w := by
  intro n
  induction n with
  | zero =>
    intro L a w hl hs hd hi
    have hall := left_zero hl
    refine ⟨?_, hfin L a w (fun j hj => hall j (by omega)) hi⟩
    unfold Region.ready
    rw [List.filter_eq_nil_iff]
    intro j hj
    have hj' : j < L.size := by have := List.mem_range.1 hj; omega
    have := hall j hj'
    have h2 : L.getD j true = true := by simpa [hj'] using this
    simp [h2]
  | succ n ih =>
    intro L a w hl hs hd hi
    refine ⟨fun h0 => ?_, fun k hk => ?_⟩
    · exfalso
      have hex : ∃ j, L.getD j true = false := by
        refine Classical.byContradiction fun hno => ?_
        have : left L = 0 := by
          unfold left
          rw [List.length_eq_zero_iff, List.filter_eq_nil_iff]
          intro b hb
          obtain ⟨j, hj, rfl⟩ := List.getElem_of_mem hb
          have h1 : ¬ L.getD j true = false := fun e => hno ⟨j, e⟩
          have hj' : j < L.size := by simpa using hj
          have h2 : L[j] = true := by simpa [hj'] using h1
          simp [h2]
        omega
      obtain ⟨j, hj⟩ := hex
      exact ready_some hlt hs j hj h0
    · obtain ⟨_, o, ho, _⟩ := mem_ready.1 hk
      have hr := (ready_of ho).1 hk
      have hn : Now .any ops k L := ⟨hs, hr.1, hr.2, hd⟩
      refine wpOp_step ho (fun K hK => (hstep L a w k o ho hn hi).wp (fun a' w' h' => hK a' w' (ih _ a' w' (by have := left_set hr.1; omega) (by simpa using hs) ?_ h')))
      intro i hi' q hq
      by_cases e : k = i
      · subst e
        exact getD_set_true (hr.2 q hq)
      · rw [getD_set_ne false e] at hi'
        exact getD_set_true (hd i hi' q hq)

theorem wp_region_inv {id : Nat} {a : Act} {W : World} (I : Array Bool → Act → World → Prop) (hm : P.follows .mixedOrders = true) (hlt : (List.range ops.size).all (fun i => (deps .any ops i).all (fun k => decide (k < i))) = true)
    (h0 : I (Array.replicate ops.size false) a W.drew)
    (hstep : ∀ (L : Array Bool) (a : Act) (w : World) (k : Nat) (o : Oper), ops[k]? = some o → Now .any ops k L → I L a w → StepTo P ops o a w (fun a' w' => I (L.setIfInBounds k true) a' w'))
    (hfin : ∀ (L : Array Bool) (a : Act) (w : World), (∀ j, j < ops.size → L.getD j false = true) → I L a w → Q .normal a w) : (Code.region id ops true).wp P Q a W := by
  refine wp_region_any hm ?_
  have hl : left (Array.replicate ops.size false) = ops.size := by unfold left; simp
  have := any_inv (P := P) (Q := Q) (I := I) (fun i hi k hk => by
    simp only [List.all_eq_true, List.mem_range, decide_eq_true_eq] at hlt
    exact hlt i hi k hk) hstep hfin ops.size (Array.replicate ops.size false) a W.drew hl (by simp) (fun i hi => by
      exfalso
      by_cases h : i < ops.size
      · simp [h] at hi
      · simp [h] at hi) h0
  exact this

/-- The steps, one by one. -/
def InvSteps (P : Program) (ops : Array Oper) (I : Array Bool → Act → World → Prop) : Nat → List Oper → Prop
  | _, [] => True
  | k, o :: r => (∀ (L : Array Bool) (a : Act) (w : World), Now .any ops k L → I L a w → StepTo P ops o a w (fun a' w' => I (L.setIfInBounds k true) a' w')) ∧ InvSteps P ops I (k + 1) r
theorem inv_steps : ∀ (l : List Oper) (k : Nat), InvSteps P ops I k l → ∀ (i : Nat) (o : Oper), l[i]? = some o → ∀ (L : Array Bool) (a : Act) (w : World), Now .any ops (k + i) L → I L a w → StepTo P ops o a w (fun a' w' => I (L.setIfInBounds (k + i) true) a' w')
  | [], k, h, i, o, ho => by simp at ho
  | x :: r, k, h, 0, o, ho => by simp at ho; subst ho; exact h.1
  | x :: r, k, h, i + 1, o, ho => by
    have := inv_steps r (k + 1) h.2 i o (by simpa using ho)
    rw [show k + (i + 1) = k + 1 + i by omega]
    exact this
theorem wp_region_invs {id : Nat} {a : Act} {W : World} (I : Array Bool → Act → World → Prop) (hm : P.follows .mixedOrders = true) (hlt : (List.range ops.size).all (fun i => (deps .any ops i).all (fun k => decide (k < i))) = true)
    (h0 : I (Array.replicate ops.size false) a W.drew)
    (hfin : ∀ (L : Array Bool) (a : Act) (w : World), (∀ j, j < ops.size → L.getD j false = true) → I L a w → Q .normal a w)
    (hs : InvSteps P ops I 0 ops.toList) : (Code.region id ops true).wp P Q a W :=
  wp_region_inv I hm hlt h0 (fun L a w k o ho hn hi => by
    have := inv_steps ops.toList 0 hs k o (by simpa using ho) L a w (by rw [Nat.zero_add]; exact hn) hi
    rwa [Nat.zero_add] at this) hfin
theorem getD_up {L : Array Bool} {k : Nat} (h : L.getD k true = false) : (L.setIfInBounds k true).getD k false = true := by
  have hk : k < L.size := by
    rcases Nat.lt_or_ge k L.size with h' | h'
    · exact h'
    · simp [Array.getElem?_eq_none h'] at h
  simp [hk]
end
end Go
set_option linter.unusedVariables false
set_option linter.unusedSimpArgs false
namespace Go
open Go.RowKit

section
variable {P : Program} {ops : Array Oper} {Q : Exit → Act → World → Prop} {S : Array Bool → World → Prop} {W : World} {a : Act} {rl n : Nat}

/-- A way out but the plain one is none. -/
def onlyQ (Q : Exit → Act → World → Prop) : Exit → Act → World → Prop := fun e a w => e = .normal ∧ Q e a w
theorem onlyQ_out {Q : Exit → Act → World → Prop} : ¬ LetsOut (onlyQ Q) := fun h => by
  obtain ⟨a, w, h⟩ := h
  cases h.1
def notDefer (o : Oper) : Bool := match o.op with | .defer _ => false | _ => true
theorem notDefer_spec (h : ops.toList.all (fun o => notDefer o) = true) : ∀ (i : Nat) (o : Oper), ops[i]? = some o → ∀ c, o.op ≠ .defer c := by
  intro i o hi c hc
  rw [List.all_eq_true] at h
  have := h o (by
    obtain ⟨hlt, rfl⟩ := Array.getElem?_eq_some_iff.1 hi
    simp)
  unfold notDefer at this
  rw [hc] at this
  cases this

theorem rowsIn_of {row : String} {args : Array Value} {w : World} {R : Value → World → Prop} (h : Rows P row args w R) : RowsIn Fence.wide n P row args w R :=
  fun c cs _ => let ⟨v, w', r, s⟩ := h c cs; ⟨v, w', r, stepsIn_wide.2 s⟩

theorem wp_round {o : Oper} {w : World} {K : Act → World → Prop} (hd : ∀ c, o.op ≠ .defer c) (h : o.wp P a w K (onlyQ Q)) : o.wpIn (Fence.wide.inRound rl) n P a w K Q := by
  refine ⟨fun _ _ => trivial, ?_⟩
  rw [show (Fence.wide.inRound rl).round = some rl from rfl, Oper.semAt_eq (some rl) a.eval o hd]
  unfold Oper.wp at h
  generalize (execOp a.eval o).run P w = r at *
  cases r with
  | halt x w' =>
    cases x with
    | panic v => exact absurd h.1 (by simp)
    | _ => exact h.elim
  | ok m w' =>
    cases m with
    | value v => exact h
    | skip => exact h
    | «defer» d => exact h
    | enter f args =>
      refine ⟨fun h => (by cases h), CallsIn.inRound rl (callsIn_wide.2 (Calls.mono h fun e w2 he => ?_))⟩
      cases e with
      | returned v => exact he
      | panicked ch => exact absurd he.1 (by simp)
      | outgrown => exact absurd he onlyQ_out
    | row row args => exact ⟨fun h => (by cases h), rowsIn_of h⟩
    | _ => exact h.elim

theorem wpAny_round {md : Region.Mode} (hd : ∀ (i : Nat) (o : Oper), ops[i]? = some o → ∀ c, o.op ≠ .defer c) : ∀ (fuel : Nat) (L : Array Bool) (a : Act) (w : World),
    wpAny P md ops (onlyQ Q) fuel L a w → wpAnyIn (Fence.wide.inRound rl) n P md ops Q fuel L a w
  | 0, L, a, w, h => ⟨h.1, h.2.2⟩
  | fuel + 1, L, a, w, h => ⟨fun h0 => (h.1 h0).2, fun i hi => by
    have h2 := h.2 i hi
    unfold wpOp at h2
    unfold wpOpIn
    cases ho : ops[i]? with
    | none =>
      simp only [ho] at h2
      exact wpAny_round hd fuel _ a w h2
    | some o =>
      simp only [ho] at h2
      simp only
      split
      · rename_i hw
        rw [if_pos hw] at h2
        rcases h2 with h2 | h2
        · exact Oper.wpIn_mono (fun a w hk => wpAny_round hd fuel _ a w hk) (wp_round (hd i o ho) h2)
        · exact absurd h2.2 onlyQ_out
      · rename_i hw
        rw [if_neg hw] at h2
        exact ⟨fun _ _ => trivial, wpAny_round hd fuel _ _ w h2⟩⟩

theorem wpIn_region_chain {id : Nat} {a : Act} {w : World} (hm : P.follows .mixedOrders = true) (hnd : ops.toList.all (fun o => notDefer o) = true) (hok : textOk .any ops = true) (hS : S (Array.replicate ops.size false) w.drew)
    (l : List Ent) (h1 : l.map (·.i) = List.range' 0 ops.size) (h2 : l.map (·.o) = ops.toList) (h3 : Chain P .any ops S l a)
    (h4 : ∀ L w', L.size = ops.size → (∀ j, j < ops.size → L.getD j false = true) → S L w' → Q .normal (puts l a) w') : (Code.region id ops true).wpIn (Fence.wide.inRound rl) n P Q a w := by
  refine wpIn_region_any hm (wpAny_round (notDefer_spec hnd) _ _ _ _ ?_)
  simp only [textOk, Bool.and_eq_true, Bool.or_eq_true, List.all_eq_true, List.mem_range, decide_eq_true_eq] at hok
  obtain ⟨⟨hs, hlt⟩, hpr⟩ := hok
  have hlen : l.length = ops.size := by
    have := congrArg List.length h2
    simpa using this
  have hat : ∀ (j : Nat) (hj : j < l.length), l[j].i = j ∧ ops[j]? = some l[j].o := fun j hj => by
    constructor
    · have e1 : (l.map (·.i))[j]? = (List.range' 0 ops.size)[j]? := by rw [h1]
      simp only [List.getElem?_map, List.getElem?_eq_getElem hj, Option.map_some] at e1
      rw [List.getElem?_range' (by omega)] at e1
      simpa using e1
    · have e2 : (l.map (·.o))[j]? = (ops.toList)[j]? := by rw [h2]
      simp only [List.getElem?_map, List.getElem?_eq_getElem hj, Option.map_some] at e2
      simpa using e2.symm
  have hmem : ∀ x ∈ l, x.i < ops.size ∧ ops[x.i]? = some x.o := fun x hx => by
    obtain ⟨j, hj, rfl⟩ := List.getElem_of_mem hx
    obtain ⟨e1, e2⟩ := hat j hj
    rw [e1]; exact ⟨by omega, e2⟩
  have hdn : ∀ i k, k ∈ deps .any ops i → k < i := fun i k hk => by
    by_cases hi : i < ops.size
    · exact hlt i hi k hk
    · simp [deps, Array.getElem?_eq_none (Nat.le_of_not_lt hi)] at hk
  have hrep : ∀ j d, (Array.replicate ops.size false).getD j d = true → d = true := fun j d hd => by
    by_cases hj : j < ops.size
    · simp [hj] at hd
    · simpa [hj] using hd
  refine any_of_chain (P := P) (Q := onlyQ Q) (md := .any) (S := S) (Region.noSelect_spec hs) ops.size l (Array.replicate ops.size false) a hlen (by simp) ?_ ?_ ?_ ?_ ?_ ?_ h3 ?_ w.drew hS
  · intro x hx
    obtain ⟨e1, e2⟩ := hmem x hx
    exact ⟨e2, by simp [e1]⟩
  · have : (l.map (·.i)).Pairwise (· ≠ ·) := by rw [h1]; exact List.nodup_range'
    exact List.pairwise_map.1 this
  · intro j hj
    have hjs : j < ops.size := by
      rcases Nat.lt_or_ge j ops.size with h' | h'
      · exact h'
      · simp [h'] at hj
    exact ⟨l[j]'(by omega), List.getElem_mem _, (hat j (by omega)).1⟩
  · rw [List.pairwise_iff_getElem]
    intro i j hi hj hij
    obtain ⟨e1, e2⟩ := hat i hi
    obtain ⟨e3, e4⟩ := hat j hj
    have := hpr j (by omega) i hij
    rw [e2, e4] at this
    rw [e1, e3]
    rcases this with h' | h'
    · exact .inl (by simpa using h')
    · exact .inr h'
  · intro l1 x l2 hl k hk
    right
    have hxi : x.i = l1.length := by
      have hj : l1.length < l.length := by rw [hl]; simp
      have := (hat l1.length hj).1
      simpa [hl] using this
    have hkx := hdn _ _ hk
    refine ⟨l[k]'(by rw [hl]; simp; omega), ?_, (hat k _).1⟩
    have hkl : k < l1.length := by omega
    simp only [hl]
    rw [List.getElem_append_left hkl]
    exact List.getElem_mem _
  · intro i hi; exact absurd (hrep i false hi) (by simp)
  · intro w1 hw1
    have hsz : (sets l (Array.replicate ops.size false)).size = ops.size := by
      have : ∀ (l : List Ent) (b : Array Bool), (sets l b).size = b.size := by
        intro l; induction l with
        | nil => intro b; rfl
        | cons x r ih => intro b; simp only [sets]; rw [ih]; simp
      rw [this]; simp
    exact ⟨rfl, h4 _ w1 hsz (fun j hj => by rw [getD_sets _ _ _ _ (by simpa using hj), if_pos (by rw [h1]; simpa using hj)]) hw1⟩

theorem wpIn_region_ext {id : Nat} (hm : P.follows .mixedOrders = true) (hnd : ops.toList.all (fun o => notDefer o) = true) (hok : textOk .any ops = true)
    (h : ∀ F : Act → Prop, (∀ a', (∀ m d, Q .normal a' (W.ext m d)) → F a') → TextWalk P ops W F ops.toList a) : (Code.region id ops true).wpIn (Fence.wide.inRound rl) n P Q a W := by
  obtain ⟨l, h1, h2, h3, h4⟩ := walk_chain1 _ 0 _ (h (fun a' => ∀ m d, Q .normal a' (W.ext m d)) (fun _ h => h))
  refine wpIn_region_chain (S := fun _ w => Ext W w) hm hnd hok ⟨_, _, World.drew_is_ext W⟩ l (by simpa using h1) h2 (chain_of_chain1 l a (fun _ _ _ _ _ => ⟨Iff.rfl, Iff.rfl⟩) h3) ?_
  intro L w' _ _ ⟨m, d, hw⟩
  subst hw
  exact h4 m d

theorem wpIn_region_inv {id : Nat} {a : Act} {W : World} (I : Array Bool → Act → World → Prop) (hm : P.follows .mixedOrders = true) (hnd : ops.toList.all (fun o => notDefer o) = true) (hlt : (List.range ops.size).all (fun i => (deps .any ops i).all (fun k => decide (k < i))) = true)
    (h0 : I (Array.replicate ops.size false) a W.drew)
    (hstep : ∀ (L : Array Bool) (a : Act) (w : World) (k : Nat) (o : Oper), ops[k]? = some o → Now .any ops k L → I L a w → StepTo P ops o a w (fun a' w' => I (L.setIfInBounds k true) a' w'))
    (hfin : ∀ (L : Array Bool) (a : Act) (w : World), (∀ j, j < ops.size → L.getD j false = true) → I L a w → Q .normal a w) : (Code.region id ops true).wpIn (Fence.wide.inRound rl) n P Q a W := by
  refine wpIn_region_any hm (wpAny_round (notDefer_spec hnd) _ _ _ _ ?_)
  have hl : left (Array.replicate ops.size false) = ops.size := by unfold left; simp
  have := any_inv (P := P) (Q := onlyQ Q) (I := I) (fun i hi k hk => by
    simp only [List.all_eq_true, List.mem_range, decide_eq_true_eq] at hlt
    exact hlt i hi k hk) hstep (fun L a w h1 h2 => ⟨rfl, hfin L a w h1 h2⟩) ops.size (Array.replicate ops.size false) a W.drew hl (by simp) (fun i hi => by
      exfalso
      by_cases h : i < ops.size
      · simp [h] at hi
      · simp [h] at hi) h0
  exact this
theorem wpIn_region_invs {id : Nat} {a : Act} {W : World} (I : Array Bool → Act → World → Prop) (hm : P.follows .mixedOrders = true) (hnd : ops.toList.all (fun o => notDefer o) = true) (hlt : (List.range ops.size).all (fun i => (deps .any ops i).all (fun k => decide (k < i))) = true)
    (h0 : I (Array.replicate ops.size false) a W.drew)
    (hfin : ∀ (L : Array Bool) (a : Act) (w : World), (∀ j, j < ops.size → L.getD j false = true) → I L a w → Q .normal a w)
    (hs : InvSteps P ops I 0 ops.toList) : (Code.region id ops true).wpIn (Fence.wide.inRound rl) n P Q a W :=
  wpIn_region_inv I hm hnd hlt h0 (fun L a w k o ho hn hi => by
    have := inv_steps ops.toList 0 hs k o (by simpa using ho) L a w (by rw [Nat.zero_add]; exact hn) hi
    rwa [Nat.zero_add] at this) hfin

theorem wp_listIn_doc (hd : ∀ (i : Nat) (o : Oper), ops[i]? = some o → ∀ c, o.op ≠ .defer c) : ∀ (m k : Nat) (a : Act) (w : World), k + m = ops.size → DoWalkC P ops (fun a' w' => Q .normal a' w') w (ops.toList.drop k) a → wpOpsIn (Fence.wide.inRound rl) n P ops Q (List.range' k m) a w
  | 0, k, a, w, hk, h => by
    rw [List.drop_eq_nil_of_le (by simp; omega)] at h
    exact h
  | m + 1, k, a, w, hk, h => by
    have hlt : k < ops.toList.length := by simp; omega
    rw [List.drop_eq_getElem_cons hlt] at h
    have ho : ops[k]? = some (ops.toList[k]) := by
      rw [← Array.getElem?_toList]; exact List.getElem?_eq_getElem hlt
    generalize ops.toList[k] = o at h ho
    simp only [List.range'_succ, wpOpsIn, ho]
    rcases h with ⟨hg, h⟩ | ⟨hg, h⟩
    · rw [if_pos hg]
      refine ⟨fun _ _ => trivial, ?_⟩
      rw [show (Fence.wide.inRound rl).round = some rl from rfl, Oper.semAt_eq (some rl) a.eval o (hd k o ho)]
      rcases h with ⟨v, w1, h, c⟩ | ⟨w1, h, c⟩ | ⟨f, args, w1, h, c⟩
      · rw [h]; exact wp_listIn_doc hd m (k + 1) _ _ (by omega) c
      · rw [h]; exact wp_listIn_doc hd m (k + 1) _ _ (by omega) c
      · rw [h]
        refine ⟨fun h => (by cases h), CallsIn.inRound rl (callsIn_wide.2 (Calls.mono c fun e w2 ⟨v, he, hw⟩ => ?_))⟩
        subst he
        exact wp_listIn_doc hd m (k + 1) _ _ (by omega) hw
    · rw [if_neg (by rw [hg]; simp)]
      exact ⟨fun _ _ => trivial, wp_listIn_doc hd m (k + 1) _ _ (by omega) h⟩
theorem wpIn_region_doc {id : Nat} (hnd : ops.toList.all (fun o => notDefer o) = true) (h : ∀ F : Act → World → Prop, (∀ a' w', Q .normal a' w' → F a' w') → DoWalkC P ops F W ops.toList a) : (Code.region id ops false).wpIn (Fence.wide.inRound rl) n P Q a W :=
  wpIn_region (by
    have := wp_listIn_doc (P := P) (Q := Q) (rl := rl) (n := n) (notDefer_spec hnd) ops.size 0 a W (by simp) (by simpa using h _ (fun _ _ h => h))
    rwa [← List.range_eq_range'] at this)
end
end Go
set_option linter.unusedVariables false
set_option linter.unusedSimpArgs false
namespace Go.Proofs.Ytidnhnfmbebeaaa
open Go.RowKit

theorem yieldAt_any {F : Fence} (hd : F.depth = none) {m : Nat} (m' : Nat) {P : Program} {l : Nat} {args : Array Value} {W : World} {R : Ending → World → Prop} (h : YieldAt F m P l args W R) : YieldAt F m' P l args W R := by
  obtain ⟨fn, tmps, assign, body, hy, hR⟩ := h
  exact ⟨fn, tmps, assign, body, hy, hR.1, fun c cs _ => hR.2 c cs (fun d h => by rw [hd] at h; cases h)⟩

/-- What speaks of the world stays while only the iterator's own blocks B turn. -/
def AbB {β : Type} (J : β → List Nat → World → Prop) : Prop :=
  ∀ (s : β) (B B' : List Nat) (W W' : World), J s B W → StoStep W W' B B' → J s B' W'

/-- These blocks lie as they lay. -/
def Kept (T : List Nat) (W W' : World) : Prop := W.heap.size ≤ W'.heap.size ∧ ∀ q ∈ T, W'.heap[q]? = W.heap[q]?
theorem Kept.refl (T : List Nat) (W : World) : Kept T W W := ⟨Nat.le_refl _, fun _ _ => rfl⟩
theorem Kept.trans {T : List Nat} {a b c : World} (h : Kept T a b) (k : Kept T b c) : Kept T a c := ⟨Nat.le_trans h.1 k.1, fun q hq => (k.2 q hq).trans (h.2 q hq)⟩
theorem Kept.sub {T U : List Nat} {a b : World} (h : Kept T a b) (hs : ∀ q ∈ U, q ∈ T) : Kept U a b := ⟨h.1, fun q hq => h.2 q (hs q hq)⟩

/-- THE ITERATOR's CONTRACT: it reads the blocks T; what it writes are blocks of its own. -/
def SeqB {α : Type} (P : Program) (g : Nat) (lb : Array Value) (ok : α → Prop) (encs : α → Array Value) (T : List Nat) (S Sp : List α → Prop) (w : World) : Prop :=
  ∀ (l : Nat) (J Jx : List α → List Nat → World → Prop) (W : World), Kept T w W → AbB J → AbB Jx →
    (∀ pre B x W1, J pre B W1 → ok x → (∀ q ∈ T, q ∉ B) → YieldAt Fence.wide 0 P l (encs x) W1 fun e W' =>
      (e = .returned (.bool true) ∧ J (pre ++ [x]) B W' ∧ Kept (T ++ B) W1 W') ∨ (e = .returned (.bool false) ∧ Jx (pre ++ [x]) B W')) →
    J [] [] W →
    Calls P g (#[.func (.yield l) #[] #[]] ++ lb) W fun e W' => (∃ v, e = .returned v) ∧ ((∃ xs B, S xs ∧ J xs B W') ∨ (∃ pre B, Sp pre ∧ Jx pre B W'))

/-- How a round's body may be left. -/
def postB {α : Type} (T B : List Nat) (I : List α → List Nat → World → Prop) (Ix : Code → List α → List Nat → World → Prop) (xs : List α) (W : World) : Exit → Act → World → Prop
  | .normal, _, W' => Kept (T ++ B) W W' ∧ I xs B W'
  | .ret, _, W' => Kept B W W' ∧ Ix .ret xs B W'
  | .exit id, _, W' => Kept B W W' ∧ Ix (.exit id) xs B W'
  | .goto t, _, W' => Kept B W W' ∧ Ix (.goto t) xs B W'
  | .panic _, _, _ => False
  | .outgrown, _, _ => False

theorem Blk.same1 {w : World} {g : Nat} {e : TypeId} {v : Value} (h : w.heap[g]? = some (.cells #[v] e (0, 0))) : w.setCell ⟨g, 0, none⟩ v = w := by
  simp only [World.setCell]
  congr 1
  apply Array.ext_getElem?
  intro i
  rw [Array.getElem?_modify]
  by_cases e : g = i
  · subst e
    rw [h]
    simp
  · rw [if_neg e]
theorem fold_one (p : Tmp) (v : Value) (t : Array Value) : (#[p].zip #[v]).foldl (fun t (x : Tmp × Value) => t.setIfInBounds x.1 x.2) t = t.setIfInBounds p v := by simp

theorem step_alloc (W : World) (B : List Nat) (o : Obj) : StoStep W (W.alloc o) B (W.heap.size :: B) :=
  ⟨rfl, rfl, rfl, by simp, fun k hk _ => Below.heap_alloc W o k hk, fun k hk => by
    rcases List.mem_cons.1 hk with rfl | hk
    · exact .inr ⟨Nat.le_refl _, by simp⟩
    · exact .inl hk⟩
theorem step_putObj (W : World) {B : List Nat} {b : Nat} (hb : b ∈ B) (o : Obj) : StoStep W (W.putObj b o) B B :=
  ⟨rfl, rfl, rfl, by simp, fun k _ hk => World.putObj_heap_other (fun e => hk (by subst e; exact hb)), fun k hk => .inl hk⟩
theorem step_drop {B B' : List Nat} (W : World) (h : ∀ k ∈ B', k ∈ B) : StoStep W W B B' :=
  ⟨rfl, rfl, rfl, Nat.le_refl _, fun _ _ _ => rfl, fun k hk => .inl (h k hk)⟩

theorem wpIn_rangeFunc_b {α : Type} {P : Program} {n : Nat} {g : Operand} {ps : Array Tmp} {assign body : Code} {Q : Exit → Act → World → Prop} {a : Act} {w : World}
    {gf : Nat} {lb : Array Value} (hg : a.eval g = .func (.func gf) #[] lb) (eg : ∀ args w, (callFunc gf args).run P w = .ok (.enter gf args) w)
    {ok : α → Prop} {encs : α → Array Value} {T : List Nat} {S Sp : List α → Prop} (hseq : SeqB P gf lb ok encs T S Sp w) (hT : ∀ q ∈ T, q < w.heap.size) (hps : ∀ x, (encs x).size = ps.size)
    (I : List α → List Nat → World → Prop) (Ix : Code → List α → List Nat → World → Prop) (hI : AbB I) (hIx : ∀ c, AbB (Ix c)) (h0 : I [] [] w)
    (Ax : List α → α → List Nat → Act → World → Prop)
    (hassign : ∀ (l : Nat) (pre : List α) (B : List Nat) (x : α) (W : World) (K : Act → World → Prop), I pre B W → ok x → l ∈ B → (∀ q ∈ B, w.heap.size ≤ q ∧ q < W.heap.size) →
      (∀ a' W', Kept (T ++ B) W W' → (∀ W2, StoStep W' W2 B B → Ax pre x B a' W2) → K a' W') →
      assign.wpIn (Fence.wide.inRound l) n P (Exit.then K (fun _ _ _ => False)) { tmps := (ps.zip (encs x)).foldl (fun t (p, v) => t.setIfInBounds p v) a.tmps, defers := [] } W)
    (hbody : ∀ (l : Nat) (pre : List α) (B : List Nat) (x : α) (a' : Act) (W : World), l ∈ B → (∃ r, W.heap[l]? = some (.loop r)) → (∀ q ∈ B, w.heap.size ≤ q ∧ q < W.heap.size) → (∀ q ∈ T, q ∉ B) → Ax pre x B a' W →
      body.wpIn (Fence.wide.inRound l) n P (postB T B I Ix (pre ++ [x]) W) a' W)
    (hdone : ∀ (D : Nat) (B : List Nat) (xs : List α) (W : World), w.heap.size ≤ D → D ∈ B → S xs → I xs B W → W.heap[D]? = some (.deferred (some [])) → Q .normal { a with defers := { target := .collected D, args := #[] } :: a.defers } W)
    (hstop : ∀ (D : Nat) (B : List Nat) (c : Code) (pre : List α) (W : World), w.heap.size ≤ D → D ∈ B → Sp pre → Ix c pre B W → W.heap[D]? = some (.deferred (some [])) → c.wpIn Fence.wide (n + 1) P Q { a with defers := { target := .collected D, args := #[] } :: a.defers } W) :
    (Code.rangeFunc g ps assign body).wpIn Fence.wide (n + 1) P Q a w := by
  refine wpIn_rangeFunc ?_
  intro fn hfn
  obtain ⟨rec, hrec⟩ : ∃ rec : LoopState → Option Code → Loop, rec = fun st pe => { state := st, pending := pe, fn, tmps := a.tmps, params := ps, assign, body, defers := w.heap.size } := ⟨_, rfl⟩
  obtain ⟨W1, hW1⟩ : ∃ W1, (w.alloc (.deferred (some []))).alloc (.loop (rec .ready none)) = W1 := ⟨_, rfl⟩
  have hL1 : W1.heap[w.heap.size + 1]? = some (.loop (rec .ready none)) := by
    rw [← hW1]; have := World.alloc_heap_new (w.alloc (.deferred (some []))) (.loop (rec .ready none)); rwa [World.size_alloc] at this
  have hK1 : W1.heap[w.heap.size]? = some (.deferred (some [])) := by
    rw [← hW1]; exact (Below.heap_alloc _ _ _ (by simp)).trans (World.alloc_heap_new w _)
  have hst1 : StoStep w W1 [] [w.heap.size + 1, w.heap.size] := by
    have := (step_alloc w [] (.deferred (some []))).trans (step_alloc (w.alloc (.deferred (some []))) _ (.loop (rec .ready none)))
    rw [hW1, World.size_alloc] at this
    exact this
  have hs1 : W1.heap.size = w.heap.size + 2 := by rw [← hW1]; simp
  have hkT : Kept T w W1 := ⟨by omega, fun q hq => hst1.block q (hT q hq) (by simp)⟩
  refine ⟨w.heap.size + 1, [{ target := .collected w.heap.size, args := #[] }], W1, { target := .fn (.func gf) lb, args := #[.func (.yield (w.heap.size + 1)) #[] #[]] }, W1, gf,
    #[.func (.yield (w.heap.size + 1)) #[] #[]] ++ lb, W1, ?_, ?_, fun _ _ => trivial, ?_, fun h => (by cases h), callsIn_wide.2 ?_⟩
  · rw [← hW1, hrec]; exact run_enterLoop_outer _ _ _ _ _
  · simp only [resolve, hg]
    simp [go_sem]
  · simp [invoke, go_sem, eg]
  · have hput : ∀ {W : World} {B : List Nat} (o : Obj), w.heap.size + 1 < W.heap.size → Kept T W (W.putObj (w.heap.size + 1) o) := fun o h =>
      ⟨by simp, fun q hq => World.putObj_heap_other (by have := hT q hq; omega)⟩
    refine (hseq (w.heap.size + 1)
      (fun pre B W => I pre ((w.heap.size + 1) :: w.heap.size :: B) W ∧ (∀ q ∈ B, w.heap.size + 2 ≤ q ∧ q < W.heap.size) ∧ W.heap[w.heap.size + 1]? = some (.loop (rec .ready none)) ∧ W.heap[w.heap.size]? = some (.deferred (some [])))
      (fun pre B W => ∃ c, Ix c pre ((w.heap.size + 1) :: w.heap.size :: B) W ∧ (∀ q ∈ B, w.heap.size + 2 ≤ q ∧ q < W.heap.size) ∧ W.heap[w.heap.size + 1]? = some (.loop (rec .done (some c))) ∧ W.heap[w.heap.size]? = some (.deferred (some [])))
      W1 hkT ?_ ?_ ?_ ⟨hI _ _ _ _ _ h0 hst1, fun q hq => (by cases hq), hL1, hK1⟩).mono ?_
    · rintro s B B' W W' ⟨hi, hB, hl, hk⟩ st
      have hlt : w.heap.size + 1 < W.heap.size := (Array.getElem?_eq_some_iff.1 hl).1
      have hn : ∀ k, k < w.heap.size + 2 → k ∉ B := fun k hk hm => by have := (hB k hm).1; omega
      refine ⟨hI _ _ _ _ _ hi ⟨st.os, st.tape, st.output, st.size, fun k hk hm => st.block k hk (fun hm' => hm (by simp [hm'])), fun k hm => ?_⟩, fun q hq => ?_, (st.block _ hlt (hn _ (by omega))).trans hl, (st.block _ (by omega) (hn _ (by omega))).trans hk⟩
      · simp only [List.mem_cons] at hm ⊢
        rcases hm with rfl | rfl | hm
        · exact .inl (.inl rfl)
        · exact .inl (.inr (.inl rfl))
        · exact (st.fresh k hm).imp (fun h => .inr (.inr h)) id
      · have := st.size
        rcases st.fresh q hq with h | h
        · have := hB q h; omega
        · omega
    · rintro s B B' W W' ⟨c, hi, hB, hl, hk⟩ st
      have hlt : w.heap.size + 1 < W.heap.size := (Array.getElem?_eq_some_iff.1 hl).1
      have hn : ∀ k, k < w.heap.size + 2 → k ∉ B := fun k hk hm => by have := (hB k hm).1; omega
      refine ⟨c, hIx _ _ _ _ _ _ hi ⟨st.os, st.tape, st.output, st.size, fun k hk hm => st.block k hk (fun hm' => hm (by simp [hm'])), fun k hm => ?_⟩, fun q hq => ?_, (st.block _ hlt (hn _ (by omega))).trans hl, (st.block _ (by omega) (hn _ (by omega))).trans hk⟩
      · simp only [List.mem_cons] at hm ⊢
        rcases hm with rfl | rfl | hm
        · exact .inl (.inl rfl)
        · exact .inl (.inr (.inl rfl))
        · exact (st.fresh k hm).imp (fun h => .inr (.inr h)) id
      · have := st.size
        rcases st.fresh q hq with h | h
        · have := hB q h; omega
        · omega
    · -- ONE ROUND
      rintro pre B x W ⟨hi, hB, hl, hk⟩ hok hTB
      have hlt : w.heap.size + 1 < W.heap.size := (Array.getElem?_eq_some_iff.1 hl).1
      have hy := run_yield (P := P) (args := encs x) hl (by rw [hrec]; exact hps x)
      rw [hrec] at hy
      have hBB : ∀ (X : World), W.heap.size ≤ X.heap.size → ∀ q ∈ (w.heap.size + 1) :: w.heap.size :: B, w.heap.size ≤ q ∧ q < X.heap.size := fun X hX q hq => by
        simp only [List.mem_cons] at hq
        rcases hq with rfl | rfl | hq
        · omega
        · omega
        · have := hB q hq; omega
      have hTBB : ∀ q ∈ T, q ∉ (w.heap.size + 1) :: w.heap.size :: B := fun q hq hm => by
        simp only [List.mem_cons] at hm
        have := hT q hq
        rcases hm with rfl | rfl | hm
        · omega
        · omega
        · exact hTB q hq hm
      refine yieldAt_any rfl 0 ⟨fn, _, assign, body, hy, roundIn_of_wpIn (n := n) hfn (hassign _ pre _ x W _ hi hok (by simp) (hBB W (Nat.le_refl _)) ?_)⟩
      clear hy
      intro a' Wa hka hax
      have hla := (hka.2 (w.heap.size + 1) (by simp)).trans hl
      have hda := (hka.2 w.heap.size (by simp)).trans hk
      have hlta : w.heap.size + 1 < Wa.heap.size := (Array.getElem?_eq_some_iff.1 hla).1
      refine ⟨_, run_beginRound hla (by rw [hrec]), ?_⟩
      obtain ⟨Wb, hWb⟩ : ∃ Wb, Wa.putObj (w.heap.size + 1) (.loop { rec .ready none with state := .busy }) = Wb := ⟨_, rfl⟩
      have stb : StoStep Wa Wb ((w.heap.size + 1) :: w.heap.size :: B) ((w.heap.size + 1) :: w.heap.size :: B) := by rw [← hWb]; exact step_putObj _ (by simp) _
      have hlb : Wb.heap[w.heap.size + 1]? = some (.loop { rec .ready none with state := .busy }) := by rw [← hWb]; exact World.putObj_heap_same hlta
      have hdb : Wb.heap[w.heap.size]? = some (.deferred (some [])) := by rw [← hWb]; exact (World.putObj_heap_other (by omega)).trans hda
      have hob : ∀ q, q ≠ w.heap.size + 1 → Wb.heap[q]? = Wa.heap[q]? := fun q hq => by rw [← hWb]; exact World.putObj_heap_other hq
      have hsb : Wb.heap.size = Wa.heap.size := by rw [← hWb]; simp
      rw [hWb]
      refine wpIn_mono (hbody _ pre _ x a' Wb (by simp) ⟨_, hlb⟩ (hBB Wb (by rw [hsb]; exact hka.1)) hTBB (hax Wb stb)) ?_
      clear hbody hassign
      have fin : ∀ (jump : Option Code) (W3 : World), Kept ((w.heap.size + 1) :: w.heap.size :: B) Wb W3 →
          (Instr.endRound (w.heap.size + 1) jump).run P W3 = .ok (.bool jump.isNone) (W3.putObj (w.heap.size + 1) (.loop (rec (if jump.isNone then .ready else .done) jump))) ∧
          (W3.putObj (w.heap.size + 1) (.loop (rec (if jump.isNone then .ready else .done) jump))).heap[w.heap.size + 1]? = some (.loop (rec (if jump.isNone then .ready else .done) jump)) ∧
          (W3.putObj (w.heap.size + 1) (.loop (rec (if jump.isNone then .ready else .done) jump))).heap[w.heap.size]? = some (.deferred (some [])) ∧
          (∀ q ∈ B, w.heap.size + 2 ≤ q ∧ q < (W3.putObj (w.heap.size + 1) (.loop (rec (if jump.isNone then .ready else .done) jump))).heap.size) := fun jump W3 hk3 => by
        have hl3 := (hk3.2 _ (by simp)).trans hlb
        have := run_endRound (P := P) jump hl3
        rw [hrec] at this ⊢
        refine ⟨this, World.putObj_heap_same (Array.getElem?_eq_some_iff.1 hl3).1, (World.putObj_heap_other (by omega)).trans ((hk3.2 _ (by simp)).trans hdb), fun q hq => ?_⟩
        have h1 := hB q hq
        have h2 := hk3.1
        have h3 := hka.1
        simp
        omega
      rintro e a3 W3 hp
      cases e with
      | normal =>
        obtain ⟨hk3, hi3⟩ := hp
        obtain ⟨hr, hl4, hk4, hB4⟩ := fin none W3 (hk3.sub (fun q hq => by simp only [List.mem_append]; exact .inr hq))
        refine ⟨_, _, hr, .inl ⟨rfl, ⟨hI _ _ _ _ _ hi3 (step_putObj _ (by simp) _), hB4, hl4, hk4⟩, ⟨?_, fun q hq => ?_⟩⟩⟩
        · have := hka.1; have := hk3.1; simp; omega
        · have hq1 : q ≠ w.heap.size + 1 := fun e => by
            subst e
            rcases List.mem_append.1 hq with h | h
            · have := hT _ h; omega
            · have := (hB _ h).1; omega
          have hq2 : q ∈ T ++ ((w.heap.size + 1) :: w.heap.size :: B) := by
            rcases List.mem_append.1 hq with h | h
            · simp [h]
            · simp [h]
          exact (World.putObj_heap_other hq1).trans ((hk3.2 q hq2).trans ((hob q hq1).trans (hka.2 q hq2)))
      | ret =>
        obtain ⟨hk3, hi3⟩ := hp
        obtain ⟨hr, hl4, hk4, hB4⟩ := fin (some .ret) W3 hk3
        exact ⟨_, _, hr, .inr ⟨rfl, .ret, hIx _ _ _ _ _ _ hi3 (step_putObj _ (by simp) _), hB4, hl4, hk4⟩⟩
      | exit id =>
        obtain ⟨hk3, hi3⟩ := hp
        obtain ⟨hr, hl4, hk4, hB4⟩ := fin (some (.exit id)) W3 hk3
        exact ⟨_, _, hr, .inr ⟨rfl, .exit id, hIx _ _ _ _ _ _ hi3 (step_putObj _ (by simp) _), hB4, hl4, hk4⟩⟩
      | goto t =>
        obtain ⟨hk3, hi3⟩ := hp
        obtain ⟨hr, hl4, hk4, hB4⟩ := fin (some (.goto t)) W3 hk3
        exact ⟨_, _, hr, .inr ⟨rfl, .goto t, hIx _ _ _ _ _ _ hi3 (step_putObj _ (by simp) _), hB4, hl4, hk4⟩⟩
      | panic ch => exact hp.elim
      | outgrown => exact hp.elim
    · -- BEHIND THE ITERATOR
      rintro e W2 ⟨⟨v, rfl⟩, (⟨xs, B, hS, hi, hB, hl, hk⟩ | ⟨pre, B, hSp, c, hi, hB, hl, hk⟩)⟩
      · exact ⟨none, _, by have := run_endLoop (P := P) hl (by rw [hrec]; simp); rw [hrec] at this; exact this,
          hdone _ ((w.heap.size + 1) :: w.heap.size :: B) xs _ (Nat.le_refl _) (by simp) hS (hI _ _ _ _ _ hi (step_putObj _ (by simp) _)) ((World.putObj_heap_other (by omega)).trans hk)⟩
      · exact ⟨some c, _, by have := run_endLoop (P := P) hl (by rw [hrec]; simp); rw [hrec] at this; exact this,
          hstop _ ((w.heap.size + 1) :: w.heap.size :: B) c pre _ (Nat.le_refl _) (by simp) hSp (hIx _ _ _ _ _ _ hi (step_putObj _ (by simp) _)) ((World.putObj_heap_other (by omega)).trans hk)⟩

end Go.Proofs.Ytidnhnfmbebeaaa
set_option linter.unusedVariables false
set_option linter.unusedSimpArgs false
namespace Go
open Go.RowKit
section
variable {P : Program} {ops : Array Oper} {Q : Exit → Act → World → Prop} {W W1 : World} {F : Act → World → Prop} {o : Oper} {r : List Oper} {a : Act} {v : Value}
/-- As DoWalkC; a round may be called too. -/
def DoWalkY (P : Program) (ops : Array Oper) (F : Act → World → Prop) : World → List Oper → Act → Prop
  | w, [], a => F a w
  | w, o :: r, a =>
    (Region.wanted o (yielded ops a.tmps) = true ∧
      ((∃ v w1, (execOp a.eval o).run P w = .ok (.value v) w1 ∧ DoWalkY P ops F w1 r (a.put o.dst v)) ∨
       (∃ w1, (execOp a.eval o).run P w = .ok .skip w1 ∧ DoWalkY P ops F w1 r (a.put o.dst undef)) ∨
       (∃ f args w1, (execOp a.eval o).run P w = .ok (.enter f args) w1 ∧ Calls P f args w1 fun e w2 => ∃ v, e = .returned v ∧ DoWalkY P ops F w2 r (a.put o.dst v)) ∨
       (∃ l f tmps assign body w1, (execOp a.eval o).run P w = .ok (.round l f tmps assign body) w1 ∧ RoundIn Fence.wide 0 P l f tmps assign body w1 fun e w2 => ∃ v, e = .returned v ∧ DoWalkY P ops F w2 r (a.put o.dst v)))) ∨
    (Region.wanted o (yielded ops a.tmps) = false ∧ DoWalkY P ops F w r (a.put o.dst undef))
theorem dy_val (hg : Region.wanted o (yielded ops a.tmps) = true) (h : (execOp a.eval o).run P W = .ok (.value v) W1) (c : DoWalkY P ops F W1 r (a.put o.dst v)) : DoWalkY P ops F W (o :: r) a := .inl ⟨hg, .inl ⟨v, W1, h, c⟩⟩
theorem dy_skip (hg : Region.wanted o (yielded ops a.tmps) = true) (h : (execOp a.eval o).run P W = .ok .skip W1) (c : DoWalkY P ops F W1 r (a.put o.dst undef)) : DoWalkY P ops F W (o :: r) a := .inl ⟨hg, .inr (.inl ⟨W1, h, c⟩)⟩
theorem dy_call {f : FuncId} {args : Array Value} (hg : Region.wanted o (yielded ops a.tmps) = true) (h : (execOp a.eval o).run P W = .ok (.enter f args) W1)
    (c : Calls P f args W1 fun e w2 => ∃ v, e = .returned v ∧ DoWalkY P ops F w2 r (a.put o.dst v)) : DoWalkY P ops F W (o :: r) a := .inl ⟨hg, .inr (.inr (.inl ⟨f, args, W1, h, c⟩))⟩
theorem dy_round {l : Nat} {f : FuncId} {tmps : Array Value} {assign body : Code} (hg : Region.wanted o (yielded ops a.tmps) = true) (h : (execOp a.eval o).run P W = .ok (.round l f tmps assign body) W1)
    (c : RoundIn Fence.wide 0 P l f tmps assign body W1 fun e w2 => ∃ v, e = .returned v ∧ DoWalkY P ops F w2 r (a.put o.dst v)) : DoWalkY P ops F W (o :: r) a := .inl ⟨hg, .inr (.inr (.inr ⟨l, f, tmps, assign, body, W1, h, c⟩))⟩
theorem dy_not (hg : Region.wanted o (yielded ops a.tmps) = false) (c : DoWalkY P ops F W r (a.put o.dst undef)) : DoWalkY P ops F W (o :: r) a := .inr ⟨hg, c⟩
theorem dy_end (c : F a W) : DoWalkY P ops F W [] a := c
theorem wp_list_dy (hd : ∀ (i : Nat) (o : Oper), ops[i]? = some o → ∀ c, o.op ≠ .defer c) : ∀ (m k : Nat) (a : Act) (w : World), k + m = ops.size → DoWalkY P ops (fun a' w' => Q .normal a' w') w (ops.toList.drop k) a → wpOpsIn Fence.wide 1 P ops Q (List.range' k m) a w
  | 0, k, a, w, hk, h => by
    rw [List.drop_eq_nil_of_le (by simp; omega)] at h
    exact h
  | m + 1, k, a, w, hk, h => by
    have hlt : k < ops.toList.length := by simp; omega
    rw [List.drop_eq_getElem_cons hlt] at h
    have ho : ops[k]? = some (ops.toList[k]) := by
      rw [← Array.getElem?_toList]; exact List.getElem?_eq_getElem hlt
    generalize ops.toList[k] = o at h ho
    simp only [List.range'_succ, wpOpsIn, ho]
    rcases h with ⟨hg, h⟩ | ⟨hg, h⟩
    · rw [if_pos hg]
      refine ⟨fun _ _ => trivial, ?_⟩
      rw [show Fence.wide.round = none from rfl, Oper.semAt_eq none a.eval o (hd k o ho)]
      rcases h with ⟨v, w1, h, c⟩ | ⟨w1, h, c⟩ | ⟨f, args, w1, h, c⟩ | ⟨l, f, tmps, assign, body, w1, h, c⟩
      · rw [h]; exact wp_list_dy hd m (k + 1) _ _ (by omega) c
      · rw [h]; exact wp_list_dy hd m (k + 1) _ _ (by omega) c
      · rw [h]
        refine ⟨fun h => (by cases h), callsIn_wide.2 (Calls.mono c fun e w2 ⟨v, he, hw⟩ => ?_)⟩
        subst he
        exact wp_list_dy hd m (k + 1) _ _ (by omega) hw
      · rw [h]
        refine ⟨fun h => (by cases h), RoundIn.mono c fun e w2 ⟨v, he, hw⟩ => ?_⟩
        subst he
        exact wp_list_dy hd m (k + 1) _ _ (by omega) hw
    · rw [if_neg (by rw [hg]; simp)]
      exact ⟨fun _ _ => trivial, wp_list_dy hd m (k + 1) _ _ (by omega) h⟩
theorem wp_region_dy {id : Nat} (hnd : ops.toList.all (fun o => notDefer o) = true) (h : ∀ F : Act → World → Prop, (∀ a' w', Q .normal a' w' → F a' w') → DoWalkY P ops F W ops.toList a) : (Code.region id ops false).wp P Q a W :=
  wpIn_wide.1 (wpIn_region (by
    have := wp_list_dy (P := P) (Q := Q) (notDefer_spec hnd) ops.size 0 a W (by simp) (by simpa using h _ (fun _ _ h => h))
    rwa [← List.range_eq_range'] at this))

theorem run_call_yield {l : Nat} {xs : Array Value} {res : Result Next} (h : (Instr.yield l xs).run P W = res) : (callVal (.func (.yield l) #[] #[]) xs).run P W = res := by
  have e : callVal (.func (.yield l) #[] #[]) xs = Instr.yield l (#[] ++ xs) := rfl
  rw [e]
  simpa using h

/-- A function that holds a range over a function. -/
theorem calls_of_marks {f : FuncId} {fn : Func} {c : Code} {args : Array Value} {w : World} {R : Ending → World → Prop}
    (hf : P.funcs[f]? = some fn) (hb : fn.body = some c)
    (h : c.wp P (bodyPostM Fence.wide 1 P fn R) { tmps := args ++ Array.replicate (fn.ntmps - args.size) undef, defers := [] } w) : Calls P f args w R :=
  callsIn_wide.1 (callsIn_of_wp_marks (n := 1) hf hb trivial (wpIn_wide.2 h) rfl)
/-- A function leaves with one mark. -/
theorem leave_mark {fn : Func} {R : Ending → World → Prop} {tmps : Array Value} {D : Nat} {w : World} (hK : w.heap[D]? = some (.deferred (some [])))
    (h : ∃ v, (results fn tmps).run P (w.putObj D (.deferred none)) = .ok v (w.putObj D (.deferred none)) ∧ R (.returned v) (w.putObj D (.deferred none))) :
    bodyPostM Fence.wide 1 P fn R .ret { tmps := tmps, defers := [{ target := .collected D, args := #[] }] } w :=
  ⟨by simp, .inl ⟨_, _, rfl, run_takeDeferred hK, h⟩⟩
end
end Go
set_option linter.unusedVariables false
set_option linter.unusedSimpArgs false
namespace Go.Proofs.Ytidnhnfmbebeaaa
open Go.RowKit

theorem Kept.of_below {T : List Nat} {W W' : World} (h : Below W.heap.size W W') (hT : ∀ q ∈ T, q < W.heap.size) : Kept T W W' := ⟨h.size, fun q hq => h.block q (hT q hq)⟩
theorem step_below {B B' : List Nat} {W W' : World} (h : Below W.heap.size W W') (hB : ∀ k ∈ B', k ∈ B ∨ (W.heap.size ≤ k ∧ k < W'.heap.size)) : StoStep W W' B B' :=
  ⟨h.os, h.tape, h.output, h.size, fun k hk _ => h.block k hk, hB⟩
/-- The iterator's contract where no round stops it. -/
def SeqA {α : Type} (P : Program) (g : Nat) (lb : Array Value) (ok : List α → α → Prop) (encs : α → Array Value) (T : List Nat) (S Sp : List α → Prop) (w : World) : Prop :=
  ∀ (l : Nat) (J Jx : List α → List Nat → World → Prop) (W : World), Kept T w W → AbB J → AbB Jx → (∀ s B W, ¬ Jx s B W) →
    (∀ pre B x W1, J pre B W1 → ok pre x → (∀ q ∈ T, q ∉ B) → YieldAt Fence.wide 0 P l (encs x) W1 fun e W' =>
      (e = .returned (.bool true) ∧ J (pre ++ [x]) B W' ∧ Kept (T ++ B) W1 W') ∨ (e = .returned (.bool false) ∧ Jx (pre ++ [x]) B W')) →
    J [] [] W →
    Calls P g (#[.func (.yield l) #[] #[]] ++ lb) W fun e W' => (∃ v, e = .returned v) ∧ ((∃ xs B, S xs ∧ J xs B W') ∨ (∃ pre B, Sp pre ∧ Jx pre B W'))

theorem wpIn_rangeFunc_a {α : Type} {P : Program} {n : Nat} {g : Operand} {ps : Array Tmp} {assign body : Code} {Q : Exit → Act → World → Prop} {a : Act} {w : World}
    {gf : Nat} {lb : Array Value} (hg : a.eval g = .func (.func gf) #[] lb) (eg : ∀ args w, (callFunc gf args).run P w = .ok (.enter gf args) w)
    {ok : List α → α → Prop} {encs : α → Array Value} {T : List Nat} {S Sp : List α → Prop} (hseq : SeqA P gf lb ok encs T S Sp w) (hT : ∀ q ∈ T, q < w.heap.size) (hps : ∀ x, (encs x).size = ps.size)
    (I : List α → List Nat → World → Prop) (Ix : Code → List α → List Nat → World → Prop) (hF : ∀ c s B W, ¬ Ix c s B W) (hI : AbB I) (hIx : ∀ c, AbB (Ix c)) (h0 : I [] [] w)
    (Ax : List α → α → List Nat → Act → World → Prop)
    (hassign : ∀ (l : Nat) (pre : List α) (B : List Nat) (x : α) (W : World) (K : Act → World → Prop), I pre B W → ok pre x → l ∈ B → (∀ q ∈ B, w.heap.size ≤ q ∧ q < W.heap.size) →
      (∀ a' W', Kept (T ++ B) W W' → (∀ W2, StoStep W' W2 B B → Ax pre x B a' W2) → K a' W') →
      assign.wpIn (Fence.wide.inRound l) n P (Exit.then K (fun _ _ _ => False)) { tmps := (ps.zip (encs x)).foldl (fun t (p, v) => t.setIfInBounds p v) a.tmps, defers := [] } W)
    (hbody : ∀ (l : Nat) (pre : List α) (B : List Nat) (x : α) (a' : Act) (W : World), l ∈ B → (∃ r, W.heap[l]? = some (.loop r)) → (∀ q ∈ B, w.heap.size ≤ q ∧ q < W.heap.size) → (∀ q ∈ T, q ∉ B) → Ax pre x B a' W →
      body.wpIn (Fence.wide.inRound l) n P (postB T B I Ix (pre ++ [x]) W) a' W)
    (hdone : ∀ (D : Nat) (B : List Nat) (xs : List α) (W : World), w.heap.size ≤ D → D ∈ B → S xs → I xs B W → W.heap[D]? = some (.deferred (some [])) → Q .normal { a with defers := { target := .collected D, args := #[] } :: a.defers } W)
    (hstop : ∀ (D : Nat) (B : List Nat) (c : Code) (pre : List α) (W : World), w.heap.size ≤ D → D ∈ B → Sp pre → Ix c pre B W → W.heap[D]? = some (.deferred (some [])) → c.wpIn Fence.wide (n + 1) P Q { a with defers := { target := .collected D, args := #[] } :: a.defers } W) :
    (Code.rangeFunc g ps assign body).wpIn Fence.wide (n + 1) P Q a w := by
  refine wpIn_rangeFunc ?_
  intro fn hfn
  obtain ⟨rec, hrec⟩ : ∃ rec : LoopState → Option Code → Loop, rec = fun st pe => { state := st, pending := pe, fn, tmps := a.tmps, params := ps, assign, body, defers := w.heap.size } := ⟨_, rfl⟩
  obtain ⟨W1, hW1⟩ : ∃ W1, (w.alloc (.deferred (some []))).alloc (.loop (rec .ready none)) = W1 := ⟨_, rfl⟩
  have hL1 : W1.heap[w.heap.size + 1]? = some (.loop (rec .ready none)) := by
    rw [← hW1]; have := World.alloc_heap_new (w.alloc (.deferred (some []))) (.loop (rec .ready none)); rwa [World.size_alloc] at this
  have hK1 : W1.heap[w.heap.size]? = some (.deferred (some [])) := by
    rw [← hW1]; exact (Below.heap_alloc _ _ _ (by simp)).trans (World.alloc_heap_new w _)
  have hst1 : StoStep w W1 [] [w.heap.size + 1, w.heap.size] := by
    have := (step_alloc w [] (.deferred (some []))).trans (step_alloc (w.alloc (.deferred (some []))) _ (.loop (rec .ready none)))
    rw [hW1, World.size_alloc] at this
    exact this
  have hs1 : W1.heap.size = w.heap.size + 2 := by rw [← hW1]; simp
  have hkT : Kept T w W1 := ⟨by omega, fun q hq => hst1.block q (hT q hq) (by simp)⟩
  refine ⟨w.heap.size + 1, [{ target := .collected w.heap.size, args := #[] }], W1, { target := .fn (.func gf) lb, args := #[.func (.yield (w.heap.size + 1)) #[] #[]] }, W1, gf,
    #[.func (.yield (w.heap.size + 1)) #[] #[]] ++ lb, W1, ?_, ?_, fun _ _ => trivial, ?_, fun h => (by cases h), callsIn_wide.2 ?_⟩
  · rw [← hW1, hrec]; exact run_enterLoop_outer _ _ _ _ _
  · simp only [resolve, hg]
    simp [go_sem]
  · simp [invoke, go_sem, eg]
  · have hput : ∀ {W : World} {B : List Nat} (o : Obj), w.heap.size + 1 < W.heap.size → Kept T W (W.putObj (w.heap.size + 1) o) := fun o h =>
      ⟨by simp, fun q hq => World.putObj_heap_other (by have := hT q hq; omega)⟩
    refine (hseq (w.heap.size + 1)
      (fun pre B W => I pre ((w.heap.size + 1) :: w.heap.size :: B) W ∧ (∀ q ∈ B, w.heap.size + 2 ≤ q ∧ q < W.heap.size) ∧ W.heap[w.heap.size + 1]? = some (.loop (rec .ready none)) ∧ W.heap[w.heap.size]? = some (.deferred (some [])))
      (fun pre B W => ∃ c, Ix c pre ((w.heap.size + 1) :: w.heap.size :: B) W ∧ (∀ q ∈ B, w.heap.size + 2 ≤ q ∧ q < W.heap.size) ∧ W.heap[w.heap.size + 1]? = some (.loop (rec .done (some c))) ∧ W.heap[w.heap.size]? = some (.deferred (some [])))
      W1 hkT ?_ ?_ (fun s B W hx => by obtain ⟨c, hi, -⟩ := hx; exact hF _ _ _ _ hi) ?_ ⟨hI _ _ _ _ _ h0 hst1, fun q hq => (by cases hq), hL1, hK1⟩).mono ?_
    · rintro s B B' W W' ⟨hi, hB, hl, hk⟩ st
      have hlt : w.heap.size + 1 < W.heap.size := (Array.getElem?_eq_some_iff.1 hl).1
      have hn : ∀ k, k < w.heap.size + 2 → k ∉ B := fun k hk hm => by have := (hB k hm).1; omega
      refine ⟨hI _ _ _ _ _ hi ⟨st.os, st.tape, st.output, st.size, fun k hk hm => st.block k hk (fun hm' => hm (by simp [hm'])), fun k hm => ?_⟩, fun q hq => ?_, (st.block _ hlt (hn _ (by omega))).trans hl, (st.block _ (by omega) (hn _ (by omega))).trans hk⟩
      · simp only [List.mem_cons] at hm ⊢
        rcases hm with rfl | rfl | hm
        · exact .inl (.inl rfl)
        · exact .inl (.inr (.inl rfl))
        · exact (st.fresh k hm).imp (fun h => .inr (.inr h)) id
      · have := st.size
        rcases st.fresh q hq with h | h
        · have := hB q h; omega
        · omega
    · rintro s B B' W W' ⟨c, hi, hB, hl, hk⟩ st
      have hlt : w.heap.size + 1 < W.heap.size := (Array.getElem?_eq_some_iff.1 hl).1
      have hn : ∀ k, k < w.heap.size + 2 → k ∉ B := fun k hk hm => by have := (hB k hm).1; omega
      refine ⟨c, hIx _ _ _ _ _ _ hi ⟨st.os, st.tape, st.output, st.size, fun k hk hm => st.block k hk (fun hm' => hm (by simp [hm'])), fun k hm => ?_⟩, fun q hq => ?_, (st.block _ hlt (hn _ (by omega))).trans hl, (st.block _ (by omega) (hn _ (by omega))).trans hk⟩
      · simp only [List.mem_cons] at hm ⊢
        rcases hm with rfl | rfl | hm
        · exact .inl (.inl rfl)
        · exact .inl (.inr (.inl rfl))
        · exact (st.fresh k hm).imp (fun h => .inr (.inr h)) id
      · have := st.size
        rcases st.fresh q hq with h | h
        · have := hB q h; omega
        · omega
    · -- ONE ROUND
      rintro pre B x W ⟨hi, hB, hl, hk⟩ hok hTB
      have hlt : w.heap.size + 1 < W.heap.size := (Array.getElem?_eq_some_iff.1 hl).1
      have hy := run_yield (P := P) (args := encs x) hl (by rw [hrec]; exact hps x)
      rw [hrec] at hy
      have hBB : ∀ (X : World), W.heap.size ≤ X.heap.size → ∀ q ∈ (w.heap.size + 1) :: w.heap.size :: B, w.heap.size ≤ q ∧ q < X.heap.size := fun X hX q hq => by
        simp only [List.mem_cons] at hq
        rcases hq with rfl | rfl | hq
        · omega
        · omega
        · have := hB q hq; omega
      have hTBB : ∀ q ∈ T, q ∉ (w.heap.size + 1) :: w.heap.size :: B := fun q hq hm => by
        simp only [List.mem_cons] at hm
        have := hT q hq
        rcases hm with rfl | rfl | hm
        · omega
        · omega
        · exact hTB q hq hm
      refine yieldAt_any rfl 0 ⟨fn, _, assign, body, hy, roundIn_of_wpIn (n := n) hfn (hassign _ pre _ x W _ hi hok (by simp) (hBB W (Nat.le_refl _)) ?_)⟩
      clear hy
      intro a' Wa hka hax
      have hla := (hka.2 (w.heap.size + 1) (by simp)).trans hl
      have hda := (hka.2 w.heap.size (by simp)).trans hk
      have hlta : w.heap.size + 1 < Wa.heap.size := (Array.getElem?_eq_some_iff.1 hla).1
      refine ⟨_, run_beginRound hla (by rw [hrec]), ?_⟩
      obtain ⟨Wb, hWb⟩ : ∃ Wb, Wa.putObj (w.heap.size + 1) (.loop { rec .ready none with state := .busy }) = Wb := ⟨_, rfl⟩
      have stb : StoStep Wa Wb ((w.heap.size + 1) :: w.heap.size :: B) ((w.heap.size + 1) :: w.heap.size :: B) := by rw [← hWb]; exact step_putObj _ (by simp) _
      have hlb : Wb.heap[w.heap.size + 1]? = some (.loop { rec .ready none with state := .busy }) := by rw [← hWb]; exact World.putObj_heap_same hlta
      have hdb : Wb.heap[w.heap.size]? = some (.deferred (some [])) := by rw [← hWb]; exact (World.putObj_heap_other (by omega)).trans hda
      have hob : ∀ q, q ≠ w.heap.size + 1 → Wb.heap[q]? = Wa.heap[q]? := fun q hq => by rw [← hWb]; exact World.putObj_heap_other hq
      have hsb : Wb.heap.size = Wa.heap.size := by rw [← hWb]; simp
      rw [hWb]
      refine wpIn_mono (hbody _ pre _ x a' Wb (by simp) ⟨_, hlb⟩ (hBB Wb (by rw [hsb]; exact hka.1)) hTBB (hax Wb stb)) ?_
      clear hbody hassign
      have fin : ∀ (jump : Option Code) (W3 : World), Kept ((w.heap.size + 1) :: w.heap.size :: B) Wb W3 →
          (Instr.endRound (w.heap.size + 1) jump).run P W3 = .ok (.bool jump.isNone) (W3.putObj (w.heap.size + 1) (.loop (rec (if jump.isNone then .ready else .done) jump))) ∧
          (W3.putObj (w.heap.size + 1) (.loop (rec (if jump.isNone then .ready else .done) jump))).heap[w.heap.size + 1]? = some (.loop (rec (if jump.isNone then .ready else .done) jump)) ∧
          (W3.putObj (w.heap.size + 1) (.loop (rec (if jump.isNone then .ready else .done) jump))).heap[w.heap.size]? = some (.deferred (some [])) ∧
          (∀ q ∈ B, w.heap.size + 2 ≤ q ∧ q < (W3.putObj (w.heap.size + 1) (.loop (rec (if jump.isNone then .ready else .done) jump))).heap.size) := fun jump W3 hk3 => by
        have hl3 := (hk3.2 _ (by simp)).trans hlb
        have := run_endRound (P := P) jump hl3
        rw [hrec] at this ⊢
        refine ⟨this, World.putObj_heap_same (Array.getElem?_eq_some_iff.1 hl3).1, (World.putObj_heap_other (by omega)).trans ((hk3.2 _ (by simp)).trans hdb), fun q hq => ?_⟩
        have h1 := hB q hq
        have h2 := hk3.1
        have h3 := hka.1
        simp
        omega
      rintro e a3 W3 hp
      cases e with
      | normal =>
        obtain ⟨hk3, hi3⟩ := hp
        obtain ⟨hr, hl4, hk4, hB4⟩ := fin none W3 (hk3.sub (fun q hq => by simp only [List.mem_append]; exact .inr hq))
        refine ⟨_, _, hr, .inl ⟨rfl, ⟨hI _ _ _ _ _ hi3 (step_putObj _ (by simp) _), hB4, hl4, hk4⟩, ⟨?_, fun q hq => ?_⟩⟩⟩
        · have := hka.1; have := hk3.1; simp; omega
        · have hq1 : q ≠ w.heap.size + 1 := fun e => by
            subst e
            rcases List.mem_append.1 hq with h | h
            · have := hT _ h; omega
            · have := (hB _ h).1; omega
          have hq2 : q ∈ T ++ ((w.heap.size + 1) :: w.heap.size :: B) := by
            rcases List.mem_append.1 hq with h | h
            · simp [h]
            · simp [h]
          exact (World.putObj_heap_other hq1).trans ((hk3.2 q hq2).trans ((hob q hq1).trans (hka.2 q hq2)))
      | ret =>
        obtain ⟨hk3, hi3⟩ := hp
        obtain ⟨hr, hl4, hk4, hB4⟩ := fin (some .ret) W3 hk3
        exact ⟨_, _, hr, .inr ⟨rfl, .ret, hIx _ _ _ _ _ _ hi3 (step_putObj _ (by simp) _), hB4, hl4, hk4⟩⟩
      | exit id =>
        obtain ⟨hk3, hi3⟩ := hp
        obtain ⟨hr, hl4, hk4, hB4⟩ := fin (some (.exit id)) W3 hk3
        exact ⟨_, _, hr, .inr ⟨rfl, .exit id, hIx _ _ _ _ _ _ hi3 (step_putObj _ (by simp) _), hB4, hl4, hk4⟩⟩
      | goto t =>
        obtain ⟨hk3, hi3⟩ := hp
        obtain ⟨hr, hl4, hk4, hB4⟩ := fin (some (.goto t)) W3 hk3
        exact ⟨_, _, hr, .inr ⟨rfl, .goto t, hIx _ _ _ _ _ _ hi3 (step_putObj _ (by simp) _), hB4, hl4, hk4⟩⟩
      | panic ch => exact hp.elim
      | outgrown => exact hp.elim
    · -- BEHIND THE ITERATOR
      rintro e W2 ⟨⟨v, rfl⟩, (⟨xs, B, hS, hi, hB, hl, hk⟩ | ⟨pre, B, hSp, c, hi, hB, hl, hk⟩)⟩
      · exact ⟨none, _, by have := run_endLoop (P := P) hl (by rw [hrec]; simp); rw [hrec] at this; exact this,
          hdone _ ((w.heap.size + 1) :: w.heap.size :: B) xs _ (Nat.le_refl _) (by simp) hS (hI _ _ _ _ _ hi (step_putObj _ (by simp) _)) ((World.putObj_heap_other (by omega)).trans hk)⟩
      · exact ⟨some c, _, by have := run_endLoop (P := P) hl (by rw [hrec]; simp); rw [hrec] at this; exact this,
          hstop _ ((w.heap.size + 1) :: w.heap.size :: B) c pre _ (Nat.le_refl _) (by simp) hSp (hIx _ _ _ _ _ _ hi (step_putObj _ (by simp) _)) ((World.putObj_heap_other (by omega)).trans hk)⟩

end Go.Proofs.Ytidnhnfmbebeaaa
