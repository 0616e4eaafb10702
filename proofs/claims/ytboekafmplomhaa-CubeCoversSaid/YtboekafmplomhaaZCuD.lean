/-
  Regions in a round of a range over a function: our own region laws, inside the round.
-/
import Derived.Test.YtboekafmplomhaaZInv
import Derived.Test.YtboekafmplomhaaZDoC
import Derived.OrdersIn
import Derived.RangeFuncCalls
import Derived.Test.YtboekafmplomhaaZSto
import Derived.RangeFuncBound
import Derived.RangeFuncLeaves
import Derived.OwnWalkIn
import Derived.TacticsInMore
import Derived.LoopIn
import Derived.Test.YtboekafmplomhaaZCuA
set_option linter.unusedVariables false
set_option linter.unusedSimpArgs false
namespace Go
open Go.RowKit

section
variable {P : Program} {ops : Array Oper} {Q : Exit → Act → World → Prop} {S : Array Bool → World → Prop} {W : World} {a : Act} {rl n : Nat}

/-- A way out but the plain one is none. -/
def onlyQ (Q : Exit → Act → World → Prop) : Exit → Act → World → Prop := fun e a w => e = .normal ∧ Q e a w
theorem onlyQ_out {Q : Exit → Act → World → Prop} : ¬ LetsOut (onlyQ Q) := fun h => by
  obtain ⟨a, w, h⟩ := h
  cases h.1
def notDefer (o : Oper) : Bool := match o.op with | .defer _ => false | _ => true
theorem notDefer_spec (h : ops.toList.all (fun o => notDefer o) = true) : ∀ (i : Nat) (o : Oper), ops[i]? = some o → ∀ c, o.op ≠ .defer c := by
  intro i o hi c hc
  rw [List.all_eq_true] at h
  have := h o (by
    obtain ⟨hlt, rfl⟩ := Array.getElem?_eq_some_iff.1 hi
    simp)
  unfold notDefer at this
  rw [hc] at this
  cases this

theorem rowsIn_of {row : String} {args : Array Value} {w : World} {R : Value → World → Prop} (h : Rows P row args w R) : RowsIn Fence.wide n P row args w R :=
  fun c cs _ => let ⟨v, w', r, s⟩ := h c cs; ⟨v, w', r, stepsIn_wide.2 s⟩

theorem wp_round {o : Oper} {w : World} {K : Act → World → Prop} (hd : ∀ c, o.op ≠ .defer c) (h : o.wp P a w K (onlyQ Q)) : o.wpIn (Fence.wide.inRound rl) n P a w K Q := by
  refine ⟨fun _ _ => trivial, ?_⟩
  rw [show (Fence.wide.inRound rl).round = some rl from rfl, Oper.semAt_eq (some rl) a.eval o hd]
  unfold Oper.wp at h
  generalize (execOp a.eval o).run P w = r at *
  cases r with
  | halt x w' =>
    cases x with
    | panic v => exact absurd h.1 (by simp)
    | _ => exact h.elim
  | ok m w' =>
    cases m with
    | value v => exact h
    | skip => exact h
    | «defer» d => exact h
    | enter f args =>
      refine ⟨fun h => (by cases h), CallsIn.inRound rl (callsIn_wide.2 (Calls.mono h fun e w2 he => ?_))⟩
      cases e with
      | returned v => exact he
      | panicked ch => exact absurd he.1 (by simp)
      | outgrown => exact absurd he onlyQ_out
    | row row args => exact ⟨fun h => (by cases h), rowsIn_of h⟩
    | _ => exact h.elim

theorem wpAny_round {md : Region.Mode} (hd : ∀ (i : Nat) (o : Oper), ops[i]? = some o → ∀ c, o.op ≠ .defer c) : ∀ (fuel : Nat) (L : Array Bool) (a : Act) (w : World),
    wpAny P md ops (onlyQ Q) fuel L a w → wpAnyIn (Fence.wide.inRound rl) n P md ops Q fuel L a w
  | 0, L, a, w, h => ⟨h.1, h.2.2⟩
  | fuel + 1, L, a, w, h => ⟨fun h0 => (h.1 h0).2, fun i hi => by
    have h2 := h.2 i hi
    unfold wpOp at h2
    unfold wpOpIn
    cases ho : ops[i]? with
    | none =>
      simp only [ho] at h2
      exact wpAny_round hd fuel _ a w h2
    | some o =>
      simp only [ho] at h2
      simp only
      split
      · rename_i hw
        rw [if_pos hw] at h2
        rcases h2 with h2 | h2
        · exact Oper.wpIn_mono (fun a w hk => wpAny_round hd fuel _ a w hk) (wp_round (hd i o ho) h2)
        · exact absurd h2.2 onlyQ_out
      · rename_i hw
        rw [if_neg hw] at h2
        exact ⟨fun _ _ => trivial, wpAny_round hd fuel _ _ w h2⟩⟩

theorem wpIn_region_chain {id : Nat} {a : Act} {w : World} (hm : P.follows .mixedOrders = true) (hnd : ops.toList.all (fun o => notDefer o) = true) (hok : textOk .any ops = true) (hS : S (Array.replicate ops.size false) w.drew)
    (l : List Ent) (h1 : l.map (·.i) = List.range' 0 ops.size) (h2 : l.map (·.o) = ops.toList) (h3 : Chain P .any ops S l a)
    (h4 : ∀ L w', L.size = ops.size → (∀ j, j < ops.size → L.getD j false = true) → S L w' → Q .normal (puts l a) w') : (Code.region id ops true).wpIn (Fence.wide.inRound rl) n P Q a w := by
  refine wpIn_region_any hm (wpAny_round (notDefer_spec hnd) _ _ _ _ ?_)
  simp only [textOk, Bool.and_eq_true, Bool.or_eq_true, List.all_eq_true, List.mem_range, decide_eq_true_eq] at hok
  obtain ⟨⟨hs, hlt⟩, hpr⟩ := hok
  have hlen : l.length = ops.size := by
    have := congrArg List.length h2
    simpa using this
  have hat : ∀ (j : Nat) (hj : j < l.length), l[j].i = j ∧ ops[j]? = some l[j].o := fun j hj => by
    constructor
    · have e1 : (l.map (·.i))[j]? = (List.range' 0 ops.size)[j]? := by rw [h1]
      simp only [List.getElem?_map, List.getElem?_eq_getElem hj, Option.map_some] at e1
      rw [List.getElem?_range' (by omega)] at e1
      simpa using e1
    · have e2 : (l.map (·.o))[j]? = (ops.toList)[j]? := by rw [h2]
      simp only [List.getElem?_map, List.getElem?_eq_getElem hj, Option.map_some] at e2
      simpa using e2.symm
  have hmem : ∀ x ∈ l, x.i < ops.size ∧ ops[x.i]? = some x.o := fun x hx => by
    obtain ⟨j, hj, rfl⟩ := List.getElem_of_mem hx
    obtain ⟨e1, e2⟩ := hat j hj
    rw [e1]; exact ⟨by omega, e2⟩
  have hdn : ∀ i k, k ∈ deps .any ops i → k < i := fun i k hk => by
    by_cases hi : i < ops.size
    · exact hlt i hi k hk
    · simp [deps, Array.getElem?_eq_none (Nat.le_of_not_lt hi)] at hk
  have hrep : ∀ j d, (Array.replicate ops.size false).getD j d = true → d = true := fun j d hd => by
    by_cases hj : j < ops.size
    · simp [hj] at hd
    · simpa [hj] using hd
  refine any_of_chain (P := P) (Q := onlyQ Q) (md := .any) (S := S) (Region.noSelect_spec hs) ops.size l (Array.replicate ops.size false) a hlen (by simp) ?_ ?_ ?_ ?_ ?_ ?_ h3 ?_ w.drew hS
  · intro x hx
    obtain ⟨e1, e2⟩ := hmem x hx
    exact ⟨e2, by simp [e1]⟩
  · have : (l.map (·.i)).Pairwise (· ≠ ·) := by rw [h1]; exact List.nodup_range'
    exact List.pairwise_map.1 this
  · intro j hj
    have hjs : j < ops.size := by
      rcases Nat.lt_or_ge j ops.size with h' | h'
      · exact h'
      · simp [h'] at hj
    exact ⟨l[j]'(by omega), List.getElem_mem _, (hat j (by omega)).1⟩
  · rw [List.pairwise_iff_getElem]
    intro i j hi hj hij
    obtain ⟨e1, e2⟩ := hat i hi
    obtain ⟨e3, e4⟩ := hat j hj
    have := hpr j (by omega) i hij
    rw [e2, e4] at this
    rw [e1, e3]
    rcases this with h' | h'
    · exact .inl (by simpa using h')
    · exact .inr h'
  · intro l1 x l2 hl k hk
    right
    have hxi : x.i = l1.length := by
      have hj : l1.length < l.length := by rw [hl]; simp
      have := (hat l1.length hj).1
      simpa [hl] using this
    have hkx := hdn _ _ hk
    refine ⟨l[k]'(by rw [hl]; simp; omega), ?_, (hat k _).1⟩
    have hkl : k < l1.length := by omega
    simp only [hl]
    rw [List.getElem_append_left hkl]
    exact List.getElem_mem _
  · intro i hi; exact absurd (hrep i false hi) (by simp)
  · intro w1 hw1
    have hsz : (sets l (Array.replicate ops.size false)).size = ops.size := by
      have : ∀ (l : List Ent) (b : Array Bool), (sets l b).size = b.size := by
        intro l; induction l with
        | nil => intro b; rfl
        | cons x r ih => intro b; simp only [sets]; rw [ih]; simp
      rw [this]; simp
    exact ⟨rfl, h4 _ w1 hsz (fun j hj => by rw [getD_sets _ _ _ _ (by simpa using hj), if_pos (by rw [h1]; simpa using hj)]) hw1⟩

theorem wpIn_region_ext {id : Nat} (hm : P.follows .mixedOrders = true) (hnd : ops.toList.all (fun o => notDefer o) = true) (hok : textOk .any ops = true)
    (h : ∀ F : Act → Prop, (∀ a', (∀ m d, Q .normal a' (W.ext m d)) → F a') → TextWalk P ops W F ops.toList a) : (Code.region id ops true).wpIn (Fence.wide.inRound rl) n P Q a W := by
  obtain ⟨l, h1, h2, h3, h4⟩ := walk_chain1 _ 0 _ (h (fun a' => ∀ m d, Q .normal a' (W.ext m d)) (fun _ h => h))
  refine wpIn_region_chain (S := fun _ w => Ext W w) hm hnd hok ⟨_, _, World.drew_is_ext W⟩ l (by simpa using h1) h2 (chain_of_chain1 l a (fun _ _ _ _ _ => ⟨Iff.rfl, Iff.rfl⟩) h3) ?_
  intro L w' _ _ ⟨m, d, hw⟩
  subst hw
  exact h4 m d

theorem wpIn_region_inv {id : Nat} {a : Act} {W : World} (I : Array Bool → Act → World → Prop) (hm : P.follows .mixedOrders = true) (hnd : ops.toList.all (fun o => notDefer o) = true) (hlt : (List.range ops.size).all (fun i => (deps .any ops i).all (fun k => decide (k < i))) = true)
    (h0 : I (Array.replicate ops.size false) a W.drew)
    (hstep : ∀ (L : Array Bool) (a : Act) (w : World) (k : Nat) (o : Oper), ops[k]? = some o → Now .any ops k L → I L a w → StepTo P ops o a w (fun a' w' => I (L.setIfInBounds k true) a' w'))
    (hfin : ∀ (L : Array Bool) (a : Act) (w : World), (∀ j, j < ops.size → L.getD j false = true) → I L a w → Q .normal a w) : (Code.region id ops true).wpIn (Fence.wide.inRound rl) n P Q a W := by
  refine wpIn_region_any hm (wpAny_round (notDefer_spec hnd) _ _ _ _ ?_)
  have hl : left (Array.replicate ops.size false) = ops.size := by unfold left; simp
  have := any_inv (P := P) (Q := onlyQ Q) (I := I) (fun i hi k hk => by
    simp only [List.all_eq_true, List.mem_range, decide_eq_true_eq] at hlt
    exact hlt i hi k hk) hstep (fun L a w h1 h2 => ⟨rfl, hfin L a w h1 h2⟩) ops.size (Array.replicate ops.size false) a W.drew hl (by simp) (fun i hi => by
      exfalso
      by_cases h : i < ops.size
      · simp [h] at hi
      · simp [h] at hi) h0
  exact this
theorem wpIn_region_invs {id : Nat} {a : Act} {W : World} (I : Array Bool → Act → World → Prop) (hm : P.follows .mixedOrders = true) (hnd : ops.toList.all (fun o => notDefer o) = true) (hlt : (List.range ops.size).all (fun i => (deps .any ops i).all (fun k => decide (k < i))) = true)
    (h0 : I (Array.replicate ops.size false) a W.drew)
    (hfin : ∀ (L : Array Bool) (a : Act) (w : World), (∀ j, j < ops.size → L.getD j false = true) → I L a w → Q .normal a w)
    (hs : InvSteps P ops I 0 ops.toList) : (Code.region id ops true).wpIn (Fence.wide.inRound rl) n P Q a W :=
  wpIn_region_inv I hm hnd hlt h0 (fun L a w k o ho hn hi => by
    have := inv_steps ops.toList 0 hs k o (by simpa using ho) L a w (by rw [Nat.zero_add]; exact hn) hi
    rwa [Nat.zero_add] at this) hfin

theorem wp_listIn_doc (hd : ∀ (i : Nat) (o : Oper), ops[i]? = some o → ∀ c, o.op ≠ .defer c) : ∀ (m k : Nat) (a : Act) (w : World), k + m = ops.size → DoWalkC P ops (fun a' w' => Q .normal a' w') w (ops.toList.drop k) a → wpOpsIn (Fence.wide.inRound rl) n P ops Q (List.range' k m) a w
  | 0, k, a, w, hk, h => by
    rw [List.drop_eq_nil_of_le (by simp; omega)] at h
    exact h
  | m + 1, k, a, w, hk, h => by
    have hlt : k < ops.toList.length := by simp; omega
    rw [List.drop_eq_getElem_cons hlt] at h
    have ho : ops[k]? = some (ops.toList[k]) := by
      rw [← Array.getElem?_toList]; exact List.getElem?_eq_getElem hlt
    generalize ops.toList[k] = o at h ho
    simp only [List.range'_succ, wpOpsIn, ho]
    rcases h with ⟨hg, h⟩ | ⟨hg, h⟩
    · rw [if_pos hg]
      refine ⟨fun _ _ => trivial, ?_⟩
      rw [show (Fence.wide.inRound rl).round = some rl from rfl, Oper.semAt_eq (some rl) a.eval o (hd k o ho)]
      rcases h with ⟨v, w1, h, c⟩ | ⟨w1, h, c⟩ | ⟨f, args, w1, h, c⟩
      · rw [h]; exact wp_listIn_doc hd m (k + 1) _ _ (by omega) c
      · rw [h]; exact wp_listIn_doc hd m (k + 1) _ _ (by omega) c
      · rw [h]
        refine ⟨fun h => (by cases h), CallsIn.inRound rl (callsIn_wide.2 (Calls.mono c fun e w2 ⟨v, he, hw⟩ => ?_))⟩
        subst he
        exact wp_listIn_doc hd m (k + 1) _ _ (by omega) hw
    · rw [if_neg (by rw [hg]; simp)]
      exact ⟨fun _ _ => trivial, wp_listIn_doc hd m (k + 1) _ _ (by omega) h⟩
theorem wpIn_region_doc {id : Nat} (hnd : ops.toList.all (fun o => notDefer o) = true) (h : ∀ F : Act → World → Prop, (∀ a' w', Q .normal a' w' → F a' w') → DoWalkC P ops F W ops.toList a) : (Code.region id ops false).wpIn (Fence.wide.inRound rl) n P Q a W :=
  wpIn_region (by
    have := wp_listIn_doc (P := P) (Q := Q) (rl := rl) (n := n) (notDefer_spec hnd) ops.size 0 a W (by simp) (by simpa using h _ (fun _ _ h => h))
    rwa [← List.range_eq_range'] at this)
end
end Go
set_option linter.unusedVariables false
set_option linter.unusedSimpArgs false
namespace Go.Proofs.Ytboekafmplomhaa
open Go.RowKit

theorem yieldAt_any {F : Fence} (hd : F.depth = none) {m : Nat} (m' : Nat) {P : Program} {l : Nat} {args : Array Value} {W : World} {R : Ending → World → Prop} (h : YieldAt F m P l args W R) : YieldAt F m' P l args W R := by
  obtain ⟨fn, tmps, assign, body, hy, hR⟩ := h
  exact ⟨fn, tmps, assign, body, hy, hR.1, fun c cs _ => hR.2 c cs (fun d h => by rw [hd] at h; cases h)⟩

/-- What speaks of the world stays while only the iterator's own blocks B turn. -/
def AbB {β : Type} (J : β → List Nat → World → Prop) : Prop :=
  ∀ (s : β) (B B' : List Nat) (W W' : World), J s B W → StoStep W W' B B' → J s B' W'

/-- These blocks lie as they lay. -/
def Kept (T : List Nat) (W W' : World) : Prop := W.heap.size ≤ W'.heap.size ∧ ∀ q ∈ T, W'.heap[q]? = W.heap[q]?
theorem Kept.refl (T : List Nat) (W : World) : Kept T W W := ⟨Nat.le_refl _, fun _ _ => rfl⟩
theorem Kept.trans {T : List Nat} {a b c : World} (h : Kept T a b) (k : Kept T b c) : Kept T a c := ⟨Nat.le_trans h.1 k.1, fun q hq => (k.2 q hq).trans (h.2 q hq)⟩
theorem Kept.sub {T U : List Nat} {a b : World} (h : Kept T a b) (hs : ∀ q ∈ U, q ∈ T) : Kept U a b := ⟨h.1, fun q hq => h.2 q (hs q hq)⟩

/-- THE ITERATOR's CONTRACT: it reads the blocks T; what it writes are blocks of its own. -/
def SeqB {α : Type} (P : Program) (g : Nat) (lb : Array Value) (ok : α → Prop) (encs : α → Array Value) (T : List Nat) (S Sp : List α → Prop) (w : World) : Prop :=
  ∀ (l : Nat) (J Jx : List α → List Nat → World → Prop) (W : World), Kept T w W → AbB J → AbB Jx →
    (∀ pre B x W1, J pre B W1 → ok x → (∀ q ∈ T, q ∉ B) → YieldAt Fence.wide 0 P l (encs x) W1 fun e W' =>
      (e = .returned (.bool true) ∧ J (pre ++ [x]) B W' ∧ Kept (T ++ B) W1 W') ∨ (e = .returned (.bool false) ∧ Jx (pre ++ [x]) B W')) →
    J [] [] W →
    Calls P g (#[.func (.yield l) #[] #[]] ++ lb) W fun e W' => (∃ v, e = .returned v) ∧ ((∃ xs B, S xs ∧ J xs B W') ∨ (∃ pre B, Sp pre ∧ Jx pre B W'))

/-- How a round's body may be left. -/
def postB {α : Type} (T B : List Nat) (I : List α → List Nat → World → Prop) (Ix : Code → List α → List Nat → World → Prop) (xs : List α) (W : World) : Exit → Act → World → Prop
  | .normal, _, W' => Kept (T ++ B) W W' ∧ I xs B W'
  | .ret, _, W' => Kept B W W' ∧ Ix .ret xs B W'
  | .exit id, _, W' => Kept B W W' ∧ Ix (.exit id) xs B W'
  | .goto t, _, W' => Kept B W W' ∧ Ix (.goto t) xs B W'
  | .panic _, _, _ => False
  | .outgrown, _, _ => False

theorem Blk.same1 {w : World} {g : Nat} {e : TypeId} {v : Value} (h : w.heap[g]? = some (.cells #[v] e (0, 0))) : w.setCell ⟨g, 0, none⟩ v = w := by
  simp only [World.setCell]
  congr 1
  apply Array.ext_getElem?
  intro i
  rw [Array.getElem?_modify]
  by_cases e : g = i
  · subst e
    rw [h]
    simp
  · rw [if_neg e]
theorem fold_one (p : Tmp) (v : Value) (t : Array Value) : (#[p].zip #[v]).foldl (fun t (x : Tmp × Value) => t.setIfInBounds x.1 x.2) t = t.setIfInBounds p v := by simp

theorem step_alloc (W : World) (B : List Nat) (o : Obj) : StoStep W (W.alloc o) B (W.heap.size :: B) :=
  ⟨rfl, rfl, rfl, by simp, fun k hk _ => Below.heap_alloc W o k hk, fun k hk => by
    rcases List.mem_cons.1 hk with rfl | hk
    · exact .inr ⟨Nat.le_refl _, by simp⟩
    · exact .inl hk⟩
theorem step_putObj (W : World) {B : List Nat} {b : Nat} (hb : b ∈ B) (o : Obj) : StoStep W (W.putObj b o) B B :=
  ⟨rfl, rfl, rfl, by simp, fun k _ hk => World.putObj_heap_other (fun e => hk (by subst e; exact hb)), fun k hk => .inl hk⟩
theorem step_drop {B B' : List Nat} (W : World) (h : ∀ k ∈ B', k ∈ B) : StoStep W W B B' :=
  ⟨rfl, rfl, rfl, Nat.le_refl _, fun _ _ _ => rfl, fun k hk => .inl (h k hk)⟩

theorem wpIn_rangeFunc_b {α : Type} {P : Program} {n : Nat} {g : Operand} {ps : Array Tmp} {assign body : Code} {Q : Exit → Act → World → Prop} {a : Act} {w : World}
    {gf : Nat} {lb : Array Value} (hg : a.eval g = .func (.func gf) #[] lb) (eg : ∀ args w, (callFunc gf args).run P w = .ok (.enter gf args) w)
    {ok : α → Prop} {encs : α → Array Value} {T : List Nat} {S Sp : List α → Prop} (hseq : SeqB P gf lb ok encs T S Sp w) (hT : ∀ q ∈ T, q < w.heap.size) (hps : ∀ x, (encs x).size = ps.size)
    (I : List α → List Nat → World → Prop) (Ix : Code → List α → List Nat → World → Prop) (hI : AbB I) (hIx : ∀ c, AbB (Ix c)) (h0 : I [] [] w)
    (Ax : List α → α → List Nat → Act → World → Prop)
    (hassign : ∀ (l : Nat) (pre : List α) (B : List Nat) (x : α) (W : World) (K : Act → World → Prop), I pre B W → ok x → l ∈ B → (∀ q ∈ B, w.heap.size ≤ q ∧ q < W.heap.size) →
      (∀ a' W', Kept (T ++ B) W W' → (∀ W2, StoStep W' W2 B B → Ax pre x B a' W2) → K a' W') →
      assign.wpIn (Fence.wide.inRound l) n P (Exit.then K (fun _ _ _ => False)) { tmps := (ps.zip (encs x)).foldl (fun t (p, v) => t.setIfInBounds p v) a.tmps, defers := [] } W)
    (hbody : ∀ (l : Nat) (pre : List α) (B : List Nat) (x : α) (a' : Act) (W : World), l ∈ B → (∃ r, W.heap[l]? = some (.loop r)) → (∀ q ∈ B, w.heap.size ≤ q ∧ q < W.heap.size) → (∀ q ∈ T, q ∉ B) → Ax pre x B a' W →
      body.wpIn (Fence.wide.inRound l) n P (postB T B I Ix (pre ++ [x]) W) a' W)
    (hdone : ∀ (D : Nat) (B : List Nat) (xs : List α) (W : World), w.heap.size ≤ D → D ∈ B → S xs → I xs B W → W.heap[D]? = some (.deferred (some [])) → Q .normal { a with defers := { target := .collected D, args := #[] } :: a.defers } W)
    (hstop : ∀ (D : Nat) (B : List Nat) (c : Code) (pre : List α) (W : World), w.heap.size ≤ D → D ∈ B → Sp pre → Ix c pre B W → W.heap[D]? = some (.deferred (some [])) → c.wpIn Fence.wide (n + 1) P Q { a with defers := { target := .collected D, args := #[] } :: a.defers } W) :
    (Code.rangeFunc g ps assign body).wpIn Fence.wide (n + 1) P Q a w := by
  refine wpIn_rangeFunc ?_
  intro fn hfn
  obtain ⟨rec, hrec⟩ : ∃ rec : LoopState → Option Code → Loop, rec = fun st pe => { state := st, pending := pe, fn, tmps := a.tmps, params := ps, assign, body, defers := w.heap.size } := ⟨_, rfl⟩
  obtain ⟨W1, hW1⟩ : ∃ W1, (w.alloc (.deferred (some []))).alloc (.loop (rec .ready none)) = W1 := ⟨_, rfl⟩
  have hL1 : W1.heap[w.heap.size + 1]? = some (.loop (rec .ready none)) := by
    rw [← hW1]; have := World.alloc_heap_new (w.alloc (.deferred (some []))) (.loop (rec .ready none)); rwa [World.size_alloc] at this
  have hK1 : W1.heap[w.heap.size]? = some (.deferred (some [])) := by
    rw [← hW1]; exact (Below.heap_alloc _ _ _ (by simp)).trans (World.alloc_heap_new w _)
  have hst1 : StoStep w W1 [] [w.heap.size + 1, w.heap.size] := by
    have := (step_alloc w [] (.deferred (some []))).trans (step_alloc (w.alloc (.deferred (some []))) _ (.loop (rec .ready none)))
    rw [hW1, World.size_alloc] at this
    exact this
  have hs1 : W1.heap.size = w.heap.size + 2 := by rw [← hW1]; simp
  have hkT : Kept T w W1 := ⟨by omega, fun q hq => hst1.block q (hT q hq) (by simp)⟩
  refine ⟨w.heap.size + 1, [{ target := .collected w.heap.size, args := #[] }], W1, { target := .fn (.func gf) lb, args := #[.func (.yield (w.heap.size + 1)) #[] #[]] }, W1, gf,
    #[.func (.yield (w.heap.size + 1)) #[] #[]] ++ lb, W1, ?_, ?_, fun _ _ => trivial, ?_, fun h => (by cases h), callsIn_wide.2 ?_⟩
  · rw [← hW1, hrec]; exact run_enterLoop_outer _ _ _ _ _
  · simp only [resolve, hg]
    simp [go_sem]
  · simp [invoke, go_sem, eg]
  · have hput : ∀ {W : World} {B : List Nat} (o : Obj), w.heap.size + 1 < W.heap.size → Kept T W (W.putObj (w.heap.size + 1) o) := fun o h =>
      ⟨by simp, fun q hq => World.putObj_heap_other (by have := hT q hq; omega)⟩
    refine (hseq (w.heap.size + 1)
      (fun pre B W => I pre ((w.heap.size + 1) :: w.heap.size :: B) W ∧ (∀ q ∈ B, w.heap.size + 2 ≤ q ∧ q < W.heap.size) ∧ W.heap[w.heap.size + 1]? = some (.loop (rec .ready none)) ∧ W.heap[w.heap.size]? = some (.deferred (some [])))
      (fun pre B W => ∃ c, Ix c pre ((w.heap.size + 1) :: w.heap.size :: B) W ∧ (∀ q ∈ B, w.heap.size + 2 ≤ q ∧ q < W.heap.size) ∧ W.heap[w.heap.size + 1]? = some (.loop (rec .done (some c))) ∧ W.heap[w.heap.size]? = some (.deferred (some [])))
      W1 hkT ?_ ?_ ?_ ⟨hI _ _ _ _ _ h0 hst1, fun q hq => (by cases hq), hL1, hK1⟩).mono ?_
    · rintro s B B' W W' ⟨hi, hB, hl, hk⟩ st
      have hlt : w.heap.size + 1 < W.heap.size := (Array.getElem?_eq_some_iff.1 hl).1
      have hn : ∀ k, k < w.heap.size + 2 → k ∉ B := fun k hk hm => by have := (hB k hm).1; omega
      refine ⟨hI _ _ _ _ _ hi ⟨st.os, st.tape, st.output, st.size, fun k hk hm => st.block k hk (fun hm' => hm (by simp [hm'])), fun k hm => ?_⟩, fun q hq => ?_, (st.block _ hlt (hn _ (by omega))).trans hl, (st.block _ (by omega) (hn _ (by omega))).trans hk⟩
      · simp only [List.mem_cons] at hm ⊢
        rcases hm with rfl | rfl | hm
        · exact .inl (.inl rfl)
        · exact .inl (.inr (.inl rfl))
        · exact (st.fresh k hm).imp (fun h => .inr (.inr h)) id
      · have := st.size
        rcases st.fresh q hq with h | h
        · have := hB q h; omega
        · omega
    · rintro s B B' W W' ⟨c, hi, hB, hl, hk⟩ st
      have hlt : w.heap.size + 1 < W.heap.size := (Array.getElem?_eq_some_iff.1 hl).1
      have hn : ∀ k, k < w.heap.size + 2 → k ∉ B := fun k hk hm => by have := (hB k hm).1; omega
      refine ⟨c, hIx _ _ _ _ _ _ hi ⟨st.os, st.tape, st.output, st.size, fun k hk hm => st.block k hk (fun hm' => hm (by simp [hm'])), fun k hm => ?_⟩, fun q hq => ?_, (st.block _ hlt (hn _ (by omega))).trans hl, (st.block _ (by omega) (hn _ (by omega))).trans hk⟩
      · simp only [List.mem_cons] at hm ⊢
        rcases hm with rfl | rfl | hm
        · exact .inl (.inl rfl)
        · exact .inl (.inr (.inl rfl))
        · exact (st.fresh k hm).imp (fun h => .inr (.inr h)) id
      · have := st.size
        rcases st.fresh q hq with h | h
        · have := hB q h; omega
        · omega
    · -- ONE ROUND
      rintro pre B x W ⟨hi, hB, hl, hk⟩ hok hTB
      have hlt : w.heap.size + 1 < W.heap.size := (Array.getElem?_eq_some_iff.1 hl).1
      have hy := run_yield (P := P) (args := encs x) hl (by rw [hrec]; exact hps x)
      rw [hrec] at hy
      have hBB : ∀ (X : World), W.heap.size ≤ X.heap.size → ∀ q ∈ (w.heap.size + 1) :: w.heap.size :: B, w.heap.size ≤ q ∧ q < X.heap.size := fun X hX q hq => by
        simp only [List.mem_cons] at hq
        rcases hq with rfl | rfl | hq
        · omega
        · omega
        · have := hB q hq; omega
      have hTBB : ∀ q ∈ T, q ∉ (w.heap.size + 1) :: w.heap.size :: B := fun q hq hm => by
        simp only [List.mem_cons] at hm
        have := hT q hq
        rcases hm with rfl | rfl | hm
        · omega
        · omega
        · exact hTB q hq hm
      refine yieldAt_any rfl 0 ⟨fn, _, assign, body, hy, roundIn_of_wpIn (n := n) hfn (hassign _ pre _ x W _ hi hok (by simp) (hBB W (Nat.le_refl _)) ?_)⟩
      clear hy
      intro a' Wa hka hax
      have hla := (hka.2 (w.heap.size + 1) (by simp)).trans hl
      have hda := (hka.2 w.heap.size (by simp)).trans hk
      have hlta : w.heap.size + 1 < Wa.heap.size := (Array.getElem?_eq_some_iff.1 hla).1
      refine ⟨_, run_beginRound hla (by rw [hrec]), ?_⟩
      obtain ⟨Wb, hWb⟩ : ∃ Wb, Wa.putObj (w.heap.size + 1) (.loop { rec .ready none with state := .busy }) = Wb := ⟨_, rfl⟩
      have stb : StoStep Wa Wb ((w.heap.size + 1) :: w.heap.size :: B) ((w.heap.size + 1) :: w.heap.size :: B) := by rw [← hWb]; exact step_putObj _ (by simp) _
      have hlb : Wb.heap[w.heap.size + 1]? = some (.loop { rec .ready none with state := .busy }) := by rw [← hWb]; exact World.putObj_heap_same hlta
      have hdb : Wb.heap[w.heap.size]? = some (.deferred (some [])) := by rw [← hWb]; exact (World.putObj_heap_other (by omega)).trans hda
      have hob : ∀ q, q ≠ w.heap.size + 1 → Wb.heap[q]? = Wa.heap[q]? := fun q hq => by rw [← hWb]; exact World.putObj_heap_other hq
      have hsb : Wb.heap.size = Wa.heap.size := by rw [← hWb]; simp
      rw [hWb]
      refine wpIn_mono (hbody _ pre _ x a' Wb (by simp) ⟨_, hlb⟩ (hBB Wb (by rw [hsb]; exact hka.1)) hTBB (hax Wb stb)) ?_
      clear hbody hassign
      have fin : ∀ (jump : Option Code) (W3 : World), Kept ((w.heap.size + 1) :: w.heap.size :: B) Wb W3 →
          (Instr.endRound (w.heap.size + 1) jump).run P W3 = .ok (.bool jump.isNone) (W3.putObj (w.heap.size + 1) (.loop (rec (if jump.isNone then .ready else .done) jump))) ∧
          (W3.putObj (w.heap.size + 1) (.loop (rec (if jump.isNone then .ready else .done) jump))).heap[w.heap.size + 1]? = some (.loop (rec (if jump.isNone then .ready else .done) jump)) ∧
          (W3.putObj (w.heap.size + 1) (.loop (rec (if jump.isNone then .ready else .done) jump))).heap[w.heap.size]? = some (.deferred (some [])) ∧
          (∀ q ∈ B, w.heap.size + 2 ≤ q ∧ q < (W3.putObj (w.heap.size + 1) (.loop (rec (if jump.isNone then .ready else .done) jump))).heap.size) := fun jump W3 hk3 => by
        have hl3 := (hk3.2 _ (by simp)).trans hlb
        have := run_endRound (P := P) jump hl3
        rw [hrec] at this ⊢
        refine ⟨this, World.putObj_heap_same (Array.getElem?_eq_some_iff.1 hl3).1, (World.putObj_heap_other (by omega)).trans ((hk3.2 _ (by simp)).trans hdb), fun q hq => ?_⟩
        have h1 := hB q hq
        have h2 := hk3.1
        have h3 := hka.1
        simp
        omega
      rintro e a3 W3 hp
      cases e with
      | normal =>
        obtain ⟨hk3, hi3⟩ := hp
        obtain ⟨hr, hl4, hk4, hB4⟩ := fin none W3 (hk3.sub (fun q hq => by simp only [List.mem_append]; exact .inr hq))
        refine ⟨_, _, hr, .inl ⟨rfl, ⟨hI _ _ _ _ _ hi3 (step_putObj _ (by simp) _), hB4, hl4, hk4⟩, ⟨?_, fun q hq => ?_⟩⟩⟩
        · have := hka.1; have := hk3.1; simp; omega
        · have hq1 : q ≠ w.heap.size + 1 := fun e => by
            subst e
            rcases List.mem_append.1 hq with h | h
            · have := hT _ h; omega
            · have := (hB _ h).1; omega
          have hq2 : q ∈ T ++ ((w.heap.size + 1) :: w.heap.size :: B) := by
            rcases List.mem_append.1 hq with h | h
            · simp [h]
            · simp [h]
          exact (World.putObj_heap_other hq1).trans ((hk3.2 q hq2).trans ((hob q hq1).trans (hka.2 q hq2)))
      | ret =>
        obtain ⟨hk3, hi3⟩ := hp
        obtain ⟨hr, hl4, hk4, hB4⟩ := fin (some .ret) W3 hk3
        exact ⟨_, _, hr, .inr ⟨rfl, .ret, hIx _ _ _ _ _ _ hi3 (step_putObj _ (by simp) _), hB4, hl4, hk4⟩⟩
      | exit id =>
        obtain ⟨hk3, hi3⟩ := hp
        obtain ⟨hr, hl4, hk4, hB4⟩ := fin (some (.exit id)) W3 hk3
        exact ⟨_, _, hr, .inr ⟨rfl, .exit id, hIx _ _ _ _ _ _ hi3 (step_putObj _ (by simp) _), hB4, hl4, hk4⟩⟩
      | goto t =>
        obtain ⟨hk3, hi3⟩ := hp
        obtain ⟨hr, hl4, hk4, hB4⟩ := fin (some (.goto t)) W3 hk3
        exact ⟨_, _, hr, .inr ⟨rfl, .goto t, hIx _ _ _ _ _ _ hi3 (step_putObj _ (by simp) _), hB4, hl4, hk4⟩⟩
      | panic ch => exact hp.elim
      | outgrown => exact hp.elim
    · -- BEHIND THE ITERATOR
      rintro e W2 ⟨⟨v, rfl⟩, (⟨xs, B, hS, hi, hB, hl, hk⟩ | ⟨pre, B, hSp, c, hi, hB, hl, hk⟩)⟩
      · exact ⟨none, _, by have := run_endLoop (P := P) hl (by rw [hrec]; simp); rw [hrec] at this; exact this,
          hdone _ ((w.heap.size + 1) :: w.heap.size :: B) xs _ (Nat.le_refl _) (by simp) hS (hI _ _ _ _ _ hi (step_putObj _ (by simp) _)) ((World.putObj_heap_other (by omega)).trans hk)⟩
      · exact ⟨some c, _, by have := run_endLoop (P := P) hl (by rw [hrec]; simp); rw [hrec] at this; exact this,
          hstop _ ((w.heap.size + 1) :: w.heap.size :: B) c pre _ (Nat.le_refl _) (by simp) hSp (hIx _ _ _ _ _ _ hi (step_putObj _ (by simp) _)) ((World.putObj_heap_other (by omega)).trans hk)⟩

end Go.Proofs.Ytboekafmplomhaa
set_option linter.unusedVariables false
set_option linter.unusedSimpArgs false
namespace Go
open Go.RowKit
section
variable {P : Program} {ops : Array Oper} {Q : Exit → Act → World → Prop} {W W1 : World} {F : Act → World → Prop} {o : Oper} {r : List Oper} {a : Act} {v : Value}
/-- As DoWalkC; a round may be called too. -/
def DoWalkY (P : Program) (ops : Array Oper) (F : Act → World → Prop) : World → List Oper → Act → Prop
  | w, [], a => F a w
  | w, o :: r, a =>
    (Region.wanted o (yielded ops a.tmps) = true ∧
      ((∃ v w1, (execOp a.eval o).run P w = .ok (.value v) w1 ∧ DoWalkY P ops F w1 r (a.put o.dst v)) ∨
       (∃ w1, (execOp a.eval o).run P w = .ok .skip w1 ∧ DoWalkY P ops F w1 r (a.put o.dst undef)) ∨
       (∃ f args w1, (execOp a.eval o).run P w = .ok (.enter f args) w1 ∧ Calls P f args w1 fun e w2 => ∃ v, e = .returned v ∧ DoWalkY P ops F w2 r (a.put o.dst v)) ∨
       (∃ l f tmps assign body w1, (execOp a.eval o).run P w = .ok (.round l f tmps assign body) w1 ∧ RoundIn Fence.wide 0 P l f tmps assign body w1 fun e w2 => ∃ v, e = .returned v ∧ DoWalkY P ops F w2 r (a.put o.dst v)))) ∨
    (Region.wanted o (yielded ops a.tmps) = false ∧ DoWalkY P ops F w r (a.put o.dst undef))
theorem dy_val (hg : Region.wanted o (yielded ops a.tmps) = true) (h : (execOp a.eval o).run P W = .ok (.value v) W1) (c : DoWalkY P ops F W1 r (a.put o.dst v)) : DoWalkY P ops F W (o :: r) a := .inl ⟨hg, .inl ⟨v, W1, h, c⟩⟩
theorem dy_skip (hg : Region.wanted o (yielded ops a.tmps) = true) (h : (execOp a.eval o).run P W = .ok .skip W1) (c : DoWalkY P ops F W1 r (a.put o.dst undef)) : DoWalkY P ops F W (o :: r) a := .inl ⟨hg, .inr (.inl ⟨W1, h, c⟩)⟩
theorem dy_call {f : FuncId} {args : Array Value} (hg : Region.wanted o (yielded ops a.tmps) = true) (h : (execOp a.eval o).run P W = .ok (.enter f args) W1)
    (c : Calls P f args W1 fun e w2 => ∃ v, e = .returned v ∧ DoWalkY P ops F w2 r (a.put o.dst v)) : DoWalkY P ops F W (o :: r) a := .inl ⟨hg, .inr (.inr (.inl ⟨f, args, W1, h, c⟩))⟩
theorem dy_round {l : Nat} {f : FuncId} {tmps : Array Value} {assign body : Code} (hg : Region.wanted o (yielded ops a.tmps) = true) (h : (execOp a.eval o).run P W = .ok (.round l f tmps assign body) W1)
    (c : RoundIn Fence.wide 0 P l f tmps assign body W1 fun e w2 => ∃ v, e = .returned v ∧ DoWalkY P ops F w2 r (a.put o.dst v)) : DoWalkY P ops F W (o :: r) a := .inl ⟨hg, .inr (.inr (.inr ⟨l, f, tmps, assign, body, W1, h, c⟩))⟩
theorem dy_not (hg : Region.wanted o (yielded ops a.tmps) = false) (c : DoWalkY P ops F W r (a.put o.dst undef)) : DoWalkY P ops F W (o :: r) a := .inr ⟨hg, c⟩
theorem dy_end (c : F a W) : DoWalkY P ops F W [] a := c
theorem wp_list_dy (hd : ∀ (i : Nat) (o : Oper), ops[i]? = some o → ∀ c, o.op ≠ .defer c) : ∀ (m k : Nat) (a : Act) (w : World), k + m = ops.size → DoWalkY P ops (fun a' w' => Q .normal a' w') w (ops.toList.drop k) a → wpOpsIn Fence.wide 1 P ops Q (List.range' k m) a w
  | 0, k, a, w, hk, h => by
    rw [List.drop_eq_nil_of_le (by simp; omega)] at h
    exact h
  | m + 1, k, a, w, hk, h => by
    have hlt : k < ops.toList.length := by simp; omega
    rw [List.drop_eq_getElem_cons hlt] at h
    have ho : ops[k]? = some (ops.toList[k]) := by
      rw [← Array.getElem?_toList]; exact List.getElem?_eq_getElem hlt
    generalize ops.toList[k] = o at h ho
    simp only [List.range'_succ, wpOpsIn, ho]
    rcases h with ⟨hg, h⟩ | ⟨hg, h⟩
    · rw [if_pos hg]
      refine ⟨fun _ _ => trivial, ?_⟩
      rw [show Fence.wide.round = none from rfl, Oper.semAt_eq none a.eval o (hd k o ho)]
      rcases h with ⟨v, w1, h, c⟩ | ⟨w1, h, c⟩ | ⟨f, args, w1, h, c⟩ | ⟨l, f, tmps, assign, body, w1, h, c⟩
      · rw [h]; exact wp_list_dy hd m (k + 1) _ _ (by omega) c
      · rw [h]; exact wp_list_dy hd m (k + 1) _ _ (by omega) c
      · rw [h]
        refine ⟨fun h => (by cases h), callsIn_wide.2 (Calls.mono c fun e w2 ⟨v, he, hw⟩ => ?_)⟩
        subst he
        exact wp_list_dy hd m (k + 1) _ _ (by omega) hw
      · rw [h]
        refine ⟨fun h => (by cases h), RoundIn.mono c fun e w2 ⟨v, he, hw⟩ => ?_⟩
        subst he
        exact wp_list_dy hd m (k + 1) _ _ (by omega) hw
    · rw [if_neg (by rw [hg]; simp)]
      exact ⟨fun _ _ => trivial, wp_list_dy hd m (k + 1) _ _ (by omega) h⟩
theorem wp_region_dy {id : Nat} (hnd : ops.toList.all (fun o => notDefer o) = true) (h : ∀ F : Act → World → Prop, (∀ a' w', Q .normal a' w' → F a' w') → DoWalkY P ops F W ops.toList a) : (Code.region id ops false).wp P Q a W :=
  wpIn_wide.1 (wpIn_region (by
    have := wp_list_dy (P := P) (Q := Q) (notDefer_spec hnd) ops.size 0 a W (by simp) (by simpa using h _ (fun _ _ h => h))
    rwa [← List.range_eq_range'] at this))

theorem run_call_yield {l : Nat} {xs : Array Value} {res : Result Next} (h : (Instr.yield l xs).run P W = res) : (callVal (.func (.yield l) #[] #[]) xs).run P W = res := by
  have e : callVal (.func (.yield l) #[] #[]) xs = Instr.yield l (#[] ++ xs) := rfl
  rw [e]
  simpa using h

/-- A function that holds a range over a function. -/
theorem calls_of_marks {f : FuncId} {fn : Func} {c : Code} {args : Array Value} {w : World} {R : Ending → World → Prop}
    (hf : P.funcs[f]? = some fn) (hb : fn.body = some c)
    (h : c.wp P (bodyPostM Fence.wide 1 P fn R) { tmps := args ++ Array.replicate (fn.ntmps - args.size) undef, defers := [] } w) : Calls P f args w R :=
  callsIn_wide.1 (callsIn_of_wp_marks (n := 1) hf hb trivial (wpIn_wide.2 h) rfl)
/-- A function leaves with one mark. -/
theorem leave_mark {fn : Func} {R : Ending → World → Prop} {tmps : Array Value} {D : Nat} {w : World} (hK : w.heap[D]? = some (.deferred (some [])))
    (h : ∃ v, (results fn tmps).run P (w.putObj D (.deferred none)) = .ok v (w.putObj D (.deferred none)) ∧ R (.returned v) (w.putObj D (.deferred none))) :
    bodyPostM Fence.wide 1 P fn R .ret { tmps := tmps, defers := [{ target := .collected D, args := #[] }] } w :=
  ⟨by simp, .inl ⟨_, _, rfl, run_takeDeferred hK, h⟩⟩
end
end Go
set_option linter.unusedVariables false
set_option linter.unusedSimpArgs false
namespace Go.Proofs.Ytboekafmplomhaa
open Go.RowKit

/-- What the iterator reads: the box of the store's address, the box of itself, the store. -/
structure PathW (W : World) (sb wb p : Nat) (F : List Nat) (S : Sto) : Prop where
  s : Blk W sb 23 [.pointer (some ⟨p, 0, none⟩)]
  f : Blk W wb 165 [.func (.func 140) #[] #[.pointer (some ⟨sb, 0, none⟩), .pointer (some ⟨wb, 0, none⟩)]]
  st : StoIs W p F S
def pathT (sb wb : Nat) (F : List Nat) : List Nat := sb :: wb :: F
theorem PathW.kept {W W' : World} {sb wb p : Nat} {F : List Nat} {S : Sto} (h : PathW W sb wb p F S) (k : Kept (pathT sb wb F) W W') : PathW W' sb wb p F S :=
  ⟨h.s.keep (k.2 _ (by simp [pathT])), h.f.keep (k.2 _ (by simp [pathT])), h.st.keep (fun q hq => k.2 q (by simp [pathT, hq]))⟩
theorem PathW.lt {W : World} {sb wb p : Nat} {F : List Nat} {S : Sto} (h : PathW W sb wb p F S) : ∀ q ∈ pathT sb wb F, q < W.heap.size := by
  intro q hq
  simp only [pathT, List.mem_cons] at hq
  rcases hq with rfl | rfl | hq
  · exact h.s.lt
  · exact h.f.lt
  · exact h.st.lt q hq
theorem PathW.below {W W' : World} {sb wb p : Nat} {F : List Nat} {S : Sto} (h : PathW W sb wb p F S) (k : Below W.heap.size W W') : PathW W' sb wb p F S :=
  ⟨h.s.below k, h.f.below k, h.st.below k⟩
theorem Kept.of_step {T B B' : List Nat} {W W' : World} (h : StoStep W W' B B') (hT : ∀ q ∈ T, q < W.heap.size ∧ q ∉ B) : Kept T W W' := ⟨h.size, fun q hq => h.block q (hT q hq).1 (hT q hq).2⟩
theorem Kept.of_below {T : List Nat} {W W' : World} (h : Below W.heap.size W W') (hT : ∀ q ∈ T, q < W.heap.size) : Kept T W W' := ⟨h.size, fun q hq => h.block q (hT q hq)⟩
theorem step_below {B B' : List Nat} {W W' : World} (h : Below W.heap.size W W') (hB : ∀ k ∈ B', k ∈ B ∨ (W.heap.size ≤ k ∧ k < W'.heap.size)) : StoStep W W' B B' :=
  ⟨h.os, h.tape, h.output, h.size, fun k hk _ => h.block k hk, hB⟩

theorem cell_same {W W' : World} {b : Nat} (h : W'.heap[b]? = W.heap[b]?) (i : Nat) : W'.cell? ⟨b, i, none⟩ = W.cell? ⟨b, i, none⟩ := by
  unfold World.cell?
  rw [h]
theorem frozen_same {W W' : World} {b : Nat} (h : W'.heap[b]? = W.heap[b]?) (i : Nat) : W'.frozen? ⟨b, i, none⟩ = W.frozen? ⟨b, i, none⟩ := by
  unfold World.frozen?
  rw [h]
theorem wrap_pow {v : Nat} (hv : v < 64) : IntKind.u64.wrap (2 ^ v) = 2 ^ v := by
  have h := pow_lt64 hv
  have h2 : (2 : Int) ^ v < 18446744073709551616 := by
    have : (((2 ^ v : Nat)) : Int) < 18446744073709551616 := by omega
    simpa using this
  have h3 : (0 : Int) ≤ 2 ^ v := Int.pow_nonneg (by omega)
  generalize (2 : Int) ^ v = x at *
  unfold IntKind.wrap
  simp [IntKind.bits, IntKind.signed]
  omega
theorem or_pow {n v : Nat} (hn : n < 18446744073709551616) (hv : v < 64) : bits .or .u64 (n : Int) (2 ^ v) = ((setB n v : Nat) : Int) := by
  have := bits_or_u64_nat n (2 ^ v) hn (pow_lt64 hv)
  simpa [setB] using this

theorem rightOf_nonneg (S : Sto) (a : Int) : 0 ≤ rightOf S a := by
  unfold rightOf
  split <;> omega

section
variable {S : Sto} {sb wb p : Nat} {F : List Nat}
/-- What a round promises. -/
def RoundOk (S : Sto) (sb wb : Nat) (F : List Nat) (l : Nat) (J Jx : List Cu → List Nat → World → Prop) : Prop :=
  ∀ pre B x W1, J pre B W1 → CuOk x → (∀ q ∈ pathT sb wb F, q ∉ B) → YieldAt Fence.wide 0 Try.prog l #[cv x] W1 fun e W' =>
    (e = .returned (.bool true) ∧ J (pre ++ [x]) B W' ∧ Kept (pathT sb wb F ++ B) W1 W') ∨ (e = .returned (.bool false) ∧ Jx (pre ++ [x]) B W')

/-- How the walk may end. -/
def WalkEnd (T : List Nat) (J Jx : List Cu → List Nat → World → Prop) (pre L : List Cu) (B : List Nat) (W : World) (e : Ending) (W' : World) : Prop :=
  (e = .returned (.bool true) ∧ J (pre ++ L) B W' ∧ Kept (T ++ B) W W') ∨ (e = .returned (.bool false) ∧ ∃ q B', q <+: L ∧ Jx (pre ++ q) B' W')

set_option maxHeartbeats 2000000 in
theorem walk_any (hW : Wf S) (l : Nat) (J Jx : List Cu → List Nat → World → Prop) (hJ : AbB J) (hJx : AbB Jx) (hY : RoundOk S sb wb F l J Jx) :
    ∀ (n : Nat) (a : Int) (c : Cu) (pre : List Cu) (B : List Nat) (W : World), rightOf S a < n → CuOk c → PathW W sb wb p F S → (∀ q ∈ B, q < W.heap.size) → (∀ q ∈ pathT sb wb F, q ∉ B) → J pre B W →
    Calls Try.prog 140 #[.int .i64 a, cv c, .func (.yield l) #[] #[], .pointer (some ⟨sb, 0, none⟩), .pointer (some ⟨wb, 0, none⟩)] W (WalkEnd (pathT sb wb F) J Jx pre (pathsN S n a c) B W) := by
  intro n
  induction n with
  | zero =>
    intro a c pre B W ha
    have := rightOf_nonneg S a
    omega
  | succ n ih =>
    intro a c pre B W ha hc hP hB hTB hJ0
    have hA := fun W' (hb : Below W.heap.size W W') => at_call (hP.st.below hb) hW a
    have hPc := fun W' (hb : Below W.heap.size W W') => (hP.s.below hb).cell 0
    have sbz := hP.s.lt
    have Y := hid hY
    have IH := hid ih
    have HB := hid hB
    have HT := hid hTB
    have HJ := hid hJ0
    have PW := hid hP
    have s0 := (hP.s.cell 0)
    simp only [List.getElem?_cons_zero] at s0 hPc
    clear hY ih hB hTB hJ0 hP
    by_cases hat : (atV S a).2 = true
    · obtain ⟨v, lo, hi, hn, hv0, hv64, hlo, hhi⟩ : ∃ (v : Nat) (lo hi : Int), atV S a = (((v : Int), lo, hi), true) ∧ 0 ≤ v ∧ v < 64 ∧ rightOf S lo < n ∧ rightOf S hi < n := by
        unfold atV at hat ⊢
        split
        · rename_i h2; rw [if_pos h2] at hat; simp at hat
        · rename_i h2
          obtain ⟨e1, e2, e3⟩ := rightOf_two h2
          have hi : (a - 2).toNat < S.nodes.length := by omega
          have hnd := List.getElem?_eq_getElem hi
          have ok := hW.node _ _ hnd
          obtain ⟨v0, v64, lo0, lo1, hi0, hi1, -, -, -⟩ := ok
          rw [hnd]
          generalize S.nodes[(a - 2).toNat] = m at *
          obtain ⟨v, lo, hi'⟩ := m
          simp only at v0 v64 lo0 lo1 hi0 hi1
          rw [e1] at ha
          refine ⟨v.toNat, lo, hi', ?_, by omega, by omega, ?_, ?_⟩
          · simp only [Option.getD_some]; rw [Int.toNat_of_nonneg v0]
          · unfold rightOf; split <;> omega
          · unfold rightOf; split <;> omega
      have hPN : pathsN S (n + 1) a c = pathsN S n lo (setB c.1 v, c.2) ++ pathsN S n hi (setB c.1 v, setB c.2 v) := by rw [pathsN, hn]; simp
      rw [hPN]
      rw [hn] at hA
      clear hat hn hPN ha
      simp only at hA
      have w1 : IntKind.u64.wrap (2 ^ v) = 2 ^ v := wrap_pow hv64
      have o1 := or_pow hc.1 hv64
      have o2 := or_pow hc.2 hv64
      go_enter Try.func140, Try.ntmps140
      go_upto_region 4 with (first | (go_at_call 21; refine (hA _ (by (repeat' (first | (with_reducible exact Below.refl _ _) | (with_reducible refine Below.ext_mk ?_ ?_ _ _) | (with_reducible refine Below.alloc ?_ ?_ _) | (with_reducible refine Below.drew ?_) | (with_reducible refine Below.setCell ?_ ?_ _) | go_size)))).mono ?_; rintro e w' ⟨rfl, m1, d1, rfl⟩))
      refine wp_gen (fun V hV => ?_)
      have hbV : Below W.heap.size W V := by rw [hV]; ((repeat' (first | (with_reducible exact Below.refl _ _) | (with_reducible refine Below.ext_mk ?_ ?_ _ _) | (with_reducible refine Below.alloc ?_ ?_ _) | (with_reducible refine Below.drew ?_) | (with_reducible refine Below.setCell ?_ ?_ _) | go_size)))
      have zV0 : W.heap.size < V.heap.size := by rw [hV]; first | (simp; done) | (simp; omega)
      have cV0_0 : V.cell? ⟨W.heap.size, 0, none⟩ = some (.int .u64 c.1) := by rw [hV]; first | (go_simp; done) | (rw [World.cell?_alloc_past _ _ _ (by first | (simp; done) | (simp; omega))]; go_simp)
      have fV0_0 : V.frozen? ⟨W.heap.size, 0, none⟩ = false := by rw [hV]; go_simp
      have cV0_1 : V.cell? ⟨W.heap.size, 1, none⟩ = some (.int .u64 c.2) := by rw [hV]; first | (go_simp; done) | (rw [World.cell?_alloc_past _ _ _ (by first | (simp; done) | (simp; omega))]; go_simp)
      have fV0_1 : V.frozen? ⟨W.heap.size, 1, none⟩ = false := by rw [hV]; go_simp
      have zV1 : W.heap.size + 1 + m1.size < V.heap.size := by rw [hV]; first | (simp; done) | (simp; omega)
      have cV1_0 : V.cell? ⟨W.heap.size + 1 + m1.size, 0, none⟩ = some (.int .i64 v) := by rw [hV]; first | (go_simp; done) | (rw [World.cell?_alloc_past _ _ _ (by first | (simp; done) | (simp; omega))]; go_simp)
      have cV1_1 : V.cell? ⟨W.heap.size + 1 + m1.size, 1, none⟩ = some (.int .i64 lo) := by rw [hV]; first | (go_simp; done) | (rw [World.cell?_alloc_past _ _ _ (by first | (simp; done) | (simp; omega))]; go_simp)
      have cV1_2 : V.cell? ⟨W.heap.size + 1 + m1.size, 2, none⟩ = some (.int .i64 hi) := by rw [hV]; first | (go_simp; done) | (rw [World.cell?_alloc_past _ _ _ (by first | (simp; done) | (simp; omega))]; go_simp)
      clear hV
      refine wp_region_store 7 (by kernel_rfl) (by kernel_rfl) (by kernel_rfl) rfl (fun F hF G hG => ?_)
      simp only [List.take_succ_cons, List.take_zero, List.drop_succ_cons, List.drop_zero] at hG ⊢
      have HF := hid hF; clear hF
      have HG := hid hG; clear hG
      repeat (first
        | (apply text_skip; (focus rfl); simp only [Act.put, List.setIfInBounds_toArray, List.set_cons_zero, List.set_cons_succ])
        | (apply text_val; (focus rfl); (focus (intro _ _; go_simp; with_reducible rfl)); simp only [Act.put, List.setIfInBounds_toArray, List.set_cons_zero, List.set_cons_succ])
        | (apply text_if; (focus (first | exact wanted_t rfl rfl | exact wanted_f rfl rfl | exact wanted_gt rfl rfl | exact wanted_gf rfl rfl)); (focus (intro hc _ _; (try simp only [Bool.and_eq_true, Bool.not_eq_true', Bool.true_and] at hc); go_simp; with_reducible rfl)); simp only [Act.put, List.setIfInBounds_toArray, List.set_cons_zero, List.set_cons_succ]))
      refine text_nil (HG.out _ ?_)
      clear HG G
      apply store_step; (focus rfl); (focus (intro _ _; apply Exists.intro; apply Exists.intro; go_simp; with_reducible rfl))
      try simp only [Act.put, List.setIfInBounds_toArray, List.set_cons_zero, List.set_cons_succ]
      repeat (apply both_val; (focus rfl); (focus (intro _; go_simp; with_reducible rfl)); simp only [Act.put, List.setIfInBounds_toArray, List.set_cons_zero, List.set_cons_succ])
      refine both_nil (HF.out _ _ (fun mx dx => ?_))
      clear HF F
      simp only [List.getElem_toArray, List.getElem_cons_succ, List.getElem_cons_zero]
      go_upto_region 5 with (fail)
      refine wp_gen (fun V2 hV2 => ?_)
      have hbV2 : Below W.heap.size W V2 := by rw [hV2]; ((repeat' (first | (with_reducible exact hbV) | (with_reducible exact Below.refl _ _) | (with_reducible refine Below.ext_mk ?_ ?_ _ _) | (with_reducible refine Below.alloc ?_ ?_ _) | (with_reducible refine Below.drew ?_) | (with_reducible refine Below.setCell ?_ ?_ _) | go_size)))
      have zV20 : W.heap.size < V2.heap.size := by rw [hV2]; first | (simp; done) | (simp; omega)
      have cV20_0 : V2.cell? ⟨W.heap.size, 0, none⟩ = some (.int .u64 (setB c.1 v)) := by rw [hV2]; first | (go_simp; done) | (rw [World.cell?_alloc_past _ _ _ (by first | (simp; done) | (simp; omega))]; go_simp)
      have fV20_0 : V2.frozen? ⟨W.heap.size, 0, none⟩ = false := by rw [hV2]; go_simp
      have cV20_1 : V2.cell? ⟨W.heap.size, 1, none⟩ = some (.int .u64 c.2) := by rw [hV2]; first | (go_simp; done) | (rw [World.cell?_alloc_past _ _ _ (by first | (simp; done) | (simp; omega))]; go_simp)
      have fV20_1 : V2.frozen? ⟨W.heap.size, 1, none⟩ = false := by rw [hV2]; go_simp
      have zV21 : W.heap.size + 1 + m1.size < V2.heap.size := by rw [hV2]; first | (simp; done) | (simp; omega)
      have cV21_0 : V2.cell? ⟨W.heap.size + 1 + m1.size, 0, none⟩ = some (.int .i64 v) := by rw [hV2]; first | (go_simp; done) | (rw [World.cell?_alloc_past _ _ _ (by first | (simp; done) | (simp; omega))]; go_simp)
      have cV21_1 : V2.cell? ⟨W.heap.size + 1 + m1.size, 1, none⟩ = some (.int .i64 lo) := by rw [hV2]; first | (go_simp; done) | (rw [World.cell?_alloc_past _ _ _ (by first | (simp; done) | (simp; omega))]; go_simp)
      have cV21_2 : V2.cell? ⟨W.heap.size + 1 + m1.size, 2, none⟩ = some (.int .i64 hi) := by rw [hV2]; first | (go_simp; done) | (rw [World.cell?_alloc_past _ _ _ (by first | (simp; done) | (simp; omega))]; go_simp)
      clear hV2
      have wbz := PW.out.f.lt
      have wf0 := (PW.out.f.below hbV2).cell 0
      simp only [List.getElem?_cons_zero] at wf0
      clear hA hPc s0 cV0_0 fV0_0 cV0_1 fV0_1 zV0 zV1 cV1_0 cV1_1 cV1_2 hbV
      generalize hxb : W.heap.size + 1 + m1.size = xb at *
      have hxz : xb ≠ W.heap.size := by omega
      have hB2 : ∀ q ∈ W.heap.size :: xb :: B, q < V2.heap.size := fun q hq => by
        have := hbV2.size
        simp only [List.mem_cons] at hq
        rcases hq with e | e | hq
        · omega
        · omega
        · have := HB.out q hq; omega
      have hT2 : ∀ q ∈ pathT sb wb F, q ∉ W.heap.size :: xb :: B := fun q hq hm => by
        have h0 := PW.out.lt _ hq
        simp only [List.mem_cons] at hm
        rcases hm with e | e | hm
        · omega
        · omega
        · exact HT.out q hq hm
      have st2 : StoStep W V2 B (W.heap.size :: xb :: B) := step_below hbV2 (fun k hk => by
        simp only [List.mem_cons] at hk
        rcases hk with e | e | hk
        · exact .inr (by omega)
        · exact .inr (by omega)
        · exact .inl hk)
      have P2 := PW.out.below hbV2
      have L1 := IH.out lo (setB c.1 v, c.2) pre (W.heap.size :: xb :: B) V2 hlo ⟨setB_lt hc.1 hv64, hc.2⟩ P2 hB2 hT2 (hJ _ _ _ _ _ HJ.out st2)
      have K2 : Kept (pathT sb wb F ++ B) W V2 := Kept.of_below hbV2 (fun q hq => (List.mem_append.1 hq).elim (PW.out.lt q) (HB.out q))
      clear st2
      refine wp_region_doc (fun F' hF0 => ?_)
      have HF := hid hF0
      clear hF0
      iterate 5 (refine doc_val rfl (by first | (go_simp; done) | (go_simp; exact ⟨rfl, rfl⟩) | (go_simp; with_reducible rfl)) ?_; simp only [Act.put, List.setIfInBounds_toArray, List.set_cons_zero, List.set_cons_succ])
      refine doc_call rfl (by first | (go_simp; done) | (go_simp; exact ⟨rfl, rfl⟩) | (go_simp; with_reducible rfl)) (L1.mono ?_)
      clear L1
      rintro e W2 h
      have h' := hid h
      rcases h with ⟨rfl, -⟩ | ⟨rfl, -⟩
      · refine ⟨_, rfl, ?_⟩
        simp only [Act.put, List.setIfInBounds_toArray, List.set_cons_zero, List.set_cons_succ]
        refine doc_val rfl (by first | (go_simp; done) | (go_simp; exact ⟨rfl, rfl⟩) | (go_simp; with_reducible rfl)) ?_
        simp only [Act.put, List.setIfInBounds_toArray, List.set_cons_zero, List.set_cons_succ]
        refine doc_end (HF.out _ _ ?_)
        clear HF F'
        obtain ⟨J2, K22⟩ : J (pre ++ pathsN S n lo (setB c.1 v, c.2)) (W.heap.size :: xb :: B) W2 ∧ Kept (pathT sb wb F ++ (W.heap.size :: xb :: B)) V2 W2 := by
          rcases h'.out with ⟨-, h2, h3⟩ | ⟨h2, -⟩
          · exact ⟨h2, h3⟩
          · cases h2
        clear h'
        have ez := K22.2 W.heap.size (by simp)
        have ex := K22.2 xb (by simp)
        have zz : W.heap.size < W2.heap.size := Nat.lt_of_lt_of_le zV20 K22.1
        have zx : xb < W2.heap.size := Nat.lt_of_lt_of_le zV21 K22.1
        have d0 := (cell_same ez 0).trans cV20_0
        have d1' := (cell_same ez 1).trans cV20_1
        have g0 := (frozen_same ez 0).trans fV20_0
        have g1 := (frozen_same ez 1).trans fV20_1
        have y0 := (cell_same ex 0).trans cV21_0
        have y2 := (cell_same ex 2).trans cV21_2
        have P3 := P2.kept (K22.sub (fun q hq => List.mem_append_left _ hq))
        have KJ := hid (And.intro J2 K22)
        clear J2 K22 ez ex cV20_0 cV20_1 fV20_0 fV20_1 cV21_0 cV21_1 cV21_2 wf0 zV20 zV21 hbV2
        go_upto_region 7 with (fail)
        refine wp_region_store 7 (by kernel_rfl) (by kernel_rfl) (by kernel_rfl) rfl (fun F hF G hG => ?_)
        simp only [List.take_succ_cons, List.take_zero, List.drop_succ_cons, List.drop_zero] at hG ⊢
        have HF := hid hF; clear hF
        have HG := hid hG; clear hG
        repeat (first
          | (apply text_skip; (focus rfl); simp only [Act.put, List.setIfInBounds_toArray, List.set_cons_zero, List.set_cons_succ])
          | (apply text_val; (focus rfl); (focus (intro _ _; go_simp; with_reducible rfl)); simp only [Act.put, List.setIfInBounds_toArray, List.set_cons_zero, List.set_cons_succ])
          | (apply text_if; (focus (first | exact wanted_t rfl rfl | exact wanted_f rfl rfl | exact wanted_gt rfl rfl | exact wanted_gf rfl rfl)); (focus (intro hc _ _; (try simp only [Bool.and_eq_true, Bool.not_eq_true', Bool.true_and] at hc); go_simp; with_reducible rfl)); simp only [Act.put, List.setIfInBounds_toArray, List.set_cons_zero, List.set_cons_succ]))
        refine text_nil (HG.out _ ?_)
        clear HG G
        apply store_step; (focus rfl); (focus (intro _ _; apply Exists.intro; apply Exists.intro; go_simp; with_reducible rfl))
        try simp only [Act.put, List.setIfInBounds_toArray, List.set_cons_zero, List.set_cons_succ]
        repeat (apply both_val; (focus rfl); (focus (intro _; go_simp; with_reducible rfl)); simp only [Act.put, List.setIfInBounds_toArray, List.set_cons_zero, List.set_cons_succ])
        refine both_nil (HF.out _ _ (fun mx dx => ?_))
        clear HF F
        simp only [List.getElem_toArray, List.getElem_cons_succ, List.getElem_cons_zero]
        go_upto_region 8 with (fail)
        refine wp_gen (fun V3 hV3 => ?_)
        have st3 : StoStep W2 V3 (W.heap.size :: xb :: B) (W.heap.size :: xb :: B) := by
          rw [hV3]
          exact (StoStep.set (by simp) 1 _).trans (StoStep.of_below (Below.ext_mk (Below.refl _ _) (Nat.le_refl _) _ _))
        have st3b : StoStep W2 V3 [W.heap.size] [W.heap.size] := by
          rw [hV3]
          exact (StoStep.set (by simp) 1 _).trans (StoStep.of_below (Below.ext_mk (Below.refl _ _) (Nat.le_refl _) _ _))
        have q0 : V3.cell? ⟨W.heap.size, 0, none⟩ = some (.int .u64 (setB c.1 v)) := by rw [hV3]; go_simp
        have q1 : V3.cell? ⟨W.heap.size, 1, none⟩ = some (.int .u64 (setB c.2 v)) := by rw [hV3]; go_simp
        have q2 : V3.cell? ⟨xb, 2, none⟩ = some (.int .i64 hi) := by rw [hV3]; go_simp
        clear hV3
        have K3b : Kept (pathT sb wb F ++ B) W2 V3 := Kept.of_step st3b (fun q hq => by
          have zW : W.heap.size < W2.heap.size := zz
          have : q < W.heap.size := (List.mem_append.1 hq).elim (PW.out.lt q) (HB.out q)
          refine ⟨by omega, fun hm => ?_⟩
          simp only [List.mem_singleton] at hm
          omega)
        have K3 := K3b.sub (fun q hq => List.mem_append_left B hq)
        clear st3b
        have P4 := P3.kept K3
        have wf4 := P4.f.cell 0
        simp only [List.getElem?_cons_zero] at wf4
        have z4 := st3.size
        have L2 := IH.out hi (setB c.1 v, setB c.2 v) (pre ++ pathsN S n lo (setB c.1 v, c.2)) (W.heap.size :: xb :: B) V3 hhi ⟨setB_lt hc.1 hv64, setB_lt hc.2 hv64⟩ P4
          (fun q hq => by have := hB2 q hq; have := KJ.out.2.1; omega) hT2 (hJ _ _ _ _ _ KJ.out.1 st3)
        refine wp_region_doc (fun F' hF0 => ?_)
        have HF := hid hF0
        clear hF0
        iterate 5 (refine doc_val rfl (by first | (go_simp; done) | (go_simp; exact ⟨rfl, rfl⟩) | (go_simp; with_reducible rfl)) ?_; simp only [Act.put, List.setIfInBounds_toArray, List.set_cons_zero, List.set_cons_succ])
        refine doc_call rfl (by first | (go_simp; done) | (go_simp; exact ⟨rfl, rfl⟩) | (go_simp; with_reducible rfl)) (L2.mono ?_)
        clear L2
        rintro e W4 h
        have h' := hid h
        rcases h with ⟨rfl, -⟩ | ⟨rfl, -⟩
        · refine ⟨_, rfl, ?_⟩
          simp only [Act.put, List.setIfInBounds_toArray, List.set_cons_zero, List.set_cons_succ]
          refine doc_val rfl (by first | (go_simp; done) | (go_simp; exact ⟨rfl, rfl⟩) | (go_simp; with_reducible rfl)) ?_
          simp only [Act.put, List.setIfInBounds_toArray, List.set_cons_zero, List.set_cons_succ]
          refine doc_end (HF.out _ _ ?_)
          clear HF F'
          go_wp2
          go_returns
          rcases h'.out with ⟨-, h2, h3⟩ | ⟨h2, -⟩
          · refine .inl ⟨rfl, ?_, ?_⟩
            · rw [← List.append_assoc]
              exact hJ _ _ _ _ _ h2 (step_drop _ (fun k hk => by simp [hk]))
            · refine K2.trans ?_
              have a1 : Kept (pathT sb wb F ++ B) V2 W2 := KJ.out.2.sub (fun q hq => (List.mem_append.1 hq).elim (fun h => List.mem_append_left _ h) (fun h => List.mem_append_right _ (by simp [h])))
              have a3 : Kept (pathT sb wb F ++ B) V3 W4 := h3.sub (fun q hq => (List.mem_append.1 hq).elim (fun h => List.mem_append_left _ h) (fun h => List.mem_append_right _ (by simp [h])))
              exact a1.trans (K3b.trans a3)
          · cases h2
        · refine ⟨_, rfl, ?_⟩
          simp only [Act.put, List.setIfInBounds_toArray, List.set_cons_zero, List.set_cons_succ]
          refine doc_val rfl (by first | (go_simp; done) | (go_simp; exact ⟨rfl, rfl⟩) | (go_simp; with_reducible rfl)) ?_
          simp only [Act.put, List.setIfInBounds_toArray, List.set_cons_zero, List.set_cons_succ]
          refine doc_end (HF.out _ _ ?_)
          clear HF F'
          go_wp2
          go_returns
          rcases h'.out with ⟨h2, -⟩ | ⟨-, q, B', h2, h3⟩
          · cases h2
          · refine .inr ⟨rfl, pathsN S n lo (setB c.1 v, c.2) ++ q, B', ?_, by rw [← List.append_assoc]; exact h3⟩
            exact (List.prefix_append_right_inj _).2 h2
      · refine ⟨_, rfl, ?_⟩
        simp only [Act.put, List.setIfInBounds_toArray, List.set_cons_zero, List.set_cons_succ]
        refine doc_val rfl (by first | (go_simp; done) | (go_simp; exact ⟨rfl, rfl⟩) | (go_simp; with_reducible rfl)) ?_
        simp only [Act.put, List.setIfInBounds_toArray, List.set_cons_zero, List.set_cons_succ]
        refine doc_end (HF.out _ _ ?_)
        clear HF F'
        go_wp2
        go_returns
        rcases h'.out with ⟨h2, -⟩ | ⟨-, q, B', h2, h3⟩
        · cases h2
        · exact .inr ⟨rfl, q, B', h2.trans (List.prefix_append _ _), h3⟩
    · have hat' : atV S a = ((0, 0, 0), false) := by
        unfold atV at hat ⊢
        split
        · rfl
        · rename_i h2; rw [if_neg h2] at hat; simp at hat
      have hPN : pathsN S (n + 1) a c = if a = 1 then [c] else [] := by rw [pathsN, hat']; simp
      rw [hPN]
      rw [hat'] at hA
      clear hat hat' hPN ha IH
      simp only at hA
      by_cases h1 : a = 1
      · subst h1
        rw [if_pos rfl]
        go_enter Try.func140, Try.ntmps140
        go_upto_region 3 with (first | (go_at_call 21; refine (hA _ (by (repeat' (first | (with_reducible exact Below.refl _ _) | (with_reducible refine Below.ext_mk ?_ ?_ _ _) | (with_reducible refine Below.alloc ?_ ?_ _) | (with_reducible refine Below.drew ?_) | (with_reducible refine Below.setCell ?_ ?_ _) | go_size)))).mono ?_; rintro e w' ⟨rfl, m1, d1, rfl⟩))
        refine wp_gen (fun V hV => ?_)
        have hbV : Below W.heap.size W V := by rw [hV]; ((repeat' (first | (with_reducible exact Below.refl _ _) | (with_reducible refine Below.ext_mk ?_ ?_ _ _) | (with_reducible refine Below.alloc ?_ ?_ _) | (with_reducible refine Below.drew ?_) | (with_reducible refine Below.setCell ?_ ?_ _) | go_size)))
        have zV0 : W.heap.size < V.heap.size := by rw [hV]; first | (simp; done) | (simp; omega)
        have cV0_0 : V.cell? ⟨W.heap.size, 0, none⟩ = some (.int .u64 c.1) := by rw [hV]; first | (go_simp; done) | (rw [World.cell?_alloc_past _ _ _ (by first | (simp; done) | (simp; omega))]; go_simp)
        have cV0_1 : V.cell? ⟨W.heap.size, 1, none⟩ = some (.int .u64 c.2) := by rw [hV]; first | (go_simp; done) | (rw [World.cell?_alloc_past _ _ _ (by first | (simp; done) | (simp; omega))]; go_simp)
        clear hV
        have JV : J pre B V := hJ _ _ _ _ _ HJ.out (step_below hbV (fun k hk => .inl hk))
        have KV : Kept (pathT sb wb F ++ B) W V := Kept.of_below hbV (fun q hq => (List.mem_append.1 hq).elim (PW.out.lt q) (HB.out q))
        obtain ⟨fn, tmps, assign, body, hy, hR⟩ := Y.out pre B c V JV hc HT.out
        have HR := hid hR
        clear hR JV hA hPc s0
        refine wp_region_dy (by kernel_rfl) (fun F' hF0 => ?_)
        have HF := hid hF0
        clear hF0
        iterate 5 (refine dy_val rfl (by first | (go_simp; done) | (go_simp; exact ⟨rfl, rfl⟩) | (go_simp; with_reducible rfl)) ?_; simp only [Act.put, List.setIfInBounds_toArray, List.set_cons_zero, List.set_cons_succ])
        refine dy_round rfl (by go_simp; exact run_call_yield hy) (HR.out.mono ?_)
        rintro e W' h
        have h' := hid h
        rcases h with ⟨rfl, -⟩ | ⟨rfl, -⟩
        · refine ⟨_, rfl, ?_⟩
          simp only [Act.put, List.setIfInBounds_toArray, List.set_cons_zero, List.set_cons_succ]
          iterate 2 (refine dy_val rfl (by first | (go_simp; done) | (go_simp; exact ⟨rfl, rfl⟩) | (go_simp; with_reducible rfl)) ?_; simp only [Act.put, List.setIfInBounds_toArray, List.set_cons_zero, List.set_cons_succ])
          refine dy_end (HF.out _ _ ?_)
          clear HF F'
          go_wp2
          go_returns
          rcases h'.out with ⟨-, h2, h3⟩ | ⟨h2, -⟩
          · exact .inl ⟨rfl, h2, KV.trans h3⟩
          · cases h2
        · refine ⟨_, rfl, ?_⟩
          simp only [Act.put, List.setIfInBounds_toArray, List.set_cons_zero, List.set_cons_succ]
          iterate 2 (refine dy_val rfl (by first | (go_simp; done) | (go_simp; exact ⟨rfl, rfl⟩) | (go_simp; with_reducible rfl)) ?_; simp only [Act.put, List.setIfInBounds_toArray, List.set_cons_zero, List.set_cons_succ])
          refine dy_end (HF.out _ _ ?_)
          clear HF F'
          go_wp2
          go_returns
          rcases h'.out with ⟨h2, -⟩ | ⟨-, h2⟩
          · cases h2
          · exact .inr ⟨rfl, [c], B, List.prefix_refl _, h2⟩
      · have h1' : (a != 1) = true := by simpa using h1
        rw [if_neg h1]
        clear h1
        go_enter Try.func140, Try.ntmps140
        go_upto_region 3 with (first | (go_at_call 21; refine (hA _ (by (repeat' (first | (with_reducible exact Below.refl _ _) | (with_reducible refine Below.ext_mk ?_ ?_ _ _) | (with_reducible refine Below.alloc ?_ ?_ _) | (with_reducible refine Below.drew ?_) | (with_reducible refine Below.setCell ?_ ?_ _) | go_size)))).mono ?_; rintro e w' ⟨rfl, m1, d1, rfl⟩))
        refine wp_gen (fun V hV => ?_)
        have hbV : Below W.heap.size W V := by rw [hV]; ((repeat' (first | (with_reducible exact Below.refl _ _) | (with_reducible refine Below.ext_mk ?_ ?_ _ _) | (with_reducible refine Below.alloc ?_ ?_ _) | (with_reducible refine Below.drew ?_) | (with_reducible refine Below.setCell ?_ ?_ _) | go_size)))
        have zV0 : W.heap.size < V.heap.size := by rw [hV]; first | (simp; done) | (simp; omega)
        have cV0_0 : V.cell? ⟨W.heap.size, 0, none⟩ = some (.int .u64 c.1) := by rw [hV]; first | (go_simp; done) | (rw [World.cell?_alloc_past _ _ _ (by first | (simp; done) | (simp; omega))]; go_simp)
        have cV0_1 : V.cell? ⟨W.heap.size, 1, none⟩ = some (.int .u64 c.2) := by rw [hV]; first | (go_simp; done) | (rw [World.cell?_alloc_past _ _ _ (by first | (simp; done) | (simp; omega))]; go_simp)
        clear hV
        have JV : J pre B V := hJ _ _ _ _ _ HJ.out (step_below hbV (fun k hk => .inl hk))
        have KV : Kept (pathT sb wb F ++ B) W V := Kept.of_below hbV (fun q hq => (List.mem_append.1 hq).elim (PW.out.lt q) (HB.out q))
        clear hA hPc s0 Y
        refine wp_region_dy (by kernel_rfl) (fun F' hF0 => ?_)
        have HF := hid hF0
        clear hF0
        iterate 3 (refine dy_val rfl (by first | (go_simp; done) | (go_simp; exact ⟨rfl, rfl⟩) | (go_simp; with_reducible rfl)) ?_; simp only [Act.put, List.setIfInBounds_toArray, List.set_cons_zero, List.set_cons_succ])
        iterate 3 (refine dy_not rfl ?_; simp only [Act.put, List.setIfInBounds_toArray, List.set_cons_zero, List.set_cons_succ])
        iterate 2 (refine dy_val rfl (by first | (go_simp; done) | (go_simp; exact ⟨rfl, rfl⟩) | (go_simp; with_reducible rfl)) ?_; simp only [Act.put, List.setIfInBounds_toArray, List.set_cons_zero, List.set_cons_succ])
        refine dy_end (HF.out _ _ ?_)
        clear HF F'
        go_wp2
        go_returns
        exact .inl ⟨rfl, by rw [List.append_nil]; exact JV, KV⟩

theorem rightOf_lt {S : Sto} (a : Int) : rightOf S a < (S.nodes.length + 2 : Nat) := by
  unfold rightOf
  split <;> omega

set_option maxHeartbeats 1000000 in
theorem iter_any (hW : Wf S) (l : Nat) (J Jx : List Cu → List Nat → World → Prop) (hJ : AbB J) (hJx : AbB Jx) (hY : RoundOk S sb wb F l J Jx) (a : Int) (ab : Nat) (W : World) (hP : PathW W sb wb p F S)
    (hab : Blk W ab 3 [.int .i64 a]) (h0 : J [] [] W) :
    Calls Try.prog 141 #[.func (.yield l) #[] #[], .pointer (some ⟨wb, 0, none⟩), .pointer (some ⟨ab, 0, none⟩)] W fun e W' => (∃ v, e = .returned v) ∧
      ((∃ xs B, xs = pathsL S a ∧ J xs B W') ∨ (∃ pre B, pre <+: pathsL S a ∧ Jx pre B W')) := by
  have L := walk_any hW l J Jx hJ hJx hY (S.nodes.length + 2) a (0, 0) [] [] W (rightOf_lt a) cuOk_zero hP (fun q hq => by cases hq) (fun q hq hm => by cases hm) h0
  have wf := hP.f.cell 0
  have af := hab.cell 0
  simp only [List.getElem?_cons_zero] at wf af
  have zw := hP.f.lt
  have za := hab.lt
  clear h0 hY
  go_enter Try.func141, Try.ntmps141
  refine wp_region_doc (fun F' hF0 => ?_)
  have HF := hid hF0
  clear hF0
  iterate 4 (refine doc_val rfl (by first | (go_simp; done) | (go_simp; exact ⟨rfl, rfl⟩) | (go_simp; with_reducible rfl)) ?_; simp only [Act.put, List.setIfInBounds_toArray, List.set_cons_zero, List.set_cons_succ])
  refine doc_call rfl (by first | (go_simp; done) | (go_simp; exact ⟨rfl, rfl⟩) | (go_simp; with_reducible rfl)) (L.mono ?_)
  rintro e W2 h
  have h' := hid h
  rcases h with ⟨rfl, -⟩ | ⟨rfl, -⟩
  · refine ⟨_, rfl, ?_⟩
    simp only [Act.put, List.setIfInBounds_toArray, List.set_cons_zero, List.set_cons_succ]
    refine doc_end (HF.out _ _ ?_)
    clear HF F'
    go_end0
    refine ⟨⟨_, rfl⟩, .inl ?_⟩
    rcases h'.out with ⟨-, h2, -⟩ | ⟨h2, -⟩
    · exact ⟨_, [], rfl, h2⟩
    · cases h2
  · refine ⟨_, rfl, ?_⟩
    simp only [Act.put, List.setIfInBounds_toArray, List.set_cons_zero, List.set_cons_succ]
    refine doc_end (HF.out _ _ ?_)
    clear HF F'
    go_end0
    refine ⟨⟨_, rfl⟩, .inr ?_⟩
    rcases h'.out with ⟨h2, -⟩ | ⟨-, q, B', h2, h3⟩
    · cases h2
    · exact ⟨q, B', h2, by simpa using h3⟩

/-- The iterator's contract. -/
theorem paths_seq (hW : Wf S) (a : Int) (ab : Nat) (w : World) (hP : PathW w sb wb p F S) (hab : Blk w ab 3 [.int .i64 a]) :
    SeqB Try.prog 141 #[.pointer (some ⟨wb, 0, none⟩), .pointer (some ⟨ab, 0, none⟩)] CuOk (fun c : Cu => #[cv c]) (ab :: pathT sb wb F) (fun xs => xs = pathsL S a) (fun pre => pre <+: pathsL S a) w := by
  intro l J Jx W hk hJ hJx hY h0
  have hP' := hP.kept (hk.sub (fun q hq => List.mem_cons_of_mem _ hq))
  refine iter_any (sb := sb) (p := p) (F := F) hW l (fun pre B W => J pre B W ∧ ab ∉ B ∧ ab < W.heap.size) Jx ?_ hJx ?_ a ab W hP' (hab.keep (hk.2 ab (by simp))) ⟨h0, by simp, Nat.lt_of_lt_of_le hab.lt hk.1⟩ |>.mono ?_
  · rintro s B B' X X' ⟨hj, hn, hlt⟩ st
    refine ⟨hJ _ _ _ _ _ hj st, fun hm => ?_, Nat.lt_of_lt_of_le hlt st.size⟩
    rcases st.fresh _ hm with h | h
    · exact hn h
    · omega
  · rintro pre B x X ⟨hj, hn, hlt⟩ hx hT
    refine (hY pre B x X hj hx (fun q hq => by
      simp only [List.mem_cons] at hq
      rcases hq with rfl | hq
      · exact hn
      · exact hT q hq)).mono ?_
    rintro e X' (⟨rfl, h2, h3⟩ | ⟨rfl, h2⟩)
    · exact .inl ⟨rfl, ⟨h2, hn, Nat.lt_of_lt_of_le hlt h3.1⟩, h3.sub (fun q hq => by simp only [List.cons_append, List.mem_cons]; exact .inr hq)⟩
    · exact .inr ⟨rfl, h2⟩
  · rintro e X' ⟨hv, (⟨xs, B, h1, h2⟩ | h2)⟩
    · exact ⟨hv, .inl ⟨xs, B, h1, h2.1⟩⟩
    · exact ⟨hv, .inr h2⟩
end
end Go.Proofs.Ytboekafmplomhaa

set_option linter.unusedVariables false
set_option linter.unusedSimpArgs false
namespace Go.Proofs.Ytboekafmplomhaa
open Go.RowKit

/-- Cubes in a row. -/
def cus : List Cu → List Value
  | [] => []
  | c :: l => .int .u64 c.1 :: .int .u64 c.2 :: cus l
theorem cus_append : ∀ (l m : List Cu), cus (l ++ m) = cus l ++ cus m
  | [], m => rfl
  | c :: l, m => by simp only [List.cons_append, cus, cus_append l m]
theorem cus_length : ∀ (l : List Cu), (cus l).length = l.length * 2
  | [] => rfl
  | c :: l => by simp only [cus, List.length_cons, cus_length l]; omega
theorem cus_at : ∀ (l : List Cu) (i : Nat) (c : Cu), l[i]? = some c → (cus l)[i * 2]? = some (.int .u64 c.1) ∧ (cus l)[i * 2 + 1]? = some (.int .u64 c.2)
  | [], i, c, h => by simp at h
  | x :: r, 0, c, h => by simp at h; subst h; simp [cus]
  | x :: r, i + 1, c, h => by
    have := cus_at r i c (by simpa using h)
    have e : (i + 1) * 2 = i * 2 + 2 := by omega
    rw [e]
    simpa [cus] using this

theorem infoC_some : (Try.prog.info? 85).isSome = true := by kernel_rfl
noncomputable def infoC : TypeInfo := (Try.prog.info? 85).get infoC_some
theorem infoC_is : Try.prog.info? 85 = some infoC := (Option.some_get _).symm
theorem infoC_zero : infoC.zero = some (.agg #[.int .u64 0, .int .u64 0]) := by kernel_rfl
theorem infoC_size : infoC.size = 2 := by kernel_rfl
theorem infoC_bytes : infoC.bytes = 16 := by kernel_rfl

/-- One more cube in a row of our own. -/
theorem cu_one {w : World} {sv : Value} {G : Option Nat} {l : List Cu} (h : RowIs w sv G 85 2 l.length (cus l)) (hk : l.length ≤ 10000) (x : Cu) :
    ∃ (v' : Value) (G' : Nat) (w1 : World), (Builtin.append_ #[80, 80] 80 #[sv, .slice (some ⟨w.heap.size, 0, none⟩) 1 1]).run Try.prog (w.alloc (.cells #[.int .u64 x.1, .int .u64 x.2] 85)) = .ok v' w1 ∧
      RowIs w1 v' (some G') 85 2 (l ++ [x]).length (cus (l ++ [x])) ∧ (G = some G' ∨ (w.heap.size ≤ G' ∧ G' < w1.heap.size)) ∧ (∀ k, k < w.heap.size → G ≠ some k → w1.heap[k]? = w.heap[k]?) ∧
      w1.os = w.os ∧ w1.tape = w.tape ∧ w1.output = w.output ∧ w.heap.size ≤ w1.heap.size := by
  have lit : (w.alloc (.cells #[.int .u64 x.1, .int .u64 x.2] 85)).heap[w.heap.size]? = some (.cells #[.int .u64 x.1, .int .u64 x.2] 85 (0, 0)) := World.heap_alloc_last w _
  have row : RowIs (w.alloc (.cells #[.int .u64 x.1, .int .u64 x.2] 85)) sv G 85 2 l.length (cus l) := RowIs.keep h (fun g' hg => Below.heap_alloc _ _ _ (RowIs.lt h g' hg))
  obtain ⟨v', w1, G', r1, r2, r3, r4⟩ := append_row (P := Try.prog) 80 80 infoC (.agg #[.int .u64 0, .int .u64 0]) 16 Try.underlying80 infoC_is infoC_zero infoC_size infoC_bytes rfl (by omega) row
    ⟨w.heap.size, 0, none⟩ 1 1 [.int .u64 x.1, .int .u64 x.2] rfl (fun j u hu => by
      rcases j with _ | _ | j
      · simp at hu; subst hu
        show (w.alloc (.cells #[.int .u64 x.1, .int .u64 x.2] 85)).cell? ⟨w.heap.size, 0, none⟩ = _
        simp only [World.cell?]
        rw [lit]; rfl
      · simp at hu; subst hu
        show (w.alloc (.cells #[.int .u64 x.1, .int .u64 x.2] 85)).cell? ⟨w.heap.size, 1, none⟩ = _
        simp only [World.cell?]
        rw [lit]; rfl
      · simp at hu) (by simp [Value.oneCell']) (by omega) (by unfold maxLen; omega) (by omega)
  have e1 : cus (l ++ [x]) = cus l ++ [.int .u64 x.1, .int .u64 x.2] := by rw [cus_append]; rfl
  have e2 : (l ++ [x]).length = l.length + 1 := by simp
  rw [← e1, ← e2] at r2
  refine ⟨v', G', w1, r1, r2, ?_, fun k hk hn => ?_, r3.os, r3.tape, r3.output, by have := r3.size; simp at this; omega⟩
  · rcases r4 with e | ⟨e, e'⟩
    · exact .inl e
    · simp at e; exact .inr ⟨by omega, e'⟩
  · exact (r3.block k (by simp; omega) (fun e => hn e.symm)).trans (Below.heap_alloc _ _ _ hk)

theorem paths_any (q : Option Addr) (a : Int) (w : World) : Calls Try.prog 115 #[.pointer q, .int .i64 a] w (fun e w' =>
    e = .returned (.func (.func 141) #[] #[.pointer (some ⟨w.heap.size + 2, 0, none⟩), .pointer (some ⟨w.heap.size + 1, 0, none⟩)]) ∧ w'.heap.size = w.heap.size + 3 ∧ Below w.heap.size w w' ∧
    Blk w' w.heap.size 23 [.pointer q] ∧ Blk w' (w.heap.size + 1) 3 [.int .i64 a] ∧
    Blk w' (w.heap.size + 2) 165 [.func (.func 140) #[] #[.pointer (some ⟨w.heap.size, 0, none⟩), .pointer (some ⟨w.heap.size + 2, 0, none⟩)]]) := by
  have hmf : ∀ (fn : Fn) (first cap : Array Value) (w : World), (Instr.makeFunc fn first cap).run Try.prog w = .ok (.func fn first cap) w := fun _ _ _ _ => rfl
  go_enter Try.func115, Try.ntmps115
  go_wp2
  go_returns
  have b1 := Blk.new w 23 [.pointer q]
  have b2 := Blk.new (w.alloc (.cells #[.pointer q] 23)) 3 [.int .i64 a]
  have b3 := Blk.new ((w.alloc (.cells #[.pointer q] 23)).alloc (.cells #[.int .i64 a] 3)) 165 [.func (.func 140) #[] #[.pointer (some ⟨w.heap.size, 0, none⟩), .pointer (some ⟨w.heap.size + 2, 0, none⟩)]]
  simp only [World.size_alloc] at b2 b3
  exact ⟨rfl, by simp, by (repeat' (first | (with_reducible exact Below.refl _ _) | (with_reducible refine Below.ext_mk ?_ ?_ _ _) | (with_reducible refine Below.alloc ?_ ?_ _) | (with_reducible refine Below.drew ?_) | (with_reducible refine Below.setCell ?_ ?_ _) | go_size)), b1.below (by (repeat' (first | (with_reducible exact Below.refl _ _) | (with_reducible refine Below.ext_mk ?_ ?_ _ _) | (with_reducible refine Below.alloc ?_ ?_ _) | (with_reducible refine Below.drew ?_) | (with_reducible refine Below.setCell ?_ ?_ _) | go_size))), b2.below (by (repeat' (first | (with_reducible exact Below.refl _ _) | (with_reducible refine Below.ext_mk ?_ ?_ _ _) | (with_reducible refine Below.alloc ?_ ?_ _) | (with_reducible refine Below.drew ?_) | (with_reducible refine Below.setCell ?_ ?_ _) | go_size))), b3⟩

/-- Between two rounds of Paths. -/
structure PathsI (w W0 : World) (mb lb rb : Nat) (most : Int) (pre : List Cu) (B : List Nat) (W : World) : Prop where
  bel : Below w.heap.size w W
  own : ∀ q ∈ B, W0.heap.size ≤ q
  size : W0.heap.size ≤ W.heap.size
  m : Blk W mb 3 [.int .i64 most]
  r : Blk W rb 4 [.bool false]
  l : ∃ sv G, Blk W lb 80 [sv] ∧ RowIs W sv G 85 2 pre.length (cus pre) ∧ ∀ g, G = some g → W0.heap.size ≤ g ∧ g ∉ B
  held : (pre.length : Int) ≤ heldV most
theorem PathsI.step {w W0 : World} {mb lb rb : Nat} {most : Int} (hw : w.heap.size ≤ W0.heap.size) (hm : mb < W0.heap.size) (hl : lb < W0.heap.size) (hr : rb < W0.heap.size) :
    AbB (fun pre B W => PathsI w W0 mb lb rb most pre B W) := by
  rintro pre B B' W W' h st
  have hn : ∀ k, k < W0.heap.size → k ∉ B := fun k hk hm => by have := h.own k hm; omega
  have hs := h.size
  refine ⟨h.bel.trans (st.below (fun k hk => by have := h.own k hk; omega) (by have := h.bel.size; omega)), fun q hq => ?_, Nat.le_trans h.size st.size, h.m.keep (st.block _ (by omega) (hn _ hm)), h.r.keep (st.block _ (by omega) (hn _ hr)), ?_, h.held⟩
  · rcases st.fresh q hq with h1 | h1
    · exact h.own q h1
    · omega
  · obtain ⟨sv, G, h1, h2, h3⟩ := h.l
    refine ⟨sv, G, h1.keep (st.block _ (by omega) (hn _ hl)), h2.keep (fun g hg => st.block g (h2.lt g hg) (h3 g hg).2), fun g hg => ⟨(h3 g hg).1, fun hm => ?_⟩⟩
    have := h2.lt g hg
    rcases st.fresh g hm with h4 | h4
    · exact (h3 g hg).2 h4
    · omega

/-- One more cube in the list. -/
theorem PathsI.next {w W0 : World} {mb lb rb : Nat} {most : Int} (hw : w.heap.size ≤ W0.heap.size) (hwl : w.heap.size ≤ lb) (hm : mb < W0.heap.size) (hl : lb < W0.heap.size) (hr : rb < W0.heap.size) (hlm : lb ≠ mb) (hlr : lb ≠ rb)
    {pre : List Cu} {B : List Nat} {W : World} (hi : PathsI w W0 mb lb rb most pre B W) (hB : ∀ q ∈ B, W0.heap.size ≤ q ∧ q < W.heap.size) {sv : Value} {G : Option Nat} (hbl : Blk W lb 80 [sv])
    (hrow : RowIs W sv G 85 2 pre.length (cus pre)) (hG : ∀ g, G = some g → W0.heap.size ≤ g ∧ g ∉ B) (hlt : (pre.length : Int) < heldV most) (x : Cu) {X : World} (hX : Below W.heap.size W X) :
    ∃ (v' : Value) (w1 : World), (Builtin.append_ #[80, 80] 80 #[sv, .slice (some ⟨X.heap.size, 0, none⟩) 1 1]).run Try.prog (X.alloc (.cells #[.int .u64 x.1, .int .u64 x.2] 85)) = .ok v' w1 ∧ (∃ a n c, v' = .slice a n c) ∧
      lb < w1.heap.size ∧ w1.cell? ⟨lb, 0, none⟩ = some sv ∧ w1.frozen? ⟨lb, 0, none⟩ = false ∧ PathsI w W0 mb lb rb most (pre ++ [x]) B (w1.setCell ⟨lb, 0, none⟩ v') ∧
      ∀ L : List Nat, (∀ q ∈ L, q < W.heap.size ∧ q ≠ lb ∧ G ≠ some q) → Kept L W (w1.setCell ⟨lb, 0, none⟩ v') := by
  have hxs := hX.size
  have hs := hi.size
  have hh : heldV most ≤ 4096 := by unfold heldV; omega
  have hrX : RowIs X sv G 85 2 pre.length (cus pre) := hrow.keep (fun g hg => hX.block g (hrow.lt g hg))
  obtain ⟨v', G', w1, r1, r2, r3, r4, ro, rt, rp, rz⟩ := cu_one hrX (by omega) x
  have bl1 : Blk w1 lb 80 [sv] := (hbl.below hX).keep (r4 lb (by omega) (fun e => by have := (hG lb e).1; omega))
  have q1 : ∀ k, k < W.heap.size → k ≠ lb → G ≠ some k → (w1.setCell ⟨lb, 0, none⟩ v').heap[k]? = W.heap[k]? := fun k h1 h2 h3 =>
    (Below.heap_setCell _ _ _ _ h2).trans ((r4 k (by omega) h3).trans (hX.block k h1))
  have hsz : (w1.setCell ⟨lb, 0, none⟩ v').heap.size = w1.heap.size := by simp
  have hG' : W0.heap.size ≤ G' ∧ G' ∉ B := by
    rcases r3 with e | e
    · exact hG G' e
    · exact ⟨by omega, fun hm => by have := (hB _ hm).2; omega⟩
  refine ⟨v', w1, r1, (by obtain ⟨a, c, h, -⟩ := r2.form; exact ⟨a, _, c, h⟩), bl1.lt, bl1.cell 0, bl1.free 0, ⟨?_, hi.own, by omega, ?_, ?_, ⟨v', some G', ?_, ?_, ?_⟩, ?_⟩, fun L hL => ⟨by omega, fun q hq => q1 q (hL q hq).1 (hL q hq).2.1 (hL q hq).2.2⟩⟩
  · refine hi.bel.trans ⟨?_, ?_, ?_, by have := hi.bel.size; omega, fun k hk => q1 k (by have := hi.bel.size; omega) (by omega) (fun e => by have := (hG k e).1; omega)⟩
    · exact ro.trans hX.os
    · exact rt.trans hX.tape
    · exact rp.trans hX.output
  · exact hi.m.keep (q1 mb (by omega) (fun e => hlm e.symm) (fun e => by have := (hG mb e).1; omega))
  · exact hi.r.keep (q1 rb (by omega) (fun e => hlr e.symm) (fun e => by have := (hG rb e).1; omega))
  · exact bl1.set_ 0 v'
  · exact r2.keep (fun g hg => by cases hg; exact Below.heap_setCell _ _ _ _ (by show G' ≠ lb; omega))
  · rintro g hg
    cases hg
    exact hG'
  · simp only [List.length_append, List.length_cons, List.length_nil]; omega

theorem cpaths_leave {w W : World} {S : Sto} {a most : Int} {la : Option Addr} {lc : Nat} {G : Option Nat} {L : List Cu} {b : Bool} {D : Nat} (bl : Blk W (w.heap.size + 1) 80 [.slice la L.length lc]) (br : Blk W (w.heap.size + 1 + 1) 4 [.bool b])
    (hrow : RowIs W (.slice la L.length lc) G 85 2 L.length (cus L)) (hG : ∀ g, G = some g → w.heap.size ≤ g ∧ g ≠ D) (hb : Below w.heap.size w W) (hK : W.heap[D]? = some (.deferred (some [])))
    (hD : w.heap.size + 1 + 1 < D) (hL : pathsV S a most = (L, b)) (x0 x1 x2 x3 x4 x5 x6 xl : Value) :
    bodyPostM Fence.wide 1 Try.prog Try.f54 (fun e w' => ∃ sv G, e = .returned (.tuple #[sv, .bool (pathsV S a most).2]) ∧ RowIs w' sv G 85 2 (pathsV S a most).1.length (cus (pathsV S a most).1) ∧ (∀ g, G = some g → w.heap.size ≤ g) ∧ Below w.heap.size w w') .ret
      { tmps := #[x0, x1, x2, undef, undef, .pointer (some ⟨w.heap.size, 0, none⟩), .pointer (some ⟨w.heap.size + 1, 0, none⟩), .pointer (some ⟨w.heap.size + 1 + 1, 0, none⟩), undef, x3, .bool false, x4, x5, x6, undef, undef, undef, undef, undef, undef, undef, undef, undef, undef, undef, xl], defers := [{ target := .collected D, args := #[] }] } W := by
  refine leave_mark hK ?_
  have st : StoStep W (W.putObj D (.deferred none)) [D] [D] := step_putObj W (by simp) _
  have c0 := (cell_same (World.putObj_heap_other (w := W) (o := .deferred none) (show w.heap.size + 1 ≠ D by omega)) 0).trans (bl.cell 0)
  have c1 := (cell_same (World.putObj_heap_other (w := W) (o := .deferred none) (show w.heap.size + 1 + 1 ≠ D by omega)) 0).trans (br.cell 0)
  have hrow2 := hrow.keep (w' := W.putObj D (.deferred none)) (fun g hg => World.putObj_heap_other (hG g hg).2)
  have hb2 := hb.trans (st.below (B := w.heap.size) (fun k hk => by simp only [List.mem_singleton] at hk; omega) hb.size)
  simp only [List.getElem?_cons_zero] at c0 c1
  clear st
  generalize W.putObj D (.deferred none) = Z at *
  rw [hL]
  refine ⟨.tuple #[.slice la L.length lc, .bool b], ?_, _, G, rfl, hrow2, fun g hg => (hG g hg).1, hb2⟩
  simp [results, Try.results54, go_sem, c0, c1]

set_option maxHeartbeats 4000000 in
theorem cpaths_live {w : World} {p : Nat} {F : List Nat} {S : Sto} (h : StoIs w p F S) (hW : Wf S) (a most : Int) :
    Calls Try.prog 54 #[.pointer (some ⟨p, 0, none⟩), .int .i64 a, .int .i64 most] w fun e w' => ∃ sv G, e = .returned (.tuple #[sv, .bool (pathsV S a most).2]) ∧
      RowIs w' sv G 85 2 (pathsV S a most).1.length (cus (pathsV S a most).1) ∧ (∀ g, G = some g → w.heap.size ≤ g) ∧ Below w.heap.size w w' := by
  have hFu := fun W (hb : Below w.heap.size w W) => full_any (h.below hb) (by have := hW.cap2; omega)
  refine calls_of_marks Try.func54 rfl ?_
  simp only [Try.ntmps54, List.size_toArray, List.length_cons, List.length_nil, Nat.reduceAdd, Nat.reduceSub, Array.replicate_succ, Array.replicate_zero, List.push_toArray, List.append_toArray, List.nil_append, List.cons_append]
  by_cases hf : S.full = true
  · rw [hf] at hFu
    go_wp2_with (first | (go_at_call 22; refine (hFu _ (by (repeat' (first | (with_reducible exact Below.refl _ _) | (with_reducible refine Below.ext_mk ?_ ?_ _ _) | (with_reducible refine Below.alloc ?_ ?_ _) | (with_reducible refine Below.drew ?_) | (with_reducible refine Below.setCell ?_ ?_ _) | go_size)))).mono ?_; rintro e w' ⟨rfl, m1, d1, rfl⟩))
    simp [bodyPostM, LeavesInM, LeavesIn, settle, results, Try.results54, go_sem]
    unfold pathsV
    rw [if_pos hf]
    exact ⟨_, ⟨rfl, rfl⟩, none, ⟨rfl, .inl ⟨rfl, rfl, rfl⟩⟩, (fun g hg => by cases hg), by (repeat' (first | (with_reducible exact Below.refl _ _) | (with_reducible refine Below.ext_mk ?_ ?_ _ _) | (with_reducible refine Below.alloc ?_ ?_ _) | (with_reducible refine Below.drew ?_) | (with_reducible refine Below.setCell ?_ ?_ _) | go_size))⟩
  · have hf' : S.full = false := by simpa using hf
    rw [hf'] at hFu
    go_upto_region 3 with (first | (go_at_call 22; refine (hFu _ (by (repeat' (first | (with_reducible exact Below.refl _ _) | (with_reducible refine Below.ext_mk ?_ ?_ _ _) | (with_reducible refine Below.alloc ?_ ?_ _) | (with_reducible refine Below.drew ?_) | (with_reducible refine Below.setCell ?_ ?_ _) | go_size)))).mono ?_; rintro e w' ⟨rfl, m1, d1, rfl⟩))
    refine wp_gen (fun V hV => ?_)
    have hbV : Below w.heap.size w V := by rw [hV]; (repeat' (first | (with_reducible exact Below.refl _ _) | (with_reducible refine Below.ext_mk ?_ ?_ _ _) | (with_reducible refine Below.alloc ?_ ?_ _) | (with_reducible refine Below.drew ?_) | (with_reducible refine Below.setCell ?_ ?_ _) | go_size))
    have bm : Blk V w.heap.size 3 [.int .i64 most] := by
      rw [hV]; exact (Blk.new w 3 [.int .i64 most]).below (by (repeat' (first | (with_reducible exact Below.refl _ _) | (with_reducible refine Below.ext_mk ?_ ?_ _ _) | (with_reducible refine Below.alloc ?_ ?_ _) | (with_reducible refine Below.drew ?_) | (with_reducible refine Below.setCell ?_ ?_ _) | go_size)))
    have bl : Blk V (w.heap.size + 1) 80 [.slice none 0 0] := by
      rw [hV]
      have := Blk.new (w.alloc (.cells #[.int .i64 most] 3)) 80 [.slice none 0 0]
      rw [World.size_alloc] at this
      exact this.below (by (repeat' (first | (with_reducible exact Below.refl _ _) | (with_reducible refine Below.ext_mk ?_ ?_ _ _) | (with_reducible refine Below.alloc ?_ ?_ _) | (with_reducible refine Below.drew ?_) | (with_reducible refine Below.setCell ?_ ?_ _) | go_size)))
    have br : Blk V (w.heap.size + 1 + 1) 4 [.bool false] := by
      rw [hV]
      have := Blk.new ((w.alloc (.cells #[.int .i64 most] 3)).alloc (.cells #[.slice none 0 0] 80)) 4 [.bool false]
      rw [World.size_alloc, World.size_alloc] at this
      exact this.below (by (repeat' (first | (with_reducible exact Below.refl _ _) | (with_reducible refine Below.ext_mk ?_ ?_ _ _) | (with_reducible refine Below.alloc ?_ ?_ _) | (with_reducible refine Below.drew ?_) | (with_reducible refine Below.setCell ?_ ?_ _) | go_size)))
    clear hV hFu
    have zm := bm.lt
    have zl := bl.lt
    have zr := br.lt
    have hV := h.below hbV
    have H := hid h
    clear h
    go_wp2_with (go_at_call 115; refine (paths_any _ _ _).mono ?_; rintro e w' ⟨rfl, z2, hb2, b1, b2, b3⟩)
    have PW : PathW w' V.heap.size (V.heap.size + 2) p F S := ⟨b1, b3, hV.below hb2⟩
    have hbw : Below w.heap.size w w' := hbV.trans (hb2.mono hbV.size)
    have hsz := hbV.size
    have TL : ∀ q ∈ (V.heap.size + 1) :: pathT V.heap.size (V.heap.size + 2) F, q < w'.heap.size ∧ q ≠ w.heap.size + 1 := fun q hq => by
      simp only [pathT, List.mem_cons] at hq
      rcases hq with e | e | e | e
      · omega
      · omega
      · omega
      · have := H.out.lt q e; omega
    refine wpIn_wide.1 (wpIn_rangeFunc_b (n := 0) (gf := 141) (lb := #[.pointer (some ⟨V.heap.size + 2, 0, none⟩), .pointer (some ⟨V.heap.size + 1, 0, none⟩)]) rfl (fun _ _ => by kernel_rfl)
      (paths_seq hW a (V.heap.size + 1) w' PW b2) (fun q hq => by
        simp only [List.mem_cons] at hq
        rcases hq with rfl | hq
        · exact b2.lt
        · exact PW.lt q hq) (fun _ => rfl)
      (fun pre B W => PathsI w w' w.heap.size (w.heap.size + 1) (w.heap.size + 1 + 1) most pre B W)
      (fun c pre B W => c = .ret ∧ ∃ pre' x, pre = pre' ++ [x] ∧ PathsI w w' w.heap.size (w.heap.size + 1) (w.heap.size + 1 + 1) most pre' B W ∧ (pre'.length : Int) = heldV most)
      (PathsI.step (by omega) (by omega) (by omega) (by omega)) ?abx
      ⟨hbw, fun q hq => (by cases hq), Nat.le_refl _, bm.below hb2, br.below hb2, ⟨_, none, bl.below hb2, ⟨rfl, .inl ⟨rfl, rfl, rfl⟩⟩, fun g hg => (by cases hg)⟩, by unfold heldV; simp; omega⟩
      (fun pre x B a' W => PathsI w w' w.heap.size (w.heap.size + 1) (w.heap.size + 1 + 1) most pre B W ∧ ∃ cb, Blk W cb 85 [.int .u64 x.1, .int .u64 x.2] ∧ w'.heap.size ≤ cb ∧ cb ∉ B ∧
        a' = { tmps := #[.pointer (some ⟨p, 0, none⟩), .int .i64 a, .int .i64 most, undef, undef, .pointer (some ⟨w.heap.size, 0, none⟩), .pointer (some ⟨w.heap.size + 1, 0, none⟩), .pointer (some ⟨w.heap.size + 1 + 1, 0, none⟩), .pointer (some ⟨cb, 0, none⟩),
          .pointer (some ⟨p, 0, none⟩), .bool false, .pointer (some ⟨p, 0, none⟩), .int .i64 a, .func (.func 141) #[] #[.pointer (some ⟨V.heap.size + 2, 0, none⟩), .pointer (some ⟨V.heap.size + 1, 0, none⟩)], cv x, undef, undef, undef, undef, undef, undef, undef, undef, undef, undef, undef], defers := [] })
      ?assign ?body ?done ?stop)
    case abx =>
      rintro c pre B B' W W' ⟨rfl, pre', x, rfl, hi, hl⟩ st
      exact ⟨rfl, pre', x, rfl, PathsI.step (by omega) (by omega) (by omega) (by omega) _ _ _ _ _ hi st, hl⟩
    case assign =>
      intro l pre B x W K hi hok hl hB hK
      rw [fold_one]
      simp only [List.setIfInBounds_toArray, List.set_cons_succ, List.set_cons_zero]
      refine wpIn_region_doc (by kernel_rfl) (fun F' hF0 => ?_)
      have HF := hid hF0
      clear hF0
      refine doc_val rfl (by first | (go_simp; done) | (go_simp; exact ⟨rfl, rfl⟩) | (go_simp; with_reducible rfl)) ?_
      simp only [Act.put, List.setIfInBounds_toArray, List.set_cons_zero, List.set_cons_succ]
      refine doc_skip rfl (by first | (go_simp; done) | (go_simp; exact ⟨rfl, rfl⟩) | (go_simp; with_reducible rfl)) ?_
      simp only [Act.put, List.setIfInBounds_toArray, List.set_cons_zero, List.set_cons_succ]
      refine doc_end (HF.out _ _ ?_)
      clear HF F'
      simp only [Exit.then]
      refine hK _ _ ?_ ?_
      · exact Kept.of_below (by (repeat' (first | (with_reducible exact Below.refl _ _) | (with_reducible refine Below.ext_mk ?_ ?_ _ _) | (with_reducible refine Below.alloc ?_ ?_ _) | (with_reducible refine Below.drew ?_) | (with_reducible refine Below.setCell ?_ ?_ _) | go_size))) (fun q hq => by
          have := hi.size
          rcases List.mem_append.1 hq with h1 | h1
          · have := (TL q h1).1; omega
          · exact (hB q h1).2)
      · intro W2 st
        have hs := st.size
        simp only [World.size_alloc] at hs
        have hnew : W.heap.size ∉ B := fun hm => by have := (hB _ hm).2; omega
        refine ⟨PathsI.step (by omega) (by omega) (by omega) (by omega) _ _ _ _ _ (PathsI.step (by omega) (by omega) (by omega) (by omega) _ _ _ _ _ hi (step_below (B' := B) (by (repeat' (first | (with_reducible exact Below.refl _ _) | (with_reducible refine Below.ext_mk ?_ ?_ _ _) | (with_reducible refine Below.alloc ?_ ?_ _) | (with_reducible refine Below.drew ?_) | (with_reducible refine Below.setCell ?_ ?_ _) | go_size))) (fun k hk => .inl hk))) st, W.heap.size, (Blk.new W 85 [.int .u64 x.1, .int .u64 x.2]).keep (st.block _ (by simp) hnew), hi.size, hnew, rfl⟩
    case body =>
      rintro l pre B x a' W hl hloop hB hTB ⟨hi, cb, bc, zc, nc, rfl⟩
      obtain ⟨sv, G, bl', hrow, hG⟩ := hi.l
      have hlen := hi.held
      obtain ⟨la, lc, rfl, hlm⟩ := hrow.form
      by_cases hh : (pre.length : Int) = heldV most
      · have hh' : ((pre.length : Int) == heldV most) = true := by simpa using hh
        have c0 := bl'.cell 0
        have c1 := hi.m.cell 0
        simp only [List.getElem?_cons_zero] at c0 c1
        have z0 := bl'.lt
        have z1 := hi.m.lt
        refine wpIn_block ?_
        apply wpIn_seq_k; intro K1 hK1
        apply wpIn_seq_k; intro K2 hK2
        refine wpIn_region_ext (by kernel_rfl) (by kernel_rfl) (by kernel_rfl) (fun F hF => ?_)
        have HF := hid hF; clear hF
        repeat (first
          | (apply text_skip; (focus rfl); simp only [Act.put, List.setIfInBounds_toArray, List.set_cons_zero, List.set_cons_succ])
          | (apply text_val; (focus rfl); (focus (intro _ _; go_simp; with_reducible rfl)); simp only [Act.put, List.setIfInBounds_toArray, List.set_cons_zero, List.set_cons_succ])
          | (apply text_call; (focus rfl); (focus (intro _ _; go_simp; exact ⟨rfl, rfl⟩)); (focus (intro _ _; with_reducible (exact held_any _ _))); simp only [Act.put, List.setIfInBounds_toArray, List.set_cons_zero, List.set_cons_succ])
          | (apply text_if; (focus (first | exact wanted_t rfl rfl | exact wanted_f rfl rfl | exact wanted_gt rfl rfl | exact wanted_gf rfl rfl)); (focus (intro hc _ _; (try simp only [Bool.and_eq_true, Bool.not_eq_true', Bool.true_and] at hc); go_simp; with_reducible rfl)); simp only [Act.put, List.setIfInBounds_toArray, List.set_cons_zero, List.set_cons_succ])
          | (apply text_if_call; (focus (first | exact wanted_t rfl rfl | exact wanted_f rfl rfl | exact wanted_gt rfl rfl | exact wanted_gf rfl rfl)); (focus (intro hc _ _; (try simp only [Bool.and_eq_true, Bool.not_eq_true', Bool.true_and] at hc); go_simp; exact ⟨rfl, rfl⟩)); (focus (intro hc _ _; with_reducible (exact held_any _ _))); simp only [Act.put, List.setIfInBounds_toArray, List.set_cons_zero, List.set_cons_succ]))
        refine text_nil (HF.out _ (fun mx dx => ?_))
        clear HF F
        simp only [Exit.then]
        apply hK2
        refine wpIn_cond_true rfl ?_
        apply wpIn_seq_k; intro K3 hK3
        have s2 := Blk.same1 bl'
        have s3 := Blk.same1 hi.r
        have f2 := bl'.free 0
        have f3 := hi.r.free 0
        have c3 := hi.r.cell 0
        have z3 := hi.r.lt
        simp only [List.getElem?_cons_zero] at c3
        refine wpIn_region_doc (by kernel_rfl) (fun F' hF0 => ?_)
        have HF := hid hF0
        clear hF0
        refine doc_val rfl (by first | (go_simp; done) | (go_simp; exact ⟨rfl, rfl⟩) | (go_simp; with_reducible rfl)) ?_
        simp only [Act.put, List.setIfInBounds_toArray, List.set_cons_zero, List.set_cons_succ]
        iterate 2 (refine doc_skip rfl (by first | (go_simp; done) | (go_simp; exact ⟨rfl, rfl⟩) | (go_simp; with_reducible rfl)) ?_; simp only [Act.put, List.setIfInBounds_toArray, List.set_cons_zero, List.set_cons_succ])
        refine doc_end (HF.out _ _ ?_)
        clear HF F'
        simp only [Exit.then]
        apply hK3
        refine wpIn_ret ?_
        simp only [Exit.then, Exit.inBlock]
        exact ⟨Kept.of_below (by (repeat' (first | (with_reducible exact Below.refl _ _) | (with_reducible refine Below.ext_mk ?_ ?_ _ _) | (with_reducible refine Below.alloc ?_ ?_ _) | (with_reducible refine Below.drew ?_) | (with_reducible refine Below.setCell ?_ ?_ _) | go_size))) (fun q hq => (hB q hq).2), rfl, pre, x, rfl, PathsI.step (by omega) (by omega) (by omega) (by omega) _ _ _ _ _ hi (step_below (by (repeat' (first | (with_reducible exact Below.refl _ _) | (with_reducible refine Below.ext_mk ?_ ?_ _ _) | (with_reducible refine Below.alloc ?_ ?_ _) | (with_reducible refine Below.drew ?_) | (with_reducible refine Below.setCell ?_ ?_ _) | go_size))) (fun k hk => .inl hk)), hh⟩
      · have hh' : ((pre.length : Int) == heldV most) = false := by simpa using hh
        have c0 := bl'.cell 0
        have c1 := hi.m.cell 0
        have k0 := bc.cell 0
        have k1 := bc.cell 1
        simp only [List.getElem?_cons_zero, List.getElem?_cons_succ] at c0 c1 k0 k1
        have z0 := bl'.lt
        have z1 := hi.m.lt
        have zb := bc.lt
        refine wpIn_block ?_
        apply wpIn_seq_k; intro K1 hK1
        apply wpIn_seq_k; intro K2 hK2
        refine wpIn_region_ext (by kernel_rfl) (by kernel_rfl) (by kernel_rfl) (fun F hF => ?_)
        have HF := hid hF; clear hF
        repeat (first
          | (apply text_skip; (focus rfl); simp only [Act.put, List.setIfInBounds_toArray, List.set_cons_zero, List.set_cons_succ])
          | (apply text_val; (focus rfl); (focus (intro _ _; go_simp; with_reducible rfl)); simp only [Act.put, List.setIfInBounds_toArray, List.set_cons_zero, List.set_cons_succ])
          | (apply text_call; (focus rfl); (focus (intro _ _; go_simp; exact ⟨rfl, rfl⟩)); (focus (intro _ _; with_reducible (exact held_any _ _))); simp only [Act.put, List.setIfInBounds_toArray, List.set_cons_zero, List.set_cons_succ])
          | (apply text_if; (focus (first | exact wanted_t rfl rfl | exact wanted_f rfl rfl | exact wanted_gt rfl rfl | exact wanted_gf rfl rfl)); (focus (intro hc _ _; (try simp only [Bool.and_eq_true, Bool.not_eq_true', Bool.true_and] at hc); go_simp; with_reducible rfl)); simp only [Act.put, List.setIfInBounds_toArray, List.set_cons_zero, List.set_cons_succ])
          | (apply text_if_call; (focus (first | exact wanted_t rfl rfl | exact wanted_f rfl rfl | exact wanted_gt rfl rfl | exact wanted_gf rfl rfl)); (focus (intro hc _ _; (try simp only [Bool.and_eq_true, Bool.not_eq_true', Bool.true_and] at hc); go_simp; exact ⟨rfl, rfl⟩)); (focus (intro hc _ _; with_reducible (exact held_any _ _))); simp only [Act.put, List.setIfInBounds_toArray, List.set_cons_zero, List.set_cons_succ]))
        refine text_nil (HF.out _ (fun mx dx => ?_))
        clear HF F
        simp only [Exit.then]
        apply hK2
        refine wpIn_cond_false rfl ?_
        refine wpIn_skip ?_
        simp only [Exit.then]
        apply hK1
        have hX : Below W.heap.size W (W.ext mx dx) := by (repeat' (first | (with_reducible exact Below.refl _ _) | (with_reducible refine Below.ext_mk ?_ ?_ _ _) | (with_reducible refine Below.alloc ?_ ?_ _) | (with_reducible refine Below.drew ?_) | (with_reducible refine Below.setCell ?_ ?_ _) | go_size))
        generalize W.ext mx dx = X at hX ⊢
        have c2 := (bl'.below hX).cell 0
        have k2 := (bc.below hX).cell 0
        have k3 := (bc.below hX).cell 1
        simp only [List.getElem?_cons_zero, List.getElem?_cons_succ] at c2 k2 k3
        obtain ⟨v', w1, r1, ⟨va, vn, vc, rfl⟩, r2, r3, r4, r5, r6⟩ := hi.next (by omega) (by omega) (by omega) (by omega) (by omega) (by omega) (by omega) hB bl' hrow hG (by omega) x hX
        clear c0 c1 k0 k1
        have R5 := hid r5
        have R6 := hid r6
        clear r5 r6
        refine wpIn_region_doc (by kernel_rfl) (fun F' hF0 => ?_)
        have HF := hid hF0
        clear hF0
        iterate 3 (refine doc_val rfl (by first | (go_simp; done) | (go_simp; exact ⟨rfl, rfl⟩) | (go_simp; with_reducible rfl)) ?_; simp only [Act.put, List.setIfInBounds_toArray, List.set_cons_zero, List.set_cons_succ])
        refine doc_val rfl (run_append_op _ _ _ _ _ _ _ _ _ r1) ?_
        simp only [Act.put, List.setIfInBounds_toArray, List.set_cons_zero, List.set_cons_succ]
        refine doc_skip rfl (by first | (go_simp; done) | (go_simp; exact ⟨rfl, rfl⟩) | (go_simp; with_reducible rfl)) ?_
        simp only [Act.put, List.setIfInBounds_toArray, List.set_cons_zero, List.set_cons_succ]
        refine doc_end (HF.out _ _ ?_)
        clear HF F'
        simp only [Exit.then, Exit.inBlock]
        refine ⟨R6.out _ (fun q hq => ?_), R5.out⟩
        have := hi.size
        rcases List.mem_append.1 hq with h1 | h1
        · have t1 := TL q h1
          exact ⟨by omega, t1.2, fun e => by have := (hG q e).1; omega⟩
        · have t1 := hB q h1
          exact ⟨t1.2, by omega, fun e => (hG q e).2 h1⟩
    case done =>
      rintro D B xs W hD hDB rfl hi hK
      obtain ⟨sv, G, bl', hrow, hG⟩ := hi.l
      obtain ⟨la, lc, rfl, hlm⟩ := hrow.form
      have s2 := Blk.same1 bl'
      have f2 := bl'.free 0
      have f3 := hi.r.free 0
      have c0 := bl'.cell 0
      have c3 := hi.r.cell 0
      have z0 := bl'.lt
      have z3 := hi.r.lt
      simp only [List.getElem?_cons_zero] at c0 c3
      go_upto_region 8 with (fail)
      refine wp_region_doc (fun F' hF0 => ?_)
      have HF := hid hF0
      clear hF0
      refine doc_val rfl (by first | (go_simp; done) | (go_simp; exact ⟨rfl, rfl⟩) | (go_simp; with_reducible rfl)) ?_
      simp only [Act.put, List.setIfInBounds_toArray, List.set_cons_zero, List.set_cons_succ]
      iterate 2 (refine doc_skip rfl (by first | (go_simp; done) | (go_simp; exact ⟨rfl, rfl⟩) | (go_simp; with_reducible rfl)) ?_; simp only [Act.put, List.setIfInBounds_toArray, List.set_cons_zero, List.set_cons_succ])
      refine doc_end (HF.out _ _ ?_)
      clear HF F'
      go_wp2
      have br2 := hi.r.set_ 0 (.bool true)
      have bl2 := bl'.far (b := w.heap.size + 1 + 1) (by omega) 0 (.bool true)
      have hK2 := (Below.heap_setCell W ⟨w.heap.size + 1 + 1, 0, none⟩ (.bool true) D (by show D ≠ w.heap.size + 1 + 1; omega)).trans hK
      have hb3 : Below w.heap.size W (W.setCell ⟨w.heap.size + 1 + 1, 0, none⟩ (.bool true)) := (Below.refl _ _).setCell (p := ⟨w.heap.size + 1 + 1, 0, none⟩) (by show w.heap.size ≤ w.heap.size + 1 + 1; omega) _
      have hrow2 : RowIs (W.setCell ⟨w.heap.size + 1 + 1, 0, none⟩ (.bool true)) (.slice la (pathsL S a).length lc) G 85 2 (pathsL S a).length (cus (pathsL S a)) :=
        hrow.keep (fun g hg => Below.heap_setCell _ _ _ _ (by have := (hG g hg).1; show g ≠ w.heap.size + 1 + 1; omega))
      simp only [List.set_cons_zero] at br2
      exact cpaths_leave bl2 br2 hrow2 (fun g hg => ⟨by have := (hG g hg).1; omega, fun e => (hG g hg).2 (e ▸ hDB)⟩) (hi.bel.trans hb3) hK2 (by omega) (by unfold pathsV; rw [if_neg hf, if_pos hi.held]) _ _ _ _ _ _ _ _
    case stop =>
      rintro D B c pre W hD hDB hpre ⟨rfl, pre', x, rfl, hi, hl⟩ hK
      refine wpIn_wide.2 ?_
      simp only [Exit.inBlock, Exit.then]
      go_wp2
      obtain ⟨sv, G, bl', hrow, hG⟩ := hi.l
      obtain ⟨la, lc, rfl, hlm⟩ := hrow.form
      obtain ⟨t, ht⟩ := hpre
      have hpl : pathsV S a most = (pre', false) := by
        unfold pathsV
        rw [if_neg hf, if_neg (by rw [← ht, ← hl]; simp only [List.length_append, List.length_cons, List.length_nil]; omega), ← ht, ← hl]
        simp
      exact cpaths_leave bl' hi.r hrow (fun g hg => ⟨by have := (hG g hg).1; omega, fun e => (hG g hg).2 (e ▸ hDB)⟩) hi.bel hK (by omega) hpl _ _ _ _ _ _ _ _
end Go.Proofs.Ytboekafmplomhaa
set_option linter.unusedVariables false
set_option linter.unusedSimpArgs false
namespace Go.Proofs.Ytboekafmplomhaa
open Go.RowKit

theorem bit_and {n k : Nat} (hn : n < 18446744073709551616) (hk : k < 64) : bits .and .u64 ((n : Int) / 2 ^ k) 1 = if Nat.testBit n k = true then 1 else 0 := by
  have e : ((n : Int) / 2 ^ k) = ((n / 2 ^ k : Nat) : Int) := by simp
  have h := bits_and_u64_nat (n / 2 ^ k) 1 (Nat.lt_of_le_of_lt (Nat.div_le_self _ _) hn) (by omega)
  rw [e, show (1 : Int) = ((1 : Nat) : Int) from rfl, h, Nat.testBit_eq_decide_div_mod_eq]
  rw [Nat.and_one_is_mod]
  by_cases h1 : n / 2 ^ k % 2 = 1
  · simp [h1]
  · have h0 : n / 2 ^ k % 2 = 0 := by omega
    simp [h0]

set_option maxHeartbeats 2000000 in
theorem cof_live {w : World} {p : Nat} {F : List Nat} {S : Sto} (h : StoIs w p F S) (hG : Gs S) {c : Cu} (hc : CuOk c) :
    Tells 59 #[.pointer (some ⟨p, 0, none⟩), cv c] w p F (ofV S c) := by
  have hFu := fun W F S (h : StoIs W p F S) (hG : Gs S) => full_any h (by have := hG.1.cap2; omega)
  have hVa := fun W F S (h : StoIs W p F S) (hG : Gs S) (v : Int) => var_call h hG.1 v
  have hNo := fun W F S (h : StoIs W p F S) (hG : Gs S) (v : Int) => not_call h hG.1 v
  have hAn := fun W F S (h : StoIs W p F S) (hG : Gs S) (x y : Int) => and_call h hG.1 x y
  unfold Tells at hVa hNo hAn ⊢
  go_enter Try.func59, Try.ntmps59
  go_upto_region 1 with (fail)
  refine wp_gen (fun V hV => ?_)
  have hbV : Below w.heap.size w V := by rw [hV]; (repeat' (first | (with_reducible exact Below.refl _ _) | (with_reducible refine Below.ext_mk ?_ ?_ _ _) | (with_reducible refine Below.alloc ?_ ?_ _) | (with_reducible refine Below.drew ?_) | (with_reducible refine Below.setCell ?_ ?_ _) | go_size))
  have bz : Blk V w.heap.size 85 [.int .u64 c.1, .int .u64 c.2] := by rw [hV]; exact Blk.new w 85 [.int .u64 c.1, .int .u64 c.2]
  clear hV
  have zz := bz.lt
  have c0 := bz.cell 0
  have c1 := bz.cell 1
  simp only [List.getElem?_cons_zero, List.getElem?_cons_succ] at c0 c1
  have hV := h.below hbV
  have zF : w.heap.size ∉ F := fun hm => Nat.lt_irrefl _ (h.lt _ hm)
  have stV : StoStep w V F F := StoStep.of_below hbV
  by_cases hm : mayC c = true
  · have M := cmay_any hc
    rw [hm] at M
    by_cases hf : S.full = true
    · have FU := fun W (hb : Below V.heap.size V W) => hFu W F S (hV.below hb) hG
      rw [hf] at FU
      refine wp_region_doc (fun F hF => ?_)
      have HF := hid hF
      clear hF
      iterate 1 (refine doc_val rfl (by first | (go_simp; done) | (go_simp; exact ⟨rfl, rfl⟩) | (go_simp; with_reducible rfl)) ?_; simp only [Act.put, List.setIfInBounds_toArray, List.set_cons_zero, List.set_cons_succ])
      refine doc_call rfl (by first | (go_simp; done) | (go_simp; exact ⟨rfl, rfl⟩) | (go_simp; with_reducible rfl)) (Calls.mono (M _) ?_)
      rintro _ _ ⟨rfl, mz, dz, rfl⟩
      refine ⟨_, rfl, ?_⟩
      simp only [Act.put, List.setIfInBounds_toArray, List.set_cons_zero, List.set_cons_succ]
      iterate 2 (refine doc_val rfl (by first | (go_simp; done) | (go_simp; exact ⟨rfl, rfl⟩) | (go_simp; with_reducible rfl)) ?_; simp only [Act.put, List.setIfInBounds_toArray, List.set_cons_zero, List.set_cons_succ])
      iterate 1 (refine doc_val rfl (by first | (go_simp; done) | (go_simp; exact ⟨rfl, rfl⟩) | (go_simp; with_reducible rfl)) ?_; simp only [Act.put, List.setIfInBounds_toArray, List.set_cons_zero, List.set_cons_succ])
      refine doc_call rfl (by first | (go_simp; done) | (go_simp; exact ⟨rfl, rfl⟩) | (go_simp; with_reducible rfl)) (Calls.mono (FU _ (by (repeat' (first | (with_reducible exact Below.refl _ _) | (with_reducible refine Below.ext_mk ?_ ?_ _ _) | (with_reducible refine Below.alloc ?_ ?_ _) | (with_reducible refine Below.drew ?_) | (with_reducible refine Below.setCell ?_ ?_ _) | go_size)))) ?_)
      rintro _ _ ⟨rfl, mz, dz, rfl⟩
      refine ⟨_, rfl, ?_⟩
      simp only [Act.put, List.setIfInBounds_toArray, List.set_cons_zero, List.set_cons_succ]
      iterate 1 (refine doc_val rfl (by first | (go_simp; done) | (go_simp; exact ⟨rfl, rfl⟩) | (go_simp; with_reducible rfl)) ?_; simp only [Act.put, List.setIfInBounds_toArray, List.set_cons_zero, List.set_cons_succ])
      refine doc_end (HF.out _ _ ?_)
      clear HF F
      go_wp2
      go_returns
      have e : ofV S c = (S, 0) := by unfold ofV; rw [if_pos (.inr hf)]
      rw [e]
      exact ⟨rfl, F, hV.below (by (repeat' (first | (with_reducible exact Below.refl _ _) | (with_reducible refine Below.ext_mk ?_ ?_ _ _) | (with_reducible refine Below.alloc ?_ ?_ _) | (with_reducible refine Below.drew ?_) | (with_reducible refine Below.setCell ?_ ?_ _) | go_size))), stV.trans (StoStep.of_below (by (repeat' (first | (with_reducible exact Below.refl _ _) | (with_reducible refine Below.ext_mk ?_ ?_ _ _) | (with_reducible refine Below.alloc ?_ ?_ _) | (with_reducible refine Below.drew ?_) | (with_reducible refine Below.setCell ?_ ?_ _) | go_size))))⟩
    · have hf' : S.full = false := by simpa using hf
      have FU := fun W (hb : Below V.heap.size V W) => hFu W F S (hV.below hb) hG
      rw [hf'] at FU
      refine wp_region_doc (fun F hF => ?_)
      have HF := hid hF
      clear hF
      iterate 1 (refine doc_val rfl (by first | (go_simp; done) | (go_simp; exact ⟨rfl, rfl⟩) | (go_simp; with_reducible rfl)) ?_; simp only [Act.put, List.setIfInBounds_toArray, List.set_cons_zero, List.set_cons_succ])
      refine doc_call rfl (by first | (go_simp; done) | (go_simp; exact ⟨rfl, rfl⟩) | (go_simp; with_reducible rfl)) (Calls.mono (M _) ?_)
      rintro _ _ ⟨rfl, mz, dz, rfl⟩
      refine ⟨_, rfl, ?_⟩
      simp only [Act.put, List.setIfInBounds_toArray, List.set_cons_zero, List.set_cons_succ]
      iterate 2 (refine doc_val rfl (by first | (go_simp; done) | (go_simp; exact ⟨rfl, rfl⟩) | (go_simp; with_reducible rfl)) ?_; simp only [Act.put, List.setIfInBounds_toArray, List.set_cons_zero, List.set_cons_succ])
      iterate 1 (refine doc_val rfl (by first | (go_simp; done) | (go_simp; exact ⟨rfl, rfl⟩) | (go_simp; with_reducible rfl)) ?_; simp only [Act.put, List.setIfInBounds_toArray, List.set_cons_zero, List.set_cons_succ])
      refine doc_call rfl (by first | (go_simp; done) | (go_simp; exact ⟨rfl, rfl⟩) | (go_simp; with_reducible rfl)) (Calls.mono (FU _ (by (repeat' (first | (with_reducible exact Below.refl _ _) | (with_reducible refine Below.ext_mk ?_ ?_ _ _) | (with_reducible refine Below.alloc ?_ ?_ _) | (with_reducible refine Below.drew ?_) | (with_reducible refine Below.setCell ?_ ?_ _) | go_size)))) ?_)
      rintro _ _ ⟨rfl, mz, dz, rfl⟩
      refine ⟨_, rfl, ?_⟩
      simp only [Act.put, List.setIfInBounds_toArray, List.set_cons_zero, List.set_cons_succ]
      iterate 1 (refine doc_val rfl (by first | (go_simp; done) | (go_simp; exact ⟨rfl, rfl⟩) | (go_simp; with_reducible rfl)) ?_; simp only [Act.put, List.setIfInBounds_toArray, List.set_cons_zero, List.set_cons_succ])
      refine doc_end (HF.out _ _ ?_)
      clear HF F
      have eO : ofV S c = if (ofN c 64 S 1).1.full then ((ofN c 64 S 1).1, 0) else ofN c 64 S 1 := by
        unfold ofV; rw [if_neg (by rw [hm, hf']; simp)]
      have EO := hid eO
      clear eO M FU hm hf hf'
      go_wp2
      go_loopw [5, 6] (fun a v wr => ∃ (x : Int) (k : Nat) (S1 : Sto) (F1 : List Nat), k ≤ 64 ∧ a = .int .i64 x ∧ v = .int .i64 ((k : Int) - 1) ∧ StoIs wr p F1 S1 ∧ Gs S1 ∧ StoStep V wr F F1 ∧ ofN c k S1 x = ofN c 64 S 1) (fun _ v _ => (intOf v + 1).toNat)
      case atStart => exact ⟨_, 64, S, F, by omega, rfl, rfl, hV.below (by (repeat' (first | (with_reducible exact Below.refl _ _) | (with_reducible refine Below.ext_mk ?_ ?_ _ _) | (with_reducible refine Below.alloc ?_ ?_ _) | (with_reducible refine Below.drew ?_) | (with_reducible refine Below.setCell ?_ ?_ _) | go_size))), hG, StoStep.of_below (by (repeat' (first | (with_reducible exact Below.refl _ _) | (with_reducible refine Below.ext_mk ?_ ?_ _ _) | (with_reducible refine Below.alloc ?_ ?_ _) | (with_reducible refine Below.drew ?_) | (with_reducible refine Below.setCell ?_ ?_ _) | go_size))), rfl⟩
      case round =>
        obtain ⟨x, k, S1, F1, hk, rfl, rfl, hS1, hG1, st1, hof⟩ := hrel
        have HO := hid hof
        clear hof
        have eb := st1.block _ zz zF
        have b1 := bz.keep eb
        have zz1 := b1.lt
        have d0 := b1.cell 0
        have d1 := b1.cell 1
        simp only [List.getElem?_cons_zero, List.getElem?_cons_succ] at d0 d1
        rcases k with _ | k
        · have FU := hFu _ _ _ hS1 hG1
          have e1 : (((0 : Nat) : Int) - 1) = -1 := by omega
          rw [e1]
          clear e1
          by_cases hf : S1.full = true
          · rw [hf] at FU
            go_wp2_with (go_at_call 22; refine FU.mono ?_; rintro e w' ⟨rfl, m1, d1, rfl⟩)
            go_returns
            rw [EO.out, ← HO.out]
            simp only [ofN, hf, ↓reduceIte]
            exact ⟨rfl, F1, hS1.ext _ _, stV.trans (st1.trans (StoStep.of_below (by (repeat' (first | (with_reducible exact Below.refl _ _) | (with_reducible refine Below.ext_mk ?_ ?_ _ _) | (with_reducible refine Below.alloc ?_ ?_ _) | (with_reducible refine Below.drew ?_) | (with_reducible refine Below.setCell ?_ ?_ _) | go_size)))))⟩
          · have hf' : S1.full = false := by simpa using hf
            rw [hf'] at FU
            go_wp2_with (go_at_call 22; refine FU.mono ?_; rintro e w' ⟨rfl, m1, d1, rfl⟩)
            go_returns
            rw [EO.out, ← HO.out]
            simp only [ofN, hf', Bool.false_eq_true, ↓reduceIte]
            exact ⟨rfl, F1, hS1.ext _ _, stV.trans (st1.trans (StoStep.of_below (by (repeat' (first | (with_reducible exact Below.refl _ _) | (with_reducible refine Below.ext_mk ?_ ?_ _ _) | (with_reducible refine Below.alloc ?_ ?_ _) | (with_reducible refine Below.drew ?_) | (with_reducible refine Below.setCell ?_ ?_ _) | go_size)))))⟩
        · have e1 : (((k + 1 : Nat) : Int) - 1) = (k : Int) := by omega
          rw [e1]
          clear e1
          have hk0 : (0 : Int) ≤ (k : Int) := by omega
          have g1 := bit_and hc.1 (show k < 64 by omega)
          have g2 := bit_and hc.2 (show k < 64 by omega)
          by_cases t1 : Nat.testBit c.1 k = true
          · rw [if_pos t1] at g1
            obtain ⟨R1, hR1⟩ : ∃ R, R = varV S1 (k : Int) := ⟨_, rfl⟩
            have V1 := hVa _ _ _ hS1 hG1 (k : Int)
            have G1 := varV_gs hG1 (k : Int)
            rw [← hR1] at V1 G1
            by_cases t2 : Nat.testBit c.2 k = true
            · rw [if_pos t2] at g2
              obtain ⟨R3, hR3⟩ : ∃ R, R = andV R1.1 R1.2 x := ⟨_, rfl⟩
              have A3 := fun W F (h : StoIs W p F R1.1) => hAn W F _ h G1 R1.2 x
              have G3 := andV_gs G1 R1.2 x
              rw [← hR3] at A3 G3
              have HE : Hid (ofN c (k + 1) S1 x = ofN c k R3.1 R3.2) := hid (by rw [ofN, if_pos t1, if_pos t2, ← hR1, ← hR3])
              clear hR1 hR3 t1 t2 hVa hNo hAn hFu
              go_wp2_with (first
                | (go_at_call 24; refine V1.mono ?_; rintro e w2 ⟨rfl, F2, hS2, st2⟩; have b2 := bz.keep ((st1.trans st2).block _ zz zF); have d3 := b2.cell 1; simp only [List.getElem?_cons_zero, List.getElem?_cons_succ] at d3; have zz2 := b2.lt)
                | (go_at_call 27; refine (A3 _ _ hS2).mono ?_; rintro e w3 ⟨rfl, F3, hS3, st3⟩))
              go_roundw
              case rel => exact ⟨R3.2, k, R3.1, F3, by omega, rfl, by go_num, hS3, G3, (st1.trans st2).trans st3, HE.out.symm.trans HO.out⟩
              case measure => first | (simp [intOf]; done) | (simp [intOf]; omega)
            · rw [if_neg t2] at g2
              obtain ⟨R2, hR2⟩ : ∃ R, R = notV R1.1 R1.2 := ⟨_, rfl⟩
              have N2 := fun W F (h : StoIs W p F R1.1) => hNo W F _ h G1 R1.2
              have G2 := notV_gs G1 R1.2
              rw [← hR2] at N2 G2
              obtain ⟨R3, hR3⟩ : ∃ R, R = andV R2.1 R2.2 x := ⟨_, rfl⟩
              have A3 := fun W F (h : StoIs W p F R2.1) => hAn W F _ h G2 R2.2 x
              have G3 := andV_gs G2 R2.2 x
              rw [← hR3] at A3 G3
              have HE : Hid (ofN c (k + 1) S1 x = ofN c k R3.1 R3.2) := hid (by rw [ofN, if_pos t1, if_neg t2, ← hR1, ← hR2, ← hR3])
              clear hR1 hR2 hR3 t1 t2 hVa hNo hAn hFu
              go_wp2_with (first
                | (go_at_call 24; refine V1.mono ?_; rintro e w2 ⟨rfl, F2, hS2, st2⟩; have b2 := bz.keep ((st1.trans st2).block _ zz zF); have d3 := b2.cell 1; simp only [List.getElem?_cons_zero, List.getElem?_cons_succ] at d3; have zz2 := b2.lt)
                | (go_at_call 26; refine (N2 _ _ hS2).mono ?_; rintro e w4 ⟨rfl, F4, hS4, st4⟩)
                | (go_at_call 27; refine (A3 _ _ hS4).mono ?_; rintro e w3 ⟨rfl, F3, hS3, st3⟩))
              go_roundw
              case rel => exact ⟨R3.2, k, R3.1, F3, by omega, rfl, by go_num, hS3, G3, ((st1.trans st2).trans st4).trans st3, HE.out.symm.trans HO.out⟩
              case measure => first | (simp [intOf]; done) | (simp [intOf]; omega)
          · rw [if_neg t1] at g1
            have HE : Hid (ofN c (k + 1) S1 x = ofN c k S1 x) := hid (by rw [ofN, if_neg t1])
            clear t1
            go_wp2
            go_roundw
            case rel => exact ⟨x, k, S1, F1, by omega, rfl, by go_num, hS1, hG1, st1, HE.out.symm.trans HO.out⟩
            case measure => first | (simp [intOf]; done) | (simp [intOf]; omega)
  · have hm' : mayC c = false := by simpa using hm
    have M := cmay_any hc
    rw [hm'] at M
    refine wp_region_doc (fun F hF => ?_)
    have HF := hid hF
    clear hF
    iterate 1 (refine doc_val rfl (by first | (go_simp; done) | (go_simp; exact ⟨rfl, rfl⟩) | (go_simp; with_reducible rfl)) ?_; simp only [Act.put, List.setIfInBounds_toArray, List.set_cons_zero, List.set_cons_succ])
    refine doc_call rfl (by first | (go_simp; done) | (go_simp; exact ⟨rfl, rfl⟩) | (go_simp; with_reducible rfl)) (Calls.mono (M _) ?_)
    rintro _ _ ⟨rfl, mz, dz, rfl⟩
    refine ⟨_, rfl, ?_⟩
    simp only [Act.put, List.setIfInBounds_toArray, List.set_cons_zero, List.set_cons_succ]
    iterate 2 (refine doc_val rfl (by first | (go_simp; done) | (go_simp; exact ⟨rfl, rfl⟩) | (go_simp; with_reducible rfl)) ?_; simp only [Act.put, List.setIfInBounds_toArray, List.set_cons_zero, List.set_cons_succ])
    iterate 2 (refine doc_not rfl ?_; simp only [Act.put, List.setIfInBounds_toArray, List.set_cons_zero, List.set_cons_succ])
    iterate 1 (refine doc_val rfl (by first | (go_simp; done) | (go_simp; exact ⟨rfl, rfl⟩) | (go_simp; with_reducible rfl)) ?_; simp only [Act.put, List.setIfInBounds_toArray, List.set_cons_zero, List.set_cons_succ])
    refine doc_end (HF.out _ _ ?_)
    clear HF F
    go_wp2
    go_returns
    have e : ofV S c = (S, 0) := by unfold ofV; rw [if_pos (.inl hm')]
    rw [e]
    exact ⟨rfl, F, hV.below (by (repeat' (first | (with_reducible exact Below.refl _ _) | (with_reducible refine Below.ext_mk ?_ ?_ _ _) | (with_reducible refine Below.alloc ?_ ?_ _) | (with_reducible refine Below.drew ?_) | (with_reducible refine Below.setCell ?_ ?_ _) | go_size))), stV.trans (StoStep.of_below (by (repeat' (first | (with_reducible exact Below.refl _ _) | (with_reducible refine Below.ext_mk ?_ ?_ _ _) | (with_reducible refine Below.alloc ?_ ?_ _) | (with_reducible refine Below.drew ?_) | (with_reducible refine Below.setCell ?_ ?_ _) | go_size))))⟩
end Go.Proofs.Ytboekafmplomhaa
