/-
  What the store computes, in plain Lean: nodes, Ite; what diagrams mean.
-/
import Derived.Test.YtboekafmplomhaaZStoB
import Derived.Defers
import Derived.Recover
import Derived.StillTailTactics
set_option linter.unusedVariables false
set_option linter.unusedSimpArgs false
namespace Go.Proofs.Ytboekafmplomhaa

/-- The node of a variable, a lo and a hi; none: the store is full. -/
def mkN (S : Sto) (v lo hi : Int) : Sto × Option Int :=
  if lo = hi then (S, some lo) else
  match aget S.byn (v, lo, hi) with
  | some r => (S, some r)
  | none => if (S.nodes.length : Int) = S.cap then ({ S with full := true }, none)
    else ({ S with nodes := S.nodes ++ [(v, lo, hi)], byn := aput S.byn (v, lo, hi) (S.nodes.length + 2) }, some (S.nodes.length + 2))

def low (S : Sto) (c a b : Int) : Int := min (min (topOf S c) (topOf S a)) (topOf S b)

/-- Ite; none: the store is full. -/
def iteN : Nat → Sto → Int → Int → Int → Sto × Option Int
  | 0, S, _, _, _ => (S, none)
  | n + 1, S, c, a, b =>
    if c = 1 ∨ a = b then (S, some a) else if c = 0 then (S, some b) else if a = 1 ∧ b = 0 then (S, some c) else
    match aget S.told (c, a, b) with
    | some r => (S, some r)
    | none =>
      match iteN n S (splitOf S c (low S c a b)).1 (splitOf S a (low S c a b)).1 (splitOf S b (low S c a b)).1 with
      | (S1, none) => (S1, none)
      | (S1, some lo) =>
        match iteN n S1 (splitOf S c (low S c a b)).2 (splitOf S a (low S c a b)).2 (splitOf S b (low S c a b)).2 with
        | (S2, none) => (S2, none)
        | (S2, some hi) =>
          match mkN S2 (low S c a b) lo hi with
          | (S3, none) => (S3, none)
          | (S3, some r) => ({ S3 with told := aput S3.told (c, a, b) r }, some r)

/-- What a diagram is under bits. -/
def evN (L : List Nd) (β : Int → Bool) : Nat → Int → Bool
  | 0, a => decide (a = 1)
  | k + 1, a => if a < 2 then decide (a = 1) else match L[(a - 2).toNat]? with
    | none => false
    | some n => evN L β k (if β n.1 then n.2.2 else n.2.1)
def ev (S : Sto) (β : Int → Bool) (a : Int) : Bool := evN S.nodes β a.toNat a

def Sto.has (S : Sto) (a : Int) : Prop := 0 ≤ a ∧ a < S.nodes.length + 2

/-- One store has grown to another one. -/
structure Grows (S S' : Sto) : Prop where
  pre : S.nodes <+: S'.nodes
  cap : S'.cap = S.cap
theorem Grows.refl (S : Sto) : Grows S S := ⟨List.prefix_refl _, rfl⟩
theorem Grows.trans {a b c : Sto} (h : Grows a b) (k : Grows b c) : Grows a c := ⟨h.pre.trans k.pre, k.cap.trans h.cap⟩
theorem Grows.len {S S' : Sto} (h : Grows S S') : S.nodes.length ≤ S'.nodes.length := h.pre.length_le
theorem Grows.at {S S' : Sto} (h : Grows S S') {i : Nat} {n : Nd} (hi : S.nodes[i]? = some n) : S'.nodes[i]? = some n := by
  obtain ⟨l, hl⟩ := h.pre
  rw [← hl, List.getElem?_append_left (List.getElem?_eq_some_iff.1 hi).1]; exact hi
theorem Grows.get {S S' : Sto} (h : Grows S S') {i : Nat} (hi : i < S.nodes.length) : S'.nodes[i]? = S.nodes[i]? := by
  obtain ⟨l, hl⟩ := h.pre
  rw [← hl, List.getElem?_append_left hi]
theorem Grows.has {S S' : Sto} (h : Grows S S') {a : Int} (ha : S.has a) : S'.has a := ⟨ha.1, by have := ha.2; have := h.len; omega⟩
theorem Grows.top {S S' : Sto} (h : Grows S S') {a : Int} (ha : S.has a) : topOf S' a = topOf S a := by
  unfold topOf
  by_cases h2 : a < 2
  · rw [if_pos h2, if_pos h2]
  · rw [if_neg h2, if_neg h2, h.get (by have := ha.2; omega)]
theorem Grows.split {S S' : Sto} (h : Grows S S') {a : Int} (ha : S.has a) {v : Int} (hv : v < 64) : splitOf S' a v = splitOf S a v := by
  unfold splitOf
  rw [h.top ha]
  by_cases hv' : topOf S a = v
  · have h2 : ¬ a < 2 := fun h2 => by unfold topOf at hv'; rw [if_pos h2] at hv'; omega
    rw [if_pos hv', if_pos hv', h.get (by have := ha.2; omega)]
  · rw [if_neg hv', if_neg hv']

/-- A node as it should be. -/
structure NodeOk (S : Sto) (i : Nat) (n : Nd) : Prop where
  v0 : 0 ≤ n.1
  v64 : n.1 < 64
  lo0 : 0 ≤ n.2.1
  lo : n.2.1 < i + 2
  hi0 : 0 ≤ n.2.2
  hi : n.2.2 < i + 2
  ne : n.2.1 ≠ n.2.2
  tlo : n.1 < topOf S n.2.1
  thi : n.1 < topOf S n.2.2

structure Wf (S : Sto) : Prop where
  cap2 : 2 ≤ S.cap
  cap : S.cap ≤ 1048576
  len : (S.nodes.length : Int) ≤ S.cap
  node : ∀ i n, S.nodes[i]? = some n → NodeOk S i n
  byn : ∀ n r, aget S.byn n = some r ↔ ∃ i : Nat, r = i + 2 ∧ S.nodes[i]? = some n
  told : ∀ c a b r, aget S.told (c, a, b) = some r → S.has c ∧ S.has a ∧ S.has b ∧ S.has r ∧ low S c a b ≤ topOf S r ∧ ∀ β, ev S β r = if ev S β c then ev S β a else ev S β b

section
variable {S S' : Sto}
theorem Wf.child (h : Wf S) {i : Nat} {n : Nd} (hn : S.nodes[i]? = some n) : S.has n.2.1 ∧ S.has n.2.2 := by
  have := h.node i n hn
  have hi := (List.getElem?_eq_some_iff.1 hn).1
  exact ⟨⟨this.lo0, by have := this.lo; omega⟩, ⟨this.hi0, by have := this.hi; omega⟩⟩

theorem has_node {a : Int} (ha : S.has a) (h2 : ¬ a < 2) : ∃ (i : Nat) (n : Nd), a = (i : Int) + 2 ∧ S.nodes[i]? = some n := by
  have hi : (a - 2).toNat < S.nodes.length := by have := ha.2; omega
  exact ⟨(a - 2).toNat, S.nodes[(a - 2).toNat], by omega, by simp [hi]⟩

theorem evN_two (L : List Nd) (β : Int → Bool) (k : Nat) {a : Int} (h : a < 2) : evN L β k a = decide (a = 1) := by
  cases k with
  | zero => rfl
  | succ k => simp only [evN, h, if_true]

theorem evN_node {L : List Nd} (β : Int → Bool) (k : Nat) {i : Nat} {n : Nd} (hn : L[i]? = some n) : evN L β (k + 1) ((i : Int) + 2) = if β n.1 then evN L β k n.2.2 else evN L β k n.2.1 := by
  have hi2 : ((i : Int) + 2 - 2).toNat = i := by omega
  have h2 : ¬ ((i : Int) + 2 < 2) := by omega
  simp only [evN, h2, if_false, hi2, hn]
  cases β n.1 <;> rfl
/-- Enough steps are as good as more. -/
theorem evN_self (h : Wf S) (β : Int → Bool) : ∀ (k : Nat) (a : Int), S.has a → a.toNat ≤ k → evN S.nodes β k a = evN S.nodes β a.toNat a := by
  intro k
  induction k using Nat.strongRecOn with
  | _ k ih =>
    intro a ha hk
    by_cases h2 : a < 2
    · rw [evN_two _ _ _ h2, evN_two _ _ _ h2]
    · obtain ⟨i, n, rfl, hn⟩ := has_node ha h2
      have ht : ((i : Int) + 2).toNat = i + 1 + 1 := by omega
      rw [ht] at hk ⊢
      obtain ⟨k, rfl⟩ : ∃ m, k = m + 1 := ⟨k - 1, by omega⟩
      have hc := h.child hn
      have hok := h.node i n hn
      have := hok.lo; have := hok.hi
      by_cases e : k = i + 1
      · rw [e]
      · rw [evN_node β k hn, evN_node β (i + 1) hn, ih k (by omega) _ hc.1 (by omega), ih (i + 1) (by omega) _ hc.1 (by omega), ih k (by omega) _ hc.2 (by omega), ih (i + 1) (by omega) _ hc.2 (by omega)]
/-- A longer list tells the same. -/
theorem evN_more (h : Wf S) (g : Grows S S') (β : Int → Bool) : ∀ (k : Nat) (a : Int), S.has a → evN S'.nodes β k a = evN S.nodes β k a := by
  intro k
  induction k with
  | zero => intro a _; rfl
  | succ k ih =>
    intro a ha
    by_cases h2 : a < 2
    · rw [evN_two _ _ _ h2, evN_two _ _ _ h2]
    · obtain ⟨i, n, rfl, hn⟩ := has_node ha h2
      have hc := h.child hn
      rw [evN_node β k hn, evN_node β k (g.at hn), ih _ hc.1, ih _ hc.2]

theorem ev_grows (h : Wf S) (g : Grows S S') (β : Int → Bool) {a : Int} (ha : S.has a) : ev S' β a = ev S β a := evN_more h g β a.toNat a ha
theorem ev_low (β : Int → Bool) {a : Int} (h : a < 2) : ev S β a = decide (a = 1) := evN_two _ _ _ h
theorem ev_node (h : Wf S) (β : Int → Bool) {i : Nat} {n : Nd} (hn : S.nodes[i]? = some n) : ev S β ((i : Int) + 2) = if β n.1 then ev S β n.2.2 else ev S β n.2.1 := by
  have ht : ((i : Int) + 2).toNat = i + 1 + 1 := by omega
  have hc := h.child hn
  have hok := h.node i n hn
  have := hok.lo; have := hok.hi
  unfold ev
  rw [ht, evN_node β _ hn, evN_self h β (i + 1) _ hc.1 (by omega), evN_self h β (i + 1) _ hc.2 (by omega)]

theorem topOf_low {a : Int} (h : a < 2) : topOf S a = 64 := by unfold topOf; rw [if_pos h]
theorem topOf_le (h : Wf S) {a : Int} (ha : S.has a) : topOf S a ≤ 64 := by
  by_cases h2 : a < 2
  · rw [topOf_low h2]; omega
  · obtain ⟨i, n, rfl, hn⟩ := has_node ha h2
    rw [topOf_node hn]; have := (h.node i n hn).v64; omega
theorem topOf_ge (h : Wf S) {a : Int} (ha : S.has a) : 0 ≤ topOf S a := by
  by_cases h2 : a < 2
  · rw [topOf_low h2]; omega
  · obtain ⟨i, n, rfl, hn⟩ := has_node ha h2
    rw [topOf_node hn]; have := (h.node i n hn).v0; omega
theorem topOf_64 (h : Wf S) {a : Int} (ha : S.has a) (h64 : topOf S a = 64) : a < 2 := by
  by_cases h2 : a < 2
  · exact h2
  · obtain ⟨i, n, rfl, hn⟩ := has_node ha h2
    rw [topOf_node hn] at h64; have := (h.node i n hn).v64; omega

/-- A diagram hangs on no variable ahead of its own. -/
theorem ev_same (h : Wf S) : ∀ (k : Nat) (a : Int), a.toNat ≤ k → S.has a → ∀ (β γ : Int → Bool), (∀ v, topOf S a ≤ v → v < 64 → β v = γ v) → ev S β a = ev S γ a := by
  intro k
  induction k with
  | zero => intro a hk ha β γ _; rw [ev_low _ (by omega), ev_low _ (by omega)]
  | succ k ih =>
    intro a hk ha β γ hb
    by_cases h2 : a < 2
    · rw [ev_low _ h2, ev_low _ h2]
    · obtain ⟨i, n, rfl, hn⟩ := has_node ha h2
      have hc := h.child hn
      have hok := h.node i n hn
      rw [topOf_node hn] at hb
      rw [ev_node h _ hn, ev_node h _ hn, hb n.1 (Int.le_refl _) hok.v64]
      have := hok.lo; have := hok.hi
      rw [ih n.2.1 (by omega) hc.1 β γ (fun v hv => hb v (by have := hok.tlo; omega)), ih n.2.2 (by omega) hc.2 β γ (fun v hv => hb v (by have := hok.thi; omega))]

/-- The two halves of a diagram. -/
theorem split_ok (h : Wf S) {a : Int} (ha : S.has a) {v : Int} (hv : v ≤ topOf S a) (hv64 : v < 64) :
    S.has (splitOf S a v).1 ∧ S.has (splitOf S a v).2 ∧ v < topOf S (splitOf S a v).1 ∧ v < topOf S (splitOf S a v).2 ∧
    ∀ β, ev S β a = if β v then ev S β (splitOf S a v).2 else ev S β (splitOf S a v).1 := by
  unfold splitOf
  by_cases e : topOf S a = v
  · have h2 : ¬ a < 2 := fun h2 => by rw [topOf_low h2] at e; omega
    obtain ⟨i, n, rfl, hn⟩ := has_node ha h2
    have hi2 : ((i : Int) + 2 - 2).toNat = i := by omega
    have hc := h.child hn
    have hok := h.node i n hn
    rw [topOf_node hn] at e
    subst e
    simp only [topOf_node hn, if_true, hi2, hn, Option.getD_some]
    exact ⟨hc.1, hc.2, hok.tlo, hok.thi, fun β => ev_node h β hn⟩
  · rw [if_neg e]
    exact ⟨ha, ha, by show v < topOf S a; omega, by show v < topOf S a; omega, fun β => by simp⟩

/-- Two diagrams that mean the same are one. -/
theorem canon (h : Wf S) : ∀ (k : Nat) (a b : Int), a < k → b < k → S.has a → S.has b → (∀ β, ev S β a = ev S β b) → a = b := by
  intro k
  induction k with
  | zero => intro a b hk _ ha hb _; have := ha.1; omega
  | succ k ih =>
    intro a b hka hkb ha hb he
    have big : ∀ (a b : Int), a < (k + 1 : Nat) → S.has a → S.has b → (∀ β, ev S β a = ev S β b) → topOf S a < topOf S b → False := by
      intro a b hk ha hb he ht
      have h2 : ¬ a < 2 := fun h2 => by rw [topOf_low h2] at ht; have := topOf_le h hb; omega
      obtain ⟨i, n, rfl, hn⟩ := has_node ha h2
      have hc := h.child hn
      have hok := h.node i n hn
      rw [topOf_node hn] at ht
      have hlo := hok.lo; have hhi := hok.hi
      refine hok.ne (ih _ _ (by omega) (by omega) hc.1 hc.2 (fun β => ?_))
      have e1 : ev S β n.2.1 = ev S (fun v => if v = n.1 then false else β v) ((i : Int) + 2) := by
        rw [ev_node h _ hn]; simp
        exact ev_same h _ _ (Nat.le_refl _) hc.1 _ _ (fun v hv _ => by
          have : v ≠ n.1 := by have := hok.tlo; omega
          simp [this])
      have e2 : ev S β n.2.2 = ev S (fun v => if v = n.1 then true else β v) ((i : Int) + 2) := by
        rw [ev_node h _ hn]; simp
        exact ev_same h _ _ (Nat.le_refl _) hc.2 _ _ (fun v hv _ => by
          have : v ≠ n.1 := by have := hok.thi; omega
          simp [this])
      rw [e1, e2, he, he]
      exact ev_same h _ _ (Nat.le_refl _) hb _ _ (fun v hv _ => by
        have : v ≠ n.1 := by omega
        simp [this])
    rcases Int.lt_trichotomy (topOf S a) (topOf S b) with ht | ht | ht
    · exact (big a b hka ha hb he ht).elim
    · by_cases h2 : a < 2
      · have hb2 : b < 2 := topOf_64 h hb (by rw [← ht, topOf_low h2])
        have := he (fun _ => false)
        rw [ev_low _ h2, ev_low _ hb2] at this
        have h1 := ha.1; have h3 := hb.1
        simp at this
        omega
      · have hb2 : ¬ b < 2 := fun hb2 => h2 (topOf_64 h ha (by rw [ht, topOf_low hb2]))
        obtain ⟨i, n, rfl, hn⟩ := has_node ha h2
        obtain ⟨j, m, rfl, hm⟩ := has_node hb hb2
        have hc := h.child hn
        have hok := h.node i n hn
        have hd := h.child hm
        have hom := h.node j m hm
        rw [topOf_node hn, topOf_node hm] at ht
        have hlo := hok.lo; have hhi := hok.hi; have hlo' := hom.lo; have hhi' := hom.hi
        have key : ∀ (t : Bool) (x y : Int), S.has x → S.has y → n.1 < topOf S x → n.1 < topOf S y → x < k → y < k →
            (∀ β : Int → Bool, β n.1 = t → ev S β x = ev S β y) → x = y := fun t x y hx hy tx ty lx ly hxy =>
          ih x y lx ly hx hy (fun β => by
            have e1 : ∀ z, S.has z → n.1 < topOf S z → ev S β z = ev S (fun v => if v = n.1 then t else β v) z := fun z hz tz =>
              ev_same h _ _ (Nat.le_refl _) hz _ _ (fun v hv _ => by
                have : v ≠ n.1 := by omega
                simp [this])
            rw [e1 x hx tx, e1 y hy ty]
            exact hxy _ (by simp))
        have el : n.2.1 = m.2.1 := key false _ _ hc.1 hd.1 hok.tlo (by have := hom.tlo; omega) (by omega) (by omega) (fun β hβ => by
          have := he β
          rw [ev_node h _ hn, ev_node h _ hm, ← ht, hβ] at this
          simpa using this)
        have eh : n.2.2 = m.2.2 := key true _ _ hc.2 hd.2 hok.thi (by have := hom.thi; omega) (by omega) (by omega) (fun β hβ => by
          have := he β
          rw [ev_node h _ hn, ev_node h _ hm, ← ht, hβ] at this
          simpa using this)
        have enm : n = m := by
          obtain ⟨n1, n2, n3⟩ := n; obtain ⟨m1, m2, m3⟩ := m
          simp only at ht el eh; subst ht el eh; rfl
        subst enm
        have q1 := (h.byn n ((i : Int) + 2)).2 ⟨i, rfl, hn⟩
        have q2 := (h.byn n ((j : Int) + 2)).2 ⟨j, rfl, hm⟩
        rw [q1] at q2
        simpa using q2
    · exact (big b a hkb hb ha (fun β => (he β).symm) ht).elim
theorem ev_eq (h : Wf S) {a b : Int} (ha : S.has a) (hb : S.has b) : (∀ β, ev S β a = ev S β b) ↔ a = b :=
  ⟨canon h (S.nodes.length + 2) a b (by have := ha.2; omega) (by have := hb.2; omega) ha hb, fun e _ => by rw [e]⟩
end
end Go.Proofs.Ytboekafmplomhaa
set_option linter.unusedVariables false
set_option linter.unusedSimpArgs false
namespace Go.Proofs.Ytboekafmplomhaa

section
variable {S S' : Sto}
theorem Grows.low (g : Grows S S') {c a b : Int} (hc : S.has c) (ha : S.has a) (hb : S.has b) : low S' c a b = low S c a b := by
  unfold Go.Proofs.Ytboekafmplomhaa.low; rw [g.top hc, g.top ha, g.top hb]

/-- What a node's making keeps, and gives. -/
structure MkOk (S : Sto) (v lo hi : Int) (R : Sto × Option Int) : Prop where
  wf : Wf R.1
  grows : Grows S R.1
  toldSame : R.1.told = S.told
  full : R.2.isSome = true → R.1.full = S.full
  full' : R.2 = none → R.1.full = true ∧ R.1.nodes = S.nodes
  has : ∀ r, R.2 = some r → R.1.has r ∧ v ≤ topOf R.1 r ∧ ∀ β, ev R.1 β r = if β v then ev S β hi else ev S β lo

theorem told_grows {T : List (Nd × Int)} (h : Wf S) (g : Grows S S') (ht : ∀ c a b r, aget T (c, a, b) = some r → S.has c ∧ S.has a ∧ S.has b ∧ S.has r ∧ low S c a b ≤ topOf S r ∧ ∀ β, ev S β r = if ev S β c then ev S β a else ev S β b) :
    ∀ c a b r, aget T (c, a, b) = some r → S'.has c ∧ S'.has a ∧ S'.has b ∧ S'.has r ∧ low S' c a b ≤ topOf S' r ∧ ∀ β, ev S' β r = if ev S' β c then ev S' β a else ev S' β b := by
  intro c a b r hr
  obtain ⟨h1, h2, h3, h4, h5, h6⟩ := ht c a b r hr
  refine ⟨g.has h1, g.has h2, g.has h3, g.has h4, by rw [g.low h1 h2 h3, g.top h4]; exact h5, fun β => ?_⟩
  rw [ev_grows h g β h1, ev_grows h g β h2, ev_grows h g β h3, ev_grows h g β h4]; exact h6 β

theorem mkN_ok (h : Wf S) {v lo hi : Int} (v0 : 0 ≤ v) (v64 : v < 64) (hlo : S.has lo) (hhi : S.has hi) (tlo : v < topOf S lo) (thi : v < topOf S hi) : MkOk S v lo hi (mkN S v lo hi) := by
  unfold mkN
  by_cases e : lo = hi
  · rw [if_pos e]
    subst e
    exact ⟨h, Grows.refl S, rfl, fun _ => rfl, fun h => by simp at h, fun r hr => by cases hr; exact ⟨hlo, Int.le_of_lt tlo, fun β => by simp⟩⟩
  · rw [if_neg e]
    cases hr : aget S.byn (v, lo, hi) with
    | some r =>
      obtain ⟨i, rfl, hn⟩ := (h.byn _ _).1 hr
      have hi' := (List.getElem?_eq_some_iff.1 hn).1
      simp only
      refine ⟨h, Grows.refl S, rfl, fun _ => rfl, fun h => by simp at h, fun r hr => by
        cases hr
        refine ⟨⟨by omega, by show (i : Int) + 2 < S.nodes.length + 2; omega⟩, by rw [topOf_node hn]; exact Int.le_refl _, fun β => ev_node h β hn⟩⟩
    | none =>
      by_cases hl : (S.nodes.length : Int) = S.cap
      · rw [if_pos hl]
        simp only
        have g : Grows S { S with full := true } := ⟨List.prefix_refl _, rfl⟩
        refine ⟨⟨h.cap2, h.cap, h.len, fun i n hn => ?_, h.byn, told_grows h g h.told⟩, ⟨List.prefix_refl _, rfl⟩, rfl, fun h => by simp at h, fun _ => ⟨rfl, rfl⟩, fun r hr => by cases hr⟩
        have hok := h.node i n hn
        exact ⟨hok.v0, hok.v64, hok.lo0, hok.lo, hok.hi0, hok.hi, hok.ne, hok.tlo, hok.thi⟩
      · rw [if_neg hl]
        simp only
        have g : Grows S { S with nodes := S.nodes ++ [(v, lo, hi)], byn := aput S.byn (v, lo, hi) (S.nodes.length + 2) } := ⟨List.prefix_append _ _, rfl⟩
        have hlast : (S.nodes ++ [(v, lo, hi)])[S.nodes.length]? = some (v, lo, hi) := by simp
        have hnodes : ∀ i n, (S.nodes ++ [(v, lo, hi)])[i]? = some n → (S.nodes[i]? = some n) ∨ (i = S.nodes.length ∧ n = (v, lo, hi)) := fun i n hn => by
          rcases Nat.lt_or_ge i S.nodes.length with hlt | hge
          · rw [List.getElem?_append_left hlt] at hn; exact .inl hn
          · rw [List.getElem?_append_right hge] at hn
            cases hj : i - S.nodes.length with
            | zero => rw [hj] at hn; simp at hn; exact .inr ⟨by omega, hn.symm⟩
            | succ j => rw [hj] at hn; simp at hn
        have wf : Wf { S with nodes := S.nodes ++ [(v, lo, hi)], byn := aput S.byn (v, lo, hi) (S.nodes.length + 2) } := by
          refine ⟨h.cap2, h.cap, ?_, ?_, ?_, told_grows h g h.told⟩
          · have := h.len; simp; omega
          · intro i n hn
            rcases hnodes i n hn with hn' | ⟨rfl, rfl⟩
            · have hc := h.child hn'
              have hok := h.node i n hn'
              exact ⟨hok.v0, hok.v64, hok.lo0, hok.lo, hok.hi0, hok.hi, hok.ne, by rw [g.top hc.1]; exact hok.tlo, by rw [g.top hc.2]; exact hok.thi⟩
            · exact ⟨v0, v64, hlo.1, hlo.2, hhi.1, hhi.2, e, by rw [g.top hlo]; exact tlo, by rw [g.top hhi]; exact thi⟩
          · intro n r
            show aget (aput S.byn (v, lo, hi) (S.nodes.length + 2)) n = some r ↔ ∃ i : Nat, r = i + 2 ∧ (S.nodes ++ [(v, lo, hi)])[i]? = some n
            rw [aget_aput]
            by_cases en : (v, lo, hi) = n
            · rw [if_pos en]
              subst en
              constructor
              · intro hr'
                cases hr'
                exact ⟨S.nodes.length, rfl, hlast⟩
              · rintro ⟨i, rfl, hn⟩
                rcases hnodes i _ hn with hn' | ⟨rfl, _⟩
                · have := (h.byn (v, lo, hi) (i + 2)).2 ⟨i, rfl, hn'⟩
                  rw [hr] at this; cases this
                · rfl
            · rw [if_neg en, h.byn]
              constructor
              · rintro ⟨i, rfl, hn⟩; exact ⟨i, rfl, g.at hn⟩
              · rintro ⟨i, rfl, hn⟩
                rcases hnodes i _ hn with hn' | ⟨_, hn'⟩
                · exact ⟨i, rfl, hn'⟩
                · exact (en hn'.symm).elim
        refine ⟨wf, g, rfl, fun _ => rfl, fun h => by simp at h, fun r hr' => ?_⟩
        cases hr'
        refine ⟨⟨by omega, by simp; omega⟩, by rw [topOf_node hlast]; exact Int.le_refl _, fun β => ?_⟩
        rw [ev_node wf β hlast]
        rw [ev_grows h g β hlo, ev_grows h g β hhi]

structure IteOk (S : Sto) (c a b : Int) (R : Sto × Option Int) : Prop where
  wf : Wf R.1
  grows : Grows S R.1
  full : R.2.isSome = true → R.1.full = S.full
  full' : R.2 = none → R.1.full = true ∧ (R.1.nodes.length : Int) = R.1.cap
  has : ∀ r, R.2 = some r → R.1.has r ∧ low S c a b ≤ topOf R.1 r ∧ ∀ β, ev R.1 β r = if ev S β c then ev S β a else ev S β b

theorem low_le (S : Sto) (c a b : Int) : low S c a b ≤ topOf S c ∧ low S c a b ≤ topOf S a ∧ low S c a b ≤ topOf S b := by
  unfold low; omega
theorem lt_low {c a b v : Int} (h1 : v < topOf S c) (h2 : v < topOf S a) (h3 : v < topOf S b) : v < low S c a b := by
  unfold low; omega

theorem mkN_none_len {v lo hi : Int} (h : (mkN S v lo hi).2 = none) : (S.nodes.length : Int) = S.cap := by
  unfold mkN at h
  by_cases e : lo = hi
  · rw [if_pos e] at h; simp at h
  · rw [if_neg e] at h
    cases hr : aget S.byn (v, lo, hi) with
    | some r => rw [hr] at h; simp at h
    | none =>
      rw [hr] at h
      simp only at h
      by_cases hl : (S.nodes.length : Int) = S.cap
      · exact hl
      · rw [if_neg hl] at h; simp at h

theorem iteN_ok : ∀ (n : Nat) (S : Sto) (c a b : Int), Wf S → S.has c → S.has a → S.has b → 64 - low S c a b < n → IteOk S c a b (iteN n S c a b) := by
  intro n
  induction n with
  | zero => intro S c a b h hc ha hb hn; have := (low_le S c a b).1; have := topOf_le h hc; omega
  | succ n ih =>
    intro S c a b h hc ha hb hn
    obtain ⟨l1, l2, l3⟩ := low_le S c a b
    unfold iteN
    by_cases e1 : c = 1 ∨ a = b
    · rw [if_pos e1]
      refine ⟨h, Grows.refl S, fun _ => rfl, fun h => by simp at h, fun r hr => ?_⟩
      cases hr
      refine ⟨ha, l2, fun β => ?_⟩
      rcases e1 with rfl | rfl
      · rw [ev_low (a := 1) β (by omega)]; simp
      · simp
    · rw [if_neg e1]
      by_cases e2 : c = 0
      · rw [if_pos e2]
        subst e2
        refine ⟨h, Grows.refl S, fun _ => rfl, fun h => by simp at h, fun r hr => ?_⟩
        cases hr
        exact ⟨hb, l3, fun β => by rw [ev_low (a := 0) β (by omega)]; simp⟩
      · rw [if_neg e2]
        by_cases e3 : a = 1 ∧ b = 0
        · rw [if_pos e3]
          obtain ⟨rfl, rfl⟩ := e3
          refine ⟨h, Grows.refl S, fun _ => rfl, fun h => by simp at h, fun r hr => ?_⟩
          cases hr
          refine ⟨hc, l1, fun β => by rw [ev_low (a := 0) β (by omega), ev_low (a := 1) β (by omega)]; cases ev S β c <;> simp⟩
        · rw [if_neg e3]
          cases ht : aget S.told (c, a, b) with
          | some r =>
            obtain ⟨_, _, _, g4, g5, g6⟩ := h.told c a b r ht
            refine ⟨h, Grows.refl S, fun _ => rfl, fun h => by simp at h, fun r hr => ?_⟩
            cases hr
            exact ⟨g4, g5, g6⟩
          | none =>
            -- the cut
            have hl0 : 0 ≤ low S c a b := by
              have := topOf_ge h hc; have := topOf_ge h ha; have := topOf_ge h hb
              unfold low; omega
            have hl64 : low S c a b < 64 := by
              have hc2 : ¬ c < 2 := fun h2 => by have := hc.1; simp at e1; omega
              obtain ⟨i, m, rfl, hm⟩ := has_node hc hc2
              rw [topOf_node hm] at l1
              have := (h.node i m hm).v64; omega
            generalize hv : low S c a b = v at *
            obtain ⟨c1, c2, c3, c4, c5⟩ := split_ok h hc l1 hl64
            obtain ⟨a1, a2, a3, a4, a5⟩ := split_ok h ha l2 hl64
            obtain ⟨b1, b2, b3, b4, b5⟩ := split_ok h hb l3 hl64
            have I1 := ih S _ _ _ h c1 a1 b1 (by have := lt_low c3 a3 b3; omega)
            have hlow1 := lt_low c3 a3 b3
            have hlow2 := lt_low c4 a4 b4
            generalize hR1 : iteN n S (splitOf S c v).1 (splitOf S a v).1 (splitOf S b v).1 = R1 at I1
            obtain ⟨S1, o1⟩ := R1
            cases o1 with
            | none =>
              exact ⟨I1.wf, I1.grows, fun h => by simp at h, fun _ => I1.full' rfl, fun r hr => by simp at hr⟩
            | some lo =>
              obtain ⟨k1, k2, k3⟩ := I1.has lo rfl
              have g1 := I1.grows
              have I2 := ih S1 _ _ _ I1.wf (g1.has c2) (g1.has a2) (g1.has b2) (by rw [g1.low c2 a2 b2]; omega)
              simp only
              generalize hR2 : iteN n S1 (splitOf S c v).2 (splitOf S a v).2 (splitOf S b v).2 = R2 at I2
              obtain ⟨S2, o2⟩ := R2
              cases o2 with
              | none =>
                exact ⟨I2.wf, g1.trans I2.grows, fun h => by simp at h, fun _ => I2.full' rfl, fun r hr => by simp at hr⟩
              | some hi =>
                obtain ⟨j1, j2, j3⟩ := I2.has hi rfl
                have g2 := I2.grows
                simp only
                have M := mkN_ok I2.wf hl0 hl64 (g2.has k1) j1 (by rw [g2.top k1]; simp only at k2; omega) (by rw [g1.low c2 a2 b2] at j2; simp only at j2 ⊢; omega)
                have hnl := @mkN_none_len S2 v lo hi
                generalize hR3 : mkN S2 v lo hi = R3 at M hnl
                obtain ⟨S3, o3⟩ := R3
                cases o3 with
                | none =>
                  refine ⟨M.wf, g1.trans (g2.trans M.grows), fun h => by simp at h, fun _ => ⟨(M.full' rfl).1, ?_⟩, fun r hr => by simp at hr⟩
                  have e1 := (M.full' rfl).2
                  have e2 := M.grows.cap
                  simp only at e1 e2 ⊢
                  rw [e1, e2]; exact hnl rfl
                | some r =>
                  obtain ⟨q1, q2, q3⟩ := M.has r rfl
                  have g3 := M.grows
                  have G := g1.trans (g2.trans g3)
                  simp only at k3 j3 q3
                  have hev : ∀ β, ev S3 β r = if ev S β c then ev S β a else ev S β b := fun β => by
                    rw [q3 β, c5 β, a5 β, b5 β]
                    rw [j3 β, ev_grows I1.wf g2 β k1, k3 β]
                    rw [ev_grows h g1 β c2, ev_grows h g1 β a2, ev_grows h g1 β b2]
                    cases β v <;> simp
                  have Gt : Grows S { S3 with told := aput S3.told (c, a, b) r } := ⟨G.pre, G.cap⟩
                  simp only
                  refine ⟨⟨M.wf.cap2, M.wf.cap, M.wf.len, fun i n hn => (by have hok := M.wf.node i n hn; exact ⟨hok.v0, hok.v64, hok.lo0, hok.lo, hok.hi0, hok.hi, hok.ne, hok.tlo, hok.thi⟩), M.wf.byn, ?_⟩, Gt, fun _ => ?_, fun h => by simp at h, fun r' hr' => ?_⟩
                  · intro c' a' b' r' hr'
                    simp only [aget_aput] at hr'
                    by_cases ek : (c, a, b) = (c', a', b')
                    · rw [if_pos ek] at hr'
                      cases ek; cases hr'
                      refine ⟨G.has hc, G.has ha, G.has hb, q1, ?_, fun β => ?_⟩
                      · show low S3 c a b ≤ topOf S3 r
                        rw [G.low hc ha hb, hv]; exact q2
                      · show ev S3 β r = if ev S3 β c then ev S3 β a else ev S3 β b
                        rw [hev, ev_grows h G β hc, ev_grows h G β ha, ev_grows h G β hb]
                    · rw [if_neg ek] at hr'
                      exact M.wf.told c' a' b' r' hr'
                  · have x1 := M.full rfl; have x2 := I2.full rfl; have x3 := I1.full rfl
                    simp only at x1 x2 x3 ⊢
                    rw [x1, x2, x3]
                  · cases hr'
                    exact ⟨q1, by rw [hv]; exact q2, hev⟩
end
end Go.Proofs.Ytboekafmplomhaa
set_option linter.unusedVariables false
set_option linter.unusedSimpArgs false
namespace Go.Proofs.Ytboekafmplomhaa
open Go.RowKit

theorem node_same {w : World} {p : Nat} (v lo : Int) :
    Calls Try.prog 86 #[.pointer (some ⟨p, 0, none⟩), .int .i64 v, .int .i64 lo, .int .i64 lo] w (Pure (.int .i64 lo) w) := by
  go_enter Try.func86, Try.ntmps86
  go_wp2
  go_returns
  exact Pure.of rfl (by (repeat' (first | (with_reducible exact Below.refl _ _) | (with_reducible refine Below.ext_mk ?_ ?_ _ _) | (with_reducible refine Below.alloc ?_ ?_ _) | (with_reducible refine Below.drew ?_) | (with_reducible refine Below.setCell ?_ ?_ _) | go_size)))

/-- The zero of the maps' elements. -/
theorem zero_int (w : World) : (zeroValue 3).run Try.prog w = .ok (.int .i64 0) w := by kernel_rfl

theorem node_found {w : World} {p : Nat} {F : List Nat} {S : Sto} (h : StoIs w p F S) (v lo hi r : Int) (hne : lo ≠ hi) (hr : aget S.byn (v, lo, hi) = some r) :
    Calls Try.prog 86 #[.pointer (some ⟨p, 0, none⟩), .int .i64 v, .int .i64 lo, .int .i64 hi] w (Pure (.int .i64 r) w) := by
  have hne' : (lo == hi) = false := by simpa using hne
  clear hne
  go_enter Try.func86, Try.ntmps86
  go_upto_region 4 with (fail)
  refine wp_gen (fun W hW => ?_)
  have hbW : Below w.heap.size w W := by rw [hW]; ((repeat' (first | (with_reducible exact Below.refl _ _) | (with_reducible refine Below.ext_mk ?_ ?_ _ _) | (with_reducible refine Below.alloc ?_ ?_ _) | (with_reducible refine Below.drew ?_) | (with_reducible refine Below.setCell ?_ ?_ _) | go_size)))
  have zW0 : w.heap.size < W.heap.size := by rw [hW]; first | (simp; done) | (simp; omega)
  have cW0_0 : W.cell? ⟨w.heap.size, 0, none⟩ = some (.int .i64 v) := by rw [hW]; first | (go_simp; done) | (rw [World.cell?_alloc_past _ _ _ (by first | (simp; done) | (simp; omega))]; go_simp)
  have cW0_1 : W.cell? ⟨w.heap.size, 1, none⟩ = some (.int .i64 lo) := by rw [hW]; first | (go_simp; done) | (rw [World.cell?_alloc_past _ _ _ (by first | (simp; done) | (simp; omega))]; go_simp)
  have cW0_2 : W.cell? ⟨w.heap.size, 2, none⟩ = some (.int .i64 hi) := by rw [hW]; first | (go_simp; done) | (rw [World.cell?_alloc_past _ _ _ (by first | (simp; done) | (simp; omega))]; go_simp)
  clear hW
  have hS := h.below hbW
  obtain ⟨sv, G, bm, tm, s1, s2, s3, s4, s5, _⟩ := hS
  have d2 : W.cell? ⟨p, 2, none⟩ = some (.map (some bm)) := by simp [World.cell?, s1]
  have dp : p < W.heap.size := (Array.getElem?_eq_some_iff.1 s1).1
  have hlook : ∀ m d, (Instr.lookup 44 (.map (some bm)) (kv (v, lo, hi)) true).run Try.prog (W.ext m d) = .ok (.tuple #[.int .i64 r, .bool true]) (W.ext m d) := fun m d => by
    have e := lookup_run (w := W.ext m d) key_node Try.underlying44 (zero_int _) (l := S.byn) (b := bm) (by obtain ⟨es, cl, q1, q2⟩ := s3; exact ⟨es, cl, by rw [World.heap_ext _ _ _ (Array.getElem?_eq_some_iff.1 q1).1]; exact q1, q2⟩) (v, lo, hi) true
    rw [hr] at e
    exact e
  clear s1 s2 s3 s4 s5
  refine wp_region_ext (by kernel_rfl) (by kernel_rfl) (fun F hF => ?_)
  have HF := hid hF; clear hF
  repeat (first
    | (apply text_skip; (focus rfl); simp only [Act.put, List.setIfInBounds_toArray, List.set_cons_zero, List.set_cons_succ])
    | (apply text_val; (focus rfl); (focus (intro _ _; go_simp; with_reducible rfl)); simp only [Act.put, List.setIfInBounds_toArray, List.set_cons_zero, List.set_cons_succ])
    | (apply text_if; (focus (first | exact wanted_t rfl rfl | exact wanted_f rfl rfl | exact wanted_gt rfl rfl | exact wanted_gf rfl rfl)); (focus (intro hc _ _; (try simp only [Bool.and_eq_true, Bool.not_eq_true', Bool.true_and] at hc); go_simp; with_reducible rfl)); simp only [Act.put, List.setIfInBounds_toArray, List.set_cons_zero, List.set_cons_succ]))
  refine text_nil (HF.out _ (fun mx dx => ?_))
  clear HF F
  go_wp2
  go_returns
  exact Pure.of rfl (by (repeat' (first | (with_reducible exact Below.refl _ _) | (with_reducible refine Below.ext_mk ?_ ?_ _ _) | (with_reducible refine Below.alloc ?_ ?_ _) | (with_reducible refine Below.drew ?_) | (with_reducible refine Below.setCell ?_ ?_ _) | go_size)))

/-- What a full store gives up with. -/
abbrev overflow : List PanicEntry := [{ v := .iface 159 (.agg #[]), recovered := false }]
/-- A call that made a store another one. -/
def Turned (w : World) (p : Nat) (F : List Nat) (S' : Sto) (w' : World) : Prop := ∃ F', StoIs w' p F' S' ∧ StoStep w w' F F'

theorem StoStep.set {w : World} {F : List Nat} {p : Nat} (hp : p ∈ F) (i : Nat) (v : Value) : StoStep w (w.setCell ⟨p, i, none⟩ v) F F :=
  ⟨rfl, rfl, rfl, by simp, fun k _ hk => Below.heap_setCell _ _ _ _ (fun e => hk (by rw [e]; exact hp)), fun _ h => .inl h⟩
theorem StoStep.ext {w w' : World} {F F' : List Nat} (h : StoStep w w' F F') (m : Array Obj) (d : Nat) : StoStep w (w'.ext m d) F F' :=
  h.trans (StoStep.of_below (Below.ext_mk (Below.refl _ _) (Nat.le_refl _) m d))
theorem StoIs.mem {w : World} {p : Nat} {F : List Nat} {S : Sto} (h : StoIs w p F S) : p ∈ F := by
  obtain ⟨_, _, _, _, _, _, _, _, rfl, _⟩ := h; simp
theorem StoIs.set_full {w : World} {p : Nat} {F : List Nat} {S : Sto} (h : StoIs w p F S) (b : Bool) : StoIs (w.setCell ⟨p, 4, none⟩ (.bool b)) p F { S with full := b } := by
  obtain ⟨sv, G, bm, tm, h1, h2, ⟨es, cl, h3, h3'⟩, ⟨fs, dl, h4, h4'⟩, rfl, h5⟩ := h
  have hb : ∀ k, k ≠ p → (w.setCell ⟨p, 4, none⟩ (.bool b)).heap[k]? = w.heap[k]? := fun k hk => Below.heap_setCell _ _ _ _ hk
  simp only [List.nodup_cons, List.mem_cons, not_or, Option.mem_toList] at h5
  refine ⟨sv, G, bm, tm, ?_, h2.keep (fun g hg => hb g (fun e => h5.1.2.2 (by subst hg; rw [e]))), ⟨es, cl, by rw [hb bm (fun e => h5.1.1 e.symm)]; exact h3, h3'⟩, ⟨fs, dl, by rw [hb tm (fun e => h5.1.2.1 e.symm)]; exact h4, h4'⟩, rfl, ?_⟩
  · simp [World.setCell, Array.getElem?_modify, h1]
  · simp only [List.nodup_cons, List.mem_cons, not_or, Option.mem_toList]
    exact h5

theorem node_full {w : World} {p : Nat} {F : List Nat} {S : Sto} (h : StoIs w p F S) (v lo hi : Int) (hne : lo ≠ hi) (hr : aget S.byn (v, lo, hi) = none) (hl : (S.nodes.length : Int) = S.cap) :
    Calls Try.prog 86 #[.pointer (some ⟨p, 0, none⟩), .int .i64 v, .int .i64 lo, .int .i64 hi] w
      (fun e w' => e = .panicked overflow ∧ Turned w p F { S with full := true } w') := by
  have hne' : (lo == hi) = false := by simpa using hne
  clear hne
  go_enter Try.func86, Try.ntmps86
  go_upto_region 4 with (fail)
  refine wp_gen (fun W hW => ?_)
  have hbW : Below w.heap.size w W := by rw [hW]; ((repeat' (first | (with_reducible exact Below.refl _ _) | (with_reducible refine Below.ext_mk ?_ ?_ _ _) | (with_reducible refine Below.alloc ?_ ?_ _) | (with_reducible refine Below.drew ?_) | (with_reducible refine Below.setCell ?_ ?_ _) | go_size)))
  have zW0 : w.heap.size < W.heap.size := by rw [hW]; first | (simp; done) | (simp; omega)
  have cW0_0 : W.cell? ⟨w.heap.size, 0, none⟩ = some (.int .i64 v) := by rw [hW]; first | (go_simp; done) | (rw [World.cell?_alloc_past _ _ _ (by first | (simp; done) | (simp; omega))]; go_simp)
  have cW0_1 : W.cell? ⟨w.heap.size, 1, none⟩ = some (.int .i64 lo) := by rw [hW]; first | (go_simp; done) | (rw [World.cell?_alloc_past _ _ _ (by first | (simp; done) | (simp; omega))]; go_simp)
  have cW0_2 : W.cell? ⟨w.heap.size, 2, none⟩ = some (.int .i64 hi) := by rw [hW]; first | (go_simp; done) | (rw [World.cell?_alloc_past _ _ _ (by first | (simp; done) | (simp; omega))]; go_simp)
  clear hW
  have hS := h.below hbW
  have HS := hid hS
  obtain ⟨sv, G, bm, tm, s1, s2, s3, s4, s5, _⟩ := hS
  obtain ⟨sa, sc, rfl, _⟩ := s2.form
  have d0 : W.cell? ⟨p, 0, none⟩ = some (.int .i64 S.cap) := by simp [World.cell?, s1]
  have d1 : W.cell? ⟨p, 1, none⟩ = some (.slice sa S.nodes.length sc) := by simp [World.cell?, s1]
  have d2 : W.cell? ⟨p, 2, none⟩ = some (.map (some bm)) := by simp [World.cell?, s1]
  have d4 : W.cell? ⟨p, 4, none⟩ = some (.bool S.full) := by simp [World.cell?, s1]
  have f4 : W.frozen? ⟨p, 4, none⟩ = false := by simp [World.frozen?, s1]
  have dp : p < W.heap.size := (Array.getElem?_eq_some_iff.1 s1).1
  have hlook : ∀ m d, (Instr.lookup 44 (.map (some bm)) (kv (v, lo, hi)) true).run Try.prog (W.ext m d) = .ok (.tuple #[.int .i64 0, .bool false]) (W.ext m d) := fun m d => by
    have e := lookup_run (w := W.ext m d) key_node Try.underlying44 (zero_int _) (l := S.byn) (b := bm) (by obtain ⟨es, cl, q1, q2⟩ := s3; exact ⟨es, cl, by rw [World.heap_ext _ _ _ (Array.getElem?_eq_some_iff.1 q1).1]; exact q1, q2⟩) (v, lo, hi) true
    rw [hr] at e
    exact e
  have hl' : ((S.nodes.length : Int) == S.cap) = true := by simpa using hl
  clear s1 s2 s3 s4 s5 hr hl
  refine wp_region_ext (by kernel_rfl) (by kernel_rfl) (fun F hF => ?_)
  have HF := hid hF; clear hF
  repeat (first
    | (apply text_skip; (focus rfl); simp only [Act.put, List.setIfInBounds_toArray, List.set_cons_zero, List.set_cons_succ])
    | (apply text_val; (focus rfl); (focus (intro _ _; go_simp; with_reducible rfl)); simp only [Act.put, List.setIfInBounds_toArray, List.set_cons_zero, List.set_cons_succ])
    | (apply text_if; (focus (first | exact wanted_t rfl rfl | exact wanted_f rfl rfl | exact wanted_gt rfl rfl | exact wanted_gf rfl rfl)); (focus (intro hc _ _; (try simp only [Bool.and_eq_true, Bool.not_eq_true', Bool.true_and] at hc); go_simp; with_reducible rfl)); simp only [Act.put, List.setIfInBounds_toArray, List.set_cons_zero, List.set_cons_succ]))
  refine text_nil (HF.out _ (fun mx dx => ?_))
  clear HF F
  go_upto_region 7 with (fail)
  refine wp_region_ext (by kernel_rfl) (by kernel_rfl) (fun F hF => ?_)
  have HF := hid hF; clear hF
  repeat (first
    | (apply text_skip; (focus rfl); simp only [Act.put, List.setIfInBounds_toArray, List.set_cons_zero, List.set_cons_succ])
    | (apply text_val; (focus rfl); (focus (intro _ _; go_simp; with_reducible rfl)); simp only [Act.put, List.setIfInBounds_toArray, List.set_cons_zero, List.set_cons_succ])
    | (apply text_if; (focus (first | exact wanted_t rfl rfl | exact wanted_f rfl rfl | exact wanted_gt rfl rfl | exact wanted_gf rfl rfl)); (focus (intro hc _ _; (try simp only [Bool.and_eq_true, Bool.not_eq_true', Bool.true_and] at hc); go_simp; with_reducible rfl)); simp only [Act.put, List.setIfInBounds_toArray, List.set_cons_zero, List.set_cons_succ]))
  refine text_nil (HF.out _ (fun mx dx => ?_))
  clear HF F
  go_wp2
  exact ⟨rfl, rfl, F, (HS.out.set_full true).ext _ _, ((StoStep.of_below hbW).trans (StoStep.set HS.out.mem 4 _)).ext _ _⟩

end Go.Proofs.Ytboekafmplomhaa
set_option linter.unusedVariables false
set_option linter.unusedSimpArgs false
namespace Go
open Go.RowKit
theorem World.alloc_is_ext (w : World) (o : Obj) : w.alloc o = w.ext #[o] w.drawn := by
  unfold World.alloc World.ext; simp
theorem ext_alloc_drew (w : World) (o : Obj) : Ext w.drew (w.alloc o).drew := ⟨#[o], w.drawn + 1, by
  unfold World.alloc World.ext World.drew; simp⟩
theorem World.heap_putOwn_ne (w : World) {b k : Nat} (o : Obj) (h : k ≠ b) : (w.putOwn b o).heap[k]? = w.heap[k]? := by
  simp [World.putOwn, Array.getElem?_setIfInBounds_ne (Ne.symm h)]
@[simp, go_sem] theorem World.size_putOwn (w : World) (b : Nat) (o : Obj) : (w.putOwn b o).heap.size = w.heap.size := by simp [World.putOwn]

section
variable {P : Program} {ops : Array Oper} {Q : Exit → Act → World → Prop} {W W1 : World} {F : Act → World → Prop} {o : Oper} {r : List Oper} {a : Act} {v : Value}
/-- A region in the order of the text, operation by operation, whatever each does to the world. -/
def DoWalk (P : Program) (ops : Array Oper) (F : Act → World → Prop) : World → List Oper → Act → Prop
  | w, [], a => F a w
  | w, o :: r, a => Region.wanted o (yielded ops a.tmps) = true ∧
    ((∃ v w1, (execOp a.eval o).run P w = .ok (.value v) w1 ∧ DoWalk P ops F w1 r (a.put o.dst v)) ∨
     (∃ w1, (execOp a.eval o).run P w = .ok .skip w1 ∧ DoWalk P ops F w1 r (a.put o.dst undef)))
theorem do_val (hg : Region.wanted o (yielded ops a.tmps) = true) (h : (execOp a.eval o).run P W = .ok (.value v) W1) (c : DoWalk P ops F W1 r (a.put o.dst v)) : DoWalk P ops F W (o :: r) a := ⟨hg, .inl ⟨v, W1, h, c⟩⟩
theorem do_skip (hg : Region.wanted o (yielded ops a.tmps) = true) (h : (execOp a.eval o).run P W = .ok .skip W1) (c : DoWalk P ops F W1 r (a.put o.dst undef)) : DoWalk P ops F W (o :: r) a := ⟨hg, .inr ⟨W1, h, c⟩⟩
theorem do_end (c : F a W) : DoWalk P ops F W [] a := c
theorem wp_region_do {id : Nat} (h : ∀ F : Act → World → Prop, (∀ a' w', Q .normal a' w' → F a' w') → DoWalk P ops F W ops.toList a) : (Code.region id ops false).wp P Q a W := by
  have key : ∀ (l : List Oper) (a : Act) (w : World), DoWalk P ops (fun a' w' => Q .normal a' w') w l a → wpList P ops Q l a w := by
    intro l
    induction l with
    | nil => intro a w h; exact h
    | cons o r ih =>
      rintro a w ⟨hg, h⟩
      unfold wpList
      rw [if_pos hg]
      refine .inl ?_
      unfold Oper.wp
      rcases h with ⟨v, w1, h, c⟩ | ⟨w1, h, c⟩
      · rw [h]; exact ih _ _ c
      · rw [h]; exact ih _ _ c
  exact wp_region_list (key _ _ _ (h _ (fun _ _ h => h)))
end
end Go
namespace Go.Proofs.Ytboekafmplomhaa
open Go.RowKit

theorem MapIs.keep {α : Type} {Kv : α → Value} {w w' : World} {b : Nat} {l : List (α × Int)} (h : MapIs Kv w b l) (hk : w'.heap[b]? = w.heap[b]?) : MapIs Kv w' b l := by
  obtain ⟨es, cl, h1, h2⟩ := h
  exact ⟨es, cl, by rw [hk]; exact h1, h2⟩

/-- A store with its parts named. -/
structure StoAt (w : World) (p : Nat) (sv : Value) (G : Option Nat) (bm tm : Nat) (S : Sto) : Prop where
  blk : w.heap[p]? = some (.cells #[.int .i64 S.cap, sv, .map (some bm), .map (some tm), .bool S.full] 47 (0, 0))
  row : RowIs w sv G 39 3 S.nodes.length (flat S.nodes)
  by_ : MapIs kv w bm S.byn
  told : MapIs kv w tm S.told
  nd : (p :: bm :: tm :: G.toList).Nodup
theorem StoAt.is {w : World} {p : Nat} {sv : Value} {G : Option Nat} {bm tm : Nat} {S : Sto} (h : StoAt w p sv G bm tm S) : StoIs w p (p :: bm :: tm :: G.toList) S :=
  ⟨sv, G, bm, tm, h.blk, h.row, h.by_, h.told, rfl, h.nd⟩
theorem StoIs.at {w : World} {p : Nat} {F : List Nat} {S : Sto} (h : StoIs w p F S) : ∃ sv G bm tm, StoAt w p sv G bm tm S ∧ F = p :: bm :: tm :: G.toList := by
  obtain ⟨sv, G, bm, tm, h1, h2, h3, h4, rfl, h5⟩ := h
  exact ⟨sv, G, bm, tm, ⟨h1, h2, h3, h4, h5⟩, rfl⟩

theorem StoAt.put_by {w : World} {p : Nat} {sv : Value} {G : Option Nat} {bm tm : Nat} {S : Sto} (h : StoAt w p sv G bm tm S) (o : Obj) {l : List (Nd × Int)} (hm : MapIs kv (w.putOwn bm o) bm l) :
    StoAt (w.putOwn bm o) p sv G bm tm { S with byn := l } := by
  have h5 := h.nd
  simp only [List.nodup_cons, List.mem_cons, not_or, Option.mem_toList] at h5
  exact ⟨by rw [World.heap_putOwn_ne _ _ h5.1.1]; exact h.blk, h.row.keep (fun g hg => World.heap_putOwn_ne _ _ (fun e => h5.2.1.2 (by subst hg; rw [e]))), hm, MapIs.keep h.told (World.heap_putOwn_ne _ _ (fun e => h5.2.1.1 e.symm)), h.nd⟩
theorem StoAt.put_told {w : World} {p : Nat} {sv : Value} {G : Option Nat} {bm tm : Nat} {S : Sto} (h : StoAt w p sv G bm tm S) (o : Obj) {l : List (Nd × Int)} (hm : MapIs kv (w.putOwn tm o) tm l) :
    StoAt (w.putOwn tm o) p sv G bm tm { S with told := l } := by
  have h5 := h.nd
  simp only [List.nodup_cons, List.mem_cons, not_or, Option.mem_toList] at h5
  exact ⟨by rw [World.heap_putOwn_ne _ _ h5.1.2.1]; exact h.blk, h.row.keep (fun g hg => World.heap_putOwn_ne _ _ (fun e => h5.2.2.1 (by subst hg; rw [e]))), MapIs.keep h.by_ (World.heap_putOwn_ne _ _ h5.2.1.1), hm, h.nd⟩
theorem StoStep.put {w : World} {F : List Nat} {b : Nat} (hb : b ∈ F) (o : Obj) : StoStep w (w.putOwn b o) F F :=
  ⟨rfl, rfl, rfl, by simp, fun k _ hk => World.heap_putOwn_ne _ _ (fun e => hk (by rw [e]; exact hb)), fun _ h => .inl h⟩

theorem StoAt.grow {V w1 : World} {p : Nat} {sv v' : Value} {G : Option Nat} {bm tm G' : Nat} {S : Sto} {n : Nd} (h : StoAt V p sv G bm tm S)
    (hr : RowIs w1 v' (some G') 39 3 (S.nodes.length + 1) (flat S.nodes ++ [.int .i64 n.1, .int .i64 n.2.1, .int .i64 n.2.2])) (hg : V.grownBy w1 G) (hG : G = some G' ∨ (V.heap.size ≤ G' ∧ G' < w1.heap.size)) :
    StoAt (w1.setCell ⟨p, 1, none⟩ v') p v' (some G') bm tm { S with nodes := S.nodes ++ [n] } ∧ StoStep V (w1.setCell ⟨p, 1, none⟩ v') (p :: bm :: tm :: G.toList) (p :: bm :: tm :: [G']) := by
  have h5 := h.nd
  simp only [List.nodup_cons, List.mem_cons, not_or, Option.mem_toList] at h5
  have hp : p < V.heap.size := (Array.getElem?_eq_some_iff.1 h.blk).1
  have hbm : bm < V.heap.size := by obtain ⟨_, _, q, _⟩ := h.by_; exact (Array.getElem?_eq_some_iff.1 q).1
  have htm : tm < V.heap.size := by obtain ⟨_, _, q, _⟩ := h.told; exact (Array.getElem?_eq_some_iff.1 q).1
  have kp : w1.heap[p]? = V.heap[p]? := hg.block p hp (fun e => h5.1.2.2 e.symm)
  have kb : w1.heap[bm]? = V.heap[bm]? := hg.block bm hbm (fun e => h5.2.1.2 e.symm)
  have kt : w1.heap[tm]? = V.heap[tm]? := hg.block tm htm (fun e => h5.2.2.1 e.symm)
  have hne : p ≠ G' ∧ bm ≠ G' ∧ tm ≠ G' := by
    rcases hG with rfl | ⟨hG, _⟩
    · exact ⟨fun e => h5.1.2.2 (by rw [e]), fun e => h5.2.1.2 (by rw [e]), fun e => h5.2.2.1 (by rw [e])⟩
    · exact ⟨by omega, by omega, by omega⟩
  have hs : ∀ k, k ≠ p → (w1.setCell ⟨p, 1, none⟩ v').heap[k]? = w1.heap[k]? := fun k hk => Below.heap_setCell _ _ _ _ hk
  refine ⟨⟨?_, ?_, ?_, ?_, ?_⟩, ?_⟩
  · have := h.blk
    rw [← kp] at this
    simp [World.setCell, Array.getElem?_modify, this]
  · have e : flat (S.nodes ++ [n]) = flat S.nodes ++ [.int .i64 n.1, .int .i64 n.2.1, .int .i64 n.2.2] := by rw [flat_append]; rfl
    show RowIs _ _ _ _ _ (S.nodes ++ [n]).length (flat (S.nodes ++ [n]))
    rw [e, List.length_append]
    exact hr.keep (fun g hg' => by cases hg'; exact hs G' (fun e => hne.1 e.symm))
  · exact MapIs.keep h.by_ (by rw [hs bm (fun e => h5.1.1 e.symm)]; exact kb)
  · exact MapIs.keep h.told (by rw [hs tm (fun e => h5.1.2.1 e.symm)]; exact kt)
  · simp only [List.nodup_cons, List.mem_cons, not_or, Option.mem_toList, Option.some.injEq]
    refine ⟨⟨h5.1.1, h5.1.2.1, fun e => hne.1 e.symm⟩, ⟨h5.2.1.1, fun e => hne.2.1 e.symm⟩, fun e => hne.2.2 e.symm, ?_⟩
    simp
  · refine ⟨hg.os, hg.tape, hg.output, by simpa using hg.size, fun k hk hn => ?_, fun k hk => ?_⟩
    · simp only [List.mem_cons, not_or, Option.mem_toList] at hn
      rw [hs k hn.1]
      exact hg.block k hk (fun e => hn.2.2.2 e.symm)
    · simp only [List.mem_cons, Option.mem_toList] at hk ⊢
      rcases hk with rfl | rfl | rfl | rfl | hk
      · exact .inl (.inl rfl)
      · exact .inl (.inr (.inl rfl))
      · exact .inl (.inr (.inr (.inl rfl)))
      · rcases hG with hG | hG
        · exact .inl (.inr (.inr (.inr hG)))
        · exact .inr ⟨hG.1, by simpa using hG.2⟩
      · simp at hk

end Go.Proofs.Ytboekafmplomhaa
set_option linter.unusedVariables false
set_option linter.unusedSimpArgs false
theorem Go.World.heap_alloc_last (w : Go.World) (o : Go.Obj) : (w.alloc o).heap[w.heap.size]? = some o := by unfold Go.World.alloc; exact Array.getElem?_push_size
namespace Go.Proofs.Ytboekafmplomhaa
open Go.RowKit

theorem StoAt.lt {w : World} {p : Nat} {sv : Value} {G : Option Nat} {bm tm : Nat} {S : Sto} (h : StoAt w p sv G bm tm S) : p < w.heap.size ∧ bm < w.heap.size ∧ tm < w.heap.size ∧ ∀ g, G = some g → g < w.heap.size :=
  ⟨h.is.lt p (by simp), h.is.lt bm (by simp), h.is.lt tm (by simp), fun g hg => h.is.lt g (by simp [hg])⟩
theorem StoAt.below {w w' : World} {p : Nat} {sv : Value} {G : Option Nat} {bm tm : Nat} {S : Sto} (h : StoAt w p sv G bm tm S) (hb : Below w.heap.size w w') : StoAt w' p sv G bm tm S := by
  obtain ⟨l1, l2, l3, l4⟩ := h.lt
  exact ⟨by rw [hb.block p l1]; exact h.blk, h.row.keep (fun g hg => hb.block g (l4 g hg)), MapIs.keep h.by_ (hb.block bm l2), MapIs.keep h.told (hb.block tm l3), h.nd⟩
theorem StoAt.cells {w : World} {p : Nat} {sv : Value} {G : Option Nat} {bm tm : Nat} {S : Sto} (h : StoAt w p sv G bm tm S) :
    w.cell? ⟨p, 0, none⟩ = some (.int .i64 S.cap) ∧ w.cell? ⟨p, 1, none⟩ = some sv ∧ w.cell? ⟨p, 2, none⟩ = some (.map (some bm)) ∧ w.cell? ⟨p, 3, none⟩ = some (.map (some tm)) ∧ w.cell? ⟨p, 4, none⟩ = some (.bool S.full) ∧
    ∀ i, w.frozen? ⟨p, i, none⟩ = false := by
  have s1 := h.blk
  refine ⟨?_, ?_, ?_, ?_, ?_, fun i => ?_⟩ <;> simp [World.cell?, World.frozen?, s1]

theorem cell_of_heap {w w' : World} {b : Nat} (i : Nat) (h : w'.heap[b]? = w.heap[b]?) : w'.cell? ⟨b, i, none⟩ = w.cell? ⟨b, i, none⟩ := by simp [World.cell?, h]
theorem info_some : (Try.prog.info? 39).isSome = true := by kernel_rfl
noncomputable abbrev infoB : TypeInfo := (Try.prog.info? 39).get info_some
theorem info_is : Try.prog.info? 39 = some infoB := (Option.some_get _).symm
theorem infoB_zero : infoB.zero = some (.agg #[.int .i64 0, .int .i64 0, .int .i64 0]) := by kernel_rfl
theorem infoB_size : infoB.size = 3 := by kernel_rfl
theorem infoB_bytes : infoB.bytes = 24 := by kernel_rfl

theorem node_new {w : World} {p : Nat} {F : List Nat} {S : Sto} (h : StoIs w p F S) (v lo hi : Int) (hne : lo ≠ hi) (hr : aget S.byn (v, lo, hi) = none) (hl : (S.nodes.length : Int) < S.cap) (hc : S.cap ≤ 1048576) :
    Calls Try.prog 86 #[.pointer (some ⟨p, 0, none⟩), .int .i64 v, .int .i64 lo, .int .i64 hi] w
      (fun e w' => e = .returned (.int .i64 (S.nodes.length + 2)) ∧ Turned w p F { S with nodes := S.nodes ++ [(v, lo, hi)], byn := aput S.byn (v, lo, hi) (S.nodes.length + 2) } w') := by
  have hne' : (lo == hi) = false := by simpa using hne
  clear hne
  go_enter Try.func86, Try.ntmps86
  go_upto_region 4 with (fail)
  refine wp_gen (fun W hW => ?_)
  have hbW : Below w.heap.size w W := by rw [hW]; ((repeat' (first | (with_reducible exact Below.refl _ _) | (with_reducible refine Below.ext_mk ?_ ?_ _ _) | (with_reducible refine Below.alloc ?_ ?_ _) | (with_reducible refine Below.drew ?_) | (with_reducible refine Below.setCell ?_ ?_ _) | go_size)))
  have zW0 : w.heap.size < W.heap.size := by rw [hW]; first | (simp; done) | (simp; omega)
  have cW0_0 : W.cell? ⟨w.heap.size, 0, none⟩ = some (.int .i64 v) := by rw [hW]; first | (go_simp; done) | (rw [World.cell?_alloc_past _ _ _ (by first | (simp; done) | (simp; omega))]; go_simp)
  have cW0_1 : W.cell? ⟨w.heap.size, 1, none⟩ = some (.int .i64 lo) := by rw [hW]; first | (go_simp; done) | (rw [World.cell?_alloc_past _ _ _ (by first | (simp; done) | (simp; omega))]; go_simp)
  have cW0_2 : W.cell? ⟨w.heap.size, 2, none⟩ = some (.int .i64 hi) := by rw [hW]; first | (go_simp; done) | (rw [World.cell?_alloc_past _ _ _ (by first | (simp; done) | (simp; omega))]; go_simp)
  clear hW
  have HS := hid (h.below hbW)
  obtain ⟨sv, G, bm, tm, hA, rfl⟩ := (h.below hbW).at
  have s1 := hA.blk
  obtain ⟨sa, sc, rfl, _⟩ := hA.row.form
  have d0 : W.cell? ⟨p, 0, none⟩ = some (.int .i64 S.cap) := by simp [World.cell?, s1]
  have d1 : W.cell? ⟨p, 1, none⟩ = some (.slice sa S.nodes.length sc) := by simp [World.cell?, s1]
  have d2 : W.cell? ⟨p, 2, none⟩ = some (.map (some bm)) := by simp [World.cell?, s1]
  have dp : p < W.heap.size := (Array.getElem?_eq_some_iff.1 s1).1
  have hlook : ∀ m d, (Instr.lookup 44 (.map (some bm)) (kv (v, lo, hi)) true).run Try.prog (W.ext m d) = .ok (.tuple #[.int .i64 0, .bool false]) (W.ext m d) := fun m d => by
    have e := lookup_run (w := W.ext m d) key_node Try.underlying44 (zero_int _) (l := S.byn) (b := bm) (by obtain ⟨es, cl, q1, q2⟩ := hA.by_; exact ⟨es, cl, by rw [World.heap_ext _ _ _ (Array.getElem?_eq_some_iff.1 q1).1]; exact q1, q2⟩) (v, lo, hi) true
    rw [hr] at e
    exact e
  have hl' : ((S.nodes.length : Int) == S.cap) = false := by simp; omega
  have HA := hid hA
  clear hA s1 hr
  refine wp_region_ext (by kernel_rfl) (by kernel_rfl) (fun F hF => ?_)
  have HF := hid hF; clear hF
  repeat (first
    | (apply text_skip; (focus rfl); simp only [Act.put, List.setIfInBounds_toArray, List.set_cons_zero, List.set_cons_succ])
    | (apply text_val; (focus rfl); (focus (intro _ _; go_simp; with_reducible rfl)); simp only [Act.put, List.setIfInBounds_toArray, List.set_cons_zero, List.set_cons_succ])
    | (apply text_if; (focus (first | exact wanted_t rfl rfl | exact wanted_f rfl rfl | exact wanted_gt rfl rfl | exact wanted_gf rfl rfl)); (focus (intro hc _ _; (try simp only [Bool.and_eq_true, Bool.not_eq_true', Bool.true_and] at hc); go_simp; with_reducible rfl)); simp only [Act.put, List.setIfInBounds_toArray, List.set_cons_zero, List.set_cons_succ]))
  refine text_nil (HF.out _ (fun ma da => ?_))
  clear HF F
  go_upto_region 7 with (fail)
  refine wp_region_ext (by kernel_rfl) (by kernel_rfl) (fun F hF => ?_)
  have HF := hid hF; clear hF
  repeat (first
    | (apply text_skip; (focus rfl); simp only [Act.put, List.setIfInBounds_toArray, List.set_cons_zero, List.set_cons_succ])
    | (apply text_val; (focus rfl); (focus (intro _ _; go_simp; with_reducible rfl)); simp only [Act.put, List.setIfInBounds_toArray, List.set_cons_zero, List.set_cons_succ])
    | (apply text_if; (focus (first | exact wanted_t rfl rfl | exact wanted_f rfl rfl | exact wanted_gt rfl rfl | exact wanted_gf rfl rfl)); (focus (intro hc _ _; (try simp only [Bool.and_eq_true, Bool.not_eq_true', Bool.true_and] at hc); go_simp; with_reducible rfl)); simp only [Act.put, List.setIfInBounds_toArray, List.set_cons_zero, List.set_cons_succ]))
  refine text_nil (HF.out _ (fun mb db => ?_))
  clear HF F
  go_upto_region 10 with (fail)
  refine wp_region_chained [6, 7, 10] 1 (by kernel_rfl) (by kernel_rfl) (by kernel_rfl) (by kernel_rfl) (fun F hF => ?_)
  have HF := hid hF
  clear hF
  refine chain_any rfl rfl (fun _ => by go_simp; with_reducible rfl) ?_
  simp only [Act.put, List.setIfInBounds_toArray, List.set_cons_zero, List.set_cons_succ]
  refine chain_any rfl rfl (fun _ => by go_simp; with_reducible rfl) ?_
  simp only [Act.put, List.setIfInBounds_toArray, List.set_cons_zero, List.set_cons_succ]
  refine chain_read (z := 7) rfl rfl (by kernel_rfl) rfl (fun _ _ => by go_simp; with_reducible rfl) ?_
  simp only [Act.put, List.setIfInBounds_toArray, List.set_cons_zero, List.set_cons_succ]
  refine chain_read (z := 7) rfl rfl (by kernel_rfl) rfl (fun _ _ => by go_simp; with_reducible rfl) ?_
  simp only [Act.put, List.setIfInBounds_toArray, List.set_cons_zero, List.set_cons_succ]
  refine chain_read (z := 7) rfl rfl (by kernel_rfl) rfl (fun _ _ => by go_simp; with_reducible rfl) ?_
  simp only [Act.put, List.setIfInBounds_toArray, List.set_cons_zero, List.set_cons_succ]
  refine chain_read (z := 7) rfl rfl (by kernel_rfl) rfl (fun _ _ => by go_simp; with_reducible rfl) ?_
  simp only [Act.put, List.setIfInBounds_toArray, List.set_cons_zero, List.set_cons_succ]
  refine chain_turn ?_ rfl (by go_simp; exact ⟨rfl, rfl⟩) ?_
  · intro _
    go_simp
    rw [World.alloc_is_ext]
    exact ⟨_, _, rfl⟩
  simp only [Act.put, List.setIfInBounds_toArray, List.set_cons_zero, List.set_cons_succ]
  refine chain_gen (fun V hV => ?_)
  obtain ⟨n0, hn0⟩ : ∃ n0, n0 = W.heap.size + (ma.size + mb.size) := ⟨_, rfl⟩
  have hbV : Below W.heap.size W V := by rw [hV]; (repeat' (first | (with_reducible exact Below.refl _ _) | (with_reducible refine Below.ext_mk ?_ ?_ _ _) | (with_reducible refine Below.alloc ?_ ?_ _) | (with_reducible refine Below.drew ?_) | (with_reducible refine Below.setCell ?_ ?_ _) | go_size))
  have zV : n0 < V.heap.size := by rw [hV, hn0]; simp
  have lit : V.heap[n0]? = some (.cells #[.int .i64 v, .int .i64 lo, .int .i64 hi] 39 (0, 0)) := by
    have e : n0 = (W.ext (ma ++ mb) (db + 1)).heap.size := by rw [hn0]; simp
    rw [hV, e]; exact World.heap_alloc_last _ _
  rw [← hn0]
  have hB := HA.out.below hbV
  obtain ⟨v', w1, G', r1, r2, r3, r4⟩ := append_row (P := Try.prog) 43 43 infoB (.agg #[.int .i64 0, .int .i64 0, .int .i64 0]) 24 Try.underlying43 info_is infoB_zero infoB_size infoB_bytes rfl (by omega) hB.row
    ⟨n0, 0, none⟩ 1 1 [.int .i64 v, .int .i64 lo, .int .i64 hi] rfl (fun j u hu => by
      rcases j with _ | _ | _ | j
      · simp at hu; subst hu; simp [World.cell?, lit, Addr.add]
      · simp at hu; subst hu; simp [World.cell?, lit, Addr.add]
      · simp at hu; subst hu; simp [World.cell?, lit, Addr.add]
      · simp at hu) (by simp [Value.oneCell']) (by omega) (by unfold maxLen; omega) (by omega)
  obtain ⟨sa', sc', rfl, _⟩ := r2.form
  obtain ⟨g1, g2⟩ := hB.grow (n := (v, lo, hi)) r2 r3 r4
  refine chain_turn (fun h => absurd h (by decide)) rfl (run_append_op _ _ _ _ _ _ _ _ _ r1) ?_
  simp only [Act.put, List.setIfInBounds_toArray, List.set_cons_zero, List.set_cons_succ]
  have hkp : w1.heap[p]? = V.heap[p]? := r3.block p hB.lt.1 (fun e => by
    have := hB.nd; subst e; simp at this)
  have e1 : w1.cell? ⟨p, 1, none⟩ = some (.slice sa S.nodes.length sc) := by have := hB.cells.2.1; simpa [World.cell?, hkp] using this
  have e2 : w1.frozen? ⟨p, 1, none⟩ = false := by have := hB.cells.2.2.2.2.2 1; simpa [World.frozen?, hkp] using this
  have e3 : p < w1.heap.size := Nat.lt_of_lt_of_le hB.lt.1 r3.size
  refine chain_any rfl rfl (fun _ => by go_simp; with_reducible rfl) ?_
  simp only [Act.put, List.setIfInBounds_toArray, List.set_cons_zero, List.set_cons_succ]
  refine chain_any rfl rfl (fun _ => by go_simp; with_reducible rfl) ?_
  simp only [Act.put, List.setIfInBounds_toArray, List.set_cons_zero, List.set_cons_succ]
  refine chain_do (fun h => absurd h (by decide)) rfl (by go_simp; with_reducible rfl) ?_
  simp only [Act.put, List.setIfInBounds_toArray, List.set_cons_zero, List.set_cons_succ]
  refine chain_end (HF.out _ _ ?_)
  clear HF F
  go_upto_region 11 with (fail)
  refine wp_gen (fun V2 hV2 => ?_)
  rw [← hV2] at g1 g2
  have hk0 : V2.heap[w.heap.size]? = W.heap[w.heap.size]? := by
    rw [g2.block _ (Nat.lt_of_lt_of_le zW0 hbV.size) (fun hm => Nat.lt_irrefl _ (h.lt _ hm))]
    exact hbV.block _ zW0
  have b0 := (cell_of_heap 0 hk0).trans cW0_0
  have b1 := (cell_of_heap 1 hk0).trans cW0_1
  have b2 := (cell_of_heap 2 hk0).trans cW0_2
  have b3 : w.heap.size < V2.heap.size := Nat.lt_of_lt_of_le zW0 (Nat.le_trans hbV.size g2.size)
  obtain ⟨e0, e1', e2', e5, e6, e7⟩ := g1.cells
  clear e0 e5 e6 e7
  have e4 := g1.lt.1
  have hw : IntKind.i64.wrap ((S.nodes.length : Int) + 1 + 1) = (S.nodes.length : Int) + 2 := by
    rw [show (S.nodes.length : Int) + 1 + 1 = (S.nodes.length : Int) + 2 by omega]; exact IntWalk.i64_in _ (by omega)
  clear hV2 hV lit d0 d1 d2 cW0_0 cW0_1 cW0_2 e1 e2 hlook
  obtain ⟨o, u1, u2⟩ := update_run (t := 44) key_node Try.underlying44 (w := V2.drew) (by obtain ⟨es, cl, q⟩ := g1.by_; exact ⟨es, cl, q⟩) (v, lo, hi) ((S.nodes.length : Int) + 2)
  have G1 := hid g1
  have G2 := hid g2
  clear g1 g2
  refine wp_region_chained [11] 0 (by kernel_rfl) (by kernel_rfl) (by kernel_rfl) (by kernel_rfl) (fun F hF => ?_)
  have HF := hid hF
  clear hF
  repeat (first
    | (refine chain_any rfl rfl (fun _ => by go_simp; with_reducible rfl) ?_; simp only [Act.put, List.setIfInBounds_toArray, List.set_cons_zero, List.set_cons_succ])
    | (refine chain_read (z := 11) rfl rfl (by kernel_rfl) rfl (fun _ _ => by go_simp; with_reducible rfl) ?_; simp only [Act.put, List.setIfInBounds_toArray, List.set_cons_zero, List.set_cons_succ]))
  refine chain_do (fun h => absurd h (by decide)) rfl (by go_simp; with_reducible rfl) ?_
  simp only [Act.put, List.setIfInBounds_toArray, List.set_cons_zero, List.set_cons_succ]
  refine chain_end (HF.out _ _ ?_)
  clear HF F
  have g3 := (G1.out.below (w' := V2.drew) (Below.drew (Below.refl _ _))).put_by o u2
  have g4 : StoStep w (V2.drew.putOwn bm o) (p :: bm :: tm :: G.toList) [p, bm, tm, G'] :=
    (StoStep.of_below hbW).trans ((StoStep.of_below hbV).trans ((G2.out.trans (StoStep.of_below (w' := V2.drew) (Below.drew (Below.refl _ _)))).trans (StoStep.put (by simp) o)))
  go_upto_region 12 with (fail)
  refine wp_gen (fun V3 hV3 => ?_)
  rw [← hV3] at g3 g4
  obtain ⟨e0, y1, e2', e5, e6, e7⟩ := g3.cells
  have y2 := g3.lt.1
  clear e0 e1' e2' e5 e6 e7 hV3 u1 u2
  have G3 := hid g3.is
  have G4 := hid g4
  clear g3 g4 G1 G2
  go_wp2
  go_returns
  exact ⟨rfl, _, G3.out, G4.out⟩

end Go.Proofs.Ytboekafmplomhaa
set_option linter.unusedVariables false
set_option linter.unusedSimpArgs false
namespace Go.Proofs.Ytboekafmplomhaa
open Go.RowKit

/-- How a call ends that gives a diagram, or gives up. -/
def endOf : Option Int → Ending
  | some r => .returned (.int .i64 r)
  | none => .panicked overflow

theorem Turned.refl {w : World} {p : Nat} {F : List Nat} {S : Sto} (h : StoIs w p F S) (m : Array Obj) (d : Nat) : Turned w p F S (w.ext m d) :=
  ⟨F, h.ext m d, (StoStep.refl w F).ext m d⟩
theorem Turned.trans {w w' w'' : World} {p : Nat} {F F' : List Nat} {S'' : Sto} (h : StoStep w w' F F') (k : Turned w' p F' S'' w'') : Turned w p F S'' w'' := by
  obtain ⟨F'', k1, k2⟩ := k
  exact ⟨F'', k1, h.trans k2⟩

theorem Turned.after {w w' w'' : World} {p : Nat} {F F' : List Nat} {S'' : Sto} (k : Turned w' p F' S'' w'') (h : StoStep w w' F F') : Turned w p F S'' w'' := Turned.trans h k

theorem node_any {w : World} {p : Nat} {F : List Nat} {S : Sto} (h : StoIs w p F S) (hl : (S.nodes.length : Int) ≤ S.cap) (hc : S.cap ≤ 1048576) (v lo hi : Int) :
    Calls Try.prog 86 #[.pointer (some ⟨p, 0, none⟩), .int .i64 v, .int .i64 lo, .int .i64 hi] w
      (fun e w' => e = endOf (mkN S v lo hi).2 ∧ Turned w p F (mkN S v lo hi).1 w') := by
  unfold mkN
  by_cases e : lo = hi
  · subst e
    rw [if_pos rfl]
    refine (node_same v lo).mono ?_
    rintro e w' ⟨rfl, m, d, rfl⟩
    exact ⟨rfl, Turned.refl h m d⟩
  · rw [if_neg e]
    cases hr : aget S.byn (v, lo, hi) with
    | some r =>
      refine (node_found h v lo hi r e hr).mono ?_
      rintro e w' ⟨rfl, m, d, rfl⟩
      exact ⟨rfl, Turned.refl h m d⟩
    | none =>
      simp only
      by_cases hf : (S.nodes.length : Int) = S.cap
      · rw [if_pos hf]; exact node_full h v lo hi e hr hf
      · rw [if_neg hf]; exact node_new h v lo hi e hr (by omega) hc

theorem low_if (S : Sto) (c a b : Int) : (if topOf S b < if topOf S a < topOf S c then topOf S a else topOf S c then topOf S b else if topOf S a < topOf S c then topOf S a else topOf S c) = low S c a b := by
  unfold low
  by_cases h : topOf S a < topOf S c
  · simp only [h, if_true]
    by_cases k : topOf S b < topOf S a <;> simp only [k, if_true, if_false] <;> omega
  · simp only [h, if_false]
    by_cases k : topOf S b < topOf S c <;> simp only [k, if_true, if_false] <;> omega

section
variable {n : Nat} {S S1 S2 S3 : Sto} {c a b lo hi r : Int}
theorem iteN_1 (e1 : ¬ (c = 1 ∨ a = b)) (e2 : ¬ c = 0) (e3 : ¬ (a = 1 ∧ b = 0)) (ht : aget S.told (c, a, b) = none)
    (h1 : iteN n S (splitOf S c (low S c a b)).1 (splitOf S a (low S c a b)).1 (splitOf S b (low S c a b)).1 = (S1, none)) : iteN (n + 1) S c a b = (S1, none) := by
  simp only [iteN, if_neg e1, if_neg e2, if_neg e3, ht, h1]
theorem iteN_2 (e1 : ¬ (c = 1 ∨ a = b)) (e2 : ¬ c = 0) (e3 : ¬ (a = 1 ∧ b = 0)) (ht : aget S.told (c, a, b) = none)
    (h1 : iteN n S (splitOf S c (low S c a b)).1 (splitOf S a (low S c a b)).1 (splitOf S b (low S c a b)).1 = (S1, some lo))
    (h2 : iteN n S1 (splitOf S c (low S c a b)).2 (splitOf S a (low S c a b)).2 (splitOf S b (low S c a b)).2 = (S2, none)) : iteN (n + 1) S c a b = (S2, none) := by
  simp only [iteN, if_neg e1, if_neg e2, if_neg e3, ht, h1, h2]
theorem iteN_3 (e1 : ¬ (c = 1 ∨ a = b)) (e2 : ¬ c = 0) (e3 : ¬ (a = 1 ∧ b = 0)) (ht : aget S.told (c, a, b) = none)
    (h1 : iteN n S (splitOf S c (low S c a b)).1 (splitOf S a (low S c a b)).1 (splitOf S b (low S c a b)).1 = (S1, some lo))
    (h2 : iteN n S1 (splitOf S c (low S c a b)).2 (splitOf S a (low S c a b)).2 (splitOf S b (low S c a b)).2 = (S2, some hi))
    (h3 : mkN S2 (low S c a b) lo hi = (S3, none)) : iteN (n + 1) S c a b = (S3, none) := by
  simp only [iteN, if_neg e1, if_neg e2, if_neg e3, ht, h1, h2, h3]
theorem iteN_4 (e1 : ¬ (c = 1 ∨ a = b)) (e2 : ¬ c = 0) (e3 : ¬ (a = 1 ∧ b = 0)) (ht : aget S.told (c, a, b) = none)
    (h1 : iteN n S (splitOf S c (low S c a b)).1 (splitOf S a (low S c a b)).1 (splitOf S b (low S c a b)).1 = (S1, some lo))
    (h2 : iteN n S1 (splitOf S c (low S c a b)).2 (splitOf S a (low S c a b)).2 (splitOf S b (low S c a b)).2 = (S2, some hi))
    (h3 : mkN S2 (low S c a b) lo hi = (S3, some r)) : iteN (n + 1) S c a b = ({ S3 with told := aput S3.told (c, a, b) r }, some r) := by
  simp only [iteN, if_neg e1, if_neg e2, if_neg e3, ht, h1, h2, h3]
end

theorem ite_work1 (n : Nat)
    (ih : ∀ (w : World) (p : Nat) (F : List Nat) (S : Sto) (c a b : Int), StoIs w p F S → Wf S → S.has c → S.has a → S.has b → 64 - low S c a b < n →
      Calls Try.prog 88 #[.pointer (some ⟨p, 0, none⟩), .int .i64 c, .int .i64 a, .int .i64 b] w
        (fun e w' => e = endOf (iteN n S c a b).2 ∧ Turned w p F (iteN n S c a b).1 w'))
    {w : World} {p : Nat} {F : List Nat} {S : Sto} {c a b : Int} (h : StoIs w p F S) (hW : Wf S) (hc : S.has c) (ha : S.has a) (hb : S.has b) (hn : 64 - low S c a b < (n + 1 : Nat))
    (e1 : ¬ (c = 1 ∨ a = b)) (e2 : ¬ c = 0) (e3 : ¬ a = 1) (ht : aget S.told (c, a, b) = none) :
    Calls Try.prog 88 #[.pointer (some ⟨p, 0, none⟩), .int .i64 c, .int .i64 a, .int .i64 b] w
      (fun e w' => e = endOf (iteN (n + 1) S c a b).2 ∧ Turned w p F (iteN (n + 1) S c a b).1 w') := by
  have HE := hid (show ¬ (a = 1 ∧ b = 0) by exact fun q => e3 q.1)
  have HE1 := hid e1
  have HE2 := hid e2
  have HT := hid ht
  have f1 : (c == 1) = false := by simp at e1; simpa using e1.1
  have f2 : (a == b) = false := by simp at e1; simpa using e1.2
  have f3 : (c == 0) = false := by simpa using e2
  have f4 : (a == 1) = false := by simpa using e3
  clear e3
  have hl1 : S.nodes.length ≤ 1048576 := by have := hW.len; have := hW.cap; omega
  obtain ⟨sv, G, bm, tm, hA, rfl⟩ := h.at
  obtain ⟨_, _, _, d3, _, _⟩ := hA.cells
  have dp := hA.lt.1
  have hlook : ∀ m d, (Instr.lookup 45 (.map (some tm)) (kv (c, a, b)) true).run Try.prog (w.ext m d) = .ok (.tuple #[.int .i64 0, .bool false]) (w.ext m d) := fun m d => by
    have e := lookup_run (w := w.ext m d) key_three Try.underlying45 (zero_int _) (MapIs.keep hA.told (World.heap_ext _ _ _ hA.lt.2.2.1)) (c, a, b) true
    rw [ht] at e
    exact e
  clear hA
  obtain ⟨l1, l2, l3⟩ := low_le S c a b
  have hl64 : low S c a b < 64 := by
    have hc2 : ¬ c < 2 := fun h2 => by have := hc.1; simp at e1; omega
    obtain ⟨i, m, rfl, hm⟩ := has_node hc hc2
    rw [topOf_node hm] at l1
    have := (hW.node i m hm).v64; omega
  have Sc := hid (split_ok hW hc l1 hl64)
  have Sa := hid (split_ok hW ha l2 hl64)
  have Sb := hid (split_ok hW hb l3 hl64)
  have hlow := low_if S c a b
  have Bc := hc.2
  have Ba := ha.2
  have Bb := hb.2
  clear l1 l2 l3 e1 e2 ht hc ha hb
  go_enter Try.func88, Try.ntmps88
  go_upto_region 7 with (fail)
  refine wp_region_seq (fun F hF => ?_)
  have HF := hid hF; clear hF
  repeat (first
    | (apply text_skip; (focus rfl); simp only [Act.put, List.setIfInBounds_toArray, List.set_cons_zero, List.set_cons_succ])
    | (apply text_val; (focus rfl); (focus (intro _ _; go_simp; with_reducible rfl)); simp only [Act.put, List.setIfInBounds_toArray, List.set_cons_zero, List.set_cons_succ])
    | (apply text_if; (focus (first | exact wanted_t rfl rfl | exact wanted_f rfl rfl | exact wanted_gt rfl rfl | exact wanted_gf rfl rfl)); (focus (intro hc _ _; (try simp only [Bool.and_eq_true, Bool.not_eq_true', Bool.true_and] at hc); go_simp; with_reducible rfl)); simp only [Act.put, List.setIfInBounds_toArray, List.set_cons_zero, List.set_cons_succ]))
  refine text_nil (HF.out _ (fun mx dx => ?_))
  clear HF F
  go_upto_region 10 with (fail)
  refine wp_region_seq (fun F hF => ?_)
  have HF := hid hF; clear hF
  repeat (first
    | (apply text_skip; (focus rfl); simp only [Act.put, List.setIfInBounds_toArray, List.set_cons_zero, List.set_cons_succ])
    | (apply text_val; (focus rfl); (focus (intro _ _; go_simp; with_reducible rfl)); simp only [Act.put, List.setIfInBounds_toArray, List.set_cons_zero, List.set_cons_succ])
    | (apply text_call; (focus rfl); (focus (intro _ _; go_simp; exact ⟨rfl, rfl⟩)); (focus (intro _ _; with_reducible (exact (top_any ((h.ext _ _).ext _ _) hl1 _ (by first | exact Bc | exact Ba | exact Bb))))); simp only [Act.put, List.setIfInBounds_toArray, List.set_cons_zero, List.set_cons_succ])
    | (apply text_if; (focus (first | exact wanted_t rfl rfl | exact wanted_f rfl rfl | exact wanted_gt rfl rfl | exact wanted_gf rfl rfl)); (focus (intro hc _ _; (try simp only [Bool.and_eq_true, Bool.not_eq_true', Bool.true_and] at hc); go_simp; with_reducible rfl)); simp only [Act.put, List.setIfInBounds_toArray, List.set_cons_zero, List.set_cons_succ])
    | (apply text_if_call; (focus (first | exact wanted_t rfl rfl | exact wanted_f rfl rfl | exact wanted_gt rfl rfl | exact wanted_gf rfl rfl)); (focus (intro hc _ _; (try simp only [Bool.and_eq_true, Bool.not_eq_true', Bool.true_and] at hc); go_simp; exact ⟨rfl, rfl⟩)); (focus (intro hc _ _; with_reducible (exact (top_any ((h.ext _ _).ext _ _) hl1 _ (by first | exact Bc | exact Ba | exact Bb))))); simp only [Act.put, List.setIfInBounds_toArray, List.set_cons_zero, List.set_cons_succ]))
  refine text_nil (HF.out _ (fun mx dx => ?_))
  clear HF F
  clear hlow
  go_upto_region 11 with (fail)
  refine wp_gen (fun V hV => ?_)
  have hbV : Below w.heap.size w V := by rw [hV]; ((repeat' (first | (with_reducible exact Below.refl _ _) | (with_reducible refine Below.ext_mk ?_ ?_ _ _) | (with_reducible refine Below.alloc ?_ ?_ _) | (with_reducible refine Below.drew ?_) | (with_reducible refine Below.setCell ?_ ?_ _) | go_size)))
  clear hV
  have hV := h.below hbV
  go_upto_region 14 with (go_at_call 135; refine (split_any (by first | exact hV | exact hV.ext _ _) hl1 _ _ ?_ hl64).mono ?_; (focus (first | exact Bc | exact Ba | exact Bb)); rintro e w' ⟨rfl, m1, d1, rfl⟩)
  refine wp_gen (fun V2 hV2 => ?_)
  have hbV2 : Below V.heap.size V V2 := by rw [hV2]; ((repeat' (first | (with_reducible exact Below.refl _ _) | (with_reducible refine Below.ext_mk ?_ ?_ _ _) | (with_reducible refine Below.alloc ?_ ?_ _) | (with_reducible refine Below.drew ?_) | (with_reducible refine Below.setCell ?_ ?_ _) | go_size)))
  clear hV2
  have hV2 := hV.below hbV2
  have st2 : StoStep w V2 (p :: bm :: tm :: G.toList) (p :: bm :: tm :: G.toList) := (StoStep.of_below hbV).trans (StoStep.of_below hbV2)
  clear hV hbV hbV2 hlook d3
  obtain ⟨c1, c2, c3, c4, c5⟩ := Sc.out
  obtain ⟨a1, a2, a3, a4, a5⟩ := Sa.out
  obtain ⟨b1, b2, b3, b4, b5⟩ := Sb.out
  have fuel1 := lt_low c3 a3 b3
  have fuel2 := lt_low c4 a4 b4
  have I1 := ih V2 p _ S _ _ _ hV2 hW c1 a1 b1 (by omega)
  have O1 := iteN_ok n S _ _ _ hW c1 a1 b1 (by omega)
  clear Sc Sa Sb c3 a3 b3 c5 a5 b5 fuel1 c1 a1 b1
  rcases hR1 : iteN n S (splitOf S c (low S c a b)).1 (splitOf S a (low S c a b)).1 (splitOf S b (low S c a b)).1 with ⟨S1, _ | lo⟩
  · rw [hR1] at I1 O1
    simp only [endOf] at I1
    have HR1 := hid hR1
    clear hR1 O1 ih
    go_wp2_with (go_at_call 88; refine I1.mono ?_; rintro e w' ⟨rfl, hT⟩)
    rw [iteN_1 HE1.out HE2.out HE.out HT.out HR1.out]
    exact ⟨rfl, rfl, hT.after st2⟩
  · rw [hR1] at I1 O1
    have HR1 := hid hR1
    have g1 := O1.grows
    have wf1 := O1.wf
    have k1 := O1.has lo rfl
    have hs1 : S1.nodes.length ≤ 1048576 := by have := wf1.len; have := wf1.cap; simp only at *; omega
    have I2 := fun w F h => ih w p F S1 _ _ _ h wf1 (g1.has c2) (g1.has a2) (g1.has b2) (by rw [g1.low c2 a2 b2]; omega)
    have O2 := iteN_ok n S1 _ _ _ wf1 (g1.has c2) (g1.has a2) (g1.has b2) (by rw [g1.low c2 a2 b2]; omega)
    clear hR1 ih O1 hV2
    simp only [endOf] at I1
    go_upto_region 15 with (go_at_call 88; refine I1.mono ?_; rintro e w' ⟨rfl, F1, hV3, st3⟩)
    have I3 := I2 _ _ hV3
    clear I2 I1
    rcases hR2 : iteN n S1 (splitOf S c (low S c a b)).2 (splitOf S a (low S c a b)).2 (splitOf S b (low S c a b)).2 with ⟨S2, _ | hi⟩
    · rw [hR2] at I3 O2
      simp only [endOf] at I3
      have HR2 := hid hR2
      clear hR2 O2
      go_wp2_with (go_at_call 88; refine I3.mono ?_; rintro e w' ⟨rfl, hT⟩)
      rw [iteN_2 HE1.out HE2.out HE.out HT.out HR1.out HR2.out]
      exact ⟨rfl, rfl, (hT.after st3).after st2⟩
    · rw [hR2] at I3 O2
      simp only [endOf] at I3
      have HR2 := hid hR2
      have g2 := O2.grows
      have wf2 := O2.wf
      have N : ∀ w F, StoIs w p F S2 → _ := fun w F h => node_any h wf2.len wf2.cap (low S c a b) lo hi
      have nl := @mkN_none_len S2 (low S c a b) lo hi
      clear hR2 O2
      rcases hR3 : mkN S2 (low S c a b) lo hi with ⟨S3, _ | r⟩
      · rw [hR3] at N
        simp only [endOf] at N
        have HR3 := hid hR3
        clear hR3 nl
        go_wp2_with (first
          | (go_at_call 88; refine I3.mono ?_; rintro e w' ⟨rfl, F2, hV4, st4⟩)
          | (go_at_call 86; refine (N _ _ hV4).mono ?_; rintro e w' ⟨rfl, hT⟩))
        rw [iteN_3 HE1.out HE2.out HE.out HT.out HR1.out HR2.out HR3.out]
        exact ⟨rfl, rfl, ((hT.after st4).after st3).after st2⟩
      · rw [hR3] at N
        simp only [endOf] at N
        have HR3 := hid hR3
        clear hR3 nl
        go_upto_region 16 with (first
          | (go_at_call 88; refine I3.mono ?_; rintro e w' ⟨rfl, F2, hV4, st4⟩)
          | (go_at_call 86; refine (N _ _ hV4).mono ?_; rintro e w' ⟨rfl, F3, hV5, st5⟩))
        clear I3 N hV3 hV4
        obtain ⟨sv5, G5, bm5, tm5, hB, rfl⟩ := hV5.at
        obtain ⟨_, _, _, y3, _, _⟩ := hB.cells
        have yp := hB.lt.1
        obtain ⟨o, u1, u2⟩ := update_run (t := 45) key_three Try.underlying45 hB.told (c, a, b) r
        have g3 := hB.put_told o u2
        have g4 := StoStep.put (w := w') (F := p :: bm5 :: tm5 :: G5.toList) (b := tm5) (by simp) o
        have G3 := hid g3.is
        have G4 := hid (((st2.trans st3).trans (st4.trans st5)).trans g4)
        clear g3 g4 hB u2 st2 st3 st4 st5
        refine wp_region_do (fun F hF => ?_)
        have HF := hid hF
        clear hF
        repeat (refine do_val rfl (by go_simp; exact ⟨rfl, rfl⟩) ?_; simp only [Act.put, List.setIfInBounds_toArray, List.set_cons_zero, List.set_cons_succ])
        refine do_skip rfl (by go_simp; with_reducible rfl) ?_
        simp only [Act.put, List.setIfInBounds_toArray, List.set_cons_zero, List.set_cons_succ]
        refine do_end (HF.out _ _ ?_)
        clear HF F
        go_wp2
        go_returns
        rw [iteN_4 HE1.out HE2.out HE.out HT.out HR1.out HR2.out HR3.out]
        exact ⟨rfl, _, G3.out, G4.out⟩

theorem ite_work2 (n : Nat)
    (ih : ∀ (w : World) (p : Nat) (F : List Nat) (S : Sto) (c a b : Int), StoIs w p F S → Wf S → S.has c → S.has a → S.has b → 64 - low S c a b < n →
      Calls Try.prog 88 #[.pointer (some ⟨p, 0, none⟩), .int .i64 c, .int .i64 a, .int .i64 b] w
        (fun e w' => e = endOf (iteN n S c a b).2 ∧ Turned w p F (iteN n S c a b).1 w'))
    {w : World} {p : Nat} {F : List Nat} {S : Sto} {c a b : Int} (h : StoIs w p F S) (hW : Wf S) (hc : S.has c) (ha : S.has a) (hb : S.has b) (hn : 64 - low S c a b < (n + 1 : Nat))
    (e1 : ¬ (c = 1 ∨ a = b)) (e2 : ¬ c = 0) (e3 : a = 1) (e4 : ¬ b = 0) (ht : aget S.told (c, a, b) = none) :
    Calls Try.prog 88 #[.pointer (some ⟨p, 0, none⟩), .int .i64 c, .int .i64 a, .int .i64 b] w
      (fun e w' => e = endOf (iteN (n + 1) S c a b).2 ∧ Turned w p F (iteN (n + 1) S c a b).1 w') := by
  have HE := hid (show ¬ (a = 1 ∧ b = 0) by exact fun q => e4 q.2)
  have HE1 := hid e1
  have HE2 := hid e2
  have HT := hid ht
  have f1 : (c == 1) = false := by simp at e1; simpa using e1.1
  have f2 : (a == b) = false := by simp at e1; simpa using e1.2
  have f3 : (c == 0) = false := by simpa using e2
  have f4 : (a == 1) = true := by simpa using e3
  have f5 : (b == 0) = false := by simpa using e4
  clear e3 e4
  have hl1 : S.nodes.length ≤ 1048576 := by have := hW.len; have := hW.cap; omega
  obtain ⟨sv, G, bm, tm, hA, rfl⟩ := h.at
  obtain ⟨_, _, _, d3, _, _⟩ := hA.cells
  have dp := hA.lt.1
  have hlook : ∀ m d, (Instr.lookup 45 (.map (some tm)) (kv (c, a, b)) true).run Try.prog (w.ext m d) = .ok (.tuple #[.int .i64 0, .bool false]) (w.ext m d) := fun m d => by
    have e := lookup_run (w := w.ext m d) key_three Try.underlying45 (zero_int _) (MapIs.keep hA.told (World.heap_ext _ _ _ hA.lt.2.2.1)) (c, a, b) true
    rw [ht] at e
    exact e
  clear hA
  obtain ⟨l1, l2, l3⟩ := low_le S c a b
  have hl64 : low S c a b < 64 := by
    have hc2 : ¬ c < 2 := fun h2 => by have := hc.1; simp at e1; omega
    obtain ⟨i, m, rfl, hm⟩ := has_node hc hc2
    rw [topOf_node hm] at l1
    have := (hW.node i m hm).v64; omega
  have Sc := hid (split_ok hW hc l1 hl64)
  have Sa := hid (split_ok hW ha l2 hl64)
  have Sb := hid (split_ok hW hb l3 hl64)
  have hlow := low_if S c a b
  have Bc := hc.2
  have Ba := ha.2
  have Bb := hb.2
  clear l1 l2 l3 e1 e2 ht hc ha hb
  go_enter Try.func88, Try.ntmps88
  go_upto_region 7 with (fail)
  refine wp_region_seq (fun F hF => ?_)
  have HF := hid hF; clear hF
  repeat (first
    | (apply text_skip; (focus rfl); simp only [Act.put, List.setIfInBounds_toArray, List.set_cons_zero, List.set_cons_succ])
    | (apply text_val; (focus rfl); (focus (intro _ _; go_simp; with_reducible rfl)); simp only [Act.put, List.setIfInBounds_toArray, List.set_cons_zero, List.set_cons_succ])
    | (apply text_if; (focus (first | exact wanted_t rfl rfl | exact wanted_f rfl rfl | exact wanted_gt rfl rfl | exact wanted_gf rfl rfl)); (focus (intro hc _ _; (try simp only [Bool.and_eq_true, Bool.not_eq_true', Bool.true_and] at hc); go_simp; with_reducible rfl)); simp only [Act.put, List.setIfInBounds_toArray, List.set_cons_zero, List.set_cons_succ]))
  refine text_nil (HF.out _ (fun mx dx => ?_))
  clear HF F
  go_upto_region 10 with (fail)
  refine wp_region_seq (fun F hF => ?_)
  have HF := hid hF; clear hF
  repeat (first
    | (apply text_skip; (focus rfl); simp only [Act.put, List.setIfInBounds_toArray, List.set_cons_zero, List.set_cons_succ])
    | (apply text_val; (focus rfl); (focus (intro _ _; go_simp; with_reducible rfl)); simp only [Act.put, List.setIfInBounds_toArray, List.set_cons_zero, List.set_cons_succ])
    | (apply text_call; (focus rfl); (focus (intro _ _; go_simp; exact ⟨rfl, rfl⟩)); (focus (intro _ _; with_reducible (exact (top_any ((h.ext _ _).ext _ _) hl1 _ (by first | exact Bc | exact Ba | exact Bb))))); simp only [Act.put, List.setIfInBounds_toArray, List.set_cons_zero, List.set_cons_succ])
    | (apply text_if; (focus (first | exact wanted_t rfl rfl | exact wanted_f rfl rfl | exact wanted_gt rfl rfl | exact wanted_gf rfl rfl)); (focus (intro hc _ _; (try simp only [Bool.and_eq_true, Bool.not_eq_true', Bool.true_and] at hc); go_simp; with_reducible rfl)); simp only [Act.put, List.setIfInBounds_toArray, List.set_cons_zero, List.set_cons_succ])
    | (apply text_if_call; (focus (first | exact wanted_t rfl rfl | exact wanted_f rfl rfl | exact wanted_gt rfl rfl | exact wanted_gf rfl rfl)); (focus (intro hc _ _; (try simp only [Bool.and_eq_true, Bool.not_eq_true', Bool.true_and] at hc); go_simp; exact ⟨rfl, rfl⟩)); (focus (intro hc _ _; with_reducible (exact (top_any ((h.ext _ _).ext _ _) hl1 _ (by first | exact Bc | exact Ba | exact Bb))))); simp only [Act.put, List.setIfInBounds_toArray, List.set_cons_zero, List.set_cons_succ]))
  refine text_nil (HF.out _ (fun mx dx => ?_))
  clear HF F
  clear hlow
  go_upto_region 11 with (fail)
  refine wp_gen (fun V hV => ?_)
  have hbV : Below w.heap.size w V := by rw [hV]; ((repeat' (first | (with_reducible exact Below.refl _ _) | (with_reducible refine Below.ext_mk ?_ ?_ _ _) | (with_reducible refine Below.alloc ?_ ?_ _) | (with_reducible refine Below.drew ?_) | (with_reducible refine Below.setCell ?_ ?_ _) | go_size)))
  clear hV
  have hV := h.below hbV
  go_upto_region 14 with (go_at_call 135; refine (split_any (by first | exact hV | exact hV.ext _ _) hl1 _ _ ?_ hl64).mono ?_; (focus (first | exact Bc | exact Ba | exact Bb)); rintro e w' ⟨rfl, m1, d1, rfl⟩)
  refine wp_gen (fun V2 hV2 => ?_)
  have hbV2 : Below V.heap.size V V2 := by rw [hV2]; ((repeat' (first | (with_reducible exact Below.refl _ _) | (with_reducible refine Below.ext_mk ?_ ?_ _ _) | (with_reducible refine Below.alloc ?_ ?_ _) | (with_reducible refine Below.drew ?_) | (with_reducible refine Below.setCell ?_ ?_ _) | go_size)))
  clear hV2
  have hV2 := hV.below hbV2
  have st2 : StoStep w V2 (p :: bm :: tm :: G.toList) (p :: bm :: tm :: G.toList) := (StoStep.of_below hbV).trans (StoStep.of_below hbV2)
  clear hV hbV hbV2 hlook d3
  obtain ⟨c1, c2, c3, c4, c5⟩ := Sc.out
  obtain ⟨a1, a2, a3, a4, a5⟩ := Sa.out
  obtain ⟨b1, b2, b3, b4, b5⟩ := Sb.out
  have fuel1 := lt_low c3 a3 b3
  have fuel2 := lt_low c4 a4 b4
  have I1 := ih V2 p _ S _ _ _ hV2 hW c1 a1 b1 (by omega)
  have O1 := iteN_ok n S _ _ _ hW c1 a1 b1 (by omega)
  clear Sc Sa Sb c3 a3 b3 c5 a5 b5 fuel1 c1 a1 b1
  rcases hR1 : iteN n S (splitOf S c (low S c a b)).1 (splitOf S a (low S c a b)).1 (splitOf S b (low S c a b)).1 with ⟨S1, _ | lo⟩
  · rw [hR1] at I1 O1
    simp only [endOf] at I1
    have HR1 := hid hR1
    clear hR1 O1 ih
    go_wp2_with (go_at_call 88; refine I1.mono ?_; rintro e w' ⟨rfl, hT⟩)
    rw [iteN_1 HE1.out HE2.out HE.out HT.out HR1.out]
    exact ⟨rfl, rfl, hT.after st2⟩
  · rw [hR1] at I1 O1
    have HR1 := hid hR1
    have g1 := O1.grows
    have wf1 := O1.wf
    have k1 := O1.has lo rfl
    have hs1 : S1.nodes.length ≤ 1048576 := by have := wf1.len; have := wf1.cap; simp only at *; omega
    have I2 := fun w F h => ih w p F S1 _ _ _ h wf1 (g1.has c2) (g1.has a2) (g1.has b2) (by rw [g1.low c2 a2 b2]; omega)
    have O2 := iteN_ok n S1 _ _ _ wf1 (g1.has c2) (g1.has a2) (g1.has b2) (by rw [g1.low c2 a2 b2]; omega)
    clear hR1 ih O1 hV2
    simp only [endOf] at I1
    go_upto_region 15 with (go_at_call 88; refine I1.mono ?_; rintro e w' ⟨rfl, F1, hV3, st3⟩)
    have I3 := I2 _ _ hV3
    clear I2 I1
    rcases hR2 : iteN n S1 (splitOf S c (low S c a b)).2 (splitOf S a (low S c a b)).2 (splitOf S b (low S c a b)).2 with ⟨S2, _ | hi⟩
    · rw [hR2] at I3 O2
      simp only [endOf] at I3
      have HR2 := hid hR2
      clear hR2 O2
      go_wp2_with (go_at_call 88; refine I3.mono ?_; rintro e w' ⟨rfl, hT⟩)
      rw [iteN_2 HE1.out HE2.out HE.out HT.out HR1.out HR2.out]
      exact ⟨rfl, rfl, (hT.after st3).after st2⟩
    · rw [hR2] at I3 O2
      simp only [endOf] at I3
      have HR2 := hid hR2
      have g2 := O2.grows
      have wf2 := O2.wf
      have N : ∀ w F, StoIs w p F S2 → _ := fun w F h => node_any h wf2.len wf2.cap (low S c a b) lo hi
      have nl := @mkN_none_len S2 (low S c a b) lo hi
      clear hR2 O2
      rcases hR3 : mkN S2 (low S c a b) lo hi with ⟨S3, _ | r⟩
      · rw [hR3] at N
        simp only [endOf] at N
        have HR3 := hid hR3
        clear hR3 nl
        go_wp2_with (first
          | (go_at_call 88; refine I3.mono ?_; rintro e w' ⟨rfl, F2, hV4, st4⟩)
          | (go_at_call 86; refine (N _ _ hV4).mono ?_; rintro e w' ⟨rfl, hT⟩))
        rw [iteN_3 HE1.out HE2.out HE.out HT.out HR1.out HR2.out HR3.out]
        exact ⟨rfl, rfl, ((hT.after st4).after st3).after st2⟩
      · rw [hR3] at N
        simp only [endOf] at N
        have HR3 := hid hR3
        clear hR3 nl
        go_upto_region 16 with (first
          | (go_at_call 88; refine I3.mono ?_; rintro e w' ⟨rfl, F2, hV4, st4⟩)
          | (go_at_call 86; refine (N _ _ hV4).mono ?_; rintro e w' ⟨rfl, F3, hV5, st5⟩))
        clear I3 N hV3 hV4
        obtain ⟨sv5, G5, bm5, tm5, hB, rfl⟩ := hV5.at
        obtain ⟨_, _, _, y3, _, _⟩ := hB.cells
        have yp := hB.lt.1
        obtain ⟨o, u1, u2⟩ := update_run (t := 45) key_three Try.underlying45 hB.told (c, a, b) r
        have g3 := hB.put_told o u2
        have g4 := StoStep.put (w := w') (F := p :: bm5 :: tm5 :: G5.toList) (b := tm5) (by simp) o
        have G3 := hid g3.is
        have G4 := hid (((st2.trans st3).trans (st4.trans st5)).trans g4)
        clear g3 g4 hB u2 st2 st3 st4 st5
        refine wp_region_do (fun F hF => ?_)
        have HF := hid hF
        clear hF
        repeat (refine do_val rfl (by go_simp; exact ⟨rfl, rfl⟩) ?_; simp only [Act.put, List.setIfInBounds_toArray, List.set_cons_zero, List.set_cons_succ])
        refine do_skip rfl (by go_simp; with_reducible rfl) ?_
        simp only [Act.put, List.setIfInBounds_toArray, List.set_cons_zero, List.set_cons_succ]
        refine do_end (HF.out _ _ ?_)
        clear HF F
        go_wp2
        go_returns
        rw [iteN_4 HE1.out HE2.out HE.out HT.out HR1.out HR2.out HR3.out]
        exact ⟨rfl, _, G3.out, G4.out⟩

end Go.Proofs.Ytboekafmplomhaa
set_option linter.unusedVariables false
set_option linter.unusedSimpArgs false
namespace Go.Proofs.Ytboekafmplomhaa
open Go.RowKit

theorem ite_any : ∀ (n : Nat) (w : World) (p : Nat) (F : List Nat) (S : Sto) (c a b : Int), StoIs w p F S → Wf S → S.has c → S.has a → S.has b → 64 - low S c a b < n →
    Calls Try.prog 88 #[.pointer (some ⟨p, 0, none⟩), .int .i64 c, .int .i64 a, .int .i64 b] w
      (fun e w' => e = endOf (iteN n S c a b).2 ∧ Turned w p F (iteN n S c a b).1 w') := by
  intro n
  induction n with
  | zero => intro w p F S c a b h hW hc ha hb hn; have := (low_le S c a b).1; have := topOf_le hW hc; omega
  | succ n ih =>
    intro w p F S c a b h hW hc ha hb hn
    have hT : Turned w p F S w := ⟨F, h, StoStep.refl w F⟩
    by_cases e1 : c = 1 ∨ a = b
    · rw [show iteN (n + 1) S c a b = (S, some a) by simp only [iteN, if_pos e1]]
      clear ih
      by_cases e0 : c = 1
      · clear e1
        subst e0
        go_enter Try.func88, Try.ntmps88
        go_wp2
        go_returns
        exact ⟨rfl, hT⟩
      · have e2 : a = b := by simpa [e0] using e1
        have e0' : (c == 1) = false := by simpa using e0
        clear e1
        subst e2
        go_enter Try.func88, Try.ntmps88
        go_wp2
        go_returns
        exact ⟨rfl, hT⟩
    · skip
      have f1 : (c == 1) = false := by simp at e1; simpa using e1.1
      have f2 : (a == b) = false := by simp at e1; simpa using e1.2
      by_cases e2 : c = 0
      · rw [show iteN (n + 1) S c a b = (S, some b) by simp only [iteN, if_neg e1, if_pos e2]]
        clear ih e1
        subst e2
        go_enter Try.func88, Try.ntmps88
        go_wp2
        go_returns
        exact ⟨rfl, hT⟩
      · skip
        have f3 : (c == 0) = false := by simpa using e2
        by_cases e3 : a = 1 ∧ b = 0
        · rw [show iteN (n + 1) S c a b = (S, some c) by simp only [iteN, if_neg e1, if_neg e2, if_pos e3]]
          obtain ⟨rfl, rfl⟩ := e3
          clear ih e1
          go_enter Try.func88, Try.ntmps88
          go_wp2
          go_returns
          exact ⟨rfl, hT⟩
        · cases ht : aget S.told (c, a, b) with
          | none =>
            by_cases q : a = 1
            · exact ite_work2 n ih h hW hc ha hb hn e1 e2 q (fun q' => e3 ⟨q, q'⟩) ht
            · exact ite_work1 n ih h hW hc ha hb hn e1 e2 q ht
          | some r =>
          rw [show iteN (n + 1) S c a b = (S, some r) by simp only [iteN, if_neg e1, if_neg e2, if_neg e3, ht]]
          have f4 : (a == 1) = false ∨ ((a == 1) = true ∧ (b == 0) = false) := by
            by_cases q : a = 1
            · exact .inr ⟨by simpa using q, by simpa [q] using e3⟩
            · exact .inl (by simpa using q)
          obtain ⟨sv, G, bm, tm, hA, rfl⟩ := h.at
          obtain ⟨_, _, _, d3, _, _⟩ := hA.cells
          have dp := hA.lt.1
          have hlook : ∀ m d, (Instr.lookup 45 (.map (some tm)) (kv (c, a, b)) true).run Try.prog (w.ext m d) = .ok (.tuple #[.int .i64 ((aget S.told (c, a, b)).getD 0), .bool (aget S.told (c, a, b)).isSome]) (w.ext m d) := fun m d =>
            lookup_run (w := w.ext m d) key_three Try.underlying45 (zero_int _) (MapIs.keep hA.told (World.heap_ext _ _ _ hA.lt.2.2.1)) (c, a, b) true
          clear hA
          have hl1 : S.nodes.length ≤ 1048576 := by have := hW.len; have := hW.cap; omega
          · simp only [ht, Option.getD_some, Option.isSome_some] at hlook
            clear ih e1 e2 e3 hn hc ha hb ht hW hl1
            go_enter Try.func88, Try.ntmps88
            rcases f4 with f4 | ⟨f4, f5⟩
            all_goals
              go_upto_region 7 with (fail)
              refine wp_region_seq (fun F hF => ?_)
              have HF := hid hF; clear hF
              repeat (first
                | (apply text_skip; (focus rfl); simp only [Act.put, List.setIfInBounds_toArray, List.set_cons_zero, List.set_cons_succ])
                | (apply text_val; (focus rfl); (focus (intro _ _; go_simp; with_reducible rfl)); simp only [Act.put, List.setIfInBounds_toArray, List.set_cons_zero, List.set_cons_succ])
                | (apply text_if; (focus (first | exact wanted_t rfl rfl | exact wanted_f rfl rfl | exact wanted_gt rfl rfl | exact wanted_gf rfl rfl)); (focus (intro hc _ _; (try simp only [Bool.and_eq_true, Bool.not_eq_true', Bool.true_and] at hc); go_simp; with_reducible rfl)); simp only [Act.put, List.setIfInBounds_toArray, List.set_cons_zero, List.set_cons_succ]))
              refine text_nil (HF.out _ (fun mx dx => ?_))
              clear HF F
              go_wp2
              go_returns
              exact ⟨rfl, Turned.refl h _ _⟩

end Go.Proofs.Ytboekafmplomhaa
set_option linter.unusedVariables false
set_option linter.unusedSimpArgs false
namespace Go.Proofs.Ytboekafmplomhaa
open Go.RowKit

theorem assert_overflow (w : World) : (Instr.typeAssert (.iface 159 (.agg #[])) 20 159 true).run Try.prog w = .ok (.tuple #[.agg #[], .bool true]) w := by kernel_rfl
theorem catch_panicking (b : Nat) (x : Int) (w : World) (hb : b < w.heap.size) (hc : w.cell? ⟨b, 0, none⟩ = some (.int .i64 x)) (hz : w.frozen? ⟨b, 0, none⟩ = false) :
    CallsD Try.prog 133 #[.pointer (some ⟨b, 0, none⟩)] (.panicking overflow) w fun e u' w' =>
      e = .returned (.tuple #[]) ∧ u' = .panicking [{ v := .iface 159 (.agg #[]), recovered := true }] ∧ ∃ m d, w' = (w.setCell ⟨b, 0, none⟩ (.int .i64 0)).ext m d := by
  refine callsD_of_wpS Try.func133 rfl fun c₀ cs hu => ?_
  apply wpS_seq
  apply wpS_region
  simp [wpOpsS, go_sem, recoverD, hu, Try.ntmps133, Exit.thenS]
  refine wpS_of_wp ?_
  simp only [List.replicate, Array.replicate]
  go_upto_region 2 with (fail)
  refine wp_region_do (fun F hF => ?_)
  have HF := hid hF
  clear hF
  refine do_val rfl (by go_simp; exact ⟨rfl, rfl⟩) ?_
  simp only [Act.put, List.setIfInBounds_toArray, List.set_cons_zero, List.set_cons_succ]
  refine do_val (v := .tuple #[.agg #[], .bool true]) (W1 := w) rfl (by kernel_rfl) ?_
  simp only [Act.put, List.setIfInBounds_toArray, List.set_cons_zero, List.set_cons_succ]
  repeat (refine do_val rfl (by go_simp; exact ⟨rfl, rfl⟩) ?_; simp only [Act.put, List.setIfInBounds_toArray, List.set_cons_zero, List.set_cons_succ])
  refine do_skip (W1 := w.alloc (Obj.cells #[] 159)) rfl (by first | (go_simp; done) | (go_simp; with_reducible rfl) | kernel_rfl) ?_
  simp only [Act.put, List.setIfInBounds_toArray, List.set_cons_zero, List.set_cons_succ]
  refine do_val rfl (by go_simp; exact ⟨rfl, rfl⟩) ?_
  simp only [Act.put, List.setIfInBounds_toArray, List.set_cons_zero, List.set_cons_succ]
  refine do_end (HF.out _ _ ?_)
  clear HF F
  go_wp2
  simp [bodyPostS, results, Try.results133]
  exact ⟨_, _, World.alloc_is_ext _ _⟩
theorem catch_idle (p : Addr) (w : World) :
    CallsD Try.prog 133 #[.pointer (some p)] .returning w fun e u' w' => e = .returned (.tuple #[]) ∧ u' = .returning ∧ w' = w := by
  refine callsD_of_wpS Try.func133 rfl fun c₀ cs hu => ?_
  apply wpS_seq
  apply wpS_region
  simp [wpOpsS, go_sem, recoverD, hu, Try.ntmps133, Exit.thenS]
  refine wpS_of_wp ?_
  simp only [List.replicate, Array.replicate]
  go_wp2
  cases c₀
  simp_all [bodyPostS, results, Try.results133]

/-- What a call of a closure, with no arguments, does. -/
def Acts (fn : FuncId) (cap : Array Value) (w : World) (p : Nat) (F : List Nat) (R : Sto × Option Int) : Prop :=
  Calls Try.prog fn cap w (fun e w' => e = endOf R.2 ∧ Turned w p F R.1 w')

theorem made_full {w : World} {p : Nat} {F : List Nat} {S : Sto} (h : StoIs w p F S) (hc : S.cap ≠ 0) (hf : S.full = true) (k : FuncId) (cap : Array Value) :
    Calls Try.prog 84 #[.pointer (some ⟨p, 0, none⟩), .func (.func k) #[] cap] w (Pure (.int .i64 0) w) := by
  go_enter_defers Try.func84, Try.ntmps84
  go_upto_region 1 with (fail)
  refine wp_gen (fun V hV => ?_)
  have hbV : Below w.heap.size w V := by rw [hV]; ((repeat' (first | (with_reducible exact Below.refl _ _) | (with_reducible refine Below.ext_mk ?_ ?_ _ _) | (with_reducible refine Below.alloc ?_ ?_ _) | (with_reducible refine Below.drew ?_) | (with_reducible refine Below.setCell ?_ ?_ _) | go_size)))
  have zV0 : w.heap.size < V.heap.size := by rw [hV]; first | (simp; done) | (simp; omega)
  have cV0_0 : V.cell? ⟨w.heap.size, 0, none⟩ = some (.int .i64 0) := by rw [hV]; first | (go_simp; done) | (rw [World.cell?_alloc_past _ _ _ (by first | (simp; done) | (simp; omega))]; go_simp)
  have fV0_0 : V.frozen? ⟨w.heap.size, 0, none⟩ = false := by rw [hV]; go_simp
  clear hV
  have hV := h.below hbV
  have hn : ∀ m d, Calls Try.prog 82 #[.pointer (some ⟨p, 0, none⟩)] (V.ext m d) (Pure (.bool false) (V.ext m d)) := fun m d => none_any (hV.ext m d) hc
  obtain ⟨a, cap', bm, tm, hp, c0, c1, c2, c3, c4, hm⟩ := hV.cells
  rw [hf] at c4
  refine wp_region_seq (fun F hF => ?_)
  have HF := hid hF; clear hF
  repeat (first
    | (apply text_skip; (focus rfl); simp only [Act.put, List.setIfInBounds_toArray, List.set_cons_zero, List.set_cons_succ])
    | (apply text_val; (focus rfl); (focus (intro _ _; go_simp; with_reducible rfl)); simp only [Act.put, List.setIfInBounds_toArray, List.set_cons_zero, List.set_cons_succ])
    | (apply text_call; (focus rfl); (focus (intro _ _; go_simp; exact ⟨rfl, rfl⟩)); (focus (intro _ _; with_reducible (exact hn _ _))); simp only [Act.put, List.setIfInBounds_toArray, List.set_cons_zero, List.set_cons_succ])
    | (apply text_if; (focus (first | exact wanted_t rfl rfl | exact wanted_f rfl rfl | exact wanted_gt rfl rfl | exact wanted_gf rfl rfl)); (focus (intro hc _ _; (try simp only [Bool.and_eq_true, Bool.not_eq_true', Bool.true_and] at hc); go_simp; with_reducible rfl)); simp only [Act.put, List.setIfInBounds_toArray, List.set_cons_zero, List.set_cons_succ])
    | (apply text_if_call; (focus (first | exact wanted_t rfl rfl | exact wanted_f rfl rfl | exact wanted_gt rfl rfl | exact wanted_gf rfl rfl)); (focus (intro hc _ _; (try simp only [Bool.and_eq_true, Bool.not_eq_true', Bool.true_and] at hc); go_simp; exact ⟨rfl, rfl⟩)); (focus (intro hc _ _; with_reducible (exact hn _ _))); simp only [Act.put, List.setIfInBounds_toArray, List.set_cons_zero, List.set_cons_succ]))
  refine text_nil (HF.out _ (fun mx dx => ?_))
  clear HF F
  go_wp2
  simp [bodyPostD, Leaves, settle, results, Try.results84, go_sem, zV0, cV0_0]
  exact Pure.of rfl (by (repeat' (first | (with_reducible exact Below.refl _ _) | (with_reducible refine Below.ext_mk ?_ ?_ _ _) | (with_reducible refine Below.alloc ?_ ?_ _) | (with_reducible refine Below.drew ?_) | (with_reducible refine Below.setCell ?_ ?_ _) | go_size)))

theorem StoStep.poke {w w' : World} {F F' : List Nat} (h : StoStep w w' F F') {b : Nat} (hb : w.heap.size ≤ b) (i : Nat) (v : Value) : StoStep w (w'.setCell ⟨b, i, none⟩ v) F F' :=
  ⟨h.os, h.tape, h.output, by simpa using h.size, fun k hk hn => by rw [Below.heap_setCell _ _ _ _ (show k ≠ b by omega)]; exact h.block k hk hn, fun k hk => by simpa using h.fresh k hk⟩
theorem StoIs.poke {w : World} {p : Nat} {F : List Nat} {S : Sto} (h : StoIs w p F S) {b : Nat} (hb : b ∉ F) (i : Nat) (v : Value) : StoIs (w.setCell ⟨b, i, none⟩ v) p F S :=
  h.keep (fun k hk => Below.heap_setCell _ _ _ _ (fun e => hb (by have e' : k = b := e; rw [← e']; exact hk)))

theorem made_run {w : World} {p : Nat} {F : List Nat} {S : Sto} (h : StoIs w p F S) (hc : S.cap ≠ 0) (hf : S.full = false) (k : FuncId) (cap : Array Value) (hk : ∀ w : World, (callFunc k cap).run Try.prog w = .ok (.enter k cap) w) (R : Sto × Option Int)
    (hcall : ∀ w', Below w.heap.size w w' → StoIs w' p F S → Calls Try.prog k cap w' (fun e w'' => e = endOf R.2 ∧ Turned w' p F R.1 w'')) :
    Calls Try.prog 84 #[.pointer (some ⟨p, 0, none⟩), .func (.func k) #[] cap] w (fun e w' => e = .returned (.int .i64 (R.2.getD 0)) ∧ Turned w p F R.1 w') := by
  have hmf : ∀ (fn : Fn) (first cap : Array Value) (w : World), (Instr.makeFunc fn first cap).run Try.prog w = .ok (.func fn first cap) w := fun _ _ _ _ => rfl
  have hlt := h.lt
  go_enter_defers Try.func84, Try.ntmps84
  go_upto_region 1 with (fail)
  refine wp_gen (fun V hV => ?_)
  have hbV : Below w.heap.size w V := by rw [hV]; ((repeat' (first | (with_reducible exact Below.refl _ _) | (with_reducible refine Below.ext_mk ?_ ?_ _ _) | (with_reducible refine Below.alloc ?_ ?_ _) | (with_reducible refine Below.drew ?_) | (with_reducible refine Below.setCell ?_ ?_ _) | go_size)))
  have zV0 : w.heap.size < V.heap.size := by rw [hV]; first | (simp; done) | (simp; omega)
  have cV0_0 : V.cell? ⟨w.heap.size, 0, none⟩ = some (.int .i64 0) := by rw [hV]; first | (go_simp; done) | (rw [World.cell?_alloc_past _ _ _ (by first | (simp; done) | (simp; omega))]; go_simp)
  have fV0_0 : V.frozen? ⟨w.heap.size, 0, none⟩ = false := by rw [hV]; go_simp
  clear hV
  have hV := h.below hbV
  have hn : ∀ m d, Calls Try.prog 82 #[.pointer (some ⟨p, 0, none⟩)] (V.ext m d) (Pure (.bool false) (V.ext m d)) := fun m d => none_any (hV.ext m d) hc
  obtain ⟨a, cap', bm, tm, hp, c0, c1, c2, c3, c4, hm⟩ := hV.cells
  rw [hf] at c4
  refine wp_region_seq (fun F hF => ?_)
  have HF := hid hF; clear hF
  repeat (first
    | (apply text_skip; (focus rfl); simp only [Act.put, List.setIfInBounds_toArray, List.set_cons_zero, List.set_cons_succ])
    | (apply text_val; (focus rfl); (focus (intro _ _; go_simp; with_reducible rfl)); simp only [Act.put, List.setIfInBounds_toArray, List.set_cons_zero, List.set_cons_succ])
    | (apply text_call; (focus rfl); (focus (intro _ _; go_simp; exact ⟨rfl, rfl⟩)); (focus (intro _ _; with_reducible (exact hn _ _))); simp only [Act.put, List.setIfInBounds_toArray, List.set_cons_zero, List.set_cons_succ])
    | (apply text_if; (focus (first | exact wanted_t rfl rfl | exact wanted_f rfl rfl | exact wanted_gt rfl rfl | exact wanted_gf rfl rfl)); (focus (intro hc _ _; (try simp only [Bool.and_eq_true, Bool.not_eq_true', Bool.true_and] at hc); go_simp; with_reducible rfl)); simp only [Act.put, List.setIfInBounds_toArray, List.set_cons_zero, List.set_cons_succ])
    | (apply text_if_call; (focus (first | exact wanted_t rfl rfl | exact wanted_f rfl rfl | exact wanted_gt rfl rfl | exact wanted_gf rfl rfl)); (focus (intro hc _ _; (try simp only [Bool.and_eq_true, Bool.not_eq_true', Bool.true_and] at hc); go_simp; exact ⟨rfl, rfl⟩)); (focus (intro hc _ _; with_reducible (exact hn _ _))); simp only [Act.put, List.setIfInBounds_toArray, List.set_cons_zero, List.set_cons_succ]))
  refine text_nil (HF.out _ (fun mx dx => ?_))
  clear HF F
  go_upto_region 3 with (fail)
  refine wp_gen (fun V2 hV2 => ?_)
  have hbV2 : Below w.heap.size w V2 := by rw [hV2]; ((repeat' (first | (with_reducible exact Below.refl _ _) | (with_reducible refine Below.ext_mk ?_ ?_ _ _) | (with_reducible refine Below.alloc ?_ ?_ _) | (with_reducible refine Below.drew ?_) | (with_reducible refine Below.setCell ?_ ?_ _) | go_size)))
  have zV20 : w.heap.size < V2.heap.size := by rw [hV2]; first | (simp; done) | (simp; omega)
  have cV20_0 : V2.cell? ⟨w.heap.size, 0, none⟩ = some (.int .i64 0) := by rw [hV2]; first | (go_simp; done) | (rw [World.cell?_alloc_past _ _ _ (by first | (simp; done) | (simp; omega))]; go_simp)
  have fV20_0 : V2.frozen? ⟨w.heap.size, 0, none⟩ = false := by rw [hV2]; go_simp
  clear hV2
  have hV2 := h.below hbV2
  have hcV := hcall V2 hbV2 hV2
  clear hn hV c0 c1 c2 c3 c4 hcall cV0_0 fV0_0 zV0 hp hbV
  obtain ⟨S', o⟩ := R
  cases o with
  | none =>
    simp only [endOf] at hcV
    go_upto_region 4 with (fail)
    go_wp2_with (refine hcV.mono ?_; rintro e w' ⟨rfl, F', hS', hst'⟩)
    have hb0 : w.heap.size ∉ F := fun hm => Nat.lt_irrefl _ (hlt _ hm)
    have hb1 : w.heap.size ∉ F' := fun hm => by rcases hst'.fresh _ hm with q | q; exact hb0 q; omega
    have hk0 := hst'.block _ zV20 hb0
    have y0 := (cell_of_heap 0 hk0).trans cV20_0
    have y1 : w'.frozen? ⟨w.heap.size, 0, none⟩ = false := by simpa [World.frozen?, hk0] using fV20_0
    have y2 : w.heap.size < w'.heap.size := Nat.lt_of_lt_of_le zV20 hst'.size
    have step := (StoStep.of_below (F := F) hbV2).trans hst'
    refine leaves_cons (f := 133) (args := #[.pointer (some ⟨w.heap.size, 0, none⟩)]) (by simp) (by simp [go_sem]) ?_
    refine (catch_panicking w.heap.size 0 _ y2 y0 y1).mono ?_
    rintro e u' w'' ⟨rfl, rfl, m, d, rfl⟩
    simp [Leaves, settle, results, Try.results84, go_sem, y0, y2]
    exact ⟨F', (hS'.poke hb1 0 _).ext m d, (step.poke (Nat.le_refl _) 0 _).ext m d⟩
  | some r =>
    simp only [endOf] at hcV
    go_upto_region 4 with (fail)
    have hb0 : w.heap.size ∉ F := fun hm => Nat.lt_irrefl _ (hlt _ hm)
    go_wp2_with (
      refine hcV.mono ?_
      rintro e w' ⟨rfl, F', hS', hst'⟩
      have hk0 := hst'.block _ zV20 hb0
      have y0 := (cell_of_heap 0 hk0).trans cV20_0
      have y1 : w'.frozen? ⟨w.heap.size, 0, none⟩ = false := by simpa [World.frozen?, hk0] using fV20_0
      have y2 : w.heap.size < w'.heap.size := Nat.lt_of_lt_of_le zV20 hst'.size)
    have hb1 : w.heap.size ∉ F' := fun hm => by rcases hst'.fresh _ hm with q | q; exact hb0 q; omega
    have step := (StoStep.of_below (F := F) hbV2).trans hst'
    refine leaves_cons (f := 133) (args := #[.pointer (some ⟨w.heap.size, 0, none⟩)]) (by simp) (by simp [go_sem]) ?_
    refine (catch_idle _ _).mono ?_
    rintro e u' w'' ⟨rfl, rfl, rfl⟩
    simp [Leaves, settle, results, Try.results84, go_sem, y0, y2]
    exact ⟨F', (hS'.poke hb1 0 _), (step.poke (Nat.le_refl _) 0 _)⟩
end Go.Proofs.Ytboekafmplomhaa
set_option linter.unusedVariables false
set_option linter.unusedSimpArgs false
namespace Go.Proofs.Ytboekafmplomhaa
open Go.RowKit

theorem var1_any {w : World} {p : Nat} {F : List Nat} {S : Sto} (h : StoIs w p F S) (hl : (S.nodes.length : Int) ≤ S.cap) (hc : S.cap ≤ 1048576) (v : Int) (i j : Nat)
    (hi : i < w.heap.size) (hj : j < w.heap.size) (ci : w.cell? ⟨i, 0, none⟩ = some (.pointer (some ⟨p, 0, none⟩))) (cj : w.cell? ⟨j, 0, none⟩ = some (.int .i64 v)) :
    Calls Try.prog 85 #[.pointer (some ⟨i, 0, none⟩), .pointer (some ⟨j, 0, none⟩)] w (fun e w' => e = endOf (mkN S v 0 1).2 ∧ Turned w p F (mkN S v 0 1).1 w') := by
  have N := node_any h hl hc v 0 1
  rcases hR : mkN S v 0 1 with ⟨S', _ | r⟩
  · rw [hR] at N
    simp only [endOf] at N ⊢
    clear hR
    go_enter Try.func85, Try.ntmps85
    go_wp2_with (go_at_call 86; refine N.mono ?_; rintro e w' ⟨rfl, hT⟩)
    exact ⟨rfl, rfl, hT⟩
  · rw [hR] at N
    simp only [endOf] at N ⊢
    clear hR
    go_enter Try.func85, Try.ntmps85
    go_wp2_with (go_at_call 86; refine N.mono ?_; rintro e w' ⟨rfl, hT⟩)
    go_returns
    exact ⟨rfl, hT⟩

theorem right_same {w : World} {p : Nat} {F : List Nat} {S : Sto} (h : StoIs w p F S) (hl : S.nodes.length ≤ 1048576) (x : Int) :
    Calls Try.prog 83 #[.pointer (some ⟨p, 0, none⟩), .int .i64 x] w (fun e w' => e = .returned (.int .i64 (rightOf S x)) ∧ w' = w) := by
  obtain ⟨a, cap', bm, tm, hp, c0, c1, c2, c3, c4, hm⟩ := h.cells
  have hw : IntKind.i64.wrap ((S.nodes.length : Int) + 2) = (S.nodes.length : Int) + 2 := IntWalk.i64_in _ (by omega)
  by_cases h0 : x < 0
  · go_enter Try.func83, Try.ntmps83
    go_wp2
    go_returns
    exact ⟨by unfold rightOf; rw [if_pos (.inl h0)]; rfl, rfl⟩
  · by_cases h1 : (S.nodes.length : Int) + 2 ≤ x
    · go_enter Try.func83, Try.ntmps83
      go_wp2
      go_returns
      exact ⟨by unfold rightOf; rw [if_pos (.inr h1)]; rfl, rfl⟩
    · have h1' : x < (S.nodes.length : Int) + 2 := by omega
      go_enter Try.func83, Try.ntmps83
      go_wp2
      go_returns
      exact ⟨by unfold rightOf; rw [if_neg (by omega)]; rfl, rfl⟩

theorem has_right {S : Sto} (x : Int) : S.has (rightOf S x) := by
  unfold rightOf Sto.has
  by_cases h : x < 0 ∨ (S.nodes.length : Int) + 2 ≤ x
  · rw [if_pos h]; omega
  · rw [if_neg h]; omega

/-- What Ite tells of any numbers. -/
def iteR (S : Sto) (c a b : Int) : Sto × Option Int := iteN 65 S (rightOf S c) (rightOf S a) (rightOf S b)

set_option maxRecDepth 4000 in
theorem ite1_any {w : World} {p : Nat} {F : List Nat} {S : Sto} (h : StoIs w p F S) (hW : Wf S) (x y z : Int) (i0 i1 i2 i3 : Nat)
    (h0 : i0 < w.heap.size) (h1 : i1 < w.heap.size) (h2 : i2 < w.heap.size) (h3 : i3 < w.heap.size)
    (c0 : w.cell? ⟨i0, 0, none⟩ = some (.pointer (some ⟨p, 0, none⟩))) (c1 : w.cell? ⟨i1, 0, none⟩ = some (.int .i64 x)) (c2 : w.cell? ⟨i2, 0, none⟩ = some (.int .i64 y)) (c3 : w.cell? ⟨i3, 0, none⟩ = some (.int .i64 z)) :
    Calls Try.prog 87 #[.pointer (some ⟨i0, 0, none⟩), .pointer (some ⟨i1, 0, none⟩), .pointer (some ⟨i2, 0, none⟩), .pointer (some ⟨i3, 0, none⟩)] w
      (fun e w' => e = endOf (iteR S x y z).2 ∧ Turned w p F (iteR S x y z).1 w') := by
  have hl1 : S.nodes.length ≤ 1048576 := by have := hW.len; have := hW.cap; omega
  have N := fun m d => ite_any 65 (w.ext m d) p F S _ _ _ (h.ext m d) hW (has_right x) (has_right y) (has_right z) (by
    have := (low_le S (rightOf S x) (rightOf S y) (rightOf S z)).1
    have g1 := topOf_ge hW (has_right (S := S) x); have g2 := topOf_ge hW (has_right (S := S) y); have g3 := topOf_ge hW (has_right (S := S) z)
    unfold low; omega)
  go_enter Try.func87, Try.ntmps87
  go_upto_region 1 with (fail)
  refine wp_region_still_tail 10 (by kernel_rfl) (by kernel_rfl) ?_
  simp only [List.take_succ_cons, List.take_zero, List.drop_succ_cons, List.drop_zero]
  have hbd : Below w.heap.size w w.drew := Below.drew (Below.refl _ _)
  have hS := h.below hbd
  have N' := N #[] w.drawn
  have d0 : w.drew.cell? ⟨i0, 0, none⟩ = some (.pointer (some ⟨p, 0, none⟩)) := c0
  have d1 : w.drew.cell? ⟨i1, 0, none⟩ = some (.int .i64 x) := c1
  have d2 : w.drew.cell? ⟨i2, 0, none⟩ = some (.int .i64 y) := c2
  have d3 : w.drew.cell? ⟨i3, 0, none⟩ = some (.int .i64 z) := c3
  have e : ({ w with drawn := w.drawn + 1 } : World) = w.drew := rfl
  rw [e]
  clear e
  have N' := fun q h => ite_any 65 q p F S _ _ _ h hW (has_right x) (has_right y) (has_right z) (by
    have := (low_le S (rightOf S x) (rightOf S y) (rightOf S z)).1
    have g1 := topOf_ge hW (has_right (S := S) x); have g2 := topOf_ge hW (has_right (S := S) y); have g3 := topOf_ge hW (has_right (S := S) z)
    unfold low; omega)
  have N2 := N' _ hS
  have st : StoStep w w.drew F F := StoStep.of_below hbd
  clear N N' c0 c1 c2 c3 h0 h1 h2 h3 h hbd
  generalize w.drew = wd at *
  have H := fun x => right_same hS hl1 x
  repeat (first | still_step | still_call (H _))
  refine wpStill_nil ?_
  clear H
  rcases hR : iteN 65 S (rightOf S x) (rightOf S y) (rightOf S z) with ⟨S', _ | r⟩
  · rw [hR] at N2
    simp only [endOf] at N2
    have HR := hid hR
    clear hR
    go_wp2_with (go_at_call 88; refine N2.mono ?_; rintro e w' ⟨rfl, hT⟩)
    unfold iteR
    rw [HR.out]
    exact ⟨rfl, rfl, hT.after st⟩
  · rw [hR] at N2
    simp only [endOf] at N2
    have HR := hid hR
    clear hR
    go_wp2_with (go_at_call 88; refine N2.mono ?_; rintro e w' ⟨rfl, hT⟩)
    go_returns
    unfold iteR
    rw [HR.out]
    exact ⟨rfl, hT.after st⟩

/-- What a call tells that makes a diagram: 0 if the store is, or was, full. -/
def madeR (S : Sto) (R : Sto × Option Int) : Sto × Int := if S.full then (S, 0) else (R.1, R.2.getD 0)
def varV (S : Sto) (v : Int) : Sto × Int := if v < 0 ∨ 64 ≤ v then (S, 0) else madeR S (mkN S v 0 1)
def iteV (S : Sto) (x y z : Int) : Sto × Int := madeR S (iteR S x y z)
/-- A call that tells a number, and turns a store. -/
def Tells (f : FuncId) (args : Array Value) (w : World) (p : Nat) (F : List Nat) (R : Sto × Int) : Prop :=
  Calls Try.prog f args w (fun e w' => e = .returned (.int .i64 R.2) ∧ Turned w p F R.1 w')

theorem made_any {w : World} {p : Nat} {F : List Nat} {S : Sto} (h : StoIs w p F S) (hc : S.cap ≠ 0) (k : FuncId) (cap : Array Value) (hk : ∀ w : World, (callFunc k cap).run Try.prog w = .ok (.enter k cap) w) (R : Sto × Option Int)
    (hcall : ∀ w', Below w.heap.size w w' → StoIs w' p F S → Calls Try.prog k cap w' (fun e w'' => e = endOf R.2 ∧ Turned w' p F R.1 w'')) :
    Tells 84 #[.pointer (some ⟨p, 0, none⟩), .func (.func k) #[] cap] w p F (madeR S R) := by
  unfold madeR
  cases hf : S.full with
  | true =>
    refine (made_full h hc hf k cap).mono ?_
    rintro e w' ⟨rfl, m, d, rfl⟩
    exact ⟨rfl, Turned.refl h m d⟩
  | false => exact made_run h hc hf k cap hk R hcall

theorem ite_call {w : World} {p : Nat} {F : List Nat} {S : Sto} (h : StoIs w p F S) (hW : Wf S) (x y z : Int) :
    Tells 25 #[.pointer (some ⟨p, 0, none⟩), .int .i64 x, .int .i64 y, .int .i64 z] w p F (iteV S x y z) := by
  have hmf : ∀ (fn : Fn) (first cap : Array Value) (w : World), (Instr.makeFunc fn first cap).run Try.prog w = .ok (.func fn first cap) w := fun _ _ _ _ => rfl
  have hc : S.cap ≠ 0 := by have := hW.cap2; omega
  go_enter Try.func25, Try.ntmps25
  go_upto_region 1 with (fail)
  refine wp_gen (fun V hV => ?_)
  have hbV : Below w.heap.size w V := by rw [hV]; ((repeat' (first | (with_reducible exact Below.refl _ _) | (with_reducible refine Below.ext_mk ?_ ?_ _ _) | (with_reducible refine Below.alloc ?_ ?_ _) | (with_reducible refine Below.drew ?_) | (with_reducible refine Below.setCell ?_ ?_ _) | go_size)))
  have zV0 : w.heap.size < V.heap.size := by rw [hV]; first | (simp; done) | (simp; omega)
  have cV0_0 : V.cell? ⟨w.heap.size, 0, none⟩ = some (.pointer (some ⟨p, 0, none⟩)) := by rw [hV]; first | (go_simp; done) | (rw [World.cell?_alloc_past _ _ _ (by first | (simp; done) | (simp; omega))]; go_simp)
  have zV1 : w.heap.size + 1 < V.heap.size := by rw [hV]; first | (simp; done) | (simp; omega)
  have cV1_0 : V.cell? ⟨w.heap.size + 1, 0, none⟩ = some (.int .i64 x) := by rw [hV]; first | (go_simp; done) | (rw [World.cell?_alloc_past _ _ _ (by first | (simp; done) | (simp; omega))]; go_simp)
  have zV2 : w.heap.size + 2 < V.heap.size := by rw [hV]; first | (simp; done) | (simp; omega)
  have cV2_0 : V.cell? ⟨w.heap.size + 2, 0, none⟩ = some (.int .i64 y) := by rw [hV]; first | (go_simp; done) | (rw [World.cell?_alloc_past _ _ _ (by first | (simp; done) | (simp; omega))]; go_simp)
  have zV3 : w.heap.size + 3 < V.heap.size := by rw [hV]; first | (simp; done) | (simp; omega)
  have cV3_0 : V.cell? ⟨w.heap.size + 3, 0, none⟩ = some (.int .i64 z) := by rw [hV]; first | (go_simp; done) | (rw [World.cell?_alloc_past _ _ _ (by first | (simp; done) | (simp; omega))]; go_simp)
  clear hV
  have hV := h.below hbV
  have M := made_any hV hc 87 #[.pointer (some ⟨w.heap.size, 0, none⟩), .pointer (some ⟨w.heap.size + 1, 0, none⟩), .pointer (some ⟨w.heap.size + 2, 0, none⟩), .pointer (some ⟨w.heap.size + 3, 0, none⟩)] (fun _ => by kernel_rfl) (iteR S x y z)
    (fun w' hb hS => ite1_any hS hW x y z _ _ _ _ (Nat.lt_of_lt_of_le zV0 hb.size) (Nat.lt_of_lt_of_le zV1 hb.size) (Nat.lt_of_lt_of_le zV2 hb.size) (Nat.lt_of_lt_of_le zV3 hb.size)
      ((cell_of_heap 0 (hb.block _ zV0)).trans cV0_0) ((cell_of_heap 0 (hb.block _ zV1)).trans cV1_0) ((cell_of_heap 0 (hb.block _ zV2)).trans cV2_0) ((cell_of_heap 0 (hb.block _ zV3)).trans cV3_0))
  have st : StoStep w V F F := StoStep.of_below hbV
  unfold Tells at M
  go_wp2_with (go_at_call 84; refine M.mono ?_; rintro e w' ⟨rfl, hT⟩)
  go_returns
  exact ⟨rfl, hT.after st⟩

theorem var_call {w : World} {p : Nat} {F : List Nat} {S : Sto} (h : StoIs w p F S) (hW : Wf S) (v : Int) :
    Tells 24 #[.pointer (some ⟨p, 0, none⟩), .int .i64 v] w p F (varV S v) := by
  have hmf : ∀ (fn : Fn) (first cap : Array Value) (w : World), (Instr.makeFunc fn first cap).run Try.prog w = .ok (.func fn first cap) w := fun _ _ _ _ => rfl
  have hc : S.cap ≠ 0 := by have := hW.cap2; omega
  unfold varV
  by_cases hv : v < 0 ∨ 64 ≤ v
  · rw [if_pos hv]
    by_cases h0 : v < 0
    · go_enter Try.func24, Try.ntmps24
      go_wp2
      go_returns
      refine ⟨rfl, F, h.below ?_, StoStep.of_below ?_⟩ <;> (repeat' (first | (with_reducible exact Below.refl _ _) | (with_reducible refine Below.ext_mk ?_ ?_ _ _) | (with_reducible refine Below.alloc ?_ ?_ _) | (with_reducible refine Below.drew ?_) | (with_reducible refine Below.setCell ?_ ?_ _) | go_size))
    · have h1 : 64 ≤ v := by omega
      clear hv
      go_enter Try.func24, Try.ntmps24
      go_wp2
      go_returns
      refine ⟨rfl, F, h.below ?_, StoStep.of_below ?_⟩ <;> (repeat' (first | (with_reducible exact Below.refl _ _) | (with_reducible refine Below.ext_mk ?_ ?_ _ _) | (with_reducible refine Below.alloc ?_ ?_ _) | (with_reducible refine Below.drew ?_) | (with_reducible refine Below.setCell ?_ ?_ _) | go_size))
  · rw [if_neg hv]
    have h0 : ¬ v < 0 := by omega
    have h1 : ¬ 64 ≤ v := by omega
    clear hv
    go_enter Try.func24, Try.ntmps24
    go_upto_region 3 with (fail)
    refine wp_gen (fun V hV => ?_)
    have hbV : Below w.heap.size w V := by rw [hV]; ((repeat' (first | (with_reducible exact Below.refl _ _) | (with_reducible refine Below.ext_mk ?_ ?_ _ _) | (with_reducible refine Below.alloc ?_ ?_ _) | (with_reducible refine Below.drew ?_) | (with_reducible refine Below.setCell ?_ ?_ _) | go_size)))
    have zV0 : w.heap.size < V.heap.size := by rw [hV]; first | (simp; done) | (simp; omega)
    have cV0_0 : V.cell? ⟨w.heap.size, 0, none⟩ = some (.pointer (some ⟨p, 0, none⟩)) := by rw [hV]; first | (go_simp; done) | (rw [World.cell?_alloc_past _ _ _ (by first | (simp; done) | (simp; omega))]; go_simp)
    have zV1 : w.heap.size + 1 < V.heap.size := by rw [hV]; first | (simp; done) | (simp; omega)
    have cV1_0 : V.cell? ⟨w.heap.size + 1, 0, none⟩ = some (.int .i64 v) := by rw [hV]; first | (go_simp; done) | (rw [World.cell?_alloc_past _ _ _ (by first | (simp; done) | (simp; omega))]; go_simp)
    clear hV
    have hV := h.below hbV
    have M := made_any hV hc 85 #[.pointer (some ⟨w.heap.size, 0, none⟩), .pointer (some ⟨w.heap.size + 1, 0, none⟩)] (fun _ => by kernel_rfl) (mkN S v 0 1)
      (fun w' hb hS => var1_any hS hW.len hW.cap v _ _ (Nat.lt_of_lt_of_le zV0 hb.size) (Nat.lt_of_lt_of_le zV1 hb.size)
        ((cell_of_heap 0 (hb.block _ zV0)).trans cV0_0) ((cell_of_heap 0 (hb.block _ zV1)).trans cV1_0))
    have st : StoStep w V F F := StoStep.of_below hbV
    unfold Tells at M
    go_wp2_with (go_at_call 84; refine M.mono ?_; rintro e w' ⟨rfl, hT⟩)
    go_returns
    exact ⟨rfl, hT.after st⟩
end Go.Proofs.Ytboekafmplomhaa
set_option linter.unusedVariables false
set_option linter.unusedSimpArgs false
namespace Go.Proofs.Ytboekafmplomhaa

/-- All variables are below V. -/
def Below' (S : Sto) (V : Int) : Prop := ∀ (i : Nat) (n : Nd), S.nodes[i]? = some n → n.1 < V
/-- A full store has as many nodes as may be. -/
def Sated (S : Sto) : Prop := S.full = true → (S.nodes.length : Int) = S.cap

theorem mkN_below {S : Sto} {V v lo hi : Int} (h : Below' S V) (hv : v < V) : Below' (mkN S v lo hi).1 V ∧ (mkN S v lo hi).1.nodes.length ≤ S.nodes.length + 1 := by
  unfold mkN
  by_cases e : lo = hi
  · rw [if_pos e]; exact ⟨h, by simp⟩
  · rw [if_neg e]
    cases hr : aget S.byn (v, lo, hi) with
    | some r => exact ⟨h, by simp⟩
    | none =>
      simp only
      by_cases hl : (S.nodes.length : Int) = S.cap
      · rw [if_pos hl]; exact ⟨h, by simp⟩
      · rw [if_neg hl]
        refine ⟨?_, by simp⟩
        intro i n hn
        simp only at hn
        rcases Nat.lt_or_ge i S.nodes.length with hlt | hge
        · rw [List.getElem?_append_left hlt] at hn; exact h i n hn
        · rw [List.getElem?_append_right hge] at hn
          cases hj : i - S.nodes.length with
          | zero => rw [hj] at hn; simp at hn; rw [← hn]; exact hv
          | succ j => rw [hj] at hn; simp at hn

theorem mkN_sated {S : Sto} {v lo hi : Int} (h : Sated S) : Sated (mkN S v lo hi).1 := by
  unfold mkN
  by_cases e : lo = hi
  · rw [if_pos e]; exact h
  · rw [if_neg e]
    cases hr : aget S.byn (v, lo, hi) with
    | some r => exact h
    | none =>
      simp only
      by_cases hl : (S.nodes.length : Int) = S.cap
      · rw [if_pos hl]; intro _; exact hl
      · rw [if_neg hl]; intro hf; exact absurd (h hf) hl

theorem topOf_below {S : Sto} {V : Int} (h : Below' S V) {a : Int} (ha : S.has a) (h2 : ¬ a < 2) : topOf S a < V := by
  obtain ⟨i, n, rfl, hn⟩ := has_node ha h2
  rw [topOf_node hn]; exact h i n hn

theorem pow_two_step {k m : Nat} (h : k + 1 ≤ m) : 2 ^ k + 2 ^ k ≤ 2 ^ m := by
  have h1 : 2 ^ (k + 1) ≤ 2 ^ m := Nat.pow_le_pow_right (by omega) h
  rw [Nat.pow_succ] at h1; omega

/-- Ite adds fewer nodes than there are ways through the variables. -/
theorem iteN_count : ∀ (n : Nat) (S : Sto) (c a b V : Int), Wf S → S.has c → S.has a → S.has b → 64 - low S c a b < n → Below' S V →
    Below' (iteN n S c a b).1 V ∧ (iteN n S c a b).1.nodes.length + 1 ≤ S.nodes.length + 2 ^ (V - low S c a b).toNat := by
  intro n
  induction n with
  | zero => intro S c a b V h hc ha hb hn; have := (low_le S c a b).1; have := topOf_le h hc; omega
  | succ n ih =>
    intro S c a b V h hc ha hb hn hV
    have hp : ∀ k : Nat, 1 ≤ 2 ^ k := fun k => Nat.one_le_two_pow
    obtain ⟨l1, l2, l3⟩ := low_le S c a b
    unfold iteN
    by_cases e1 : c = 1 ∨ a = b
    · rw [if_pos e1]; exact ⟨hV, by have := hp (V - low S c a b).toNat; simp only; omega⟩
    · rw [if_neg e1]
      by_cases e2 : c = 0
      · rw [if_pos e2]; exact ⟨hV, by have := hp (V - low S c a b).toNat; simp only; omega⟩
      · rw [if_neg e2]
        by_cases e3 : a = 1 ∧ b = 0
        · rw [if_pos e3]; exact ⟨hV, by have := hp (V - low S c a b).toNat; simp only; omega⟩
        · rw [if_neg e3]
          cases ht : aget S.told (c, a, b) with
          | some r => exact ⟨hV, by have := hp (V - low S c a b).toNat; simp only; omega⟩
          | none =>
            have hl0 : 0 ≤ low S c a b := by
              have := topOf_ge h hc; have := topOf_ge h ha; have := topOf_ge h hb
              unfold low; omega
            have hc2 : ¬ c < 2 := fun h2 => by have := hc.1; simp at e1; omega
            have hlV : low S c a b < V := by have := topOf_below hV hc hc2; omega
            have hl64 : low S c a b < 64 := by
              obtain ⟨i, m, rfl, hm⟩ := has_node hc hc2
              rw [topOf_node hm] at l1
              have := (h.node i m hm).v64; omega
            generalize hv : low S c a b = v at *
            obtain ⟨c1, c2, c3, c4, c5⟩ := split_ok h hc l1 hl64
            obtain ⟨a1, a2, a3, a4, a5⟩ := split_ok h ha l2 hl64
            obtain ⟨b1, b2, b3, b4, b5⟩ := split_ok h hb l3 hl64
            have hlow1 := lt_low c3 a3 b3
            have hlow2 := lt_low c4 a4 b4
            have I1 := ih S _ _ _ V h c1 a1 b1 (by omega) hV
            have O1 := iteN_ok n S _ _ _ h c1 a1 b1 (by omega)
            have two : ∀ k1 k2 : Nat, k1 + 1 ≤ (V - v).toNat → k2 + 1 ≤ (V - v).toNat → 2 ^ k1 + 2 ^ k2 ≤ 2 ^ (V - v).toNat := fun k1 k2 h1 h2 => by
              have x1 : 2 ^ k1 ≤ 2 ^ ((V - v).toNat - 1) := Nat.pow_le_pow_right (by omega) (by omega)
              have x2 : 2 ^ k2 ≤ 2 ^ ((V - v).toNat - 1) := Nat.pow_le_pow_right (by omega) (by omega)
              have x3 := pow_two_step (show ((V - v).toNat - 1) + 1 ≤ (V - v).toNat by omega)
              omega
            have one := two (V - low S (splitOf S c v).1 (splitOf S a v).1 (splitOf S b v).1).toNat
            generalize hR1 : iteN n S (splitOf S c v).1 (splitOf S a v).1 (splitOf S b v).1 = R1 at I1 O1
            obtain ⟨S1, o1⟩ := R1
            obtain ⟨i1, i2⟩ := I1
            simp only at i1 i2
            cases o1 with
            | none =>
              refine ⟨i1, ?_⟩
              have := one 0 (by omega) (by omega)
              simp only; omega
            | some lo =>
              have g1 := O1.grows
              have wf1 := O1.wf
              simp only at g1 wf1
              have e2' := g1.low c2 a2 b2
              have I2 := ih S1 _ _ _ V wf1 (g1.has c2) (g1.has a2) (g1.has b2) (by rw [e2']; omega) i1
              rw [e2'] at I2
              have two' := one (V - low S (splitOf S c v).2 (splitOf S a v).2 (splitOf S b v).2).toNat (by omega) (by omega)
              simp only
              generalize hR2 : iteN n S1 (splitOf S c v).2 (splitOf S a v).2 (splitOf S b v).2 = R2 at I2
              obtain ⟨S2, o2⟩ := R2
              obtain ⟨j1, j2⟩ := I2
              simp only at j1 j2
              cases o2 with
              | none => exact ⟨j1, by simp only; omega⟩
              | some hi =>
                have M := mkN_below (lo := lo) (hi := hi) j1 hlV
                simp only
                generalize hR3 : mkN S2 v lo hi = R3 at M
                obtain ⟨S3, o3⟩ := R3
                obtain ⟨m1, m2⟩ := M
                simp only at m1 m2
                cases o3 with
                | none => exact ⟨m1, by simp only; omega⟩
                | some r => exact ⟨fun i n hn => m1 i n hn, by simp only; omega⟩

theorem iteN_sated : ∀ (n : Nat) (S : Sto) (c a b : Int), Sated S → Sated (iteN n S c a b).1 := by
  intro n
  induction n with
  | zero => intro S c a b h; exact h
  | succ n ih =>
    intro S c a b h
    unfold iteN
    by_cases e1 : c = 1 ∨ a = b
    · rw [if_pos e1]; exact h
    · rw [if_neg e1]
      by_cases e2 : c = 0
      · rw [if_pos e2]; exact h
      · rw [if_neg e2]
        by_cases e3 : a = 1 ∧ b = 0
        · rw [if_pos e3]; exact h
        · rw [if_neg e3]
          cases ht : aget S.told (c, a, b) with
          | some r => exact h
          | none =>
            simp only
            have I1 := ih S (splitOf S c (low S c a b)).1 (splitOf S a (low S c a b)).1 (splitOf S b (low S c a b)).1 h
            generalize iteN n S (splitOf S c (low S c a b)).1 (splitOf S a (low S c a b)).1 (splitOf S b (low S c a b)).1 = R1 at I1
            obtain ⟨S1, o1⟩ := R1
            cases o1 with
            | none => exact I1
            | some lo =>
              have I2 := ih S1 (splitOf S c (low S c a b)).2 (splitOf S a (low S c a b)).2 (splitOf S b (low S c a b)).2 I1
              simp only
              generalize iteN n S1 (splitOf S c (low S c a b)).2 (splitOf S a (low S c a b)).2 (splitOf S b (low S c a b)).2 = R2 at I2
              obtain ⟨S2, o2⟩ := R2
              cases o2 with
              | none => exact I2
              | some hi =>
                have M := mkN_sated (v := low S c a b) (lo := lo) (hi := hi) I2
                simp only
                generalize mkN S2 (low S c a b) lo hi = R3 at M
                obtain ⟨S3, o3⟩ := R3
                cases o3 with
                | none => exact M
                | some r => exact M

/-- What a call that tells a diagram keeps: V variables, at most m nodes more. -/
structure VOk (S : Sto) (V : Int) (m : Nat) (R : Sto × Int) : Prop where
  wf : Wf R.1
  grows : Grows S R.1
  sated : Sated R.1
  below : Below' R.1 V
  count : R.1.nodes.length ≤ S.nodes.length + m
  has : R.1.has R.2
  stays : S.full = true → R.1 = S ∧ R.2 = 0

theorem VOk.weak {S : Sto} {V : Int} {m m' : Nat} {R : Sto × Int} (h : VOk S V m R) (hm : m ≤ m') : VOk S V m' R :=
  { h with count := by have := h.count; omega }
theorem VOk.trans {S : Sto} {V : Int} {m m' : Nat} {R R' : Sto × Int} (h : VOk S V m R) (k : VOk R.1 V m' R') : VOk S V (m + m') R' :=
  ⟨k.wf, h.grows.trans k.grows, k.sated, k.below, by have := h.count; have := k.count; omega, k.has, fun hf => by
    obtain ⟨e1, e2⟩ := h.stays hf
    have e3 := k.stays (by rw [e1]; exact hf)
    exact ⟨e3.1.trans e1, e3.2⟩⟩

theorem iteR_ok {S : Sto} (hW : Wf S) (x y z : Int) : IteOk S (rightOf S x) (rightOf S y) (rightOf S z) (iteR S x y z) :=
  iteN_ok 65 S _ _ _ hW (has_right x) (has_right y) (has_right z) (by
    have g1 := topOf_ge hW (has_right (S := S) x); have g2 := topOf_ge hW (has_right (S := S) y); have g3 := topOf_ge hW (has_right (S := S) z)
    unfold low; omega)
theorem has_zero (S : Sto) : S.has 0 := by unfold Sto.has; omega
theorem has_one (S : Sto) : S.has 1 := by unfold Sto.has; omega
theorem right_has {S : Sto} {x : Int} (h : S.has x) : rightOf S x = x := by
  unfold rightOf; rw [if_neg (by have := h.1; have := h.2; omega)]

theorem iteV_ok {S : Sto} {V : Int} (hW : Wf S) (hs : Sated S) (hb : Below' S V) (hV : 0 ≤ V) (x y z : Int) : VOk S V (2 ^ V.toNat) (iteV S x y z) := by
  unfold iteV madeR
  cases hf : S.full with
  | true => exact ⟨hW, Grows.refl S, hs, hb, by simp, has_zero S, fun _ => ⟨rfl, rfl⟩⟩
  | false =>
    have g1 := topOf_ge hW (has_right (S := S) x); have g2 := topOf_ge hW (has_right (S := S) y); have g3 := topOf_ge hW (has_right (S := S) z)
    have hl0 : 0 ≤ low S (rightOf S x) (rightOf S y) (rightOf S z) := by unfold low; omega
    have O := iteR_ok hW x y z
    have C := iteN_count 65 S _ _ _ V hW (has_right x) (has_right y) (has_right z) (by omega) hb
    have T := iteN_sated 65 S (rightOf S x) (rightOf S y) (rightOf S z) hs
    have hp : 2 ^ (V - low S (rightOf S x) (rightOf S y) (rightOf S z)).toNat ≤ 2 ^ V.toNat := Nat.pow_le_pow_right (by omega) (by omega)
    change Below' (iteR S x y z).1 V ∧ (iteR S x y z).1.nodes.length + 1 ≤ _ at C
    change Sated (iteR S x y z).1 at T
    refine ⟨O.wf, O.grows, T, C.1, by simp only [Bool.false_eq_true, if_false]; omega, ?_, fun h => by rw [hf] at h; cases h⟩
    simp only [Bool.false_eq_true, if_false]
    cases ho : (iteR S x y z).2 with
    | none => exact has_zero _
    | some r => exact (O.has r ho).1
/-- What Ite tells means what it should, if the store is not full. -/
theorem iteV_ev {S : Sto} (hW : Wf S) (x y z : Int) (hf : (iteV S x y z).1.full = false) (β : Int → Bool) :
    ev (iteV S x y z).1 β (iteV S x y z).2 = if ev S β (rightOf S x) then ev S β (rightOf S y) else ev S β (rightOf S z) := by
  have O := iteR_ok hW x y z
  unfold iteV madeR at hf ⊢
  cases hF : S.full with
  | true => rw [hF] at hf; simp [hF] at hf
  | false =>
    rw [hF] at hf
    simp only [Bool.false_eq_true, if_false] at hf ⊢
    cases ho : (iteR S x y z).2 with
    | none => have := (O.full' ho).1; rw [this] at hf; cases hf
    | some r => exact (O.has r ho).2.2 β

theorem varV_ok {S : Sto} {V : Int} (hW : Wf S) (hs : Sated S) (hb : Below' S V) (v : Int) (hv : v < V ∨ 64 ≤ v) : VOk S V 1 (varV S v) := by
  unfold varV
  by_cases h0 : v < 0 ∨ 64 ≤ v
  · rw [if_pos h0]; exact ⟨hW, Grows.refl S, hs, hb, by simp, has_zero S, fun _ => ⟨rfl, rfl⟩⟩
  · rw [if_neg h0]
    unfold madeR
    cases hf : S.full with
    | true => exact ⟨hW, Grows.refl S, hs, hb, by simp, has_zero S, fun _ => ⟨rfl, rfl⟩⟩
    | false =>
      have t0 : topOf S 0 = 64 := topOf_low (by omega)
      have t1 : topOf S 1 = 64 := topOf_low (by omega)
      have M := mkN_ok hW (v := v) (by omega) (by omega) (has_zero S) (has_one S) (by omega) (by omega)
      have B := mkN_below (lo := 0) (hi := 1) hb (v := v) (by omega)
      have T := mkN_sated (v := v) (lo := 0) (hi := 1) hs
      refine ⟨M.wf, M.grows, T, B.1, by simpa using B.2, ?_, fun h => by rw [hf] at h; cases h⟩
      simp only [Bool.false_eq_true, if_false]
      cases ho : (mkN S v 0 1).2 with
      | none => exact has_zero _
      | some r => exact (M.has r ho).1
theorem varV_ev {S : Sto} (hW : Wf S) (v : Int) (hf : (varV S v).1.full = false) (β : Int → Bool) :
    ev (varV S v).1 β (varV S v).2 = if v < 0 ∨ 64 ≤ v then false else β v := by
  unfold varV at hf ⊢
  by_cases h0 : v < 0 ∨ 64 ≤ v
  · rw [if_pos h0, if_pos h0, ev_low _ (by simp)]; rfl
  · rw [if_neg h0, if_neg h0]
    rw [if_neg h0] at hf
    unfold madeR at hf ⊢
    cases hF : S.full with
    | true => rw [hF] at hf; simp [hF] at hf
    | false =>
      rw [hF] at hf
      simp only [Bool.false_eq_true, if_false] at hf ⊢
      have t0 : topOf S 0 = 64 := topOf_low (by omega)
      have t1 : topOf S 1 = 64 := topOf_low (by omega)
      have M := mkN_ok hW (v := v) (by omega) (by omega) (has_zero S) (has_one S) (by omega) (by omega)
      cases ho : (mkN S v 0 1).2 with
      | none => have := (M.full' ho).1; rw [this] at hf; cases hf
      | some r =>
        show ev _ β r = _
        rw [(M.has r ho).2.2 β, ev_low _ (by omega), ev_low _ (by omega)]
        cases β v <;> rfl

def notV (S : Sto) (x : Int) : Sto × Int := iteV S x 0 1
def andV (S : Sto) (x y : Int) : Sto × Int := iteV S x y 0
def orV (S : Sto) (x y : Int) : Sto × Int := iteV S x 1 y
def xorV (S : Sto) (x y : Int) : Sto × Int := iteV (notV S y).1 x (notV S y).2 y

/-- A new store. -/
def newS (cap : Int) : Sto := ⟨cap, [], [], [], false⟩
theorem newS_wf {cap : Int} (h1 : 2 ≤ cap) (h2 : cap ≤ 1048576) : Wf (newS cap) :=
  ⟨h1, h2, by simp [newS]; omega, fun i n hn => by simp [newS] at hn, fun n r => by simp [newS, aget], fun c a b r hr => by simp [newS, aget] at hr⟩
theorem newS_sated (cap : Int) : Sated (newS cap) := fun h => by simp [newS] at h
theorem newS_below (cap V : Int) : Below' (newS cap) V := fun i n hn => by simp [newS] at hn
end Go.Proofs.Ytboekafmplomhaa
