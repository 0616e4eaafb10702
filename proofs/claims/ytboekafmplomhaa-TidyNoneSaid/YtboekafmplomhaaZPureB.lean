/-
  What the store computes, in plain Lean: nodes, Ite; what diagrams mean.
-/
import Derived.Test.YtboekafmplomhaaZStoB
set_option linter.unusedVariables false
set_option linter.unusedSimpArgs false
namespace Go.Proofs.Ytboekafmplomhaa

/-- The node of a variable, a lo and a hi; none: the store is full. -/
def mkN (S : Sto) (v lo hi : Int) : Sto × Option Int :=
  if lo = hi then (S, some lo) else
  match aget S.byn (v, lo, hi) with
  | some r => (S, some r)
  | none => if (S.nodes.length : Int) = S.cap then ({ S with full := true }, none)
    else ({ S with nodes := S.nodes ++ [(v, lo, hi)], byn := aput S.byn (v, lo, hi) (S.nodes.length + 2) }, some (S.nodes.length + 2))

def low (S : Sto) (c a b : Int) : Int := min (min (topOf S c) (topOf S a)) (topOf S b)

/-- Ite; none: the store is full. -/
def iteN : Nat → Sto → Int → Int → Int → Sto × Option Int
  | 0, S, _, _, _ => (S, none)
  | n + 1, S, c, a, b =>
    if c = 1 ∨ a = b then (S, some a) else if c = 0 then (S, some b) else if a = 1 ∧ b = 0 then (S, some c) else
    match aget S.told (c, a, b) with
    | some r => (S, some r)
    | none =>
      match iteN n S (splitOf S c (low S c a b)).1 (splitOf S a (low S c a b)).1 (splitOf S b (low S c a b)).1 with
      | (S1, none) => (S1, none)
      | (S1, some lo) =>
        match iteN n S1 (splitOf S c (low S c a b)).2 (splitOf S a (low S c a b)).2 (splitOf S b (low S c a b)).2 with
        | (S2, none) => (S2, none)
        | (S2, some hi) =>
          match mkN S2 (low S c a b) lo hi with
          | (S3, none) => (S3, none)
          | (S3, some r) => ({ S3 with told := aput S3.told (c, a, b) r }, some r)

/-- What a diagram is under bits. -/
def evN (L : List Nd) (β : Int → Bool) : Nat → Int → Bool
  | 0, a => decide (a = 1)
  | k + 1, a => if a < 2 then decide (a = 1) else match L[(a - 2).toNat]? with
    | none => false
    | some n => evN L β k (if β n.1 then n.2.2 else n.2.1)
def ev (S : Sto) (β : Int → Bool) (a : Int) : Bool := evN S.nodes β a.toNat a

def Sto.has (S : Sto) (a : Int) : Prop := 0 ≤ a ∧ a < S.nodes.length + 2

/-- One store has grown to another one. -/
structure Grows (S S' : Sto) : Prop where
  pre : S.nodes <+: S'.nodes
  cap : S'.cap = S.cap
theorem Grows.refl (S : Sto) : Grows S S := ⟨List.prefix_refl _, rfl⟩
theorem Grows.trans {a b c : Sto} (h : Grows a b) (k : Grows b c) : Grows a c := ⟨h.pre.trans k.pre, k.cap.trans h.cap⟩
theorem Grows.len {S S' : Sto} (h : Grows S S') : S.nodes.length ≤ S'.nodes.length := h.pre.length_le
theorem Grows.at {S S' : Sto} (h : Grows S S') {i : Nat} {n : Nd} (hi : S.nodes[i]? = some n) : S'.nodes[i]? = some n := by
  obtain ⟨l, hl⟩ := h.pre
  rw [← hl, List.getElem?_append_left (List.getElem?_eq_some_iff.1 hi).1]; exact hi
theorem Grows.get {S S' : Sto} (h : Grows S S') {i : Nat} (hi : i < S.nodes.length) : S'.nodes[i]? = S.nodes[i]? := by
  obtain ⟨l, hl⟩ := h.pre
  rw [← hl, List.getElem?_append_left hi]
theorem Grows.has {S S' : Sto} (h : Grows S S') {a : Int} (ha : S.has a) : S'.has a := ⟨ha.1, by have := ha.2; have := h.len; omega⟩
theorem Grows.top {S S' : Sto} (h : Grows S S') {a : Int} (ha : S.has a) : topOf S' a = topOf S a := by
  unfold topOf
  by_cases h2 : a < 2
  · rw [if_pos h2, if_pos h2]
  · rw [if_neg h2, if_neg h2, h.get (by have := ha.2; omega)]
theorem Grows.split {S S' : Sto} (h : Grows S S') {a : Int} (ha : S.has a) {v : Int} (hv : v < 64) : splitOf S' a v = splitOf S a v := by
  unfold splitOf
  rw [h.top ha]
  by_cases hv' : topOf S a = v
  · have h2 : ¬ a < 2 := fun h2 => by unfold topOf at hv'; rw [if_pos h2] at hv'; omega
    rw [if_pos hv', if_pos hv', h.get (by have := ha.2; omega)]
  · rw [if_neg hv', if_neg hv']

/-- A node as it should be. -/
structure NodeOk (S : Sto) (i : Nat) (n : Nd) : Prop where
  v0 : 0 ≤ n.1
  v64 : n.1 < 64
  lo0 : 0 ≤ n.2.1
  lo : n.2.1 < i + 2
  hi0 : 0 ≤ n.2.2
  hi : n.2.2 < i + 2
  ne : n.2.1 ≠ n.2.2
  tlo : n.1 < topOf S n.2.1
  thi : n.1 < topOf S n.2.2

structure Wf (S : Sto) : Prop where
  cap2 : 2 ≤ S.cap
  cap : S.cap ≤ 1048576
  len : (S.nodes.length : Int) ≤ S.cap
  node : ∀ i n, S.nodes[i]? = some n → NodeOk S i n
  byn : ∀ n r, aget S.byn n = some r ↔ ∃ i : Nat, r = i + 2 ∧ S.nodes[i]? = some n
  told : ∀ c a b r, aget S.told (c, a, b) = some r → S.has c ∧ S.has a ∧ S.has b ∧ S.has r ∧ low S c a b ≤ topOf S r ∧ ∀ β, ev S β r = if ev S β c then ev S β a else ev S β b

section
variable {S S' : Sto}
theorem Wf.child (h : Wf S) {i : Nat} {n : Nd} (hn : S.nodes[i]? = some n) : S.has n.2.1 ∧ S.has n.2.2 := by
  have := h.node i n hn
  have hi := (List.getElem?_eq_some_iff.1 hn).1
  exact ⟨⟨this.lo0, by have := this.lo; omega⟩, ⟨this.hi0, by have := this.hi; omega⟩⟩

theorem has_node {a : Int} (ha : S.has a) (h2 : ¬ a < 2) : ∃ (i : Nat) (n : Nd), a = (i : Int) + 2 ∧ S.nodes[i]? = some n := by
  have hi : (a - 2).toNat < S.nodes.length := by have := ha.2; omega
  exact ⟨(a - 2).toNat, S.nodes[(a - 2).toNat], by omega, by simp [hi]⟩

theorem evN_two (L : List Nd) (β : Int → Bool) (k : Nat) {a : Int} (h : a < 2) : evN L β k a = decide (a = 1) := by
  cases k with
  | zero => rfl
  | succ k => simp only [evN, h, if_true]

theorem evN_node {L : List Nd} (β : Int → Bool) (k : Nat) {i : Nat} {n : Nd} (hn : L[i]? = some n) : evN L β (k + 1) ((i : Int) + 2) = if β n.1 then evN L β k n.2.2 else evN L β k n.2.1 := by
  have hi2 : ((i : Int) + 2 - 2).toNat = i := by omega
  have h2 : ¬ ((i : Int) + 2 < 2) := by omega
  simp only [evN, h2, if_false, hi2, hn]
  cases β n.1 <;> rfl
/-- Enough steps are as good as more. -/
theorem evN_self (h : Wf S) (β : Int → Bool) : ∀ (k : Nat) (a : Int), S.has a → a.toNat ≤ k → evN S.nodes β k a = evN S.nodes β a.toNat a := by
  intro k
  induction k using Nat.strongRecOn with
  | _ k ih =>
    intro a ha hk
    by_cases h2 : a < 2
    · rw [evN_two _ _ _ h2, evN_two _ _ _ h2]
    · obtain ⟨i, n, rfl, hn⟩ := has_node ha h2
      have ht : ((i : Int) + 2).toNat = i + 1 + 1 := by omega
      rw [ht] at hk ⊢
      obtain ⟨k, rfl⟩ : ∃ m, k = m + 1 := ⟨k - 1, by omega⟩
      have hc := h.child hn
      have hok := h.node i n hn
      have := hok.lo; have := hok.hi
      by_cases e : k = i + 1
      · rw [e]
      · rw [evN_node β k hn, evN_node β (i + 1) hn, ih k (by omega) _ hc.1 (by omega), ih (i + 1) (by omega) _ hc.1 (by omega), ih k (by omega) _ hc.2 (by omega), ih (i + 1) (by omega) _ hc.2 (by omega)]
/-- A longer list tells the same. -/
theorem evN_more (h : Wf S) (g : Grows S S') (β : Int → Bool) : ∀ (k : Nat) (a : Int), S.has a → evN S'.nodes β k a = evN S.nodes β k a := by
  intro k
  induction k with
  | zero => intro a _; rfl
  | succ k ih =>
    intro a ha
    by_cases h2 : a < 2
    · rw [evN_two _ _ _ h2, evN_two _ _ _ h2]
    · obtain ⟨i, n, rfl, hn⟩ := has_node ha h2
      have hc := h.child hn
      rw [evN_node β k hn, evN_node β k (g.at hn), ih _ hc.1, ih _ hc.2]

theorem ev_grows (h : Wf S) (g : Grows S S') (β : Int → Bool) {a : Int} (ha : S.has a) : ev S' β a = ev S β a := evN_more h g β a.toNat a ha
theorem ev_low (β : Int → Bool) {a : Int} (h : a < 2) : ev S β a = decide (a = 1) := evN_two _ _ _ h
theorem ev_node (h : Wf S) (β : Int → Bool) {i : Nat} {n : Nd} (hn : S.nodes[i]? = some n) : ev S β ((i : Int) + 2) = if β n.1 then ev S β n.2.2 else ev S β n.2.1 := by
  have ht : ((i : Int) + 2).toNat = i + 1 + 1 := by omega
  have hc := h.child hn
  have hok := h.node i n hn
  have := hok.lo; have := hok.hi
  unfold ev
  rw [ht, evN_node β _ hn, evN_self h β (i + 1) _ hc.1 (by omega), evN_self h β (i + 1) _ hc.2 (by omega)]

theorem topOf_low {a : Int} (h : a < 2) : topOf S a = 64 := by unfold topOf; rw [if_pos h]
theorem topOf_le (h : Wf S) {a : Int} (ha : S.has a) : topOf S a ≤ 64 := by
  by_cases h2 : a < 2
  · rw [topOf_low h2]; omega
  · obtain ⟨i, n, rfl, hn⟩ := has_node ha h2
    rw [topOf_node hn]; have := (h.node i n hn).v64; omega
theorem topOf_ge (h : Wf S) {a : Int} (ha : S.has a) : 0 ≤ topOf S a := by
  by_cases h2 : a < 2
  · rw [topOf_low h2]; omega
  · obtain ⟨i, n, rfl, hn⟩ := has_node ha h2
    rw [topOf_node hn]; have := (h.node i n hn).v0; omega
theorem topOf_64 (h : Wf S) {a : Int} (ha : S.has a) (h64 : topOf S a = 64) : a < 2 := by
  by_cases h2 : a < 2
  · exact h2
  · obtain ⟨i, n, rfl, hn⟩ := has_node ha h2
    rw [topOf_node hn] at h64; have := (h.node i n hn).v64; omega

/-- A diagram hangs on no variable ahead of its own. -/
theorem ev_same (h : Wf S) : ∀ (k : Nat) (a : Int), a.toNat ≤ k → S.has a → ∀ (β γ : Int → Bool), (∀ v, topOf S a ≤ v → v < 64 → β v = γ v) → ev S β a = ev S γ a := by
  intro k
  induction k with
  | zero => intro a hk ha β γ _; rw [ev_low _ (by omega), ev_low _ (by omega)]
  | succ k ih =>
    intro a hk ha β γ hb
    by_cases h2 : a < 2
    · rw [ev_low _ h2, ev_low _ h2]
    · obtain ⟨i, n, rfl, hn⟩ := has_node ha h2
      have hc := h.child hn
      have hok := h.node i n hn
      rw [topOf_node hn] at hb
      rw [ev_node h _ hn, ev_node h _ hn, hb n.1 (Int.le_refl _) hok.v64]
      have := hok.lo; have := hok.hi
      rw [ih n.2.1 (by omega) hc.1 β γ (fun v hv => hb v (by have := hok.tlo; omega)), ih n.2.2 (by omega) hc.2 β γ (fun v hv => hb v (by have := hok.thi; omega))]

/-- The two halves of a diagram. -/
theorem split_ok (h : Wf S) {a : Int} (ha : S.has a) {v : Int} (hv : v ≤ topOf S a) (hv64 : v < 64) :
    S.has (splitOf S a v).1 ∧ S.has (splitOf S a v).2 ∧ v < topOf S (splitOf S a v).1 ∧ v < topOf S (splitOf S a v).2 ∧
    ∀ β, ev S β a = if β v then ev S β (splitOf S a v).2 else ev S β (splitOf S a v).1 := by
  unfold splitOf
  by_cases e : topOf S a = v
  · have h2 : ¬ a < 2 := fun h2 => by rw [topOf_low h2] at e; omega
    obtain ⟨i, n, rfl, hn⟩ := has_node ha h2
    have hi2 : ((i : Int) + 2 - 2).toNat = i := by omega
    have hc := h.child hn
    have hok := h.node i n hn
    rw [topOf_node hn] at e
    subst e
    simp only [topOf_node hn, if_true, hi2, hn, Option.getD_some]
    exact ⟨hc.1, hc.2, hok.tlo, hok.thi, fun β => ev_node h β hn⟩
  · rw [if_neg e]
    exact ⟨ha, ha, by show v < topOf S a; omega, by show v < topOf S a; omega, fun β => by simp⟩

/-- Two diagrams that mean the same are one. -/
theorem canon (h : Wf S) : ∀ (k : Nat) (a b : Int), a < k → b < k → S.has a → S.has b → (∀ β, ev S β a = ev S β b) → a = b := by
  intro k
  induction k with
  | zero => intro a b hk _ ha hb _; have := ha.1; omega
  | succ k ih =>
    intro a b hka hkb ha hb he
    have big : ∀ (a b : Int), a < (k + 1 : Nat) → S.has a → S.has b → (∀ β, ev S β a = ev S β b) → topOf S a < topOf S b → False := by
      intro a b hk ha hb he ht
      have h2 : ¬ a < 2 := fun h2 => by rw [topOf_low h2] at ht; have := topOf_le h hb; omega
      obtain ⟨i, n, rfl, hn⟩ := has_node ha h2
      have hc := h.child hn
      have hok := h.node i n hn
      rw [topOf_node hn] at ht
      have hlo := hok.lo; have hhi := hok.hi
      refine hok.ne (ih _ _ (by omega) (by omega) hc.1 hc.2 (fun β => ?_))
      have e1 : ev S β n.2.1 = ev S (fun v => if v = n.1 then false else β v) ((i : Int) + 2) := by
        rw [ev_node h _ hn]; simp
        exact ev_same h _ _ (Nat.le_refl _) hc.1 _ _ (fun v hv _ => by
          have : v ≠ n.1 := by have := hok.tlo; omega
          simp [this])
      have e2 : ev S β n.2.2 = ev S (fun v => if v = n.1 then true else β v) ((i : Int) + 2) := by
        rw [ev_node h _ hn]; simp
        exact ev_same h _ _ (Nat.le_refl _) hc.2 _ _ (fun v hv _ => by
          have : v ≠ n.1 := by have := hok.thi; omega
          simp [this])
      rw [e1, e2, he, he]
      exact ev_same h _ _ (Nat.le_refl _) hb _ _ (fun v hv _ => by
        have : v ≠ n.1 := by omega
        simp [this])
    rcases Int.lt_trichotomy (topOf S a) (topOf S b) with ht | ht | ht
    · exact (big a b hka ha hb he ht).elim
    · by_cases h2 : a < 2
      · have hb2 : b < 2 := topOf_64 h hb (by rw [← ht, topOf_low h2])
        have := he (fun _ => false)
        rw [ev_low _ h2, ev_low _ hb2] at this
        have h1 := ha.1; have h3 := hb.1
        simp at this
        omega
      · have hb2 : ¬ b < 2 := fun hb2 => h2 (topOf_64 h ha (by rw [ht, topOf_low hb2]))
        obtain ⟨i, n, rfl, hn⟩ := has_node ha h2
        obtain ⟨j, m, rfl, hm⟩ := has_node hb hb2
        have hc := h.child hn
        have hok := h.node i n hn
        have hd := h.child hm
        have hom := h.node j m hm
        rw [topOf_node hn, topOf_node hm] at ht
        have hlo := hok.lo; have hhi := hok.hi; have hlo' := hom.lo; have hhi' := hom.hi
        have key : ∀ (t : Bool) (x y : Int), S.has x → S.has y → n.1 < topOf S x → n.1 < topOf S y → x < k → y < k →
            (∀ β : Int → Bool, β n.1 = t → ev S β x = ev S β y) → x = y := fun t x y hx hy tx ty lx ly hxy =>
          ih x y lx ly hx hy (fun β => by
            have e1 : ∀ z, S.has z → n.1 < topOf S z → ev S β z = ev S (fun v => if v = n.1 then t else β v) z := fun z hz tz =>
              ev_same h _ _ (Nat.le_refl _) hz _ _ (fun v hv _ => by
                have : v ≠ n.1 := by omega
                simp [this])
            rw [e1 x hx tx, e1 y hy ty]
            exact hxy _ (by simp))
        have el : n.2.1 = m.2.1 := key false _ _ hc.1 hd.1 hok.tlo (by have := hom.tlo; omega) (by omega) (by omega) (fun β hβ => by
          have := he β
          rw [ev_node h _ hn, ev_node h _ hm, ← ht, hβ] at this
          simpa using this)
        have eh : n.2.2 = m.2.2 := key true _ _ hc.2 hd.2 hok.thi (by have := hom.thi; omega) (by omega) (by omega) (fun β hβ => by
          have := he β
          rw [ev_node h _ hn, ev_node h _ hm, ← ht, hβ] at this
          simpa using this)
        have enm : n = m := by
          obtain ⟨n1, n2, n3⟩ := n; obtain ⟨m1, m2, m3⟩ := m
          simp only at ht el eh; subst ht el eh; rfl
        subst enm
        have q1 := (h.byn n ((i : Int) + 2)).2 ⟨i, rfl, hn⟩
        have q2 := (h.byn n ((j : Int) + 2)).2 ⟨j, rfl, hm⟩
        rw [q1] at q2
        simpa using q2
    · exact (big b a hkb hb ha (fun β => (he β).symm) ht).elim
theorem ev_eq (h : Wf S) {a b : Int} (ha : S.has a) (hb : S.has b) : (∀ β, ev S β a = ev S β b) ↔ a = b :=
  ⟨canon h (S.nodes.length + 2) a b (by have := ha.2; omega) (by have := hb.2; omega) ha hb, fun e _ => by rw [e]⟩
end
end Go.Proofs.Ytboekafmplomhaa
set_option linter.unusedVariables false
set_option linter.unusedSimpArgs false
namespace Go.Proofs.Ytboekafmplomhaa

section
variable {S S' : Sto}
theorem Grows.low (g : Grows S S') {c a b : Int} (hc : S.has c) (ha : S.has a) (hb : S.has b) : low S' c a b = low S c a b := by
  unfold Go.Proofs.Ytboekafmplomhaa.low; rw [g.top hc, g.top ha, g.top hb]

/-- What a node's making keeps, and gives. -/
structure MkOk (S : Sto) (v lo hi : Int) (R : Sto × Option Int) : Prop where
  wf : Wf R.1
  grows : Grows S R.1
  toldSame : R.1.told = S.told
  full : R.2.isSome = true → R.1.full = S.full
  full' : R.2 = none → R.1.full = true ∧ R.1.nodes = S.nodes
  has : ∀ r, R.2 = some r → R.1.has r ∧ v ≤ topOf R.1 r ∧ ∀ β, ev R.1 β r = if β v then ev S β hi else ev S β lo

theorem told_grows {T : List (Nd × Int)} (h : Wf S) (g : Grows S S') (ht : ∀ c a b r, aget T (c, a, b) = some r → S.has c ∧ S.has a ∧ S.has b ∧ S.has r ∧ low S c a b ≤ topOf S r ∧ ∀ β, ev S β r = if ev S β c then ev S β a else ev S β b) :
    ∀ c a b r, aget T (c, a, b) = some r → S'.has c ∧ S'.has a ∧ S'.has b ∧ S'.has r ∧ low S' c a b ≤ topOf S' r ∧ ∀ β, ev S' β r = if ev S' β c then ev S' β a else ev S' β b := by
  intro c a b r hr
  obtain ⟨h1, h2, h3, h4, h5, h6⟩ := ht c a b r hr
  refine ⟨g.has h1, g.has h2, g.has h3, g.has h4, by rw [g.low h1 h2 h3, g.top h4]; exact h5, fun β => ?_⟩
  rw [ev_grows h g β h1, ev_grows h g β h2, ev_grows h g β h3, ev_grows h g β h4]; exact h6 β

theorem mkN_ok (h : Wf S) {v lo hi : Int} (v0 : 0 ≤ v) (v64 : v < 64) (hlo : S.has lo) (hhi : S.has hi) (tlo : v < topOf S lo) (thi : v < topOf S hi) : MkOk S v lo hi (mkN S v lo hi) := by
  unfold mkN
  by_cases e : lo = hi
  · rw [if_pos e]
    subst e
    exact ⟨h, Grows.refl S, rfl, fun _ => rfl, fun h => by simp at h, fun r hr => by cases hr; exact ⟨hlo, Int.le_of_lt tlo, fun β => by simp⟩⟩
  · rw [if_neg e]
    cases hr : aget S.byn (v, lo, hi) with
    | some r =>
      obtain ⟨i, rfl, hn⟩ := (h.byn _ _).1 hr
      have hi' := (List.getElem?_eq_some_iff.1 hn).1
      simp only
      refine ⟨h, Grows.refl S, rfl, fun _ => rfl, fun h => by simp at h, fun r hr => by
        cases hr
        refine ⟨⟨by omega, by show (i : Int) + 2 < S.nodes.length + 2; omega⟩, by rw [topOf_node hn]; exact Int.le_refl _, fun β => ev_node h β hn⟩⟩
    | none =>
      by_cases hl : (S.nodes.length : Int) = S.cap
      · rw [if_pos hl]
        simp only
        have g : Grows S { S with full := true } := ⟨List.prefix_refl _, rfl⟩
        refine ⟨⟨h.cap2, h.cap, h.len, fun i n hn => ?_, h.byn, told_grows h g h.told⟩, ⟨List.prefix_refl _, rfl⟩, rfl, fun h => by simp at h, fun _ => ⟨rfl, rfl⟩, fun r hr => by cases hr⟩
        have hok := h.node i n hn
        exact ⟨hok.v0, hok.v64, hok.lo0, hok.lo, hok.hi0, hok.hi, hok.ne, hok.tlo, hok.thi⟩
      · rw [if_neg hl]
        simp only
        have g : Grows S { S with nodes := S.nodes ++ [(v, lo, hi)], byn := aput S.byn (v, lo, hi) (S.nodes.length + 2) } := ⟨List.prefix_append _ _, rfl⟩
        have hlast : (S.nodes ++ [(v, lo, hi)])[S.nodes.length]? = some (v, lo, hi) := by simp
        have hnodes : ∀ i n, (S.nodes ++ [(v, lo, hi)])[i]? = some n → (S.nodes[i]? = some n) ∨ (i = S.nodes.length ∧ n = (v, lo, hi)) := fun i n hn => by
          rcases Nat.lt_or_ge i S.nodes.length with hlt | hge
          · rw [List.getElem?_append_left hlt] at hn; exact .inl hn
          · rw [List.getElem?_append_right hge] at hn
            cases hj : i - S.nodes.length with
            | zero => rw [hj] at hn; simp at hn; exact .inr ⟨by omega, hn.symm⟩
            | succ j => rw [hj] at hn; simp at hn
        have wf : Wf { S with nodes := S.nodes ++ [(v, lo, hi)], byn := aput S.byn (v, lo, hi) (S.nodes.length + 2) } := by
          refine ⟨h.cap2, h.cap, ?_, ?_, ?_, told_grows h g h.told⟩
          · have := h.len; simp; omega
          · intro i n hn
            rcases hnodes i n hn with hn' | ⟨rfl, rfl⟩
            · have hc := h.child hn'
              have hok := h.node i n hn'
              exact ⟨hok.v0, hok.v64, hok.lo0, hok.lo, hok.hi0, hok.hi, hok.ne, by rw [g.top hc.1]; exact hok.tlo, by rw [g.top hc.2]; exact hok.thi⟩
            · exact ⟨v0, v64, hlo.1, hlo.2, hhi.1, hhi.2, e, by rw [g.top hlo]; exact tlo, by rw [g.top hhi]; exact thi⟩
          · intro n r
            show aget (aput S.byn (v, lo, hi) (S.nodes.length + 2)) n = some r ↔ ∃ i : Nat, r = i + 2 ∧ (S.nodes ++ [(v, lo, hi)])[i]? = some n
            rw [aget_aput]
            by_cases en : (v, lo, hi) = n
            · rw [if_pos en]
              subst en
              constructor
              · intro hr'
                cases hr'
                exact ⟨S.nodes.length, rfl, hlast⟩
              · rintro ⟨i, rfl, hn⟩
                rcases hnodes i _ hn with hn' | ⟨rfl, _⟩
                · have := (h.byn (v, lo, hi) (i + 2)).2 ⟨i, rfl, hn'⟩
                  rw [hr] at this; cases this
                · rfl
            · rw [if_neg en, h.byn]
              constructor
              · rintro ⟨i, rfl, hn⟩; exact ⟨i, rfl, g.at hn⟩
              · rintro ⟨i, rfl, hn⟩
                rcases hnodes i _ hn with hn' | ⟨_, hn'⟩
                · exact ⟨i, rfl, hn'⟩
                · exact (en hn'.symm).elim
        refine ⟨wf, g, rfl, fun _ => rfl, fun h => by simp at h, fun r hr' => ?_⟩
        cases hr'
        refine ⟨⟨by omega, by simp; omega⟩, by rw [topOf_node hlast]; exact Int.le_refl _, fun β => ?_⟩
        rw [ev_node wf β hlast]
        rw [ev_grows h g β hlo, ev_grows h g β hhi]

structure IteOk (S : Sto) (c a b : Int) (R : Sto × Option Int) : Prop where
  wf : Wf R.1
  grows : Grows S R.1
  full : R.2.isSome = true → R.1.full = S.full
  full' : R.2 = none → R.1.full = true ∧ (R.1.nodes.length : Int) = R.1.cap
  has : ∀ r, R.2 = some r → R.1.has r ∧ low S c a b ≤ topOf R.1 r ∧ ∀ β, ev R.1 β r = if ev S β c then ev S β a else ev S β b

theorem low_le (S : Sto) (c a b : Int) : low S c a b ≤ topOf S c ∧ low S c a b ≤ topOf S a ∧ low S c a b ≤ topOf S b := by
  unfold low; omega
theorem lt_low {c a b v : Int} (h1 : v < topOf S c) (h2 : v < topOf S a) (h3 : v < topOf S b) : v < low S c a b := by
  unfold low; omega

theorem mkN_none_len {v lo hi : Int} (h : (mkN S v lo hi).2 = none) : (S.nodes.length : Int) = S.cap := by
  unfold mkN at h
  by_cases e : lo = hi
  · rw [if_pos e] at h; simp at h
  · rw [if_neg e] at h
    cases hr : aget S.byn (v, lo, hi) with
    | some r => rw [hr] at h; simp at h
    | none =>
      rw [hr] at h
      simp only at h
      by_cases hl : (S.nodes.length : Int) = S.cap
      · exact hl
      · rw [if_neg hl] at h; simp at h

theorem iteN_ok : ∀ (n : Nat) (S : Sto) (c a b : Int), Wf S → S.has c → S.has a → S.has b → 64 - low S c a b < n → IteOk S c a b (iteN n S c a b) := by
  intro n
  induction n with
  | zero => intro S c a b h hc ha hb hn; have := (low_le S c a b).1; have := topOf_le h hc; omega
  | succ n ih =>
    intro S c a b h hc ha hb hn
    obtain ⟨l1, l2, l3⟩ := low_le S c a b
    unfold iteN
    by_cases e1 : c = 1 ∨ a = b
    · rw [if_pos e1]
      refine ⟨h, Grows.refl S, fun _ => rfl, fun h => by simp at h, fun r hr => ?_⟩
      cases hr
      refine ⟨ha, l2, fun β => ?_⟩
      rcases e1 with rfl | rfl
      · rw [ev_low (a := 1) β (by omega)]; simp
      · simp
    · rw [if_neg e1]
      by_cases e2 : c = 0
      · rw [if_pos e2]
        subst e2
        refine ⟨h, Grows.refl S, fun _ => rfl, fun h => by simp at h, fun r hr => ?_⟩
        cases hr
        exact ⟨hb, l3, fun β => by rw [ev_low (a := 0) β (by omega)]; simp⟩
      · rw [if_neg e2]
        by_cases e3 : a = 1 ∧ b = 0
        · rw [if_pos e3]
          obtain ⟨rfl, rfl⟩ := e3
          refine ⟨h, Grows.refl S, fun _ => rfl, fun h => by simp at h, fun r hr => ?_⟩
          cases hr
          refine ⟨hc, l1, fun β => by rw [ev_low (a := 0) β (by omega), ev_low (a := 1) β (by omega)]; cases ev S β c <;> simp⟩
        · rw [if_neg e3]
          cases ht : aget S.told (c, a, b) with
          | some r =>
            obtain ⟨_, _, _, g4, g5, g6⟩ := h.told c a b r ht
            refine ⟨h, Grows.refl S, fun _ => rfl, fun h => by simp at h, fun r hr => ?_⟩
            cases hr
            exact ⟨g4, g5, g6⟩
          | none =>
            -- the cut
            have hl0 : 0 ≤ low S c a b := by
              have := topOf_ge h hc; have := topOf_ge h ha; have := topOf_ge h hb
              unfold low; omega
            have hl64 : low S c a b < 64 := by
              have hc2 : ¬ c < 2 := fun h2 => by have := hc.1; simp at e1; omega
              obtain ⟨i, m, rfl, hm⟩ := has_node hc hc2
              rw [topOf_node hm] at l1
              have := (h.node i m hm).v64; omega
            generalize hv : low S c a b = v at *
            obtain ⟨c1, c2, c3, c4, c5⟩ := split_ok h hc l1 hl64
            obtain ⟨a1, a2, a3, a4, a5⟩ := split_ok h ha l2 hl64
            obtain ⟨b1, b2, b3, b4, b5⟩ := split_ok h hb l3 hl64
            have I1 := ih S _ _ _ h c1 a1 b1 (by have := lt_low c3 a3 b3; omega)
            have hlow1 := lt_low c3 a3 b3
            have hlow2 := lt_low c4 a4 b4
            generalize hR1 : iteN n S (splitOf S c v).1 (splitOf S a v).1 (splitOf S b v).1 = R1 at I1
            obtain ⟨S1, o1⟩ := R1
            cases o1 with
            | none =>
              exact ⟨I1.wf, I1.grows, fun h => by simp at h, fun _ => I1.full' rfl, fun r hr => by simp at hr⟩
            | some lo =>
              obtain ⟨k1, k2, k3⟩ := I1.has lo rfl
              have g1 := I1.grows
              have I2 := ih S1 _ _ _ I1.wf (g1.has c2) (g1.has a2) (g1.has b2) (by rw [g1.low c2 a2 b2]; omega)
              simp only
              generalize hR2 : iteN n S1 (splitOf S c v).2 (splitOf S a v).2 (splitOf S b v).2 = R2 at I2
              obtain ⟨S2, o2⟩ := R2
              cases o2 with
              | none =>
                exact ⟨I2.wf, g1.trans I2.grows, fun h => by simp at h, fun _ => I2.full' rfl, fun r hr => by simp at hr⟩
              | some hi =>
                obtain ⟨j1, j2, j3⟩ := I2.has hi rfl
                have g2 := I2.grows
                simp only
                have M := mkN_ok I2.wf hl0 hl64 (g2.has k1) j1 (by rw [g2.top k1]; simp only at k2; omega) (by rw [g1.low c2 a2 b2] at j2; simp only at j2 ⊢; omega)
                have hnl := @mkN_none_len S2 v lo hi
                generalize hR3 : mkN S2 v lo hi = R3 at M hnl
                obtain ⟨S3, o3⟩ := R3
                cases o3 with
                | none =>
                  refine ⟨M.wf, g1.trans (g2.trans M.grows), fun h => by simp at h, fun _ => ⟨(M.full' rfl).1, ?_⟩, fun r hr => by simp at hr⟩
                  have e1 := (M.full' rfl).2
                  have e2 := M.grows.cap
                  simp only at e1 e2 ⊢
                  rw [e1, e2]; exact hnl rfl
                | some r =>
                  obtain ⟨q1, q2, q3⟩ := M.has r rfl
                  have g3 := M.grows
                  have G := g1.trans (g2.trans g3)
                  simp only at k3 j3 q3
                  have hev : ∀ β, ev S3 β r = if ev S β c then ev S β a else ev S β b := fun β => by
                    rw [q3 β, c5 β, a5 β, b5 β]
                    rw [j3 β, ev_grows I1.wf g2 β k1, k3 β]
                    rw [ev_grows h g1 β c2, ev_grows h g1 β a2, ev_grows h g1 β b2]
                    cases β v <;> simp
                  have Gt : Grows S { S3 with told := aput S3.told (c, a, b) r } := ⟨G.pre, G.cap⟩
                  simp only
                  refine ⟨⟨M.wf.cap2, M.wf.cap, M.wf.len, fun i n hn => (by have hok := M.wf.node i n hn; exact ⟨hok.v0, hok.v64, hok.lo0, hok.lo, hok.hi0, hok.hi, hok.ne, hok.tlo, hok.thi⟩), M.wf.byn, ?_⟩, Gt, fun _ => ?_, fun h => by simp at h, fun r' hr' => ?_⟩
                  · intro c' a' b' r' hr'
                    simp only [aget_aput] at hr'
                    by_cases ek : (c, a, b) = (c', a', b')
                    · rw [if_pos ek] at hr'
                      cases ek; cases hr'
                      refine ⟨G.has hc, G.has ha, G.has hb, q1, ?_, fun β => ?_⟩
                      · show low S3 c a b ≤ topOf S3 r
                        rw [G.low hc ha hb, hv]; exact q2
                      · show ev S3 β r = if ev S3 β c then ev S3 β a else ev S3 β b
                        rw [hev, ev_grows h G β hc, ev_grows h G β ha, ev_grows h G β hb]
                    · rw [if_neg ek] at hr'
                      exact M.wf.told c' a' b' r' hr'
                  · have x1 := M.full rfl; have x2 := I2.full rfl; have x3 := I1.full rfl
                    simp only at x1 x2 x3 ⊢
                    rw [x1, x2, x3]
                  · cases hr'
                    exact ⟨q1, by rw [hv]; exact q2, hev⟩
end
end Go.Proofs.Ytboekafmplomhaa
