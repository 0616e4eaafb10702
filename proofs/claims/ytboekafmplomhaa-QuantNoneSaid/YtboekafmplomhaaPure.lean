/-
  What the store computes, in plain Lean: nodes, Ite; what diagrams mean.
-/
import Derived.Test.YtboekafmplomhaaStoB
set_option linter.unusedVariables false
set_option linter.unusedSimpArgs false
namespace Go.Proofs.Ytboekafmplomhaa

/-- The node of a variable, a lo and a hi; none: the store is full. -/
def mkN (S : Sto) (v lo hi : Int) : Sto × Option Int :=
  if lo = hi then (S, some lo) else
  match aget S.byn (v, lo, hi) with
  | some r => (S, some r)
  | none => if (S.nodes.length : Int) = S.cap then ({ S with full := true }, none)
    else ({ S with nodes := S.nodes ++ [(v, lo, hi)], byn := aput S.byn (v, lo, hi) (S.nodes.length + 2) }, some (S.nodes.length + 2))

def low (S : Sto) (c a b : Int) : Int := min (min (topOf S c) (topOf S a)) (topOf S b)

/-- Ite; none: the store is full. -/
def iteN : Nat → Sto → Int → Int → Int → Sto × Option Int
  | 0, S, _, _, _ => (S, none)
  | n + 1, S, c, a, b =>
    if c = 1 ∨ a = b then (S, some a) else if c = 0 then (S, some b) else if a = 1 ∧ b = 0 then (S, some c) else
    match aget S.told (c, a, b) with
    | some r => (S, some r)
    | none =>
      match iteN n S (splitOf S c (low S c a b)).1 (splitOf S a (low S c a b)).1 (splitOf S b (low S c a b)).1 with
      | (S1, none) => (S1, none)
      | (S1, some lo) =>
        match iteN n S1 (splitOf S c (low S c a b)).2 (splitOf S a (low S c a b)).2 (splitOf S b (low S c a b)).2 with
        | (S2, none) => (S2, none)
        | (S2, some hi) =>
          match mkN S2 (low S c a b) lo hi with
          | (S3, none) => (S3, none)
          | (S3, some r) => ({ S3 with told := aput S3.told (c, a, b) r }, some r)

/-- What a diagram is under bits. -/
def evN (L : List Nd) (β : Int → Bool) : Nat → Int → Bool
  | 0, a => decide (a = 1)
  | k + 1, a => if a < 2 then decide (a = 1) else match L[(a - 2).toNat]? with
    | none => false
    | some n => evN L β k (if β n.1 then n.2.2 else n.2.1)
def ev (S : Sto) (β : Int → Bool) (a : Int) : Bool := evN S.nodes β a.toNat a

def Sto.has (S : Sto) (a : Int) : Prop := 0 ≤ a ∧ a < S.nodes.length + 2

/-- One store has grown to another one. -/
structure Grows (S S' : Sto) : Prop where
  pre : S.nodes <+: S'.nodes
  cap : S'.cap = S.cap
theorem Grows.refl (S : Sto) : Grows S S := ⟨List.prefix_refl _, rfl⟩
theorem Grows.trans {a b c : Sto} (h : Grows a b) (k : Grows b c) : Grows a c := ⟨h.pre.trans k.pre, k.cap.trans h.cap⟩
theorem Grows.len {S S' : Sto} (h : Grows S S') : S.nodes.length ≤ S'.nodes.length := h.pre.length_le
theorem Grows.at {S S' : Sto} (h : Grows S S') {i : Nat} {n : Nd} (hi : S.nodes[i]? = some n) : S'.nodes[i]? = some n := by
  obtain ⟨l, hl⟩ := h.pre
  rw [← hl, List.getElem?_append_left (List.getElem?_eq_some_iff.1 hi).1]; exact hi
theorem Grows.get {S S' : Sto} (h : Grows S S') {i : Nat} (hi : i < S.nodes.length) : S'.nodes[i]? = S.nodes[i]? := by
  obtain ⟨l, hl⟩ := h.pre
  rw [← hl, List.getElem?_append_left hi]
theorem Grows.has {S S' : Sto} (h : Grows S S') {a : Int} (ha : S.has a) : S'.has a := ⟨ha.1, by have := ha.2; have := h.len; omega⟩
theorem Grows.top {S S' : Sto} (h : Grows S S') {a : Int} (ha : S.has a) : topOf S' a = topOf S a := by
  unfold topOf
  by_cases h2 : a < 2
  · rw [if_pos h2, if_pos h2]
  · rw [if_neg h2, if_neg h2, h.get (by have := ha.2; omega)]
theorem Grows.split {S S' : Sto} (h : Grows S S') {a : Int} (ha : S.has a) {v : Int} (hv : v < 64) : splitOf S' a v = splitOf S a v := by
  unfold splitOf
  rw [h.top ha]
  by_cases hv' : topOf S a = v
  · have h2 : ¬ a < 2 := fun h2 => by unfold topOf at hv'; rw [if_pos h2] at hv'; omega
    rw [if_pos hv', if_pos hv', h.get (by have := ha.2; omega)]
  · rw [if_neg hv', if_neg hv']

/-- A node as it should be. -/
structure NodeOk (S : Sto) (i : Nat) (n : Nd) : Prop where
  v0 : 0 ≤ n.1
  v64 : n.1 < 64
  lo0 : 0 ≤ n.2.1
  lo : n.2.1 < i + 2
  hi0 : 0 ≤ n.2.2
  hi : n.2.2 < i + 2
  ne : n.2.1 ≠ n.2.2
  tlo : n.1 < topOf S n.2.1
  thi : n.1 < topOf S n.2.2

structure Wf (S : Sto) : Prop where
  cap2 : 2 ≤ S.cap
  cap : S.cap ≤ 1048576
  len : (S.nodes.length : Int) ≤ S.cap
  node : ∀ i n, S.nodes[i]? = some n → NodeOk S i n
  byn : ∀ n r, aget S.byn n = some r ↔ ∃ i : Nat, r = i + 2 ∧ S.nodes[i]? = some n
  told : ∀ c a b r, aget S.told (c, a, b) = some r → S.has c ∧ S.has a ∧ S.has b ∧ S.has r ∧ low S c a b ≤ topOf S r ∧ ∀ β, ev S β r = if ev S β c then ev S β a else ev S β b

section
variable {S S' : Sto}
theorem Wf.child (h : Wf S) {i : Nat} {n : Nd} (hn : S.nodes[i]? = some n) : S.has n.2.1 ∧ S.has n.2.2 := by
  have := h.node i n hn
  have hi := (List.getElem?_eq_some_iff.1 hn).1
  exact ⟨⟨this.lo0, by have := this.lo; omega⟩, ⟨this.hi0, by have := this.hi; omega⟩⟩

theorem has_node {a : Int} (ha : S.has a) (h2 : ¬ a < 2) : ∃ (i : Nat) (n : Nd), a = (i : Int) + 2 ∧ S.nodes[i]? = some n := by
  have hi : (a - 2).toNat < S.nodes.length := by have := ha.2; omega
  exact ⟨(a - 2).toNat, S.nodes[(a - 2).toNat], by omega, by simp [hi]⟩

theorem evN_two (L : List Nd) (β : Int → Bool) (k : Nat) {a : Int} (h : a < 2) : evN L β k a = decide (a = 1) := by
  cases k with
  | zero => rfl
  | succ k => simp only [evN, h, if_true]

theorem evN_node {L : List Nd} (β : Int → Bool) (k : Nat) {i : Nat} {n : Nd} (hn : L[i]? = some n) : evN L β (k + 1) ((i : Int) + 2) = if β n.1 then evN L β k n.2.2 else evN L β k n.2.1 := by
  have hi2 : ((i : Int) + 2 - 2).toNat = i := by omega
  have h2 : ¬ ((i : Int) + 2 < 2) := by omega
  simp only [evN, h2, if_false, hi2, hn]
  cases β n.1 <;> rfl
/-- Enough steps are as good as more. -/
theorem evN_self (h : Wf S) (β : Int → Bool) : ∀ (k : Nat) (a : Int), S.has a → a.toNat ≤ k → evN S.nodes β k a = evN S.nodes β a.toNat a := by
  intro k
  induction k using Nat.strongRecOn with
  | _ k ih =>
    intro a ha hk
    by_cases h2 : a < 2
    · rw [evN_two _ _ _ h2, evN_two _ _ _ h2]
    · obtain ⟨i, n, rfl, hn⟩ := has_node ha h2
      have ht : ((i : Int) + 2).toNat = i + 1 + 1 := by omega
      rw [ht] at hk ⊢
      obtain ⟨k, rfl⟩ : ∃ m, k = m + 1 := ⟨k - 1, by omega⟩
      have hc := h.child hn
      have hok := h.node i n hn
      have := hok.lo; have := hok.hi
      by_cases e : k = i + 1
      · rw [e]
      · rw [evN_node β k hn, evN_node β (i + 1) hn, ih k (by omega) _ hc.1 (by omega), ih (i + 1) (by omega) _ hc.1 (by omega), ih k (by omega) _ hc.2 (by omega), ih (i + 1) (by omega) _ hc.2 (by omega)]
/-- A longer list tells the same. -/
theorem evN_more (h : Wf S) (g : Grows S S') (β : Int → Bool) : ∀ (k : Nat) (a : Int), S.has a → evN S'.nodes β k a = evN S.nodes β k a := by
  intro k
  induction k with
  | zero => intro a _; rfl
  | succ k ih =>
    intro a ha
    by_cases h2 : a < 2
    · rw [evN_two _ _ _ h2, evN_two _ _ _ h2]
    · obtain ⟨i, n, rfl, hn⟩ := has_node ha h2
      have hc := h.child hn
      rw [evN_node β k hn, evN_node β k (g.at hn), ih _ hc.1, ih _ hc.2]

theorem ev_grows (h : Wf S) (g : Grows S S') (β : Int → Bool) {a : Int} (ha : S.has a) : ev S' β a = ev S β a := evN_more h g β a.toNat a ha
theorem ev_low (β : Int → Bool) {a : Int} (h : a < 2) : ev S β a = decide (a = 1) := evN_two _ _ _ h
theorem ev_node (h : Wf S) (β : Int → Bool) {i : Nat} {n : Nd} (hn : S.nodes[i]? = some n) : ev S β ((i : Int) + 2) = if β n.1 then ev S β n.2.2 else ev S β n.2.1 := by
  have ht : ((i : Int) + 2).toNat = i + 1 + 1 := by omega
  have hc := h.child hn
  have hok := h.node i n hn
  have := hok.lo; have := hok.hi
  unfold ev
  rw [ht, evN_node β _ hn, evN_self h β (i + 1) _ hc.1 (by omega), evN_self h β (i + 1) _ hc.2 (by omega)]

theorem topOf_low {a : Int} (h : a < 2) : topOf S a = 64 := by unfold topOf; rw [if_pos h]
theorem topOf_le (h : Wf S) {a : Int} (ha : S.has a) : topOf S a ≤ 64 := by
  by_cases h2 : a < 2
  · rw [topOf_low h2]; omega
  · obtain ⟨i, n, rfl, hn⟩ := has_node ha h2
    rw [topOf_node hn]; have := (h.node i n hn).v64; omega
theorem topOf_ge (h : Wf S) {a : Int} (ha : S.has a) : 0 ≤ topOf S a := by
  by_cases h2 : a < 2
  · rw [topOf_low h2]; omega
  · obtain ⟨i, n, rfl, hn⟩ := has_node ha h2
    rw [topOf_node hn]; have := (h.node i n hn).v0; omega
theorem topOf_64 (h : Wf S) {a : Int} (ha : S.has a) (h64 : topOf S a = 64) : a < 2 := by
  by_cases h2 : a < 2
  · exact h2
  · obtain ⟨i, n, rfl, hn⟩ := has_node ha h2
    rw [topOf_node hn] at h64; have := (h.node i n hn).v64; omega

/-- A diagram hangs on no variable ahead of its own. -/
theorem ev_same (h : Wf S) : ∀ (k : Nat) (a : Int), a.toNat ≤ k → S.has a → ∀ (β γ : Int → Bool), (∀ v, topOf S a ≤ v → v < 64 → β v = γ v) → ev S β a = ev S γ a := by
  intro k
  induction k with
  | zero => intro a hk ha β γ _; rw [ev_low _ (by omega), ev_low _ (by omega)]
  | succ k ih =>
    intro a hk ha β γ hb
    by_cases h2 : a < 2
    · rw [ev_low _ h2, ev_low _ h2]
    · obtain ⟨i, n, rfl, hn⟩ := has_node ha h2
      have hc := h.child hn
      have hok := h.node i n hn
      rw [topOf_node hn] at hb
      rw [ev_node h _ hn, ev_node h _ hn, hb n.1 (Int.le_refl _) hok.v64]
      have := hok.lo; have := hok.hi
      rw [ih n.2.1 (by omega) hc.1 β γ (fun v hv => hb v (by have := hok.tlo; omega)), ih n.2.2 (by omega) hc.2 β γ (fun v hv => hb v (by have := hok.thi; omega))]

/-- The two halves of a diagram. -/
theorem split_ok (h : Wf S) {a : Int} (ha : S.has a) {v : Int} (hv : v ≤ topOf S a) (hv64 : v < 64) :
    S.has (splitOf S a v).1 ∧ S.has (splitOf S a v).2 ∧ v < topOf S (splitOf S a v).1 ∧ v < topOf S (splitOf S a v).2 ∧
    ∀ β, ev S β a = if β v then ev S β (splitOf S a v).2 else ev S β (splitOf S a v).1 := by
  unfold splitOf
  by_cases e : topOf S a = v
  · have h2 : ¬ a < 2 := fun h2 => by rw [topOf_low h2] at e; omega
    obtain ⟨i, n, rfl, hn⟩ := has_node ha h2
    have hi2 : ((i : Int) + 2 - 2).toNat = i := by omega
    have hc := h.child hn
    have hok := h.node i n hn
    rw [topOf_node hn] at e
    subst e
    simp only [topOf_node hn, if_true, hi2, hn, Option.getD_some]
    exact ⟨hc.1, hc.2, hok.tlo, hok.thi, fun β => ev_node h β hn⟩
  · rw [if_neg e]
    exact ⟨ha, ha, by show v < topOf S a; omega, by show v < topOf S a; omega, fun β => by simp⟩

/-- Two diagrams that mean the same are one. -/
theorem canon (h : Wf S) : ∀ (k : Nat) (a b : Int), a < k → b < k → S.has a → S.has b → (∀ β, ev S β a = ev S β b) → a = b := by
  intro k
  induction k with
  | zero => intro a b hk _ ha hb _; have := ha.1; omega
  | succ k ih =>
    intro a b hka hkb ha hb he
    have big : ∀ (a b : Int), a < (k + 1 : Nat) → S.has a → S.has b → (∀ β, ev S β a = ev S β b) → topOf S a < topOf S b → False := by
      intro a b hk ha hb he ht
      have h2 : ¬ a < 2 := fun h2 => by rw [topOf_low h2] at ht; have := topOf_le h hb; omega
      obtain ⟨i, n, rfl, hn⟩ := has_node ha h2
      have hc := h.child hn
      have hok := h.node i n hn
      rw [topOf_node hn] at ht
      have hlo := hok.lo; have hhi := hok.hi
      refine hok.ne (ih _ _ (by omega) (by omega) hc.1 hc.2 (fun β => ?_))
      have e1 : ev S β n.2.1 = ev S (fun v => if v = n.1 then false else β v) ((i : Int) + 2) := by
        rw [ev_node h _ hn]; simp
        exact ev_same h _ _ (Nat.le_refl _) hc.1 _ _ (fun v hv _ => by
          have : v ≠ n.1 := by have := hok.tlo; omega
          simp [this])
      have e2 : ev S β n.2.2 = ev S (fun v => if v = n.1 then true else β v) ((i : Int) + 2) := by
        rw [ev_node h _ hn]; simp
        exact ev_same h _ _ (Nat.le_refl _) hc.2 _ _ (fun v hv _ => by
          have : v ≠ n.1 := by have := hok.thi; omega
          simp [this])
      rw [e1, e2, he, he]
      exact ev_same h _ _ (Nat.le_refl _) hb _ _ (fun v hv _ => by
        have : v ≠ n.1 := by omega
        simp [this])
    rcases Int.lt_trichotomy (topOf S a) (topOf S b) with ht | ht | ht
    · exact (big a b hka ha hb he ht).elim
    · by_cases h2 : a < 2
      · have hb2 : b < 2 := topOf_64 h hb (by rw [← ht, topOf_low h2])
        have := he (fun _ => false)
        rw [ev_low _ h2, ev_low _ hb2] at this
        have h1 := ha.1; have h3 := hb.1
        simp at this
        omega
      · have hb2 : ¬ b < 2 := fun hb2 => h2 (topOf_64 h ha (by rw [ht, topOf_low hb2]))
        obtain ⟨i, n, rfl, hn⟩ := has_node ha h2
        obtain ⟨j, m, rfl, hm⟩ := has_node hb hb2
        have hc := h.child hn
        have hok := h.node i n hn
        have hd := h.child hm
        have hom := h.node j m hm
        rw [topOf_node hn, topOf_node hm] at ht
        have hlo := hok.lo; have hhi := hok.hi; have hlo' := hom.lo; have hhi' := hom.hi
        have key : ∀ (t : Bool) (x y : Int), S.has x → S.has y → n.1 < topOf S x → n.1 < topOf S y → x < k → y < k →
            (∀ β : Int → Bool, β n.1 = t → ev S β x = ev S β y) → x = y := fun t x y hx hy tx ty lx ly hxy =>
          ih x y lx ly hx hy (fun β => by
            have e1 : ∀ z, S.has z → n.1 < topOf S z → ev S β z = ev S (fun v => if v = n.1 then t else β v) z := fun z hz tz =>
              ev_same h _ _ (Nat.le_refl _) hz _ _ (fun v hv _ => by
                have : v ≠ n.1 := by omega
                simp [this])
            rw [e1 x hx tx, e1 y hy ty]
            exact hxy _ (by simp))
        have el : n.2.1 = m.2.1 := key false _ _ hc.1 hd.1 hok.tlo (by have := hom.tlo; omega) (by omega) (by omega) (fun β hβ => by
          have := he β
          rw [ev_node h _ hn, ev_node h _ hm, ← ht, hβ] at this
          simpa using this)
        have eh : n.2.2 = m.2.2 := key true _ _ hc.2 hd.2 hok.thi (by have := hom.thi; omega) (by omega) (by omega) (fun β hβ => by
          have := he β
          rw [ev_node h _ hn, ev_node h _ hm, ← ht, hβ] at this
          simpa using this)
        have enm : n = m := by
          obtain ⟨n1, n2, n3⟩ := n; obtain ⟨m1, m2, m3⟩ := m
          simp only at ht el eh; subst ht el eh; rfl
        subst enm
        have q1 := (h.byn n ((i : Int) + 2)).2 ⟨i, rfl, hn⟩
        have q2 := (h.byn n ((j : Int) + 2)).2 ⟨j, rfl, hm⟩
        rw [q1] at q2
        simpa using q2
    · exact (big b a hkb hb ha (fun β => (he β).symm) ht).elim
theorem ev_eq (h : Wf S) {a b : Int} (ha : S.has a) (hb : S.has b) : (∀ β, ev S β a = ev S β b) ↔ a = b :=
  ⟨canon h (S.nodes.length + 2) a b (by have := ha.2; omega) (by have := hb.2; omega) ha hb, fun e _ => by rw [e]⟩
end
end Go.Proofs.Ytboekafmplomhaa
