/-
  A diagram with a variable's bit told, in plain Lean.
-/
import Derived.Test.YtboekafmplomhaaZPlay
set_option linter.unusedVariables false
set_option linter.unusedSimpArgs false
namespace Go.Proofs.Ytboekafmplomhaa

def nodeOf (S : Sto) (a : Int) : Nd := (S.nodes[(a - 2).toNat]?).getD (0, 0, 0)
/-- Under, with what is known; none: the store is full. -/
def underN (v : Int) (on : Bool) : Nat → Sto → List (Int × Int) → Int → Sto × List (Int × Int) × Option Int
  | 0, S, K, _ => (S, K, none)
  | n + 1, S, K, a =>
    if a < 2 ∨ v < topOf S a then (S, K, some a) else
    match aget K a with
    | some r => (S, K, some r)
    | none =>
      if topOf S a = v then (S, K, some (if on then (nodeOf S a).2.2 else (nodeOf S a).2.1)) else
      match underN v on n S K (nodeOf S a).2.1 with
      | (S1, K1, none) => (S1, K1, none)
      | (S1, K1, some l) =>
        match underN v on n S1 K1 (nodeOf S a).2.2 with
        | (S2, K2, none) => (S2, K2, none)
        | (S2, K2, some h) =>
          match mkN S2 (topOf S a) l h with
          | (S3, none) => (S3, K2, none)
          | (S3, some r) => (S3, aput K2 a r, some r)

def setb (β : Int → Bool) (v : Int) (on : Bool) : Int → Bool := fun u => if u = v then on else β u
/-- What is known is right. -/
def KOk (S : Sto) (K : List (Int × Int)) (v : Int) (on : Bool) : Prop :=
  ∀ a r, aget K a = some r → S.has a ∧ S.has r ∧ topOf S a ≤ topOf S r ∧ ∀ β, ev S β r = ev S (setb β v on) a
theorem KOk.grows {S S' : Sto} {K : List (Int × Int)} {v : Int} {on : Bool} (h : Wf S) (g : Grows S S') (k : KOk S K v on) : KOk S' K v on := fun a r hr => by
  obtain ⟨h1, h2, h3, h4⟩ := k a r hr
  exact ⟨g.has h1, g.has h2, by rw [g.top h1, g.top h2]; exact h3, fun β => by rw [ev_grows h g β h2, ev_grows h g _ h1]; exact h4 β⟩

structure UnOk (S : Sto) (v : Int) (on : Bool) (V : Int) (a : Int) (R : Sto × List (Int × Int) × Option Int) : Prop where
  wf : Wf R.1
  grows : Grows S R.1
  sated : Sated R.1
  below : Below' R.1 V
  count : R.1.nodes.length + 1 ≤ S.nodes.length + 2 ^ (V - topOf S a).toNat
  known : KOk R.1 R.2.1 v on
  full : R.2.2.isSome = true → R.1.full = S.full
  full' : R.2.2 = none → R.1.full = true
  has : ∀ r, R.2.2 = some r → R.1.has r ∧ topOf S a ≤ topOf R.1 r ∧ ∀ β, ev R.1 β r = ev S (setb β v on) a

theorem nodeOf_is {S : Sto} {i : Nat} {n : Nd} (h : S.nodes[i]? = some n) : nodeOf S ((i : Int) + 2) = n := by
  unfold nodeOf; rw [show ((i : Int) + 2 - 2).toNat = i by omega, h]; rfl
theorem aget_aput_self (K : List (Int × Int)) (a r : Int) : aget (aput K a r) a = some r := by rw [aget_aput, if_pos rfl]

theorem underN_ok (v : Int) (on : Bool) (V : Int) : ∀ (n : Nat) (S : Sto) (K : List (Int × Int)) (a : Int), Wf S → Sated S → Below' S V → KOk S K v on → S.has a → 64 - topOf S a < n → UnOk S v on V a (underN v on n S K a) := by
  intro n
  induction n with
  | zero => intro S K a h _ _ _ ha hn; have := topOf_le h ha; omega
  | succ n ih =>
    intro S K a h hs hb hK ha hn
    have hp : ∀ k : Nat, 1 ≤ 2 ^ k := fun k => Nat.one_le_two_pow
    have hp1 := hp (V - topOf S a).toNat
    unfold underN
    by_cases e1 : a < 2 ∨ v < topOf S a
    · rw [if_pos e1]
      refine ⟨h, Grows.refl S, hs, hb, by simp only; omega, hK, fun _ => rfl, fun h => by simp at h, fun r hr => ?_⟩
      cases hr
      refine ⟨ha, Int.le_refl _, fun β => ?_⟩
      rcases e1 with e1 | e1
      · rw [ev_low _ e1, ev_low _ e1]
      · exact ev_same h _ a (Nat.le_refl _) ha _ _ (fun u hu _ => by unfold setb; rw [if_neg (by omega)])
    · rw [if_neg e1]
      cases hk : aget K a with
      | some r =>
        obtain ⟨k1, k2, k3, k4⟩ := hK a r hk
        refine ⟨h, Grows.refl S, hs, hb, by simp only; omega, hK, fun _ => rfl, fun h => by simp at h, fun r hr => ?_⟩
        cases hr
        exact ⟨k2, k3, k4⟩
      | none =>
        obtain ⟨i, m, rfl, hm⟩ := has_node ha (by omega)
        have hc := h.child hm
        have hok := h.node i m hm
        have hmV := hb i m hm
        rw [nodeOf_is hm]
        have ht := topOf_node hm
        by_cases e2 : topOf S ((i : Int) + 2) = v
        · simp only [e2, if_true]
          refine ⟨h, Grows.refl S, hs, hb, by simp only; omega, hK, fun _ => rfl, fun h => by simp at h, fun r hr => ?_⟩
          have tv : m.1 = v := by rw [← ht, e2]
          have tlo := hok.tlo; have thi := hok.thi
          cases on with
          | true =>
            simp only [if_true, Option.some.injEq] at hr
            subst hr
            refine ⟨hc.2, by show topOf S _ ≤ topOf S _; omega, fun β => ?_⟩
            rw [ev_node h _ hm, tv, show setb β v true v = true by simp [setb], if_pos rfl]
            exact ev_same h _ _ (Nat.le_refl _) hc.2 _ _ (fun u hu _ => by unfold setb; rw [if_neg (by omega)])
          | false =>
            simp only [Bool.false_eq_true, if_false, Option.some.injEq] at hr
            subst hr
            refine ⟨hc.1, by show topOf S _ ≤ topOf S _; omega, fun β => ?_⟩
            rw [ev_node h _ hm, tv, show setb β v false v = false by simp [setb], if_neg (by simp)]
            exact ev_same h _ _ (Nat.le_refl _) hc.1 _ _ (fun u hu _ => by unfold setb; rw [if_neg (by omega)])
        · simp only [e2, if_false]
          rw [ht] at e1 e2 hn hp1 ⊢
          have tlo := hok.tlo; have thi := hok.thi
          have v0 := hok.v0; have v64 := hok.v64
          have two : ∀ k1 k2 : Nat, k1 + 1 ≤ (V - m.1).toNat → k2 + 1 ≤ (V - m.1).toNat → 2 ^ k1 + 2 ^ k2 ≤ 2 ^ (V - m.1).toNat := fun k1 k2 h1 h2 => by
            have x1 : 2 ^ k1 ≤ 2 ^ ((V - m.1).toNat - 1) := Nat.pow_le_pow_right (by omega) (by omega)
            have x2 : 2 ^ k2 ≤ 2 ^ ((V - m.1).toNat - 1) := Nat.pow_le_pow_right (by omega) (by omega)
            have x3 := pow_two_step (show ((V - m.1).toNat - 1) + 1 ≤ (V - m.1).toNat by omega)
            omega
          have one := two (V - topOf S m.2.1).toNat
          have I1 := ih S K m.2.1 h hs hb hK hc.1 (by omega)
          generalize underN v on n S K m.2.1 = R1 at I1
          obtain ⟨S1, K1, o1⟩ := R1
          have c1 := I1.count
          simp only at c1
          cases o1 with
          | none =>
            have := one 0 (by omega) (by omega)
            exact ⟨I1.wf, I1.grows, I1.sated, I1.below, by rw [ht]; simp only; omega, I1.known, fun h => by simp at h, fun _ => I1.full' rfl, fun r hr => by simp at hr⟩
          | some l =>
            have g1 := I1.grows
            obtain ⟨l1, l2, l3⟩ := I1.has l rfl
            simp only at g1 l1 l2 l3
            have I2 := ih S1 K1 m.2.2 I1.wf I1.sated I1.below I1.known (g1.has hc.2) (by rw [g1.top hc.2]; omega)
            have two' := one (V - topOf S m.2.2).toNat (by omega) (by omega)
            simp only
            generalize underN v on n S1 K1 m.2.2 = R2 at I2
            obtain ⟨S2, K2, o2⟩ := R2
            have c2 := I2.count
            rw [g1.top hc.2] at c2
            simp only at c2
            have G := g1.trans I2.grows
            simp only at G
            cases o2 with
            | none =>
              exact ⟨I2.wf, G, I2.sated, I2.below, by rw [ht]; simp only; omega, I2.known, fun h => by simp at h, fun _ => I2.full' rfl, fun r hr => by simp at hr⟩
            | some hh =>
              have g2 := I2.grows
              obtain ⟨h1, h2, h3⟩ := I2.has hh rfl
              rw [g1.top hc.2] at h2
              simp only at g2 h1 h2 h3
              have M := mkN_ok I2.wf v0 v64 (g2.has l1) h1 (by rw [g2.top l1]; omega) (by simp only; omega)
              have B := mkN_below (lo := l) (hi := hh) I2.below hmV
              have T := mkN_sated (v := m.1) (lo := l) (hi := hh) I2.sated
              simp only at M B T ⊢
              generalize mkN S2 m.1 l hh = R3 at M B T
              obtain ⟨S3, o3⟩ := R3
              obtain ⟨b1, b2⟩ := B
              have g3 := M.grows
              simp only at b1 b2 T g3
              cases o3 with
              | none =>
                exact ⟨M.wf, G.trans g3, T, b1, by rw [ht]; simp only; omega, I2.known.grows I2.wf g3, fun h => by simp at h, fun _ => (M.full' rfl).1, fun r hr => by simp at hr⟩
              | some r =>
                obtain ⟨q1, q2, q3⟩ := M.has r rfl
                simp only at q1 q2 q3
                have GG := G.trans g3
                have hev : ∀ β, ev S3 β r = ev S (setb β v on) ((i : Int) + 2) := fun β => by
                  rw [q3 β, ev_node h _ hm, h3 β, ev_grows h g1 _ hc.2, ev_grows I1.wf g2 _ l1, l3 β]
                  unfold setb
                  rw [if_neg (show ¬ m.1 = v by omega)]
                refine ⟨M.wf, GG, T, b1, by rw [ht]; simp only; omega, ?_, fun _ => ?_, fun h => by simp at h, fun r' hr' => ?_⟩
                · intro a' r' hr'
                  simp only [aget_aput] at hr'
                  by_cases ek : (i : Int) + 2 = a'
                  · rw [if_pos ek] at hr'
                    cases hr'
                    rw [← ek]
                    refine ⟨GG.has ha, q1, by rw [GG.top ha, ht]; exact q2, fun β => ?_⟩
                    rw [ev_grows h GG _ ha]; exact hev β
                  · rw [if_neg ek] at hr'
                    exact I2.known.grows I2.wf g3 a' r' hr'
                · have x1 := M.full rfl; have x2 := I2.full rfl; have x3 := I1.full rfl
                  simp only at x1 x2 x3 ⊢
                  rw [x1, x2, x3]
                · cases hr'
                  exact ⟨q1, by rw [ht]; exact q2, hev⟩

def underR (S : Sto) (a v : Int) (on : Bool) : Sto × Option Int := ((underN v on 65 S [] (rightOf S a)).1, (underN v on 65 S [] (rightOf S a)).2.2)
def underV (S : Sto) (a v : Int) (on : Bool) : Sto × Int := madeR S (underR S a v on)
theorem KOk.nil (S : Sto) (v : Int) (on : Bool) : KOk S [] v on := fun a r hr => by simp [aget] at hr
theorem underR_ok {S : Sto} {V : Int} (hW : Wf S) (hs : Sated S) (hb : Below' S V) (a v : Int) (on : Bool) : UnOk S v on V (rightOf S a) (underN v on 65 S [] (rightOf S a)) :=
  underN_ok v on V 65 S [] _ hW hs hb (KOk.nil S v on) (has_right a) (by have := topOf_ge hW (has_right (S := S) a); omega)
theorem underV_ok {S : Sto} {V : Int} (hW : Wf S) (hs : Sated S) (hb : Below' S V) (hV : 0 ≤ V) (a v : Int) (on : Bool) : VOk S V (2 ^ V.toNat) (underV S a v on) := by
  unfold underV madeR
  cases hf : S.full with
  | true => exact ⟨hW, Grows.refl S, hs, hb, by simp, has_zero S, fun _ => ⟨rfl, rfl⟩⟩
  | false =>
    have O := underR_ok hW hs hb a v on
    have hp : 2 ^ (V - topOf S (rightOf S a)).toNat ≤ 2 ^ V.toNat := Nat.pow_le_pow_right (by omega) (by have := topOf_ge hW (has_right (S := S) a); omega)
    have hc := O.count
    refine ⟨O.wf, O.grows, O.sated, O.below, ?_, ?_, fun h => by rw [hf] at h; cases h⟩
    · simp only [Bool.false_eq_true, if_false, underR]; omega
    · simp only [Bool.false_eq_true, if_false, underR]
      cases ho : (underN v on 65 S [] (rightOf S a)).2.2 with
      | none => exact has_zero _
      | some r => exact (O.has r ho).1
theorem underV_ev {S : Sto} {V : Int} (hW : Wf S) (hs : Sated S) (hb : Below' S V) (a v : Int) (on : Bool) (hf : (underV S a v on).1.full = false) (β : Int → Bool) :
    ev (underV S a v on).1 β (underV S a v on).2 = ev S (setb β v on) (rightOf S a) := by
  have O := underR_ok hW hs hb a v on
  unfold underV madeR at hf ⊢
  cases hF : S.full with
  | true => rw [hF] at hf; simp [hF] at hf
  | false =>
    rw [hF] at hf
    simp only [Bool.false_eq_true, if_false, underR] at hf ⊢
    cases ho : (underN v on 65 S [] (rightOf S a)).2.2 with
    | none => have := O.full' ho; rw [this] at hf; cases hf
    | some r => exact (O.has r ho).2.2 β
end Go.Proofs.Ytboekafmplomhaa
