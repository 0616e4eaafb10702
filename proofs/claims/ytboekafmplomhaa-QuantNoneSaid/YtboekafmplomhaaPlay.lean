/-
  What calls of the store keep: well-formed stores, no more nodes than may be, what the told diagrams mean.
-/
import Derived.Test.YtboekafmplomhaaCalls
set_option linter.unusedVariables false
set_option linter.unusedSimpArgs false
namespace Go.Proofs.Ytboekafmplomhaa

/-- All variables are below V. -/
def Below' (S : Sto) (V : Int) : Prop := ∀ (i : Nat) (n : Nd), S.nodes[i]? = some n → n.1 < V
/-- A full store has as many nodes as may be. -/
def Sated (S : Sto) : Prop := S.full = true → (S.nodes.length : Int) = S.cap

theorem mkN_below {S : Sto} {V v lo hi : Int} (h : Below' S V) (hv : v < V) : Below' (mkN S v lo hi).1 V ∧ (mkN S v lo hi).1.nodes.length ≤ S.nodes.length + 1 := by
  unfold mkN
  by_cases e : lo = hi
  · rw [if_pos e]; exact ⟨h, by simp⟩
  · rw [if_neg e]
    cases hr : aget S.byn (v, lo, hi) with
    | some r => exact ⟨h, by simp⟩
    | none =>
      simp only
      by_cases hl : (S.nodes.length : Int) = S.cap
      · rw [if_pos hl]; exact ⟨h, by simp⟩
      · rw [if_neg hl]
        refine ⟨?_, by simp⟩
        intro i n hn
        simp only at hn
        rcases Nat.lt_or_ge i S.nodes.length with hlt | hge
        · rw [List.getElem?_append_left hlt] at hn; exact h i n hn
        · rw [List.getElem?_append_right hge] at hn
          cases hj : i - S.nodes.length with
          | zero => rw [hj] at hn; simp at hn; rw [← hn]; exact hv
          | succ j => rw [hj] at hn; simp at hn

theorem mkN_sated {S : Sto} {v lo hi : Int} (h : Sated S) : Sated (mkN S v lo hi).1 := by
  unfold mkN
  by_cases e : lo = hi
  · rw [if_pos e]; exact h
  · rw [if_neg e]
    cases hr : aget S.byn (v, lo, hi) with
    | some r => exact h
    | none =>
      simp only
      by_cases hl : (S.nodes.length : Int) = S.cap
      · rw [if_pos hl]; intro _; exact hl
      · rw [if_neg hl]; intro hf; exact absurd (h hf) hl

theorem topOf_below {S : Sto} {V : Int} (h : Below' S V) {a : Int} (ha : S.has a) (h2 : ¬ a < 2) : topOf S a < V := by
  obtain ⟨i, n, rfl, hn⟩ := has_node ha h2
  rw [topOf_node hn]; exact h i n hn

theorem pow_two_step {k m : Nat} (h : k + 1 ≤ m) : 2 ^ k + 2 ^ k ≤ 2 ^ m := by
  have h1 : 2 ^ (k + 1) ≤ 2 ^ m := Nat.pow_le_pow_right (by omega) h
  rw [Nat.pow_succ] at h1; omega

/-- Ite adds fewer nodes than there are ways through the variables. -/
theorem iteN_count : ∀ (n : Nat) (S : Sto) (c a b V : Int), Wf S → S.has c → S.has a → S.has b → 64 - low S c a b < n → Below' S V →
    Below' (iteN n S c a b).1 V ∧ (iteN n S c a b).1.nodes.length + 1 ≤ S.nodes.length + 2 ^ (V - low S c a b).toNat := by
  intro n
  induction n with
  | zero => intro S c a b V h hc ha hb hn; have := (low_le S c a b).1; have := topOf_le h hc; omega
  | succ n ih =>
    intro S c a b V h hc ha hb hn hV
    have hp : ∀ k : Nat, 1 ≤ 2 ^ k := fun k => Nat.one_le_two_pow
    obtain ⟨l1, l2, l3⟩ := low_le S c a b
    unfold iteN
    by_cases e1 : c = 1 ∨ a = b
    · rw [if_pos e1]; exact ⟨hV, by have := hp (V - low S c a b).toNat; simp only; omega⟩
    · rw [if_neg e1]
      by_cases e2 : c = 0
      · rw [if_pos e2]; exact ⟨hV, by have := hp (V - low S c a b).toNat; simp only; omega⟩
      · rw [if_neg e2]
        by_cases e3 : a = 1 ∧ b = 0
        · rw [if_pos e3]; exact ⟨hV, by have := hp (V - low S c a b).toNat; simp only; omega⟩
        · rw [if_neg e3]
          cases ht : aget S.told (c, a, b) with
          | some r => exact ⟨hV, by have := hp (V - low S c a b).toNat; simp only; omega⟩
          | none =>
            have hl0 : 0 ≤ low S c a b := by
              have := topOf_ge h hc; have := topOf_ge h ha; have := topOf_ge h hb
              unfold low; omega
            have hc2 : ¬ c < 2 := fun h2 => by have := hc.1; simp at e1; omega
            have hlV : low S c a b < V := by have := topOf_below hV hc hc2; omega
            have hl64 : low S c a b < 64 := by
              obtain ⟨i, m, rfl, hm⟩ := has_node hc hc2
              rw [topOf_node hm] at l1
              have := (h.node i m hm).v64; omega
            generalize hv : low S c a b = v at *
            obtain ⟨c1, c2, c3, c4, c5⟩ := split_ok h hc l1 hl64
            obtain ⟨a1, a2, a3, a4, a5⟩ := split_ok h ha l2 hl64
            obtain ⟨b1, b2, b3, b4, b5⟩ := split_ok h hb l3 hl64
            have hlow1 := lt_low c3 a3 b3
            have hlow2 := lt_low c4 a4 b4
            have I1 := ih S _ _ _ V h c1 a1 b1 (by omega) hV
            have O1 := iteN_ok n S _ _ _ h c1 a1 b1 (by omega)
            have two : ∀ k1 k2 : Nat, k1 + 1 ≤ (V - v).toNat → k2 + 1 ≤ (V - v).toNat → 2 ^ k1 + 2 ^ k2 ≤ 2 ^ (V - v).toNat := fun k1 k2 h1 h2 => by
              have x1 : 2 ^ k1 ≤ 2 ^ ((V - v).toNat - 1) := Nat.pow_le_pow_right (by omega) (by omega)
              have x2 : 2 ^ k2 ≤ 2 ^ ((V - v).toNat - 1) := Nat.pow_le_pow_right (by omega) (by omega)
              have x3 := pow_two_step (show ((V - v).toNat - 1) + 1 ≤ (V - v).toNat by omega)
              omega
            have one := two (V - low S (splitOf S c v).1 (splitOf S a v).1 (splitOf S b v).1).toNat
            generalize hR1 : iteN n S (splitOf S c v).1 (splitOf S a v).1 (splitOf S b v).1 = R1 at I1 O1
            obtain ⟨S1, o1⟩ := R1
            obtain ⟨i1, i2⟩ := I1
            simp only at i1 i2
            cases o1 with
            | none =>
              refine ⟨i1, ?_⟩
              have := one 0 (by omega) (by omega)
              simp only; omega
            | some lo =>
              have g1 := O1.grows
              have wf1 := O1.wf
              simp only at g1 wf1
              have e2' := g1.low c2 a2 b2
              have I2 := ih S1 _ _ _ V wf1 (g1.has c2) (g1.has a2) (g1.has b2) (by rw [e2']; omega) i1
              rw [e2'] at I2
              have two' := one (V - low S (splitOf S c v).2 (splitOf S a v).2 (splitOf S b v).2).toNat (by omega) (by omega)
              simp only
              generalize hR2 : iteN n S1 (splitOf S c v).2 (splitOf S a v).2 (splitOf S b v).2 = R2 at I2
              obtain ⟨S2, o2⟩ := R2
              obtain ⟨j1, j2⟩ := I2
              simp only at j1 j2
              cases o2 with
              | none => exact ⟨j1, by simp only; omega⟩
              | some hi =>
                have M := mkN_below (lo := lo) (hi := hi) j1 hlV
                simp only
                generalize hR3 : mkN S2 v lo hi = R3 at M
                obtain ⟨S3, o3⟩ := R3
                obtain ⟨m1, m2⟩ := M
                simp only at m1 m2
                cases o3 with
                | none => exact ⟨m1, by simp only; omega⟩
                | some r => exact ⟨fun i n hn => m1 i n hn, by simp only; omega⟩

theorem iteN_sated : ∀ (n : Nat) (S : Sto) (c a b : Int), Sated S → Sated (iteN n S c a b).1 := by
  intro n
  induction n with
  | zero => intro S c a b h; exact h
  | succ n ih =>
    intro S c a b h
    unfold iteN
    by_cases e1 : c = 1 ∨ a = b
    · rw [if_pos e1]; exact h
    · rw [if_neg e1]
      by_cases e2 : c = 0
      · rw [if_pos e2]; exact h
      · rw [if_neg e2]
        by_cases e3 : a = 1 ∧ b = 0
        · rw [if_pos e3]; exact h
        · rw [if_neg e3]
          cases ht : aget S.told (c, a, b) with
          | some r => exact h
          | none =>
            simp only
            have I1 := ih S (splitOf S c (low S c a b)).1 (splitOf S a (low S c a b)).1 (splitOf S b (low S c a b)).1 h
            generalize iteN n S (splitOf S c (low S c a b)).1 (splitOf S a (low S c a b)).1 (splitOf S b (low S c a b)).1 = R1 at I1
            obtain ⟨S1, o1⟩ := R1
            cases o1 with
            | none => exact I1
            | some lo =>
              have I2 := ih S1 (splitOf S c (low S c a b)).2 (splitOf S a (low S c a b)).2 (splitOf S b (low S c a b)).2 I1
              simp only
              generalize iteN n S1 (splitOf S c (low S c a b)).2 (splitOf S a (low S c a b)).2 (splitOf S b (low S c a b)).2 = R2 at I2
              obtain ⟨S2, o2⟩ := R2
              cases o2 with
              | none => exact I2
              | some hi =>
                have M := mkN_sated (v := low S c a b) (lo := lo) (hi := hi) I2
                simp only
                generalize mkN S2 (low S c a b) lo hi = R3 at M
                obtain ⟨S3, o3⟩ := R3
                cases o3 with
                | none => exact M
                | some r => exact M

/-- What a call that tells a diagram keeps: V variables, at most m nodes more. -/
structure VOk (S : Sto) (V : Int) (m : Nat) (R : Sto × Int) : Prop where
  wf : Wf R.1
  grows : Grows S R.1
  sated : Sated R.1
  below : Below' R.1 V
  count : R.1.nodes.length ≤ S.nodes.length + m
  has : R.1.has R.2
  stays : S.full = true → R.1 = S ∧ R.2 = 0

theorem VOk.weak {S : Sto} {V : Int} {m m' : Nat} {R : Sto × Int} (h : VOk S V m R) (hm : m ≤ m') : VOk S V m' R :=
  { h with count := by have := h.count; omega }
theorem VOk.trans {S : Sto} {V : Int} {m m' : Nat} {R R' : Sto × Int} (h : VOk S V m R) (k : VOk R.1 V m' R') : VOk S V (m + m') R' :=
  ⟨k.wf, h.grows.trans k.grows, k.sated, k.below, by have := h.count; have := k.count; omega, k.has, fun hf => by
    obtain ⟨e1, e2⟩ := h.stays hf
    have e3 := k.stays (by rw [e1]; exact hf)
    exact ⟨e3.1.trans e1, e3.2⟩⟩

theorem iteR_ok {S : Sto} (hW : Wf S) (x y z : Int) : IteOk S (rightOf S x) (rightOf S y) (rightOf S z) (iteR S x y z) :=
  iteN_ok 65 S _ _ _ hW (has_right x) (has_right y) (has_right z) (by
    have g1 := topOf_ge hW (has_right (S := S) x); have g2 := topOf_ge hW (has_right (S := S) y); have g3 := topOf_ge hW (has_right (S := S) z)
    unfold low; omega)
theorem has_zero (S : Sto) : S.has 0 := by unfold Sto.has; omega
theorem has_one (S : Sto) : S.has 1 := by unfold Sto.has; omega
theorem right_has {S : Sto} {x : Int} (h : S.has x) : rightOf S x = x := by
  unfold rightOf; rw [if_neg (by have := h.1; have := h.2; omega)]

theorem iteV_ok {S : Sto} {V : Int} (hW : Wf S) (hs : Sated S) (hb : Below' S V) (hV : 0 ≤ V) (x y z : Int) : VOk S V (2 ^ V.toNat) (iteV S x y z) := by
  unfold iteV madeR
  cases hf : S.full with
  | true => exact ⟨hW, Grows.refl S, hs, hb, by simp, has_zero S, fun _ => ⟨rfl, rfl⟩⟩
  | false =>
    have g1 := topOf_ge hW (has_right (S := S) x); have g2 := topOf_ge hW (has_right (S := S) y); have g3 := topOf_ge hW (has_right (S := S) z)
    have hl0 : 0 ≤ low S (rightOf S x) (rightOf S y) (rightOf S z) := by unfold low; omega
    have O := iteR_ok hW x y z
    have C := iteN_count 65 S _ _ _ V hW (has_right x) (has_right y) (has_right z) (by omega) hb
    have T := iteN_sated 65 S (rightOf S x) (rightOf S y) (rightOf S z) hs
    have hp : 2 ^ (V - low S (rightOf S x) (rightOf S y) (rightOf S z)).toNat ≤ 2 ^ V.toNat := Nat.pow_le_pow_right (by omega) (by omega)
    change Below' (iteR S x y z).1 V ∧ (iteR S x y z).1.nodes.length + 1 ≤ _ at C
    change Sated (iteR S x y z).1 at T
    refine ⟨O.wf, O.grows, T, C.1, by simp only [Bool.false_eq_true, if_false]; omega, ?_, fun h => by rw [hf] at h; cases h⟩
    simp only [Bool.false_eq_true, if_false]
    cases ho : (iteR S x y z).2 with
    | none => exact has_zero _
    | some r => exact (O.has r ho).1
/-- What Ite tells means what it should, if the store is not full. -/
theorem iteV_ev {S : Sto} (hW : Wf S) (x y z : Int) (hf : (iteV S x y z).1.full = false) (β : Int → Bool) :
    ev (iteV S x y z).1 β (iteV S x y z).2 = if ev S β (rightOf S x) then ev S β (rightOf S y) else ev S β (rightOf S z) := by
  have O := iteR_ok hW x y z
  unfold iteV madeR at hf ⊢
  cases hF : S.full with
  | true => rw [hF] at hf; simp [hF] at hf
  | false =>
    rw [hF] at hf
    simp only [Bool.false_eq_true, if_false] at hf ⊢
    cases ho : (iteR S x y z).2 with
    | none => have := (O.full' ho).1; rw [this] at hf; cases hf
    | some r => exact (O.has r ho).2.2 β

theorem varV_ok {S : Sto} {V : Int} (hW : Wf S) (hs : Sated S) (hb : Below' S V) (v : Int) (hv : v < V ∨ 64 ≤ v) : VOk S V 1 (varV S v) := by
  unfold varV
  by_cases h0 : v < 0 ∨ 64 ≤ v
  · rw [if_pos h0]; exact ⟨hW, Grows.refl S, hs, hb, by simp, has_zero S, fun _ => ⟨rfl, rfl⟩⟩
  · rw [if_neg h0]
    unfold madeR
    cases hf : S.full with
    | true => exact ⟨hW, Grows.refl S, hs, hb, by simp, has_zero S, fun _ => ⟨rfl, rfl⟩⟩
    | false =>
      have t0 : topOf S 0 = 64 := topOf_low (by omega)
      have t1 : topOf S 1 = 64 := topOf_low (by omega)
      have M := mkN_ok hW (v := v) (by omega) (by omega) (has_zero S) (has_one S) (by omega) (by omega)
      have B := mkN_below (lo := 0) (hi := 1) hb (v := v) (by omega)
      have T := mkN_sated (v := v) (lo := 0) (hi := 1) hs
      refine ⟨M.wf, M.grows, T, B.1, by simpa using B.2, ?_, fun h => by rw [hf] at h; cases h⟩
      simp only [Bool.false_eq_true, if_false]
      cases ho : (mkN S v 0 1).2 with
      | none => exact has_zero _
      | some r => exact (M.has r ho).1
theorem varV_ev {S : Sto} (hW : Wf S) (v : Int) (hf : (varV S v).1.full = false) (β : Int → Bool) :
    ev (varV S v).1 β (varV S v).2 = if v < 0 ∨ 64 ≤ v then false else β v := by
  unfold varV at hf ⊢
  by_cases h0 : v < 0 ∨ 64 ≤ v
  · rw [if_pos h0, if_pos h0, ev_low _ (by simp)]; rfl
  · rw [if_neg h0, if_neg h0]
    rw [if_neg h0] at hf
    unfold madeR at hf ⊢
    cases hF : S.full with
    | true => rw [hF] at hf; simp [hF] at hf
    | false =>
      rw [hF] at hf
      simp only [Bool.false_eq_true, if_false] at hf ⊢
      have t0 : topOf S 0 = 64 := topOf_low (by omega)
      have t1 : topOf S 1 = 64 := topOf_low (by omega)
      have M := mkN_ok hW (v := v) (by omega) (by omega) (has_zero S) (has_one S) (by omega) (by omega)
      cases ho : (mkN S v 0 1).2 with
      | none => have := (M.full' ho).1; rw [this] at hf; cases hf
      | some r =>
        show ev _ β r = _
        rw [(M.has r ho).2.2 β, ev_low _ (by omega), ev_low _ (by omega)]
        cases β v <;> rfl

def notV (S : Sto) (x : Int) : Sto × Int := iteV S x 0 1
def andV (S : Sto) (x y : Int) : Sto × Int := iteV S x y 0
def orV (S : Sto) (x y : Int) : Sto × Int := iteV S x 1 y
def xorV (S : Sto) (x y : Int) : Sto × Int := iteV (notV S y).1 x (notV S y).2 y

/-- A new store. -/
def newS (cap : Int) : Sto := ⟨cap, [], [], [], false⟩
theorem newS_wf {cap : Int} (h1 : 2 ≤ cap) (h2 : cap ≤ 1048576) : Wf (newS cap) :=
  ⟨h1, h2, by simp [newS]; omega, fun i n hn => by simp [newS] at hn, fun n r => by simp [newS, aget], fun c a b r hr => by simp [newS, aget] at hr⟩
theorem newS_sated (cap : Int) : Sated (newS cap) := fun h => by simp [newS] at h
theorem newS_below (cap V : Int) : Below' (newS cap) V := fun i n hn => by simp [newS] at hn
end Go.Proofs.Ytboekafmplomhaa
