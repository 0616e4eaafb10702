/-
  The store's Ite, in plain Lean: what it tells means what it should.
-/
import Derived.Test.YtboekafmplomhaaPure
set_option linter.unusedVariables false
set_option linter.unusedSimpArgs false
namespace Go.Proofs.Ytboekafmplomhaa

section
variable {S S' : Sto}
theorem Grows.low (g : Grows S S') {c a b : Int} (hc : S.has c) (ha : S.has a) (hb : S.has b) : low S' c a b = low S c a b := by
  unfold Go.Proofs.Ytboekafmplomhaa.low; rw [g.top hc, g.top ha, g.top hb]

/-- What a node's making keeps, and gives. -/
structure MkOk (S : Sto) (v lo hi : Int) (R : Sto × Option Int) : Prop where
  wf : Wf R.1
  grows : Grows S R.1
  toldSame : R.1.told = S.told
  full : R.2.isSome = true → R.1.full = S.full
  full' : R.2 = none → R.1.full = true ∧ R.1.nodes = S.nodes
  has : ∀ r, R.2 = some r → R.1.has r ∧ v ≤ topOf R.1 r ∧ ∀ β, ev R.1 β r = if β v then ev S β hi else ev S β lo

theorem told_grows {T : List (Nd × Int)} (h : Wf S) (g : Grows S S') (ht : ∀ c a b r, aget T (c, a, b) = some r → S.has c ∧ S.has a ∧ S.has b ∧ S.has r ∧ low S c a b ≤ topOf S r ∧ ∀ β, ev S β r = if ev S β c then ev S β a else ev S β b) :
    ∀ c a b r, aget T (c, a, b) = some r → S'.has c ∧ S'.has a ∧ S'.has b ∧ S'.has r ∧ low S' c a b ≤ topOf S' r ∧ ∀ β, ev S' β r = if ev S' β c then ev S' β a else ev S' β b := by
  intro c a b r hr
  obtain ⟨h1, h2, h3, h4, h5, h6⟩ := ht c a b r hr
  refine ⟨g.has h1, g.has h2, g.has h3, g.has h4, by rw [g.low h1 h2 h3, g.top h4]; exact h5, fun β => ?_⟩
  rw [ev_grows h g β h1, ev_grows h g β h2, ev_grows h g β h3, ev_grows h g β h4]; exact h6 β

theorem mkN_ok (h : Wf S) {v lo hi : Int} (v0 : 0 ≤ v) (v64 : v < 64) (hlo : S.has lo) (hhi : S.has hi) (tlo : v < topOf S lo) (thi : v < topOf S hi) : MkOk S v lo hi (mkN S v lo hi) := by
  unfold mkN
  by_cases e : lo = hi
  · rw [if_pos e]
    subst e
    exact ⟨h, Grows.refl S, rfl, fun _ => rfl, fun h => by simp at h, fun r hr => by cases hr; exact ⟨hlo, Int.le_of_lt tlo, fun β => by simp⟩⟩
  · rw [if_neg e]
    cases hr : aget S.byn (v, lo, hi) with
    | some r =>
      obtain ⟨i, rfl, hn⟩ := (h.byn _ _).1 hr
      have hi' := (List.getElem?_eq_some_iff.1 hn).1
      simp only
      refine ⟨h, Grows.refl S, rfl, fun _ => rfl, fun h => by simp at h, fun r hr => by
        cases hr
        refine ⟨⟨by omega, by show (i : Int) + 2 < S.nodes.length + 2; omega⟩, by rw [topOf_node hn]; exact Int.le_refl _, fun β => ev_node h β hn⟩⟩
    | none =>
      by_cases hl : (S.nodes.length : Int) = S.cap
      · rw [if_pos hl]
        simp only
        have g : Grows S { S with full := true } := ⟨List.prefix_refl _, rfl⟩
        refine ⟨⟨h.cap2, h.cap, h.len, fun i n hn => ?_, h.byn, told_grows h g h.told⟩, ⟨List.prefix_refl _, rfl⟩, rfl, fun h => by simp at h, fun _ => ⟨rfl, rfl⟩, fun r hr => by cases hr⟩
        have hok := h.node i n hn
        exact ⟨hok.v0, hok.v64, hok.lo0, hok.lo, hok.hi0, hok.hi, hok.ne, hok.tlo, hok.thi⟩
      · rw [if_neg hl]
        simp only
        have g : Grows S { S with nodes := S.nodes ++ [(v, lo, hi)], byn := aput S.byn (v, lo, hi) (S.nodes.length + 2) } := ⟨List.prefix_append _ _, rfl⟩
        have hlast : (S.nodes ++ [(v, lo, hi)])[S.nodes.length]? = some (v, lo, hi) := by simp
        have hnodes : ∀ i n, (S.nodes ++ [(v, lo, hi)])[i]? = some n → (S.nodes[i]? = some n) ∨ (i = S.nodes.length ∧ n = (v, lo, hi)) := fun i n hn => by
          rcases Nat.lt_or_ge i S.nodes.length with hlt | hge
          · rw [List.getElem?_append_left hlt] at hn; exact .inl hn
          · rw [List.getElem?_append_right hge] at hn
            cases hj : i - S.nodes.length with
            | zero => rw [hj] at hn; simp at hn; exact .inr ⟨by omega, hn.symm⟩
            | succ j => rw [hj] at hn; simp at hn
        have wf : Wf { S with nodes := S.nodes ++ [(v, lo, hi)], byn := aput S.byn (v, lo, hi) (S.nodes.length + 2) } := by
          refine ⟨h.cap2, h.cap, ?_, ?_, ?_, told_grows h g h.told⟩
          · have := h.len; simp; omega
          · intro i n hn
            rcases hnodes i n hn with hn' | ⟨rfl, rfl⟩
            · have hc := h.child hn'
              have hok := h.node i n hn'
              exact ⟨hok.v0, hok.v64, hok.lo0, hok.lo, hok.hi0, hok.hi, hok.ne, by rw [g.top hc.1]; exact hok.tlo, by rw [g.top hc.2]; exact hok.thi⟩
            · exact ⟨v0, v64, hlo.1, hlo.2, hhi.1, hhi.2, e, by rw [g.top hlo]; exact tlo, by rw [g.top hhi]; exact thi⟩
          · intro n r
            show aget (aput S.byn (v, lo, hi) (S.nodes.length + 2)) n = some r ↔ ∃ i : Nat, r = i + 2 ∧ (S.nodes ++ [(v, lo, hi)])[i]? = some n
            rw [aget_aput]
            by_cases en : (v, lo, hi) = n
            · rw [if_pos en]
              subst en
              constructor
              · intro hr'
                cases hr'
                exact ⟨S.nodes.length, rfl, hlast⟩
              · rintro ⟨i, rfl, hn⟩
                rcases hnodes i _ hn with hn' | ⟨rfl, _⟩
                · have := (h.byn (v, lo, hi) (i + 2)).2 ⟨i, rfl, hn'⟩
                  rw [hr] at this; cases this
                · rfl
            · rw [if_neg en, h.byn]
              constructor
              · rintro ⟨i, rfl, hn⟩; exact ⟨i, rfl, g.at hn⟩
              · rintro ⟨i, rfl, hn⟩
                rcases hnodes i _ hn with hn' | ⟨_, hn'⟩
                · exact ⟨i, rfl, hn'⟩
                · exact (en hn'.symm).elim
        refine ⟨wf, g, rfl, fun _ => rfl, fun h => by simp at h, fun r hr' => ?_⟩
        cases hr'
        refine ⟨⟨by omega, by simp; omega⟩, by rw [topOf_node hlast]; exact Int.le_refl _, fun β => ?_⟩
        rw [ev_node wf β hlast]
        rw [ev_grows h g β hlo, ev_grows h g β hhi]

structure IteOk (S : Sto) (c a b : Int) (R : Sto × Option Int) : Prop where
  wf : Wf R.1
  grows : Grows S R.1
  full : R.2.isSome = true → R.1.full = S.full
  full' : R.2 = none → R.1.full = true ∧ (R.1.nodes.length : Int) = R.1.cap
  has : ∀ r, R.2 = some r → R.1.has r ∧ low S c a b ≤ topOf R.1 r ∧ ∀ β, ev R.1 β r = if ev S β c then ev S β a else ev S β b

theorem low_le (S : Sto) (c a b : Int) : low S c a b ≤ topOf S c ∧ low S c a b ≤ topOf S a ∧ low S c a b ≤ topOf S b := by
  unfold low; omega
theorem lt_low {c a b v : Int} (h1 : v < topOf S c) (h2 : v < topOf S a) (h3 : v < topOf S b) : v < low S c a b := by
  unfold low; omega

theorem mkN_none_len {v lo hi : Int} (h : (mkN S v lo hi).2 = none) : (S.nodes.length : Int) = S.cap := by
  unfold mkN at h
  by_cases e : lo = hi
  · rw [if_pos e] at h; simp at h
  · rw [if_neg e] at h
    cases hr : aget S.byn (v, lo, hi) with
    | some r => rw [hr] at h; simp at h
    | none =>
      rw [hr] at h
      simp only at h
      by_cases hl : (S.nodes.length : Int) = S.cap
      · exact hl
      · rw [if_neg hl] at h; simp at h

theorem iteN_ok : ∀ (n : Nat) (S : Sto) (c a b : Int), Wf S → S.has c → S.has a → S.has b → 64 - low S c a b < n → IteOk S c a b (iteN n S c a b) := by
  intro n
  induction n with
  | zero => intro S c a b h hc ha hb hn; have := (low_le S c a b).1; have := topOf_le h hc; omega
  | succ n ih =>
    intro S c a b h hc ha hb hn
    obtain ⟨l1, l2, l3⟩ := low_le S c a b
    unfold iteN
    by_cases e1 : c = 1 ∨ a = b
    · rw [if_pos e1]
      refine ⟨h, Grows.refl S, fun _ => rfl, fun h => by simp at h, fun r hr => ?_⟩
      cases hr
      refine ⟨ha, l2, fun β => ?_⟩
      rcases e1 with rfl | rfl
      · rw [ev_low (a := 1) β (by omega)]; simp
      · simp
    · rw [if_neg e1]
      by_cases e2 : c = 0
      · rw [if_pos e2]
        subst e2
        refine ⟨h, Grows.refl S, fun _ => rfl, fun h => by simp at h, fun r hr => ?_⟩
        cases hr
        exact ⟨hb, l3, fun β => by rw [ev_low (a := 0) β (by omega)]; simp⟩
      · rw [if_neg e2]
        by_cases e3 : a = 1 ∧ b = 0
        · rw [if_pos e3]
          obtain ⟨rfl, rfl⟩ := e3
          refine ⟨h, Grows.refl S, fun _ => rfl, fun h => by simp at h, fun r hr => ?_⟩
          cases hr
          refine ⟨hc, l1, fun β => by rw [ev_low (a := 0) β (by omega), ev_low (a := 1) β (by omega)]; cases ev S β c <;> simp⟩
        · rw [if_neg e3]
          cases ht : aget S.told (c, a, b) with
          | some r =>
            obtain ⟨_, _, _, g4, g5, g6⟩ := h.told c a b r ht
            refine ⟨h, Grows.refl S, fun _ => rfl, fun h => by simp at h, fun r hr => ?_⟩
            cases hr
            exact ⟨g4, g5, g6⟩
          | none =>
            -- the cut
            have hl0 : 0 ≤ low S c a b := by
              have := topOf_ge h hc; have := topOf_ge h ha; have := topOf_ge h hb
              unfold low; omega
            have hl64 : low S c a b < 64 := by
              have hc2 : ¬ c < 2 := fun h2 => by have := hc.1; simp at e1; omega
              obtain ⟨i, m, rfl, hm⟩ := has_node hc hc2
              rw [topOf_node hm] at l1
              have := (h.node i m hm).v64; omega
            generalize hv : low S c a b = v at *
            obtain ⟨c1, c2, c3, c4, c5⟩ := split_ok h hc l1 hl64
            obtain ⟨a1, a2, a3, a4, a5⟩ := split_ok h ha l2 hl64
            obtain ⟨b1, b2, b3, b4, b5⟩ := split_ok h hb l3 hl64
            have I1 := ih S _ _ _ h c1 a1 b1 (by have := lt_low c3 a3 b3; omega)
            have hlow1 := lt_low c3 a3 b3
            have hlow2 := lt_low c4 a4 b4
            generalize hR1 : iteN n S (splitOf S c v).1 (splitOf S a v).1 (splitOf S b v).1 = R1 at I1
            obtain ⟨S1, o1⟩ := R1
            cases o1 with
            | none =>
              exact ⟨I1.wf, I1.grows, fun h => by simp at h, fun _ => I1.full' rfl, fun r hr => by simp at hr⟩
            | some lo =>
              obtain ⟨k1, k2, k3⟩ := I1.has lo rfl
              have g1 := I1.grows
              have I2 := ih S1 _ _ _ I1.wf (g1.has c2) (g1.has a2) (g1.has b2) (by rw [g1.low c2 a2 b2]; omega)
              simp only
              generalize hR2 : iteN n S1 (splitOf S c v).2 (splitOf S a v).2 (splitOf S b v).2 = R2 at I2
              obtain ⟨S2, o2⟩ := R2
              cases o2 with
              | none =>
                exact ⟨I2.wf, g1.trans I2.grows, fun h => by simp at h, fun _ => I2.full' rfl, fun r hr => by simp at hr⟩
              | some hi =>
                obtain ⟨j1, j2, j3⟩ := I2.has hi rfl
                have g2 := I2.grows
                simp only
                have M := mkN_ok I2.wf hl0 hl64 (g2.has k1) j1 (by rw [g2.top k1]; simp only at k2; omega) (by rw [g1.low c2 a2 b2] at j2; simp only at j2 ⊢; omega)
                have hnl := @mkN_none_len S2 v lo hi
                generalize hR3 : mkN S2 v lo hi = R3 at M hnl
                obtain ⟨S3, o3⟩ := R3
                cases o3 with
                | none =>
                  refine ⟨M.wf, g1.trans (g2.trans M.grows), fun h => by simp at h, fun _ => ⟨(M.full' rfl).1, ?_⟩, fun r hr => by simp at hr⟩
                  have e1 := (M.full' rfl).2
                  have e2 := M.grows.cap
                  simp only at e1 e2 ⊢
                  rw [e1, e2]; exact hnl rfl
                | some r =>
                  obtain ⟨q1, q2, q3⟩ := M.has r rfl
                  have g3 := M.grows
                  have G := g1.trans (g2.trans g3)
                  simp only at k3 j3 q3
                  have hev : ∀ β, ev S3 β r = if ev S β c then ev S β a else ev S β b := fun β => by
                    rw [q3 β, c5 β, a5 β, b5 β]
                    rw [j3 β, ev_grows I1.wf g2 β k1, k3 β]
                    rw [ev_grows h g1 β c2, ev_grows h g1 β a2, ev_grows h g1 β b2]
                    cases β v <;> simp
                  have Gt : Grows S { S3 with told := aput S3.told (c, a, b) r } := ⟨G.pre, G.cap⟩
                  simp only
                  refine ⟨⟨M.wf.cap2, M.wf.cap, M.wf.len, fun i n hn => (by have hok := M.wf.node i n hn; exact ⟨hok.v0, hok.v64, hok.lo0, hok.lo, hok.hi0, hok.hi, hok.ne, hok.tlo, hok.thi⟩), M.wf.byn, ?_⟩, Gt, fun _ => ?_, fun h => by simp at h, fun r' hr' => ?_⟩
                  · intro c' a' b' r' hr'
                    simp only [aget_aput] at hr'
                    by_cases ek : (c, a, b) = (c', a', b')
                    · rw [if_pos ek] at hr'
                      cases ek; cases hr'
                      refine ⟨G.has hc, G.has ha, G.has hb, q1, ?_, fun β => ?_⟩
                      · show low S3 c a b ≤ topOf S3 r
                        rw [G.low hc ha hb, hv]; exact q2
                      · show ev S3 β r = if ev S3 β c then ev S3 β a else ev S3 β b
                        rw [hev, ev_grows h G β hc, ev_grows h G β ha, ev_grows h G β hb]
                    · rw [if_neg ek] at hr'
                      exact M.wf.told c' a' b' r' hr'
                  · have x1 := M.full rfl; have x2 := I2.full rfl; have x3 := I1.full rfl
                    simp only at x1 x2 x3 ⊢
                    rw [x1, x2, x3]
                  · cases hr'
                    exact ⟨q1, by rw [hv]; exact q2, hev⟩
end
end Go.Proofs.Ytboekafmplomhaa
