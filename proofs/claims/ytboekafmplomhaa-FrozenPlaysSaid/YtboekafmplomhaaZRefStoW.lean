/-
  The document's store in plain Lean, and that it tells what the program's store tells.
-/
import Derived.Test.YtboekafmplomhaaZQuantC
import Derived.Test.YtboekafmplomhaaZMadeP
import Derived.Test.YtboekafmplomhaaZMeansR
set_option linter.unusedVariables false
set_option linter.unusedSimpArgs false
namespace Go.Proofs.Ytboekafmplomhaa

/-- The document's store. -/
structure RSt where
  cap : Int
  L : List Nd
  full : Bool
/-- The document's store that is like a program's. -/
def rOf (S : Sto) : RSt := ⟨S.cap, S.nodes, S.full⟩
def findN : List Nd → Nd → Nat → Option Int
  | [], _, _ => none
  | m :: r, n, k => if m = n then some ((k : Int) + 2) else findN r n (k + 1)
def rnode (R : RSt) (v lo hi : Int) : RSt × Int :=
  if lo = hi ∨ R.full = true then (R, lo) else
  match findN R.L (v, lo, hi) 0 with
  | some i => (R, i)
  | none => if R.cap ≤ (R.L.length : Int) then (⟨R.cap, R.L, true⟩, 0) else (⟨R.cap, R.L ++ [(v, lo, hi)], R.full⟩, (R.L.length : Int) + 2)
def rnd (R : RSt) (a : Int) : Nd := (R.L[(a - 2).toNat]?).getD (0, 0, 0)
def rtop (R : RSt) (a : Int) : Int := if 1 < a then (rnd R a).1 else 64
def rpart (R : RSt) (a v : Int) (on : Bool) : Int := if rtop R a ≠ v then a else if on then (rnd R a).2.2 else (rnd R a).2.1
def rlow (R : RSt) (c a b : Int) : Int := min (min (rtop R c) (rtop R a)) (rtop R b)
def rright (R : RSt) (a : Int) : Int := if 0 ≤ a ∧ a < (R.L.length : Int) + 2 then a else 0
def rite : Nat → RSt → Int → Int → Int → RSt × Int
  | 0, R, _, _, _ => (R, 0)
  | n + 1, R, c, a, b =>
    if R.full = true then (R, 0) else if c = 1 ∨ a = b then (R, a) else if c = 0 then (R, b) else if a = 1 ∧ b = 0 then (R, c) else
    let v := rlow R c a b
    let X := rite n R (rpart R c v false) (rpart R a v false) (rpart R b v false)
    let Y := rite n X.1 (rpart X.1 c v true) (rpart X.1 a v true) (rpart X.1 b v true)
    rnode Y.1 v X.2 Y.2
def rmade (X : RSt × Int) : RSt × Int := (X.1, if X.1.full = true then 0 else X.2)
def rIteV (R : RSt) (x y z : Int) : RSt × Int := rmade (rite 66 R (rright R x) (rright R y) (rright R z))
def rVarV (R : RSt) (v : Int) : RSt × Int := if v < 0 ∨ 63 < v then (R, 0) else rmade (rnode R v 0 1)
section
variable {S : Sto} {a b c r v : Int}
theorem findN_some : ∀ (L : List Nd) (n : Nd) (k : Nat) (r : Int), findN L n k = some r → ∃ i : Nat, r = ((k + i : Nat) : Int) + 2 ∧ L[i]? = some n
  | [], _, _, _, h => by simp [findN] at h
  | m :: l, n, k, r, h => by
    unfold findN at h
    split at h
    · rename_i e
      simp only [Option.some.injEq] at h
      exact ⟨0, by rw [← h]; simp, by simp [e]⟩
    · obtain ⟨i, h1, h2⟩ := findN_some l n (k + 1) r h
      exact ⟨i + 1, by rw [h1]; omega, by simpa using h2⟩
theorem findN_none : ∀ (L : List Nd) (n : Nd) (k : Nat), findN L n k = none → ∀ i : Nat, L[i]? ≠ some n
  | [], _, _, _, i => by simp
  | m :: l, n, k, h, i => by
    unfold findN at h
    split at h
    · cases h
    · rename_i e
      cases i with
      | zero => simp [e]
      | succ i => simpa using findN_none l n (k + 1) h i
theorem findN_byn (hW : Wf S) (n : Nd) : findN S.nodes n 0 = aget S.byn n := by
  cases h : findN S.nodes n 0 with
  | some r =>
    obtain ⟨i, h1, h2⟩ := findN_some _ _ _ _ h
    exact ((hW.byn n r).2 ⟨i, by rw [h1]; simp, h2⟩).symm
  | none =>
    cases h' : aget S.byn n with
    | none => rfl
    | some r =>
      obtain ⟨i, _, h2⟩ := (hW.byn n r).1 h'
      exact absurd h2 (findN_none _ _ _ h i)
theorem rnode_sim (hW : Wf S) (hf : S.full = false) (v lo hi : Int) : rnode (rOf S) v lo hi = (rOf (mkN S v lo hi).1, (mkN S v lo hi).2.getD 0) := by
  unfold rnode mkN rOf
  simp only
  by_cases e : lo = hi
  · rw [if_pos (.inl e), if_pos e]; rfl
  · rw [if_neg (by rw [hf]; simp [e]), if_neg e, findN_byn hW]
    cases hr : aget S.byn (v, lo, hi) with
    | some r => rfl
    | none =>
      have hl := hW.len
      simp only
      by_cases hc : (S.nodes.length : Int) = S.cap
      · rw [if_pos (by omega), if_pos hc]; rfl
      · rw [if_neg (by omega), if_neg hc]; rfl
theorem rtop_sim (ha : S.has a) : rtop (rOf S) a = topOf S a := by
  unfold rtop topOf rnd rOf
  by_cases h : a < 2
  · rw [if_neg (by omega), if_pos h]
  · rw [if_pos (by omega), if_neg h]
theorem rlow_sim (hc : S.has c) (ha : S.has a) (hb : S.has b) : rlow (rOf S) c a b = low S c a b := by
  unfold rlow low; rw [rtop_sim hc, rtop_sim ha, rtop_sim hb]
theorem rpart_sim (ha : S.has a) (v : Int) : rpart (rOf S) a v false = (splitOf S a v).1 ∧ rpart (rOf S) a v true = (splitOf S a v).2 := by
  unfold rpart splitOf
  rw [rtop_sim ha]
  by_cases e : topOf S a = v
  · have e' : ¬ topOf S a ≠ v := fun h => h e
    rw [if_pos e]
    exact ⟨by rw [if_neg e']; rfl, by rw [if_neg e']; rfl⟩
  · rw [if_neg e]; exact ⟨by rw [if_pos e], by rw [if_pos e]⟩
/-- A diagram that hangs on nothing ahead of t. -/
theorem top_ge (hW : Wf S) (hr : S.has r) {t : Int} (ht : t ≤ 64) (h : ∀ β γ : Int → Bool, (∀ u, t ≤ u → u < 64 → β u = γ u) → ev S β r = ev S γ r) : t ≤ topOf S r := by
  by_cases h2 : r < 2
  · rw [topOf_low h2]; exact ht
  · obtain ⟨i, m, rfl, hm⟩ := has_node hr h2
    rw [topOf_node hm]
    rcases Int.lt_or_le m.1 t with hlt | hge
    · exfalso
      have hc := hW.child hm
      have hok := hW.node i m hm
      refine hok.ne ((ev_eq hW hc.1 hc.2).1 (fun β => ?_))
      have e1 := h (setb β m.1 false) (setb β m.1 true) (fun u hu _ => by unfold setb; rw [if_neg (by omega), if_neg (by omega)])
      rw [ev_node hW _ hm, ev_node hW _ hm] at e1
      rw [if_neg (by simp [setb]), if_pos (by simp [setb])] at e1
      have s1 : ev S (setb β m.1 false) m.2.1 = ev S β m.2.1 := ev_same hW _ _ (Nat.le_refl _) hc.1 _ _ (fun u hu _ => by have := hok.tlo; unfold setb; rw [if_neg (by omega)])
      have s2 : ev S (setb β m.1 true) m.2.2 = ev S β m.2.2 := ev_same hW _ _ (Nat.le_refl _) hc.2 _ _ (fun u hu _ => by have := hok.thi; unfold setb; rw [if_neg (by omega)])
      rw [s1, s2] at e1
      exact e1
    · exact hge
/-- A node that is there is found. -/
theorem rnode_there (hW : Wf S) (hf : S.full = false) (hr : S.has r) {v : Int} (hv : v ≤ topOf S r) (hv64 : v < 64) : rnode (rOf S) v (splitOf S r v).1 (splitOf S r v).2 = (rOf S, r) := by
  unfold splitOf
  by_cases e : topOf S r = v
  · have h2 : ¬ r < 2 := fun h2 => by rw [topOf_low h2] at e; omega
    obtain ⟨i, m, rfl, hm⟩ := has_node hr h2
    have hok := hW.node i m hm
    rw [topOf_node hm] at e
    have hi2 : ((i : Int) + 2 - 2).toNat = i := by omega
    rw [topOf_node hm, if_pos e, hi2, hm]
    simp only [Option.getD_some]
    unfold rnode
    rw [if_neg (by show ¬ (m.2.1 = m.2.2 ∨ S.full = true); rw [hf]; simp [hok.ne])]
    have : findN (rOf S).L (v, m.2.1, m.2.2) 0 = some ((i : Int) + 2) := by
      show findN S.nodes _ 0 = _
      rw [findN_byn hW]
      exact (hW.byn _ _).2 ⟨i, rfl, by rw [hm, ← e]⟩
    rw [this]
  · rw [if_neg e]
    simp only
    unfold rnode
    rw [if_pos (.inl rfl)]
/-- What is there already is told, and nothing is made. -/
theorem rite_known : ∀ (n : Nat) (c a b r : Int), Wf S → S.full = false → S.has c → S.has a → S.has b → S.has r → (∀ β, ev S β r = if ev S β c then ev S β a else ev S β b) → 64 - low S c a b < n → rite n (rOf S) c a b = (rOf S, r) := by
  intro n
  induction n with
  | zero => intro c a b r h _ hc _ _ _ _ hn; have := (low_le S c a b).1; have := topOf_le h hc; omega
  | succ n ih =>
    intro c a b r h hf hc ha hb hr he hn
    have hfr : (rOf S).full = false := hf
    unfold rite
    rw [if_neg (by rw [hfr]; simp)]
    by_cases e1 : c = 1 ∨ a = b
    · rw [if_pos e1]
      have : a = r := (ev_eq h ha hr).1 (fun β => by
        rw [he β]
        rcases e1 with e1 | e1
        · rw [e1, ev_low _ (show (1 : Int) < 2 by omega)]; rfl
        · rw [e1]; split <;> rfl)
      rw [this]
    · rw [if_neg e1]
      by_cases e2 : c = 0
      · rw [if_pos e2]
        have : b = r := (ev_eq h hb hr).1 (fun β => by rw [he β, e2, ev_low _ (show (0 : Int) < 2 by omega)]; rfl)
        rw [this]
      · rw [if_neg e2]
        by_cases e3 : a = 1 ∧ b = 0
        · rw [if_pos e3]
          have : c = r := (ev_eq h hc hr).1 (fun β => by rw [he β, e3.1, e3.2, ev_low _ (show (1 : Int) < 2 by omega), ev_low _ (show (0 : Int) < 2 by omega)]; cases ev S β c <;> rfl)
          rw [this]
        · rw [if_neg e3]
          obtain ⟨l1, l2, l3⟩ := low_le S c a b
          have hc2 : ¬ c < 2 := fun h2 => by have := hc.1; simp at e1; omega
          have hl64 : low S c a b < 64 := by
            obtain ⟨i, m, rfl, hm⟩ := has_node hc hc2
            rw [topOf_node hm] at l1
            have := (h.node i m hm).v64; omega
          simp only [rlow_sim hc ha hb]
          generalize hv : low S c a b = v at *
          obtain ⟨c1, c2, c3, c4, c5⟩ := split_ok h hc l1 hl64
          obtain ⟨a1, a2, a3, a4, a5⟩ := split_ok h ha l2 hl64
          obtain ⟨b1, b2, b3, b4, b5⟩ := split_ok h hb l3 hl64
          have hrt : v ≤ topOf S r := top_ge h hr (by omega) (fun β γ hbg => by
            rw [he, he]
            have s : ∀ d, S.has d → v ≤ topOf S d → ev S β d = ev S γ d := fun d hd ht => ev_same h _ _ (Nat.le_refl _) hd _ _ (fun u hu hu2 => hbg u (by omega) hu2)
            rw [s c hc l1, s a ha l2, s b hb l3])
          obtain ⟨r1, r2, r3, r4, r5⟩ := split_ok h hr hrt hl64
          have hlow1 := lt_low c3 a3 b3
          have hlow2 := lt_low c4 a4 b4
          have fix : ∀ (t : Bool) (β : Int → Bool) (d : Int), S.has d → v < topOf S d → ev S (setb β v t) d = ev S β d := fun t β d hd ht => ev_same h _ _ (Nat.le_refl _) hd _ _ (fun u hu _ => by unfold setb; rw [if_neg (by omega)])
          have I1 := ih _ _ _ (splitOf S r v).1 h hf c1 a1 b1 r1 (fun β => by
            have := he (setb β v false)
            rw [r5, c5, a5, b5] at this
            simp only [show setb β v false v = false by simp [setb], Bool.false_eq_true, if_false] at this
            rw [fix _ _ _ r1 r3, fix _ _ _ c1 c3, fix _ _ _ a1 a3, fix _ _ _ b1 b3] at this
            exact this) (by omega)
          have I2 := ih _ _ _ (splitOf S r v).2 h hf c2 a2 b2 r2 (fun β => by
            have := he (setb β v true)
            rw [r5, c5, a5, b5] at this
            simp only [show setb β v true v = true by simp [setb], if_true] at this
            rw [fix _ _ _ r2 r4, fix _ _ _ c2 c4, fix _ _ _ a2 a4, fix _ _ _ b2 b4] at this
            exact this) (by omega)
          rw [(rpart_sim hc v).1, (rpart_sim ha v).1, (rpart_sim hb v).1, I1]
          simp only
          rw [(rpart_sim hc v).2, (rpart_sim ha v).2, (rpart_sim hb v).2, I2]
          exact rnode_there h hf hr hrt hl64
theorem rite_full (n : Nat) {R : RSt} (h : R.full = true) (c a b : Int) : (rite n R c a b).1 = R := by
  cases n with
  | zero => rfl
  | succ n => unfold rite; rw [if_pos h]
theorem rnode_full {R : RSt} (h : R.full = true) (v lo hi : Int) : rnode R v lo hi = (R, lo) := by unfold rnode; rw [if_pos (.inr h)]
theorem rite_sim : ∀ (n m : Nat) (S : Sto) (c a b : Int), n ≤ m → Wf S → S.full = false → S.has c → S.has a → S.has b → 64 - low S c a b < n →
    (rite m (rOf S) c a b).1 = rOf (iteN n S c a b).1 ∧ ∀ r, (iteN n S c a b).2 = some r → (rite m (rOf S) c a b).2 = r := by
  intro n
  induction n with
  | zero => intro m S c a b _ h _ hc _ _ hn; have := (low_le S c a b).1; have := topOf_le h hc; omega
  | succ n ih =>
    intro m S c a b hm h hf hc ha hb hn
    obtain ⟨m, rfl⟩ : ∃ k, m = k + 1 := ⟨m - 1, by omega⟩
    have O := iteN_ok (n + 1) S c a b h hc ha hb hn
    cases ht0 : aget S.told (c, a, b) with
    | some r =>
      by_cases e : (c = 1 ∨ a = b) ∨ c = 0 ∨ (a = 1 ∧ b = 0)
      · have hfr : (rOf S).full = false := hf
        unfold rite iteN
        rw [if_neg (by rw [hfr]; simp)]
        by_cases e1 : c = 1 ∨ a = b
        · rw [if_pos e1, if_pos e1]; exact ⟨rfl, fun r h => by simpa using h⟩
        · rw [if_neg e1, if_neg e1]
          by_cases e2 : c = 0
          · rw [if_pos e2, if_pos e2]; exact ⟨rfl, fun r h => by simpa using h⟩
          · rw [if_neg e2, if_neg e2]
            by_cases e3 : a = 1 ∧ b = 0
            · rw [if_pos e3, if_pos e3]; exact ⟨rfl, fun r h => by simpa using h⟩
            · rcases e with e | e | e
              · exact absurd e e1
              · exact absurd e e2
              · exact absurd e e3
      · have hi : iteN (n + 1) S c a b = (S, some r) := by
          unfold iteN
          rw [if_neg (fun h => e (.inl h)), if_neg (fun h => e (.inr (.inl h))), if_neg (fun h => e (.inr (.inr h)))]
          simp only [ht0]
        obtain ⟨_, _, _, t4, _, t6⟩ := h.told c a b r ht0
        rw [hi, rite_known (m + 1) c a b r h hf hc ha hb t4 t6 (by omega)]
        exact ⟨rfl, fun r h => by simpa using h⟩
    | none =>
      have hfr : (rOf S).full = false := hf
      unfold rite iteN
      rw [if_neg (by rw [hfr]; simp)]
      by_cases e1 : c = 1 ∨ a = b
      · rw [if_pos e1, if_pos e1]; exact ⟨rfl, fun r h => by simpa using h⟩
      · rw [if_neg e1, if_neg e1]
        by_cases e2 : c = 0
        · rw [if_pos e2, if_pos e2]; exact ⟨rfl, fun r h => by simpa using h⟩
        · rw [if_neg e2, if_neg e2]
          by_cases e3 : a = 1 ∧ b = 0
          · rw [if_pos e3, if_pos e3]; exact ⟨rfl, fun r h => by simpa using h⟩
          · rw [if_neg e3, if_neg e3]
            obtain ⟨l1, l2, l3⟩ := low_le S c a b
            have hc2 : ¬ c < 2 := fun h2 => by have := hc.1; simp at e1; omega
            have hl64 : low S c a b < 64 := by
              obtain ⟨i, q, rfl, hq⟩ := has_node hc hc2
              rw [topOf_node hq] at l1
              have := (h.node i q hq).v64; omega
            simp only [rlow_sim hc ha hb, ht0]
            generalize hv : low S c a b = v at *
            obtain ⟨c1, c2, c3, c4, c5⟩ := split_ok h hc l1 hl64
            obtain ⟨a1, a2, a3, a4, a5⟩ := split_ok h ha l2 hl64
            obtain ⟨b1, b2, b3, b4, b5⟩ := split_ok h hb l3 hl64
            have hlow1 := lt_low c3 a3 b3
            have hlow2 := lt_low c4 a4 b4
            have O1 := iteN_ok n S _ _ _ h c1 a1 b1 (by omega)
            have I1 := ih m S _ _ _ (by omega) h hf c1 a1 b1 (by omega)
            rw [(rpart_sim hc v).1, (rpart_sim ha v).1, (rpart_sim hb v).1]
            generalize hX : rite m (rOf S) (splitOf S c v).1 (splitOf S a v).1 (splitOf S b v).1 = X at I1
            generalize hR1 : iteN n S (splitOf S c v).1 (splitOf S a v).1 (splitOf S b v).1 = R1 at I1 O1
            obtain ⟨X1, X2⟩ := X
            obtain ⟨S1, o1⟩ := R1
            obtain ⟨i1, i2⟩ := I1
            simp only at i1 i2
            subst i1
            cases o1 with
            | none =>
              have hf1 : (rOf S1).full = true := (O1.full' rfl).1
              simp only
              rw [rnode_full (by rw [rite_full m hf1]; exact hf1), rite_full m hf1]
              exact ⟨rfl, fun r h => by simp at h⟩
            | some lo =>
              have hlo := i2 lo rfl
              subst hlo
              have g1 := O1.grows
              have wf1 := O1.wf
              have f1 := O1.full rfl
              obtain ⟨lo1, _, _⟩ := O1.has _ rfl
              simp only at g1 wf1 f1 lo1
              rw [hf] at f1
              have t2 := g1.low c2 a2 b2
              have O2 := iteN_ok n S1 _ _ _ wf1 (g1.has c2) (g1.has a2) (g1.has b2) (by rw [t2]; omega)
              have I2 := ih m S1 _ _ _ (by omega) wf1 f1 (g1.has c2) (g1.has a2) (g1.has b2) (by rw [t2]; omega)
              simp only
              rw [(rpart_sim (g1.has hc) v).2, (rpart_sim (g1.has ha) v).2, (rpart_sim (g1.has hb) v).2, g1.split hc hl64, g1.split ha hl64, g1.split hb hl64]
              generalize hY : rite m (rOf S1) (splitOf S c v).2 (splitOf S a v).2 (splitOf S b v).2 = Y at I2
              generalize hR2 : iteN n S1 (splitOf S c v).2 (splitOf S a v).2 (splitOf S b v).2 = R2 at I2 O2
              obtain ⟨Y1, Y2⟩ := Y
              obtain ⟨S2, o2⟩ := R2
              obtain ⟨j1, j2⟩ := I2
              simp only at j1 j2
              subst j1
              cases o2 with
              | none =>
                have hf2 : (rOf S2).full = true := (O2.full' rfl).1
                simp only
                rw [rnode_full hf2]
                exact ⟨rfl, fun r h => by simp at h⟩
              | some hi =>
                have hhi := j2 hi rfl
                subst hhi
                have f2 := O2.full rfl
                have wf2 := O2.wf
                simp only at f2 wf2
                rw [f1] at f2
                simp only
                rw [rnode_sim wf2 f2]
                generalize mkN S2 v X2 Y2 = R3
                obtain ⟨S3, o3⟩ := R3
                cases o3 with
                | none => exact ⟨rfl, fun r h => by simp at h⟩
                | some r => exact ⟨rfl, fun r' h => by simpa using h⟩
theorem rright_sim (S : Sto) (x : Int) : rright (rOf S) x = rightOf S x := by
  unfold rright rightOf rOf
  simp only
  by_cases h : x < 0 ∨ (S.nodes.length : Int) + 2 ≤ x
  · rw [if_neg (by omega), if_pos h]
  · rw [if_pos (by omega), if_neg h]
theorem iteV_sim (hW : Wf S) (x y z : Int) : rIteV (rOf S) x y z = (rOf (iteV S x y z).1, (iteV S x y z).2) := by
  unfold rIteV iteV madeR rmade
  rw [rright_sim, rright_sim, rright_sim]
  cases hf : S.full with
  | true =>
    have hfr : (rOf S).full = true := hf
    rw [rite_full 66 hfr, if_pos hfr]; rfl
  | false =>
    have g1 := topOf_ge hW (has_right (S := S) x); have g2 := topOf_ge hW (has_right (S := S) y); have g3 := topOf_ge hW (has_right (S := S) z)
    have hl : 64 - low S (rightOf S x) (rightOf S y) (rightOf S z) < (65 : Nat) := by unfold low; omega
    have I := rite_sim 65 66 S _ _ _ (by omega) hW hf (has_right x) (has_right y) (has_right z) hl
    have O := iteR_ok hW x y z
    simp only [Bool.false_eq_true, if_false]
    change _ = rOf (iteR S x y z).1 ∧ ∀ r, (iteR S x y z).2 = some r → _ at I
    rw [I.1]
    cases ho : (iteR S x y z).2 with
    | none =>
      have : (rOf (iteR S x y z).1).full = true := (O.full' ho).1
      rw [if_pos this]; rfl
    | some r =>
      have : (rOf (iteR S x y z).1).full = false := (O.full (by rw [ho]; rfl)).trans hf
      rw [if_neg (by rw [this]; simp), I.2 r ho]; rfl
theorem varV_sim (hW : Wf S) (v : Int) : rVarV (rOf S) v = (rOf (varV S v).1, (varV S v).2) := by
  unfold rVarV varV
  by_cases h0 : v < 0 ∨ 64 ≤ v
  · rw [if_pos (by omega), if_pos h0]
  · rw [if_neg (by omega), if_neg h0]
    unfold madeR rmade
    cases hf : S.full with
    | true =>
      have hfr : (rOf S).full = true := hf
      rw [rnode_full hfr, if_pos hfr]; rfl
    | false =>
      have t0 : topOf S 0 = 64 := topOf_low (by omega)
      have t1 : topOf S 1 = 64 := topOf_low (by omega)
      have M := mkN_ok hW (v := v) (by omega) (by omega) (has_zero S) (has_one S) (by omega) (by omega)
      rw [rnode_sim hW hf]
      simp only [Bool.false_eq_true, if_false]
      cases ho : (mkN S v 0 1).2 with
      | none =>
        have : (rOf (mkN S v 0 1).1).full = true := (M.full' ho).1
        rw [if_pos this]; rfl
      | some r =>
        have : (rOf (mkN S v 0 1).1).full = false := (M.full (by rw [ho]; rfl)).trans hf
        rw [if_neg (by rw [this]; simp)]
end
end Go.Proofs.Ytboekafmplomhaa
set_option linter.unusedVariables false
set_option linter.unusedSimpArgs false
namespace Go.Proofs.Ytboekafmplomhaa
open Go.RowKit

/-- Block q is the document's store R; F are the blocks that it stands on. -/
def RIs (w : World) (q : Nat) (F : List Nat) (R : RSt) : Prop :=
  ∃ sv G, w.heap[q]? = some (.cells #[.int .i64 R.cap, sv, .bool R.full] 72 (0, 0)) ∧ RowIs w sv G 39 3 R.L.length (flat R.L) ∧ F = q :: G.toList ∧ F.Nodup
theorem RIs.lt {w : World} {q : Nat} {F : List Nat} {R : RSt} (h : RIs w q F R) : ∀ k ∈ F, k < w.heap.size := by
  obtain ⟨sv, G, h1, h2, rfl, _⟩ := h
  intro k hk
  simp only [List.mem_cons, Option.mem_toList] at hk
  rcases hk with rfl | hk
  · exact (Array.getElem?_eq_some_iff.1 h1).1
  · exact h2.lt k hk
theorem RIs.mem {w : World} {q : Nat} {F : List Nat} {R : RSt} (h : RIs w q F R) : q ∈ F := by
  obtain ⟨_, _, _, _, rfl, _⟩ := h; simp
theorem RIs.keep {w w' : World} {q : Nat} {F : List Nat} {R : RSt} (h : RIs w q F R) (hk : ∀ k ∈ F, w'.heap[k]? = w.heap[k]?) : RIs w' q F R := by
  obtain ⟨sv, G, h1, h2, rfl, h5⟩ := h
  exact ⟨sv, G, by rw [hk q (by simp)]; exact h1, h2.keep (fun g hg => hk g (by simp [hg])), rfl, h5⟩
theorem RIs.ext {w : World} {q : Nat} {F : List Nat} {R : RSt} (h : RIs w q F R) (m : Array Obj) (d : Nat) : RIs (w.ext m d) q F R := h.keep (fun k hk => World.heap_ext _ _ _ (h.lt k hk))
theorem RIs.below {w w' : World} {q : Nat} {F : List Nat} {R : RSt} (h : RIs w q F R) (hb : Below w.heap.size w w') : RIs w' q F R := h.keep (fun k hk => hb.block k (h.lt k hk))
theorem RIs.cells {w : World} {q : Nat} {F : List Nat} {R : RSt} (h : RIs w q F R) :
    ∃ (a : Option Addr) (cap' : Nat), q < w.heap.size ∧ w.cell? ⟨q, 0, none⟩ = some (.int .i64 R.cap) ∧ w.cell? ⟨q, 1, none⟩ = some (.slice a R.L.length cap') ∧ w.cell? ⟨q, 2, none⟩ = some (.bool R.full) ∧ R.L.length ≤ 9223372036854775807 := by
  obtain ⟨sv, G, h1, h2, _⟩ := h
  obtain ⟨a, cap', rfl, hm⟩ := h2.form
  unfold maxLen at hm
  refine ⟨a, cap', (Array.getElem?_eq_some_iff.1 h1).1, ?_, ?_, ?_, by omega⟩ <;> simp [World.cell?, h1]
theorem RIs.node {w : World} {q : Nat} {F : List Nat} {R : RSt} (h : RIs w q F R) {i : Nat} {n : Nd} (hn : R.L[i]? = some n) :
    ∃ (g cap' : Nat), q < w.heap.size ∧ g < w.heap.size ∧ w.cell? ⟨q, 0, none⟩ = some (.int .i64 R.cap) ∧ w.cell? ⟨q, 1, none⟩ = some (.slice (some ⟨g, 0, none⟩) R.L.length cap') ∧ w.cell? ⟨q, 2, none⟩ = some (.bool R.full) ∧
      w.cell? ⟨g, i * 3, none⟩ = some (.int .i64 n.1) ∧ w.cell? ⟨g, i * 3 + 1, none⟩ = some (.int .i64 n.2.1) ∧ w.cell? ⟨g, i * 3 + 2, none⟩ = some (.int .i64 n.2.2) := by
  obtain ⟨sv, G, h1, h2, _⟩ := h
  have hi := (List.getElem?_eq_some_iff.1 hn).1
  obtain ⟨f0, f1, f2⟩ := flat_at R.L i n hn
  obtain ⟨g, cap', e1, e2, c0, _⟩ := RowIs.at h2 hi (j := 0) (by omega)
  obtain ⟨g', cap'', e1', e2', c1, _⟩ := RowIs.at h2 hi (j := 1) (by omega)
  obtain ⟨g'', cap''', e1'', e2'', c2, _⟩ := RowIs.at h2 hi (j := 2) (by omega)
  rw [e2] at e2' e2''
  cases e2'
  cases e2''
  rw [f1] at c1
  rw [f2] at c2
  rw [Nat.add_zero, f0] at c0
  exact ⟨g, cap', (Array.getElem?_eq_some_iff.1 h1).1, RowIs.lt h2 g e2, by simp [World.cell?, h1], by rw [← e1]; simp [World.cell?, h1], by simp [World.cell?, h1], c0, c1, c2⟩

section
variable {w : World} {q : Nat} {F : List Nat} {S : Sto}
theorem rtop_any (h : RIs w q F (rOf S)) (hW : Wf S) (a : Int) (ha : S.has a) :
    Calls Try.prog 154 #[.pointer (some ⟨q, 0, none⟩), .int .i64 a] w (Pure (.int .i64 (topOf S a)) w) := by
  have hl : S.nodes.length ≤ 1048576 := by have := hW.len; have := hW.cap; omega
  by_cases h2 : a < 2
  · have h1 : ¬ 1 < a := by omega
    rw [topOf_low h2]
    clear ha
    go_enter Try.func154, Try.ntmps154
    go_wp2
    go_returns
    exact Pure.of rfl (by (repeat' (first | (with_reducible exact Below.refl _ _) | (with_reducible refine Below.ext_mk ?_ ?_ _ _) | (with_reducible refine Below.alloc ?_ ?_ _) | (with_reducible refine Below.drew ?_) | (with_reducible refine Below.setCell ?_ ?_ _) | go_size)))
  · obtain ⟨i, n, rfl, hn⟩ := has_node ha h2
    have h1 : 1 < (i : Int) + 2 := by omega
    obtain ⟨g, cap', zq, zg, c0, c1, c2, d0, d1, d2⟩ := h.node (show (rOf S).L[i]? = some n from hn)
    rw [topOf_node hn]
    have hi := (List.getElem?_eq_some_iff.1 hn).1
    have hL : (rOf S).L.length = S.nodes.length := rfl
    rw [hL] at c1
    have hb : IntKind.i64.wrap (i : Int) = (i : Int) := IntWalk.i64_in _ (by omega)
    have hi1 : (i : Int) < (S.nodes.length : Int) := by omega
    have hi2 : (0 : Int) ≤ (i : Int) := by omega
    clear hn h ha hL c0 c2 d1 d2
    go_enter Try.func154, Try.ntmps154
    go_wp2
    go_returns
    exact Pure.of rfl (by (repeat' (first | (with_reducible exact Below.refl _ _) | (with_reducible refine Below.ext_mk ?_ ?_ _ _) | (with_reducible refine Below.alloc ?_ ?_ _) | (with_reducible refine Below.drew ?_) | (with_reducible refine Below.setCell ?_ ?_ _) | go_size)))
theorem rpart_any (h : RIs w q F (rOf S)) (hW : Wf S) (a v : Int) (ha : S.has a) (hv : v < 64) (on : Bool) :
    Calls Try.prog 155 #[.pointer (some ⟨q, 0, none⟩), .int .i64 a, .int .i64 v, .bool on] w (Pure (.int .i64 (rpart (rOf S) a v on)) w) := by
  have hl : S.nodes.length ≤ 1048576 := by have := hW.len; have := hW.cap; omega
  have T := rtop_any h hW a ha
  by_cases hv' : topOf S a = v
  · have h2 : ¬ a < 2 := fun h2 => by rw [topOf_low h2] at hv'; omega
    obtain ⟨i, n, rfl, hn⟩ := has_node ha h2
    obtain ⟨g, cap', zq, zg, c0, c1, c2, d0, d1, d2⟩ := h.node (show (rOf S).L[i]? = some n from hn)
    have hi := (List.getElem?_eq_some_iff.1 hn).1
    have hL : (rOf S).L.length = S.nodes.length := rfl
    rw [hL] at c1
    have e : rpart (rOf S) ((i : Int) + 2) v on = if on then n.2.2 else n.2.1 := by
      unfold rpart
      rw [rtop_sim ha, if_neg (by simpa using hv')]
      have : rnd (rOf S) ((i : Int) + 2) = n := nodeOf_is hn
      rw [this]
    rw [e]
    rw [hv'] at T
    have hb : IntKind.i64.wrap (i : Int) = (i : Int) := IntWalk.i64_in _ (by omega)
    have hi1 : (i : Int) < (S.nodes.length : Int) := by omega
    have hi2 : (0 : Int) ≤ (i : Int) := by omega
    clear hn h ha hL c0 c2 d0 e hv' h2
    cases on
    · go_enter Try.func155, Try.ntmps155
      go_wp2_with (go_at_call 154; refine T.mono ?_; rintro e w' ⟨rfl, m1, d1, rfl⟩)
      go_returns
      exact Pure.of rfl (by (repeat' (first | (with_reducible exact Below.refl _ _) | (with_reducible refine Below.ext_mk ?_ ?_ _ _) | (with_reducible refine Below.alloc ?_ ?_ _) | (with_reducible refine Below.drew ?_) | (with_reducible refine Below.setCell ?_ ?_ _) | go_size)))
    · go_enter Try.func155, Try.ntmps155
      go_wp2_with (go_at_call 154; refine T.mono ?_; rintro e w' ⟨rfl, m1, d1, rfl⟩)
      go_returns
      exact Pure.of rfl (by (repeat' (first | (with_reducible exact Below.refl _ _) | (with_reducible refine Below.ext_mk ?_ ?_ _ _) | (with_reducible refine Below.alloc ?_ ?_ _) | (with_reducible refine Below.drew ?_) | (with_reducible refine Below.setCell ?_ ?_ _) | go_size)))
  · have e : rpart (rOf S) a v on = a := by unfold rpart; rw [rtop_sim ha, if_pos hv']
    rw [e]
    have hne : (topOf S a == v) = false := by simpa using hv'
    clear e h ha hv'
    generalize topOf S a = t at *
    go_enter Try.func155, Try.ntmps155
    go_wp2_with (go_at_call 154; refine T.mono ?_; rintro e w' ⟨rfl, m1, d1, rfl⟩)
    go_returns
    exact Pure.of rfl (by (repeat' (first | (with_reducible exact Below.refl _ _) | (with_reducible refine Below.ext_mk ?_ ?_ _ _) | (with_reducible refine Below.alloc ?_ ?_ _) | (with_reducible refine Below.drew ?_) | (with_reducible refine Below.setCell ?_ ?_ _) | go_size)))
theorem rright_any {R : RSt} (h : RIs w q F R) (hl : R.L.length ≤ 1048576) (x : Int) :
    Calls Try.prog 107 #[.pointer (some ⟨q, 0, none⟩), .int .i64 x] w (Pure (.int .i64 (rright R x)) w) := by
  obtain ⟨a, cap', zq, c0, c1, c2, _⟩ := h.cells
  have hw : IntKind.i64.wrap ((R.L.length : Int) + 2) = (R.L.length : Int) + 2 := IntWalk.i64_in _ (by omega)
  clear h
  by_cases h0 : 0 ≤ x
  · by_cases h1 : x < (R.L.length : Int) + 2
    · have e : rright R x = x := by unfold rright; rw [if_pos ⟨h0, h1⟩]
      rw [e]
      go_enter Try.func107, Try.ntmps107
      go_wp2
      go_returns
      exact Pure.of rfl (by (repeat' (first | (with_reducible exact Below.refl _ _) | (with_reducible refine Below.ext_mk ?_ ?_ _ _) | (with_reducible refine Below.alloc ?_ ?_ _) | (with_reducible refine Below.drew ?_) | (with_reducible refine Below.setCell ?_ ?_ _) | go_size)))
    · have e : rright R x = 0 := by unfold rright; rw [if_neg (by omega)]
      rw [e]
      go_enter Try.func107, Try.ntmps107
      go_wp2
      go_returns
      exact Pure.of rfl (by (repeat' (first | (with_reducible exact Below.refl _ _) | (with_reducible refine Below.ext_mk ?_ ?_ _ _) | (with_reducible refine Below.alloc ?_ ?_ _) | (with_reducible refine Below.drew ?_) | (with_reducible refine Below.setCell ?_ ?_ _) | go_size)))
  · have e : rright R x = 0 := by unfold rright; rw [if_neg (by omega)]
    rw [e]
    go_enter Try.func107, Try.ntmps107
    go_wp2
    go_returns
    exact Pure.of rfl (by (repeat' (first | (with_reducible exact Below.refl _ _) | (with_reducible refine Below.ext_mk ?_ ?_ _ _) | (with_reducible refine Below.alloc ?_ ?_ _) | (with_reducible refine Below.drew ?_) | (with_reducible refine Below.setCell ?_ ?_ _) | go_size)))
theorem rmade_any {R : RSt} (h : RIs w q F R) (x : Int) :
    Calls Try.prog 111 #[.pointer (some ⟨q, 0, none⟩), .int .i64 x] w (Pure (.int .i64 (if R.full = true then 0 else x)) w) := by
  obtain ⟨a, cap', zq, c0, c1, c2, _⟩ := h.cells
  clear h
  cases hf : R.full
  · rw [hf] at c2
    go_enter Try.func111, Try.ntmps111
    go_wp2
    go_returns
    exact Pure.of rfl (by (repeat' (first | (with_reducible exact Below.refl _ _) | (with_reducible refine Below.ext_mk ?_ ?_ _ _) | (with_reducible refine Below.alloc ?_ ?_ _) | (with_reducible refine Below.drew ?_) | (with_reducible refine Below.setCell ?_ ?_ _) | go_size)))
  · rw [hf] at c2
    go_enter Try.func111, Try.ntmps111
    go_wp2
    go_returns
    exact Pure.of rfl (by (repeat' (first | (with_reducible exact Below.refl _ _) | (with_reducible refine Below.ext_mk ?_ ?_ _ _) | (with_reducible refine Below.alloc ?_ ?_ _) | (with_reducible refine Below.drew ?_) | (with_reducible refine Below.setCell ?_ ?_ _) | go_size)))
end
end Go.Proofs.Ytboekafmplomhaa
