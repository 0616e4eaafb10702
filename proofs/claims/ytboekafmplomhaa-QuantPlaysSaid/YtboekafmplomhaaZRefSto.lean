/-
  The document's store in plain Lean, and that it tells what the program's store tells.
-/
import Derived.Test.YtboekafmplomhaaZQuantC
import Derived.Test.YtboekafmplomhaaZMadeP
set_option linter.unusedVariables false
set_option linter.unusedSimpArgs false
namespace Go.Proofs.Ytboekafmplomhaa

/-- The document's store. -/
structure RSt where
  cap : Int
  L : List Nd
  full : Bool
/-- The document's store that is like a program's. -/
def rOf (S : Sto) : RSt := ⟨S.cap, S.nodes, S.full⟩
def findN : List Nd → Nd → Nat → Option Int
  | [], _, _ => none
  | m :: r, n, k => if m = n then some ((k : Int) + 2) else findN r n (k + 1)
def rnode (R : RSt) (v lo hi : Int) : RSt × Int :=
  if lo = hi ∨ R.full = true then (R, lo) else
  match findN R.L (v, lo, hi) 0 with
  | some i => (R, i)
  | none => if R.cap ≤ (R.L.length : Int) then (⟨R.cap, R.L, true⟩, 0) else (⟨R.cap, R.L ++ [(v, lo, hi)], R.full⟩, (R.L.length : Int) + 2)
def rnd (R : RSt) (a : Int) : Nd := (R.L[(a - 2).toNat]?).getD (0, 0, 0)
def rtop (R : RSt) (a : Int) : Int := if 1 < a then (rnd R a).1 else 64
def rpart (R : RSt) (a v : Int) (on : Bool) : Int := if rtop R a ≠ v then a else if on then (rnd R a).2.2 else (rnd R a).2.1
def rlow (R : RSt) (c a b : Int) : Int := min (min (rtop R c) (rtop R a)) (rtop R b)
def rright (R : RSt) (a : Int) : Int := if 0 ≤ a ∧ a < (R.L.length : Int) + 2 then a else 0
def rite : Nat → RSt → Int → Int → Int → RSt × Int
  | 0, R, _, _, _ => (R, 0)
  | n + 1, R, c, a, b =>
    if R.full = true then (R, 0) else if c = 1 ∨ a = b then (R, a) else if c = 0 then (R, b) else if a = 1 ∧ b = 0 then (R, c) else
    let v := rlow R c a b
    let X := rite n R (rpart R c v false) (rpart R a v false) (rpart R b v false)
    let Y := rite n X.1 (rpart X.1 c v true) (rpart X.1 a v true) (rpart X.1 b v true)
    rnode Y.1 v X.2 Y.2
def rmade (X : RSt × Int) : RSt × Int := (X.1, if X.1.full = true then 0 else X.2)
def rIteV (R : RSt) (x y z : Int) : RSt × Int := rmade (rite 66 R (rright R x) (rright R y) (rright R z))
def rVarV (R : RSt) (v : Int) : RSt × Int := if v < 0 ∨ 63 < v then (R, 0) else rmade (rnode R v 0 1)
def runder (v : Int) (on : Bool) : Nat → RSt → Int → RSt × Int
  | 0, R, a => (R, a)
  | n + 1, R, a =>
    if R.full = true ∨ a < 2 ∨ v < (rnd R a).1 then (R, a) else
    if (rnd R a).1 = v ∧ on = true then (R, (rnd R a).2.2) else if (rnd R a).1 = v then (R, (rnd R a).2.1) else
    let X := runder v on n R (rnd R a).2.1
    let Y := runder v on n X.1 (rnd R a).2.2
    rnode Y.1 (rnd R a).1 X.2 Y.2
def rUnderV (R : RSt) (a v : Int) (on : Bool) : RSt × Int := rmade (runder v on 66 R (rright R a))

section
variable {S : Sto} {a b c r v : Int}
theorem findN_some : ∀ (L : List Nd) (n : Nd) (k : Nat) (r : Int), findN L n k = some r → ∃ i : Nat, r = ((k + i : Nat) : Int) + 2 ∧ L[i]? = some n
  | [], _, _, _, h => by simp [findN] at h
  | m :: l, n, k, r, h => by
    unfold findN at h
    split at h
    · rename_i e
      simp only [Option.some.injEq] at h
      exact ⟨0, by rw [← h]; simp, by simp [e]⟩
    · obtain ⟨i, h1, h2⟩ := findN_some l n (k + 1) r h
      exact ⟨i + 1, by rw [h1]; omega, by simpa using h2⟩
theorem findN_none : ∀ (L : List Nd) (n : Nd) (k : Nat), findN L n k = none → ∀ i : Nat, L[i]? ≠ some n
  | [], _, _, _, i => by simp
  | m :: l, n, k, h, i => by
    unfold findN at h
    split at h
    · cases h
    · rename_i e
      cases i with
      | zero => simp [e]
      | succ i => simpa using findN_none l n (k + 1) h i
theorem findN_byn (hW : Wf S) (n : Nd) : findN S.nodes n 0 = aget S.byn n := by
  cases h : findN S.nodes n 0 with
  | some r =>
    obtain ⟨i, h1, h2⟩ := findN_some _ _ _ _ h
    exact ((hW.byn n r).2 ⟨i, by rw [h1]; simp, h2⟩).symm
  | none =>
    cases h' : aget S.byn n with
    | none => rfl
    | some r =>
      obtain ⟨i, _, h2⟩ := (hW.byn n r).1 h'
      exact absurd h2 (findN_none _ _ _ h i)
theorem rnode_sim (hW : Wf S) (hf : S.full = false) (v lo hi : Int) : rnode (rOf S) v lo hi = (rOf (mkN S v lo hi).1, (mkN S v lo hi).2.getD 0) := by
  unfold rnode mkN rOf
  simp only
  by_cases e : lo = hi
  · rw [if_pos (.inl e), if_pos e]; rfl
  · rw [if_neg (by rw [hf]; simp [e]), if_neg e, findN_byn hW]
    cases hr : aget S.byn (v, lo, hi) with
    | some r => rfl
    | none =>
      have hl := hW.len
      simp only
      by_cases hc : (S.nodes.length : Int) = S.cap
      · rw [if_pos (by omega), if_pos hc]; rfl
      · rw [if_neg (by omega), if_neg hc]; rfl
theorem rtop_sim (ha : S.has a) : rtop (rOf S) a = topOf S a := by
  unfold rtop topOf rnd rOf
  by_cases h : a < 2
  · rw [if_neg (by omega), if_pos h]
  · rw [if_pos (by omega), if_neg h]
theorem rlow_sim (hc : S.has c) (ha : S.has a) (hb : S.has b) : rlow (rOf S) c a b = low S c a b := by
  unfold rlow low; rw [rtop_sim hc, rtop_sim ha, rtop_sim hb]
theorem rpart_sim (ha : S.has a) (v : Int) : rpart (rOf S) a v false = (splitOf S a v).1 ∧ rpart (rOf S) a v true = (splitOf S a v).2 := by
  unfold rpart splitOf
  rw [rtop_sim ha]
  by_cases e : topOf S a = v
  · have e' : ¬ topOf S a ≠ v := fun h => h e
    rw [if_pos e]
    exact ⟨by rw [if_neg e']; rfl, by rw [if_neg e']; rfl⟩
  · rw [if_neg e]; exact ⟨by rw [if_pos e], by rw [if_pos e]⟩
/-- A diagram that hangs on nothing ahead of t. -/
theorem top_ge (hW : Wf S) (hr : S.has r) {t : Int} (ht : t ≤ 64) (h : ∀ β γ : Int → Bool, (∀ u, t ≤ u → u < 64 → β u = γ u) → ev S β r = ev S γ r) : t ≤ topOf S r := by
  by_cases h2 : r < 2
  · rw [topOf_low h2]; exact ht
  · obtain ⟨i, m, rfl, hm⟩ := has_node hr h2
    rw [topOf_node hm]
    rcases Int.lt_or_le m.1 t with hlt | hge
    · exfalso
      have hc := hW.child hm
      have hok := hW.node i m hm
      refine hok.ne ((ev_eq hW hc.1 hc.2).1 (fun β => ?_))
      have e1 := h (setb β m.1 false) (setb β m.1 true) (fun u hu _ => by unfold setb; rw [if_neg (by omega), if_neg (by omega)])
      rw [ev_node hW _ hm, ev_node hW _ hm] at e1
      rw [if_neg (by simp [setb]), if_pos (by simp [setb])] at e1
      have s1 : ev S (setb β m.1 false) m.2.1 = ev S β m.2.1 := ev_same hW _ _ (Nat.le_refl _) hc.1 _ _ (fun u hu _ => by have := hok.tlo; unfold setb; rw [if_neg (by omega)])
      have s2 : ev S (setb β m.1 true) m.2.2 = ev S β m.2.2 := ev_same hW _ _ (Nat.le_refl _) hc.2 _ _ (fun u hu _ => by have := hok.thi; unfold setb; rw [if_neg (by omega)])
      rw [s1, s2] at e1
      exact e1
    · exact hge
/-- A node that is there is found. -/
theorem rnode_there (hW : Wf S) (hf : S.full = false) (hr : S.has r) {v : Int} (hv : v ≤ topOf S r) (hv64 : v < 64) : rnode (rOf S) v (splitOf S r v).1 (splitOf S r v).2 = (rOf S, r) := by
  unfold splitOf
  by_cases e : topOf S r = v
  · have h2 : ¬ r < 2 := fun h2 => by rw [topOf_low h2] at e; omega
    obtain ⟨i, m, rfl, hm⟩ := has_node hr h2
    have hok := hW.node i m hm
    rw [topOf_node hm] at e
    have hi2 : ((i : Int) + 2 - 2).toNat = i := by omega
    rw [topOf_node hm, if_pos e, hi2, hm]
    simp only [Option.getD_some]
    unfold rnode
    rw [if_neg (by show ¬ (m.2.1 = m.2.2 ∨ S.full = true); rw [hf]; simp [hok.ne])]
    have : findN (rOf S).L (v, m.2.1, m.2.2) 0 = some ((i : Int) + 2) := by
      show findN S.nodes _ 0 = _
      rw [findN_byn hW]
      exact (hW.byn _ _).2 ⟨i, rfl, by rw [hm, ← e]⟩
    rw [this]
  · rw [if_neg e]
    simp only
    unfold rnode
    rw [if_pos (.inl rfl)]
/-- What is there already is told, and nothing is made. -/
theorem rite_known : ∀ (n : Nat) (c a b r : Int), Wf S → S.full = false → S.has c → S.has a → S.has b → S.has r → (∀ β, ev S β r = if ev S β c then ev S β a else ev S β b) → 64 - low S c a b < n → rite n (rOf S) c a b = (rOf S, r) := by
  intro n
  induction n with
  | zero => intro c a b r h _ hc _ _ _ _ hn; have := (low_le S c a b).1; have := topOf_le h hc; omega
  | succ n ih =>
    intro c a b r h hf hc ha hb hr he hn
    have hfr : (rOf S).full = false := hf
    unfold rite
    rw [if_neg (by rw [hfr]; simp)]
    by_cases e1 : c = 1 ∨ a = b
    · rw [if_pos e1]
      have : a = r := (ev_eq h ha hr).1 (fun β => by
        rw [he β]
        rcases e1 with e1 | e1
        · rw [e1, ev_low _ (show (1 : Int) < 2 by omega)]; rfl
        · rw [e1]; split <;> rfl)
      rw [this]
    · rw [if_neg e1]
      by_cases e2 : c = 0
      · rw [if_pos e2]
        have : b = r := (ev_eq h hb hr).1 (fun β => by rw [he β, e2, ev_low _ (show (0 : Int) < 2 by omega)]; rfl)
        rw [this]
      · rw [if_neg e2]
        by_cases e3 : a = 1 ∧ b = 0
        · rw [if_pos e3]
          have : c = r := (ev_eq h hc hr).1 (fun β => by rw [he β, e3.1, e3.2, ev_low _ (show (1 : Int) < 2 by omega), ev_low _ (show (0 : Int) < 2 by omega)]; cases ev S β c <;> rfl)
          rw [this]
        · rw [if_neg e3]
          obtain ⟨l1, l2, l3⟩ := low_le S c a b
          have hc2 : ¬ c < 2 := fun h2 => by have := hc.1; simp at e1; omega
          have hl64 : low S c a b < 64 := by
            obtain ⟨i, m, rfl, hm⟩ := has_node hc hc2
            rw [topOf_node hm] at l1
            have := (h.node i m hm).v64; omega
          simp only [rlow_sim hc ha hb]
          generalize hv : low S c a b = v at *
          obtain ⟨c1, c2, c3, c4, c5⟩ := split_ok h hc l1 hl64
          obtain ⟨a1, a2, a3, a4, a5⟩ := split_ok h ha l2 hl64
          obtain ⟨b1, b2, b3, b4, b5⟩ := split_ok h hb l3 hl64
          have hrt : v ≤ topOf S r := top_ge h hr (by omega) (fun β γ hbg => by
            rw [he, he]
            have s : ∀ d, S.has d → v ≤ topOf S d → ev S β d = ev S γ d := fun d hd ht => ev_same h _ _ (Nat.le_refl _) hd _ _ (fun u hu hu2 => hbg u (by omega) hu2)
            rw [s c hc l1, s a ha l2, s b hb l3])
          obtain ⟨r1, r2, r3, r4, r5⟩ := split_ok h hr hrt hl64
          have hlow1 := lt_low c3 a3 b3
          have hlow2 := lt_low c4 a4 b4
          have fix : ∀ (t : Bool) (β : Int → Bool) (d : Int), S.has d → v < topOf S d → ev S (setb β v t) d = ev S β d := fun t β d hd ht => ev_same h _ _ (Nat.le_refl _) hd _ _ (fun u hu _ => by unfold setb; rw [if_neg (by omega)])
          have I1 := ih _ _ _ (splitOf S r v).1 h hf c1 a1 b1 r1 (fun β => by
            have := he (setb β v false)
            rw [r5, c5, a5, b5] at this
            simp only [show setb β v false v = false by simp [setb], Bool.false_eq_true, if_false] at this
            rw [fix _ _ _ r1 r3, fix _ _ _ c1 c3, fix _ _ _ a1 a3, fix _ _ _ b1 b3] at this
            exact this) (by omega)
          have I2 := ih _ _ _ (splitOf S r v).2 h hf c2 a2 b2 r2 (fun β => by
            have := he (setb β v true)
            rw [r5, c5, a5, b5] at this
            simp only [show setb β v true v = true by simp [setb], if_true] at this
            rw [fix _ _ _ r2 r4, fix _ _ _ c2 c4, fix _ _ _ a2 a4, fix _ _ _ b2 b4] at this
            exact this) (by omega)
          rw [(rpart_sim hc v).1, (rpart_sim ha v).1, (rpart_sim hb v).1, I1]
          simp only
          rw [(rpart_sim hc v).2, (rpart_sim ha v).2, (rpart_sim hb v).2, I2]
          exact rnode_there h hf hr hrt hl64
theorem rite_full (n : Nat) {R : RSt} (h : R.full = true) (c a b : Int) : (rite n R c a b).1 = R := by
  cases n with
  | zero => rfl
  | succ n => unfold rite; rw [if_pos h]
theorem rnode_full {R : RSt} (h : R.full = true) (v lo hi : Int) : rnode R v lo hi = (R, lo) := by unfold rnode; rw [if_pos (.inr h)]
theorem rite_sim : ∀ (n m : Nat) (S : Sto) (c a b : Int), n ≤ m → Wf S → S.full = false → S.has c → S.has a → S.has b → 64 - low S c a b < n →
    (rite m (rOf S) c a b).1 = rOf (iteN n S c a b).1 ∧ ∀ r, (iteN n S c a b).2 = some r → (rite m (rOf S) c a b).2 = r := by
  intro n
  induction n with
  | zero => intro m S c a b _ h _ hc _ _ hn; have := (low_le S c a b).1; have := topOf_le h hc; omega
  | succ n ih =>
    intro m S c a b hm h hf hc ha hb hn
    obtain ⟨m, rfl⟩ : ∃ k, m = k + 1 := ⟨m - 1, by omega⟩
    have O := iteN_ok (n + 1) S c a b h hc ha hb hn
    cases ht0 : aget S.told (c, a, b) with
    | some r =>
      by_cases e : (c = 1 ∨ a = b) ∨ c = 0 ∨ (a = 1 ∧ b = 0)
      · have hfr : (rOf S).full = false := hf
        unfold rite iteN
        rw [if_neg (by rw [hfr]; simp)]
        by_cases e1 : c = 1 ∨ a = b
        · rw [if_pos e1, if_pos e1]; exact ⟨rfl, fun r h => by simpa using h⟩
        · rw [if_neg e1, if_neg e1]
          by_cases e2 : c = 0
          · rw [if_pos e2, if_pos e2]; exact ⟨rfl, fun r h => by simpa using h⟩
          · rw [if_neg e2, if_neg e2]
            by_cases e3 : a = 1 ∧ b = 0
            · rw [if_pos e3, if_pos e3]; exact ⟨rfl, fun r h => by simpa using h⟩
            · rcases e with e | e | e
              · exact absurd e e1
              · exact absurd e e2
              · exact absurd e e3
      · have hi : iteN (n + 1) S c a b = (S, some r) := by
          unfold iteN
          rw [if_neg (fun h => e (.inl h)), if_neg (fun h => e (.inr (.inl h))), if_neg (fun h => e (.inr (.inr h)))]
          simp only [ht0]
        obtain ⟨_, _, _, t4, _, t6⟩ := h.told c a b r ht0
        rw [hi, rite_known (m + 1) c a b r h hf hc ha hb t4 t6 (by omega)]
        exact ⟨rfl, fun r h => by simpa using h⟩
    | none =>
      have hfr : (rOf S).full = false := hf
      unfold rite iteN
      rw [if_neg (by rw [hfr]; simp)]
      by_cases e1 : c = 1 ∨ a = b
      · rw [if_pos e1, if_pos e1]; exact ⟨rfl, fun r h => by simpa using h⟩
      · rw [if_neg e1, if_neg e1]
        by_cases e2 : c = 0
        · rw [if_pos e2, if_pos e2]; exact ⟨rfl, fun r h => by simpa using h⟩
        · rw [if_neg e2, if_neg e2]
          by_cases e3 : a = 1 ∧ b = 0
          · rw [if_pos e3, if_pos e3]; exact ⟨rfl, fun r h => by simpa using h⟩
          · rw [if_neg e3, if_neg e3]
            obtain ⟨l1, l2, l3⟩ := low_le S c a b
            have hc2 : ¬ c < 2 := fun h2 => by have := hc.1; simp at e1; omega
            have hl64 : low S c a b < 64 := by
              obtain ⟨i, q, rfl, hq⟩ := has_node hc hc2
              rw [topOf_node hq] at l1
              have := (h.node i q hq).v64; omega
            simp only [rlow_sim hc ha hb, ht0]
            generalize hv : low S c a b = v at *
            obtain ⟨c1, c2, c3, c4, c5⟩ := split_ok h hc l1 hl64
            obtain ⟨a1, a2, a3, a4, a5⟩ := split_ok h ha l2 hl64
            obtain ⟨b1, b2, b3, b4, b5⟩ := split_ok h hb l3 hl64
            have hlow1 := lt_low c3 a3 b3
            have hlow2 := lt_low c4 a4 b4
            have O1 := iteN_ok n S _ _ _ h c1 a1 b1 (by omega)
            have I1 := ih m S _ _ _ (by omega) h hf c1 a1 b1 (by omega)
            rw [(rpart_sim hc v).1, (rpart_sim ha v).1, (rpart_sim hb v).1]
            generalize hX : rite m (rOf S) (splitOf S c v).1 (splitOf S a v).1 (splitOf S b v).1 = X at I1
            generalize hR1 : iteN n S (splitOf S c v).1 (splitOf S a v).1 (splitOf S b v).1 = R1 at I1 O1
            obtain ⟨X1, X2⟩ := X
            obtain ⟨S1, o1⟩ := R1
            obtain ⟨i1, i2⟩ := I1
            simp only at i1 i2
            subst i1
            cases o1 with
            | none =>
              have hf1 : (rOf S1).full = true := (O1.full' rfl).1
              simp only
              rw [rnode_full (by rw [rite_full m hf1]; exact hf1), rite_full m hf1]
              exact ⟨rfl, fun r h => by simp at h⟩
            | some lo =>
              have hlo := i2 lo rfl
              subst hlo
              have g1 := O1.grows
              have wf1 := O1.wf
              have f1 := O1.full rfl
              obtain ⟨lo1, _, _⟩ := O1.has _ rfl
              simp only at g1 wf1 f1 lo1
              rw [hf] at f1
              have t2 := g1.low c2 a2 b2
              have O2 := iteN_ok n S1 _ _ _ wf1 (g1.has c2) (g1.has a2) (g1.has b2) (by rw [t2]; omega)
              have I2 := ih m S1 _ _ _ (by omega) wf1 f1 (g1.has c2) (g1.has a2) (g1.has b2) (by rw [t2]; omega)
              simp only
              rw [(rpart_sim (g1.has hc) v).2, (rpart_sim (g1.has ha) v).2, (rpart_sim (g1.has hb) v).2, g1.split hc hl64, g1.split ha hl64, g1.split hb hl64]
              generalize hY : rite m (rOf S1) (splitOf S c v).2 (splitOf S a v).2 (splitOf S b v).2 = Y at I2
              generalize hR2 : iteN n S1 (splitOf S c v).2 (splitOf S a v).2 (splitOf S b v).2 = R2 at I2 O2
              obtain ⟨Y1, Y2⟩ := Y
              obtain ⟨S2, o2⟩ := R2
              obtain ⟨j1, j2⟩ := I2
              simp only at j1 j2
              subst j1
              cases o2 with
              | none =>
                have hf2 : (rOf S2).full = true := (O2.full' rfl).1
                simp only
                rw [rnode_full hf2]
                exact ⟨rfl, fun r h => by simp at h⟩
              | some hi =>
                have hhi := j2 hi rfl
                subst hhi
                have f2 := O2.full rfl
                have wf2 := O2.wf
                simp only at f2 wf2
                rw [f1] at f2
                simp only
                rw [rnode_sim wf2 f2]
                generalize mkN S2 v X2 Y2 = R3
                obtain ⟨S3, o3⟩ := R3
                cases o3 with
                | none => exact ⟨rfl, fun r h => by simp at h⟩
                | some r => exact ⟨rfl, fun r' h => by simpa using h⟩
theorem rright_sim (S : Sto) (x : Int) : rright (rOf S) x = rightOf S x := by
  unfold rright rightOf rOf
  simp only
  by_cases h : x < 0 ∨ (S.nodes.length : Int) + 2 ≤ x
  · rw [if_neg (by omega), if_pos h]
  · rw [if_pos (by omega), if_neg h]
theorem iteV_sim (hW : Wf S) (x y z : Int) : rIteV (rOf S) x y z = (rOf (iteV S x y z).1, (iteV S x y z).2) := by
  unfold rIteV iteV madeR rmade
  rw [rright_sim, rright_sim, rright_sim]
  cases hf : S.full with
  | true =>
    have hfr : (rOf S).full = true := hf
    rw [rite_full 66 hfr, if_pos hfr]; rfl
  | false =>
    have g1 := topOf_ge hW (has_right (S := S) x); have g2 := topOf_ge hW (has_right (S := S) y); have g3 := topOf_ge hW (has_right (S := S) z)
    have hl : 64 - low S (rightOf S x) (rightOf S y) (rightOf S z) < (65 : Nat) := by unfold low; omega
    have I := rite_sim 65 66 S _ _ _ (by omega) hW hf (has_right x) (has_right y) (has_right z) hl
    have O := iteR_ok hW x y z
    simp only [Bool.false_eq_true, if_false]
    change _ = rOf (iteR S x y z).1 ∧ ∀ r, (iteR S x y z).2 = some r → _ at I
    rw [I.1]
    cases ho : (iteR S x y z).2 with
    | none =>
      have : (rOf (iteR S x y z).1).full = true := (O.full' ho).1
      rw [if_pos this]; rfl
    | some r =>
      have : (rOf (iteR S x y z).1).full = false := (O.full (by rw [ho]; rfl)).trans hf
      rw [if_neg (by rw [this]; simp), I.2 r ho]; rfl
theorem varV_sim (hW : Wf S) (v : Int) : rVarV (rOf S) v = (rOf (varV S v).1, (varV S v).2) := by
  unfold rVarV varV
  by_cases h0 : v < 0 ∨ 64 ≤ v
  · rw [if_pos (by omega), if_pos h0]
  · rw [if_neg (by omega), if_neg h0]
    unfold madeR rmade
    cases hf : S.full with
    | true =>
      have hfr : (rOf S).full = true := hf
      rw [rnode_full hfr, if_pos hfr]; rfl
    | false =>
      have t0 : topOf S 0 = 64 := topOf_low (by omega)
      have t1 : topOf S 1 = 64 := topOf_low (by omega)
      have M := mkN_ok hW (v := v) (by omega) (by omega) (has_zero S) (has_one S) (by omega) (by omega)
      rw [rnode_sim hW hf]
      simp only [Bool.false_eq_true, if_false]
      cases ho : (mkN S v 0 1).2 with
      | none =>
        have : (rOf (mkN S v 0 1).1).full = true := (M.full' ho).1
        rw [if_pos this]; rfl
      | some r =>
        have : (rOf (mkN S v 0 1).1).full = false := (M.full (by rw [ho]; rfl)).trans hf
        rw [if_neg (by rw [this]; simp)]
theorem rnd_sim (S : Sto) (a : Int) : rnd (rOf S) a = nodeOf S a := rfl
theorem topOf_nodeOf (h2 : ¬ a < 2) : (nodeOf S a).1 = topOf S a := by unfold topOf nodeOf; rw [if_neg h2]
theorem runder_known (v : Int) (on : Bool) (hv64 : v ≤ 64 ∨ True) : ∀ (n : Nat) (a r : Int), Wf S → S.full = false → S.has a → S.has r → (∀ β, ev S β r = ev S (setb β v on) a) → 64 - topOf S a < n → runder v on n (rOf S) a = (rOf S, r) := by
  intro n
  induction n with
  | zero => intro a r h _ ha _ _ hn; have := topOf_le h ha; omega
  | succ n ih =>
    intro a r h hf ha hr he hn
    have hfr : ¬ (rOf S).full = true := by show ¬ S.full = true; rw [hf]; simp
    unfold runder
    by_cases e1 : a < 2 ∨ v < (rnd (rOf S) a).1
    · rw [if_pos (.inr e1)]
      have : a = r := (ev_eq h ha hr).1 (fun β => by
        rw [he β]
        by_cases h2 : a < 2
        · rw [ev_low _ h2, ev_low _ h2]
        · rcases e1 with e1 | e1
          · exact absurd e1 h2
          · rw [rnd_sim, topOf_nodeOf h2] at e1
            exact ev_same h _ _ (Nat.le_refl _) ha _ _ (fun u hu _ => by unfold setb; rw [if_neg (by omega)]))
      rw [this]
    · rw [if_neg (by simp only [not_or]; exact ⟨hfr, fun h => e1 (.inl h), fun h => e1 (.inr h)⟩)]
      have h2 : ¬ a < 2 := fun h => e1 (.inl h)
      obtain ⟨i, m, rfl, hm⟩ := has_node ha h2
      have hnd : rnd (rOf S) ((i : Int) + 2) = m := nodeOf_is hm
      have ht := topOf_node hm
      have hc := h.child hm
      have hok := h.node i m hm
      have tlo := hok.tlo
      have thi := hok.thi
      rw [hnd] at e1 ⊢
      by_cases e2 : m.1 = v
      · have child : ∀ (t : Bool) (d : Int), S.has d → v < topOf S d → ∀ β, ev S (setb β v t) d = ev S β d := fun t d hd htd β => ev_same h _ _ (Nat.le_refl _) hd _ _ (fun u hu _ => by unfold setb; rw [if_neg (by omega)])
        cases on with
        | true =>
          rw [if_pos ⟨e2, rfl⟩]
          have : m.2.2 = r := (ev_eq h hc.2 hr).1 (fun β => by
            rw [he β, ev_node h _ hm, e2, if_pos (by simp [setb])]
            exact (child true _ hc.2 (by rw [← e2]; exact thi) β).symm)
          rw [this]
        | false =>
          rw [if_neg (by simp), if_pos e2]
          have : m.2.1 = r := (ev_eq h hc.1 hr).1 (fun β => by
            rw [he β, ev_node h _ hm, e2, if_neg (by simp [setb])]
            exact (child false _ hc.1 (by rw [← e2]; exact tlo) β).symm)
          rw [this]
      · rw [if_neg (fun h => e2 h.1), if_neg e2]
        have hlt : m.1 < v := by
          have : ¬ v < m.1 := fun h => e1 (.inr h)
          omega
        have v64 := hok.v64
        have hrt : m.1 ≤ topOf S r := top_ge h hr (by omega) (fun β γ hbg => by
          rw [he, he]
          exact ev_same h _ _ (Nat.le_refl _) ha _ _ (fun u hu hu2 => by rw [ht] at hu; unfold setb; rw [hbg u hu hu2]))
        obtain ⟨r1, r2, r3, r4, r5⟩ := split_ok h hr hrt v64
        have fix : ∀ (t : Bool) (β : Int → Bool) (d : Int), S.has d → m.1 < topOf S d → ev S (setb β m.1 t) d = ev S β d := fun t β d hd htd => ev_same h _ _ (Nat.le_refl _) hd _ _ (fun u hu _ => by unfold setb; rw [if_neg (by omega)])
        have comm : ∀ (β : Int → Bool) (t : Bool), setb (setb β m.1 t) v on = setb (setb β v on) m.1 t := fun β t => by
          funext w; unfold setb
          by_cases e3 : w = v
          · have : ¬ w = m.1 := by omega
            rw [if_pos e3, if_neg this, if_pos e3]
          · by_cases e4 : w = m.1
            · rw [if_neg e3, if_pos e4, if_pos e4]
            · rw [if_neg e3, if_neg e4, if_neg e4, if_neg e3]
        have key : ∀ (t : Bool) (β : Int → Bool), (if t then ev S β (splitOf S r m.1).2 else ev S β (splitOf S r m.1).1) = (if t then ev S (setb β v on) m.2.2 else ev S (setb β v on) m.2.1) := fun t β => by
          have := he (setb β m.1 t)
          rw [comm, r5, ev_node h _ hm] at this
          rw [show setb β m.1 t m.1 = t by simp [setb], show setb (setb β v on) m.1 t m.1 = t by simp [setb], fix _ _ _ r1 r3, fix _ _ _ r2 r4, fix _ _ _ hc.1 tlo, fix _ _ _ hc.2 thi] at this
          exact this
        have I1 := ih m.2.1 (splitOf S r m.1).1 h hf hc.1 r1 (fun β => by simpa using key false β) (by rw [ht] at hn; omega)
        have I2 := ih m.2.2 (splitOf S r m.1).2 h hf hc.2 r2 (fun β => by simpa using key true β) (by rw [ht] at hn; omega)
        rw [I1]
        simp only
        rw [I2]
        exact rnode_there h hf hr hrt v64
theorem runder_full (v : Int) (on : Bool) (n : Nat) {R : RSt} (h : R.full = true) (a : Int) : runder v on n R a = (R, a) := by
  cases n with
  | zero => rfl
  | succ n => unfold runder; rw [if_pos (.inl h)]
theorem runder_sim (v : Int) (on : Bool) : ∀ (n m : Nat) (S : Sto) (K : List (Int × Int)) (a : Int), n ≤ m → Wf S → Sated S → S.full = false → KOk S K v on → S.has a → 64 - topOf S a < n →
    (runder v on m (rOf S) a).1 = rOf (underN v on n S K a).1 ∧ ∀ r, (underN v on n S K a).2.2 = some r → (runder v on m (rOf S) a).2 = r := by
  intro n
  induction n with
  | zero => intro m S K a _ h _ _ _ ha hn; have := topOf_le h ha; omega
  | succ n ih =>
    intro m S K a hm h hs hf hK ha hn
    obtain ⟨m, rfl⟩ : ∃ k, m = k + 1 := ⟨m - 1, by omega⟩
    have hfr : ¬ (rOf S).full = true := by show ¬ S.full = true; rw [hf]; simp
    by_cases e1 : a < 2 ∨ v < topOf S a
    · have e1' : a < 2 ∨ v < (rnd (rOf S) a).1 := by
        rcases e1 with e | e
        · exact .inl e
        · by_cases h2 : a < 2
          · exact .inl h2
          · exact .inr (by rw [rnd_sim, topOf_nodeOf h2]; exact e)
      unfold runder underN
      rw [if_pos (.inr e1'), if_pos e1]
      exact ⟨rfl, fun r h => by simpa using h⟩
    · cases hk : aget K a with
      | some r =>
        obtain ⟨_, k2, _, k4⟩ := hK a r hk
        rw [runder_known v on (.inr trivial) (m + 1) a r h hf ha k2 k4 (by omega)]
        unfold underN
        rw [if_neg e1, hk]
        exact ⟨rfl, fun r h => by simpa using h⟩
      | none =>
        have h2 : ¬ a < 2 := fun h => e1 (.inl h)
        obtain ⟨i, q, rfl, hq⟩ := has_node ha h2
        have hnd : rnd (rOf S) ((i : Int) + 2) = q := nodeOf_is hq
        have hno : nodeOf S ((i : Int) + 2) = q := nodeOf_is hq
        have ht := topOf_node hq
        have hc := h.child hq
        have hok := h.node i q hq
        have tlo := hok.tlo
        have thi := hok.thi
        unfold runder underN
        rw [if_neg e1, hk, hnd, hno, if_neg (by simp only [not_or]; exact ⟨hfr, h2, fun h => e1 (.inr (by rw [ht]; exact h))⟩)]
        rw [ht] at e1 hn ⊢
        by_cases e2 : q.1 = v
        · simp only [e2, if_true, true_and]
          cases on with
          | true => exact ⟨by simp, fun r h => by simpa using h⟩
          | false => exact ⟨by simp, fun r h => by simpa using h⟩
        · rw [if_neg (fun h => e2 h.1), if_neg e2]
          simp only [e2, if_false]
          have I1 := ih m S K q.2.1 (by omega) h hs hf hK hc.1 (by omega)
          have O1 := underN_ok v on 64 n S K q.2.1 h hs (below64 h) hK hc.1 (by omega)
          generalize runder v on m (rOf S) q.2.1 = X at I1
          generalize underN v on n S K q.2.1 = R1 at I1 O1
          obtain ⟨X1, X2⟩ := X
          obtain ⟨S1, K1, o1⟩ := R1
          obtain ⟨i1, i2⟩ := I1
          simp only at i1 i2
          subst i1
          cases o1 with
          | none =>
            have hf1 : (rOf S1).full = true := O1.full' rfl
            simp only
            rw [runder_full v on m hf1, rnode_full hf1]
            exact ⟨rfl, fun r h => by simp at h⟩
          | some lo =>
            have hlo := i2 lo rfl
            subst hlo
            have f1 := O1.full rfl
            have g1 := O1.grows
            simp only at f1 g1
            rw [hf] at f1
            have I2 := ih m S1 K1 q.2.2 (by omega) O1.wf O1.sated f1 O1.known (g1.has hc.2) (by rw [g1.top hc.2]; omega)
            have O2 := underN_ok v on 64 n S1 K1 q.2.2 O1.wf O1.sated (below64 O1.wf) O1.known (g1.has hc.2) (by rw [g1.top hc.2]; omega)
            simp only
            generalize runder v on m (rOf S1) q.2.2 = Y at I2
            generalize underN v on n S1 K1 q.2.2 = R2 at I2 O2
            obtain ⟨Y1, Y2⟩ := Y
            obtain ⟨S2, K2, o2⟩ := R2
            obtain ⟨j1, j2⟩ := I2
            simp only at j1 j2
            subst j1
            cases o2 with
            | none =>
              have hf2 : (rOf S2).full = true := O2.full' rfl
              simp only
              rw [rnode_full hf2]
              exact ⟨rfl, fun r h => by simp at h⟩
            | some hi =>
              have hhi := j2 hi rfl
              subst hhi
              have f2 := O2.full rfl
              simp only at f2
              rw [f1] at f2
              simp only
              rw [rnode_sim O2.wf f2]
              generalize mkN S2 q.1 X2 Y2 = R3
              obtain ⟨S3, o3⟩ := R3
              cases o3 with
              | none => exact ⟨rfl, fun r h => by simp at h⟩
              | some r => exact ⟨rfl, fun r' h => by simpa using h⟩
theorem underV_sim (hW : Wf S) (hs : Sated S) (a v : Int) (on : Bool) : rUnderV (rOf S) a v on = (rOf (underV S a v on).1, (underV S a v on).2) := by
  unfold rUnderV underV madeR rmade
  rw [rright_sim]
  cases hf : S.full with
  | true =>
    have hfr : (rOf S).full = true := hf
    rw [runder_full v on 66 hfr, if_pos hfr]; rfl
  | false =>
    have I := runder_sim v on 65 66 S [] (rightOf S a) (by omega) hW hs hf (KOk.nil S v on) (has_right a) (by have := topOf_ge hW (has_right (S := S) a); omega)
    have O := underR_ok hW hs (below64 hW) a v on
    simp only [Bool.false_eq_true, if_false, underR]
    rw [I.1]
    cases ho : (underN v on 65 S [] (rightOf S a)).2.2 with
    | none =>
      have : (rOf (underN v on 65 S [] (rightOf S a)).1).full = true := O.full' ho
      rw [if_pos this]; rfl
    | some r =>
      have : (rOf (underN v on 65 S [] (rightOf S a)).1).full = false := (O.full (by rw [ho]; rfl)).trans hf
      rw [if_neg (by rw [this]; simp), I.2 r ho]; rfl
end
end Go.Proofs.Ytboekafmplomhaa
