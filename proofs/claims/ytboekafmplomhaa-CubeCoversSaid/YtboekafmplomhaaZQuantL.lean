/-
  A diagram with a variable's bit told, in plain Lean.
-/
import Derived.Test.YtboekafmplomhaaZPlay
import Derived.Test.YtboekafmplomhaaZCallsB
import Derived.Test.YtboekafmplomhaaZV
import Derived.Test.YtboekafmplomhaaZDead
import Derived.Test.YtboekafmplomhaaZDoes
import Derived.Test.YtboekafmplomhaaZDoC
set_option linter.unusedVariables false
set_option linter.unusedSimpArgs false
namespace Go.Proofs.Ytboekafmplomhaa

def nodeOf (S : Sto) (a : Int) : Nd := (S.nodes[(a - 2).toNat]?).getD (0, 0, 0)
/-- Under, with what is known; none: the store is full. -/
def underN (v : Int) (on : Bool) : Nat → Sto → List (Int × Int) → Int → Sto × List (Int × Int) × Option Int
  | 0, S, K, _ => (S, K, none)
  | n + 1, S, K, a =>
    if a < 2 ∨ v < topOf S a then (S, K, some a) else
    match aget K a with
    | some r => (S, K, some r)
    | none =>
      if topOf S a = v then (S, K, some (if on then (nodeOf S a).2.2 else (nodeOf S a).2.1)) else
      match underN v on n S K (nodeOf S a).2.1 with
      | (S1, K1, none) => (S1, K1, none)
      | (S1, K1, some l) =>
        match underN v on n S1 K1 (nodeOf S a).2.2 with
        | (S2, K2, none) => (S2, K2, none)
        | (S2, K2, some h) =>
          match mkN S2 (topOf S a) l h with
          | (S3, none) => (S3, K2, none)
          | (S3, some r) => (S3, aput K2 a r, some r)

def setb (β : Int → Bool) (v : Int) (on : Bool) : Int → Bool := fun u => if u = v then on else β u
/-- What is known is right. -/
def KOk (S : Sto) (K : List (Int × Int)) (v : Int) (on : Bool) : Prop :=
  ∀ a r, aget K a = some r → S.has a ∧ S.has r ∧ topOf S a ≤ topOf S r ∧ ∀ β, ev S β r = ev S (setb β v on) a
theorem KOk.grows {S S' : Sto} {K : List (Int × Int)} {v : Int} {on : Bool} (h : Wf S) (g : Grows S S') (k : KOk S K v on) : KOk S' K v on := fun a r hr => by
  obtain ⟨h1, h2, h3, h4⟩ := k a r hr
  exact ⟨g.has h1, g.has h2, by rw [g.top h1, g.top h2]; exact h3, fun β => by rw [ev_grows h g β h2, ev_grows h g _ h1]; exact h4 β⟩

structure UnOk (S : Sto) (v : Int) (on : Bool) (V : Int) (a : Int) (R : Sto × List (Int × Int) × Option Int) : Prop where
  wf : Wf R.1
  grows : Grows S R.1
  sated : Sated R.1
  below : Below' R.1 V
  count : R.1.nodes.length + 1 ≤ S.nodes.length + 2 ^ (V - topOf S a).toNat
  known : KOk R.1 R.2.1 v on
  full : R.2.2.isSome = true → R.1.full = S.full
  full' : R.2.2 = none → R.1.full = true
  has : ∀ r, R.2.2 = some r → R.1.has r ∧ topOf S a ≤ topOf R.1 r ∧ ∀ β, ev R.1 β r = ev S (setb β v on) a

theorem nodeOf_is {S : Sto} {i : Nat} {n : Nd} (h : S.nodes[i]? = some n) : nodeOf S ((i : Int) + 2) = n := by
  unfold nodeOf; rw [show ((i : Int) + 2 - 2).toNat = i by omega, h]; rfl
theorem aget_aput_self (K : List (Int × Int)) (a r : Int) : aget (aput K a r) a = some r := by rw [aget_aput, if_pos rfl]

theorem underN_ok (v : Int) (on : Bool) (V : Int) : ∀ (n : Nat) (S : Sto) (K : List (Int × Int)) (a : Int), Wf S → Sated S → Below' S V → KOk S K v on → S.has a → 64 - topOf S a < n → UnOk S v on V a (underN v on n S K a) := by
  intro n
  induction n with
  | zero => intro S K a h _ _ _ ha hn; have := topOf_le h ha; omega
  | succ n ih =>
    intro S K a h hs hb hK ha hn
    have hp : ∀ k : Nat, 1 ≤ 2 ^ k := fun k => Nat.one_le_two_pow
    have hp1 := hp (V - topOf S a).toNat
    unfold underN
    by_cases e1 : a < 2 ∨ v < topOf S a
    · rw [if_pos e1]
      refine ⟨h, Grows.refl S, hs, hb, by simp only; omega, hK, fun _ => rfl, fun h => by simp at h, fun r hr => ?_⟩
      cases hr
      refine ⟨ha, Int.le_refl _, fun β => ?_⟩
      rcases e1 with e1 | e1
      · rw [ev_low _ e1, ev_low _ e1]
      · exact ev_same h _ a (Nat.le_refl _) ha _ _ (fun u hu _ => by unfold setb; rw [if_neg (by omega)])
    · rw [if_neg e1]
      cases hk : aget K a with
      | some r =>
        obtain ⟨k1, k2, k3, k4⟩ := hK a r hk
        refine ⟨h, Grows.refl S, hs, hb, by simp only; omega, hK, fun _ => rfl, fun h => by simp at h, fun r hr => ?_⟩
        cases hr
        exact ⟨k2, k3, k4⟩
      | none =>
        obtain ⟨i, m, rfl, hm⟩ := has_node ha (by omega)
        have hc := h.child hm
        have hok := h.node i m hm
        have hmV := hb i m hm
        rw [nodeOf_is hm]
        have ht := topOf_node hm
        by_cases e2 : topOf S ((i : Int) + 2) = v
        · simp only [e2, if_true]
          refine ⟨h, Grows.refl S, hs, hb, by simp only; omega, hK, fun _ => rfl, fun h => by simp at h, fun r hr => ?_⟩
          have tv : m.1 = v := by rw [← ht, e2]
          have tlo := hok.tlo; have thi := hok.thi
          cases on with
          | true =>
            simp only [if_true, Option.some.injEq] at hr
            subst hr
            refine ⟨hc.2, by show topOf S _ ≤ topOf S _; omega, fun β => ?_⟩
            rw [ev_node h _ hm, tv, show setb β v true v = true by simp [setb], if_pos rfl]
            exact ev_same h _ _ (Nat.le_refl _) hc.2 _ _ (fun u hu _ => by unfold setb; rw [if_neg (by omega)])
          | false =>
            simp only [Bool.false_eq_true, if_false, Option.some.injEq] at hr
            subst hr
            refine ⟨hc.1, by show topOf S _ ≤ topOf S _; omega, fun β => ?_⟩
            rw [ev_node h _ hm, tv, show setb β v false v = false by simp [setb], if_neg (by simp)]
            exact ev_same h _ _ (Nat.le_refl _) hc.1 _ _ (fun u hu _ => by unfold setb; rw [if_neg (by omega)])
        · simp only [e2, if_false]
          rw [ht] at e1 e2 hn hp1 ⊢
          have tlo := hok.tlo; have thi := hok.thi
          have v0 := hok.v0; have v64 := hok.v64
          have two : ∀ k1 k2 : Nat, k1 + 1 ≤ (V - m.1).toNat → k2 + 1 ≤ (V - m.1).toNat → 2 ^ k1 + 2 ^ k2 ≤ 2 ^ (V - m.1).toNat := fun k1 k2 h1 h2 => by
            have x1 : 2 ^ k1 ≤ 2 ^ ((V - m.1).toNat - 1) := Nat.pow_le_pow_right (by omega) (by omega)
            have x2 : 2 ^ k2 ≤ 2 ^ ((V - m.1).toNat - 1) := Nat.pow_le_pow_right (by omega) (by omega)
            have x3 := pow_two_step (show ((V - m.1).toNat - 1) + 1 ≤ (V - m.1).toNat by omega)
            omega
          have one := two (V - topOf S m.2.1).toNat
          have I1 := ih S K m.2.1 h hs hb hK hc.1 (by omega)
          generalize underN v on n S K m.2.1 = R1 at I1
          obtain ⟨S1, K1, o1⟩ := R1
          have c1 := I1.count
          simp only at c1
          cases o1 with
          | none =>
            have := one 0 (by omega) (by omega)
            exact ⟨I1.wf, I1.grows, I1.sated, I1.below, by rw [ht]; simp only; omega, I1.known, fun h => by simp at h, fun _ => I1.full' rfl, fun r hr => by simp at hr⟩
          | some l =>
            have g1 := I1.grows
            obtain ⟨l1, l2, l3⟩ := I1.has l rfl
            simp only at g1 l1 l2 l3
            have I2 := ih S1 K1 m.2.2 I1.wf I1.sated I1.below I1.known (g1.has hc.2) (by rw [g1.top hc.2]; omega)
            have two' := one (V - topOf S m.2.2).toNat (by omega) (by omega)
            simp only
            generalize underN v on n S1 K1 m.2.2 = R2 at I2
            obtain ⟨S2, K2, o2⟩ := R2
            have c2 := I2.count
            rw [g1.top hc.2] at c2
            simp only at c2
            have G := g1.trans I2.grows
            simp only at G
            cases o2 with
            | none =>
              exact ⟨I2.wf, G, I2.sated, I2.below, by rw [ht]; simp only; omega, I2.known, fun h => by simp at h, fun _ => I2.full' rfl, fun r hr => by simp at hr⟩
            | some hh =>
              have g2 := I2.grows
              obtain ⟨h1, h2, h3⟩ := I2.has hh rfl
              rw [g1.top hc.2] at h2
              simp only at g2 h1 h2 h3
              have M := mkN_ok I2.wf v0 v64 (g2.has l1) h1 (by rw [g2.top l1]; omega) (by simp only; omega)
              have B := mkN_below (lo := l) (hi := hh) I2.below hmV
              have T := mkN_sated (v := m.1) (lo := l) (hi := hh) I2.sated
              simp only at M B T ⊢
              generalize mkN S2 m.1 l hh = R3 at M B T
              obtain ⟨S3, o3⟩ := R3
              obtain ⟨b1, b2⟩ := B
              have g3 := M.grows
              simp only at b1 b2 T g3
              cases o3 with
              | none =>
                exact ⟨M.wf, G.trans g3, T, b1, by rw [ht]; simp only; omega, I2.known.grows I2.wf g3, fun h => by simp at h, fun _ => (M.full' rfl).1, fun r hr => by simp at hr⟩
              | some r =>
                obtain ⟨q1, q2, q3⟩ := M.has r rfl
                simp only at q1 q2 q3
                have GG := G.trans g3
                have hev : ∀ β, ev S3 β r = ev S (setb β v on) ((i : Int) + 2) := fun β => by
                  rw [q3 β, ev_node h _ hm, h3 β, ev_grows h g1 _ hc.2, ev_grows I1.wf g2 _ l1, l3 β]
                  unfold setb
                  rw [if_neg (show ¬ m.1 = v by omega)]
                refine ⟨M.wf, GG, T, b1, by rw [ht]; simp only; omega, ?_, fun _ => ?_, fun h => by simp at h, fun r' hr' => ?_⟩
                · intro a' r' hr'
                  simp only [aget_aput] at hr'
                  by_cases ek : (i : Int) + 2 = a'
                  · rw [if_pos ek] at hr'
                    cases hr'
                    rw [← ek]
                    refine ⟨GG.has ha, q1, by rw [GG.top ha, ht]; exact q2, fun β => ?_⟩
                    rw [ev_grows h GG _ ha]; exact hev β
                  · rw [if_neg ek] at hr'
                    exact I2.known.grows I2.wf g3 a' r' hr'
                · have x1 := M.full rfl; have x2 := I2.full rfl; have x3 := I1.full rfl
                  simp only at x1 x2 x3 ⊢
                  rw [x1, x2, x3]
                · cases hr'
                  exact ⟨q1, by rw [ht]; exact q2, hev⟩

def underR (S : Sto) (a v : Int) (on : Bool) : Sto × Option Int := ((underN v on 65 S [] (rightOf S a)).1, (underN v on 65 S [] (rightOf S a)).2.2)
def underV (S : Sto) (a v : Int) (on : Bool) : Sto × Int := madeR S (underR S a v on)
theorem KOk.nil (S : Sto) (v : Int) (on : Bool) : KOk S [] v on := fun a r hr => by simp [aget] at hr
theorem underR_ok {S : Sto} {V : Int} (hW : Wf S) (hs : Sated S) (hb : Below' S V) (a v : Int) (on : Bool) : UnOk S v on V (rightOf S a) (underN v on 65 S [] (rightOf S a)) :=
  underN_ok v on V 65 S [] _ hW hs hb (KOk.nil S v on) (has_right a) (by have := topOf_ge hW (has_right (S := S) a); omega)
theorem underV_ok {S : Sto} {V : Int} (hW : Wf S) (hs : Sated S) (hb : Below' S V) (hV : 0 ≤ V) (a v : Int) (on : Bool) : VOk S V (2 ^ V.toNat) (underV S a v on) := by
  unfold underV madeR
  cases hf : S.full with
  | true => exact ⟨hW, Grows.refl S, hs, hb, by simp, has_zero S, fun _ => ⟨rfl, rfl⟩⟩
  | false =>
    have O := underR_ok hW hs hb a v on
    have hp : 2 ^ (V - topOf S (rightOf S a)).toNat ≤ 2 ^ V.toNat := Nat.pow_le_pow_right (by omega) (by have := topOf_ge hW (has_right (S := S) a); omega)
    have hc := O.count
    refine ⟨O.wf, O.grows, O.sated, O.below, ?_, ?_, fun h => by rw [hf] at h; cases h⟩
    · simp only [Bool.false_eq_true, if_false, underR]; omega
    · simp only [Bool.false_eq_true, if_false, underR]
      cases ho : (underN v on 65 S [] (rightOf S a)).2.2 with
      | none => exact has_zero _
      | some r => exact (O.has r ho).1
theorem underV_ev {S : Sto} {V : Int} (hW : Wf S) (hs : Sated S) (hb : Below' S V) (a v : Int) (on : Bool) (hf : (underV S a v on).1.full = false) (β : Int → Bool) :
    ev (underV S a v on).1 β (underV S a v on).2 = ev S (setb β v on) (rightOf S a) := by
  have O := underR_ok hW hs hb a v on
  unfold underV madeR at hf ⊢
  cases hF : S.full with
  | true => rw [hF] at hf; simp [hF] at hf
  | false =>
    rw [hF] at hf
    simp only [Bool.false_eq_true, if_false, underR] at hf ⊢
    cases ho : (underN v on 65 S [] (rightOf S a)).2.2 with
    | none => have := O.full' ho; rw [this] at hf; cases hf
    | some r => exact (O.has r ho).2.2 β
end Go.Proofs.Ytboekafmplomhaa
set_option linter.unusedVariables false
set_option linter.unusedSimpArgs false
namespace Go.Proofs.Ytboekafmplomhaa
open Go.RowKit

abbrev ki (n : Int) : Value := .int .i64 n
theorem key_int : KeyOk Try.prog 3 (.int .i64) ki where
  und := by kernel_rfl
  check em n w := check_int em 9999 n w
  now a b := .inr (by unfold Instr.sameNow; simp; rfl)
  eq a b w := by
    unfold Op.equal
    rw [show Op.maxDepth = 9999 + 1 from rfl]
    simp [go_sem]
    rfl
  same a := by unfold Instr.sameBits; simp [Instr.sameBits]

theorem below64 {S : Sto} (h : Wf S) : Below' S 64 := fun i n hn => (h.node i n hn).v64
def UnPost (w : World) (p km : Nat) (F : List Nat) (R : Sto × List (Int × Int) × Option Int) (e : Ending) (w' : World) : Prop :=
  e = endOf R.2.2 ∧ ∃ F', StoIs w' p F' R.1 ∧ MapIs ki w' km R.2.1 ∧ km ∉ F' ∧ StoStep w w' (km :: F) (km :: F')

theorem MapIs.lt {α : Type} {Kv : α → Value} {w : World} {b : Nat} {l : List (α × Int)} (h : MapIs Kv w b l) : b < w.heap.size := by
  obtain ⟨_, _, q, _⟩ := h; exact (Array.getElem?_eq_some_iff.1 q).1
theorem MapIs.ext {α : Type} {Kv : α → Value} {w : World} {b : Nat} {l : List (α × Int)} (h : MapIs Kv w b l) (m : Array Obj) (d : Nat) : MapIs Kv (w.ext m d) b l := MapIs.keep h (World.heap_ext _ _ _ (MapIs.lt h))
theorem StoStep.wide {w w' : World} {F F' : List Nat} (h : StoStep w w' F F') (k : Nat) : StoStep w w' (k :: F) (k :: F') :=
  ⟨h.os, h.tape, h.output, h.size, fun i hi hn => h.block i hi (fun hm => hn (List.mem_cons_of_mem _ hm)), fun i hi => by
    rcases List.mem_cons.1 hi with rfl | hi
    · exact .inl (List.mem_cons_self ..)
    · rcases h.fresh i hi with q | q
      · exact .inl (List.mem_cons_of_mem _ q)
      · exact .inr q⟩
theorem UnPost.quiet {w : World} {p km : Nat} {F : List Nat} {S : Sto} {K : List (Int × Int)} {r : Int} (h : StoIs w p F S) (hm : MapIs ki w km K) (hk : km ∉ F) (m : Array Obj) (d : Nat) :
    UnPost w p km F (S, K, some r) (.returned (.int .i64 r)) (w.ext m d) := ⟨rfl, F, h.ext m d, MapIs.ext hm m d, hk, (StoStep.refl w _).ext m d⟩

section
variable {n : Nat} {S S1 S2 S3 : Sto} {K K1 K2 : List (Int × Int)} {a v l hh r : Int} {on : Bool}
theorem underN_0 (e1 : a < 2 ∨ v < topOf S a) : underN v on (n + 1) S K a = (S, K, some a) := by simp only [underN, if_pos e1]
theorem underN_k (e1 : ¬ (a < 2 ∨ v < topOf S a)) (hk : aget K a = some r) : underN v on (n + 1) S K a = (S, K, some r) := by simp only [underN, if_neg e1, hk]
theorem underN_v (e1 : ¬ (a < 2 ∨ v < topOf S a)) (hk : aget K a = none) (e2 : topOf S a = v) : underN v on (n + 1) S K a = (S, K, some (if on then (nodeOf S a).2.2 else (nodeOf S a).2.1)) := by
  simp only [underN, if_neg e1, hk, if_pos e2]
theorem underN_1 (e1 : ¬ (a < 2 ∨ v < topOf S a)) (hk : aget K a = none) (e2 : ¬ topOf S a = v) (h1 : underN v on n S K (nodeOf S a).2.1 = (S1, K1, none)) : underN v on (n + 1) S K a = (S1, K1, none) := by
  simp only [underN, if_neg e1, hk, if_neg e2, h1]
theorem underN_2 (e1 : ¬ (a < 2 ∨ v < topOf S a)) (hk : aget K a = none) (e2 : ¬ topOf S a = v) (h1 : underN v on n S K (nodeOf S a).2.1 = (S1, K1, some l))
    (h2 : underN v on n S1 K1 (nodeOf S a).2.2 = (S2, K2, none)) : underN v on (n + 1) S K a = (S2, K2, none) := by
  simp only [underN, if_neg e1, hk, if_neg e2, h1, h2]
theorem underN_3 (e1 : ¬ (a < 2 ∨ v < topOf S a)) (hk : aget K a = none) (e2 : ¬ topOf S a = v) (h1 : underN v on n S K (nodeOf S a).2.1 = (S1, K1, some l))
    (h2 : underN v on n S1 K1 (nodeOf S a).2.2 = (S2, K2, some hh)) (h3 : mkN S2 (topOf S a) l hh = (S3, none)) : underN v on (n + 1) S K a = (S3, K2, none) := by
  simp only [underN, if_neg e1, hk, if_neg e2, h1, h2, h3]
theorem underN_4 (e1 : ¬ (a < 2 ∨ v < topOf S a)) (hk : aget K a = none) (e2 : ¬ topOf S a = v) (h1 : underN v on n S K (nodeOf S a).2.1 = (S1, K1, some l))
    (h2 : underN v on n S1 K1 (nodeOf S a).2.2 = (S2, K2, some hh)) (h3 : mkN S2 (topOf S a) l hh = (S3, some r)) : underN v on (n + 1) S K a = (S3, aput K2 a r, some r) := by
  simp only [underN, if_neg e1, hk, if_neg e2, h1, h2, h3]
end

/-- The ways that end before a node is made. -/
theorem under_early {n : Nat} {w : World} {p : Nat} {F : List Nat} {S : Sto} {km : Nat} {K : List (Int × Int)} {a v : Int} {on : Bool} (h : StoIs w p F S) (hm : MapIs ki w km K) (hk : km ∉ F) (hW : Wf S) (ha : S.has a)
    (e : (a < 2 ∨ v < topOf S a) ∨ aget K a ≠ none ∨ topOf S a = v) :
    Calls Try.prog 90 #[.pointer (some ⟨p, 0, none⟩), .int .i64 a, .int .i64 v, .bool on, .map (some km)] w (UnPost w p km F (underN v on (n + 1) S K a)) := by
  have hl1 : S.nodes.length ≤ 1048576 := by have := hW.len; have := hW.cap; omega
  have hT := fun W (h : StoIs W p F S) => top_any h hl1 a ha.2
  have H := hid h
  have Q := fun r m d => UnPost.quiet (r := r) h hm hk m d
  by_cases e0 : a < 2
  · rw [underN_0 (.inl e0)]
    clear e h hm hW ha
    go_enter Try.func90, Try.ntmps90
    go_upto_region 1 with (fail)
    refine wp_region_seq (fun F hF => ?_)
    have HF := hid hF; clear hF
    repeat (first
      | (apply text_skip; (focus rfl); simp only [Act.put, List.setIfInBounds_toArray, List.set_cons_zero, List.set_cons_succ])
      | (apply text_val; (focus rfl); (focus (intro _ _; go_simp; with_reducible rfl)); simp only [Act.put, List.setIfInBounds_toArray, List.set_cons_zero, List.set_cons_succ])
      | (apply text_call; (focus rfl); (focus (intro _ _; go_simp; exact ⟨rfl, rfl⟩)); (focus (intro _ _; with_reducible (exact hT _ (by have h := H.out; (repeat' (first | (with_reducible exact h) | (with_reducible refine StoIs.ext ?_ _ _))))))); simp only [Act.put, List.setIfInBounds_toArray, List.set_cons_zero, List.set_cons_succ])
      | (apply text_if; (focus (first | exact wanted_t rfl rfl | exact wanted_f rfl rfl | exact wanted_gt rfl rfl | exact wanted_gf rfl rfl)); (focus (intro hc _ _; (try simp only [Bool.and_eq_true, Bool.not_eq_true', Bool.true_and] at hc); go_simp; with_reducible rfl)); simp only [Act.put, List.setIfInBounds_toArray, List.set_cons_zero, List.set_cons_succ])
      | (apply text_if_call; (focus (first | exact wanted_t rfl rfl | exact wanted_f rfl rfl | exact wanted_gt rfl rfl | exact wanted_gf rfl rfl)); (focus (intro hc _ _; (try simp only [Bool.and_eq_true, Bool.not_eq_true', Bool.true_and] at hc); go_simp; exact ⟨rfl, rfl⟩)); (focus (intro hc _ _; with_reducible (exact hT _ (by have h := H.out; (repeat' (first | (with_reducible exact h) | (with_reducible refine StoIs.ext ?_ _ _))))))); simp only [Act.put, List.setIfInBounds_toArray, List.set_cons_zero, List.set_cons_succ]))
    refine text_nil (HF.out _ (fun mx dx => ?_))
    clear HF F
    go_wp2
    go_returns
    exact Q _ _ _
  · by_cases e1 : v < topOf S a
    · rw [underN_0 (.inr e1)]
      clear e h hm hW ha
      go_enter Try.func90, Try.ntmps90
      go_upto_region 1 with (fail)
      refine wp_region_seq (fun F hF => ?_)
      have HF := hid hF; clear hF
      repeat (first
        | (apply text_skip; (focus rfl); simp only [Act.put, List.setIfInBounds_toArray, List.set_cons_zero, List.set_cons_succ])
        | (apply text_val; (focus rfl); (focus (intro _ _; go_simp; with_reducible rfl)); simp only [Act.put, List.setIfInBounds_toArray, List.set_cons_zero, List.set_cons_succ])
        | (apply text_call; (focus rfl); (focus (intro _ _; go_simp; exact ⟨rfl, rfl⟩)); (focus (intro _ _; with_reducible (exact hT _ (by have h := H.out; (repeat' (first | (with_reducible exact h) | (with_reducible refine StoIs.ext ?_ _ _))))))); simp only [Act.put, List.setIfInBounds_toArray, List.set_cons_zero, List.set_cons_succ])
        | (apply text_if; (focus (first | exact wanted_t rfl rfl | exact wanted_f rfl rfl | exact wanted_gt rfl rfl | exact wanted_gf rfl rfl)); (focus (intro hc _ _; (try simp only [Bool.and_eq_true, Bool.not_eq_true', Bool.true_and] at hc); go_simp; with_reducible rfl)); simp only [Act.put, List.setIfInBounds_toArray, List.set_cons_zero, List.set_cons_succ])
        | (apply text_if_call; (focus (first | exact wanted_t rfl rfl | exact wanted_f rfl rfl | exact wanted_gt rfl rfl | exact wanted_gf rfl rfl)); (focus (intro hc _ _; (try simp only [Bool.and_eq_true, Bool.not_eq_true', Bool.true_and] at hc); go_simp; exact ⟨rfl, rfl⟩)); (focus (intro hc _ _; with_reducible (exact hT _ (by have h := H.out; (repeat' (first | (with_reducible exact h) | (with_reducible refine StoIs.ext ?_ _ _))))))); simp only [Act.put, List.setIfInBounds_toArray, List.set_cons_zero, List.set_cons_succ]))
      refine text_nil (HF.out _ (fun mx dx => ?_))
      clear HF F
      go_wp2
      go_returns
      exact Q _ _ _
    · have e2 : ¬ (a < 2 ∨ v < topOf S a) := by omega
      have E2 := hid e2
      obtain ⟨i, nd, rfl, hn⟩ := has_node ha e0
      obtain ⟨g, cap', bm, tm, hp, hg, c0, c1, c2, c3, c4, hmx, n0, n1, n2⟩ := StoNode h hn
      have hi1 : (i : Int) < (S.nodes.length : Int) := by have := (List.getElem?_eq_some_iff.1 hn).1; omega
      have hi2 : (0 : Int) ≤ (i : Int) := by omega
      have hb : IntKind.i64.wrap (i : Int) = (i : Int) := IntWalk.i64_in _ (by omega)
      have hNd := hid (nodeOf_is hn)
      clear hn
      have hlook : ∀ m d, (Instr.lookup 115 (.map (some km)) (.int .i64 ((i : Int) + 2)) true).run Try.prog (w.ext m d) = .ok (.tuple #[.int .i64 ((aget K ((i : Int) + 2)).getD 0), .bool (aget K ((i : Int) + 2)).isSome]) (w.ext m d) := fun m d =>
        lookup_run (w := w.ext m d) key_int Try.underlying115 (zero_int _) (MapIs.ext hm m d) ((i : Int) + 2) true
      cases hK : aget K ((i : Int) + 2) with
      | some r =>
        rw [underN_k E2.out hK]
        simp only [hK, Option.getD_some, Option.isSome_some] at hlook
        clear e h hm hW ha e2 hK
        go_enter Try.func90, Try.ntmps90
        go_upto_region 1 with (fail)
        refine wp_region_seq (fun F hF => ?_)
        have HF := hid hF; clear hF
        repeat (first
          | (apply text_skip; (focus rfl); simp only [Act.put, List.setIfInBounds_toArray, List.set_cons_zero, List.set_cons_succ])
          | (apply text_val; (focus rfl); (focus (intro _ _; go_simp; with_reducible rfl)); simp only [Act.put, List.setIfInBounds_toArray, List.set_cons_zero, List.set_cons_succ])
          | (apply text_call; (focus rfl); (focus (intro _ _; go_simp; exact ⟨rfl, rfl⟩)); (focus (intro _ _; with_reducible (exact hT _ (by have h := H.out; (repeat' (first | (with_reducible exact h) | (with_reducible refine StoIs.ext ?_ _ _))))))); simp only [Act.put, List.setIfInBounds_toArray, List.set_cons_zero, List.set_cons_succ])
          | (apply text_if; (focus (first | exact wanted_t rfl rfl | exact wanted_f rfl rfl | exact wanted_gt rfl rfl | exact wanted_gf rfl rfl)); (focus (intro hc _ _; (try simp only [Bool.and_eq_true, Bool.not_eq_true', Bool.true_and] at hc); go_simp; with_reducible rfl)); simp only [Act.put, List.setIfInBounds_toArray, List.set_cons_zero, List.set_cons_succ])
          | (apply text_if_call; (focus (first | exact wanted_t rfl rfl | exact wanted_f rfl rfl | exact wanted_gt rfl rfl | exact wanted_gf rfl rfl)); (focus (intro hc _ _; (try simp only [Bool.and_eq_true, Bool.not_eq_true', Bool.true_and] at hc); go_simp; exact ⟨rfl, rfl⟩)); (focus (intro hc _ _; with_reducible (exact hT _ (by have h := H.out; (repeat' (first | (with_reducible exact h) | (with_reducible refine StoIs.ext ?_ _ _))))))); simp only [Act.put, List.setIfInBounds_toArray, List.set_cons_zero, List.set_cons_succ]))
        refine text_nil (HF.out _ (fun mx dx => ?_))
        clear HF F
        go_upto_region 3 with (fail)
        refine wp_region_ext (by kernel_rfl) (by kernel_rfl) (fun F hF => ?_)
        have HF := hid hF; clear hF
        repeat (first
          | (apply text_skip; (focus rfl); simp only [Act.put, List.setIfInBounds_toArray, List.set_cons_zero, List.set_cons_succ])
          | (apply text_val; (focus rfl); (focus (intro _ _; go_simp; with_reducible rfl)); simp only [Act.put, List.setIfInBounds_toArray, List.set_cons_zero, List.set_cons_succ])
          | (apply text_if; (focus (first | exact wanted_t rfl rfl | exact wanted_f rfl rfl | exact wanted_gt rfl rfl | exact wanted_gf rfl rfl)); (focus (intro hc _ _; (try simp only [Bool.and_eq_true, Bool.not_eq_true', Bool.true_and] at hc); go_simp; with_reducible rfl)); simp only [Act.put, List.setIfInBounds_toArray, List.set_cons_zero, List.set_cons_succ]))
        refine text_nil (HF.out _ (fun mx dx => ?_))
        clear HF F
        go_upto_region 4 with (fail)
        refine wp_region_seq (fun F hF => ?_)
        have HF := hid hF; clear hF
        repeat (first
          | (apply text_skip; (focus rfl); simp only [Act.put, List.setIfInBounds_toArray, List.set_cons_zero, List.set_cons_succ])
          | (apply text_val; (focus rfl); (focus (intro _ _; go_simp; with_reducible rfl)); simp only [Act.put, List.setIfInBounds_toArray, List.set_cons_zero, List.set_cons_succ])
          | (apply text_if; (focus (first | exact wanted_t rfl rfl | exact wanted_f rfl rfl | exact wanted_gt rfl rfl | exact wanted_gf rfl rfl)); (focus (intro hc _ _; (try simp only [Bool.and_eq_true, Bool.not_eq_true', Bool.true_and] at hc); go_simp; with_reducible rfl)); simp only [Act.put, List.setIfInBounds_toArray, List.set_cons_zero, List.set_cons_succ]))
        refine text_nil (HF.out _ (fun mx dx => ?_))
        clear HF F
        go_wp2
        go_returns
        exact Q _ _ _
      | none =>
        have e3 : topOf S ((i : Int) + 2) = v := by rcases e with e | e | e; exact (e2 e).elim; exact (e hK).elim; exact e
        rw [underN_v E2.out hK e3]
        simp only [hK, Option.getD_none, Option.isSome_none] at hlook
        simp only [e3] at hT
        clear e h hm hW ha e2 hK e1 e3
        cases on with
        | true =>
          rw [hNd.out]
          go_enter Try.func90, Try.ntmps90
          go_upto_region 1 with (fail)
          refine wp_region_seq (fun F hF => ?_)
          have HF := hid hF; clear hF
          repeat (first
            | (apply text_skip; (focus rfl); simp only [Act.put, List.setIfInBounds_toArray, List.set_cons_zero, List.set_cons_succ])
            | (apply text_val; (focus rfl); (focus (intro _ _; go_simp; with_reducible rfl)); simp only [Act.put, List.setIfInBounds_toArray, List.set_cons_zero, List.set_cons_succ])
            | (apply text_call; (focus rfl); (focus (intro _ _; go_simp; exact ⟨rfl, rfl⟩)); (focus (intro _ _; with_reducible (exact hT _ (by have h := H.out; (repeat' (first | (with_reducible exact h) | (with_reducible refine StoIs.ext ?_ _ _))))))); simp only [Act.put, List.setIfInBounds_toArray, List.set_cons_zero, List.set_cons_succ])
            | (apply text_if; (focus (first | exact wanted_t rfl rfl | exact wanted_f rfl rfl | exact wanted_gt rfl rfl | exact wanted_gf rfl rfl)); (focus (intro hc _ _; (try simp only [Bool.and_eq_true, Bool.not_eq_true', Bool.true_and] at hc); go_simp; with_reducible rfl)); simp only [Act.put, List.setIfInBounds_toArray, List.set_cons_zero, List.set_cons_succ])
            | (apply text_if_call; (focus (first | exact wanted_t rfl rfl | exact wanted_f rfl rfl | exact wanted_gt rfl rfl | exact wanted_gf rfl rfl)); (focus (intro hc _ _; (try simp only [Bool.and_eq_true, Bool.not_eq_true', Bool.true_and] at hc); go_simp; exact ⟨rfl, rfl⟩)); (focus (intro hc _ _; with_reducible (exact hT _ (by have h := H.out; (repeat' (first | (with_reducible exact h) | (with_reducible refine StoIs.ext ?_ _ _))))))); simp only [Act.put, List.setIfInBounds_toArray, List.set_cons_zero, List.set_cons_succ]))
          refine text_nil (HF.out _ (fun mx dx => ?_))
          clear HF F
          go_upto_region 3 with (fail)
          refine wp_region_ext (by kernel_rfl) (by kernel_rfl) (fun F hF => ?_)
          have HF := hid hF; clear hF
          repeat (first
            | (apply text_skip; (focus rfl); simp only [Act.put, List.setIfInBounds_toArray, List.set_cons_zero, List.set_cons_succ])
            | (apply text_val; (focus rfl); (focus (intro _ _; go_simp; with_reducible rfl)); simp only [Act.put, List.setIfInBounds_toArray, List.set_cons_zero, List.set_cons_succ])
            | (apply text_if; (focus (first | exact wanted_t rfl rfl | exact wanted_f rfl rfl | exact wanted_gt rfl rfl | exact wanted_gf rfl rfl)); (focus (intro hc _ _; (try simp only [Bool.and_eq_true, Bool.not_eq_true', Bool.true_and] at hc); go_simp; with_reducible rfl)); simp only [Act.put, List.setIfInBounds_toArray, List.set_cons_zero, List.set_cons_succ]))
          refine text_nil (HF.out _ (fun mx dx => ?_))
          clear HF F
          go_upto_region 4 with (fail)
          refine wp_region_seq (fun F hF => ?_)
          have HF := hid hF; clear hF
          repeat (first
            | (apply text_skip; (focus rfl); simp only [Act.put, List.setIfInBounds_toArray, List.set_cons_zero, List.set_cons_succ])
            | (apply text_val; (focus rfl); (focus (intro _ _; go_simp; with_reducible rfl)); simp only [Act.put, List.setIfInBounds_toArray, List.set_cons_zero, List.set_cons_succ])
            | (apply text_if; (focus (first | exact wanted_t rfl rfl | exact wanted_f rfl rfl | exact wanted_gt rfl rfl | exact wanted_gf rfl rfl)); (focus (intro hc _ _; (try simp only [Bool.and_eq_true, Bool.not_eq_true', Bool.true_and] at hc); go_simp; with_reducible rfl)); simp only [Act.put, List.setIfInBounds_toArray, List.set_cons_zero, List.set_cons_succ]))
          refine text_nil (HF.out _ (fun mx dx => ?_))
          clear HF F
          go_upto_region 7 with (fail)
          refine wp_region_seq (fun F hF => ?_)
          have HF := hid hF; clear hF
          repeat (first
            | (apply text_skip; (focus rfl); simp only [Act.put, List.setIfInBounds_toArray, List.set_cons_zero, List.set_cons_succ])
            | (apply text_val; (focus rfl); (focus (intro _ _; go_simp; with_reducible rfl)); simp only [Act.put, List.setIfInBounds_toArray, List.set_cons_zero, List.set_cons_succ])
            | (apply text_call; (focus rfl); (focus (intro _ _; go_simp; exact ⟨rfl, rfl⟩)); (focus (intro _ _; with_reducible (exact hT _ (by have h := H.out; (repeat' (first | (with_reducible exact h) | (with_reducible refine StoIs.ext ?_ _ _))))))); simp only [Act.put, List.setIfInBounds_toArray, List.set_cons_zero, List.set_cons_succ])
            | (apply text_if; (focus (first | exact wanted_t rfl rfl | exact wanted_f rfl rfl | exact wanted_gt rfl rfl | exact wanted_gf rfl rfl)); (focus (intro hc _ _; (try simp only [Bool.and_eq_true, Bool.not_eq_true', Bool.true_and] at hc); go_simp; with_reducible rfl)); simp only [Act.put, List.setIfInBounds_toArray, List.set_cons_zero, List.set_cons_succ])
            | (apply text_if_call; (focus (first | exact wanted_t rfl rfl | exact wanted_f rfl rfl | exact wanted_gt rfl rfl | exact wanted_gf rfl rfl)); (focus (intro hc _ _; (try simp only [Bool.and_eq_true, Bool.not_eq_true', Bool.true_and] at hc); go_simp; exact ⟨rfl, rfl⟩)); (focus (intro hc _ _; with_reducible (exact hT _ (by have h := H.out; (repeat' (first | (with_reducible exact h) | (with_reducible refine StoIs.ext ?_ _ _))))))); simp only [Act.put, List.setIfInBounds_toArray, List.set_cons_zero, List.set_cons_succ]))
          refine text_nil (HF.out _ (fun mx dx => ?_))
          clear HF F
          go_wp2
          go_returns
          exact Q _ _ _
        | false =>
          rw [hNd.out]
          go_enter Try.func90, Try.ntmps90
          go_upto_region 1 with (fail)
          refine wp_region_seq (fun F hF => ?_)
          have HF := hid hF; clear hF
          repeat (first
            | (apply text_skip; (focus rfl); simp only [Act.put, List.setIfInBounds_toArray, List.set_cons_zero, List.set_cons_succ])
            | (apply text_val; (focus rfl); (focus (intro _ _; go_simp; with_reducible rfl)); simp only [Act.put, List.setIfInBounds_toArray, List.set_cons_zero, List.set_cons_succ])
            | (apply text_call; (focus rfl); (focus (intro _ _; go_simp; exact ⟨rfl, rfl⟩)); (focus (intro _ _; with_reducible (exact hT _ (by have h := H.out; (repeat' (first | (with_reducible exact h) | (with_reducible refine StoIs.ext ?_ _ _))))))); simp only [Act.put, List.setIfInBounds_toArray, List.set_cons_zero, List.set_cons_succ])
            | (apply text_if; (focus (first | exact wanted_t rfl rfl | exact wanted_f rfl rfl | exact wanted_gt rfl rfl | exact wanted_gf rfl rfl)); (focus (intro hc _ _; (try simp only [Bool.and_eq_true, Bool.not_eq_true', Bool.true_and] at hc); go_simp; with_reducible rfl)); simp only [Act.put, List.setIfInBounds_toArray, List.set_cons_zero, List.set_cons_succ])
            | (apply text_if_call; (focus (first | exact wanted_t rfl rfl | exact wanted_f rfl rfl | exact wanted_gt rfl rfl | exact wanted_gf rfl rfl)); (focus (intro hc _ _; (try simp only [Bool.and_eq_true, Bool.not_eq_true', Bool.true_and] at hc); go_simp; exact ⟨rfl, rfl⟩)); (focus (intro hc _ _; with_reducible (exact hT _ (by have h := H.out; (repeat' (first | (with_reducible exact h) | (with_reducible refine StoIs.ext ?_ _ _))))))); simp only [Act.put, List.setIfInBounds_toArray, List.set_cons_zero, List.set_cons_succ]))
          refine text_nil (HF.out _ (fun mx dx => ?_))
          clear HF F
          go_upto_region 3 with (fail)
          refine wp_region_ext (by kernel_rfl) (by kernel_rfl) (fun F hF => ?_)
          have HF := hid hF; clear hF
          repeat (first
            | (apply text_skip; (focus rfl); simp only [Act.put, List.setIfInBounds_toArray, List.set_cons_zero, List.set_cons_succ])
            | (apply text_val; (focus rfl); (focus (intro _ _; go_simp; with_reducible rfl)); simp only [Act.put, List.setIfInBounds_toArray, List.set_cons_zero, List.set_cons_succ])
            | (apply text_if; (focus (first | exact wanted_t rfl rfl | exact wanted_f rfl rfl | exact wanted_gt rfl rfl | exact wanted_gf rfl rfl)); (focus (intro hc _ _; (try simp only [Bool.and_eq_true, Bool.not_eq_true', Bool.true_and] at hc); go_simp; with_reducible rfl)); simp only [Act.put, List.setIfInBounds_toArray, List.set_cons_zero, List.set_cons_succ]))
          refine text_nil (HF.out _ (fun mx dx => ?_))
          clear HF F
          go_upto_region 4 with (fail)
          refine wp_region_seq (fun F hF => ?_)
          have HF := hid hF; clear hF
          repeat (first
            | (apply text_skip; (focus rfl); simp only [Act.put, List.setIfInBounds_toArray, List.set_cons_zero, List.set_cons_succ])
            | (apply text_val; (focus rfl); (focus (intro _ _; go_simp; with_reducible rfl)); simp only [Act.put, List.setIfInBounds_toArray, List.set_cons_zero, List.set_cons_succ])
            | (apply text_if; (focus (first | exact wanted_t rfl rfl | exact wanted_f rfl rfl | exact wanted_gt rfl rfl | exact wanted_gf rfl rfl)); (focus (intro hc _ _; (try simp only [Bool.and_eq_true, Bool.not_eq_true', Bool.true_and] at hc); go_simp; with_reducible rfl)); simp only [Act.put, List.setIfInBounds_toArray, List.set_cons_zero, List.set_cons_succ]))
          refine text_nil (HF.out _ (fun mx dx => ?_))
          clear HF F
          go_upto_region 7 with (fail)
          refine wp_region_seq (fun F hF => ?_)
          have HF := hid hF; clear hF
          repeat (first
            | (apply text_skip; (focus rfl); simp only [Act.put, List.setIfInBounds_toArray, List.set_cons_zero, List.set_cons_succ])
            | (apply text_val; (focus rfl); (focus (intro _ _; go_simp; with_reducible rfl)); simp only [Act.put, List.setIfInBounds_toArray, List.set_cons_zero, List.set_cons_succ])
            | (apply text_call; (focus rfl); (focus (intro _ _; go_simp; exact ⟨rfl, rfl⟩)); (focus (intro _ _; with_reducible (exact hT _ (by have h := H.out; (repeat' (first | (with_reducible exact h) | (with_reducible refine StoIs.ext ?_ _ _))))))); simp only [Act.put, List.setIfInBounds_toArray, List.set_cons_zero, List.set_cons_succ])
            | (apply text_if; (focus (first | exact wanted_t rfl rfl | exact wanted_f rfl rfl | exact wanted_gt rfl rfl | exact wanted_gf rfl rfl)); (focus (intro hc _ _; (try simp only [Bool.and_eq_true, Bool.not_eq_true', Bool.true_and] at hc); go_simp; with_reducible rfl)); simp only [Act.put, List.setIfInBounds_toArray, List.set_cons_zero, List.set_cons_succ])
            | (apply text_if_call; (focus (first | exact wanted_t rfl rfl | exact wanted_f rfl rfl | exact wanted_gt rfl rfl | exact wanted_gf rfl rfl)); (focus (intro hc _ _; (try simp only [Bool.and_eq_true, Bool.not_eq_true', Bool.true_and] at hc); go_simp; exact ⟨rfl, rfl⟩)); (focus (intro hc _ _; with_reducible (exact hT _ (by have h := H.out; (repeat' (first | (with_reducible exact h) | (with_reducible refine StoIs.ext ?_ _ _))))))); simp only [Act.put, List.setIfInBounds_toArray, List.set_cons_zero, List.set_cons_succ]))
          refine text_nil (HF.out _ (fun mx dx => ?_))
          clear HF F
          go_upto_region 9 with (fail)
          refine wp_region_seq (fun F hF => ?_)
          have HF := hid hF; clear hF
          repeat (first
            | (apply text_skip; (focus rfl); simp only [Act.put, List.setIfInBounds_toArray, List.set_cons_zero, List.set_cons_succ])
            | (apply text_val; (focus rfl); (focus (intro _ _; go_simp; with_reducible rfl)); simp only [Act.put, List.setIfInBounds_toArray, List.set_cons_zero, List.set_cons_succ])
            | (apply text_call; (focus rfl); (focus (intro _ _; go_simp; exact ⟨rfl, rfl⟩)); (focus (intro _ _; with_reducible (exact hT _ (by have h := H.out; (repeat' (first | (with_reducible exact h) | (with_reducible refine StoIs.ext ?_ _ _))))))); simp only [Act.put, List.setIfInBounds_toArray, List.set_cons_zero, List.set_cons_succ])
            | (apply text_if; (focus (first | exact wanted_t rfl rfl | exact wanted_f rfl rfl | exact wanted_gt rfl rfl | exact wanted_gf rfl rfl)); (focus (intro hc _ _; (try simp only [Bool.and_eq_true, Bool.not_eq_true', Bool.true_and] at hc); go_simp; with_reducible rfl)); simp only [Act.put, List.setIfInBounds_toArray, List.set_cons_zero, List.set_cons_succ])
            | (apply text_if_call; (focus (first | exact wanted_t rfl rfl | exact wanted_f rfl rfl | exact wanted_gt rfl rfl | exact wanted_gf rfl rfl)); (focus (intro hc _ _; (try simp only [Bool.and_eq_true, Bool.not_eq_true', Bool.true_and] at hc); go_simp; exact ⟨rfl, rfl⟩)); (focus (intro hc _ _; with_reducible (exact hT _ (by have h := H.out; (repeat' (first | (with_reducible exact h) | (with_reducible refine StoIs.ext ?_ _ _))))))); simp only [Act.put, List.setIfInBounds_toArray, List.set_cons_zero, List.set_cons_succ]))
          refine text_nil (HF.out _ (fun mx dx => ?_))
          clear HF F
          go_wp2
          go_returns
          exact Q _ _ _
end Go.Proofs.Ytboekafmplomhaa
set_option linter.unusedVariables false
set_option linter.unusedSimpArgs false
namespace Go.Proofs.Ytboekafmplomhaa
open Go.RowKit

theorem top_of {w : World} {p : Nat} {F : List Nat} {S : Sto} (h : StoIs w p F S) (hl : S.nodes.length ≤ 1048576) {i : Nat} {n : Nd} (hn : S.nodes[i]? = some n) :
    Calls Try.prog 134 #[.pointer (some ⟨p, 0, none⟩), .int .i64 ((i : Int) + 2)] w (Pure (.int .i64 n.1) w) := by
  have := top_any h hl ((i : Int) + 2) (by have := (List.getElem?_eq_some_iff.1 hn).1; omega)
  rw [topOf_node hn] at this
  exact this
theorem UnPost.after {w V w' : World} {p km : Nat} {F F0 : List Nat} {R : Sto × List (Int × Int) × Option Int} {e : Ending} (h : UnPost V p km F R e w') (st : StoStep w V (km :: F0) (km :: F)) : UnPost w p km F0 R e w' := by
  obtain ⟨h1, F', h2, h3, h4, h5⟩ := h
  exact ⟨h1, F', h2, h3, h4, st.trans h5⟩
set_option maxRecDepth 100000 in
set_option maxHeartbeats 1000000 in
theorem under_any (v : Int) (on : Bool) : ∀ (n : Nat) (w : World) (p km : Nat) (F : List Nat) (S : Sto) (K : List (Int × Int)) (a : Int), StoIs w p F S → MapIs ki w km K → km ∉ F → Wf S → Sated S → KOk S K v on → S.has a → 64 - topOf S a < n →
    Calls Try.prog 90 #[.pointer (some ⟨p, 0, none⟩), .int .i64 a, .int .i64 v, .bool on, .map (some km)] w (UnPost w p km F (underN v on n S K a)) := by
  intro n
  induction n with
  | zero => intro w p km F S K a h _ _ hW _ _ ha hn; have := topOf_le hW ha; omega
  | succ n ih =>
    intro w p km F S K a h hm hk hW hs hK ha hn
    by_cases e : (a < 2 ∨ v < topOf S a) ∨ aget K a ≠ none ∨ topOf S a = v
    · exact under_early h hm hk hW ha e
    · have e1 : ¬ (a < 2 ∨ v < topOf S a) := fun q => e (.inl q)
      have e2 : aget K a = none := by
        cases hq : aget K a with
        | none => rfl
        | some r => exact (e (.inr (.inl (by rw [hq]; simp)))).elim
      have e3 : ¬ topOf S a = v := fun q => e (.inr (.inr q))
      have E1 := hid e1
      have E2 := hid e2
      have E3 := hid e3
      have a2 : ¬ a < 2 := fun q => e1 (.inl q)
      obtain ⟨i, nd, rfl, hn'⟩ := has_node ha a2
      have hl1 : S.nodes.length ≤ 1048576 := by have := hW.len; have := hW.cap; omega
      have tp := topOf_node hn'
      have hnl : ¬ v < nd.1 := fun q => e1 (.inr (by rw [tp]; exact q))
      have hne : (nd.1 == v) = false := by rw [tp] at e3; simpa using e3
      have hN := hid (nodeOf_is hn')
      have hTp := hid tp
      have hc := hW.child hn'
      have hok := hW.node i nd hn'
      rw [tp] at hn
      have T0 := fun W (h : StoIs W p F S) => top_of h hl1 hn'
      obtain ⟨g, cap', bm, tm, hp, hg, c0, c1, c2, c3, c4, hmx, n0, n1, n2⟩ := StoNode h hn'
      have hi1 : (i : Int) < (S.nodes.length : Int) := by have := (List.getElem?_eq_some_iff.1 hn').1; omega
      have hi2 : (0 : Int) ≤ (i : Int) := by omega
      have hb : IntKind.i64.wrap (i : Int) = (i : Int) := IntWalk.i64_in _ (by omega)
      have hlook : ∀ m d, (Instr.lookup 115 (.map (some km)) (.int .i64 ((i : Int) + 2)) true).run Try.prog (w.ext m d) = .ok (.tuple #[.int .i64 0, .bool false]) (w.ext m d) := fun m d => by
        have q := lookup_run (w := w.ext m d) key_int Try.underlying115 (zero_int _) (MapIs.ext hm m d) ((i : Int) + 2) true
        rw [e2] at q
        exact q
      have H := hid h
      have HM := hid hm
      have HA := hid ha
      have O1 := underN_ok v on 64 n S K nd.2.1 hW hs (below64 hW) hK hc.1 (by have := hok.tlo; omega)
      have kd := hok.tlo
      have kh := hok.thi
      clear e e1 e2 e3 a2 tp hok c0 c2 c3 c4 ha h hm
      go_enter Try.func90, Try.ntmps90
      go_upto_region 1 with (fail)
      refine wp_region_seq (fun F hF => ?_)
      have HF := hid hF; clear hF
      repeat (first
        | (apply text_skip; (focus rfl); simp only [Act.put, List.setIfInBounds_toArray, List.set_cons_zero, List.set_cons_succ])
        | (apply text_val; (focus rfl); (focus (intro _ _; go_simp; with_reducible rfl)); simp only [Act.put, List.setIfInBounds_toArray, List.set_cons_zero, List.set_cons_succ])
        | (apply text_call; (focus rfl); (focus (intro _ _; go_simp; exact ⟨rfl, rfl⟩)); (focus (intro _ _; with_reducible (exact T0 _ (by have h := H.out; (repeat' (first | (with_reducible exact h) | (with_reducible refine StoIs.ext ?_ _ _))))))); simp only [Act.put, List.setIfInBounds_toArray, List.set_cons_zero, List.set_cons_succ])
        | (apply text_if; (focus (first | exact wanted_t rfl rfl | exact wanted_f rfl rfl | exact wanted_gt rfl rfl | exact wanted_gf rfl rfl)); (focus (intro hc _ _; (try simp only [Bool.and_eq_true, Bool.not_eq_true', Bool.true_and] at hc); go_simp; with_reducible rfl)); simp only [Act.put, List.setIfInBounds_toArray, List.set_cons_zero, List.set_cons_succ])
        | (apply text_if_call; (focus (first | exact wanted_t rfl rfl | exact wanted_f rfl rfl | exact wanted_gt rfl rfl | exact wanted_gf rfl rfl)); (focus (intro hc _ _; (try simp only [Bool.and_eq_true, Bool.not_eq_true', Bool.true_and] at hc); go_simp; exact ⟨rfl, rfl⟩)); (focus (intro hc _ _; with_reducible (exact T0 _ (by have h := H.out; (repeat' (first | (with_reducible exact h) | (with_reducible refine StoIs.ext ?_ _ _))))))); simp only [Act.put, List.setIfInBounds_toArray, List.set_cons_zero, List.set_cons_succ]))
      refine text_nil (HF.out _ (fun mx dx => ?_))
      clear HF F
      go_upto_region 3 with (fail)
      refine wp_region_ext (by kernel_rfl) (by kernel_rfl) (fun F hF => ?_)
      have HF := hid hF; clear hF
      repeat (first
        | (apply text_skip; (focus rfl); simp only [Act.put, List.setIfInBounds_toArray, List.set_cons_zero, List.set_cons_succ])
        | (apply text_val; (focus rfl); (focus (intro _ _; go_simp; with_reducible rfl)); simp only [Act.put, List.setIfInBounds_toArray, List.set_cons_zero, List.set_cons_succ])
        | (apply text_if; (focus (first | exact wanted_t rfl rfl | exact wanted_f rfl rfl | exact wanted_gt rfl rfl | exact wanted_gf rfl rfl)); (focus (intro hc _ _; (try simp only [Bool.and_eq_true, Bool.not_eq_true', Bool.true_and] at hc); go_simp; with_reducible rfl)); simp only [Act.put, List.setIfInBounds_toArray, List.set_cons_zero, List.set_cons_succ]))
      refine text_nil (HF.out _ (fun mx dx => ?_))
      clear HF F
      go_upto_region 4 with (fail)
      refine wp_region_seq (fun F hF => ?_)
      have HF := hid hF; clear hF
      repeat (first
        | (apply text_skip; (focus rfl); simp only [Act.put, List.setIfInBounds_toArray, List.set_cons_zero, List.set_cons_succ])
        | (apply text_val; (focus rfl); (focus (intro _ _; go_simp; with_reducible rfl)); simp only [Act.put, List.setIfInBounds_toArray, List.set_cons_zero, List.set_cons_succ])
        | (apply text_if; (focus (first | exact wanted_t rfl rfl | exact wanted_f rfl rfl | exact wanted_gt rfl rfl | exact wanted_gf rfl rfl)); (focus (intro hc _ _; (try simp only [Bool.and_eq_true, Bool.not_eq_true', Bool.true_and] at hc); go_simp; with_reducible rfl)); simp only [Act.put, List.setIfInBounds_toArray, List.set_cons_zero, List.set_cons_succ]))
      refine text_nil (HF.out _ (fun mx dx => ?_))
      clear HF F
      go_upto_region 7 with (fail)
      refine wp_region_seq (fun F hF => ?_)
      have HF := hid hF; clear hF
      repeat (first
        | (apply text_skip; (focus rfl); simp only [Act.put, List.setIfInBounds_toArray, List.set_cons_zero, List.set_cons_succ])
        | (apply text_val; (focus rfl); (focus (intro _ _; go_simp; with_reducible rfl)); simp only [Act.put, List.setIfInBounds_toArray, List.set_cons_zero, List.set_cons_succ])
        | (apply text_call; (focus rfl); (focus (intro _ _; go_simp; exact ⟨rfl, rfl⟩)); (focus (intro _ _; with_reducible (exact T0 _ (by have h := H.out; (repeat' (first | (with_reducible exact h) | (with_reducible refine StoIs.ext ?_ _ _))))))); simp only [Act.put, List.setIfInBounds_toArray, List.set_cons_zero, List.set_cons_succ])
        | (apply text_if; (focus (first | exact wanted_t rfl rfl | exact wanted_f rfl rfl | exact wanted_gt rfl rfl | exact wanted_gf rfl rfl)); (focus (intro hc _ _; (try simp only [Bool.and_eq_true, Bool.not_eq_true', Bool.true_and] at hc); go_simp; with_reducible rfl)); simp only [Act.put, List.setIfInBounds_toArray, List.set_cons_zero, List.set_cons_succ])
        | (apply text_if_call; (focus (first | exact wanted_t rfl rfl | exact wanted_f rfl rfl | exact wanted_gt rfl rfl | exact wanted_gf rfl rfl)); (focus (intro hc _ _; (try simp only [Bool.and_eq_true, Bool.not_eq_true', Bool.true_and] at hc); go_simp; exact ⟨rfl, rfl⟩)); (focus (intro hc _ _; with_reducible (exact T0 _ (by have h := H.out; (repeat' (first | (with_reducible exact h) | (with_reducible refine StoIs.ext ?_ _ _))))))); simp only [Act.put, List.setIfInBounds_toArray, List.set_cons_zero, List.set_cons_succ]))
      refine text_nil (HF.out _ (fun mx dx => ?_))
      clear HF F
      go_upto_region 9 with (fail)
      refine wp_region_seq (fun F hF => ?_)
      have HF := hid hF; clear hF
      repeat (first
        | (apply text_skip; (focus rfl); simp only [Act.put, List.setIfInBounds_toArray, List.set_cons_zero, List.set_cons_succ])
        | (apply text_val; (focus rfl); (focus (intro _ _; go_simp; with_reducible rfl)); simp only [Act.put, List.setIfInBounds_toArray, List.set_cons_zero, List.set_cons_succ])
        | (apply text_call; (focus rfl); (focus (intro _ _; go_simp; exact ⟨rfl, rfl⟩)); (focus (intro _ _; with_reducible (exact T0 _ (by have h := H.out; (repeat' (first | (with_reducible exact h) | (with_reducible refine StoIs.ext ?_ _ _))))))); simp only [Act.put, List.setIfInBounds_toArray, List.set_cons_zero, List.set_cons_succ])
        | (apply text_if; (focus (first | exact wanted_t rfl rfl | exact wanted_f rfl rfl | exact wanted_gt rfl rfl | exact wanted_gf rfl rfl)); (focus (intro hc _ _; (try simp only [Bool.and_eq_true, Bool.not_eq_true', Bool.true_and] at hc); go_simp; with_reducible rfl)); simp only [Act.put, List.setIfInBounds_toArray, List.set_cons_zero, List.set_cons_succ])
        | (apply text_if_call; (focus (first | exact wanted_t rfl rfl | exact wanted_f rfl rfl | exact wanted_gt rfl rfl | exact wanted_gf rfl rfl)); (focus (intro hc _ _; (try simp only [Bool.and_eq_true, Bool.not_eq_true', Bool.true_and] at hc); go_simp; exact ⟨rfl, rfl⟩)); (focus (intro hc _ _; with_reducible (exact T0 _ (by have h := H.out; (repeat' (first | (with_reducible exact h) | (with_reducible refine StoIs.ext ?_ _ _))))))); simp only [Act.put, List.setIfInBounds_toArray, List.set_cons_zero, List.set_cons_succ]))
      refine text_nil (HF.out _ (fun mx dx => ?_))
      clear HF F
      go_upto_region 11 with (fail)
      refine wp_gen (fun V hV => ?_)
      have hbV : Below w.heap.size w V := by rw [hV]; ((repeat' (first | (with_reducible exact Below.refl _ _) | (with_reducible refine Below.ext_mk ?_ ?_ _ _) | (with_reducible refine Below.alloc ?_ ?_ _) | (with_reducible refine Below.drew ?_) | (with_reducible refine Below.setCell ?_ ?_ _) | go_size)))
      clear hV
      have hV := H.out.below hbV
      have hmV : MapIs ki V km K := MapIs.keep HM.out (hbV.block _ (MapIs.lt HM.out))
      have st0 : StoStep w V (km :: F) (km :: F) := StoStep.of_below hbV
      have I1 := ih V p km F S K nd.2.1 hV hmV hk hW hs hK hc.1 (by omega)
      clear hlook n0 n1 n2 c1 hp hg hbV hne hb T0
      rcases hR1 : underN v on n S K nd.2.1 with ⟨S1, K1, _ | l⟩
      · rw [hR1] at I1 O1
        unfold UnPost at I1
        simp only [endOf] at I1
        have HR1 := hid hR1
        clear hR1 O1 ih
        go_wp2_with (go_at_call 90; refine I1.mono ?_; rintro e w' ⟨rfl, hT⟩)
        rw [underN_1 E1.out E2.out E3.out (by rw [hN.out]; exact HR1.out)]
        obtain ⟨F', t1, t2, t3, t4⟩ := hT
        exact ⟨rfl, rfl, F', t1, t2, t3, st0.trans t4⟩
      · rw [hR1] at I1 O1
        unfold UnPost at I1
        simp only [endOf] at I1
        have HR1 := hid hR1
        have g1 := O1.grows
        have wf1 := O1.wf
        have s1 := O1.sated
        have kk1 := O1.known
        simp only at g1 wf1 s1 kk1
        have hs1 : S1.nodes.length ≤ 1048576 := by have := wf1.len; have := wf1.cap; omega
        have T1 := fun W F (h : StoIs W p F S1) => top_of h hs1 (g1.at hn')
        have I2 := fun W F h hm hk => ih W p km F S1 K1 nd.2.2 h hm hk wf1 s1 kk1 (g1.has hc.2) (by rw [g1.top hc.2]; omega)
        have O2 := underN_ok v on 64 n S1 K1 nd.2.2 wf1 s1 (below64 wf1) kk1 (g1.has hc.2) (by rw [g1.top hc.2]; omega)
        clear hR1 ih O1 hV hmV
        rcases hR2 : underN v on n S1 K1 nd.2.2 with ⟨S2, K2, _ | hh⟩
        · rw [hR2] at I2 O2
          unfold UnPost at I2
          simp only [endOf] at I2
          have HR2 := hid hR2
          clear hR2 O2
          go_wp2_with (first
            | (go_at_call 90; first
                | ((with_reducible refine I1.mono ?_); rintro e w1 ⟨rfl, F1, hS1, hm1, hk1, st1⟩)
                | ((with_reducible refine (I2 _ _ (hS1.ext _ _) (MapIs.ext hm1 _ _) hk1).mono ?_); rintro e w' ⟨rfl, hT⟩))
            | (go_at_call 134; refine (T1 _ _ hS1).mono ?_; rintro e w2 ⟨rfl, m9, d9, rfl⟩))
          rw [underN_2 E1.out E2.out E3.out (by rw [hN.out]; exact HR1.out) (by rw [hN.out]; exact HR2.out)]
          obtain ⟨F', t1, t2, t3, t4⟩ := hT
          exact ⟨rfl, rfl, F', t1, t2, t3, st0.trans ((st1.ext _ _).trans t4)⟩
        · rw [hR2] at I2 O2
          unfold UnPost at I2
          simp only [endOf] at I2
          have HR2 := hid hR2
          have wf2 := O2.wf
          simp only at wf2
          have N : ∀ w F, StoIs w p F S2 → _ := fun w F h => node_any h wf2.len wf2.cap nd.1 l hh
          clear hR2 O2
          rcases hR3 : mkN S2 nd.1 l hh with ⟨S3, _ | r⟩
          · rw [hR3] at N
            simp only [endOf] at N
            have HR3 := hid hR3
            clear hR3
            go_wp2_with (first
              | (go_at_call 90; first
                  | ((with_reducible refine I1.mono ?_); rintro e w1 ⟨rfl, F1, hS1, hm1, hk1, st1⟩)
                  | ((with_reducible refine (I2 _ _ (hS1.ext _ _) (MapIs.ext hm1 _ _) hk1).mono ?_); rintro e w3 ⟨rfl, F2, hS2, hm2, hk2, st2⟩))
              | (go_at_call 134; refine (T1 _ _ hS1).mono ?_; rintro e w2 ⟨rfl, m9, d9, rfl⟩)
              | (go_at_call 86; refine (N _ _ hS2).mono ?_; rintro e w4 ⟨rfl, F3, hS3, st3⟩))
            rw [underN_3 E1.out E2.out E3.out (by rw [hN.out]; exact HR1.out) (by rw [hN.out]; exact HR2.out) (by rw [hTp.out]; exact HR3.out)]
            exact ⟨rfl, rfl, F3, hS3, MapIs.keep hm2 (st3.block _ (MapIs.lt hm2) hk2), st3.keeps (MapIs.lt hm2) hk2, st0.trans ((st1.ext _ _).trans (st2.trans (st3.wide km)))⟩
          · rw [hR3] at N
            simp only [endOf] at N
            have HR3 := hid hR3
            clear hR3
            go_wp2_with (first
              | (go_at_call 90; first
                  | ((with_reducible refine I1.mono ?_); rintro e w1 ⟨rfl, F1, hS1, hm1, hk1, st1⟩)
                  | ((with_reducible refine (I2 _ _ (hS1.ext _ _) (MapIs.ext hm1 _ _) hk1).mono ?_); rintro e w3 ⟨rfl, F2, hS2, hm2, hk2, st2⟩))
              | (go_at_call 134; refine (T1 _ _ hS1).mono ?_; rintro e w2 ⟨rfl, m9, d9, rfl⟩)
              | (go_at_call 86; refine (N _ _ hS2).mono ?_; rintro e w4 ⟨rfl, F3, hS3, st3⟩
                 have hm3 : MapIs ki w4 km K2 := MapIs.keep hm2 (st3.block _ (MapIs.lt hm2) hk2)
                 have hk3 : km ∉ F3 := st3.keeps (MapIs.lt hm2) hk2
                 obtain ⟨o, u1, u2⟩ := update_run (t := 115) key_int Try.underlying115 hm3 ((i : Int) + 2) r
                 have u3 := lookup_run key_int Try.underlying115 (zero_int _) u2 ((i : Int) + 2) false
                 simp only [aget_aput_self, Option.getD_some, Bool.false_eq_true, if_false] at u3))
            go_returns
            rw [underN_4 E1.out E2.out E3.out (by rw [hN.out]; exact HR1.out) (by rw [hN.out]; exact HR2.out) (by rw [hTp.out]; exact HR3.out)]
            refine ⟨rfl, F3, hS3.keep (fun k hk => World.heap_putOwn_ne _ _ (fun e => hk3 (by rw [← e]; exact hk))), u2, hk3, ?_⟩
            exact st0.trans ((st1.ext _ _).trans (st2.trans ((st3.wide km).trans (StoStep.put (List.mem_cons_self ..) o))))
end Go.Proofs.Ytboekafmplomhaa
set_option linter.unusedVariables false
set_option linter.unusedSimpArgs false
namespace Go.Proofs.Ytboekafmplomhaa
open Go.RowKit

theorem StoStep.drop {w V w' : World} {F F' : List Nat} {km : Nat} (hb : Below w.heap.size w V) (h : StoStep V w' (km :: F) (km :: F')) (h1 : w.heap.size ≤ km) (h2 : km < V.heap.size) (hF : ∀ k ∈ F, k < w.heap.size) (hn : km ∉ F') : StoStep w w' F F' :=
  ⟨h.os.trans hb.os, h.tape.trans hb.tape, h.output.trans hb.output, Nat.le_trans hb.size h.size,
   fun k hk hn => (h.block k (Nat.lt_of_lt_of_le hk hb.size) (fun hm => by
     rcases List.mem_cons.1 hm with rfl | hm
     · omega
     · exact hn hm)).trans (hb.block k hk),
   fun k hk => by
     rcases h.fresh k (List.mem_cons_of_mem _ hk) with q | q
     · rcases List.mem_cons.1 q with rfl | q
       · exact (hn hk).elim
       · exact .inl q
     · exact .inr ⟨by have := hb.size; omega, q.2⟩⟩

theorem under1_any {w : World} {p : Nat} {F : List Nat} {S : Sto} (h : StoIs w p F S) (hW : Wf S) (hs : Sated S) (x v : Int) (on : Bool) (i0 i1 i2 i3 : Nat)
    (h0 : i0 < w.heap.size) (h1 : i1 < w.heap.size) (h2 : i2 < w.heap.size) (h3 : i3 < w.heap.size)
    (c0 : w.cell? ⟨i0, 0, none⟩ = some (.pointer (some ⟨p, 0, none⟩))) (c1 : w.cell? ⟨i1, 0, none⟩ = some (.int .i64 x)) (c2 : w.cell? ⟨i2, 0, none⟩ = some (.int .i64 v)) (c3 : w.cell? ⟨i3, 0, none⟩ = some (.bool on)) :
    Calls Try.prog 89 #[.pointer (some ⟨i0, 0, none⟩), .pointer (some ⟨i1, 0, none⟩), .pointer (some ⟨i2, 0, none⟩), .pointer (some ⟨i3, 0, none⟩)] w
      (fun e w' => e = endOf (underR S x v on).2 ∧ Turned w p F (underR S x v on).1 w') := by
  have hmm := @run_makeMap Try.prog
  have hl1 : S.nodes.length ≤ 1048576 := by have := hW.len; have := hW.cap; omega
  have hlt := h.lt
  have R1 := fun d => right_same (h.ext #[] d) hl1 x
  have hb2 : Below w.heap.size w (w.alloc (.map #[] 0)) := by (repeat' (first | (with_reducible exact Below.refl _ _) | (with_reducible refine Below.ext_mk ?_ ?_ _ _) | (with_reducible refine Below.alloc ?_ ?_ _) | (with_reducible refine Below.drew ?_) | (with_reducible refine Below.setCell ?_ ?_ _) | go_size))
  have R2 := fun d => right_same ((h.below hb2).ext #[] d) hl1 x
  have e1 : ∀ d, (w.ext #[] d).alloc (.map #[] 0) = (w.alloc (.map #[] 0)).ext #[] d := fun d => by unfold World.ext World.alloc; simp
  have H := hid h
  go_enter Try.func89, Try.ntmps89
  go_upto_region 1 with (fail)
  refine wp_region_make 6 7 (w.alloc (.map #[] 0)) (by kernel_rfl) (by kernel_rfl) (by kernel_rfl) (by kernel_rfl) (by kernel_rfl) (fun F' hF => ?_)
  simp only [List.take_succ_cons, List.take_zero, List.drop_succ_cons, List.drop_zero] at hF ⊢
  have HF := hid hF
  clear hF
  repeat (first
    | (refine make_val rfl rfl (fun _ => by go_simp; with_reducible rfl) (fun _ => by first | (go_simp; done) | (go_simp; with_reducible rfl)) ?_; simp only [Act.put, List.setIfInBounds_toArray, List.set_cons_zero, List.set_cons_succ])
    | (refine make_call rfl rfl (fun _ => by first | (go_simp; done) | (go_simp; exact ⟨rfl, rfl⟩)) R1 R2 ?_; simp only [Act.put, List.setIfInBounds_toArray, List.set_cons_zero, List.set_cons_succ])
    | (refine make_make (v := .map (some w.heap.size)) rfl (fun d => ⟨d, by rw [← e1 d]; go_simp⟩) ?_; simp only [Act.put, List.setIfInBounds_toArray, List.set_cons_zero, List.set_cons_succ]))
  refine make_nil (HF.out _ (fun d => ?_))
  clear HF
  have hw : (Exit.normal = Exit.normal) := rfl
  generalize hV : (w.alloc (.map #[] 0)).ext #[] d = V
  have hbV : Below w.heap.size w V := by rw [← hV]; (repeat' (first | (with_reducible exact Below.refl _ _) | (with_reducible refine Below.ext_mk ?_ ?_ _ _) | (with_reducible refine Below.alloc ?_ ?_ _) | (with_reducible refine Below.drew ?_) | (with_reducible refine Below.setCell ?_ ?_ _) | go_size))
  have zV : w.heap.size < V.heap.size := by rw [← hV]; simp
  have hmV : MapIs ki V w.heap.size [] := by
    rw [← hV]
    refine MapIs.ext ⟨#[], 0, World.heap_alloc_last w _, rfl⟩ #[] d
  clear hV hw e1 R1 R2 hb2 hmm c0 c1 c2 c3 h0 h1 h2 h3
  have hkm : w.heap.size ∉ F := fun hm => Nat.lt_irrefl _ (hlt _ hm)
  have N := under_any v on 65 V p w.heap.size F S [] (rightOf S x) (h.below hbV) hmV hkm hW hs (KOk.nil S v on) (has_right x) (by have := topOf_ge hW (has_right (S := S) x); omega)
  rcases hR : underN v on 65 S [] (rightOf S x) with ⟨S', K', _ | r⟩
  · rw [hR] at N
    unfold UnPost at N
    simp only [endOf] at N
    have HR := hid hR
    clear hR
    go_wp2_with (go_at_call 90; refine N.mono ?_; rintro e w' ⟨rfl, F', t1, t2, t3, t4⟩)
    unfold underR
    rw [HR.out]
    exact ⟨rfl, rfl, F', t1, StoStep.drop hbV t4 (Nat.le_refl _) zV hlt t3⟩
  · rw [hR] at N
    unfold UnPost at N
    simp only [endOf] at N
    have HR := hid hR
    clear hR
    go_wp2_with (go_at_call 90; refine N.mono ?_; rintro e w' ⟨rfl, F', t1, t2, t3, t4⟩)
    go_returns
    unfold underR
    rw [HR.out]
    exact ⟨rfl, F', t1, StoStep.drop hbV t4 (Nat.le_refl _) zV hlt t3⟩

theorem under_call {w : World} {p : Nat} {F : List Nat} {S : Sto} (h : StoIs w p F S) (hW : Wf S) (hs : Sated S) (x v : Int) (on : Bool) :
    Tells 30 #[.pointer (some ⟨p, 0, none⟩), .int .i64 x, .int .i64 v, .bool on] w p F (underV S x v on) := by
  have hmf : ∀ (fn : Fn) (first cap : Array Value) (w : World), (Instr.makeFunc fn first cap).run Try.prog w = .ok (.func fn first cap) w := fun _ _ _ _ => rfl
  have hc : S.cap ≠ 0 := by have := hW.cap2; omega
  go_enter Try.func30, Try.ntmps30
  go_upto_region 1 with (fail)
  refine wp_gen (fun V hV => ?_)
  have hbV : Below w.heap.size w V := by rw [hV]; ((repeat' (first | (with_reducible exact Below.refl _ _) | (with_reducible refine Below.ext_mk ?_ ?_ _ _) | (with_reducible refine Below.alloc ?_ ?_ _) | (with_reducible refine Below.drew ?_) | (with_reducible refine Below.setCell ?_ ?_ _) | go_size)))
  have zV0 : w.heap.size < V.heap.size := by rw [hV]; first | (simp; done) | (simp; omega)
  have cV0_0 : V.cell? ⟨w.heap.size, 0, none⟩ = some (.pointer (some ⟨p, 0, none⟩)) := by rw [hV]; first | (go_simp; done) | (rw [World.cell?_alloc_past _ _ _ (by first | (simp; done) | (simp; omega))]; go_simp)
  have zV1 : w.heap.size + 1 < V.heap.size := by rw [hV]; first | (simp; done) | (simp; omega)
  have cV1_0 : V.cell? ⟨w.heap.size + 1, 0, none⟩ = some (.int .i64 x) := by rw [hV]; first | (go_simp; done) | (rw [World.cell?_alloc_past _ _ _ (by first | (simp; done) | (simp; omega))]; go_simp)
  have zV2 : w.heap.size + 2 < V.heap.size := by rw [hV]; first | (simp; done) | (simp; omega)
  have cV2_0 : V.cell? ⟨w.heap.size + 2, 0, none⟩ = some (.int .i64 v) := by rw [hV]; first | (go_simp; done) | (rw [World.cell?_alloc_past _ _ _ (by first | (simp; done) | (simp; omega))]; go_simp)
  have zV3 : w.heap.size + 3 < V.heap.size := by rw [hV]; first | (simp; done) | (simp; omega)
  have cV3_0 : V.cell? ⟨w.heap.size + 3, 0, none⟩ = some (.bool on) := by rw [hV]; first | (go_simp; done) | (rw [World.cell?_alloc_past _ _ _ (by first | (simp; done) | (simp; omega))]; go_simp)
  clear hV
  have hV := h.below hbV
  have M := made_any hV hc 89 #[.pointer (some ⟨w.heap.size, 0, none⟩), .pointer (some ⟨w.heap.size + 1, 0, none⟩), .pointer (some ⟨w.heap.size + 2, 0, none⟩), .pointer (some ⟨w.heap.size + 3, 0, none⟩)] (fun _ => by kernel_rfl) (underR S x v on)
    (fun w' hb hS => under1_any hS hW hs x v on _ _ _ _ (Nat.lt_of_lt_of_le zV0 hb.size) (Nat.lt_of_lt_of_le zV1 hb.size) (Nat.lt_of_lt_of_le zV2 hb.size) (Nat.lt_of_lt_of_le zV3 hb.size)
      ((cell_of_heap 0 (hb.block _ zV0)).trans cV0_0) ((cell_of_heap 0 (hb.block _ zV1)).trans cV1_0) ((cell_of_heap 0 (hb.block _ zV2)).trans cV2_0) ((cell_of_heap 0 (hb.block _ zV3)).trans cV3_0))
  have st : StoStep w V F F := StoStep.of_below hbV
  unfold Tells at M
  go_wp2_with (go_at_call 84; refine M.mono ?_; rintro e w' ⟨rfl, hT⟩)
  go_returns
  exact ⟨rfl, hT.after st⟩
end Go.Proofs.Ytboekafmplomhaa
set_option linter.unusedVariables false
set_option linter.unusedSimpArgs false
namespace Go.Proofs.Ytboekafmplomhaa
open Go.RowKit

def isVarB (v : Int) : Bool := decide (0 ≤ v) && decide (v < 64)
theorem isVar_any (v : Int) (w : World) : Calls Try.prog 98 #[.int .i64 v] w (Pure (.bool (isVarB v)) w) := by
  go_enter Try.func98, Try.ntmps98
  go_upto_region 1 with (fail)
  refine wp_region_seq (fun F hF => ?_)
  have HF := hid hF; clear hF
  repeat (first
    | (apply text_skip; (focus rfl); simp only [Act.put, List.setIfInBounds_toArray, List.set_cons_zero, List.set_cons_succ])
    | (apply text_val; (focus rfl); (focus (intro _ _; go_simp; with_reducible rfl)); simp only [Act.put, List.setIfInBounds_toArray, List.set_cons_zero, List.set_cons_succ])
    | (apply text_if; (focus (first | exact wanted_t rfl rfl | exact wanted_f rfl rfl | exact wanted_gt rfl rfl | exact wanted_gf rfl rfl)); (focus (intro hc _ _; (try simp only [Bool.and_eq_true, Bool.not_eq_true', Bool.true_and] at hc); go_simp; with_reducible rfl)); simp only [Act.put, List.setIfInBounds_toArray, List.set_cons_zero, List.set_cons_succ]))
  refine text_nil (HF.out _ (fun mx dx => ?_))
  clear HF F
  go_wp2_with fail
  go_returns
  exact Pure.of (by unfold isVarB; by_cases h : 0 ≤ v <;> simp [h]) (by (repeat' (first | (with_reducible exact Below.refl _ _) | (with_reducible refine Below.ext_mk ?_ ?_ _ _) | (with_reducible refine Below.alloc ?_ ?_ _) | (with_reducible refine Below.drew ?_) | (with_reducible refine Below.setCell ?_ ?_ _) | go_size)))

/-- What quant.right tells of a diagram, by what Full and At tell. -/
def qrightV (f b : Bool) (x : Int) : Int := if f || !b && decide (x ≠ 1) then 0 else x
theorem qright_gen (q : Value) (x a1 a2 a3 : Int) (f b : Bool) (w : World)
    (ha : ∀ W, Below w.heap.size w W → Calls Try.prog 21 #[q, .int .i64 x] W (Pure (.tuple #[.agg #[.int .i64 a1, .int .i64 a2, .int .i64 a3], .bool b]) W))
    (hf : ∀ W, Below w.heap.size w W → Calls Try.prog 22 #[q] W (Pure (.bool f) W)) :
    Calls Try.prog 99 #[q, .int .i64 x] w (Pure (.int .i64 (qrightV f b x)) w) := by
  by_cases hx : x = 1
  · subst hx
    have HA := hid ha; clear ha
    have HF' := hid hf; clear hf
    have HX : Hid (qrightV f b 1 = if f || !b && decide ((1 : Int) ≠ 1) then 0 else 1) := hid rfl
    cases f <;> cases b
    all_goals
      go_enter Try.func99, Try.ntmps99
      go_upto_region 2 with (first | ((with_reducible refine (HA.out _ ?_).mono ?_); (focus (repeat' (first | (with_reducible exact Below.refl _ _) | (with_reducible refine Below.ext_mk ?_ ?_ _ _) | (with_reducible refine Below.alloc ?_ ?_ _) | (with_reducible refine Below.drew ?_) | (with_reducible refine Below.setCell ?_ ?_ _) | go_size))); rintro e w1 ⟨rfl, m1, d1, rfl⟩))
      refine wp_region_seq (fun F hF => ?_)
      have HF := hid hF; clear hF
      repeat (first
        | (apply text_skip; (focus rfl); simp only [Act.put, List.setIfInBounds_toArray, List.set_cons_zero, List.set_cons_succ])
        | (apply text_val; (focus rfl); (focus (intro _ _; go_simp; with_reducible rfl)); simp only [Act.put, List.setIfInBounds_toArray, List.set_cons_zero, List.set_cons_succ])
        | (apply text_call; (focus rfl); (focus (intro _ _; go_simp; exact ⟨rfl, rfl⟩)); (focus (intro _ _; with_reducible (exact HF'.out _ (by (repeat' (first | (with_reducible exact Below.refl _ _) | (with_reducible refine Below.ext_mk ?_ ?_ _ _) | (with_reducible refine Below.alloc ?_ ?_ _) | (with_reducible refine Below.drew ?_) | (with_reducible refine Below.setCell ?_ ?_ _) | go_size)))))); simp only [Act.put, List.setIfInBounds_toArray, List.set_cons_zero, List.set_cons_succ])
        | (apply text_if; (focus (first | exact wanted_t rfl rfl | exact wanted_f rfl rfl | exact wanted_gt rfl rfl | exact wanted_gf rfl rfl)); (focus (intro hc _ _; (try simp only [Bool.and_eq_true, Bool.not_eq_true', Bool.true_and] at hc); go_simp; with_reducible rfl)); simp only [Act.put, List.setIfInBounds_toArray, List.set_cons_zero, List.set_cons_succ])
        | (apply text_if_call; (focus (first | exact wanted_t rfl rfl | exact wanted_f rfl rfl | exact wanted_gt rfl rfl | exact wanted_gf rfl rfl)); (focus (intro hc _ _; (try simp only [Bool.and_eq_true, Bool.not_eq_true', Bool.true_and] at hc); go_simp; exact ⟨rfl, rfl⟩)); (focus (intro hc _ _; with_reducible (exact HF'.out _ (by (repeat' (first | (with_reducible exact Below.refl _ _) | (with_reducible refine Below.ext_mk ?_ ?_ _ _) | (with_reducible refine Below.alloc ?_ ?_ _) | (with_reducible refine Below.drew ?_) | (with_reducible refine Below.setCell ?_ ?_ _) | go_size)))))); simp only [Act.put, List.setIfInBounds_toArray, List.set_cons_zero, List.set_cons_succ]))
      refine text_nil (HF.out _ (fun mx dx => ?_))
      clear HF F
      go_wp2_with fail
      go_returns
      exact Pure.of (by rw [HX.out]; simp [*]) (by (repeat' (first | (with_reducible exact Below.refl _ _) | (with_reducible refine Below.ext_mk ?_ ?_ _ _) | (with_reducible refine Below.alloc ?_ ?_ _) | (with_reducible refine Below.drew ?_) | (with_reducible refine Below.setCell ?_ ?_ _) | go_size)))
  · have HA := hid ha; clear ha
    have HF' := hid hf; clear hf
    have HX : Hid (qrightV f b x = if f || !b && decide (x ≠ 1) then 0 else x) := hid rfl
    cases f <;> cases b
    all_goals
      go_enter Try.func99, Try.ntmps99
      go_upto_region 2 with (first | ((with_reducible refine (HA.out _ ?_).mono ?_); (focus (repeat' (first | (with_reducible exact Below.refl _ _) | (with_reducible refine Below.ext_mk ?_ ?_ _ _) | (with_reducible refine Below.alloc ?_ ?_ _) | (with_reducible refine Below.drew ?_) | (with_reducible refine Below.setCell ?_ ?_ _) | go_size))); rintro e w1 ⟨rfl, m1, d1, rfl⟩))
      refine wp_region_seq (fun F hF => ?_)
      have HF := hid hF; clear hF
      repeat (first
        | (apply text_skip; (focus rfl); simp only [Act.put, List.setIfInBounds_toArray, List.set_cons_zero, List.set_cons_succ])
        | (apply text_val; (focus rfl); (focus (intro _ _; go_simp; with_reducible rfl)); simp only [Act.put, List.setIfInBounds_toArray, List.set_cons_zero, List.set_cons_succ])
        | (apply text_call; (focus rfl); (focus (intro _ _; go_simp; exact ⟨rfl, rfl⟩)); (focus (intro _ _; with_reducible (exact HF'.out _ (by (repeat' (first | (with_reducible exact Below.refl _ _) | (with_reducible refine Below.ext_mk ?_ ?_ _ _) | (with_reducible refine Below.alloc ?_ ?_ _) | (with_reducible refine Below.drew ?_) | (with_reducible refine Below.setCell ?_ ?_ _) | go_size)))))); simp only [Act.put, List.setIfInBounds_toArray, List.set_cons_zero, List.set_cons_succ])
        | (apply text_if; (focus (first | exact wanted_t rfl rfl | exact wanted_f rfl rfl | exact wanted_gt rfl rfl | exact wanted_gf rfl rfl)); (focus (intro hc _ _; (try simp only [Bool.and_eq_true, Bool.not_eq_true', Bool.true_and] at hc); go_simp; with_reducible rfl)); simp only [Act.put, List.setIfInBounds_toArray, List.set_cons_zero, List.set_cons_succ])
        | (apply text_if_call; (focus (first | exact wanted_t rfl rfl | exact wanted_f rfl rfl | exact wanted_gt rfl rfl | exact wanted_gf rfl rfl)); (focus (intro hc _ _; (try simp only [Bool.and_eq_true, Bool.not_eq_true', Bool.true_and] at hc); go_simp; exact ⟨rfl, rfl⟩)); (focus (intro hc _ _; with_reducible (exact HF'.out _ (by (repeat' (first | (with_reducible exact Below.refl _ _) | (with_reducible refine Below.ext_mk ?_ ?_ _ _) | (with_reducible refine Below.alloc ?_ ?_ _) | (with_reducible refine Below.drew ?_) | (with_reducible refine Below.setCell ?_ ?_ _) | go_size)))))); simp only [Act.put, List.setIfInBounds_toArray, List.set_cons_zero, List.set_cons_succ]))
      refine text_nil (HF.out _ (fun mx dx => ?_))
      clear HF F
      go_wp2_with fail
      go_returns
      exact Pure.of (by rw [HX.out]; simp [*]) (by (repeat' (first | (with_reducible exact Below.refl _ _) | (with_reducible refine Below.ext_mk ?_ ?_ _ _) | (with_reducible refine Below.alloc ?_ ?_ _) | (with_reducible refine Below.drew ?_) | (with_reducible refine Below.setCell ?_ ?_ _) | go_size)))
end Go.Proofs.Ytboekafmplomhaa
set_option linter.unusedVariables false
set_option linter.unusedSimpArgs false
namespace Go.Proofs.Ytboekafmplomhaa
open Go.RowKit

section
variable {w : World} {q : Option Addr} (h : Dead w q)
include h
theorem qright_dead (x : Int) : Calls Try.prog 99 #[.pointer q, .int .i64 x] w (Pure (.int .i64 0) w) := by
  have HU := hid (fun W hb => h.full W hb)
  obtain ⟨n1, n2, n3, is, ha⟩ := h.at_ w (Below.refl _ _) x
  clear h
  go_enter Try.func99, Try.ntmps99
  go_upto_region 2 with (first | ((with_reducible refine ha.mono ?_); rintro e w1 ⟨rfl, m1, d1, rfl⟩))
  refine wp_region_seq (fun F hF => ?_)
  have HF := hid hF; clear hF
  repeat (first
    | (apply text_skip; (focus rfl); simp only [Act.put, List.setIfInBounds_toArray, List.set_cons_zero, List.set_cons_succ])
    | (apply text_val; (focus rfl); (focus (intro _ _; go_simp; with_reducible rfl)); simp only [Act.put, List.setIfInBounds_toArray, List.set_cons_zero, List.set_cons_succ])
    | (apply text_call; (focus rfl); (focus (intro _ _; go_simp; exact ⟨rfl, rfl⟩)); (focus (intro _ _; with_reducible (exact HU.out _ (by (repeat' (first | (with_reducible exact Below.refl _ _) | (with_reducible refine Below.ext_mk ?_ ?_ _ _) | (with_reducible refine Below.alloc ?_ ?_ _) | (with_reducible refine Below.drew ?_) | (with_reducible refine Below.setCell ?_ ?_ _) | go_size)))))); simp only [Act.put, List.setIfInBounds_toArray, List.set_cons_zero, List.set_cons_succ])
    | (apply text_if; (focus (first | exact wanted_t rfl rfl | exact wanted_f rfl rfl | exact wanted_gt rfl rfl | exact wanted_gf rfl rfl)); (focus (intro hc _ _; (try simp only [Bool.and_eq_true, Bool.not_eq_true', Bool.true_and] at hc); go_simp; with_reducible rfl)); simp only [Act.put, List.setIfInBounds_toArray, List.set_cons_zero, List.set_cons_succ])
    | (apply text_if_call; (focus (first | exact wanted_t rfl rfl | exact wanted_f rfl rfl | exact wanted_gt rfl rfl | exact wanted_gf rfl rfl)); (focus (intro hc _ _; (try simp only [Bool.and_eq_true, Bool.not_eq_true', Bool.true_and] at hc); go_simp; exact ⟨rfl, rfl⟩)); (focus (intro hc _ _; with_reducible (exact HU.out _ (by (repeat' (first | (with_reducible exact Below.refl _ _) | (with_reducible refine Below.ext_mk ?_ ?_ _ _) | (with_reducible refine Below.alloc ?_ ?_ _) | (with_reducible refine Below.drew ?_) | (with_reducible refine Below.setCell ?_ ?_ _) | go_size)))))); simp only [Act.put, List.setIfInBounds_toArray, List.set_cons_zero, List.set_cons_succ]))
  refine text_nil (HF.out _ (fun mx dx => ?_))
  clear HF F
  go_wp2_with fail
  go_returns
  exact Pure.of rfl (by (repeat' (first | (with_reducible exact Below.refl _ _) | (with_reducible refine Below.ext_mk ?_ ?_ _ _) | (with_reducible refine Below.alloc ?_ ?_ _) | (with_reducible refine Below.drew ?_) | (with_reducible refine Below.setCell ?_ ?_ _) | go_size)))
theorem parts_dead (x v : Int) : Calls Try.prog 100 #[.pointer q, .int .i64 x, .int .i64 v] w (Pure (.tuple #[.int .i64 0, .int .i64 0]) w) := by
  have M := hid (fun W (hb : Below w.heap.size w W) (on : Bool) => under_dead (h.below hb) x v on)
  clear h
  go_enter Try.func100, Try.ntmps100
  go_wp2_with (go_at_call 30; refine (M.out _ (by (repeat' (first | (with_reducible exact Below.refl _ _) | (with_reducible refine Below.ext_mk ?_ ?_ _ _) | (with_reducible refine Below.alloc ?_ ?_ _) | (with_reducible refine Below.drew ?_) | (with_reducible refine Below.setCell ?_ ?_ _) | go_size))) _).mono ?_; rintro e w' ⟨rfl, m1, d1, rfl⟩)
  go_returns
  exact Pure.of rfl (by (repeat' (first | (with_reducible exact Below.refl _ _) | (with_reducible refine Below.ext_mk ?_ ?_ _ _) | (with_reducible refine Below.alloc ?_ ?_ _) | (with_reducible refine Below.drew ?_) | (with_reducible refine Below.setCell ?_ ?_ _) | go_size)))
theorem compose_dead (x v y : Int) : Calls Try.prog 40 #[.pointer q, .int .i64 x, .int .i64 v, .int .i64 y] w (Pure (.int .i64 0) w) := by
  have R := hid (fun W (hb : Below w.heap.size w W) => qright_dead (h.below hb) x)
  have P := hid (fun W (hb : Below w.heap.size w W) => parts_dead (h.below hb) x v)
  have I := hid (fun W (hb : Below w.heap.size w W) (a b c : Int) => ite_dead (h.below hb) a b c)
  have V := isVar_any v
  clear h
  cases hv : isVarB v
  all_goals
    rw [hv] at V
    clear hv
    go_enter Try.func40, Try.ntmps40
    go_wp2_with (first
      | (go_at_call 98; refine (V _).mono ?_; rintro e w' ⟨rfl, m1, d1, rfl⟩)
      | (go_at_call 99; refine (R.out _ (by (repeat' (first | (with_reducible exact Below.refl _ _) | (with_reducible refine Below.ext_mk ?_ ?_ _ _) | (with_reducible refine Below.alloc ?_ ?_ _) | (with_reducible refine Below.drew ?_) | (with_reducible refine Below.setCell ?_ ?_ _) | go_size)))).mono ?_; rintro e w' ⟨rfl, m2, d2, rfl⟩)
      | (go_at_call 100; refine (P.out _ (by (repeat' (first | (with_reducible exact Below.refl _ _) | (with_reducible refine Below.ext_mk ?_ ?_ _ _) | (with_reducible refine Below.alloc ?_ ?_ _) | (with_reducible refine Below.drew ?_) | (with_reducible refine Below.setCell ?_ ?_ _) | go_size)))).mono ?_; rintro e w' ⟨rfl, m3, d3, rfl⟩)
      | (go_at_call 25; refine (I.out _ (by (repeat' (first | (with_reducible exact Below.refl _ _) | (with_reducible refine Below.ext_mk ?_ ?_ _ _) | (with_reducible refine Below.alloc ?_ ?_ _) | (with_reducible refine Below.drew ?_) | (with_reducible refine Below.setCell ?_ ?_ _) | go_size))) _ _ _).mono ?_; rintro e w' ⟨rfl, m4, d4, rfl⟩))
    go_returns
    exact Pure.of rfl (by (repeat' (first | (with_reducible exact Below.refl _ _) | (with_reducible refine Below.ext_mk ?_ ?_ _ _) | (with_reducible refine Below.alloc ?_ ?_ _) | (with_reducible refine Below.drew ?_) | (with_reducible refine Below.setCell ?_ ?_ _) | go_size)))
theorem implies_dead (x y : Int) : Calls Try.prog 42 #[.pointer q, .int .i64 x, .int .i64 y] w (Pure (.bool false) w) := by
  have N := hid (fun W (hb : Below w.heap.size w W) => not_dead (h.below hb) y)
  have A := hid (fun W (hb : Below w.heap.size w W) (a b : Int) => and_dead (h.below hb) a b)
  have HU := hid (fun W hb => h.full W hb)
  clear h
  go_enter Try.func42, Try.ntmps42
  go_upto_region 2 with (first | (go_at_call 26; refine (N.out _ (by (repeat' (first | (with_reducible exact Below.refl _ _) | (with_reducible refine Below.ext_mk ?_ ?_ _ _) | (with_reducible refine Below.alloc ?_ ?_ _) | (with_reducible refine Below.drew ?_) | (with_reducible refine Below.setCell ?_ ?_ _) | go_size)))).mono ?_; rintro e w' ⟨rfl, m1, d1, rfl⟩))
  refine wp_region_seq (fun F hF => ?_)
  have HF := hid hF; clear hF
  repeat (first
    | (apply text_skip; (focus rfl); simp only [Act.put, List.setIfInBounds_toArray, List.set_cons_zero, List.set_cons_succ])
    | (apply text_val; (focus rfl); (focus (intro _ _; go_simp; with_reducible rfl)); simp only [Act.put, List.setIfInBounds_toArray, List.set_cons_zero, List.set_cons_succ])
    | (apply text_call; (focus rfl); (focus (intro _ _; go_simp; exact ⟨rfl, rfl⟩)); (focus (intro _ _; with_reducible (exact A.out _ (by (repeat' (first | (with_reducible exact Below.refl _ _) | (with_reducible refine Below.ext_mk ?_ ?_ _ _) | (with_reducible refine Below.alloc ?_ ?_ _) | (with_reducible refine Below.drew ?_) | (with_reducible refine Below.setCell ?_ ?_ _) | go_size))) _ _))); simp only [Act.put, List.setIfInBounds_toArray, List.set_cons_zero, List.set_cons_succ])
    | (apply text_call; (focus rfl); (focus (intro _ _; go_simp; exact ⟨rfl, rfl⟩)); (focus (intro _ _; with_reducible (exact HU.out _ (by (repeat' (first | (with_reducible exact Below.refl _ _) | (with_reducible refine Below.ext_mk ?_ ?_ _ _) | (with_reducible refine Below.alloc ?_ ?_ _) | (with_reducible refine Below.drew ?_) | (with_reducible refine Below.setCell ?_ ?_ _) | go_size)))))); simp only [Act.put, List.setIfInBounds_toArray, List.set_cons_zero, List.set_cons_succ])
    | (apply text_if; (focus (first | exact wanted_t rfl rfl | exact wanted_f rfl rfl | exact wanted_gt rfl rfl | exact wanted_gf rfl rfl)); (focus (intro hc _ _; (try simp only [Bool.and_eq_true, Bool.not_eq_true', Bool.true_and] at hc); go_simp; with_reducible rfl)); simp only [Act.put, List.setIfInBounds_toArray, List.set_cons_zero, List.set_cons_succ])
    | (apply text_if_call; (focus (first | exact wanted_t rfl rfl | exact wanted_f rfl rfl | exact wanted_gt rfl rfl | exact wanted_gf rfl rfl)); (focus (intro hc _ _; (try simp only [Bool.and_eq_true, Bool.not_eq_true', Bool.true_and] at hc); go_simp; exact ⟨rfl, rfl⟩)); (focus (intro hc _ _; with_reducible (exact A.out _ (by (repeat' (first | (with_reducible exact Below.refl _ _) | (with_reducible refine Below.ext_mk ?_ ?_ _ _) | (with_reducible refine Below.alloc ?_ ?_ _) | (with_reducible refine Below.drew ?_) | (with_reducible refine Below.setCell ?_ ?_ _) | go_size))) _ _))); simp only [Act.put, List.setIfInBounds_toArray, List.set_cons_zero, List.set_cons_succ])
    | (apply text_if_call; (focus (first | exact wanted_t rfl rfl | exact wanted_f rfl rfl | exact wanted_gt rfl rfl | exact wanted_gf rfl rfl)); (focus (intro hc _ _; (try simp only [Bool.and_eq_true, Bool.not_eq_true', Bool.true_and] at hc); go_simp; exact ⟨rfl, rfl⟩)); (focus (intro hc _ _; with_reducible (exact HU.out _ (by (repeat' (first | (with_reducible exact Below.refl _ _) | (with_reducible refine Below.ext_mk ?_ ?_ _ _) | (with_reducible refine Below.alloc ?_ ?_ _) | (with_reducible refine Below.drew ?_) | (with_reducible refine Below.setCell ?_ ?_ _) | go_size)))))); simp only [Act.put, List.setIfInBounds_toArray, List.set_cons_zero, List.set_cons_succ]))
  refine text_nil (HF.out _ (fun mx dx => ?_))
  clear HF F
  go_wp2_with fail
  go_returns
  exact Pure.of rfl (by (repeat' (first | (with_reducible exact Below.refl _ _) | (with_reducible refine Below.ext_mk ?_ ?_ _ _) | (with_reducible refine Below.alloc ?_ ?_ _) | (with_reducible refine Below.drew ?_) | (with_reducible refine Below.setCell ?_ ?_ _) | go_size)))
set_option maxHeartbeats 2000000 in
theorem swap_dead (x u v : Int) : Calls Try.prog 41 #[.pointer q, .int .i64 x, .int .i64 u, .int .i64 v] w (Pure (.int .i64 0) w) := by
  have R := hid (fun W (hb : Below w.heap.size w W) => qright_dead (h.below hb) x)
  have P := hid (fun W (hb : Below w.heap.size w W) (a b : Int) => parts_dead (h.below hb) a b)
  have X := hid (fun W (hb : Below w.heap.size w W) (a : Int) => var_dead (h.below hb) a)
  have I := hid (fun W (hb : Below w.heap.size w W) (a b c : Int) => ite_dead (h.below hb) a b c)
  clear h
  by_cases huv : u = v
  · subst huv
    have VU := isVar_any u
    have VV := isVar_any u
    go_enter Try.func41, Try.ntmps41
    go_upto_region 1 with (fail)
    refine wp_region_seq (fun F hF => ?_)
    have HF := hid hF; clear hF
    repeat (first
      | (apply text_skip; (focus rfl); simp only [Act.put, List.setIfInBounds_toArray, List.set_cons_zero, List.set_cons_succ])
      | (apply text_val; (focus rfl); (focus (intro _ _; go_simp; with_reducible rfl)); simp only [Act.put, List.setIfInBounds_toArray, List.set_cons_zero, List.set_cons_succ])
      | (apply text_call; (focus rfl); (focus (intro _ _; go_simp; exact ⟨rfl, rfl⟩)); (focus (intro _ _; with_reducible (exact VU _))); simp only [Act.put, List.setIfInBounds_toArray, List.set_cons_zero, List.set_cons_succ])
      | (apply text_call; (focus rfl); (focus (intro _ _; go_simp; exact ⟨rfl, rfl⟩)); (focus (intro _ _; with_reducible (exact VV _))); simp only [Act.put, List.setIfInBounds_toArray, List.set_cons_zero, List.set_cons_succ])
      | (apply text_if; (focus (first | exact wanted_t rfl rfl | exact wanted_f rfl rfl | exact wanted_gt rfl rfl | exact wanted_gf rfl rfl)); (focus (intro hc _ _; (try simp only [Bool.and_eq_true, Bool.not_eq_true', Bool.true_and] at hc); go_simp; with_reducible rfl)); simp only [Act.put, List.setIfInBounds_toArray, List.set_cons_zero, List.set_cons_succ])
      | (apply text_if_call; (focus (first | exact wanted_t rfl rfl | exact wanted_f rfl rfl | exact wanted_gt rfl rfl | exact wanted_gf rfl rfl)); (focus (intro hc _ _; (try simp only [Bool.and_eq_true, Bool.not_eq_true', Bool.true_and] at hc); go_simp; exact ⟨rfl, rfl⟩)); (focus (intro hc _ _; with_reducible (exact VU _))); simp only [Act.put, List.setIfInBounds_toArray, List.set_cons_zero, List.set_cons_succ])
      | (apply text_if_call; (focus (first | exact wanted_t rfl rfl | exact wanted_f rfl rfl | exact wanted_gt rfl rfl | exact wanted_gf rfl rfl)); (focus (intro hc _ _; (try simp only [Bool.and_eq_true, Bool.not_eq_true', Bool.true_and] at hc); go_simp; exact ⟨rfl, rfl⟩)); (focus (intro hc _ _; with_reducible (exact VV _))); simp only [Act.put, List.setIfInBounds_toArray, List.set_cons_zero, List.set_cons_succ]))
    refine text_nil (HF.out _ (fun mx dx => ?_))
    clear HF F
    go_wp2_with (first
      | (go_at_call 99; refine (R.out _ (by (repeat' (first | (with_reducible exact Below.refl _ _) | (with_reducible refine Below.ext_mk ?_ ?_ _ _) | (with_reducible refine Below.alloc ?_ ?_ _) | (with_reducible refine Below.drew ?_) | (with_reducible refine Below.setCell ?_ ?_ _) | go_size)))).mono ?_; rintro e w' ⟨rfl, m2, d2, rfl⟩)
      | (go_at_call 100; refine (P.out _ (by (repeat' (first | (with_reducible exact Below.refl _ _) | (with_reducible refine Below.ext_mk ?_ ?_ _ _) | (with_reducible refine Below.alloc ?_ ?_ _) | (with_reducible refine Below.drew ?_) | (with_reducible refine Below.setCell ?_ ?_ _) | go_size))) _ _).mono ?_; rintro e w' ⟨rfl, m3, d3, rfl⟩)
      | (go_at_call 24; refine (X.out _ (by (repeat' (first | (with_reducible exact Below.refl _ _) | (with_reducible refine Below.ext_mk ?_ ?_ _ _) | (with_reducible refine Below.alloc ?_ ?_ _) | (with_reducible refine Below.drew ?_) | (with_reducible refine Below.setCell ?_ ?_ _) | go_size))) _).mono ?_; rintro e w' ⟨rfl, m3, d3, rfl⟩)
      | (go_at_call 25; refine (I.out _ (by (repeat' (first | (with_reducible exact Below.refl _ _) | (with_reducible refine Below.ext_mk ?_ ?_ _ _) | (with_reducible refine Below.alloc ?_ ?_ _) | (with_reducible refine Below.drew ?_) | (with_reducible refine Below.setCell ?_ ?_ _) | go_size))) _ _ _).mono ?_; rintro e w' ⟨rfl, m4, d4, rfl⟩))
    go_returns
    exact Pure.of rfl (by (repeat' (first | (with_reducible exact Below.refl _ _) | (with_reducible refine Below.ext_mk ?_ ?_ _ _) | (with_reducible refine Below.alloc ?_ ?_ _) | (with_reducible refine Below.drew ?_) | (with_reducible refine Below.setCell ?_ ?_ _) | go_size)))
  · have VU := isVar_any u
    have VV := isVar_any v
    cases hu : isVarB u <;> cases hv : isVarB v
    all_goals
      rw [hu] at VU
      rw [hv] at VV
      clear hu hv
      go_enter Try.func41, Try.ntmps41
      go_upto_region 1 with (fail)
      refine wp_region_seq (fun F hF => ?_)
      have HF := hid hF; clear hF
      repeat (first
        | (apply text_skip; (focus rfl); simp only [Act.put, List.setIfInBounds_toArray, List.set_cons_zero, List.set_cons_succ])
        | (apply text_val; (focus rfl); (focus (intro _ _; go_simp; with_reducible rfl)); simp only [Act.put, List.setIfInBounds_toArray, List.set_cons_zero, List.set_cons_succ])
        | (apply text_call; (focus rfl); (focus (intro _ _; go_simp; exact ⟨rfl, rfl⟩)); (focus (intro _ _; with_reducible (exact VU _))); simp only [Act.put, List.setIfInBounds_toArray, List.set_cons_zero, List.set_cons_succ])
        | (apply text_call; (focus rfl); (focus (intro _ _; go_simp; exact ⟨rfl, rfl⟩)); (focus (intro _ _; with_reducible (exact VV _))); simp only [Act.put, List.setIfInBounds_toArray, List.set_cons_zero, List.set_cons_succ])
        | (apply text_if; (focus (first | exact wanted_t rfl rfl | exact wanted_f rfl rfl | exact wanted_gt rfl rfl | exact wanted_gf rfl rfl)); (focus (intro hc _ _; (try simp only [Bool.and_eq_true, Bool.not_eq_true', Bool.true_and] at hc); go_simp; with_reducible rfl)); simp only [Act.put, List.setIfInBounds_toArray, List.set_cons_zero, List.set_cons_succ])
        | (apply text_if_call; (focus (first | exact wanted_t rfl rfl | exact wanted_f rfl rfl | exact wanted_gt rfl rfl | exact wanted_gf rfl rfl)); (focus (intro hc _ _; (try simp only [Bool.and_eq_true, Bool.not_eq_true', Bool.true_and] at hc); go_simp; exact ⟨rfl, rfl⟩)); (focus (intro hc _ _; with_reducible (exact VU _))); simp only [Act.put, List.setIfInBounds_toArray, List.set_cons_zero, List.set_cons_succ])
        | (apply text_if_call; (focus (first | exact wanted_t rfl rfl | exact wanted_f rfl rfl | exact wanted_gt rfl rfl | exact wanted_gf rfl rfl)); (focus (intro hc _ _; (try simp only [Bool.and_eq_true, Bool.not_eq_true', Bool.true_and] at hc); go_simp; exact ⟨rfl, rfl⟩)); (focus (intro hc _ _; with_reducible (exact VV _))); simp only [Act.put, List.setIfInBounds_toArray, List.set_cons_zero, List.set_cons_succ]))
      refine text_nil (HF.out _ (fun mx dx => ?_))
      clear HF F
      go_wp2_with (first
        | (go_at_call 99; refine (R.out _ (by (repeat' (first | (with_reducible exact Below.refl _ _) | (with_reducible refine Below.ext_mk ?_ ?_ _ _) | (with_reducible refine Below.alloc ?_ ?_ _) | (with_reducible refine Below.drew ?_) | (with_reducible refine Below.setCell ?_ ?_ _) | go_size)))).mono ?_; rintro e w' ⟨rfl, m2, d2, rfl⟩)
        | (go_at_call 100; refine (P.out _ (by (repeat' (first | (with_reducible exact Below.refl _ _) | (with_reducible refine Below.ext_mk ?_ ?_ _ _) | (with_reducible refine Below.alloc ?_ ?_ _) | (with_reducible refine Below.drew ?_) | (with_reducible refine Below.setCell ?_ ?_ _) | go_size))) _ _).mono ?_; rintro e w' ⟨rfl, m3, d3, rfl⟩)
        | (go_at_call 24; refine (X.out _ (by (repeat' (first | (with_reducible exact Below.refl _ _) | (with_reducible refine Below.ext_mk ?_ ?_ _ _) | (with_reducible refine Below.alloc ?_ ?_ _) | (with_reducible refine Below.drew ?_) | (with_reducible refine Below.setCell ?_ ?_ _) | go_size))) _).mono ?_; rintro e w' ⟨rfl, m3, d3, rfl⟩)
        | (go_at_call 25; refine (I.out _ (by (repeat' (first | (with_reducible exact Below.refl _ _) | (with_reducible refine Below.ext_mk ?_ ?_ _ _) | (with_reducible refine Below.alloc ?_ ?_ _) | (with_reducible refine Below.drew ?_) | (with_reducible refine Below.setCell ?_ ?_ _) | go_size))) _ _ _).mono ?_; rintro e w' ⟨rfl, m4, d4, rfl⟩))
      go_returns
      exact Pure.of rfl (by (repeat' (first | (with_reducible exact Below.refl _ _) | (with_reducible refine Below.ext_mk ?_ ?_ _ _) | (with_reducible refine Below.alloc ?_ ?_ _) | (with_reducible refine Below.drew ?_) | (with_reducible refine Below.setCell ?_ ?_ _) | go_size)))
end
end Go.Proofs.Ytboekafmplomhaa
set_option linter.unusedVariables false
set_option linter.unusedSimpArgs false
namespace Go.Proofs.Ytboekafmplomhaa
open Go.RowKit

theorem Rd.int1 {w : World} {a : Option Addr} {cap : Nat} {l : List Int} (h : Rd w 1 (.slice a l.length cap) (ints l)) {i : Nat} (hi : i < l.length) :
    ∃ b off x, a = some ⟨b, off, none⟩ ∧ b < w.heap.size ∧ w.cell? ⟨b, off + i, none⟩ = some (.int .i64 x) := by
  obtain ⟨a', n, cap', h1, h2, h3, h4, h5⟩ := h
  simp only [Value.slice.injEq] at h1
  obtain ⟨rfl, rfl, rfl⟩ := h1
  obtain ⟨b, off, e1, e2, e3⟩ := h5 (by omega)
  exact ⟨b, off, l[i], e1, e2, e3 i _ (by simp [ints, hi])⟩

set_option maxHeartbeats 1000000 in
theorem bind_dead {w : World} {q : Option Addr} (h : Dead w q) (k : FuncId) (hk : ∀ args w, (callFunc k args).run Try.prog w = .ok (.enter k args) w)
    (hby : ∀ W, Below w.heap.size w W → ∀ a b, Calls Try.prog k #[.pointer q, .int .i64 a, .int .i64 b] W (Pure (.int .i64 0) W))
    (x : Int) (l : List Int) (sv : Value) (hl : Rd w 1 sv (ints l)) :
    Calls Try.prog 97 #[.pointer q, .int .i64 x, sv, .func (.func k) #[.pointer q] #[]] w (Pure (.int .i64 0) w) := by
  obtain ⟨a, cap, rfl, hc, hm⟩ := hl.len
  have R := hid (fun W (hb : Below w.heap.size w W) (y : Int) => qright_dead (h.below hb) y)
  have U := hid (fun W (hb : Below w.heap.size w W) (y v : Int) (on : Bool) => under_dead (h.below hb) y v on)
  have B := hid hby
  have L := hid hl
  clear h hby hl
  go_enter Try.func97, Try.ntmps97
  go_wp2_with (go_at_call 99; refine (R.out _ (by (repeat' (first | (with_reducible exact Below.refl _ _) | (with_reducible refine Below.ext_mk ?_ ?_ _ _) | (with_reducible refine Below.alloc ?_ ?_ _) | (with_reducible refine Below.drew ?_) | (with_reducible refine Below.setCell ?_ ?_ _) | go_size))) _).mono ?_; rintro e w' ⟨rfl, m2, d2, rfl⟩)
  go_loopw [1, 18] (fun y i wr => ∃ z : Int, ∃ j : Nat, j ≤ l.length ∧ y = .int .i64 z ∧ i = .int .i64 j ∧ Below w.heap.size w wr) (fun _ i _ => l.length - (intOf i).toNat)
  case atStart => exact ⟨_, 0, by omega, rfl, rfl, by (repeat' (first | (with_reducible exact Below.refl _ _) | (with_reducible refine Below.ext_mk ?_ ?_ _ _) | (with_reducible refine Below.alloc ?_ ?_ _) | (with_reducible refine Below.drew ?_) | (with_reducible refine Below.setCell ?_ ?_ _) | go_size))⟩
  case round =>
    obtain ⟨z, j, hj, rfl, rfl, hb⟩ := hrel
    have hbs := hb.size
    by_cases hlt : j < l.length
    · have hj1 : (j : Int) < (l.length : Int) := by omega
      obtain ⟨b, off, v, rfl, hb1, hcell⟩ := Rd.int1 L.out hlt
      have c := (hb.cell (p := ⟨b, off + j, none⟩) hb1).trans hcell
      have zb : b < wr.heap.size := by omega
      have V := isVar_any v
      cases hv : isVarB v
      all_goals
        rw [hv] at V
        clear hv
        go_wp2_with (first
          | (go_at_call 98; refine (V _).mono ?_; rintro e w' ⟨rfl, m1, d1, rfl⟩)
          | (go_at_call 30; refine (U.out _ (by first | exact hb | exact Below.ext_mk hb hbs _ _ | exact Below.ext_mk (Below.ext_mk hb hbs _ _) (by simp; omega) _ _) _ _ _).mono ?_; rintro e w' ⟨rfl, m3, d3, rfl⟩)
          | ((with_reducible refine (B.out _ (by first | exact hb | exact Below.ext_mk hb hbs _ _ | exact Below.ext_mk (Below.ext_mk hb hbs _ _) (by simp; omega) _ _) _ _).mono ?_); rintro e w' ⟨rfl, m4, d4, rfl⟩))
        go_roundw
        case rel => exact ⟨_, j + 1, by omega, rfl, by go_num, by first | exact hb | exact Below.ext_mk hb hbs _ _ | exact Below.ext_mk (Below.ext_mk hb hbs _ _) (by simp; omega) _ _⟩
        case measure => simp [intOf]; omega
    · go_wp2_with (go_at_call 99; refine (R.out _ hb _).mono ?_; rintro e w' ⟨rfl, m2, d2, rfl⟩)
      go_returns
      exact Pure.of rfl (Below.ext_mk hb hbs _ _)
theorem exists_dead {w : World} {q : Option Addr} (h : Dead w q) (x : Int) (l : List Int) (sv : Value) (hl : Rd w 1 sv (ints l)) :
    Calls Try.prog 38 #[.pointer q, .int .i64 x, sv] w (Pure (.int .i64 0) w) := by
  have hmf : ∀ (fn : Fn) (first cap : Array Value) (w : World), (Instr.makeFunc fn first cap).run Try.prog w = .ok (.func fn first cap) w := fun _ _ _ _ => rfl
  have B := bind_dead h 28 (fun _ _ => by kernel_rfl) (fun W hb a b => or_dead (h.below hb) a b) x l sv hl
  clear h hl
  go_enter Try.func38, Try.ntmps38
  go_wp2_with (go_at_call 97; refine B.mono ?_; rintro e w' ⟨rfl, m1, d1, rfl⟩)
  go_returns
  exact Pure.of rfl (by (repeat' (first | (with_reducible exact Below.refl _ _) | (with_reducible refine Below.ext_mk ?_ ?_ _ _) | (with_reducible refine Below.alloc ?_ ?_ _) | (with_reducible refine Below.drew ?_) | (with_reducible refine Below.setCell ?_ ?_ _) | go_size)))
theorem forall_dead {w : World} {q : Option Addr} (h : Dead w q) (x : Int) (l : List Int) (sv : Value) (hl : Rd w 1 sv (ints l)) :
    Calls Try.prog 39 #[.pointer q, .int .i64 x, sv] w (Pure (.int .i64 0) w) := by
  have hmf : ∀ (fn : Fn) (first cap : Array Value) (w : World), (Instr.makeFunc fn first cap).run Try.prog w = .ok (.func fn first cap) w := fun _ _ _ _ => rfl
  have B := bind_dead h 27 (fun _ _ => by kernel_rfl) (fun W hb a b => and_dead (h.below hb) a b) x l sv hl
  clear h hl
  go_enter Try.func39, Try.ntmps39
  go_wp2_with (go_at_call 97; refine B.mono ?_; rintro e w' ⟨rfl, m1, d1, rfl⟩)
  go_returns
  exact Pure.of rfl (by (repeat' (first | (with_reducible exact Below.refl _ _) | (with_reducible refine Below.ext_mk ?_ ?_ _ _) | (with_reducible refine Below.alloc ?_ ?_ _) | (with_reducible refine Below.drew ?_) | (with_reducible refine Below.setCell ?_ ?_ _) | go_size)))
theorem support_dead {w : World} {q : Option Addr} (h : Dead w q) (x : Int) :
    Calls Try.prog 43 #[.pointer q, .int .i64 x] w (Pure (.slice none 0 0) w) := by
  have HU := hid (fun W hb => h.full W hb)
  clear h
  go_enter Try.func43, Try.ntmps43
  go_wp2_with (go_at_call 22; refine (HU.out _ (by (repeat' (first | (with_reducible exact Below.refl _ _) | (with_reducible refine Below.ext_mk ?_ ?_ _ _) | (with_reducible refine Below.alloc ?_ ?_ _) | (with_reducible refine Below.drew ?_) | (with_reducible refine Below.setCell ?_ ?_ _) | go_size)))).mono ?_; rintro e w' ⟨rfl, m1, d1, rfl⟩)
  go_returns
  exact Pure.of rfl (by (repeat' (first | (with_reducible exact Below.refl _ _) | (with_reducible refine Below.ext_mk ?_ ?_ _ _) | (with_reducible refine Below.alloc ?_ ?_ _) | (with_reducible refine Below.drew ?_) | (with_reducible refine Below.setCell ?_ ?_ _) | go_size)))
end Go.Proofs.Ytboekafmplomhaa
set_option linter.unusedVariables false
set_option linter.unusedSimpArgs false
namespace Go.Proofs.Ytboekafmplomhaa
open Go.RowKit

def qrightN (S : Sto) (x : Int) : Int := qrightV S.full (atV S x).2 x
theorem qright_live {w : World} {p : Nat} {F : List Nat} {S : Sto} (h : StoIs w p F S) (hW : Wf S) (x : Int) :
    Calls Try.prog 99 #[.pointer (some ⟨p, 0, none⟩), .int .i64 x] w (Pure (.int .i64 (qrightN S x)) w) :=
  qright_gen _ x _ _ _ _ _ w (fun W hb => at_call (h.below hb) hW x) (fun W hb => full_any (h.below hb) (by have := hW.cap2; omega))

/-- What bind makes, variable by variable. -/
def bindL (op : Sto → Int → Int → Sto × Int) : Sto → Int → List Int → Sto × Int
  | S, a, [] => (S, qrightN S a)
  | S, a, v :: l =>
    if isVarB v then
      bindL op (op (underV (underV S a v false).1 a v true).1 (underV S a v false).2 (underV (underV S a v false).1 a v true).2).1
        (op (underV (underV S a v false).1 a v true).1 (underV S a v false).2 (underV (underV S a v false).1 a v true).2).2 l
    else bindL op S a l
def bindV (op : Sto → Int → Int → Sto × Int) (S : Sto) (a : Int) (l : List Int) : Sto × Int := bindL op S (qrightN S a) l

theorem underV_good {S : Sto} (hW : Wf S) (hs : Sated S) (a v : Int) (on : Bool) : Wf (underV S a v on).1 ∧ Sated (underV S a v on).1 :=
  have O := underV_ok hW hs (below64 hW) (by omega) a v on
  ⟨O.wf, O.sated⟩
theorem iteV_good {S : Sto} (hW : Wf S) (hs : Sated S) (a b c : Int) : Wf (iteV S a b c).1 ∧ Sated (iteV S a b c).1 :=
  have O := iteV_ok hW hs (below64 hW) (by omega) a b c
  ⟨O.wf, O.sated⟩

theorem Rd.intAt {w : World} {a : Option Addr} {cap : Nat} {l : List Int} (h : Rd w 1 (.slice a l.length cap) (ints l)) {i : Nat} (hi : i < l.length) :
    ∃ b off, a = some ⟨b, off, none⟩ ∧ b < w.heap.size ∧ w.cell? ⟨b, off + i, none⟩ = some (.int .i64 l[i]) := by
  obtain ⟨a', n, cap', h1, h2, h3, h4, h5⟩ := h
  simp only [Value.slice.injEq] at h1
  obtain ⟨rfl, rfl, rfl⟩ := h1
  obtain ⟨b, off, e1, e2, e3⟩ := h5 (by omega)
  exact ⟨b, off, e1, e2, e3 i _ (by simp [ints, hi])⟩
set_option maxHeartbeats 1000000 in
theorem bind_live {w : World} {p : Nat} {F : List Nat} {S : Sto} (h : StoIs w p F S) (hW : Wf S) (hs : Sated S) (k : FuncId) (hk : ∀ args w, (callFunc k args).run Try.prog w = .ok (.enter k args) w)
    (op : Sto → Int → Int → Sto × Int) (hop : ∀ S a b, Wf S → Sated S → Wf (op S a b).1 ∧ Sated (op S a b).1)
    (hby : ∀ W F S, StoIs W p F S → Wf S → ∀ a b, Tells k #[.pointer (some ⟨p, 0, none⟩), .int .i64 a, .int .i64 b] W p F (op S a b))
    (x : Int) (l : List Int) (sv : Value) (hl : Rd w 1 sv (ints l)) (hF : ∀ a n cap b off, 0 < n → sv = .slice a n cap → a = some ⟨b, off, none⟩ → b ∉ F) :
    Tells 97 #[.pointer (some ⟨p, 0, none⟩), .int .i64 x, sv, .func (.func k) #[.pointer (some ⟨p, 0, none⟩)] #[]] w p F (bindV op S x l) := by
  obtain ⟨a, cap, rfl, hc, hm⟩ := hl.len
  have R := hid (fun W F S (h : StoIs W p F S) (hW : Wf S) (y : Int) => qright_live h hW y)
  have U := hid (fun W F S (h : StoIs W p F S) (hW : Wf S) (hs : Sated S) (y v : Int) (on : Bool) => under_call h hW hs y v on)
  have B := hid hby
  have L := hid hl
  have LF := hid hF
  have H := hid h
  have HP := hid hop
  unfold Tells at U B ⊢
  clear h hby hl hF hop
  go_enter Try.func97, Try.ntmps97
  go_wp2_with (go_at_call 99; refine (R.out _ _ _ H.out hW _).mono ?_; rintro e w' ⟨rfl, m2, d2, rfl⟩)
  go_loopw [1, 18] (fun y i wr => ∃ (z : Int) (j : Nat) (S1 : Sto) (F1 : List Nat), j ≤ l.length ∧ y = .int .i64 z ∧ i = .int .i64 j ∧ StoIs wr p F1 S1 ∧ Wf S1 ∧ Sated S1 ∧ StoStep w wr F F1 ∧ bindL op S1 z (l.drop j) = bindV op S x l) (fun _ i _ => l.length - (intOf i).toNat)
  case atStart => exact ⟨_, 0, S, F, by omega, rfl, rfl, H.out.ext _ _, hW, hs, StoStep.of_below (by (repeat' (first | (with_reducible exact Below.refl _ _) | (with_reducible refine Below.ext_mk ?_ ?_ _ _) | (with_reducible refine Below.alloc ?_ ?_ _) | (with_reducible refine Below.drew ?_) | (with_reducible refine Below.setCell ?_ ?_ _) | go_size))), rfl⟩
  case round =>
    obtain ⟨z, j, S1, F1, hj, rfl, rfl, hS1, hW1, hs1, st1, hbind⟩ := hrel
    have HB := hid hbind
    clear hbind
    by_cases hlt : j < l.length
    · have hj1 : (j : Int) < (l.length : Int) := by omega
      have L1 := Rd.step L.out st1 (fun a n c b off e1 e2 => LF.out a n c b off (by cases e1; omega) e1 e2)
      obtain ⟨b, off, rfl, hb1, c⟩ := Rd.intAt L1 hlt
      obtain ⟨v, hv⟩ : ∃ v, v = l[j] := ⟨_, rfl⟩
      rw [← hv] at c
      clear L1
      have V := isVar_any v
      have ev : (l.drop j) = v :: l.drop (j + 1) := by rw [hv]; exact List.drop_eq_getElem_cons hlt
      clear hv
      have HE := hid ev
      clear ev
      cases hv : isVarB v
      · rw [hv] at V
        have HV := hid hv
        clear hv
        go_wp2_with (first
          | (go_at_call 98; refine (V _).mono ?_; rintro e w' ⟨rfl, m1, d1, rfl⟩))
        go_roundw
        case rel =>
          refine ⟨z, j + 1, S1, F1, by omega, rfl, by go_num, hS1.ext _ _, hW1, hs1, st1.trans (StoStep.of_below (Below.ext_mk (Below.refl _ _) (Nat.le_refl _) _ _)), ?_⟩
          rw [← HB.out, HE.out, bindL, HV.out]
          rfl
        case measure => simp [intOf]; omega
      · rw [hv] at V
        have HV := hid hv
        clear hv
        have U1 := fun m d => U.out _ _ _ (hS1.ext m d) hW1 hs1 z v false
        obtain ⟨R1, hR1⟩ : ∃ R, R = underV S1 z v false := ⟨_, rfl⟩
        have G1 := underV_good hW1 hs1 z v false
        rw [← hR1] at U1 G1
        have U2 := fun W F (h : StoIs W p F R1.1) => U.out _ _ _ h G1.1 G1.2 z v true
        obtain ⟨R2, hR2⟩ : ∃ R, R = underV R1.1 z v true := ⟨_, rfl⟩
        have G2 := underV_good G1.1 G1.2 z v true
        rw [← hR2] at U2 G2
        have B1 := fun W F (h : StoIs W p F R2.1) => B.out _ _ _ h G2.1 R1.2 R2.2
        obtain ⟨R3, hR3⟩ : ∃ R, R = op R2.1 R1.2 R2.2 := ⟨_, rfl⟩
        have G3 := HP.out R2.1 R1.2 R2.2 G2.1 G2.2
        rw [← hR3] at B1 G3
        have E := hid (And.intro hR1 (And.intro hR2 hR3))
        clear hR1 hR2 hR3
        go_wp2_with (first
          | (go_at_call 98; refine (V _).mono ?_; rintro e w' ⟨rfl, m1, d1, rfl⟩)
          | (go_at_call 30; ((with_reducible refine (U1 _ _).mono ?_); rintro e w2 ⟨rfl, F2, hS2, st2⟩))
          | (go_at_call 30; ((with_reducible refine (U2 _ _ hS2).mono ?_); rintro e w3 ⟨rfl, F3, hS3, st3⟩))
          | ((with_reducible refine (B1 _ _ hS3).mono ?_); rintro e w4 ⟨rfl, F4, hS4, st4⟩))
        go_roundw
        case rel =>
          refine ⟨R3.2, j + 1, R3.1, F4, by omega, rfl, by go_num, hS4, G3.1, G3.2, st1.trans ((StoStep.of_below (Below.ext_mk (Below.refl _ _) (Nat.le_refl _) _ _)).trans ((st2.trans st3).trans st4)), ?_⟩
          rw [← HB.out, HE.out, bindL, HV.out, if_pos rfl, ← E.out.1, ← E.out.2.1, ← E.out.2.2]
        case measure => simp [intOf]; omega
    · have ej : l.drop j = [] := List.drop_eq_nil_of_le (by omega)
      rw [ej] at HB
      go_wp2_with (go_at_call 99; refine (R.out _ _ _ hS1 hW1 _).mono ?_; rintro e w' ⟨rfl, m2, d2, rfl⟩)
      go_returns
      rw [← HB.out]
      exact ⟨rfl, F1, hS1.ext _ _, st1.trans (StoStep.of_below (Below.ext_mk (Below.refl _ _) (Nat.le_refl _) _ _))⟩
theorem exists_liveN {w : World} {p : Nat} {F : List Nat} {S : Sto} (h : StoIs w p F S) (hW : Wf S) (hs : Sated S) (x : Int) (l : List Int) (sv : Value) (hl : Rd w 1 sv (ints l))
    (hF : ∀ a n cap b off, 0 < n → sv = .slice a n cap → a = some ⟨b, off, none⟩ → b ∉ F) :
    Tells 38 #[.pointer (some ⟨p, 0, none⟩), .int .i64 x, sv] w p F (bindV orV S x l) := by
  have hmf : ∀ (fn : Fn) (first cap : Array Value) (w : World), (Instr.makeFunc fn first cap).run Try.prog w = .ok (.func fn first cap) w := fun _ _ _ _ => rfl
  have B := bind_live h hW hs 28 (fun _ _ => by kernel_rfl) orV (fun S a b hW hs => iteV_good hW hs _ _ _) (fun W F S h hW a b => or_call h hW a b) x l sv hl hF
  unfold Tells at B ⊢
  clear h hl
  go_enter Try.func38, Try.ntmps38
  go_wp2_with (go_at_call 97; refine B.mono ?_; rintro e w' ⟨rfl, hT⟩)
  go_returns
  exact ⟨rfl, hT⟩
theorem exists_live {w : World} {p : Nat} {F : List Nat} {S : Sto} (h : StoIs w p F S) (hW : Wf S) (hs : Sated S) (x : Int) (l : List Int) (sv : Value) (hl : Rd w 1 sv (ints l))
    (hF : ∀ a n cap b off, sv = .slice a n cap → a = some ⟨b, off, none⟩ → b ∉ F) :
    Tells 38 #[.pointer (some ⟨p, 0, none⟩), .int .i64 x, sv] w p F (bindV orV S x l) := exists_liveN h hW hs x l sv hl (fun a n c b off _ => hF a n c b off)
theorem forall_liveN {w : World} {p : Nat} {F : List Nat} {S : Sto} (h : StoIs w p F S) (hW : Wf S) (hs : Sated S) (x : Int) (l : List Int) (sv : Value) (hl : Rd w 1 sv (ints l))
    (hF : ∀ a n cap b off, 0 < n → sv = .slice a n cap → a = some ⟨b, off, none⟩ → b ∉ F) :
    Tells 39 #[.pointer (some ⟨p, 0, none⟩), .int .i64 x, sv] w p F (bindV andV S x l) := by
  have hmf : ∀ (fn : Fn) (first cap : Array Value) (w : World), (Instr.makeFunc fn first cap).run Try.prog w = .ok (.func fn first cap) w := fun _ _ _ _ => rfl
  have B := bind_live h hW hs 27 (fun _ _ => by kernel_rfl) andV (fun S a b hW hs => iteV_good hW hs _ _ _) (fun W F S h hW a b => and_call h hW a b) x l sv hl hF
  unfold Tells at B ⊢
  clear h hl
  go_enter Try.func39, Try.ntmps39
  go_wp2_with (go_at_call 97; refine B.mono ?_; rintro e w' ⟨rfl, hT⟩)
  go_returns
  exact ⟨rfl, hT⟩
theorem forall_live {w : World} {p : Nat} {F : List Nat} {S : Sto} (h : StoIs w p F S) (hW : Wf S) (hs : Sated S) (x : Int) (l : List Int) (sv : Value) (hl : Rd w 1 sv (ints l))
    (hF : ∀ a n cap b off, sv = .slice a n cap → a = some ⟨b, off, none⟩ → b ∉ F) :
    Tells 39 #[.pointer (some ⟨p, 0, none⟩), .int .i64 x, sv] w p F (bindV andV S x l) := forall_liveN h hW hs x l sv hl (fun a n c b off _ => hF a n c b off)

/-- Whether one diagram implies another one, and the store behind it. -/
def impliesV (S : Sto) (a b : Int) : Sto × Bool :=
  ((andV (notV S b).1 a (notV S b).2).1, decide ((andV (notV S b).1 a (notV S b).2).2 = 0) && !(andV (notV S b).1 a (notV S b).2).1.full)
set_option maxHeartbeats 4000000 in
theorem implies_live {w : World} {p : Nat} {F : List Nat} {S : Sto} (h : StoIs w p F S) (hW : Wf S) (hs : Sated S) (x y : Int) :
    Calls Try.prog 42 #[.pointer (some ⟨p, 0, none⟩), .int .i64 x, .int .i64 y] w (fun e w' => e = .returned (.bool (impliesV S x y).2) ∧ Turned w p F (impliesV S x y).1 w') := by
  have N := not_call h hW y
  have G1 : Wf (notV S y).1 := (iteV_good hW hs _ _ _).1
  have A := fun W F (h : StoIs W p F (notV S y).1) => and_call h G1 x (notV S y).2
  have G2 : Wf (andV (notV S y).1 x (notV S y).2).1 := iteV_wf G1 _ _ _
  have FU := fun W F (h : StoIs W p F (andV (notV S y).1 x (notV S y).2).1) => full_any h (by have := G2.cap2; omega)
  unfold Tells at N A
  unfold impliesV
  generalize notV S y = R1 at *
  generalize andV R1.1 x R1.2 = R2 at *
  obtain ⟨S2, r2⟩ := R2
  simp only at A FU ⊢
  clear h
  generalize hg : (decide (r2 = 0) && !S2.full) = g
  by_cases h0 : r2 = 0
  · subst h0
    have Hg := hid hg
    clear hg
    go_enter Try.func42, Try.ntmps42
    go_upto_region 2 with (first | (go_at_call 26; refine N.mono ?_; rintro e w1 ⟨rfl, F1, hS1, st1⟩))
    refine wp_region_doc (fun F' hF => ?_)
    have HF := hid hF
    clear hF
    repeat (refine doc_val rfl (by first | (go_simp; done) | (go_simp; exact ⟨rfl, rfl⟩) | (go_simp; with_reducible rfl)) ?_; simp only [Act.put, List.setIfInBounds_toArray, List.set_cons_zero, List.set_cons_succ])
    refine doc_call rfl (by first | (go_simp; done) | (go_simp; exact ⟨rfl, rfl⟩) | (go_simp; with_reducible rfl)) ((A _ _ hS1).mono ?_)
    rintro e w2 ⟨rfl, F2, hS2, st2⟩
    refine ⟨_, rfl, ?_⟩
    simp only [Act.put, List.setIfInBounds_toArray, List.set_cons_zero, List.set_cons_succ]
    repeat (first
      | (refine doc_val rfl (by first | (go_simp; done) | (go_simp; exact ⟨rfl, rfl⟩) | (go_simp; with_reducible rfl)) ?_; simp only [Act.put, List.setIfInBounds_toArray, List.set_cons_zero, List.set_cons_succ])
      | (refine doc_not rfl ?_; simp only [Act.put, List.setIfInBounds_toArray, List.set_cons_zero, List.set_cons_succ])
      | (refine doc_call rfl (by first | (go_simp; done) | (go_simp; exact ⟨rfl, rfl⟩) | (go_simp; with_reducible rfl)) ((FU _ _ hS2).mono ?_); rintro e w3 ⟨rfl, m3, d3, rfl⟩; refine ⟨_, rfl, ?_⟩; simp only [Act.put, List.setIfInBounds_toArray, List.set_cons_zero, List.set_cons_succ]))
    refine doc_end (HF.out _ _ ?_)
    clear HF F'
    go_wp2_with fail
    go_returns
    first
      | exact ⟨by rw [← Hg.out]; simp, F2, hS2.ext _ _, (st1.trans st2).trans (StoStep.of_below (Below.ext_mk (Below.refl _ _) (Nat.le_refl _) _ _))⟩
      | exact ⟨by rw [← Hg.out]; simp [Hh0.out], F2, hS2, st1.trans st2⟩
  · have hr0 : (r2 == 0) = false := by simpa using h0
    have Hh0 := hid h0
    clear h0
    have Hg := hid hg
    clear hg
    go_enter Try.func42, Try.ntmps42
    go_upto_region 2 with (first | (go_at_call 26; refine N.mono ?_; rintro e w1 ⟨rfl, F1, hS1, st1⟩))
    refine wp_region_doc (fun F' hF => ?_)
    have HF := hid hF
    clear hF
    repeat (refine doc_val rfl (by first | (go_simp; done) | (go_simp; exact ⟨rfl, rfl⟩) | (go_simp; with_reducible rfl)) ?_; simp only [Act.put, List.setIfInBounds_toArray, List.set_cons_zero, List.set_cons_succ])
    refine doc_call rfl (by first | (go_simp; done) | (go_simp; exact ⟨rfl, rfl⟩) | (go_simp; with_reducible rfl)) ((A _ _ hS1).mono ?_)
    rintro e w2 ⟨rfl, F2, hS2, st2⟩
    refine ⟨_, rfl, ?_⟩
    simp only [Act.put, List.setIfInBounds_toArray, List.set_cons_zero, List.set_cons_succ]
    repeat (first
      | (refine doc_val rfl (by first | (go_simp; done) | (go_simp; exact ⟨rfl, rfl⟩) | (go_simp; with_reducible rfl)) ?_; simp only [Act.put, List.setIfInBounds_toArray, List.set_cons_zero, List.set_cons_succ])
      | (refine doc_not rfl ?_; simp only [Act.put, List.setIfInBounds_toArray, List.set_cons_zero, List.set_cons_succ])
      | (refine doc_call rfl (by first | (go_simp; done) | (go_simp; exact ⟨rfl, rfl⟩) | (go_simp; with_reducible rfl)) ((FU _ _ hS2).mono ?_); rintro e w3 ⟨rfl, m3, d3, rfl⟩; refine ⟨_, rfl, ?_⟩; simp only [Act.put, List.setIfInBounds_toArray, List.set_cons_zero, List.set_cons_succ]))
    refine doc_end (HF.out _ _ ?_)
    clear HF F'
    go_wp2_with fail
    go_returns
    first
      | exact ⟨by rw [← Hg.out]; simp, F2, hS2.ext _ _, (st1.trans st2).trans (StoStep.of_below (Below.ext_mk (Below.refl _ _) (Nat.le_refl _) _ _))⟩
      | exact ⟨by rw [← Hg.out]; simp [Hh0.out], F2, hS2, st1.trans st2⟩
end Go.Proofs.Ytboekafmplomhaa
