/-
  A diagram with a variable's bit told, in plain Lean.
-/
import Derived.Test.YtboekafmplomhaaZPlay
import Derived.Test.YtboekafmplomhaaZCallsB
import Derived.Test.YtboekafmplomhaaZV
import Derived.Test.YtboekafmplomhaaZDead
import Derived.Test.YtboekafmplomhaaZDoes
import Derived.Test.YtboekafmplomhaaZDoC
set_option linter.unusedVariables false
set_option linter.unusedSimpArgs false
namespace Go.Proofs.Ytboekafmplomhaa

def nodeOf (S : Sto) (a : Int) : Nd := (S.nodes[(a - 2).toNat]?).getD (0, 0, 0)
/-- Under, with what is known; none: the store is full. -/
def underN (v : Int) (on : Bool) : Nat → Sto → List (Int × Int) → Int → Sto × List (Int × Int) × Option Int
  | 0, S, K, _ => (S, K, none)
  | n + 1, S, K, a =>
    if a < 2 ∨ v < topOf S a then (S, K, some a) else
    match aget K a with
    | some r => (S, K, some r)
    | none =>
      if topOf S a = v then (S, K, some (if on then (nodeOf S a).2.2 else (nodeOf S a).2.1)) else
      match underN v on n S K (nodeOf S a).2.1 with
      | (S1, K1, none) => (S1, K1, none)
      | (S1, K1, some l) =>
        match underN v on n S1 K1 (nodeOf S a).2.2 with
        | (S2, K2, none) => (S2, K2, none)
        | (S2, K2, some h) =>
          match mkN S2 (topOf S a) l h with
          | (S3, none) => (S3, K2, none)
          | (S3, some r) => (S3, aput K2 a r, some r)

def setb (β : Int → Bool) (v : Int) (on : Bool) : Int → Bool := fun u => if u = v then on else β u
/-- What is known is right. -/
def KOk (S : Sto) (K : List (Int × Int)) (v : Int) (on : Bool) : Prop :=
  ∀ a r, aget K a = some r → S.has a ∧ S.has r ∧ topOf S a ≤ topOf S r ∧ ∀ β, ev S β r = ev S (setb β v on) a
theorem KOk.grows {S S' : Sto} {K : List (Int × Int)} {v : Int} {on : Bool} (h : Wf S) (g : Grows S S') (k : KOk S K v on) : KOk S' K v on := fun a r hr => by
  obtain ⟨h1, h2, h3, h4⟩ := k a r hr
  exact ⟨g.has h1, g.has h2, by rw [g.top h1, g.top h2]; exact h3, fun β => by rw [ev_grows h g β h2, ev_grows h g _ h1]; exact h4 β⟩

structure UnOk (S : Sto) (v : Int) (on : Bool) (V : Int) (a : Int) (R : Sto × List (Int × Int) × Option Int) : Prop where
  wf : Wf R.1
  grows : Grows S R.1
  sated : Sated R.1
  below : Below' R.1 V
  count : R.1.nodes.length + 1 ≤ S.nodes.length + 2 ^ (V - topOf S a).toNat
  known : KOk R.1 R.2.1 v on
  full : R.2.2.isSome = true → R.1.full = S.full
  full' : R.2.2 = none → R.1.full = true
  has : ∀ r, R.2.2 = some r → R.1.has r ∧ topOf S a ≤ topOf R.1 r ∧ ∀ β, ev R.1 β r = ev S (setb β v on) a

theorem nodeOf_is {S : Sto} {i : Nat} {n : Nd} (h : S.nodes[i]? = some n) : nodeOf S ((i : Int) + 2) = n := by
  unfold nodeOf; rw [show ((i : Int) + 2 - 2).toNat = i by omega, h]; rfl
theorem underN_ok (v : Int) (on : Bool) (V : Int) : ∀ (n : Nat) (S : Sto) (K : List (Int × Int)) (a : Int), Wf S → Sated S → Below' S V → KOk S K v on → S.has a → 64 - topOf S a < n → UnOk S v on V a (underN v on n S K a) := by
  intro n
  induction n with
  | zero => intro S K a h _ _ _ ha hn; have := topOf_le h ha; omega
  | succ n ih =>
    intro S K a h hs hb hK ha hn
    have hp : ∀ k : Nat, 1 ≤ 2 ^ k := fun k => Nat.one_le_two_pow
    have hp1 := hp (V - topOf S a).toNat
    unfold underN
    by_cases e1 : a < 2 ∨ v < topOf S a
    · rw [if_pos e1]
      refine ⟨h, Grows.refl S, hs, hb, by simp only; omega, hK, fun _ => rfl, fun h => by simp at h, fun r hr => ?_⟩
      cases hr
      refine ⟨ha, Int.le_refl _, fun β => ?_⟩
      rcases e1 with e1 | e1
      · rw [ev_low _ e1, ev_low _ e1]
      · exact ev_same h _ a (Nat.le_refl _) ha _ _ (fun u hu _ => by unfold setb; rw [if_neg (by omega)])
    · rw [if_neg e1]
      cases hk : aget K a with
      | some r =>
        obtain ⟨k1, k2, k3, k4⟩ := hK a r hk
        refine ⟨h, Grows.refl S, hs, hb, by simp only; omega, hK, fun _ => rfl, fun h => by simp at h, fun r hr => ?_⟩
        cases hr
        exact ⟨k2, k3, k4⟩
      | none =>
        obtain ⟨i, m, rfl, hm⟩ := has_node ha (by omega)
        have hc := h.child hm
        have hok := h.node i m hm
        have hmV := hb i m hm
        rw [nodeOf_is hm]
        have ht := topOf_node hm
        by_cases e2 : topOf S ((i : Int) + 2) = v
        · simp only [e2, if_true]
          refine ⟨h, Grows.refl S, hs, hb, by simp only; omega, hK, fun _ => rfl, fun h => by simp at h, fun r hr => ?_⟩
          have tv : m.1 = v := by rw [← ht, e2]
          have tlo := hok.tlo; have thi := hok.thi
          cases on with
          | true =>
            simp only [if_true, Option.some.injEq] at hr
            subst hr
            refine ⟨hc.2, by show topOf S _ ≤ topOf S _; omega, fun β => ?_⟩
            rw [ev_node h _ hm, tv, show setb β v true v = true by simp [setb], if_pos rfl]
            exact ev_same h _ _ (Nat.le_refl _) hc.2 _ _ (fun u hu _ => by unfold setb; rw [if_neg (by omega)])
          | false =>
            simp only [Bool.false_eq_true, if_false, Option.some.injEq] at hr
            subst hr
            refine ⟨hc.1, by show topOf S _ ≤ topOf S _; omega, fun β => ?_⟩
            rw [ev_node h _ hm, tv, show setb β v false v = false by simp [setb], if_neg (by simp)]
            exact ev_same h _ _ (Nat.le_refl _) hc.1 _ _ (fun u hu _ => by unfold setb; rw [if_neg (by omega)])
        · simp only [e2, if_false]
          rw [ht] at e1 e2 hn hp1 ⊢
          have tlo := hok.tlo; have thi := hok.thi
          have v0 := hok.v0; have v64 := hok.v64
          have two : ∀ k1 k2 : Nat, k1 + 1 ≤ (V - m.1).toNat → k2 + 1 ≤ (V - m.1).toNat → 2 ^ k1 + 2 ^ k2 ≤ 2 ^ (V - m.1).toNat := fun k1 k2 h1 h2 => by
            have x1 : 2 ^ k1 ≤ 2 ^ ((V - m.1).toNat - 1) := Nat.pow_le_pow_right (by omega) (by omega)
            have x2 : 2 ^ k2 ≤ 2 ^ ((V - m.1).toNat - 1) := Nat.pow_le_pow_right (by omega) (by omega)
            have x3 := pow_two_step (show ((V - m.1).toNat - 1) + 1 ≤ (V - m.1).toNat by omega)
            omega
          have one := two (V - topOf S m.2.1).toNat
          have I1 := ih S K m.2.1 h hs hb hK hc.1 (by omega)
          generalize underN v on n S K m.2.1 = R1 at I1
          obtain ⟨S1, K1, o1⟩ := R1
          have c1 := I1.count
          simp only at c1
          cases o1 with
          | none =>
            have := one 0 (by omega) (by omega)
            exact ⟨I1.wf, I1.grows, I1.sated, I1.below, by rw [ht]; simp only; omega, I1.known, fun h => by simp at h, fun _ => I1.full' rfl, fun r hr => by simp at hr⟩
          | some l =>
            have g1 := I1.grows
            obtain ⟨l1, l2, l3⟩ := I1.has l rfl
            simp only at g1 l1 l2 l3
            have I2 := ih S1 K1 m.2.2 I1.wf I1.sated I1.below I1.known (g1.has hc.2) (by rw [g1.top hc.2]; omega)
            have two' := one (V - topOf S m.2.2).toNat (by omega) (by omega)
            simp only
            generalize underN v on n S1 K1 m.2.2 = R2 at I2
            obtain ⟨S2, K2, o2⟩ := R2
            have c2 := I2.count
            rw [g1.top hc.2] at c2
            simp only at c2
            have G := g1.trans I2.grows
            simp only at G
            cases o2 with
            | none =>
              exact ⟨I2.wf, G, I2.sated, I2.below, by rw [ht]; simp only; omega, I2.known, fun h => by simp at h, fun _ => I2.full' rfl, fun r hr => by simp at hr⟩
            | some hh =>
              have g2 := I2.grows
              obtain ⟨h1, h2, h3⟩ := I2.has hh rfl
              rw [g1.top hc.2] at h2
              simp only at g2 h1 h2 h3
              have M := mkN_ok I2.wf v0 v64 (g2.has l1) h1 (by rw [g2.top l1]; omega) (by simp only; omega)
              have B := mkN_below (lo := l) (hi := hh) I2.below hmV
              have T := mkN_sated (v := m.1) (lo := l) (hi := hh) I2.sated
              simp only at M B T ⊢
              generalize mkN S2 m.1 l hh = R3 at M B T
              obtain ⟨S3, o3⟩ := R3
              obtain ⟨b1, b2⟩ := B
              have g3 := M.grows
              simp only at b1 b2 T g3
              cases o3 with
              | none =>
                exact ⟨M.wf, G.trans g3, T, b1, by rw [ht]; simp only; omega, I2.known.grows I2.wf g3, fun h => by simp at h, fun _ => (M.full' rfl).1, fun r hr => by simp at hr⟩
              | some r =>
                obtain ⟨q1, q2, q3⟩ := M.has r rfl
                simp only at q1 q2 q3
                have GG := G.trans g3
                have hev : ∀ β, ev S3 β r = ev S (setb β v on) ((i : Int) + 2) := fun β => by
                  rw [q3 β, ev_node h _ hm, h3 β, ev_grows h g1 _ hc.2, ev_grows I1.wf g2 _ l1, l3 β]
                  unfold setb
                  rw [if_neg (show ¬ m.1 = v by omega)]
                refine ⟨M.wf, GG, T, b1, by rw [ht]; simp only; omega, ?_, fun _ => ?_, fun h => by simp at h, fun r' hr' => ?_⟩
                · intro a' r' hr'
                  simp only [aget_aput] at hr'
                  by_cases ek : (i : Int) + 2 = a'
                  · rw [if_pos ek] at hr'
                    cases hr'
                    rw [← ek]
                    refine ⟨GG.has ha, q1, by rw [GG.top ha, ht]; exact q2, fun β => ?_⟩
                    rw [ev_grows h GG _ ha]; exact hev β
                  · rw [if_neg ek] at hr'
                    exact I2.known.grows I2.wf g3 a' r' hr'
                · have x1 := M.full rfl; have x2 := I2.full rfl; have x3 := I1.full rfl
                  simp only at x1 x2 x3 ⊢
                  rw [x1, x2, x3]
                · cases hr'
                  exact ⟨q1, by rw [ht]; exact q2, hev⟩

def underR (S : Sto) (a v : Int) (on : Bool) : Sto × Option Int := ((underN v on 65 S [] (rightOf S a)).1, (underN v on 65 S [] (rightOf S a)).2.2)
def underV (S : Sto) (a v : Int) (on : Bool) : Sto × Int := madeR S (underR S a v on)
theorem KOk.nil (S : Sto) (v : Int) (on : Bool) : KOk S [] v on := fun a r hr => by simp [aget] at hr
theorem underR_ok {S : Sto} {V : Int} (hW : Wf S) (hs : Sated S) (hb : Below' S V) (a v : Int) (on : Bool) : UnOk S v on V (rightOf S a) (underN v on 65 S [] (rightOf S a)) :=
  underN_ok v on V 65 S [] _ hW hs hb (KOk.nil S v on) (has_right a) (by have := topOf_ge hW (has_right (S := S) a); omega)
theorem underV_ok {S : Sto} {V : Int} (hW : Wf S) (hs : Sated S) (hb : Below' S V) (hV : 0 ≤ V) (a v : Int) (on : Bool) : VOk S V (2 ^ V.toNat) (underV S a v on) := by
  unfold underV madeR
  cases hf : S.full with
  | true => exact ⟨hW, Grows.refl S, hs, hb, by simp, has_zero S, fun _ => ⟨rfl, rfl⟩⟩
  | false =>
    have O := underR_ok hW hs hb a v on
    have hp : 2 ^ (V - topOf S (rightOf S a)).toNat ≤ 2 ^ V.toNat := Nat.pow_le_pow_right (by omega) (by have := topOf_ge hW (has_right (S := S) a); omega)
    have hc := O.count
    refine ⟨O.wf, O.grows, O.sated, O.below, ?_, ?_, fun h => by rw [hf] at h; cases h⟩
    · simp only [Bool.false_eq_true, if_false, underR]; omega
    · simp only [Bool.false_eq_true, if_false, underR]
      cases ho : (underN v on 65 S [] (rightOf S a)).2.2 with
      | none => exact has_zero _
      | some r => exact (O.has r ho).1
end Go.Proofs.Ytboekafmplomhaa
set_option linter.unusedVariables false
set_option linter.unusedSimpArgs false
namespace Go.Proofs.Ytboekafmplomhaa
open Go.RowKit

abbrev ki (n : Int) : Value := .int .i64 n
theorem key_int : KeyOk Try.prog 3 (.int .i64) ki where
  und := by kernel_rfl
  check em n w := check_int em 9999 n w
  now a b := .inr (by unfold Instr.sameNow; simp; rfl)
  eq a b w := by
    unfold Op.equal
    rw [show Op.maxDepth = 9999 + 1 from rfl]
    simp [go_sem]
    rfl
  same a := by unfold Instr.sameBits; simp [Instr.sameBits]

theorem below64 {S : Sto} (h : Wf S) : Below' S 64 := fun i n hn => (h.node i n hn).v64
def UnPost (w : World) (p km : Nat) (F : List Nat) (R : Sto × List (Int × Int) × Option Int) (e : Ending) (w' : World) : Prop :=
  e = endOf R.2.2 ∧ ∃ F', StoIs w' p F' R.1 ∧ MapIs ki w' km R.2.1 ∧ km ∉ F' ∧ StoStep w w' (km :: F) (km :: F')

theorem MapIs.lt {α : Type} {Kv : α → Value} {w : World} {b : Nat} {l : List (α × Int)} (h : MapIs Kv w b l) : b < w.heap.size := by
  obtain ⟨_, _, q, _⟩ := h; exact (Array.getElem?_eq_some_iff.1 q).1
theorem MapIs.ext {α : Type} {Kv : α → Value} {w : World} {b : Nat} {l : List (α × Int)} (h : MapIs Kv w b l) (m : Array Obj) (d : Nat) : MapIs Kv (w.ext m d) b l := MapIs.keep h (World.heap_ext _ _ _ (MapIs.lt h))
section
variable {n : Nat} {S S1 S2 S3 : Sto} {K K1 K2 : List (Int × Int)} {a v l hh r : Int} {on : Bool}
end

end Go.Proofs.Ytboekafmplomhaa
set_option linter.unusedVariables false
set_option linter.unusedSimpArgs false
namespace Go.Proofs.Ytboekafmplomhaa
open Go.RowKit

theorem UnPost.after {w V w' : World} {p km : Nat} {F F0 : List Nat} {R : Sto × List (Int × Int) × Option Int} {e : Ending} (h : UnPost V p km F R e w') (st : StoStep w V (km :: F0) (km :: F)) : UnPost w p km F0 R e w' := by
  obtain ⟨h1, F', h2, h3, h4, h5⟩ := h
  exact ⟨h1, F', h2, h3, h4, st.trans h5⟩
end Go.Proofs.Ytboekafmplomhaa
set_option linter.unusedVariables false
set_option linter.unusedSimpArgs false
namespace Go.Proofs.Ytboekafmplomhaa
open Go.RowKit

theorem StoStep.drop {w V w' : World} {F F' : List Nat} {km : Nat} (hb : Below w.heap.size w V) (h : StoStep V w' (km :: F) (km :: F')) (h1 : w.heap.size ≤ km) (h2 : km < V.heap.size) (hF : ∀ k ∈ F, k < w.heap.size) (hn : km ∉ F') : StoStep w w' F F' :=
  ⟨h.os.trans hb.os, h.tape.trans hb.tape, h.output.trans hb.output, Nat.le_trans hb.size h.size,
   fun k hk hn => (h.block k (Nat.lt_of_lt_of_le hk hb.size) (fun hm => by
     rcases List.mem_cons.1 hm with rfl | hm
     · omega
     · exact hn hm)).trans (hb.block k hk),
   fun k hk => by
     rcases h.fresh k (List.mem_cons_of_mem _ hk) with q | q
     · rcases List.mem_cons.1 q with rfl | q
       · exact (hn hk).elim
       · exact .inl q
     · exact .inr ⟨by have := hb.size; omega, q.2⟩⟩

end Go.Proofs.Ytboekafmplomhaa
set_option linter.unusedVariables false
set_option linter.unusedSimpArgs false
namespace Go.Proofs.Ytboekafmplomhaa
open Go.RowKit

end Go.Proofs.Ytboekafmplomhaa
set_option linter.unusedVariables false
set_option linter.unusedSimpArgs false
namespace Go.Proofs.Ytboekafmplomhaa
open Go.RowKit

section
variable {w : World} {q : Option Addr} (h : Dead w q)
include h
end
end Go.Proofs.Ytboekafmplomhaa
set_option linter.unusedVariables false
set_option linter.unusedSimpArgs false
namespace Go.Proofs.Ytboekafmplomhaa
open Go.RowKit

end Go.Proofs.Ytboekafmplomhaa
set_option linter.unusedVariables false
set_option linter.unusedSimpArgs false
namespace Go.Proofs.Ytboekafmplomhaa
open Go.RowKit

theorem underV_good {S : Sto} (hW : Wf S) (hs : Sated S) (a v : Int) (on : Bool) : Wf (underV S a v on).1 ∧ Sated (underV S a v on).1 :=
  have O := underV_ok hW hs (below64 hW) (by omega) a v on
  ⟨O.wf, O.sated⟩
theorem iteV_good {S : Sto} (hW : Wf S) (hs : Sated S) (a b c : Int) : Wf (iteV S a b c).1 ∧ Sated (iteV S a b c).1 :=
  have O := iteV_ok hW hs (below64 hW) (by omega) a b c
  ⟨O.wf, O.sated⟩

theorem Rd.intAt {w : World} {a : Option Addr} {cap : Nat} {l : List Int} (h : Rd w 1 (.slice a l.length cap) (ints l)) {i : Nat} (hi : i < l.length) :
    ∃ b off, a = some ⟨b, off, none⟩ ∧ b < w.heap.size ∧ w.cell? ⟨b, off + i, none⟩ = some (.int .i64 l[i]) := by
  obtain ⟨a', n, cap', h1, h2, h3, h4, h5⟩ := h
  simp only [Value.slice.injEq] at h1
  obtain ⟨rfl, rfl, rfl⟩ := h1
  obtain ⟨b, off, e1, e2, e3⟩ := h5 (by omega)
  exact ⟨b, off, e1, e2, e3 i _ (by simp [ints, hi])⟩
end Go.Proofs.Ytboekafmplomhaa
