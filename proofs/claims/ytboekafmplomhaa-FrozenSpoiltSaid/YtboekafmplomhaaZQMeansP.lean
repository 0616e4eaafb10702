/-
  QuantMeans in plain Lean: what is bound, put in place, exchanged, implied means what it should.
-/
import Derived.Test.YtboekafmplomhaaZQuantC
import Derived.Test.YtboekafmplomhaaZMadeP
import Derived.Test.YtboekafmplomhaaZMeansQ
import Derived.Test.YtboekafmplomhaaZSupB
set_option linter.unusedVariables false
set_option linter.unusedSimpArgs false
namespace Go.Proofs.Ytboekafmplomhaa

def brow8 (b v : Nat) : List Bool := (List.range 8).map fun j => decide (j < v) && bitsOf b j
theorem brow8_start (b : Nat) : bools (brow8 b 0) = List.replicate 8 (.bool false) := rfl
theorem brow8_set (b v : Nat) (hv : v < 8) : (bools (brow8 b v)).set v (.bool (bitsOf b v)) = bools (brow8 b (v + 1)) := by
  rcases (show v = 0 ∨ v = 1 ∨ v = 2 ∨ v = 3 ∨ v = 4 ∨ v = 5 ∨ v = 6 ∨ v = 7 by omega) with rfl | rfl | rfl | rfl | rfl | rfl | rfl | rfl <;> simp [bools, brow8, List.range_succ]
theorem brow8_length (b v : Nat) : (brow8 b v).length = 8 := by simp [brow8]
theorem brow8_bits (b : Nat) (hb : b < 256) : bitsB (brow8 b 8) = bitsOf b := by
  funext v
  unfold bitsB
  by_cases h0 : 0 ≤ v
  · obtain ⟨k, rfl⟩ : ∃ k : Nat, v = k := ⟨v.toNat, by omega⟩
    by_cases hk : k < 8
    · simp [brow8, List.getD_eq_getElem?_getD, hk]
    · have e : bitsOf b k = false := by
        rw [bitsOf_test]
        exact Nat.testBit_lt_two_pow (Nat.lt_of_lt_of_le hb (by have := Nat.pow_le_pow_right (n := 2) (by omega) (show 8 ≤ k by omega); omega))
      rw [e]
      simp [brow8, List.getD_eq_getElem?_getD, hk]
  · unfold bitsOf; simp [h0]
theorem bit256 : ∀ (n : Fin 256) (j : Fin 8), (bits BinOp.and IntKind.i64 ((n.val : Int) / 2 ^ j.val) 1 == 1) = bitsOf n.val (j.val : Int) := by decide +kernel
theorem bitsB_set (l : List Bool) (i : Nat) (hi : i < l.length) (on : Bool) : bitsB (l.set i on) = setb (bitsB l) (i : Int) on := by
  funext v
  unfold bitsB setb
  by_cases h0 : 0 ≤ v
  · obtain ⟨k, rfl⟩ : ∃ k : Nat, v = k := ⟨v.toNat, by omega⟩
    by_cases e : k = i
    · subst e; simp [List.getD_eq_getElem?_getD, hi]
    · have e' : ¬ (k : Int) = (i : Int) := by omega
      have e2 : ¬ i = k := fun h => e h.symm
      simp [List.getD_eq_getElem?_getD, e', List.getElem?_set_ne e2]
  · have e' : ¬ v = (i : Int) := by omega
    simp [h0, e']

/-- A store of few nodes over eight variables, which is not full. -/
structure Liv (S : Sto) (n : Nat) : Prop where
  wf : Wf S
  sated : Sated S
  below : Below' S 8
  cap : S.cap = 1048576
  count : S.nodes.length ≤ n
theorem Liv.free {S : Sto} {n : Nat} (h : Liv S n) (hn : n ≤ 1000000) : S.full = false := by
  cases hf : S.full with
  | false => rfl
  | true => have := h.sated hf; have := h.cap; have := h.count; omega
theorem Liv.step {S : Sto} {n m : Nat} {R : Sto × Int} (h : Liv S n) (v : VOk S 8 m R) : Liv R.1 (n + m) :=
  ⟨v.wf, v.sated, v.below, by rw [v.grows.cap]; exact h.cap, by have := v.count; have := h.count; omega⟩
/-- A call's result: a diagram that means f, in a store that has grown. -/
structure Res (S : Sto) (n : Nat) (R : Sto × Int) (f : (Int → Bool) → Bool) : Prop where
  liv : Liv R.1 n
  grows : Grows S R.1
  has : R.1.has R.2
  val : ∀ β, ev R.1 β R.2 = f β
section
variable {S : Sto} {n : Nat} {a b c : Int}
theorem under_res (L : Liv S n) (hn : n + 256 ≤ 1000000) (ha : S.has a) (v : Int) (on : Bool) : Res S (n + 256) (underV S a v on) (fun β => ev S (setb β v on) a) := by
  have O := underV_ok L.wf L.sated L.below (by omega) a v on
  have L' : Liv (underV S a v on).1 (n + 256) := L.step O
  exact ⟨L', O.grows, O.has, fun β => by rw [underV_ev L.wf L.sated L.below a v on (L'.free hn), right_has ha]⟩
theorem ite_res (L : Liv S n) (hn : n + 256 ≤ 1000000) (hc : S.has c) (ha : S.has a) (hb : S.has b) : Res S (n + 256) (iteV S c a b) (fun β => if ev S β c then ev S β a else ev S β b) := by
  have O := iteV_ok L.wf L.sated L.below (by omega) c a b
  have L' : Liv (iteV S c a b).1 (n + 256) := L.step O
  exact ⟨L', O.grows, O.has, fun β => by rw [iteV_ev L.wf c a b (L'.free hn), right_has hc, right_has ha, right_has hb]⟩
theorem var_res (L : Liv S n) (hn : n + 256 ≤ 1000000) (v : Nat) (hv : v < 8) : Res S (n + 256) (varV S v) (fun β => β v) := by
  have O := (varV_ok L.wf L.sated L.below (v : Int) (.inl (by omega))).weak (show 1 ≤ 256 by omega)
  have L' : Liv (varV S v).1 (n + 256) := L.step O
  exact ⟨L', O.grows, O.has, fun β => by rw [varV_ev L.wf (v : Int) (L'.free hn), if_neg (by omega)]⟩
theorem Res.old {R : Sto × Int} {f : (Int → Bool) → Bool} (r : Res S n R f) (hW : Wf S) (ha : S.has a) (β : Int → Bool) : ev R.1 β a = ev S β a := ev_grows hW r.grows β ha
theorem ev_one (S : Sto) (β : Int → Bool) : ev S β 1 = true := by rw [ev_low _ (by omega)]; rfl
theorem ev_zero (S : Sto) (β : Int → Bool) : ev S β 0 = false := by rw [ev_low _ (by omega)]; rfl
theorem isVar_lt {v : Nat} (hv : v < 8) : isVarB (v : Int) = true := by unfold isVarB; simp; omega
theorem qrightN_has (hf : S.full = false) (ha : S.has a) : qrightN S a = a := by
  unfold qrightN qrightV
  rw [hf]
  by_cases h1 : a = 1
  · subst h1; simp
  · unfold atV
    rw [right_has ha]
    by_cases h2 : a < 2
    · rw [if_pos h2]
      have := ha.1
      have : a = 0 := by omega
      subst this; simp
    · rw [if_neg h2]; simp
theorem bind_one (op : Sto → Int → Int → Sto × Int) (hf : S.full = false) (ha : S.has a) {v : Int} (hv : isVarB v = true) :
    bindV op S a [v] = ((op (underV (underV S a v false).1 a v true).1 (underV S a v false).2 (underV (underV S a v false).1 a v true).2).1, qrightN (op (underV (underV S a v false).1 a v true).1 (underV S a v false).2 (underV (underV S a v false).1 a v true).2).1 (op (underV (underV S a v false).1 a v true).1 (underV S a v false).2 (underV (underV S a v false).1 a v true).2).2) := by
  unfold bindV
  rw [qrightN_has hf ha, bindL, if_pos hv, bindL]
theorem parts_res (L : Liv S n) (hn : n + 512 ≤ 1000000) (ha : S.has a) (v : Int) :
    Liv (partsV S a v).1 (n + 512) ∧ Grows S (partsV S a v).1 ∧ (partsV S a v).1.has (partsV S a v).2.1 ∧ (partsV S a v).1.has (partsV S a v).2.2 ∧
    (∀ β, ev (partsV S a v).1 β (partsV S a v).2.1 = ev S (setb β v false) a) ∧ (∀ β, ev (partsV S a v).1 β (partsV S a v).2.2 = ev S (setb β v true) a) := by
  have R1 := under_res L (by omega) ha v false
  have R2 := under_res R1.liv (by omega) (R1.grows.has ha) v true
  refine ⟨R2.liv, R1.grows.trans R2.grows, R2.grows.has R1.has, R2.has, fun β => ?_, fun β => ?_⟩
  · show ev _ β (underV S a v false).2 = _
    exact (R2.old R1.liv.wf R1.has β).trans (R1.val β)
  · exact (R2.val β).trans (R1.old L.wf ha _)
theorem exists_res (L : Liv S n) (hn : n + 768 ≤ 1000000) (ha : S.has a) (v : Nat) (hv : v < 8) : Res S (n + 768) (bindV orV S a [(v : Int)]) (fun β => ev S (setb β v false) a || ev S (setb β v true) a) := by
  rw [bind_one orV (L.free (by omega)) ha (isVar_lt hv)]
  obtain ⟨q1, q2, q3, q4, q5, q6⟩ := parts_res L (by omega) ha (v : Int)
  have R := ite_res q1 (by omega) q3 (has_one _) q4
  rw [show orV (underV (underV S a v false).1 a v true).1 (underV S a v false).2 (underV (underV S a v false).1 a v true).2 = iteV (partsV S a v).1 (partsV S a v).2.1 1 (partsV S a v).2.2 from rfl]
  rw [qrightN_has (R.liv.free (by omega)) R.has]
  refine ⟨R.liv, q2.trans R.grows, R.has, fun β => ?_⟩
  rw [show ev (iteV (partsV S a v).1 (partsV S a v).2.1 1 (partsV S a v).2.2).1 β (iteV (partsV S a v).1 (partsV S a v).2.1 1 (partsV S a v).2.2).2 = _ from R.val β]
  try simp only
  rw [q5, q6, ev_one]
  cases ev S (setb β v false) a <;> simp
theorem forall_res (L : Liv S n) (hn : n + 768 ≤ 1000000) (ha : S.has a) (v : Nat) (hv : v < 8) : Res S (n + 768) (bindV andV S a [(v : Int)]) (fun β => ev S (setb β v false) a && ev S (setb β v true) a) := by
  rw [bind_one andV (L.free (by omega)) ha (isVar_lt hv)]
  obtain ⟨q1, q2, q3, q4, q5, q6⟩ := parts_res L (by omega) ha (v : Int)
  have R := ite_res q1 (by omega) q3 q4 (has_zero _)
  rw [show andV (underV (underV S a v false).1 a v true).1 (underV S a v false).2 (underV (underV S a v false).1 a v true).2 = iteV (partsV S a v).1 (partsV S a v).2.1 (partsV S a v).2.2 0 from rfl]
  rw [qrightN_has (R.liv.free (by omega)) R.has]
  refine ⟨R.liv, q2.trans R.grows, R.has, fun β => ?_⟩
  rw [show ev (iteV (partsV S a v).1 (partsV S a v).2.1 (partsV S a v).2.2 0).1 β (iteV (partsV S a v).1 (partsV S a v).2.1 (partsV S a v).2.2 0).2 = _ from R.val β]
  try simp only
  rw [q5, q6, ev_zero]
  cases ev S (setb β v false) a <;> simp
theorem compose_res (L : Liv S n) (hn : n + 768 ≤ 1000000) (ha : S.has a) (hb : S.has b) (v : Nat) (hv : v < 8) : Res S (n + 768) (composeV S a v b) (fun β => ev S (setb β v (ev S β b)) a) := by
  unfold composeV
  rw [if_pos (isVar_lt hv)]
  obtain ⟨q1, q2, q3, q4, q5, q6⟩ := parts_res L (by omega) ha (v : Int)
  have R := ite_res q1 (by omega) (q2.has hb) q4 q3
  refine ⟨R.liv, q2.trans R.grows, R.has, fun β => ?_⟩
  rw [R.val β, q5, q6, ev_grows L.wf q2 β hb]
  cases ev S β b <;> rfl
/-- Two variables exchanged. -/
def swapb (β : Int → Bool) (u v : Int) : Int → Bool := setb (setb β u (β v)) v (β u)
theorem swapb_self (β : Int → Bool) (u : Int) : swapb β u u = β := by
  funext w; unfold swapb setb; by_cases e : w = u
  · simp [e]
  · simp [e]
theorem swapb_back (β : Int → Bool) (u v : Int) : swapb (swapb β u v) u v = β := by
  funext w; unfold swapb setb
  by_cases e : w = v
  · subst e; by_cases e2 : u = w
    · subst e2; simp
    · simp [e2]
  · by_cases e2 : w = u
    · subst e2; simp [e]
    · simp [e, e2]
theorem swap_res (L : Liv S n) (hn : n + 2816 ≤ 1000000) (ha : S.has a) (u v : Nat) (hu : u < 8) (hv : v < 8) : Res S (n + 2816) (swapV S a u v) (fun β => ev S (swapb β u v) a) := by
  unfold swapV
  by_cases huv : (u : Int) = (v : Int)
  · rw [if_pos (.inl huv), qrightN_has (L.free (by omega)) ha]
    refine ⟨⟨L.wf, L.sated, L.below, L.cap, by have := L.count; show S.nodes.length ≤ _; omega⟩, Grows.refl S, ha, fun β => ?_⟩
    rw [huv, swapb_self]
  · rw [if_neg (by rw [isVar_lt hu, isVar_lt hv]; simp [huv])]
    dsimp only
    obtain ⟨x1, x2, x3, x4, x5, x6⟩ := parts_res L (by omega) ha (u : Int)
    generalize partsV S a u = X at *
    obtain ⟨y1, y2, y3, y4, y5, y6⟩ := parts_res x1 (by omega) x3 (v : Int)
    generalize partsV X.1 X.2.1 v = Y at *
    obtain ⟨z1, z2, z3, z4, z5, z6⟩ := parts_res y1 (by omega) (y2.has x4) (v : Int)
    generalize partsV Y.1 X.2.2 v = Z at *
    have RP := var_res z1 (by omega) u hu
    generalize varV Z.1 u = P at *
    have RQ := var_res RP.liv (by omega) v hv
    generalize varV P.1 v = Q at *
    have gZ := RP.grows.trans RQ.grows
    have RL := ite_res RQ.liv (by omega) RQ.has (gZ.has z3) (gZ.has (z2.has y3))
    generalize iteV Q.1 Q.2 Z.2.1 Y.2.1 = W at *
    have RH := ite_res RL.liv (by omega) (RL.grows.has RQ.has) (RL.grows.has (gZ.has z4)) (RL.grows.has (gZ.has (z2.has y4)))
    generalize iteV W.1 Q.2 Z.2.2 Y.2.2 = K at *
    have RR := ite_res RH.liv (by omega) (RH.grows.has (RL.grows.has (RQ.grows.has RP.has))) RH.has (RH.grows.has RL.has)
    refine ⟨⟨RR.liv.wf, RR.liv.sated, RR.liv.below, RR.liv.cap, by have := RR.liv.count; omega⟩, x2.trans (y2.trans (z2.trans (gZ.trans (RL.grows.trans (RH.grows.trans RR.grows))))), RR.has, fun β => ?_⟩
    have eX : ∀ β, ev Y.1 β X.2.2 = ev S (setb β u true) a := fun β => (ev_grows x1.wf y2 β x4).trans (x6 β)
    have e10 : ∀ β, ev Q.1 β Z.2.1 = ev S (setb (setb β v false) u true) a := fun β => (ev_grows z1.wf gZ β z3).trans ((z5 β).trans (eX _))
    have e11 : ∀ β, ev Q.1 β Z.2.2 = ev S (setb (setb β v true) u true) a := fun β => (ev_grows z1.wf gZ β z4).trans ((z6 β).trans (eX _))
    have e00 : ∀ β, ev Q.1 β Y.2.1 = ev S (setb (setb β v false) u false) a := fun β => (ev_grows z1.wf gZ β (z2.has y3)).trans ((ev_grows y1.wf z2 β y3).trans ((y5 β).trans (x5 _)))
    have e01 : ∀ β, ev Q.1 β Y.2.2 = ev S (setb (setb β v true) u false) a := fun β => (ev_grows z1.wf gZ β (z2.has y4)).trans ((ev_grows y1.wf z2 β y4).trans ((y6 β).trans (x5 _)))
    have eQ : ∀ β, ev W.1 β Q.2 = β v := fun β => (RL.old RQ.liv.wf RQ.has β).trans (RQ.val β)
    have eP : ∀ β, ev K.1 β P.2 = β u := fun β => (RH.old RL.liv.wf (RL.grows.has (RQ.grows.has RP.has)) β).trans ((RL.old RQ.liv.wf (RQ.grows.has RP.has) β).trans ((RQ.old RP.liv.wf RP.has β).trans (RP.val β)))
    have hsw : ∀ p q, β u = p → β v = q → swapb β u v = setb (setb β v p) u q := fun p q h1 h2 => by
      funext w
      unfold swapb setb
      rw [h1, h2]
      by_cases e1 : w = (v : Int)
      · have : ¬ w = (u : Int) := fun e => huv (by omega)
        simp [e1]
        intro h; exact absurd h.symm huv
      · by_cases e2 : w = (u : Int)
        · simp [e1, e2]; intro h; exact absurd h huv
        · simp [e1, e2]
    have eW : ∀ β, ev W.1 β Z.2.2 = ev Q.1 β Z.2.2 := fun β => RL.old RQ.liv.wf (gZ.has z4) β
    have eW2 : ∀ β, ev W.1 β Y.2.2 = ev Q.1 β Y.2.2 := fun β => RL.old RQ.liv.wf (gZ.has (z2.has y4)) β
    have eK : ∀ β, ev K.1 β W.2 = ev W.1 β W.2 := fun β => RH.old RL.liv.wf RL.has β
    rw [RR.val β]
    try simp only
    rw [eP, RH.val β, eK, RL.val β]
    try simp only
    rw [eQ, RQ.val β, eW, eW2, e10, e11, e00, e01]
    try simp only
    cases h1 : β u <;> cases h2 : β v <;> simp only [Bool.false_eq_true, if_true, if_false] <;> rw [hsw _ _ h1 h2]
/-- One diagram implies another one just if it does so under each number's bits. -/
theorem implies_res (L : Liv S n) (hn : n + 512 ≤ 1000000) (ha : S.has a) (hb : S.has b) :
    Liv (impliesV S a b).1 (n + 512) ∧ Grows S (impliesV S a b).1 ∧ ((impliesV S a b).2 = true ↔ ∀ k, k < 256 → (ev S (bitsOf k) a = true → ev S (bitsOf k) b = true)) := by
  unfold impliesV notV andV
  have R1 := ite_res L (by omega) hb (has_zero _) (has_one _)
  generalize iteV S b 0 1 = N at *
  have R2 := ite_res R1.liv (by omega) (R1.grows.has ha) R1.has (has_zero _)
  generalize iteV N.1 a N.2 0 = A at *
  refine ⟨R2.liv, R1.grows.trans R2.grows, ?_⟩
  simp only [R2.liv.free (by omega), Bool.not_false, Bool.and_true, decide_eq_true_eq]
  have key := same_upto (V := 8) R2.liv.wf R2.liv.below R2.has (has_zero A.1)
  rw [← key]
  have h256 : (2 : Nat) ^ 8 = 256 := by decide
  rw [h256]
  have e : ∀ k, ev A.1 (bitsOf k) A.2 = (ev S (bitsOf k) a && !ev S (bitsOf k) b) := fun k => by
    rw [R2.val]
    try simp only
    rw [R1.old L.wf ha, R1.val, ev_zero]
    try simp only
    rw [ev_one, ev_zero]
    cases ev S (bitsOf k) a <;> cases ev S (bitsOf k) b <;> rfl
  constructor
  · intro h k hk h1
    have := h k hk
    rw [e, ev_zero, h1] at this
    simpa using this
  · intro h k hk
    rw [e, ev_zero]
    have := h k hk
    cases h1 : ev S (bitsOf k) a
    · rfl
    · rw [this h1]; rfl

/-- A diagram that does not hang on a variable. -/
def FreeOf (S : Sto) (x a : Int) : Prop := ∀ β, ev S (setb β x false) a = ev S (setb β x true) a
theorem free_child (hW : Wf S) {x : Int} {i : Nat} {m : Nd} (hm : S.nodes[i]? = some m) (hfr : FreeOf S x ((i : Int) + 2)) : m.1 ≠ x ∧ FreeOf S x m.2.1 ∧ FreeOf S x m.2.2 := by
  have hc := hW.child hm
  have hok := hW.node i m hm
  have tlo := hok.tlo
  have thi := hok.thi
  have same : ∀ d, S.has d → m.1 < topOf S d → ∀ β c, ev S (setb β m.1 c) d = ev S β d := fun d hd ht β c =>
    ev_same hW _ _ (Nat.le_refl _) hd _ _ (fun w hw _ => by unfold setb; rw [if_neg (by omega)])
  have comm : ∀ (β : Int → Bool) c c', m.1 ≠ x → setb (setb β m.1 c) x c' = setb (setb β x c') m.1 c := fun β c c' hne => by
    funext w; unfold setb
    by_cases e1 : w = x
    · have : ¬ w = m.1 := fun e => hne (by omega)
      simp [e1]; intro h; exact absurd h.symm hne
    · by_cases e2 : w = m.1
      · simp [e1, e2]; intro h; exact absurd h hne
      · simp [e1, e2]
  have hne : m.1 ≠ x := by
    intro e
    refine hok.ne ((ev_eq hW hc.1 hc.2).1 (fun β => ?_))
    have := hfr β
    rw [← e, ev_node hW _ hm, ev_node hW _ hm] at this
    simp [setb] at this
    rw [same _ hc.1 tlo β false, same _ hc.2 thi β true] at this
    exact this
  refine ⟨hne, fun β => ?_, fun β => ?_⟩
  · have := hfr (setb β m.1 false)
    rw [comm _ _ _ hne, comm _ _ _ hne, ev_node hW _ hm, ev_node hW _ hm] at this
    simp only [show ∀ γ : Int → Bool, setb γ m.1 false m.1 = false from fun γ => by simp [setb], Bool.false_eq_true, if_false] at this
    rw [same _ hc.1 tlo, same _ hc.1 tlo] at this
    exact this
  · have := hfr (setb β m.1 true)
    rw [comm _ _ _ hne, comm _ _ _ hne, ev_node hW _ hm, ev_node hW _ hm] at this
    simp only [show ∀ γ : Int → Bool, setb γ m.1 true m.1 = true from fun γ => by simp [setb], if_true] at this
    rw [same _ hc.2 thi, same _ hc.2 thi] at this
    exact this
theorem supN_free (hW : Wf S) {x : Int} (hx : 0 ≤ x) : ∀ (k : Nat) (K : List (Int × Int)) (O : List Bool) (a : Int), (S.has a → FreeOf S x a) → (supN S k K O a).2.getD x.toNat false = O.getD x.toNat false := by
  intro k
  induction k with
  | zero => intro K O a _; rfl
  | succ k ih =>
    intro K O a hfr
    unfold supN
    split
    · rfl
    · rename_i h
      have h1 : ¬ (atV S a).2 = false := fun e => h (.inl e)
      unfold atV at h1
      by_cases h2 : rightOf S a < 2
      · rw [if_pos h2] at h1; exact absurd rfl h1
      · obtain ⟨e1, e2, e3⟩ := rightOf_two h2
        have ha : S.has a := ⟨by omega, e3⟩
        obtain ⟨i, m, rfl, hm⟩ := has_node ha (by omega)
        obtain ⟨q1, q2, q3⟩ := free_child hW hm (hfr ha)
        have hat : (atV S ((i : Int) + 2)).1 = m := by
          unfold atV
          rw [if_neg h2]
          try simp only
          rw [show ((i : Int) + 2 - 2).toNat = i by omega, hm]; rfl
        rw [hat, ih _ _ _ (fun _ => q3), ih _ _ _ (fun _ => q2)]
        have v0 := (hW.node i m hm).v0
        rw [List.getD_eq_getElem?_getD, List.getElem?_set_ne (by omega), ← List.getD_eq_getElem?_getD]
theorem onL_mem (O : List Bool) : ∀ (j : Nat) (x : Int), x ∈ onL O j → 0 ≤ x ∧ O.getD x.toNat false = true
  | 0, x, h => by simp [onL] at h
  | j + 1, x, h => by
    unfold onL at h
    split at h
    · rename_i hj
      rw [List.mem_append] at h
      rcases h with h | h
      · exact onL_mem O j x h
      · simp at h; subst h; exact ⟨by omega, by simpa using hj⟩
    · exact onL_mem O j x h
/-- What is bound is hung on no more. -/
theorem sup_free (hW : Wf S) {x : Nat} {a : Int} (hfr : FreeOf S x a) (k : Nat) : (x : Int) ∉ onL (supN S k [] (List.replicate 64 false) a).2 64 := fun h => by
  obtain ⟨_, h1⟩ := onL_mem _ _ _ h
  rw [supN_free hW (by omega) k _ _ a (fun _ => hfr), List.getD_eq_getElem?_getD] at h1
  rcases Nat.lt_or_ge ((x : Int).toNat) 64 with h2 | h2
  · rw [List.getElem?_eq_getElem (by rw [List.length_replicate]; exact h2), List.getElem_replicate] at h1; simp at h1
  · rw [List.getElem?_eq_none (by rw [List.length_replicate]; exact h2)] at h1; simp at h1
theorem setb_setb (β : Int → Bool) (x : Int) (c d : Bool) : setb (setb β x c) x d = setb β x d := by
  funext w; unfold setb; by_cases e : w = x <;> simp [e]
end
end Go.Proofs.Ytboekafmplomhaa
