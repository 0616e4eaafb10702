/-
  Calls of a store, one by one, and what they mean, in plain Lean.
-/
import Derived.Test.YtboekafmplomhaaZPlay
set_option linter.unusedVariables false
set_option linter.unusedSimpArgs false
namespace Go.Proofs.Ytboekafmplomhaa

structure OpD where
  k : Int
  a : Int
  b : Int
  c : Int
  on : Bool

/-- An earlier one, by how far it is back. -/
def backAt {α : Type} (d : α) (all : List α) (i : Int) : α := if i < 0 ∨ all.length = 0 then d else (all[all.length - 1 - i.toNat % all.length]?).getD d
theorem backAt_map {α β : Type} (f : α → β) (d : α) (d' : β) (h : f d = d') (all : List α) (i : Int) : backAt d' (all.map f) i = f (backAt d all i) := by
  unfold backAt
  by_cases e : i < 0 ∨ all.length = 0
  · rw [if_pos e, if_pos (by simpa using e), h]
  · rw [if_neg e, if_neg (by simpa using e)]
    simp only [List.length_map, List.getElem?_map]
    cases all[all.length - 1 - i.toNat % all.length]? <;> simp [h]
theorem backAt_mem {α : Type} (d : α) (all : List α) (i : Int) : backAt d all i = d ∨ backAt d all i ∈ all := by
  unfold backAt
  by_cases e : i < 0 ∨ all.length = 0
  · rw [if_pos e]; exact .inl rfl
  · rw [if_neg e]
    cases h : all[all.length - 1 - i.toNat % all.length]? with
    | none => exact .inl rfl
    | some x => exact .inr (List.mem_of_getElem? h)

def doesV (S : Sto) (all : List Int) (o : OpD) : Sto × Int :=
  if o.k = 1 then if 5 < o.a then (S, 0) else varV S o.a
  else if o.k = 2 then iteV S (backAt 0 all o.a) (backAt 0 all o.b) (backAt 0 all o.c)
  else if o.k = 3 then notV S (backAt 0 all o.a)
  else if o.k = 4 then andV S (backAt 0 all o.a) (backAt 0 all o.b)
  else if o.k = 5 then orV S (backAt 0 all o.a) (backAt 0 all o.b)
  else if o.k = 6 then xorV S (backAt 0 all o.a) (backAt 0 all o.b)
  else (S, 0)
def runV : Sto → List Int → List OpD → Sto × List Int
  | S, all, [] => (S, all)
  | S, all, o :: r => runV (doesV S all o).1 (all ++ [(doesV S all o).2]) r

/-- What a call means, by truths. -/
def stepB (β : Int → Bool) (all : List Bool) (o : OpD) : Bool :=
  if o.k = 1 then decide (0 ≤ o.a) && (decide (o.a < 6) && β o.a)
  else if o.k = 2 then (backAt false all o.a && backAt false all o.b) || (!backAt false all o.a && backAt false all o.c)
  else if o.k = 3 then !backAt false all o.a
  else if o.k = 4 then backAt false all o.a && backAt false all o.b
  else if o.k = 5 then backAt false all o.a || backAt false all o.b
  else if o.k = 6 then (backAt false all o.a != backAt false all o.b)
  else false
def runB (β : Int → Bool) : List Bool → List OpD → List Bool
  | all, [] => all
  | all, o :: r => runB β (all ++ [stepB β all o]) r

/-- A store, six variables, that is not full, and diagrams of it. -/
structure Good (S : Sto) (V : Int) (m : Nat) (all : List Int) : Prop where
  wf : Wf S
  cap : S.cap = 1048576
  sated : Sated S
  below : Below' S V
  count : S.nodes.length ≤ m
  has : ∀ x ∈ all, S.has x

theorem Good.free {S : Sto} {V : Int} {m : Nat} {all : List Int} (h : Good S V m all) (hm : m < 1048576) : S.full = false := by
  cases hf : S.full with
  | false => rfl
  | true => have h1 := h.sated hf; have h2 := h.count; have h3 := h.cap; omega
theorem Good.step {S : Sto} {V : Int} {m k : Nat} {all : List Int} {R : Sto × Int} (h : Good S V m all) (hR : VOk S V k R) : Good R.1 V (m + k) (all ++ [R.2]) :=
  ⟨hR.wf, hR.grows.cap.trans h.cap, hR.sated, hR.below, by have := hR.count; have := h.count; omega, fun x hx => by
    rcases List.mem_append.1 hx with hx | hx
    · exact hR.grows.has (h.has x hx)
    · simp at hx; subst hx; exact hR.has⟩
theorem Good.back {S : Sto} {V : Int} {m : Nat} {all : List Int} (h : Good S V m all) (i : Int) : S.has (backAt 0 all i) := by
  rcases backAt_mem 0 all i with e | e
  · rw [e]; exact has_zero S
  · exact h.has _ e

theorem notV_ok {S : Sto} {V : Int} (hW : Wf S) (hs : Sated S) (hb : Below' S V) (hV : 0 ≤ V) (x : Int) : VOk S V (2 ^ V.toNat) (notV S x) := iteV_ok hW hs hb hV _ _ _
theorem andV_ok {S : Sto} {V : Int} (hW : Wf S) (hs : Sated S) (hb : Below' S V) (hV : 0 ≤ V) (x y : Int) : VOk S V (2 ^ V.toNat) (andV S x y) := iteV_ok hW hs hb hV _ _ _
theorem orV_ok {S : Sto} {V : Int} (hW : Wf S) (hs : Sated S) (hb : Below' S V) (hV : 0 ≤ V) (x y : Int) : VOk S V (2 ^ V.toNat) (orV S x y) := iteV_ok hW hs hb hV _ _ _
theorem xorV_ok {S : Sto} {V : Int} (hW : Wf S) (hs : Sated S) (hb : Below' S V) (hV : 0 ≤ V) (x y : Int) : VOk S V (2 ^ V.toNat + 2 ^ V.toNat) (xorV S x y) := by
  have h1 := notV_ok hW hs hb hV y
  exact h1.trans (iteV_ok h1.wf h1.sated h1.below hV _ _ _)

section
variable {S : Sto} (hW : Wf S) (β : Int → Bool)
include hW
theorem notV_ev {x : Int} (hx : S.has x) (hf : (notV S x).1.full = false) : ev (notV S x).1 β (notV S x).2 = !ev S β x := by
  have h := iteV_ev hW x 0 1 hf β
  rw [right_has hx, right_has (has_zero S), right_has (has_one S), ev_low (a := 0) β (by omega), ev_low (a := 1) β (by omega)] at h
  rw [show ev (notV S x).1 β (notV S x).2 = _ from h]
  cases ev S β x <;> rfl
theorem andV_ev {x y : Int} (hx : S.has x) (hy : S.has y) (hf : (andV S x y).1.full = false) : ev (andV S x y).1 β (andV S x y).2 = (ev S β x && ev S β y) := by
  have h := iteV_ev hW x y 0 hf β
  rw [right_has hx, right_has hy, right_has (has_zero S), ev_low (a := 0) β (by omega)] at h
  rw [show ev (andV S x y).1 β (andV S x y).2 = _ from h]
  cases ev S β x <;> rfl
theorem orV_ev {x y : Int} (hx : S.has x) (hy : S.has y) (hf : (orV S x y).1.full = false) : ev (orV S x y).1 β (orV S x y).2 = (ev S β x || ev S β y) := by
  have h := iteV_ev hW x 1 y hf β
  rw [right_has hx, right_has hy, right_has (has_one S), ev_low (a := 1) β (by omega)] at h
  rw [show ev (orV S x y).1 β (orV S x y).2 = _ from h]
  cases ev S β x <;> rfl
end
theorem madeR_full {S : Sto} {R : Sto × Option Int} (h : S.full = true) : (madeR S R).1.full = true := by unfold madeR; rw [if_pos h]; exact h
theorem xorV_ev {S : Sto} {V : Int} (hW : Wf S) (hs : Sated S) (hb : Below' S V) (hV : 0 ≤ V) (β : Int → Bool) {x y : Int} (hx : S.has x) (hy : S.has y) (hf : (xorV S x y).1.full = false) :
    ev (xorV S x y).1 β (xorV S x y).2 = (ev S β x != ev S β y) := by
  have h1 := notV_ok hW hs hb hV y
  have hf1 : (notV S y).1.full = false := by
    cases h : (notV S y).1.full with
    | false => rfl
    | true => have := madeR_full (R := iteR (notV S y).1 x (notV S y).2 y) h; unfold xorV iteV at hf; rw [this] at hf; cases hf
  have e1 := notV_ev hW β hy hf1
  have h := iteV_ev h1.wf x (notV S y).2 y hf β
  rw [right_has (h1.grows.has hx), right_has h1.has, right_has (h1.grows.has hy), ev_grows hW h1.grows β hx, ev_grows hW h1.grows β hy, e1] at h
  rw [show ev (xorV S x y).1 β (xorV S x y).2 = _ from h]
  cases ev S β x <;> cases ev S β y <;> rfl

theorem VOk.same {S : Sto} {V : Int} (hW : Wf S) (hs : Sated S) (hb : Below' S V) : VOk S V 0 (S, 0) := ⟨hW, Grows.refl S, hs, hb, by simp, has_zero S, fun _ => ⟨rfl, rfl⟩⟩

theorem doesV_ok {S : Sto} {m : Nat} {all : List Int} (h : Good S 6 m all) (o : OpD) : VOk S 6 128 (doesV S all o) := by
  have c := fun (R : Sto × Int) (h : VOk S 6 (2 ^ (6 : Int).toNat) R) => h.weak (m' := 128) (by decide)
  unfold doesV
  by_cases e1 : o.k = 1
  · rw [if_pos e1]
    by_cases e : 5 < o.a
    · rw [if_pos e]; exact (VOk.same h.wf h.sated h.below).weak (by omega)
    · rw [if_neg e]; exact (varV_ok h.wf h.sated h.below o.a (by omega)).weak (by omega)
  · rw [if_neg e1]
    by_cases e2 : o.k = 2
    · rw [if_pos e2]; exact c _ (iteV_ok h.wf h.sated h.below (by omega) _ _ _)
    · rw [if_neg e2]
      by_cases e3 : o.k = 3
      · rw [if_pos e3]; exact c _ (notV_ok h.wf h.sated h.below (by omega) _)
      · rw [if_neg e3]
        by_cases e4 : o.k = 4
        · rw [if_pos e4]; exact c _ (andV_ok h.wf h.sated h.below (by omega) _ _)
        · rw [if_neg e4]
          by_cases e5 : o.k = 5
          · rw [if_pos e5]; exact c _ (orV_ok h.wf h.sated h.below (by omega) _ _)
          · rw [if_neg e5]
            by_cases e6 : o.k = 6
            · rw [if_pos e6]; exact (xorV_ok h.wf h.sated h.below (by omega) _ _).weak (by decide)
            · rw [if_neg e6]; exact (VOk.same h.wf h.sated h.below).weak (by omega)

theorem doesV_ev {S : Sto} {m : Nat} {all : List Int} (h : Good S 6 m all) (o : OpD) (hf : (doesV S all o).1.full = false) (β : Int → Bool) :
    ev (doesV S all o).1 β (doesV S all o).2 = stepB β (all.map (ev S β)) o := by
  have z : ev S β 0 = false := ev_low β (by omega)
  have bk := backAt_map (ev S β) 0 false z all
  unfold doesV at hf ⊢
  unfold stepB
  by_cases e1 : o.k = 1
  · rw [if_pos e1] at hf ⊢
    rw [if_pos e1]
    by_cases e : 5 < o.a
    · rw [if_pos e, z]; simp; intro _ h; omega
    · rw [if_neg e] at hf ⊢
      rw [varV_ev h.wf o.a hf β]
      by_cases h0 : o.a < 0
      · rw [if_pos (.inl h0)]; simp; intro h; omega
      · rw [if_neg (by omega)]; simp [show 0 ≤ o.a by omega, show o.a < 6 by omega]
  · rw [if_neg e1] at hf ⊢
    rw [if_neg e1]
    by_cases e2 : o.k = 2
    · rw [if_pos e2] at hf ⊢
      rw [if_pos e2, iteV_ev h.wf _ _ _ hf β, right_has (h.back _), right_has (h.back _), right_has (h.back _), bk, bk, bk]
      cases ev S β (backAt 0 all o.a) <;> simp
    · rw [if_neg e2] at hf ⊢
      rw [if_neg e2]
      by_cases e3 : o.k = 3
      · rw [if_pos e3] at hf ⊢
        rw [if_pos e3, notV_ev h.wf β (h.back _) hf, bk]
      · rw [if_neg e3] at hf ⊢
        rw [if_neg e3]
        by_cases e4 : o.k = 4
        · rw [if_pos e4] at hf ⊢
          rw [if_pos e4, andV_ev h.wf β (h.back _) (h.back _) hf, bk, bk]
        · rw [if_neg e4] at hf ⊢
          rw [if_neg e4]
          by_cases e5 : o.k = 5
          · rw [if_pos e5] at hf ⊢
            rw [if_pos e5, orV_ev h.wf β (h.back _) (h.back _) hf, bk, bk]
          · rw [if_neg e5] at hf ⊢
            rw [if_neg e5]
            by_cases e6 : o.k = 6
            · rw [if_pos e6] at hf ⊢
              rw [if_pos e6, xorV_ev h.wf h.sated h.below (by omega) β (h.back _) (h.back _) hf, bk, bk]
            · rw [if_neg e6, if_neg e6, z]

theorem runV_ok : ∀ (l : List OpD) (S : Sto) (m : Nat) (all : List Int), Good S 6 m all → m + 128 * l.length < 1048576 →
    Good (runV S all l).1 6 (m + 128 * l.length) (runV S all l).2 ∧ (runV S all l).2.length = all.length + l.length ∧
    ∀ β, (runV S all l).2.map (ev (runV S all l).1 β) = runB β (all.map (ev S β)) l
  | [], S, m, all, h, _ => ⟨h, by simp [runV], fun β => rfl⟩
  | o :: r, S, m, all, h, hm => by
    have O := doesV_ok h o
    have h1 := h.step O
    have hf := h1.free (by simp at hm; omega)
    obtain ⟨g1, g2, g3⟩ := runV_ok r _ _ _ h1 (by simp at hm ⊢; omega)
    refine ⟨?_, ?_, fun β => ?_⟩
    · have e : m + 128 + 128 * r.length = m + 128 * (o :: r).length := by simp; omega
      rw [← e]; exact g1
    · rw [show (runV S all (o :: r)).2 = _ from rfl] at *
      show (runV (doesV S all o).1 (all ++ [(doesV S all o).2]) r).2.length = _
      rw [g2]; simp; omega
    · show List.map (ev (runV (doesV S all o).1 (all ++ [(doesV S all o).2]) r).1 β) (runV (doesV S all o).1 (all ++ [(doesV S all o).2]) r).2 = _
      rw [g3 β]
      show runB β _ r = runB β _ r
      rw [List.map_append, List.map_cons, List.map_nil, doesV_ev h o hf β]
      congr 2
      exact List.map_congr_left fun x hx => ev_grows h.wf O.grows β (h.has x hx)

theorem runV_snoc : ∀ (l : List OpD) (S : Sto) (all : List Int) (o : OpD), runV S all (l ++ [o]) = ((doesV (runV S all l).1 (runV S all l).2 o).1, (runV S all l).2 ++ [(doesV (runV S all l).1 (runV S all l).2 o).2])
  | [], _, _, _ => rfl
  | x :: r, S, all, o => runV_snoc r _ _ o
theorem runB_snoc (β : Int → Bool) : ∀ (l : List OpD) (all : List Bool) (o : OpD), runB β all (l ++ [o]) = runB β all l ++ [stepB β (runB β all l) o]
  | [], _, _ => rfl
  | x :: r, all, o => runB_snoc β r _ o
theorem runB_length (β : Int → Bool) : ∀ (l : List OpD) (all : List Bool), (runB β all l).length = all.length + l.length
  | [], _ => by simp [runB]
  | x :: r, all => by rw [runB, runB_length β r]; simp; omega
theorem good_new : Good (newS 1048576) 6 0 [] := ⟨newS_wf (by omega) (by omega), rfl, newS_sated _, newS_below _ _, by simp [newS], fun x hx => by simp at hx⟩

/-- Diagrams of few variables hang on these alone. -/
theorem ev_upto {S : Sto} {V : Int} (h : Wf S) (hb : Below' S V) (β γ : Int → Bool) (hg : ∀ v, 0 ≤ v → v < V → β v = γ v) : ∀ (k : Nat) (a : Int), a.toNat ≤ k → S.has a → ev S β a = ev S γ a := by
  intro k
  induction k with
  | zero => intro a hk ha; rw [ev_low _ (by omega), ev_low _ (by omega)]
  | succ k ih =>
    intro a hk ha
    by_cases h2 : a < 2
    · rw [ev_low _ h2, ev_low _ h2]
    · obtain ⟨i, n, rfl, hn⟩ := has_node ha h2
      have hc := h.child hn
      have hok := h.node i n hn
      have := hok.lo; have := hok.hi
      rw [ev_node h _ hn, ev_node h _ hn, hg n.1 hok.v0 (hb i n hn), ih _ (by omega) hc.1, ih _ (by omega) hc.2]

/-- The bits of a number, as truths of variables. -/
def bitsOf (n : Nat) : Int → Bool := fun v => decide (0 ≤ v) && (n >>> v.toNat) % 2 == 1
/-- Truths of the first V variables, as a number. -/
def numOf (β : Int → Bool) : Nat → Nat
  | 0 => 0
  | k + 1 => numOf β k + (if β k then 2 ^ k else 0)
theorem numOf_lt (β : Int → Bool) : ∀ k, numOf β k < 2 ^ k
  | 0 => by simp [numOf]
  | k + 1 => by have := numOf_lt β k; rw [numOf, Nat.pow_succ]; cases β k <;> simp <;> omega
theorem numOf_bit (β : Int → Bool) : ∀ (k j : Nat), j < k → (numOf β k).testBit j = β j
  | 0, j, h => by omega
  | k + 1, j, h => by
    have hl := numOf_lt β k
    rw [numOf]
    by_cases e : j = k
    · subst e
      cases hb : β j
      · simp [Nat.testBit_lt_two_pow hl]
      · simp only [if_true]
        rw [Nat.add_comm, Nat.testBit_two_pow_add_eq, Nat.testBit_lt_two_pow hl]; rfl
    · cases hb : β k
      · simp; exact numOf_bit β k j (by omega)
      · simp only [if_true]
        rw [Nat.add_comm, Nat.testBit_two_pow_add_gt (by omega)]; exact numOf_bit β k j (by omega)
theorem bitsOf_test (n : Nat) (v : Nat) : bitsOf n v = n.testBit v := by
  unfold bitsOf
  simp [Nat.testBit, Nat.shiftRight_eq_div_pow]

/-- Two diagrams of V variables are the same just if they are so under each number's bits. -/
theorem same_upto {S : Sto} {V : Nat} (h : Wf S) (hb : Below' S V) {a b : Int} (ha : S.has a) (hbb : S.has b) :
    (∀ n, n < 2 ^ V → ev S (bitsOf n) a = ev S (bitsOf n) b) ↔ a = b := by
  constructor
  · intro he
    refine (ev_eq h ha hbb).1 (fun β => ?_)
    have hg : ∀ v : Int, 0 ≤ v → v < V → β v = bitsOf (numOf β V) v := fun v h0 h1 => by
      obtain ⟨k, rfl⟩ : ∃ k : Nat, v = k := ⟨v.toNat, by omega⟩
      rw [bitsOf_test, numOf_bit β V k (by omega)]
    rw [ev_upto h hb β _ hg _ a (Nat.le_refl _) ha, ev_upto h hb β _ hg _ b (Nat.le_refl _) hbb]
    exact he _ (numOf_lt β V)
  · rintro rfl _ _; rfl
end Go.Proofs.Ytboekafmplomhaa
