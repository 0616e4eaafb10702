/-
  Frozen, in plain Lean: what an order's walk holds, and that of two sources that are alike the walks are the same.
-/
import Derived.Test.YtboekafmplomhaaZFzO2
set_option linter.unusedVariables false
set_option linter.unusedSimpArgs false
namespace Go.Proofs.Ytboekafmplomhaa

def numK (K : List (Int × Int)) (a : Int) : Int := (aget K a).getD 0
def Kn (at_ : Int → Nd × Bool) (K : List (Int × Int)) (a : Int) : Prop := (aget K a).isSome = true ∨ (at_ a).2 = false
structure OrdInv (at_ : Int → Nd × Bool) (ok : Int → Prop) (K : List (Int × Int)) (ns : List Nd) : Prop where
  one : aget K 1 = some 1
  num : ∀ a k, aget K a = some k → (a = 1 ∧ k = 1) ∨ (a ≠ 1 ∧ ok a ∧ (at_ a).2 = true ∧ 2 ≤ k ∧ k < ns.length + 2 ∧ ns[(k - 2).toNat]? = some ((at_ a).1.1, numK K (at_ a).1.2.1, numK K (at_ a).1.2.2) ∧ Kn at_ K (at_ a).1.2.1 ∧ Kn at_ K (at_ a).1.2.2 ∧ numK K (at_ a).1.2.1 < k ∧ numK K (at_ a).1.2.2 < k)
  inj : ∀ a b k, aget K a = some k → aget K b = some k → a = b
  all : ∀ i : Nat, i < ns.length → ∃ a, aget K a = some ((i : Int) + 2)
theorem numK_le {at_ : Int → Nd × Bool} {ok : Int → Prop} {K : List (Int × Int)} {ns : List Nd} (h : OrdInv at_ ok K ns) (a : Int) : 0 ≤ numK K a ∧ numK K a < ns.length + 2 := by
  unfold numK
  cases e : aget K a with
  | none => simp; omega
  | some k =>
    simp only [Option.getD_some]
    rcases h.num a k e with ⟨_, rfl⟩ | h
    · omega
    · omega
theorem OrdInv.start (at_ : Int → Nd × Bool) (ok : Int → Prop) : OrdInv at_ ok [(1, 1)] [] where
  one := rfl
  num a k h := by
    by_cases e : a = 1
    · subst e
      have : (1 : Int) = k := by simpa [aget] using h
      exact .inl ⟨rfl, this.symm⟩
    · exfalso
      have : ¬ (1 : Int) = a := fun q => e q.symm
      simp [aget, this] at h
  inj a b k h1 h2 := by
    have key : ∀ x, aget [((1 : Int), (1 : Int))] x = some k → x = 1 := fun x hx => by
      by_cases e : x = 1
      · exact e
      · exfalso
        have : ¬ (1 : Int) = x := fun q => e q.symm
        simp [aget, this] at hx
    rw [key a h1, key b h2]
  all i hi := by simp at hi
/-- One more node. -/
theorem OrdInv.more {at_ : Int → Nd × Bool} {ok : Int → Prop} {K : List (Int × Int)} {ns : List Nd} (h : OrdInv at_ ok K ns) {a : Int} (hok : ok a) (ha : (at_ a).2 = true) (hn : aget K a = none)
    (h1 : Kn at_ K (at_ a).1.2.1) (h2 : Kn at_ K (at_ a).1.2.2) : OrdInv at_ ok (aput K a ((ns.length + 2 : Nat) : Int)) (ns ++ [((at_ a).1.1, numK K (at_ a).1.2.1, numK K (at_ a).1.2.2)]) := by
  have hold : ∀ x k, aget K x = some k → aget (aput K a ((ns.length + 2 : Nat) : Int)) x = some k := fun x k hx => by
    rw [aget_aput, if_neg]
    · exact hx
    · intro e
      subst e
      rw [hn] at hx
      cases hx
  have hnum : ∀ x, Kn at_ K x → numK (aput K a ((ns.length + 2 : Nat) : Int)) x = numK K x := fun x hx => by
    unfold numK
    rw [aget_aput, if_neg]
    intro e
    subst e
    rcases hx with h | h
    · rw [hn] at h; cases h
    · rw [ha] at h; cases h
  have hkn : ∀ x, Kn at_ K x → Kn at_ (aput K a ((ns.length + 2 : Nat) : Int)) x := fun x hx => by
    rcases hx with h | h
    · refine .inl ?_
      rw [aget_aput]
      split
      · rfl
      · exact h
    · exact .inr h
  have ha1 : a ≠ 1 := fun e => by subst e; rw [h.one] at hn; cases hn
  have l1 := numK_le h (at_ a).1.2.1
  have l2 := numK_le h (at_ a).1.2.2
  refine ⟨hold _ _ h.one, fun x k hx => ?_, fun x y k hx hy => ?_, fun i hi => ?_⟩
  · rw [aget_aput] at hx
    by_cases e : a = x
    · subst e
      rw [if_pos rfl] at hx
      cases hx
      refine .inr ⟨ha1, hok, ha, by omega, by simp; omega, ?_, hkn _ h1, hkn _ h2, by rw [hnum _ h1]; omega, by rw [hnum _ h2]; omega⟩
      rw [hnum _ h1, hnum _ h2]
      have e3 : (((ns.length + 2 : Nat) : Int) - 2).toNat = ns.length := by omega
      rw [e3]
      simp
    · rw [if_neg e] at hx
      rcases h.num x k hx with h | ⟨q1, q2, q3, q4, q5, q6, q7, q8, q9, q10⟩
      · exact .inl h
      · refine .inr ⟨q1, q2, q3, q4, by simp; omega, ?_, hkn _ q7, hkn _ q8, by rw [hnum _ q7]; exact q9, by rw [hnum _ q8]; exact q10⟩
        rw [hnum _ q7, hnum _ q8, List.getElem?_append_left (by omega)]
        exact q6
  · rw [aget_aput] at hx hy
    have hlt : ∀ z k, aget K z = some k → k < ns.length + 2 := fun z k hz => by
      rcases h.num z k hz with ⟨_, rfl⟩ | h
      · omega
      · omega
    by_cases e : a = x
    · by_cases f : a = y
      · rw [← e, ← f]
      · rw [if_pos e] at hx
        rw [if_neg f] at hy
        cases hx
        have := hlt _ _ hy
        omega
    · by_cases f : a = y
      · rw [if_neg e] at hx
        rw [if_pos f] at hy
        cases hy
        have := hlt _ _ hx
        omega
      · rw [if_neg e] at hx
        rw [if_neg f] at hy
        exact h.inj x y k hx hy
  · simp only [List.length_append, List.length_cons, List.length_nil] at hi
    by_cases e : i = ns.length
    · subst e
      refine ⟨a, ?_⟩
      rw [aget_aput, if_pos rfl]
      rfl
    · obtain ⟨x, hx⟩ := h.all i (by omega)
      exact ⟨x, hold x _ hx⟩

structure OrdGo (at_ : Int → Nd × Bool) (ok : Int → Prop) (rk : Int → Nat) (K : List (Int × Int)) (ns : List Nd) (a : Int) (r : List (Int × Int) × List Nd × Int) : Prop where
  inv : OrdInv at_ ok r.1 r.2.1
  ext : ∀ x k, aget K x = some k → aget r.1 x = some k
  pre : ns <+: r.2.1
  told : r.2.2 = numK r.1 a
  kn : Kn at_ r.1 a
  new : ∀ x k, aget r.1 x = some k → aget K x = some k ∨ rk x ≤ rk a
theorem Kn.ext {at_ : Int → Nd × Bool} {K K' : List (Int × Int)} {a : Int} (h : Kn at_ K a) (he : ∀ x k, aget K x = some k → aget K' x = some k) : Kn at_ K' a := by
  rcases h with h | h
  · obtain ⟨k, hk⟩ := Option.isSome_iff_exists.1 h
    exact .inl (by rw [he _ _ hk]; rfl)
  · exact .inr h
theorem numK_ext {at_ : Int → Nd × Bool} {ok : Int → Prop} {K K' : List (Int × Int)} {ns : List Nd} {a : Int} (hi : OrdInv at_ ok K' ns) (h0 : aget K 1 = some 1) (h : Kn at_ K a) (he : ∀ x k, aget K x = some k → aget K' x = some k) : numK K' a = numK K a := by
  unfold numK
  cases e : aget K a with
  | some k => rw [he _ _ e]
  | none =>
    rcases h with h | h
    · rw [e] at h; cases h
    · cases f : aget K' a with
      | none => rfl
      | some k =>
        rcases hi.num a k f with ⟨e1, _⟩ | ⟨_, _, q, _⟩
        · subst e1
          rw [h0] at e
          cases e
        · rw [h] at q; cases q
theorem ordN_inv {at_ : Int → Nd × Bool} {ok : Int → Prop} {rk : Int → Nat} (hlo : ∀ a, ok a → (at_ a).2 = true → rk (at_ a).1.2.1 < rk a ∧ ok (at_ a).1.2.1) (hhi : ∀ a, ok a → (at_ a).2 = true → rk (at_ a).1.2.2 < rk a ∧ ok (at_ a).1.2.2) :
    ∀ (n : Nat) (K : List (Int × Int)) (ns : List Nd) (a : Int), ok a → rk a < n → OrdInv at_ ok K ns → OrdGo at_ ok rk K ns a (ordN at_ n K ns a)
  | 0, _, _, _, _, h, _ => by omega
  | n + 1, K, ns, a, hok, hn, hI => by
    rw [ordN]
    by_cases hno : (aget K a).isSome = true ∨ (at_ a).2 = false
    · rw [if_pos hno]
      exact ⟨hI, fun x k h => h, List.prefix_refl _, rfl, hno, fun x k h => .inl h⟩
    · rw [if_neg hno]
      have hi : (at_ a).2 = true := by
        cases h : (at_ a).2 with
        | true => rfl
        | false => exact absurd (.inr h) hno
      have hnone : aget K a = none := by
        cases h : aget K a with
        | none => rfl
        | some k => exact absurd (.inl (by rw [h]; rfl)) hno
      obtain ⟨r1, o1⟩ := hlo a hok hi
      obtain ⟨r2, o2⟩ := hhi a hok hi
      have g1 := ordN_inv hlo hhi n K ns (at_ a).1.2.1 o1 (by omega) hI
      generalize ordN at_ n K ns (at_ a).1.2.1 = A at *
      have g2 := ordN_inv hlo hhi n A.1 A.2.1 (at_ a).1.2.2 o2 (by omega) g1.inv
      generalize ordN at_ n A.1 A.2.1 (at_ a).1.2.2 = B at *
      have hBn : aget B.1 a = none := by
        cases h : aget B.1 a with
        | none => rfl
        | some k =>
          exfalso
          rcases g2.new a k h with h | h
          · rcases g1.new a k h with h | h
            · rw [hnone] at h; cases h
            · omega
          · omega
      have k1 : Kn at_ B.1 (at_ a).1.2.1 := g1.kn.ext g2.ext
      have t1 : A.2.2 = numK B.1 (at_ a).1.2.1 := by rw [g1.told]; exact (numK_ext g2.inv g1.inv.one g1.kn g2.ext).symm
      have M := g2.inv.more hok hi hBn k1 g2.kn
      rw [t1, g2.told]
      refine ⟨M, fun x k h => ?_, (g1.pre.trans g2.pre).trans (List.prefix_append _ _), ?_, .inl ?_, fun x k h => ?_⟩
      · have := g2.ext x k (g1.ext x k h)
        show aget (aput B.1 a _) x = _
        rw [aget_aput, if_neg]
        · exact this
        · intro e
          subst e
          rw [hBn] at this
          cases this
      · show ((B.2.1.length + 2 : Nat) : Int) = numK (aput B.1 a ((B.2.1.length + 2 : Nat) : Int)) a
        unfold numK
        rw [aget_aput, if_pos rfl]
        rfl
      · show (aget (aput B.1 a ((B.2.1.length + 2 : Nat) : Int)) a).isSome = true
        rw [aget_aput, if_pos rfl]
        rfl
      · have h' : aget (aput B.1 a ((B.2.1.length + 2 : Nat) : Int)) x = some k := h
        rw [aget_aput] at h'
        by_cases e : a = x
        · subst e
          exact .inr (Nat.le_refl _)
        · rw [if_neg e] at h'
          rcases g2.new x k h' with h | h
          · rcases g1.new x k h with h | h
            · exact .inl h
            · exact .inr (by omega)
          · exact .inr (by omega)
/-- The map behind a whole order. -/
def ordK (at_ : Int → Nd × Bool) (N : Nat) : List (Int × Int) → List Nd → List Int → List (Int × Int)
  | K, _, [] => K
  | K, ns, a :: l => ordK at_ N (ordN at_ N K ns a).1 (ordN at_ N K ns a).2.1 l
theorem ordL_inv {at_ : Int → Nd × Bool} {ok : Int → Prop} {rk : Int → Nat} (hlo : ∀ a, ok a → (at_ a).2 = true → rk (at_ a).1.2.1 < rk a ∧ ok (at_ a).1.2.1) (hhi : ∀ a, ok a → (at_ a).2 = true → rk (at_ a).1.2.2 < rk a ∧ ok (at_ a).1.2.2) (N : Nat) :
    ∀ (l : List Int) (K : List (Int × Int)) (ns : List Nd) (rs : List Int), (∀ a ∈ l, ok a ∧ rk a < N) → OrdInv at_ ok K ns →
      OrdInv at_ ok (ordK at_ N K ns l) (ordL at_ N K ns rs l).1 ∧ (∀ x k, aget K x = some k → aget (ordK at_ N K ns l) x = some k) ∧ (∀ a ∈ l, Kn at_ (ordK at_ N K ns l) a) ∧ (ordL at_ N K ns rs l).2 = rs ++ l.map (numK (ordK at_ N K ns l))
  | [], K, ns, rs, _, hI => ⟨hI, fun _ _ h => h, by simp, by simp [ordL]⟩
  | a :: l, K, ns, rs, hl, hI => by
    obtain ⟨ho, hr⟩ := hl a (by simp)
    have g := ordN_inv hlo hhi N K ns a ho hr hI
    rw [ordL, ordK]
    generalize ordN at_ N K ns a = R at *
    obtain ⟨i1, i2, i3, i4⟩ := ordL_inv hlo hhi N l R.1 R.2.1 (rs ++ [R.2.2]) (fun x hx => hl x (by simp [hx])) g.inv
    refine ⟨i1, fun x k h => i2 x k (g.ext x k h), fun x hx => ?_, ?_⟩
    · rcases List.mem_cons.1 hx with rfl | hx
      · exact g.kn.ext i2
      · exact i3 x hx
    · rw [i4, List.map_cons, numK_ext i1 g.inv.one g.kn i2, g.told]
      simp

/-- Two sources that are alike. -/
structure Alike (at1 at2 : Int → Nd × Bool) (R : Int → Int → Prop) (rk1 rk2 : Int → Nat) : Prop where
  one : ∀ a b a' b', R a b → R a' b' → (a = a' ↔ b = b')
  tell : ∀ a b, R a b → (at1 a).2 = (at2 b).2
  var : ∀ a b, R a b → (at1 a).2 = true → (at1 a).1.1 = (at2 b).1.1
  lo : ∀ a b, R a b → (at1 a).2 = true → R (at1 a).1.2.1 (at2 b).1.2.1 ∧ rk1 (at1 a).1.2.1 < rk1 a ∧ rk2 (at2 b).1.2.1 < rk2 b
  hi : ∀ a b, R a b → (at1 a).2 = true → R (at1 a).1.2.2 (at2 b).1.2.2 ∧ rk1 (at1 a).1.2.2 < rk1 a ∧ rk2 (at2 b).1.2.2 < rk2 b
theorem ordN_alike {at1 at2 : Int → Nd × Bool} {R : Int → Int → Prop} {rk1 rk2 : Int → Nat} (h : Alike at1 at2 R rk1 rk2) : ∀ (n m : Nat) (K1 K2 : List (Int × Int)) (ns : List Nd) (a b : Int), R a b → rk1 a < n → rk2 b < m →
    (∀ x y, R x y → aget K1 x = aget K2 y) → (∀ x y, R x y → aget (ordN at1 n K1 ns a).1 x = aget (ordN at2 m K2 ns b).1 y) ∧ (ordN at1 n K1 ns a).2 = (ordN at2 m K2 ns b).2
  | 0, _, _, _, _, _, _, _, h, _, _ => by omega
  | _ + 1, 0, _, _, _, _, _, _, _, h, _ => by omega
  | n + 1, m + 1, K1, K2, ns, a, b, hR, h1, h2, hK => by
    rw [ordN, ordN]
    have e1 := hK a b hR
    have e2 := h.tell a b hR
    by_cases hno : (aget K1 a).isSome = true ∨ (at1 a).2 = false
    · rw [if_pos hno, if_pos (by rw [← e1, ← e2]; exact hno)]
      exact ⟨hK, by rw [e1]⟩
    · rw [if_neg hno, if_neg (by rw [← e1, ← e2]; exact hno)]
      have hi : (at1 a).2 = true := by
        cases h : (at1 a).2 with
        | true => rfl
        | false => exact absurd (.inr h) hno
      obtain ⟨p1, p2, p3⟩ := h.lo a b hR hi
      obtain ⟨q1, q2, q3⟩ := h.hi a b hR hi
      have hv := h.var a b hR hi
      obtain ⟨A1, A2⟩ := ordN_alike h n m K1 K2 ns _ _ p1 (by omega) (by omega) hK
      generalize ordN at1 n K1 ns (at1 a).1.2.1 = U at *
      generalize ordN at2 m K2 ns (at2 b).1.2.1 = V at *
      obtain ⟨U1, U2, U3⟩ := U
      obtain ⟨V1, V2, V3⟩ := V
      cases A2
      obtain ⟨B1, B2⟩ := ordN_alike h n m U1 V1 U2 _ _ q1 (by omega) (by omega) A1
      simp only at *
      generalize ordN at1 n U1 U2 (at1 a).1.2.2 = X at *
      generalize ordN at2 m V1 U2 (at2 b).1.2.2 = Y at *
      obtain ⟨X1, X2, X3⟩ := X
      obtain ⟨Y1, Y2, Y3⟩ := Y
      cases B2
      simp only at *
      refine ⟨fun x y hxy => ?_, by rw [hv]⟩
      rw [aget_aput, aget_aput]
      have := h.one a b x y hR hxy
      by_cases e : a = x
      · rw [if_pos e, if_pos (this.1 e)]
      · rw [if_neg e, if_neg (fun f => e (this.2 f))]
        exact B1 x y hxy
theorem ordL_alike {at1 at2 : Int → Nd × Bool} {R : Int → Int → Prop} {rk1 rk2 : Int → Nat} (h : Alike at1 at2 R rk1 rk2) (N M : Nat) : ∀ (z : List (Int × Int)) (K1 K2 : List (Int × Int)) (ns : List Nd) (rs : List Int), (∀ x ∈ z, R x.1 x.2 ∧ rk1 x.1 < N ∧ rk2 x.2 < M) →
    (∀ x y, R x y → aget K1 x = aget K2 y) → ordL at1 N K1 ns rs (z.map (·.1)) = ordL at2 M K2 ns rs (z.map (·.2))
  | [], K1, K2, ns, rs, _, hK => by rw [List.map_nil, List.map_nil, ordL, ordL]
  | x :: z, K1, K2, ns, rs, hz, hK => by
    rw [List.map_cons, List.map_cons, ordL, ordL]
    obtain ⟨r1, r2, r3⟩ := hz x (by simp)
    obtain ⟨A1, A2⟩ := ordN_alike h N M K1 K2 ns x.1 x.2 r1 r2 r3 hK
    rw [A2]
    generalize ordN at1 N K1 ns x.1 = U at *
    generalize ordN at2 M K2 ns x.2 = V at *
    exact ordL_alike h N M z U.1 V.1 V.2.1 _ (fun y hy => hz y (by simp [hy])) A1
end Go.Proofs.Ytboekafmplomhaa
