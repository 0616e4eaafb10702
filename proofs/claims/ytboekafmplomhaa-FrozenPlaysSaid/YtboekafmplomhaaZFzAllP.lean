/-
  Frozen bytes in plain Lean: what is read of bytes.
-/
import Derived.Test.YtboekafmplomhaaZFzP
import Derived.Test.YtboekafmplomhaaZFzO2
import Derived.Test.YtboekafmplomhaaZByt
import Derived.Test.YtboekafmplomhaaZTidy
set_option linter.unusedVariables false
set_option linter.unusedSimpArgs false
namespace Go.Proofs.Ytboekafmplomhaa

/-- A number of at most k bytes, from a shift on. -/
def numG (bel : Nat) : Nat → Nat → Nat → List Nat → Option (Nat × List Nat)
  | 0, _, _, _ => none
  | _ + 1, _, _, [] => none
  | k + 1, sh, n, x :: l => if x < 128 then (if bel ≤ n + x * 2 ^ sh ∨ (x = 0 ∧ 0 < sh) then none else some (n + x * 2 ^ sh, l)) else numG bel k (sh + 7) (n + (x - 128) * 2 ^ sh) l
def numV (bel : Nat) (l : List Nat) : Option (Nat × List Nat) := numG bel 4 0 0 l
def topR (ns : List Nd) (a : Nat) : Int := if a < 2 then 64 else ((ns[a - 2]?).getD (0, 0, 0)).1
def nodesG : Nat → List Nd → List Nat → Option (List Nd × List Nat)
  | 0, ns, l => some (ns, l)
  | _ + 1, _, [] => none
  | m + 1, ns, v :: l1 =>
    match numV (ns.length + 2) l1 with
    | none => none
    | some (lo, l2) =>
      match numV (ns.length + 2) l2 with
      | none => none
      | some (hi, l3) => if lo = hi ∨ min 64 (min (topR ns lo) (topR ns hi)) ≤ (v : Int) then none else nodesG m (ns ++ [((v : Int), (lo : Int), (hi : Int))]) l3
def rootsG (bel : Nat) : Nat → List Int → List Nat → Option (List Int × List Nat)
  | 0, rs, l => some (rs, l)
  | m + 1, rs, l =>
    match numV bel l with
    | none => none
    | some (a, l1) => rootsG bel m (rs ++ [(a : Int)]) l1
def parseV (l : List Nat) : Option (List Nd × List Int) :=
  match numV 8388608 l with
  | none => none
  | some (m, l1) =>
    match nodesG m [] l1 with
    | none => none
    | some (ns, l2) =>
      match numV 65 l2 with
      | none => none
      | some (k, l3) =>
        match rootsG (ns.length + 2) k [] l3 with
        | none => none
        | some (rs, l4) => if l4 = [] then some (ns, rs) else none

theorem numG_numB (bel : Nat) (rest : List Nat) : ∀ (k sh acc n : Nat), 1 ≤ k → n < 128 ^ k → (n = 0 → sh = 0) → acc + n * 2 ^ sh < bel → numG bel k sh acc (numB n ++ rest) = some (acc + n * 2 ^ sh, rest)
  | 0, _, _, _, h, _, _, _ => by omega
  | k + 1, sh, acc, n, _, hn, h0, hb => by
    by_cases h : 127 < n
    · have hk : 1 ≤ k := by
        rcases Nat.eq_zero_or_pos k with rfl | h
        · simp at hn; omega
        · exact h
      have hd : n / 128 < 128 ^ k := by rw [Nat.pow_succ] at hn; omega
      have e : n % 128 * 2 ^ sh + n / 128 * 2 ^ (sh + 7) = n * 2 ^ sh := by
        have h7 : (2 : Nat) ^ (sh + 7) = 128 * 2 ^ sh := by rw [Nat.pow_add]; omega
        rw [h7, ← Nat.mul_assoc, ← Nat.add_mul]
        congr 1
        omega
      rw [numB_big h, List.cons_append, numG, if_neg (by omega), Nat.add_sub_cancel]
      rw [numG_numB bel rest k (sh + 7) _ (n / 128) hk hd (by omega) (by omega)]
      congr 2
      omega
    · rw [numB_small h, List.singleton_append, numG, if_pos (by omega), if_neg (by intro q; rcases q with q | q <;> omega)]
theorem numV_numB {bel n : Nat} (rest : List Nat) (h : n < bel) (hb : n < 268435456) : numV bel (numB n ++ rest) = some (n, rest) := by
  unfold numV
  rw [numG_numB bel rest 4 0 0 n (by omega) (by omega) (fun _ => rfl) (by omega)]
  simp
theorem numG_len (bel : Nat) : ∀ (k sh n : Nat) (l : List Nat) (a : Nat) (r : List Nat), numG bel k sh n l = some (a, r) → r.length < l.length ∧ a < bel
  | 0, _, _, _, _, _, h => by simp [numG] at h
  | _ + 1, _, _, [], _, _, h => by simp [numG] at h
  | k + 1, sh, n, x :: l, a, r, h => by
    rw [numG] at h
    split at h
    · split at h
      · cases h
      · cases h
        simp only [List.length_cons]
        omega
    · have := numG_len bel k _ _ l a r h
      simp only [List.length_cons]
      omega
theorem numV_len {bel : Nat} {l : List Nat} {a : Nat} {r : List Nat} (h : numV bel l = some (a, r)) : r.length < l.length ∧ a < bel := numG_len bel 4 0 0 l a r h
end Go.Proofs.Ytboekafmplomhaa
set_option linter.unusedVariables false
set_option linter.unusedSimpArgs false
namespace Go.Proofs.Ytboekafmplomhaa

def numK (K : List (Int × Int)) (a : Int) : Int := (aget K a).getD 0
def Kn (at_ : Int → Nd × Bool) (K : List (Int × Int)) (a : Int) : Prop := (aget K a).isSome = true ∨ (at_ a).2 = false
structure OrdInv (at_ : Int → Nd × Bool) (ok : Int → Prop) (K : List (Int × Int)) (ns : List Nd) : Prop where
  one : aget K 1 = some 1
  num : ∀ a k, aget K a = some k → (a = 1 ∧ k = 1) ∨ (a ≠ 1 ∧ ok a ∧ (at_ a).2 = true ∧ 2 ≤ k ∧ k < ns.length + 2 ∧ ns[(k - 2).toNat]? = some ((at_ a).1.1, numK K (at_ a).1.2.1, numK K (at_ a).1.2.2) ∧ Kn at_ K (at_ a).1.2.1 ∧ Kn at_ K (at_ a).1.2.2 ∧ numK K (at_ a).1.2.1 < k ∧ numK K (at_ a).1.2.2 < k)
  inj : ∀ a b k, aget K a = some k → aget K b = some k → a = b
  all : ∀ i : Nat, i < ns.length → ∃ a, aget K a = some ((i : Int) + 2)
theorem numK_le {at_ : Int → Nd × Bool} {ok : Int → Prop} {K : List (Int × Int)} {ns : List Nd} (h : OrdInv at_ ok K ns) (a : Int) : 0 ≤ numK K a ∧ numK K a < ns.length + 2 := by
  unfold numK
  cases e : aget K a with
  | none => simp; omega
  | some k =>
    simp only [Option.getD_some]
    rcases h.num a k e with ⟨_, rfl⟩ | h
    · omega
    · omega
theorem OrdInv.start (at_ : Int → Nd × Bool) (ok : Int → Prop) : OrdInv at_ ok [(1, 1)] [] where
  one := rfl
  num a k h := by
    by_cases e : a = 1
    · subst e
      have : (1 : Int) = k := by simpa [aget] using h
      exact .inl ⟨rfl, this.symm⟩
    · exfalso
      have : ¬ (1 : Int) = a := fun q => e q.symm
      simp [aget, this] at h
  inj a b k h1 h2 := by
    have key : ∀ x, aget [((1 : Int), (1 : Int))] x = some k → x = 1 := fun x hx => by
      by_cases e : x = 1
      · exact e
      · exfalso
        have : ¬ (1 : Int) = x := fun q => e q.symm
        simp [aget, this] at hx
    rw [key a h1, key b h2]
  all i hi := by simp at hi
/-- One more node. -/
theorem OrdInv.more {at_ : Int → Nd × Bool} {ok : Int → Prop} {K : List (Int × Int)} {ns : List Nd} (h : OrdInv at_ ok K ns) {a : Int} (hok : ok a) (ha : (at_ a).2 = true) (hn : aget K a = none)
    (h1 : Kn at_ K (at_ a).1.2.1) (h2 : Kn at_ K (at_ a).1.2.2) : OrdInv at_ ok (aput K a ((ns.length + 2 : Nat) : Int)) (ns ++ [((at_ a).1.1, numK K (at_ a).1.2.1, numK K (at_ a).1.2.2)]) := by
  have hold : ∀ x k, aget K x = some k → aget (aput K a ((ns.length + 2 : Nat) : Int)) x = some k := fun x k hx => by
    rw [aget_aput, if_neg]
    · exact hx
    · intro e
      subst e
      rw [hn] at hx
      cases hx
  have hnum : ∀ x, Kn at_ K x → numK (aput K a ((ns.length + 2 : Nat) : Int)) x = numK K x := fun x hx => by
    unfold numK
    rw [aget_aput, if_neg]
    intro e
    subst e
    rcases hx with h | h
    · rw [hn] at h; cases h
    · rw [ha] at h; cases h
  have hkn : ∀ x, Kn at_ K x → Kn at_ (aput K a ((ns.length + 2 : Nat) : Int)) x := fun x hx => by
    rcases hx with h | h
    · refine .inl ?_
      rw [aget_aput]
      split
      · rfl
      · exact h
    · exact .inr h
  have ha1 : a ≠ 1 := fun e => by subst e; rw [h.one] at hn; cases hn
  have l1 := numK_le h (at_ a).1.2.1
  have l2 := numK_le h (at_ a).1.2.2
  refine ⟨hold _ _ h.one, fun x k hx => ?_, fun x y k hx hy => ?_, fun i hi => ?_⟩
  · rw [aget_aput] at hx
    by_cases e : a = x
    · subst e
      rw [if_pos rfl] at hx
      cases hx
      refine .inr ⟨ha1, hok, ha, by omega, by simp; omega, ?_, hkn _ h1, hkn _ h2, by rw [hnum _ h1]; omega, by rw [hnum _ h2]; omega⟩
      rw [hnum _ h1, hnum _ h2]
      have e3 : (((ns.length + 2 : Nat) : Int) - 2).toNat = ns.length := by omega
      rw [e3]
      simp
    · rw [if_neg e] at hx
      rcases h.num x k hx with h | ⟨q1, q2, q3, q4, q5, q6, q7, q8, q9, q10⟩
      · exact .inl h
      · refine .inr ⟨q1, q2, q3, q4, by simp; omega, ?_, hkn _ q7, hkn _ q8, by rw [hnum _ q7]; exact q9, by rw [hnum _ q8]; exact q10⟩
        rw [hnum _ q7, hnum _ q8, List.getElem?_append_left (by omega)]
        exact q6
  · rw [aget_aput] at hx hy
    have hlt : ∀ z k, aget K z = some k → k < ns.length + 2 := fun z k hz => by
      rcases h.num z k hz with ⟨_, rfl⟩ | h
      · omega
      · omega
    by_cases e : a = x
    · by_cases f : a = y
      · rw [← e, ← f]
      · rw [if_pos e] at hx
        rw [if_neg f] at hy
        cases hx
        have := hlt _ _ hy
        omega
    · by_cases f : a = y
      · rw [if_neg e] at hx
        rw [if_pos f] at hy
        cases hy
        have := hlt _ _ hx
        omega
      · rw [if_neg e] at hx
        rw [if_neg f] at hy
        exact h.inj x y k hx hy
  · simp only [List.length_append, List.length_cons, List.length_nil] at hi
    by_cases e : i = ns.length
    · subst e
      refine ⟨a, ?_⟩
      rw [aget_aput, if_pos rfl]
      rfl
    · obtain ⟨x, hx⟩ := h.all i (by omega)
      exact ⟨x, hold x _ hx⟩

structure OrdGo (at_ : Int → Nd × Bool) (ok : Int → Prop) (rk : Int → Nat) (K : List (Int × Int)) (ns : List Nd) (a : Int) (r : List (Int × Int) × List Nd × Int) : Prop where
  inv : OrdInv at_ ok r.1 r.2.1
  ext : ∀ x k, aget K x = some k → aget r.1 x = some k
  pre : ns <+: r.2.1
  told : r.2.2 = numK r.1 a
  kn : Kn at_ r.1 a
  new : ∀ x k, aget r.1 x = some k → aget K x = some k ∨ rk x ≤ rk a
theorem Kn.ext {at_ : Int → Nd × Bool} {K K' : List (Int × Int)} {a : Int} (h : Kn at_ K a) (he : ∀ x k, aget K x = some k → aget K' x = some k) : Kn at_ K' a := by
  rcases h with h | h
  · obtain ⟨k, hk⟩ := Option.isSome_iff_exists.1 h
    exact .inl (by rw [he _ _ hk]; rfl)
  · exact .inr h
theorem numK_ext {at_ : Int → Nd × Bool} {ok : Int → Prop} {K K' : List (Int × Int)} {ns : List Nd} {a : Int} (hi : OrdInv at_ ok K' ns) (h0 : aget K 1 = some 1) (h : Kn at_ K a) (he : ∀ x k, aget K x = some k → aget K' x = some k) : numK K' a = numK K a := by
  unfold numK
  cases e : aget K a with
  | some k => rw [he _ _ e]
  | none =>
    rcases h with h | h
    · rw [e] at h; cases h
    · cases f : aget K' a with
      | none => rfl
      | some k =>
        rcases hi.num a k f with ⟨e1, _⟩ | ⟨_, _, q, _⟩
        · subst e1
          rw [h0] at e
          cases e
        · rw [h] at q; cases q
theorem ordN_inv {at_ : Int → Nd × Bool} {ok : Int → Prop} {rk : Int → Nat} (hlo : ∀ a, ok a → (at_ a).2 = true → rk (at_ a).1.2.1 < rk a ∧ ok (at_ a).1.2.1) (hhi : ∀ a, ok a → (at_ a).2 = true → rk (at_ a).1.2.2 < rk a ∧ ok (at_ a).1.2.2) :
    ∀ (n : Nat) (K : List (Int × Int)) (ns : List Nd) (a : Int), ok a → rk a < n → OrdInv at_ ok K ns → OrdGo at_ ok rk K ns a (ordN at_ n K ns a)
  | 0, _, _, _, _, h, _ => by omega
  | n + 1, K, ns, a, hok, hn, hI => by
    rw [ordN]
    by_cases hno : (aget K a).isSome = true ∨ (at_ a).2 = false
    · rw [if_pos hno]
      exact ⟨hI, fun x k h => h, List.prefix_refl _, rfl, hno, fun x k h => .inl h⟩
    · rw [if_neg hno]
      have hi : (at_ a).2 = true := by
        cases h : (at_ a).2 with
        | true => rfl
        | false => exact absurd (.inr h) hno
      have hnone : aget K a = none := by
        cases h : aget K a with
        | none => rfl
        | some k => exact absurd (.inl (by rw [h]; rfl)) hno
      obtain ⟨r1, o1⟩ := hlo a hok hi
      obtain ⟨r2, o2⟩ := hhi a hok hi
      have g1 := ordN_inv hlo hhi n K ns (at_ a).1.2.1 o1 (by omega) hI
      generalize ordN at_ n K ns (at_ a).1.2.1 = A at *
      have g2 := ordN_inv hlo hhi n A.1 A.2.1 (at_ a).1.2.2 o2 (by omega) g1.inv
      generalize ordN at_ n A.1 A.2.1 (at_ a).1.2.2 = B at *
      have hBn : aget B.1 a = none := by
        cases h : aget B.1 a with
        | none => rfl
        | some k =>
          exfalso
          rcases g2.new a k h with h | h
          · rcases g1.new a k h with h | h
            · rw [hnone] at h; cases h
            · omega
          · omega
      have k1 : Kn at_ B.1 (at_ a).1.2.1 := g1.kn.ext g2.ext
      have t1 : A.2.2 = numK B.1 (at_ a).1.2.1 := by rw [g1.told]; exact (numK_ext g2.inv g1.inv.one g1.kn g2.ext).symm
      have M := g2.inv.more hok hi hBn k1 g2.kn
      rw [t1, g2.told]
      refine ⟨M, fun x k h => ?_, (g1.pre.trans g2.pre).trans (List.prefix_append _ _), ?_, .inl ?_, fun x k h => ?_⟩
      · have := g2.ext x k (g1.ext x k h)
        show aget (aput B.1 a _) x = _
        rw [aget_aput, if_neg]
        · exact this
        · intro e
          subst e
          rw [hBn] at this
          cases this
      · show ((B.2.1.length + 2 : Nat) : Int) = numK (aput B.1 a ((B.2.1.length + 2 : Nat) : Int)) a
        unfold numK
        rw [aget_aput, if_pos rfl]
        rfl
      · show (aget (aput B.1 a ((B.2.1.length + 2 : Nat) : Int)) a).isSome = true
        rw [aget_aput, if_pos rfl]
        rfl
      · have h' : aget (aput B.1 a ((B.2.1.length + 2 : Nat) : Int)) x = some k := h
        rw [aget_aput] at h'
        by_cases e : a = x
        · subst e
          exact .inr (Nat.le_refl _)
        · rw [if_neg e] at h'
          rcases g2.new x k h' with h | h
          · rcases g1.new x k h with h | h
            · exact .inl h
            · exact .inr (by omega)
          · exact .inr (by omega)
/-- The map behind a whole order. -/
def ordK (at_ : Int → Nd × Bool) (N : Nat) : List (Int × Int) → List Nd → List Int → List (Int × Int)
  | K, _, [] => K
  | K, ns, a :: l => ordK at_ N (ordN at_ N K ns a).1 (ordN at_ N K ns a).2.1 l
theorem ordL_inv {at_ : Int → Nd × Bool} {ok : Int → Prop} {rk : Int → Nat} (hlo : ∀ a, ok a → (at_ a).2 = true → rk (at_ a).1.2.1 < rk a ∧ ok (at_ a).1.2.1) (hhi : ∀ a, ok a → (at_ a).2 = true → rk (at_ a).1.2.2 < rk a ∧ ok (at_ a).1.2.2) (N : Nat) :
    ∀ (l : List Int) (K : List (Int × Int)) (ns : List Nd) (rs : List Int), (∀ a ∈ l, ok a ∧ rk a < N) → OrdInv at_ ok K ns →
      OrdInv at_ ok (ordK at_ N K ns l) (ordL at_ N K ns rs l).1 ∧ (∀ x k, aget K x = some k → aget (ordK at_ N K ns l) x = some k) ∧ (∀ a ∈ l, Kn at_ (ordK at_ N K ns l) a) ∧ (ordL at_ N K ns rs l).2 = rs ++ l.map (numK (ordK at_ N K ns l))
  | [], K, ns, rs, _, hI => ⟨hI, fun _ _ h => h, by simp, by simp [ordL]⟩
  | a :: l, K, ns, rs, hl, hI => by
    obtain ⟨ho, hr⟩ := hl a (by simp)
    have g := ordN_inv hlo hhi N K ns a ho hr hI
    rw [ordL, ordK]
    generalize ordN at_ N K ns a = R at *
    obtain ⟨i1, i2, i3, i4⟩ := ordL_inv hlo hhi N l R.1 R.2.1 (rs ++ [R.2.2]) (fun x hx => hl x (by simp [hx])) g.inv
    refine ⟨i1, fun x k h => i2 x k (g.ext x k h), fun x hx => ?_, ?_⟩
    · rcases List.mem_cons.1 hx with rfl | hx
      · exact g.kn.ext i2
      · exact i3 x hx
    · rw [i4, List.map_cons, numK_ext i1 g.inv.one g.kn i2, g.told]
      simp

/-- Two sources that are alike. -/
structure Alike (at1 at2 : Int → Nd × Bool) (R : Int → Int → Prop) (rk1 rk2 : Int → Nat) : Prop where
  one : ∀ a b a' b', R a b → R a' b' → (a = a' ↔ b = b')
  tell : ∀ a b, R a b → (at1 a).2 = (at2 b).2
  var : ∀ a b, R a b → (at1 a).2 = true → (at1 a).1.1 = (at2 b).1.1
  lo : ∀ a b, R a b → (at1 a).2 = true → R (at1 a).1.2.1 (at2 b).1.2.1 ∧ rk1 (at1 a).1.2.1 < rk1 a ∧ rk2 (at2 b).1.2.1 < rk2 b
  hi : ∀ a b, R a b → (at1 a).2 = true → R (at1 a).1.2.2 (at2 b).1.2.2 ∧ rk1 (at1 a).1.2.2 < rk1 a ∧ rk2 (at2 b).1.2.2 < rk2 b
end Go.Proofs.Ytboekafmplomhaa
set_option linter.unusedVariables false
set_option linter.unusedSimpArgs false
namespace Go.Proofs.Ytboekafmplomhaa
open Go.RowKit

theorem bits_xor_u32 (a b : Nat) (ha : a < 4294967296) (hb : b < 4294967296) : bits BinOp.xor .u32 (a : Int) (b : Int) = ((a ^^^ b : Nat) : Int) := by
  have ha' : a % 2 ^ 32 = a := Nat.mod_eq_of_lt ha
  have hb' : b % 2 ^ 32 = b := Nat.mod_eq_of_lt hb
  have hx : a ^^^ b < 2 ^ 32 := Nat.xor_lt_two_pow ha hb
  simp only [bits, BitVec.ofInt_natCast, BitVec.toNat_xor, BitVec.toNat_ofNat, show IntKind.u32.bits = 32 from rfl, ha', hb']
  exact IntWalk.u32_in _ (by omega)
theorem sum_any {w : World} {sv : Value} {l : List Nat} (h : Rd w 1 sv (byts l)) (hl : ∀ y ∈ l, y < 256) :
    Calls Try.prog 75 #[sv] w (fun e w' => e = .returned (.int .u32 (sumV l : Nat)) ∧ w' = w) := by
  obtain ⟨la, lc, rfl, hlc, hlm⟩ := h.lenB
  have H := hid h
  have HL := hid hl
  clear h hl
  unfold sumV
  obtain ⟨h0, hh0⟩ : ∃ h0 : Nat, h0 = 2166136261 := ⟨_, rfl⟩
  have hc0 : (2166136261 : Int) = ((h0 : Nat) : Int) := by omega
  have hl0 : h0 < 4294967296 := by omega
  rw [← hh0]
  have HC0 := hid hc0
  clear hh0 hc0
  go_enter Try.func75, Try.ntmps75
  go_wp2_with fail
  go_loopw [3, 8] (fun hv iv wr => ∃ j : Nat, j ≤ l.length ∧ iv = .int .i64 j ∧ hv = .int .u32 ((l.take j).foldl sumS h0 : Nat) ∧ wr = w) (fun _ iv _ => l.length - (intOf iv).toNat)
  case atStart => exact ⟨0, by omega, rfl, by rw [HC0.out]; rfl, rfl⟩
  case round =>
    obtain ⟨j, hj, rfl, rfl, rfl⟩ := hrel
    by_cases hlt : j < l.length
    · have hj1 : (j : Int) < (l.length : Int) := by omega
      obtain ⟨b, off, rfl, hb1, c⟩ := Rd.byteAt H.out hlt
      have hx := HL.out l[j] (List.getElem_mem _)
      have htk : (l.take (j + 1)).foldl sumS h0 = sumS ((l.take j).foldl sumS h0) l[j] := by
        rw [List.take_add_one, List.getElem?_eq_getElem hlt, List.foldl_append]
        simp only [Option.toList_some, List.foldl_cons, List.foldl_nil]
      have hhl := foldl_lt (l.take j) h0 hl0
      have HTK := hid htk
      clear htk
      generalize (l.take j).foldl sumS h0 = s at *
      generalize l[j] = x at *
      have wx : IntKind.u32.wrap (x : Int) = (x : Int) := IntWalk.u32_in _ (by omega)
      have bx := bits_xor_u32 s x hhl (by omega)
      have ee : ((s ^^^ x : Nat) : Int) * 16777619 % 4294967296 = ((sumS s x : Nat) : Int) := by rw [sumS_eq]; unfold sumC; omega
      have EE := hid ee
      clear ee
      go_wp2_with fail
      go_roundw
      case rel => exact ⟨j + 1, by omega, by go_num, by rw [HTK.out, ← EE.out], by first | rfl | trivial⟩
      case measure => simp [intOf]; omega
    · obtain rfl : j = l.length := by omega
      rw [List.take_length]
      go_wp2_with fail
      go_returns
      exact ⟨rfl, by first | rfl | trivial⟩

theorem or128 : ∀ x : Fin 256, bits BinOp.or .u8 ((x.val : Nat) : Int) 128 = ((x.val % 128 + 128 : Nat) : Int) := by decide +kernel
/-- What append tells of some bytes that lie in the next block. -/
noncomputable def appB (sv : Value) (m : List Nat) (w : World) : Value × World :=
  match (Builtin.append_ #[100, 100] 100 #[sv, .slice (some ⟨w.heap.size, 0, none⟩) m.length m.length]).run Try.prog (w.alloc (.cells (byts m).toArray 5)) with
  | .ok v w1 => (v, w1)
  | _ => (undef, w)
theorem appB_of {sv : Value} {m : List Nat} {w : World} {v : Value} {w1 : World} (h : (Builtin.append_ #[100, 100] 100 #[sv, .slice (some ⟨w.heap.size, 0, none⟩) m.length m.length]).run Try.prog (w.alloc (.cells (byts m).toArray 5)) = .ok v w1) : appB sv m w = (v, w1) := by
  unfold appB; rw [h]
theorem GrowB.app {B : Nat} {w : World} {sv : Value} {l : List Nat} (h : GrowB B w sv l) (hB : B ≤ w.heap.size) (hk : l.length ≤ 100000000) (m : List Nat) (hm : 0 < m.length) (hm2 : m.length ≤ 1000) :
    (Builtin.append_ #[100, 100] 100 #[sv, .slice (some ⟨w.heap.size, 0, none⟩) m.length m.length]).run Try.prog (w.alloc (.cells (byts m).toArray 5)) = .ok (appB sv m w).1 (appB sv m w).2 ∧
      OwnB B (appB sv m w).2 (appB sv m w).1 (l ++ m) ∧ Below B w (appB sv m w).2 ∧ GrewS w sv (appB sv m w).2 (appB sv m w).1 := by
  obtain ⟨v', w1, q1, q2, q3⟩ := h.grow hB hk m hm hm2
  rw [appB_of q1]
  exact ⟨q1, q2, q3⟩
/-- What number tells. -/
noncomputable def numX (n : Nat) (sv : Value) (w : World) : Value × World := if 127 < n then numX (n / 128) (appB sv [n % 128 + 128] w).1 (appB sv [n % 128 + 128] w).2 else appB sv [n] w
termination_by n
decreasing_by omega
theorem numX_small {n : Nat} (h : ¬ 127 < n) (sv : Value) (w : World) : numX n sv w = appB sv [n] w := by rw [numX, if_neg h]
theorem numX_big {n : Nat} (h : 127 < n) (sv : Value) (w : World) : numX n sv w = numX (n / 128) (appB sv [n % 128 + 128] w).1 (appB sv [n % 128 + 128] w).2 := by rw [numX, if_pos h]
theorem numX_own (n : Nat) : ∀ {B : Nat} {w : World} {sv : Value} {l : List Nat}, GrowB B w sv l → B ≤ w.heap.size → l.length + (numB n).length ≤ 100000000 → OwnB B (numX n sv w).2 (numX n sv w).1 (l ++ numB n) ∧ Below B w (numX n sv w).2 ∧ GrewS w sv (numX n sv w).2 (numX n sv w).1 := by
  induction n using Nat.strongRecOn with
  | ind n ih =>
    intro B w sv l h hB hk
    by_cases hb : 127 < n
    · rw [numX_big hb, numB_big hb]
      rw [numB_big hb, List.length_cons] at hk
      obtain ⟨_, q2, q3, q4⟩ := h.app hB (by omega) [n % 128 + 128] (by simp) (by simp)
      obtain ⟨r1, r2, r3⟩ := ih (n / 128) (by omega) (.inl q2) (Nat.le_trans hB q3.size) (by simp; omega)
      rw [List.append_assoc, List.singleton_append] at r1
      exact ⟨r1, q3.trans r2, q4.trans r3⟩
    · rw [numX_small hb, numB_small hb]
      rw [numB_small hb] at hk
      obtain ⟨_, q2, q3, q4⟩ := h.app hB (by simp at hk; omega) [n] (by simp) (by simp)
      exact ⟨q2, q3, q4⟩
set_option maxHeartbeats 4000000 in
theorem number_any {B : Nat} {w : World} {sv : Value} {l : List Nat} (h : GrowB B w sv l) (hB : B ≤ w.heap.size) (hlen : l.length ≤ 50000000) (n : Nat) (hn : n ≤ 9223372036854775807) :
    Calls Try.prog 143 #[sv, .int .i64 (n : Int)] w (fun e w' => e = .returned (numX n sv w).1 ∧ w' = (numX n sv w).2) := by
  have hnl : (numB n).length ≤ 9 := numB_len 9 n (by omega) (by omega)
  have H := hid h
  clear h
  go_enter Try.func143, Try.ntmps143
  go_wp2_with fail
  go_loopw [0, 1] (fun bv nv wr => ∃ (pre : List Nat) (m : Nat), nv = .int .i64 m ∧ m ≤ 9223372036854775807 ∧ GrowB B wr bv pre ∧ Below B w wr ∧ pre ++ numB m = l ++ numB n ∧ numX m bv wr = numX n sv w) (fun _ nv _ => (intOf nv).toNat)
  case atStart => exact ⟨l, n, rfl, hn, H.out, Below.refl _ _, rfl, rfl⟩
  case round =>
    obtain ⟨pre, m, rfl, hm, hO, hb, he, hx⟩ := hrel
    have hpl : pre.length ≤ l.length + 9 := by
      have := congrArg List.length he
      simp only [List.length_append] at this
      have := numB_pos m
      omega
    have HE := hid he
    have HX := hid hx
    clear hx
    have hBw : B ≤ wr.heap.size := Nat.le_trans hB hb.size
    have HO := hid hO
    have HB := hid hb
    obtain ⟨sa, sc, rfl⟩ := hO.form
    clear he hO hb
    by_cases hbig : 127 < m
    · have hb1 : (127 : Int) < (m : Int) := by omega
      obtain ⟨r, hr⟩ : ∃ r : Nat, r = m % 256 := ⟨_, rfl⟩
      obtain ⟨q, hq⟩ : ∃ q : Nat, q = m % 128 + 128 := ⟨_, rfl⟩
      obtain ⟨k, hk⟩ : ∃ k : Nat, k = m / 128 := ⟨_, rfl⟩
      obtain ⟨q1, q2, q3, -⟩ := HO.out.app hBw (by omega) [q] (by simp) (by simp)
      have w8 : IntKind.u8.wrap (m : Int) = (r : Int) := by rw [IntKind.wrap_u8]; omega
      have o8 : bits BinOp.or .u8 (r : Int) 128 = (q : Int) := by
        rw [or128 ⟨r, by omega⟩]
        have e : r % 128 + 128 = q := by omega
        show ((r % 128 + 128 : Nat) : Int) = (q : Int)
        rw [e]
      have s7 : (m : Int) / 128 = (k : Int) := by omega
      have HN : numB m = q :: numB k := by rw [numB_big hbig, ← hq, ← hk]
      have hxx := HX.out
      rw [numX_big hbig, ← hq, ← hk] at hxx
      have HM := hid (And.intro hm (And.intro hk (And.intro HN hbig)))
      generalize (appB (.slice sa pre.length sc) _ wr) = A at *
      obtain ⟨v', w1⟩ := A
      simp only at q1 q2 q3 hxx
      have HXX := hid hxx
      clear hxx
      have Q1 := hid q1
      have Q2 := hid (And.intro q2 q3)
      clear q1 q2 q3 hr hq hk hm HN hbig hpl hn hnl
      go_upto_region 3 with (fail)
      refine wp_region_doc (fun F' hF => ?_)
      have HF := hid hF
      clear hF
      iterate 5 (refine doc_val rfl (by first | (go_simp; done) | (go_simp; exact ⟨rfl, rfl⟩) | (go_simp; with_reducible rfl)) ?_; simp only [Act.put, List.setIfInBounds_toArray, List.set_cons_zero, List.set_cons_succ])
      refine doc_val rfl (run_append_op _ _ _ _ _ _ _ _ _ Q1.out) ?_
      simp only [Act.put, List.setIfInBounds_toArray, List.set_cons_zero, List.set_cons_succ]
      refine doc_val rfl (by first | (go_simp; done) | (go_simp; exact ⟨rfl, rfl⟩) | (go_simp; with_reducible rfl)) ?_
      simp only [Act.put, List.setIfInBounds_toArray, List.set_cons_zero, List.set_cons_succ]
      refine doc_end (HF.out _ _ ?_)
      clear HF F' Q1
      go_wp2_with fail
      go_roundw
      case rel =>
        refine ⟨pre ++ [q], k, by go_num, by have := HM.out.2.1; have := HM.out.1; omega, .inl Q2.out.1, HB.out.trans (Q2.out.2.mono (Nat.le_refl _)), ?_, HXX.out⟩
        rw [List.append_assoc, List.singleton_append, ← HM.out.2.2.1]
        exact HE.out
      case measure => have := HM.out; simp [intOf]; omega
    · have hb1 : ¬ (127 : Int) < (m : Int) := by omega
      obtain ⟨q1, q2, q3, -⟩ := HO.out.app hBw (by omega) [m] (by simp) (by simp)
      have w8 : IntKind.u8.wrap (m : Int) = (m : Int) := by rw [IntKind.wrap_u8]; omega
      have HN : numB m = [m] := numB_small hbig
      have hxx := HX.out
      rw [numX_small hbig] at hxx
      have HM := hid HN
      generalize (appB (.slice sa pre.length sc) _ wr) = A at *
      obtain ⟨v', w1⟩ := A
      simp only at q1 q2 q3 hxx
      have HXX := hid hxx
      clear hxx
      have Q1 := hid q1
      have Q2 := hid (And.intro q2 q3)
      clear q1 q2 q3 hm HN hbig hpl hn hnl
      go_upto_region 4 with (fail)
      refine wp_region_doc (fun F' hF => ?_)
      have HF := hid hF
      clear hF
      iterate 4 (refine doc_val rfl (by first | (go_simp; done) | (go_simp; exact ⟨rfl, rfl⟩) | (go_simp; with_reducible rfl)) ?_; simp only [Act.put, List.setIfInBounds_toArray, List.set_cons_zero, List.set_cons_succ])
      refine doc_val rfl (run_append_op _ _ _ _ _ _ _ _ _ Q1.out) ?_
      simp only [Act.put, List.setIfInBounds_toArray, List.set_cons_zero, List.set_cons_succ]
      refine doc_val rfl (by first | (go_simp; done) | (go_simp; exact ⟨rfl, rfl⟩) | (go_simp; with_reducible rfl)) ?_
      simp only [Act.put, List.setIfInBounds_toArray, List.set_cons_zero, List.set_cons_succ]
      refine doc_end (HF.out _ _ ?_)
      clear HF F' Q1
      go_wp2_with fail
      go_returns
      rw [← HXX.out]
      exact ⟨rfl, rfl⟩

set_option maxHeartbeats 4000000 in
theorem sealed_gen {w : World} {sv : Value} {l : List Nat} (h : Rd w 1 sv (byts l)) (hl : ∀ y ∈ l, y < 256) {v' : Value} {w1 : World}
    (hap : (Builtin.append_ #[100, 100] 100 #[sv, .slice (some ⟨w.heap.size, 0, none⟩) 4 4]).run Try.prog (w.alloc (.cells (byts (sum4 (sumV l))).toArray 5)) = .ok v' w1) :
    Calls Try.prog 144 #[sv] w (fun e w' => e = .returned v' ∧ w' = w1) := by
  have S := hid (sum_any h hl)
  obtain ⟨la, lc, rfl, _, _⟩ := h.lenB
  have hs := sumV_lt l
  have HAP := hid hap
  clear h hl hap
  generalize sumV l = s at *
  go_enter Try.func144, Try.ntmps144
  go_upto_region 2 with ((with_reducible refine (S.out).mono ?_); rintro e w9 ⟨rfl, hw9⟩; subst hw9)
  have q1 := HAP.out
  obtain ⟨c0, hc0⟩ : ∃ c : Nat, c = s / 16777216 := ⟨_, rfl⟩
  obtain ⟨c1, hc1⟩ : ∃ c : Nat, c = s / 65536 := ⟨_, rfl⟩
  obtain ⟨c2, hc2⟩ : ∃ c : Nat, c = s / 256 := ⟨_, rfl⟩
  obtain ⟨b0, hb0⟩ : ∃ c : Nat, c = c0 % 256 := ⟨_, rfl⟩
  obtain ⟨b1, hb1⟩ : ∃ c : Nat, c = c1 % 256 := ⟨_, rfl⟩
  obtain ⟨b2, hb2⟩ : ∃ c : Nat, c = c2 % 256 := ⟨_, rfl⟩
  obtain ⟨b3, hb3⟩ : ∃ c : Nat, c = s % 256 := ⟨_, rfl⟩
  have f0 : (s : Int) / 16777216 = (c0 : Int) := by omega
  have f1 : (s : Int) / 65536 = (c1 : Int) := by omega
  have f2 : (s : Int) / 256 = (c2 : Int) := by omega
  have g0 : IntKind.u8.wrap (c0 : Int) = (b0 : Int) := by rw [IntKind.wrap_u8]; omega
  have g1 : IntKind.u8.wrap (c1 : Int) = (b1 : Int) := by rw [IntKind.wrap_u8]; omega
  have g2 : IntKind.u8.wrap (c2 : Int) = (b2 : Int) := by rw [IntKind.wrap_u8]; omega
  have g3 : IntKind.u8.wrap (s : Int) = (b3 : Int) := by rw [IntKind.wrap_u8]; omega
  have h4 : sum4 s = [b0, b1, b2, b3] := by unfold sum4; rw [← hc0, ← hc1, ← hc2, ← hb0, ← hb1, ← hb2, ← hb3]
  rw [h4] at q1
  have Q1 := hid q1
  clear hc0 hc1 hc2 hb0 hb1 hb2 hb3 h4 q1 hs HAP S
  refine wp_region_doc (fun F' hF => ?_)
  have HF := hid hF
  clear hF
  iterate 13 (refine doc_val rfl (by first | (go_simp; done) | (go_simp; exact ⟨rfl, rfl⟩) | (go_simp; with_reducible rfl)) ?_; simp only [Act.put, List.setIfInBounds_toArray, List.set_cons_zero, List.set_cons_succ])
  refine doc_val rfl (run_append_op _ _ _ _ _ _ _ _ _ Q1.out) ?_
  simp only [Act.put, List.setIfInBounds_toArray, List.set_cons_zero, List.set_cons_succ]
  refine doc_val rfl (by first | (go_simp; done) | (go_simp; exact ⟨rfl, rfl⟩) | (go_simp; with_reducible rfl)) ?_
  simp only [Act.put, List.setIfInBounds_toArray, List.set_cons_zero, List.set_cons_succ]
  refine doc_end (HF.out _ _ ?_)
  clear HF F' Q1
  go_wp2_with fail
  go_returns
  exact ⟨rfl, rfl⟩
theorem GrowB.rd {B : Nat} {w : World} {sv : Value} {l : List Nat} (h : GrowB B w sv l) : Rd w 1 sv (byts l) := by
  rcases h with h | ⟨b, off, h1, h2, h3⟩
  · exact h.rd
  · exact h2
theorem sealed_own {B : Nat} {w : World} {sv : Value} {l : List Nat} (h : GrowB B w sv l) (hl : ∀ y ∈ l, y < 256) (hB : B ≤ w.heap.size) (hk : l.length ≤ 100000000) :
    ∃ v' w1, Calls Try.prog 144 #[sv] w (fun e w' => e = .returned v' ∧ w' = w1) ∧ OwnB B w1 v' (sealB l) ∧ Below B w w1 := by
  obtain ⟨q1, q2, q3, -⟩ := h.app hB hk (sum4 (sumV l)) (by simp [sum4]) (by simp [sum4])
  exact ⟨_, _, sealed_gen h.rd hl q1, q2, q3⟩
end Go.Proofs.Ytboekafmplomhaa
set_option linter.unusedVariables false
set_option linter.unusedSimpArgs false
namespace Go.Proofs.Ytboekafmplomhaa
open Go.RowKit

theorem Rd.nodeAt {w : World} {a : Option Addr} {cap : Nat} {ns : List Nd} (h : Rd w 3 (.slice a ns.length cap) (flat ns)) {i : Nat} {n : Nd} (hn : ns[i]? = some n) :
    ∃ b off, a = some ⟨b, off, none⟩ ∧ b < w.heap.size ∧ w.cell? ⟨b, off + i * 3, none⟩ = some (.int .i64 n.1) ∧ w.cell? ⟨b, off + i * 3 + 1, none⟩ = some (.int .i64 n.2.1) ∧ w.cell? ⟨b, off + i * 3 + 2, none⟩ = some (.int .i64 n.2.2) := by
  obtain ⟨a', n', c', h1, _, _, _, h5⟩ := h
  cases h1
  have hi := (List.getElem?_eq_some_iff.1 hn).1
  obtain ⟨b, off, rfl, h6, h7⟩ := h5 (by omega)
  obtain ⟨f0, f1, f2⟩ := flat_at ns i n hn
  exact ⟨b, off, rfl, h6, h7 _ _ f0, by rw [Nat.add_assoc]; exact h7 _ _ f1, by rw [Nat.add_assoc]; exact h7 _ _ f2⟩
theorem Rd.lenN {w : World} {sv : Value} {ns : List Nd} (h : Rd w 3 sv (flat ns)) : ∃ a cap, sv = .slice a ns.length cap ∧ ns.length ≤ cap ∧ ns.length ≤ 9223372036854775807 := by
  obtain ⟨a, n, cap, h1, h2, h3, h4, _⟩ := h
  rw [flat_length] at h4
  obtain rfl : ns.length = n := by omega
  exact ⟨a, cap, h1, h2, h3⟩
/-- Nodes that can be written: no negative numbers, not too great. -/
def Wrt (ns : List Nd) (rs : List Int) : Prop := ns.length ≤ 1048576 ∧ rs.length ≤ 1000 ∧ (∀ x ∈ ns, 0 ≤ x.1 ∧ x.1 < 64 ∧ 0 ≤ x.2.1 ∧ x.2.1 ≤ 2000000 ∧ 0 ≤ x.2.2 ∧ x.2.2 ≤ 2000000) ∧ (∀ r ∈ rs, 0 ≤ r ∧ r ≤ 2000000)
theorem nodesB_len {ns : List Nd} (h : ∀ x ∈ ns, 0 ≤ x.1 ∧ x.1 < 64 ∧ 0 ≤ x.2.1 ∧ x.2.1 ≤ 2000000 ∧ 0 ≤ x.2.2 ∧ x.2.2 ≤ 2000000) : (ns.flatMap nodeB).length ≤ ns.length * 7 := by
  induction ns with
  | nil => simp
  | cons x r ih =>
    have hx := h x (by simp)
    have h1 := numB_len 3 x.2.1.toNat (by omega) (by omega)
    have h2 := numB_len 3 x.2.2.toNat (by omega) (by omega)
    have h3 := ih (fun y hy => h y (by simp [hy]))
    simp only [List.flatMap_cons, List.length_append, nodeB, List.length_cons]
    omega
theorem rootsB_len {rs : List Int} (h : ∀ r ∈ rs, 0 ≤ r ∧ r ≤ 2000000) : (rs.flatMap (fun a => numB a.toNat)).length ≤ rs.length * 3 := by
  induction rs with
  | nil => simp
  | cons x r ih =>
    have hx := h x (by simp)
    have h1 := numB_len 3 x.toNat (by omega) (by omega)
    have h3 := ih (fun y hy => h y (by simp [hy]))
    simp only [List.flatMap_cons, List.length_append, List.length_cons]
    omega

theorem take_node (ns : List Nd) (j : Nat) (x : Nd) (h : ns[j]? = some x) : (ns.take (j + 1)).flatMap nodeB = (ns.take j).flatMap nodeB ++ nodeB x := by
  rw [List.take_add_one, h]; simp
theorem take_root (rs : List Int) (j : Nat) (x : Int) (h : rs[j]? = some x) : (rs.take (j + 1)).flatMap (fun a => numB a.toNat) = (rs.take j).flatMap (fun a => numB a.toNat) ++ numB x.toNat := by
  rw [List.take_add_one, h]; simp
set_option maxRecDepth 100000 in
set_option maxHeartbeats 16000000 in
theorem written_any {w : World} {s1 s2 : Value} {ns : List Nd} {rs : List Int} (h1 : Rd w 3 s1 (flat ns)) (h2 : Rd w 1 s2 (ints rs)) (hW : Wrt ns rs) :
    Calls Try.prog 124 #[s1, s2] w (fun e w' => ∃ v, e = .returned v ∧ OwnB w.heap.size w' v (writeB ns rs) ∧ Below w.heap.size w w') := by
  obtain ⟨a1, c1, rfl, _, hm1⟩ := h1.lenN
  obtain ⟨a2, c2, rfl, _, hm2⟩ := h2.len
  have H1 := hid h1
  have H2 := hid h2
  have HW := hid hW
  clear h1 h2
  obtain ⟨hW1, hW2, -, -⟩ := hW
  have l0 := numB_len 3 ns.length (by omega) (by omega)
  have l1 := numB_len 2 rs.length (by omega) (by omega)
  have lN : ∀ j, ((ns.take j).flatMap nodeB).length ≤ ns.length * 7 := fun j => by
    have := nodesB_len (ns := ns.take j) (fun x hx => HW.out.2.2.1 x (List.mem_of_mem_take hx))
    have : (ns.take j).length ≤ ns.length := by simp; omega
    omega
  have lR : ∀ j, ((rs.take j).flatMap (fun a => numB a.toNat)).length ≤ rs.length * 3 := fun j => by
    have := rootsB_len (rs := rs.take j) (fun x hx => HW.out.2.2.2 x (List.mem_of_mem_take hx))
    have : (rs.take j).length ≤ rs.length := by simp; omega
    omega
  have own0 : GrowB w.heap.size (w.alloc (.cells (byts headB).toArray 5 (3, 4))) (.slice (some ⟨w.heap.size, 0, none⟩) 3 3) headB := .inr ⟨_, _, rfl, lit_rd w headB (by decide) _, by decide⟩
  obtain ⟨own1, hb1, -⟩ := numX_own ns.length own0 (by simp) (by simp [headB]; omega)
  have C0 := hid (number_any own0 (by simp) (by decide) ns.length (by omega))
  have HO1 := hid own1
  have HB1 := hid ((Below.alloc (Below.refl w.heap.size w) (Nat.le_refl _) (.cells (byts headB).toArray 5 (3, 4))).trans hb1)
  clear own1 hb1
  have e3 : (byts headB).toArray = #[.int .u8 81, .int .u8 66, .int .u8 1] := rfl
  rw [e3] at C0 HO1 HB1
  generalize numX ns.length (.slice (some ⟨w.heap.size, 0, none⟩) 3 3) (w.alloc (.cells #[.int .u8 81, .int .u8 66, .int .u8 1] 5 (3, 4))) = A1 at C0 HO1 HB1
  obtain ⟨V1, w1⟩ := A1
  simp only at C0 HO1 HB1
  have kc := fun (w : World) (C : Array Value) (n c : Nat) => Lib.run_convert_bytes_const (P := Try.prog) w 100 5 C n c Try.underlying100 Try.underlying5
  have L0 := hid (And.intro l0 (And.intro l1 (And.intro lN lR)))
  clear own0 e3 l0 l1 lN lR
  go_enter Try.func124, Try.ntmps124
  go_upto_region 1 with (fail)
  refine wp_region_doc (fun F' hF => ?_)
  have HF := hid hF
  clear hF
  refine doc_val rfl (by first | (go_simp; done) | (go_simp; exact ⟨rfl, rfl⟩) | (go_simp; with_reducible rfl)) ?_
  simp only [Act.put, List.setIfInBounds_toArray, List.set_cons_zero, List.set_cons_succ]
  have kc0 := kc w #[.int .u8 81, .int .u8 66, .int .u8 1] 3 3
  simp only [List.size_toArray, List.length_cons, List.length_nil, Nat.zero_add, Nat.reduceAdd] at kc0
  clear kc
  refine doc_val rfl (by first | (go_simp; done) | (go_simp; exact ⟨rfl, rfl⟩) | (go_simp; with_reducible rfl)) ?_
  simp only [Act.put, List.setIfInBounds_toArray, List.set_cons_zero, List.set_cons_succ]
  clear kc0
  iterate 2 (refine doc_val rfl (by first | (go_simp; done) | (go_simp; exact ⟨rfl, rfl⟩) | (go_simp; with_reducible rfl)) ?_; simp only [Act.put, List.setIfInBounds_toArray, List.set_cons_zero, List.set_cons_succ])
  refine doc_call rfl (by first | (go_simp; done) | (go_simp; exact ⟨rfl, rfl⟩) | (go_simp; with_reducible rfl)) ((C0.out).mono ?_)
  rintro _ _ ⟨rfl, rfl⟩
  refine ⟨_, rfl, ?_⟩
  simp only [Act.put, List.setIfInBounds_toArray, List.set_cons_zero, List.set_cons_succ]
  refine doc_val rfl (by first | (go_simp; done) | (go_simp; exact ⟨rfl, rfl⟩) | (go_simp; with_reducible rfl)) ?_
  simp only [Act.put, List.setIfInBounds_toArray, List.set_cons_zero, List.set_cons_succ]
  refine doc_end (HF.out _ _ ?_)
  clear HF F' C0
  go_wp2_with fail
  go_loopw [5, 17] (fun bv iv wr => ∃ j : Nat, j ≤ ns.length ∧ iv = .int .i64 j ∧ OwnB w.heap.size wr bv (headB ++ numB ns.length ++ (ns.take j).flatMap nodeB) ∧ Below w.heap.size w wr) (fun _ iv _ => ns.length - (intOf iv).toNat)
  case atStart => exact ⟨0, by omega, rfl, by simpa using HO1.out, HB1.out⟩
  case round =>
    obtain ⟨j, hj, rfl, hO, hb⟩ := hrel
    have HO := hid hO
    have HB := hid hb
    obtain ⟨sa, sc, rfl⟩ := hO.form
    clear hO hb
    by_cases hlt : j < ns.length
    · have hj1 : (j : Int) < (ns.length : Int) := by omega
      have hx := List.getElem?_eq_getElem hlt
      obtain ⟨q1, q2, q3, q4, q5, q6⟩ := HW.out.2.2.1 ns[j] (List.getElem_mem _)
      have TK := hid (take_node ns j _ hx)
      obtain ⟨b, off, rfl, hb1, g0, g1, g2⟩ := (H1.out.below HB.out).nodeAt hx
      generalize ns[j] = x at *
      obtain ⟨x1, x2, x3⟩ := x
      simp only at q1 q2 q3 q4 q5 q6 g0 g1 g2
      obtain ⟨v, rfl⟩ : ∃ v : Nat, x1 = v := ⟨x1.toNat, by omega⟩
      obtain ⟨lo, rfl⟩ : ∃ v : Nat, x2 = v := ⟨x2.toNat, by omega⟩
      obtain ⟨hi, rfl⟩ : ∃ v : Nat, x3 = v := ⟨x3.toNat, by omega⟩
      clear hx
      obtain ⟨pre, hpre⟩ : ∃ pre, pre = headB ++ numB ns.length ++ (ns.take j).flatMap nodeB := ⟨_, rfl⟩
      have hpl : pre.length ≤ 20000000 := by
        rw [hpre]
        have := L0.out.2.2.1 j
        have := L0.out.1
        simp only [List.length_append]
        have : headB.length = 3 := rfl
        omega
      rw [← hpre] at HO ⊢
      have HP := hid hpre
      obtain ⟨n0, hn0⟩ : ∃ n, n = pre.length := ⟨_, rfl⟩
      rw [← hn0] at HO hpl ⊢
      have HN0 := hid hn0
      clear hpre hn0
      go_upto_region 5 with (fail)
      refine wp_gen (fun U hU => ?_)
      have hbU : Below wr.heap.size wr U := by rw [hU]; (repeat' (first | (with_reducible exact Below.refl _ _) | (with_reducible refine Below.ext_mk ?_ ?_ _ _) | (with_reducible refine Below.alloc ?_ ?_ _) | (with_reducible refine Below.drew ?_) | (with_reducible refine Below.setCell ?_ ?_ _) | go_size))
      have bU : Blk U wr.heap.size 39 [.int .i64 v, .int .i64 lo, .int .i64 hi] := by rw [hU]; exact World.heap_alloc_last wr _
      have HBU := hid hbU
      clear hU g0 g1 g2
      have hsz := HB.out.size
      have oU : OwnB w.heap.size U.drew (.slice sa n0 sc) pre := (HO.out.below hbU).below (Below.drew (Below.refl _ _))
      have nU : blkOf (.slice sa n0 sc) ≠ some wr.heap.size := HO.out.lt (Nat.le_refl _)
      have bUd : Blk U.drew wr.heap.size 39 [.int .i64 v, .int .i64 lo, .int .i64 hi] := bU.below (Below.drew (Below.refl _ _))
      obtain ⟨Bx, hBx⟩ : ∃ b, b = wr.heap.size := ⟨_, rfl⟩
      rw [← hBx] at bU nU bUd ⊢
      have hwB : w.heap.size ≤ Bx := by omega
      have hwU : w.heap.size ≤ U.drew.heap.size := Nat.le_trans (Nat.le_trans hsz hbU.size) (Nat.le_refl _)
      have hn := HN0.out
      have lv := numB_len 3 lo (by omega) (by omega)
      have lh := numB_len 3 hi (by omega) (by omega)
      obtain ⟨p1, p2, p3, p4⟩ := GrowB.app (.inl oU) hwU (by omega) [v] (by simp) (by simp)
      obtain ⟨r1, r2, r3⟩ := numX_own lo (.inl p2) (Nat.le_trans hwU p3.size) (by simp; omega)
      have C1 := hid (number_any (.inl p2) (Nat.le_trans hwU p3.size) (by simp; omega) lo (by omega))
      obtain ⟨s1, s2, s3⟩ := numX_own hi (.inl r1) (Nat.le_trans hwU (Nat.le_trans p3.size r2.size)) (by simp; omega)
      have C2 := hid (number_any (.inl r1) (Nat.le_trans hwU (Nat.le_trans p3.size r2.size)) (by simp; omega) hi (by omega))
      have b2 := p4.blk bUd nU
      have b3 := r3.blk b2 (p4.own _ bUd.lt nU)
      have b4 := s3.blk b3 (r3.own _ b2.lt (p4.own _ bUd.lt nU))
      have b1 : Blk (U.drew.alloc (.cells (byts [v]).toArray 5)) Bx 39 [.int .i64 v, .int .i64 lo, .int .i64 hi] := bUd.below (Below.alloc (Below.refl _ _) (Nat.le_refl _) _)
      generalize appB (.slice sa n0 sc) [v] U.drew = A at *
      obtain ⟨v1, W2⟩ := A
      generalize numX lo (v1, W2).1 (v1, W2).2 = A at *
      obtain ⟨v2, W3⟩ := A
      generalize numX hi (v2, W3).1 (v2, W3).2 = A at *
      obtain ⟨v3, W4⟩ := A
      simp only at p1 p2 p3 p4 r1 r2 r3 s1 s2 s3 b2 b3 b4 C1 C2
      have w8 : IntKind.u8.wrap (v : Int) = (v : Int) := by rw [IntKind.wrap_u8]; omega
      have P1 := hid p1
      have S1 := hid (And.intro s1 (p3.trans (r2.trans s2)))
      have BS := hid (And.intro bUd (And.intro b1 (And.intro b2 (And.intro b3 b4))))
      have HX := hid (And.intro hBx (And.intro hwB hwU))
      clear p1 p2 p3 p4 r1 r2 r3 s1 s2 s3 bUd b1 b2 b3 b4 hBx hwB hwU bU nU oU hbU hn lv lh hsz hb1
      refine wp_region_stage [4, 5, 8, 11] (fun i W => Blk W Bx 39 [.int .i64 v, .int .i64 lo, .int .i64 hi] ∧ (i = 0 → W = U.drew) ∧ (i = 1 → W = U.drew.alloc (.cells #[.int .u8 v] 5)) ∧ (i = 2 → W = W2) ∧ (i = 3 → W = W3) ∧ (i = 4 → W = W4))
        (by kernel_rfl) (by kernel_rfl) (by kernel_rfl) (by kernel_rfl) ⟨BS.out.1, fun _ => rfl, fun h => by omega, fun h => by omega, fun h => by omega, fun h => by omega⟩ (fun F' hF' => ?_)
      have HF := hid hF'
      clear hF'
      repeat (first
        | (apply sg_any; (focus rfl); (focus rfl); (focus (intro _; go_simp; with_reducible rfl)); simp only [Act.put, List.setIfInBounds_toArray, List.set_cons_zero, List.set_cons_succ])
        | (apply sg_read 0 0; (focus rfl); (focus (decide +kernel)); (focus (decide +kernel)); (focus rfl); (focus (intro ii w' l' u hR; have e0 := hR.1.cell 0; have e1 := hR.1.cell 1; have e2 := hR.1.cell 2; have e3 := hR.1.lt; clear hR; simp only [List.getElem?_cons_zero, List.getElem?_cons_succ] at e0 e1 e2; go_simp; with_reducible rfl)); simp only [Act.put, List.setIfInBounds_toArray, List.set_cons_zero, List.set_cons_succ]))
      refine sg_turn 0 (v := .slice (some ⟨U.drew.heap.size, 0, none⟩) 1 1) rfl rfl (fun W hR => ⟨U.drew.alloc (.cells #[.int .u8 v] 5), by rw [hR.2.1 rfl]; clear hR; go_simp, BS.out.2.1, fun h => by omega, fun _ => rfl, fun h => by omega, fun h => by omega, fun h => by omega⟩) ?_
      simp only [Act.put, List.setIfInBounds_toArray, List.set_cons_zero, List.set_cons_succ]
      refine sg_turn 1 (v := v1) rfl rfl (fun W hR => ⟨W2, by rw [hR.2.2.1 rfl]; clear hR; exact run_append_op _ _ _ _ _ _ _ _ _ P1.out, BS.out.2.2.1, fun h => by omega, fun h => by omega, fun _ => rfl, fun h => by omega, fun h => by omega⟩) ?_
      simp only [Act.put, List.setIfInBounds_toArray, List.set_cons_zero, List.set_cons_succ]
      repeat (first
        | (apply sg_any; (focus rfl); (focus rfl); (focus (intro _; go_simp; with_reducible rfl)); simp only [Act.put, List.setIfInBounds_toArray, List.set_cons_zero, List.set_cons_succ])
        | (apply sg_read 0 2; (focus rfl); (focus (decide +kernel)); (focus (decide +kernel)); (focus rfl); (focus (intro ii w' l' u hR; have e0 := hR.1.cell 0; have e1 := hR.1.cell 1; have e2 := hR.1.cell 2; have e3 := hR.1.lt; clear hR; simp only [List.getElem?_cons_zero, List.getElem?_cons_succ] at e0 e1 e2; go_simp; with_reducible rfl)); simp only [Act.put, List.setIfInBounds_toArray, List.set_cons_zero, List.set_cons_succ]))
      refine sg_turn_call 2 (v := v2) (f := 143) (args := #[v1, .int .i64 lo]) rfl rfl (fun _ => by first | (go_simp; done) | (go_simp; exact ⟨rfl, rfl⟩)) (fun W hR => by
        rw [hR.2.2.2.1 rfl]
        refine C1.out.mono ?_
        rintro e w' ⟨rfl, rfl⟩
        exact ⟨rfl, BS.out.2.2.2.1, fun h => by omega, fun h => by omega, fun h => by omega, fun _ => rfl, fun h => by omega⟩) ?_
      simp only [Act.put, List.setIfInBounds_toArray, List.set_cons_zero, List.set_cons_succ]
      repeat (first
        | (apply sg_any; (focus rfl); (focus rfl); (focus (intro _; go_simp; with_reducible rfl)); simp only [Act.put, List.setIfInBounds_toArray, List.set_cons_zero, List.set_cons_succ])
        | (apply sg_read 0 3; (focus rfl); (focus (decide +kernel)); (focus (decide +kernel)); (focus rfl); (focus (intro ii w' l' u hR; have e0 := hR.1.cell 0; have e1 := hR.1.cell 1; have e2 := hR.1.cell 2; have e3 := hR.1.lt; clear hR; simp only [List.getElem?_cons_zero, List.getElem?_cons_succ] at e0 e1 e2; go_simp; with_reducible rfl)); simp only [Act.put, List.setIfInBounds_toArray, List.set_cons_zero, List.set_cons_succ]))
      refine sg_turn_call 3 (v := v3) (f := 143) (args := #[v2, .int .i64 hi]) rfl rfl (fun _ => by first | (go_simp; done) | (go_simp; exact ⟨rfl, rfl⟩)) (fun W hR => by
        rw [hR.2.2.2.2.1 rfl]
        refine C2.out.mono ?_
        rintro e w' ⟨rfl, rfl⟩
        exact ⟨rfl, BS.out.2.2.2.2, fun h => by omega, fun h => by omega, fun h => by omega, fun h => by omega, fun _ => rfl⟩) ?_
      simp only [Act.put, List.setIfInBounds_toArray, List.set_cons_zero, List.set_cons_succ]
      refine sg_any rfl rfl (fun _ => by go_simp; with_reducible rfl) ?_
      simp only [Act.put, List.setIfInBounds_toArray, List.set_cons_zero, List.set_cons_succ]
      refine sg_end (HF.out _ (fun w3 hR => ?_))
      obtain rfl := hR.2.2.2.2.2 rfl
      clear hR HF F' P1 C1 C2 BS
      go_wp2_with fail
      go_roundw
      case rel =>
        refine ⟨j + 1, by omega, by go_num, ?_, ?_⟩
        · have h := S1.out.1
          rw [TK.out]
          have e : pre ++ [v] ++ numB lo ++ numB hi = headB ++ numB ns.length ++ ((ns.take j).flatMap nodeB ++ nodeB ((v : Int), (lo : Int), (hi : Int))) := by
            rw [HP.out]
            have e1 : ((v : Int).toNat) % 256 = v := by omega
            simp only [nodeB, Int.toNat_natCast, Nat.mod_eq_of_lt (show v < 256 by omega)]
            simp
          rw [← e]
          exact h
        · have := S1.out.2
          have hh : Below w.heap.size w U.drew := (HB.out.trans (HBU.out.mono HB.out.size)).trans (Below.drew (Below.refl _ _))
          exact hh.trans this
      case measure => simp [intOf]; omega
    · obtain rfl : j = ns.length := by omega
      obtain ⟨pre, hpre⟩ : ∃ pre, pre = headB ++ numB ns.length ++ (ns.take ns.length).flatMap nodeB := ⟨_, rfl⟩
      have hpl : pre.length ≤ 20000000 := by
        rw [hpre]
        have := L0.out.2.2.1 ns.length
        have := L0.out.1
        simp only [List.length_append]
        have : headB.length = 3 := rfl
        omega
      rw [← hpre] at HO ⊢
      have HP := hid (by rw [List.take_length] at hpre; exact hpre)
      obtain ⟨n0, hn0⟩ : ∃ n, n = pre.length := ⟨_, rfl⟩
      have hln := L0.out.2.1
      have O1 : GrowB w.heap.size wr (.slice sa pre.length sc) pre := .inl HO.out
      rw [← hn0] at O1 ⊢
      rw [← hn0] at hpl
      obtain ⟨r1, r2, -⟩ := numX_own rs.length O1 HB.out.size (by omega)
      have C1 := hid (number_any O1 HB.out.size (by omega) rs.length (by omega))
      generalize numX rs.length (.slice sa n0 sc) wr = A at *
      obtain ⟨v1, W1⟩ := A
      simp only at r1 r2 C1
      have HR1 := hid r1
      have HB1 := hid (HB.out.trans r2)
      have HN0 := hid hn0
      clear r1 r2 O1 hpre hn0 hln HO1
      go_upto_region 7 with (fail)
      refine wp_region_doc (fun F' hF => ?_)
      have HF := hid hF
      clear hF
      iterate 3 (refine doc_val rfl (by first | (go_simp; done) | (go_simp; exact ⟨rfl, rfl⟩) | (go_simp; with_reducible rfl)) ?_; simp only [Act.put, List.setIfInBounds_toArray, List.set_cons_zero, List.set_cons_succ])
      refine doc_call rfl (by first | (go_simp; done) | (go_simp; exact ⟨rfl, rfl⟩) | (go_simp; with_reducible rfl)) ((C1.out).mono ?_)
      rintro _ _ ⟨rfl, rfl⟩
      refine ⟨_, rfl, ?_⟩
      simp only [Act.put, List.setIfInBounds_toArray, List.set_cons_zero, List.set_cons_succ]
      refine doc_val rfl (by first | (go_simp; done) | (go_simp; exact ⟨rfl, rfl⟩) | (go_simp; with_reducible rfl)) ?_
      simp only [Act.put, List.setIfInBounds_toArray, List.set_cons_zero, List.set_cons_succ]
      refine doc_end (HF.out _ _ ?_)
      clear HF F' C1
      go_wp2_with fail
      go_loopw [5, 40] (fun bv iv wr => ∃ j : Nat, j ≤ rs.length ∧ iv = .int .i64 j ∧ OwnB w.heap.size wr bv (pre ++ numB rs.length ++ (rs.take j).flatMap (fun a => numB a.toNat)) ∧ Below w.heap.size w wr) (fun _ iv _ => rs.length - (intOf iv).toNat)
      case atStart => exact ⟨0, by omega, rfl, by simpa using HR1.out, HB1.out⟩
      case round =>
        obtain ⟨j, hj, rfl, hO, hb⟩ := hrel
        have HO := hid hO
        have HB := hid hb
        obtain ⟨sa, sc, rfl⟩ := hO.form
        clear hO hb
        obtain ⟨cur, hcur⟩ : ∃ cur, cur = pre ++ numB rs.length ++ (rs.take j).flatMap (fun a => numB a.toNat) := ⟨_, rfl⟩
        have hcl : cur.length ≤ 30000000 := by
          rw [hcur]
          have := L0.out.2.2.2 j
          have := L0.out.2.1
          have := HN0.out
          simp only [List.length_append]
          omega
        rw [← hcur] at HO ⊢
        have HC := hid hcur
        obtain ⟨c0, hc0⟩ : ∃ n, n = cur.length := ⟨_, rfl⟩
        rw [← hc0] at HO hcl ⊢
        have HC0 := hid hc0
        clear hcur hc0
        by_cases hlt : j < rs.length
        · have hj1 : (j : Int) < (rs.length : Int) := by omega
          obtain ⟨b, off, rfl, hb1, c⟩ := Rd.intAt (H2.out.below HB.out) hlt
          obtain ⟨q1, q2⟩ := HW.out.2.2.2 rs[j] (List.getElem_mem _)
          have TK := hid (take_root rs j _ (List.getElem?_eq_getElem hlt))
          generalize rs[j] = x at *
          obtain ⟨x, rfl⟩ : ∃ v : Nat, x = v := ⟨x.toNat, by omega⟩
          have lv := numB_len 3 x (by omega) (by omega)
          have O1 : GrowB w.heap.size wr (.slice sa c0 sc) cur := .inl HO.out
          have hcn := HC0.out
          obtain ⟨r1, r2, -⟩ := numX_own x O1 HB.out.size (by omega)
          have C1 := hid (number_any O1 HB.out.size (by omega) x (by omega))
          generalize numX x (.slice sa c0 sc) wr = A at *
          obtain ⟨v1, W1⟩ := A
          simp only at r1 r2 C1
          have HR1 := hid r1
          have HB2 := hid (HB.out.trans r2)
          clear r1 r2 O1 hcn lv q1 q2
          go_upto_region 11 with (fail)
          refine wp_region_doc (fun F' hF => ?_)
          have HF := hid hF
          clear hF
          iterate 2 (refine doc_val rfl (by first | (go_simp; done) | (go_simp; exact ⟨rfl, rfl⟩) | (go_simp; with_reducible rfl)) ?_; simp only [Act.put, List.setIfInBounds_toArray, List.set_cons_zero, List.set_cons_succ])
          refine doc_call rfl (by first | (go_simp; done) | (go_simp; exact ⟨rfl, rfl⟩) | (go_simp; with_reducible rfl)) ((C1.out).mono ?_)
          rintro _ _ ⟨rfl, rfl⟩
          refine ⟨_, rfl, ?_⟩
          simp only [Act.put, List.setIfInBounds_toArray, List.set_cons_zero, List.set_cons_succ]
          refine doc_val rfl (by first | (go_simp; done) | (go_simp; exact ⟨rfl, rfl⟩) | (go_simp; with_reducible rfl)) ?_
          simp only [Act.put, List.setIfInBounds_toArray, List.set_cons_zero, List.set_cons_succ]
          refine doc_end (HF.out _ _ ?_)
          clear HF F' C1
          go_wp2_with fail
          go_roundw
          case rel =>
            refine ⟨j + 1, by omega, by go_num, ?_, HB2.out⟩
            have h := HR1.out
            rw [TK.out, ← List.append_assoc, ← HC.out]
            simpa using h
          case measure => simp [intOf]; omega
        · obtain rfl : j = rs.length := by omega
          have hcb : cur = bodyB ns rs := by
            have h1 := HC.out
            rw [List.take_length, HP.out] at h1
            exact h1
          obtain ⟨v1, W1, C1, r1, r2⟩ := sealed_own (l := cur) (.inl HO.out) (by
            rw [hcb]
            intro y hy
            simp only [bodyB, List.mem_append, List.mem_flatMap] at hy
            rcases hy with (((hy | hy) | ⟨x, _, hy⟩) | hy) | ⟨x, _, hy⟩
            · simp [headB] at hy; omega
            · exact numB_lt _ y hy
            · simp only [nodeB, List.mem_cons, List.mem_append] at hy
              rcases hy with rfl | hy | hy
              · omega
              · exact numB_lt _ y hy
              · exact numB_lt _ y hy
            · exact numB_lt _ y hy
            · exact numB_lt _ y hy) HB.out.size (by have := HC0.out; omega)
          have C1 := hid C1
          have R1 := hid r1
          have HB2 := hid (HB.out.trans r2)
          have HCB := hid hcb
          clear r1 r2 hcb
          go_upto_region 13 with (fail)
          refine wp_region_doc (fun F' hF => ?_)
          have HF := hid hF
          clear hF
          refine doc_val rfl (by first | (go_simp; done) | (go_simp; exact ⟨rfl, rfl⟩) | (go_simp; with_reducible rfl)) ?_
          simp only [Act.put, List.setIfInBounds_toArray, List.set_cons_zero, List.set_cons_succ]
          refine doc_call rfl (by first | (go_simp; done) | (go_simp; exact ⟨rfl, rfl⟩) | (go_simp; with_reducible rfl)) ((C1.out).mono ?_)
          rintro _ _ ⟨rfl, rfl⟩
          refine ⟨_, rfl, ?_⟩
          simp only [Act.put, List.setIfInBounds_toArray, List.set_cons_zero, List.set_cons_succ]
          refine doc_val rfl (by first | (go_simp; done) | (go_simp; exact ⟨rfl, rfl⟩) | (go_simp; with_reducible rfl)) ?_
          simp only [Act.put, List.setIfInBounds_toArray, List.set_cons_zero, List.set_cons_succ]
          refine doc_end (HF.out _ _ ?_)
          clear HF F' C1
          go_wp2_with fail
          go_returns
          refine ⟨_, rfl, ?_, HB2.out⟩
          have h := R1.out
          rw [HCB.out] at h
          exact h
end Go.Proofs.Ytboekafmplomhaa
set_option linter.unusedVariables false
set_option linter.unusedSimpArgs false
namespace Go.Proofs.Ytboekafmplomhaa
open Go.RowKit

theorem pigeon : ∀ (m n : Nat) (f : Nat → Nat), (∀ i, i < n → f i < m) → (∀ i j, i < n → j < n → f i = f j → i = j) → n ≤ m
  | 0, 0, _, _, _ => Nat.le_refl _
  | 0, n + 1, f, h, _ => absurd (h 0 (by omega)) (by omega)
  | m + 1, 0, _, _, _ => Nat.zero_le _
  | m + 1, n + 1, f, h, inj => by
    have := pigeon m n (fun i => if f i = m then f n else f i) (fun i hi => by
      have h1 := h i (by omega)
      have h2 := h n (by omega)
      by_cases e : f i = m
      · simp only [e, if_true]
        by_cases e2 : f n = m
        · have := inj i n (by omega) (by omega) (by rw [e, e2])
          omega
        · omega
      · simp only [e, if_false]
        omega) (fun i j hi hj e => by
      by_cases e1 : f i = m
      · by_cases e2 : f j = m
        · exact inj i j (by omega) (by omega) (by rw [e1, e2])
        · simp only [e1, e2, if_true, if_false] at e
          have := inj n j (by omega) (by omega) e
          omega
      · by_cases e2 : f j = m
        · simp only [e1, e2, if_true, if_false] at e
          have := inj i n (by omega) (by omega) e
          omega
        · simp only [e1, e2, if_false] at e
          exact inj i j (by omega) (by omega) e)
    omega

section
variable {S : Sto}
theorem atV_lo (hW : Wf S) (a : Int) (ha : (atV S a).2 = true) : (rightOf S (atV S a).1.2.1).toNat < (rightOf S a).toNat := (src_live hW 0 []).lo a ha
theorem atV_hi (hW : Wf S) (a : Int) (ha : (atV S a).2 = true) : (rightOf S (atV S a).1.2.2).toNat < (rightOf S a).toNat := (src_live hW 0 []).hi a ha
theorem rightOf_lt (S : Sto) (a : Int) : (rightOf S a).toNat < S.nodes.length + 2 := by unfold rightOf; split <;> omega
def ordS (S : Sto) (l : List Int) : List Nd × List Int := ordL (atV S) (S.nodes.length + 2) [(1, 1)] [] [] l
def ordSK (S : Sto) (l : List Int) : List (Int × Int) := ordK (atV S) (S.nodes.length + 2) [(1, 1)] [] l
theorem ordS_inv (hW : Wf S) (l : List Int) :
    OrdInv (atV S) (fun _ => True) (ordSK S l) (ordS S l).1 ∧ (∀ a ∈ l, Kn (atV S) (ordSK S l) a) ∧ (ordS S l).2 = l.map (numK (ordSK S l)) := by
  obtain ⟨h1, _, h3, h4⟩ := ordL_inv (rk := fun a => (rightOf S a).toNat) (fun a _ ha => ⟨atV_lo hW a ha, trivial⟩) (fun a _ ha => ⟨atV_hi hW a ha, trivial⟩) (S.nodes.length + 2) l [(1, 1)] [] [] (fun a _ => ⟨trivial, rightOf_lt S a⟩) (OrdInv.start _ _)
  refine ⟨h1, h3, ?_⟩
  unfold ordS ordSK
  rw [h4, List.nil_append]
theorem ordS_len (hW : Wf S) (l : List Int) : (ordS S l).1.length ≤ S.nodes.length := by
  obtain ⟨h, _, _⟩ := ordS_inv hW l
  generalize ordSK S l = K at h
  generalize (ordS S l).1 = ns at *
  have key : ∀ i : Nat, i < ns.length → ∃ k : Nat, k < S.nodes.length ∧ aget K ((k : Int) + 2) = some ((i : Int) + 2) := fun i hi => by
    obtain ⟨a, ha⟩ := h.all i hi
    rcases h.num a _ ha with ⟨_, e⟩ | ⟨_, _, ht, _⟩
    · omega
    · obtain ⟨k, n, rfl, hn, _⟩ := atV_yes ht
      exact ⟨k, (List.getElem?_eq_some_iff.1 hn).1, ha⟩
  refine pigeon S.nodes.length ns.length (fun i => if hi : i < ns.length then (key i hi).choose else 0) (fun i hi => ?_) (fun i j hi hj e => ?_)
  · simp only [hi, dite_true]
    exact (key i hi).choose_spec.1
  · simp only [hi, hj, dite_true] at e
    have h1 := (key i hi).choose_spec.2
    have h2 := (key j hj).choose_spec.2
    rw [e] at h1
    rw [h1] at h2
    injection h2 with h2
    omega
theorem ordS_wrt (hW : Wf S) {l : List Int} (hl : l.length ≤ 1000) : Wrt (ordS S l).1 (ordS S l).2 := by
  obtain ⟨h, _, h3⟩ := ordS_inv hW l
  have hn := ordS_len hW l
  have h4 := hW.len
  have h5 := hW.cap
  refine ⟨by omega, by rw [h3]; simpa using hl, fun x hx => ?_, fun r hr => ?_⟩
  · obtain ⟨i, hi, rfl⟩ := List.getElem_of_mem hx
    obtain ⟨a, ha⟩ := h.all i hi
    rcases h.num a _ ha with ⟨_, e⟩ | ⟨_, _, ht, _, _, hat, _⟩
    · omega
    · obtain ⟨k, n, rfl, hnk, hv, _⟩ := atV_yes ht
      have hok := hW.node k n hnk
      have e1 : (((i : Int) + 2) - 2).toNat = i := by omega
      rw [e1, List.getElem?_eq_getElem hi] at hat
      injection hat with hat
      rw [hat, hv]
      have n1 := numK_le h n.2.1
      have n2 := numK_le h n.2.2
      have := hok.v0
      have := hok.v64
      refine ⟨by simpa using hok.v0, by simpa using hok.v64, n1.1, ?_, n2.1, ?_⟩
      · show numK (ordSK S l) n.2.1 ≤ 2000000
        omega
      · show numK (ordSK S l) n.2.2 ≤ 2000000
        omega
  · rw [h3] at hr
    obtain ⟨a, _, rfl⟩ := List.mem_map.1 hr
    have n1 := numK_le h a
    omega
theorem at_live (hW : Wf S) (p : Nat) (F : List Nat) : AtSrc 21 #[.pointer (some ⟨p, 0, none⟩)] #[] F (fun w => StoIs w p F S) (atV S) (fun a => (rightOf S a).toNat) (fun _ => True) where
  keep w w' h hk := h.keep hk
  lt w h := h.lt
  enter args w := by simp [go_sem]
  call w h a _ := at_call h hW a
  lo a _ ha := ⟨atV_lo hW a ha, trivial⟩
  hi a _ ha := ⟨atV_hi hW a ha, trivial⟩
set_option maxRecDepth 100000 in
set_option maxHeartbeats 4000000 in
theorem write_live {w : World} {p : Nat} {F : List Nat} (h : StoIs w p F S) (hW : Wf S) (hs : Sated S) {sv : Value} {l : List Int} (hl : Rd w 1 sv (ints l)) (h64 : l.length ≤ 64) :
    Calls Try.prog 71 #[.pointer (some ⟨p, 0, none⟩), sv] w
      (fun e w' => ∃ v, e = .returned (.tuple #[v, .int .i64 0]) ∧ OwnB w.heap.size w' v (writeB (ordS S l).1 (ordS S l).2) ∧ Below w.heap.size w w') := by
  have hmf : ∀ (fn : Fn) (first cap : Array Value) (w : World), (Instr.makeFunc fn first cap).run Try.prog w = .ok (.func fn first cap) w := fun _ _ _ _ => rfl
  have hc : S.cap ≠ 0 := by have := hW.cap2; omega
  obtain ⟨la, lc, rfl, hlc, hlm⟩ := hl.len
  have hWr := ordS_wrt hW (l := l) (by omega)
  have FU := fun W (hb : Below w.heap.size w W) => full_any (h.below hb) hc
  have LE := fun W (hb : Below w.heap.size w W) => len_any (h.below hb) hc
  have hz : S.full = true → ((S.nodes.length : Int) == 0) = false := fun hf => by
    have h1 := hs hf
    have h2 := hW.cap2
    exact beq_eq_false_iff_ne.2 (by omega)
  have OR := fun W (hb : Below w.heap.size w W) => order_any (at_live hW p F) (av := .func (.func 21) #[.pointer (some ⟨p, 0, none⟩)] #[]) rfl (h.below hb) (hl.below hb) (by omega) (S.nodes.length + 2) (fun a _ => ⟨rightOf_lt S a, trivial⟩) (by
    have h1 := ordS_len hW l
    have h2 := hW.len
    have h3 := hW.cap
    unfold ordS at h1
    omega)
  have OR := hid OR
  have hW' := hid hWr
  have hll : ¬ (64 : Int) < (l.length : Int) := by omega
  show Calls Try.prog _ _ _ (fun e w' => ∃ v, e = .returned (.tuple #[v, .int .i64 0]) ∧ OwnB w.heap.size w' v (writeB (ordL (atV S) (S.nodes.length + 2) [(1, 1)] [] [] l).1 (ordL (atV S) (S.nodes.length + 2) [(1, 1)] [] [] l).2) ∧ Below w.heap.size w w')
  unfold ordS at hW'
  generalize ordL (atV S) (S.nodes.length + 2) [(1, 1)] [] [] l = O at OR hW' ⊢
  obtain ⟨ns, rs⟩ := O
  simp only at OR hW' ⊢
  generalize (S.nodes.length : Int) = nl at *
  generalize S.full = fu at *
  clear h hl hWr hs hW
  go_enter Try.func71, Try.ntmps71
  cases fu
  · clear hz LE
    go_upto_region 1 with (fail)
    refine wp_region_seq (fun F hF => ?_)
    have HF := hid hF; clear hF
    repeat (first
      | (apply text_skip; (focus rfl); simp only [Act.put, List.setIfInBounds_toArray, List.set_cons_zero, List.set_cons_succ])
      | (apply text_val; (focus rfl); (focus (intro _ _; go_simp; with_reducible rfl)); simp only [Act.put, List.setIfInBounds_toArray, List.set_cons_zero, List.set_cons_succ])
      | (apply text_call; (focus rfl); (focus (intro _ _; go_simp; exact ⟨rfl, rfl⟩)); (focus (intro _ _; with_reducible (first | exact FU _ (by (repeat' (first | (with_reducible exact Below.refl _ _) | (with_reducible refine Below.ext_mk ?_ ?_ _ _) | (with_reducible refine Below.alloc ?_ ?_ _) | (with_reducible refine Below.drew ?_) | (with_reducible refine Below.setCell ?_ ?_ _) | go_size)))))); simp only [Act.put, List.setIfInBounds_toArray, List.set_cons_zero, List.set_cons_succ])
      | (apply text_if; (focus (first | exact wanted_t rfl rfl | exact wanted_f rfl rfl | exact wanted_gt rfl rfl | exact wanted_gf rfl rfl)); (focus (intro hc _ _; (try simp only [Bool.and_eq_true, Bool.not_eq_true', Bool.true_and] at hc); go_simp; with_reducible rfl)); simp only [Act.put, List.setIfInBounds_toArray, List.set_cons_zero, List.set_cons_succ])
      | (apply text_if_call; (focus (first | exact wanted_t rfl rfl | exact wanted_f rfl rfl | exact wanted_gt rfl rfl | exact wanted_gf rfl rfl)); (focus (intro hc _ _; (try simp only [Bool.and_eq_true, Bool.not_eq_true', Bool.true_and] at hc); go_simp; exact ⟨rfl, rfl⟩)); (focus (intro hc _ _; with_reducible (first | exact FU _ (by (repeat' (first | (with_reducible exact Below.refl _ _) | (with_reducible refine Below.ext_mk ?_ ?_ _ _) | (with_reducible refine Below.alloc ?_ ?_ _) | (with_reducible refine Below.drew ?_) | (with_reducible refine Below.setCell ?_ ?_ _) | go_size)))))); simp only [Act.put, List.setIfInBounds_toArray, List.set_cons_zero, List.set_cons_succ]))
    refine text_nil (HF.out _ (fun mx dx => ?_))
    clear HF F
    clear FU
    go_upto_region 5 with (fail)
    refine wp_gen (fun U hU => ?_)
    have hbU : Below w.heap.size w U := by rw [hU]; (repeat' (first | (with_reducible exact Below.refl _ _) | (with_reducible refine Below.ext_mk ?_ ?_ _ _) | (with_reducible refine Below.alloc ?_ ?_ _) | (with_reducible refine Below.drew ?_) | (with_reducible refine Below.setCell ?_ ?_ _) | go_size))
    have C1 := hid (OR.out U hbU)
    have HBU := hid hbU
    clear hU hbU OR
    refine wp_region_doc (fun F' hF => ?_)
    have HF := hid hF
    clear hF
    iterate 3 (refine doc_val rfl (by first | (go_simp; done) | (go_simp; exact ⟨rfl, rfl⟩) | (go_simp; with_reducible rfl)) ?_; simp only [Act.put, List.setIfInBounds_toArray, List.set_cons_zero, List.set_cons_succ])
    refine doc_call rfl (by first | (go_simp; done) | (go_simp; exact ⟨rfl, rfl⟩) | (go_simp; with_reducible rfl)) ((C1.out).mono ?_)
    rintro _ w2 ⟨s1, s2, rfl, r1, r2, r3⟩
    refine ⟨_, rfl, ?_⟩
    simp only [Act.put, List.setIfInBounds_toArray, List.set_cons_zero, List.set_cons_succ]
    iterate 2 (refine doc_val rfl (by first | (go_simp; done) | (go_simp; exact ⟨rfl, rfl⟩) | (go_simp; with_reducible rfl)) ?_; simp only [Act.put, List.setIfInBounds_toArray, List.set_cons_zero, List.set_cons_succ])
    have C2 := hid (written_any r1 r2 hW'.out)
    have HB2 := hid (HBU.out.trans (r3.mono HBU.out.size))
    clear r1 r2 r3 C1
    refine doc_call rfl (by first | (go_simp; done) | (go_simp; exact ⟨rfl, rfl⟩) | (go_simp; with_reducible rfl)) ((C2.out).mono ?_)
    rintro _ w3 ⟨v, rfl, r1, r2⟩
    refine ⟨_, rfl, ?_⟩
    simp only [Act.put, List.setIfInBounds_toArray, List.set_cons_zero, List.set_cons_succ]
    iterate 2 (refine doc_val rfl (by first | (go_simp; done) | (go_simp; exact ⟨rfl, rfl⟩) | (go_simp; with_reducible rfl)) ?_; simp only [Act.put, List.setIfInBounds_toArray, List.set_cons_zero, List.set_cons_succ])
    refine doc_end (HF.out _ _ ?_)
    clear HF F' C2
    go_wp2_with fail
    go_returns
    exact ⟨v, rfl, r1.mono HB2.out.size, HB2.out.trans (r2.mono HB2.out.size)⟩
  · have hz := hz rfl
    go_upto_region 1 with (fail)
    refine wp_region_seq (fun F hF => ?_)
    have HF := hid hF; clear hF
    repeat (first
      | (apply text_skip; (focus rfl); simp only [Act.put, List.setIfInBounds_toArray, List.set_cons_zero, List.set_cons_succ])
      | (apply text_val; (focus rfl); (focus (intro _ _; go_simp; with_reducible rfl)); simp only [Act.put, List.setIfInBounds_toArray, List.set_cons_zero, List.set_cons_succ])
      | (apply text_call; (focus rfl); (focus (intro _ _; go_simp; exact ⟨rfl, rfl⟩)); (focus (intro _ _; with_reducible (first | exact FU _ (by (repeat' (first | (with_reducible exact Below.refl _ _) | (with_reducible refine Below.ext_mk ?_ ?_ _ _) | (with_reducible refine Below.alloc ?_ ?_ _) | (with_reducible refine Below.drew ?_) | (with_reducible refine Below.setCell ?_ ?_ _) | go_size))) | exact LE _ (by (repeat' (first | (with_reducible exact Below.refl _ _) | (with_reducible refine Below.ext_mk ?_ ?_ _ _) | (with_reducible refine Below.alloc ?_ ?_ _) | (with_reducible refine Below.drew ?_) | (with_reducible refine Below.setCell ?_ ?_ _) | go_size)))))); simp only [Act.put, List.setIfInBounds_toArray, List.set_cons_zero, List.set_cons_succ])
      | (apply text_if; (focus (first | exact wanted_t rfl rfl | exact wanted_f rfl rfl | exact wanted_gt rfl rfl | exact wanted_gf rfl rfl)); (focus (intro hc _ _; (try simp only [Bool.and_eq_true, Bool.not_eq_true', Bool.true_and] at hc); go_simp; with_reducible rfl)); simp only [Act.put, List.setIfInBounds_toArray, List.set_cons_zero, List.set_cons_succ])
      | (apply text_if_call; (focus (first | exact wanted_t rfl rfl | exact wanted_f rfl rfl | exact wanted_gt rfl rfl | exact wanted_gf rfl rfl)); (focus (intro hc _ _; (try simp only [Bool.and_eq_true, Bool.not_eq_true', Bool.true_and] at hc); go_simp; exact ⟨rfl, rfl⟩)); (focus (intro hc _ _; with_reducible (first | exact FU _ (by (repeat' (first | (with_reducible exact Below.refl _ _) | (with_reducible refine Below.ext_mk ?_ ?_ _ _) | (with_reducible refine Below.alloc ?_ ?_ _) | (with_reducible refine Below.drew ?_) | (with_reducible refine Below.setCell ?_ ?_ _) | go_size))) | exact LE _ (by (repeat' (first | (with_reducible exact Below.refl _ _) | (with_reducible refine Below.ext_mk ?_ ?_ _ _) | (with_reducible refine Below.alloc ?_ ?_ _) | (with_reducible refine Below.drew ?_) | (with_reducible refine Below.setCell ?_ ?_ _) | go_size)))))); simp only [Act.put, List.setIfInBounds_toArray, List.set_cons_zero, List.set_cons_succ]))
    refine text_nil (HF.out _ (fun mx dx => ?_))
    clear HF F
    clear FU LE hz
    go_upto_region 5 with (fail)
    refine wp_gen (fun U hU => ?_)
    have hbU : Below w.heap.size w U := by rw [hU]; (repeat' (first | (with_reducible exact Below.refl _ _) | (with_reducible refine Below.ext_mk ?_ ?_ _ _) | (with_reducible refine Below.alloc ?_ ?_ _) | (with_reducible refine Below.drew ?_) | (with_reducible refine Below.setCell ?_ ?_ _) | go_size))
    have C1 := hid (OR.out U hbU)
    have HBU := hid hbU
    clear hU hbU OR
    refine wp_region_doc (fun F' hF => ?_)
    have HF := hid hF
    clear hF
    iterate 3 (refine doc_val rfl (by first | (go_simp; done) | (go_simp; exact ⟨rfl, rfl⟩) | (go_simp; with_reducible rfl)) ?_; simp only [Act.put, List.setIfInBounds_toArray, List.set_cons_zero, List.set_cons_succ])
    refine doc_call rfl (by first | (go_simp; done) | (go_simp; exact ⟨rfl, rfl⟩) | (go_simp; with_reducible rfl)) ((C1.out).mono ?_)
    rintro _ w2 ⟨s1, s2, rfl, r1, r2, r3⟩
    refine ⟨_, rfl, ?_⟩
    simp only [Act.put, List.setIfInBounds_toArray, List.set_cons_zero, List.set_cons_succ]
    iterate 2 (refine doc_val rfl (by first | (go_simp; done) | (go_simp; exact ⟨rfl, rfl⟩) | (go_simp; with_reducible rfl)) ?_; simp only [Act.put, List.setIfInBounds_toArray, List.set_cons_zero, List.set_cons_succ])
    have C2 := hid (written_any r1 r2 hW'.out)
    have HB2 := hid (HBU.out.trans (r3.mono HBU.out.size))
    clear r1 r2 r3 C1
    refine doc_call rfl (by first | (go_simp; done) | (go_simp; exact ⟨rfl, rfl⟩) | (go_simp; with_reducible rfl)) ((C2.out).mono ?_)
    rintro _ w3 ⟨v, rfl, r1, r2⟩
    refine ⟨_, rfl, ?_⟩
    simp only [Act.put, List.setIfInBounds_toArray, List.set_cons_zero, List.set_cons_succ]
    iterate 2 (refine doc_val rfl (by first | (go_simp; done) | (go_simp; exact ⟨rfl, rfl⟩) | (go_simp; with_reducible rfl)) ?_; simp only [Act.put, List.setIfInBounds_toArray, List.set_cons_zero, List.set_cons_succ])
    refine doc_end (HF.out _ _ ?_)
    clear HF F' C2
    go_wp2_with fail
    go_returns
    exact ⟨v, rfl, r1.mono HB2.out.size, HB2.out.trans (r2.mono HB2.out.size)⟩

end
end Go.Proofs.Ytboekafmplomhaa
namespace Go.Proofs.Ytboekafmplomhaa
open Go.RowKit
set_option maxHeartbeats 4000000 in
theorem write_over {S : Sto} {w : World} {p : Nat} {F : List Nat} (h : StoIs w p F S) (hW : Wf S) (hs : Sated S) {a : Option Addr} {n c : Nat} (h64 : 64 < n) :
    Calls Try.prog 71 #[.pointer (some ⟨p, 0, none⟩), .slice a n c] w (Pure (.tuple #[.slice none 0 0, .int .i64 5]) w) := by
  have hc : S.cap ≠ 0 := by have := hW.cap2; omega
  have FU := fun W (hb : Below w.heap.size w W) => full_any (h.below hb) hc
  have LE := fun W (hb : Below w.heap.size w W) => len_any (h.below hb) hc
  have hz : S.full = true → ((S.nodes.length : Int) == 0) = false := fun hf => by
    have h1 := hs hf
    have h2 := hW.cap2
    exact beq_eq_false_iff_ne.2 (by omega)
  have hll : (64 : Int) < (n : Int) := by omega
  generalize (S.nodes.length : Int) = nl at *
  generalize S.full = fu at *
  clear h hs hW
  go_enter Try.func71, Try.ntmps71
  cases fu
  · clear hz LE
    go_upto_region 1 with (fail)
    refine wp_region_seq (fun F hF => ?_)
    have HF := hid hF; clear hF
    repeat (first
      | (apply text_skip; (focus rfl); simp only [Act.put, List.setIfInBounds_toArray, List.set_cons_zero, List.set_cons_succ])
      | (apply text_val; (focus rfl); (focus (intro _ _; go_simp; with_reducible rfl)); simp only [Act.put, List.setIfInBounds_toArray, List.set_cons_zero, List.set_cons_succ])
      | (apply text_call; (focus rfl); (focus (intro _ _; go_simp; exact ⟨rfl, rfl⟩)); (focus (intro _ _; with_reducible (first | exact FU _ (by (repeat' (first | (with_reducible exact Below.refl _ _) | (with_reducible refine Below.ext_mk ?_ ?_ _ _) | (with_reducible refine Below.alloc ?_ ?_ _) | (with_reducible refine Below.drew ?_) | (with_reducible refine Below.setCell ?_ ?_ _) | go_size)))))); simp only [Act.put, List.setIfInBounds_toArray, List.set_cons_zero, List.set_cons_succ])
      | (apply text_if; (focus (first | exact wanted_t rfl rfl | exact wanted_f rfl rfl | exact wanted_gt rfl rfl | exact wanted_gf rfl rfl)); (focus (intro hc _ _; (try simp only [Bool.and_eq_true, Bool.not_eq_true', Bool.true_and] at hc); go_simp; with_reducible rfl)); simp only [Act.put, List.setIfInBounds_toArray, List.set_cons_zero, List.set_cons_succ])
      | (apply text_if_call; (focus (first | exact wanted_t rfl rfl | exact wanted_f rfl rfl | exact wanted_gt rfl rfl | exact wanted_gf rfl rfl)); (focus (intro hc _ _; (try simp only [Bool.and_eq_true, Bool.not_eq_true', Bool.true_and] at hc); go_simp; exact ⟨rfl, rfl⟩)); (focus (intro hc _ _; with_reducible (first | exact FU _ (by (repeat' (first | (with_reducible exact Below.refl _ _) | (with_reducible refine Below.ext_mk ?_ ?_ _ _) | (with_reducible refine Below.alloc ?_ ?_ _) | (with_reducible refine Below.drew ?_) | (with_reducible refine Below.setCell ?_ ?_ _) | go_size)))))); simp only [Act.put, List.setIfInBounds_toArray, List.set_cons_zero, List.set_cons_succ]))
    refine text_nil (HF.out _ (fun mx dx => ?_))
    clear HF F
    clear FU
    go_wp2
    go_returns
    exact Pure.of rfl (by (repeat' (first | (with_reducible exact Below.refl _ _) | (with_reducible refine Below.ext_mk ?_ ?_ _ _) | (with_reducible refine Below.alloc ?_ ?_ _) | (with_reducible refine Below.drew ?_) | (with_reducible refine Below.setCell ?_ ?_ _) | go_size)))
  · have hz := hz rfl
    go_upto_region 1 with (fail)
    refine wp_region_seq (fun F hF => ?_)
    have HF := hid hF; clear hF
    repeat (first
      | (apply text_skip; (focus rfl); simp only [Act.put, List.setIfInBounds_toArray, List.set_cons_zero, List.set_cons_succ])
      | (apply text_val; (focus rfl); (focus (intro _ _; go_simp; with_reducible rfl)); simp only [Act.put, List.setIfInBounds_toArray, List.set_cons_zero, List.set_cons_succ])
      | (apply text_call; (focus rfl); (focus (intro _ _; go_simp; exact ⟨rfl, rfl⟩)); (focus (intro _ _; with_reducible (first | exact FU _ (by (repeat' (first | (with_reducible exact Below.refl _ _) | (with_reducible refine Below.ext_mk ?_ ?_ _ _) | (with_reducible refine Below.alloc ?_ ?_ _) | (with_reducible refine Below.drew ?_) | (with_reducible refine Below.setCell ?_ ?_ _) | go_size))) | exact LE _ (by (repeat' (first | (with_reducible exact Below.refl _ _) | (with_reducible refine Below.ext_mk ?_ ?_ _ _) | (with_reducible refine Below.alloc ?_ ?_ _) | (with_reducible refine Below.drew ?_) | (with_reducible refine Below.setCell ?_ ?_ _) | go_size)))))); simp only [Act.put, List.setIfInBounds_toArray, List.set_cons_zero, List.set_cons_succ])
      | (apply text_if; (focus (first | exact wanted_t rfl rfl | exact wanted_f rfl rfl | exact wanted_gt rfl rfl | exact wanted_gf rfl rfl)); (focus (intro hc _ _; (try simp only [Bool.and_eq_true, Bool.not_eq_true', Bool.true_and] at hc); go_simp; with_reducible rfl)); simp only [Act.put, List.setIfInBounds_toArray, List.set_cons_zero, List.set_cons_succ])
      | (apply text_if_call; (focus (first | exact wanted_t rfl rfl | exact wanted_f rfl rfl | exact wanted_gt rfl rfl | exact wanted_gf rfl rfl)); (focus (intro hc _ _; (try simp only [Bool.and_eq_true, Bool.not_eq_true', Bool.true_and] at hc); go_simp; exact ⟨rfl, rfl⟩)); (focus (intro hc _ _; with_reducible (first | exact FU _ (by (repeat' (first | (with_reducible exact Below.refl _ _) | (with_reducible refine Below.ext_mk ?_ ?_ _ _) | (with_reducible refine Below.alloc ?_ ?_ _) | (with_reducible refine Below.drew ?_) | (with_reducible refine Below.setCell ?_ ?_ _) | go_size))) | exact LE _ (by (repeat' (first | (with_reducible exact Below.refl _ _) | (with_reducible refine Below.ext_mk ?_ ?_ _ _) | (with_reducible refine Below.alloc ?_ ?_ _) | (with_reducible refine Below.drew ?_) | (with_reducible refine Below.setCell ?_ ?_ _) | go_size)))))); simp only [Act.put, List.setIfInBounds_toArray, List.set_cons_zero, List.set_cons_succ]))
    refine text_nil (HF.out _ (fun mx dx => ?_))
    clear HF F
    clear FU LE hz
    go_wp2
    go_returns
    exact Pure.of rfl (by (repeat' (first | (with_reducible exact Below.refl _ _) | (with_reducible refine Below.ext_mk ?_ ?_ _ _) | (with_reducible refine Below.alloc ?_ ?_ _) | (with_reducible refine Below.drew ?_) | (with_reducible refine Below.setCell ?_ ?_ _) | go_size)))
end Go.Proofs.Ytboekafmplomhaa
set_option linter.unusedVariables false
set_option linter.unusedSimpArgs false
namespace Go.Proofs.Ytboekafmplomhaa
open Go.RowKit

theorem setRow_set {w : World} {g : Nat} {cs : List Value} (i : Nat) (v : Value) : (w.setRow g cs.toArray).setCell ⟨g, i, none⟩ v = w.setRow g (cs.set i v).toArray := by
  simp only [World.setRow, World.setCell]
  congr 1
  apply Array.ext_getElem?
  intro k
  simp only [Array.getElem?_modify]
  by_cases e : g = k
  · subst e
    simp only [if_true, Option.map_map]
    cases w.heap[g]? with
    | none => rfl
    | some o => cases o <;> simp
  · simp only [if_neg e]
theorem setRow_same {w : World} {g : Nat} {e : TypeId} {cs : List Value} (h : Blk w g e cs) : w.setRow g cs.toArray = w := by
  unfold Blk at h
  simp only [World.setRow]
  congr 1
  apply Array.ext_getElem?
  intro k
  simp only [Array.getElem?_modify]
  by_cases e : g = k
  · subst e
    rw [if_pos rfl, h]
    rfl
  · rw [if_neg e]
/-- The bytes that are left from a place on. -/
structure CurS (w : World) (b off n c : Nat) (l : List Nat) : Prop where
  len : l.length = n
  cap : n + 4 ≤ c
  max : n ≤ 8388608
  lt : b < w.heap.size
  at_ : ∀ i (h : i < l.length), w.cell? ⟨b, off + i, none⟩ = some (.int .u8 (l[i] : Nat))
  byte : ∀ y ∈ l, y < 256
theorem CurS.keep {w w' : World} {b off n c : Nat} {l : List Nat} (h : CurS w b off n c l) (hk : w'.heap[b]? = w.heap[b]?) (hl : b < w'.heap.size) : CurS w' b off n c l :=
  ⟨h.len, h.cap, h.max, hl, fun i hi => (cell_of_heap _ hk).trans (h.at_ i hi), h.byte⟩
def curV (b off n c j : Nat) : Value := .slice (some ⟨b, off + j, none⟩) (n - j) (c - j)
/-- One byte taken: its value, the place, and whether the bytes had ended. -/
def oneT (l : List Nat) (j : Nat) (bad : Bool) : Nat × Nat × Bool := if j < l.length then (l.getD j 0, j + 1, bad) else (0, j, true)
set_option maxHeartbeats 4000000 in
theorem one_at {w : World} {b off n c j R : Nat} {l : List Nat} {e : TypeId} {bad : Bool} {xs : List Value} (C : CurS w b off n c l) (hR : Blk w R e (curV b off n c j :: .bool bad :: xs)) (hj : j ≤ n) (hbR : b ≠ R) :
    Calls Try.prog 147 #[.pointer (some ⟨R, 0, none⟩)] w
      (fun e w' => e = .returned (.int .i64 ((oneT l j bad).1 : Nat)) ∧ w' = w.setRow R (curV b off n c (oneT l j bad).2.1 :: .bool (oneT l j bad).2.2 :: xs).toArray) := by
  have c0 := hR.cell 0
  have c1 := hR.cell 1
  have f0 := hR.free 0
  have f1 := hR.free 1
  have z := hR.lt
  simp only [List.getElem?_cons_zero, List.getElem?_cons_succ] at c0 c1
  unfold curV at c0
  have HR := hid hR
  have hn := C.len
  have hc := C.cap
  have hm := C.max
  by_cases hlt : j < l.length
  · have e1 : oneT l j bad = (l[j], j + 1, bad) := by unfold oneT; rw [if_pos hlt]; simp [List.getD_eq_getElem?_getD, List.getElem?_eq_getElem hlt]
    rw [e1]
    have cc := C.at_ j hlt
    have hb := C.lt
    have hx := C.byte _ (List.getElem_mem hlt)
    generalize l[j] = x at *
    clear e1 C
    obtain ⟨k, hk⟩ : ∃ k, k = n - j := ⟨_, rfl⟩
    obtain ⟨ck, hck⟩ : ∃ k, k = c - j := ⟨_, rfl⟩
    rw [← hk, ← hck] at c0
    have k1 : ((k : Int) == 0) = false := beq_eq_false_iff_ne.2 (by omega)
    have k2 : ¬ ck = 1 := by omega
    have k3 : (0 : Int) < (k : Int) := by omega
    have k4 : 1 ≤ k := by omega
    have k5 : k ≤ ck := by omega
    have w8 : IntKind.i64.wrap (x : Int) = (x : Int) := IntWalk.i64_in _ (by omega)
    have HK := hid (And.intro hk (And.intro hck hlt))
    clear hk hck hlt hm hc
    go_enter Try.func147, Try.ntmps147
    go_wp2
    go_returns
    refine ⟨rfl, ?_⟩
    have h := setRow_set (w := w) (g := R) (cs := curV b off n c j :: .bool bad :: xs) 0 (.slice (some ⟨b, off + j + 1, none⟩) (k - 1) (ck - 1))
    rw [setRow_same HR.out] at h
    rw [h]
    have e2 : curV b off n c (j + 1) = .slice (some ⟨b, off + j + 1, none⟩) (k - 1) (ck - 1) := by
      unfold curV
      rw [HK.out.1, HK.out.2.1, Nat.sub_sub, Nat.sub_sub, Nat.add_assoc]
    rw [e2]
    rfl
  · have e1 : oneT l j bad = (0, j, true) := by unfold oneT; rw [if_neg hlt]
    rw [e1]
    have e2 : n - j = 0 := by omega
    rw [e2] at c0
    go_enter Try.func147, Try.ntmps147
    go_wp2
    go_returns
    refine ⟨rfl, ?_⟩
    rw [← setRow_same HR.out, setRow_set, setRow_same (HR.out)]
    rfl
theorem heap_setRow_ne {w : World} {g : Nat} (cs : Array Value) {k : Nat} (h : g ≠ k) : (w.setRow g cs).heap[k]? = w.heap[k]? := by
  simp only [World.setRow, Array.getElem?_modify, if_neg h]
theorem setRow_twice {w : World} {g : Nat} {e : TypeId} {xs : List Value} (h : Blk w g e xs) (cs ds : Array Value) : (w.setRow g cs).setRow g ds = w.setRow g ds := by
  simp only [World.setRow]
  congr 1
  apply Array.ext_getElem?
  intro k
  simp only [Array.getElem?_modify]
  by_cases e : g = k
  · subst e
    simp only [if_true, Option.map_map]
    cases w.heap[g]? with
    | none => rfl
    | some o => cases o <;> simp
  · simp only [if_neg e]
def numGT (l : List Nat) (bel : Nat) : Nat → Nat → Nat → Nat → Bool → Nat × Nat × Bool
  | 0, _, n, j, bad => (n, j, bad)
  | k + 1, sh, n, j, bad =>
    if (oneT l j bad).1 < 128 then (n + (oneT l j bad).1 * 2 ^ sh, (oneT l j bad).2.1, (oneT l j bad).2.2 || decide (bel ≤ n + (oneT l j bad).1 * 2 ^ sh) || (decide ((oneT l j bad).1 = 0) && decide (0 < sh)))
    else numGT l bel k (sh + 7) (n + ((oneT l j bad).1 - 128) * 2 ^ sh) (oneT l j bad).2.1 ((oneT l j bad).2.2 || decide (sh = 21))
def numT (l : List Nat) (bel j : Nat) (bad : Bool) : Nat × Nat × Bool :=
  (if (numGT l bel 4 0 0 j bad).2.2 then 0 else (numGT l bel 4 0 0 j bad).1, (numGT l bel 4 0 0 j bad).2.1, (numGT l bel 4 0 0 j bad).2.2)
theorem and127 : ∀ x : Fin 256, bits BinOp.and .i64 ((x.val : Nat) : Int) 127 = ((x.val % 128 : Nat) : Int) := by decide +kernel
theorem or_shift {a y s : Nat} (ha : a < 2 ^ s) (h : a + y * 2 ^ s < 9223372036854775808) : bits BinOp.or .i64 (a : Int) ((y * 2 ^ s : Nat) : Int) = ((a + y * 2 ^ s : Nat) : Int) := by
  have e : a ||| y * 2 ^ s = a + y * 2 ^ s := by
    rw [Nat.mul_comm, Nat.or_comm, ← Nat.two_pow_add_eq_or_of_lt ha, Nat.add_comm]
  have h1 : a % 2 ^ 64 = a := Nat.mod_eq_of_lt (by omega)
  have h2 : y * 2 ^ s % 2 ^ 64 = y * 2 ^ s := Nat.mod_eq_of_lt (by omega)
  simp only [bits, BitVec.ofInt_natCast, BitVec.toNat_or, BitVec.toNat_ofNat, show IntKind.i64.bits = 64 from rfl, h1, h2, e]
  exact IntWalk.i64_in _ (by omega)
theorem oneT_le {l : List Nat} {j : Nat} {bad : Bool} (hj : j ≤ l.length) : (oneT l j bad).2.1 ≤ l.length := by unfold oneT; split <;> simp <;> omega
theorem oneT_byte {l : List Nat} {j : Nat} {bad : Bool} (hl : ∀ y ∈ l, y < 256) : (oneT l j bad).1 < 256 := by
  unfold oneT
  split
  · rename_i h
    have e : l.getD j 0 = l[j] := by simp [List.getD_eq_getElem?_getD, List.getElem?_eq_getElem h]
    show l.getD j 0 < 256
    rw [e]
    exact hl _ (List.getElem_mem _)
  · show 0 < 256
    omega
set_option maxRecDepth 100000 in
set_option maxHeartbeats 8000000 in
theorem number_at {w : World} {b off n c j R : Nat} {l : List Nat} {e : TypeId} {bad : Bool} {xs : List Value} (C : CurS w b off n c l) (hR : Blk w R e (curV b off n c j :: .bool bad :: xs)) (hj : j ≤ n) (hbR : b ≠ R) (bel : Nat) (hbel : bel ≤ 10000000) :
    Calls Try.prog 146 #[.pointer (some ⟨R, 0, none⟩), .int .i64 bel] w
      (fun e w' => e = .returned (.int .i64 ((numT l bel j bad).1 : Nat)) ∧ w' = w.setRow R (curV b off n c (numT l bel j bad).2.1 :: .bool (numT l bel j bad).2.2 :: xs).toArray) := by
  have CH := hid C
  have HR := hid hR
  have hn := C.len
  unfold numT
  obtain ⟨T, hT⟩ : ∃ T, numGT l bel 4 0 0 j bad = T := ⟨_, rfl⟩
  rw [hT]
  have HT := hid hT
  clear C hR hT
  go_enter Try.func146, Try.ntmps146
  go_wp2_with fail
  go_loopw [5, 6] (fun nv sv wr => ∃ (k sh acc j' : Nat) (bad' : Bool), nv = .int .i64 acc ∧ sv = .int .i64 sh ∧ sh + 7 * k = 28 ∧ acc < 2 ^ sh ∧ j' ≤ n ∧ wr = w.setRow R (curV b off n c j' :: .bool bad' :: xs).toArray ∧ numGT l bel k sh acc j' bad' = T) (fun _ sv _ => 28 - (intOf sv).toNat)
  case atStart => exact ⟨4, 0, 0, j, bad, rfl, rfl, by omega, by omega, hj, (setRow_same HR.out).symm, HT.out⟩
  case round =>
    obtain ⟨k, sh, acc, j', bad', rfl, rfl, hsh, hacc, hj', hwr, hg⟩ := hrel
    have bW : Blk wr R e (curV b off n c j' :: .bool bad' :: xs) := by rw [hwr]; exact HR.out.row _
    have CW : CurS wr b off n c l := CH.out.keep (by rw [hwr]; exact heap_setRow_ne _ (fun q => hbR q.symm)) (by rw [hwr]; simpa [World.setRow] using CH.out.lt)
    have c1 := bW.cell 1
    have z := bW.lt
    simp only [List.getElem?_cons_zero, List.getElem?_cons_succ] at c1
    have HG := hid hg
    have HWR := hid hwr
    have BW := hid bW
    cases k with
    | zero =>
      obtain rfl : sh = 28 := by omega
      rw [numGT] at hg
      clear hwr bW
      subst hg
      cases bad'
      · go_wp2
        go_returns
        exact ⟨rfl, HWR.out⟩
      · go_wp2
        go_returns
        exact ⟨rfl, HWR.out⟩
    | succ k =>
      have hs1 : (sh : Int) < 28 := by omega
      have C1 := one_at CW bW hj' hbR
      rw [hwr, setRow_twice HR.out] at C1
      rw [← hwr] at C1
      have hob := oneT_byte (j := j') (bad := bad') CH.out.byte
      have hoj := oneT_le (l := l) (j := j') (bad := bad') (by omega)
      rw [numGT] at hg
      generalize oneT l j' bad' = O at *
      obtain ⟨x, j2, b2⟩ := O
      simp only at C1 hob hoj hg
      obtain ⟨W2, hW2⟩ : ∃ W, W = w.setRow R (curV b off n c j2 :: .bool b2 :: xs).toArray := ⟨_, rfl⟩
      rw [← hW2] at C1
      have bW2 : Blk W2 R e (curV b off n c j2 :: .bool b2 :: xs) := by rw [hW2]; exact HR.out.row _
      have HW2 := hid hW2
      have C1 := hid C1
      have hp : 2 ^ sh ≤ 2097152 := Nat.pow_le_pow_right (n := 2) (by omega) (show sh ≤ 21 by omega)
      obtain ⟨y, hy⟩ : ∃ y, y = x % 128 := ⟨_, rfl⟩
      have ha : bits BinOp.and .i64 (x : Int) 127 = (y : Int) := by rw [hy]; exact and127 ⟨x, hob⟩
      have hyl : y * 2 ^ sh ≤ 127 * 2097152 := Nat.mul_le_mul (by omega) hp
      have ho := or_shift (a := acc) (y := y) (s := sh) hacc (by omega)
      obtain ⟨z, hz⟩ : ∃ z, z = y * 2 ^ sh := ⟨_, rfl⟩
      have hsl : IntKind.i64.wrap ((y : Int) * 2 ^ sh) = (z : Int) := by
        have e : ((y : Int) * 2 ^ sh) = ((y * 2 ^ sh : Nat) : Int) := by simp
        rw [e, hz]
        exact IntWalk.i64_in _ (by omega)
      rw [← hz] at ho hyl
      have c1 := bW2.cell 1
      have f1 := bW2.free 1
      have z1 := bW2.lt
      simp only [List.getElem?_cons_zero, List.getElem?_cons_succ] at c1
      have BW2 := hid bW2
      have hm : acc + z < 300000000 := by omega
      have hs0 : ((sh : Int) : Int) ≤ 64 := by omega
      have HS := hid (And.intro hsh (And.intro hp (And.intro hacc (And.intro hz (And.intro hy hob)))))
      have hset := setRow_set (w := w) (g := R) (cs := curV b off n c j2 :: .bool b2 :: xs) 1
      rw [← hW2] at hset
      have HSET := hid hset
      obtain ⟨m, hm0⟩ : ∃ m, m = acc + z := ⟨_, rfl⟩
      rw [← hm0] at ho hm
      have hcol : m = acc + y * 2 ^ sh := by rw [hm0, hz]
      have HCOL := hid hcol
      clear hwr bW HG CW hW2 bW2 hz hy hset hcol hp hacc hsh hyl hm0
      by_cases hx : x < 128
      · have hx1 : (x : Int) < 128 := by omega
        rw [if_pos hx] at hg
        have e1 : x % 128 = x := Nat.mod_eq_of_lt hx
        have e2 : acc + x * 2 ^ sh = m := by rw [HCOL.out, HS.out.2.2.2.2.1, e1]
        rw [e2] at hg
        have HG := hid hg
        clear hg e1 e2
        obtain ⟨bb, hbb⟩ : ∃ bb, bb = (b2 || decide (bel ≤ m) || (decide (x = 0) && decide (0 < sh))) := ⟨_, rfl⟩
        have hg := HG.out
        rw [← hbb] at hg
        subst hg
        have HBB := hid hbb
        have C2 := C1.out
        clear HG C1 hbb HT HS HCOL
        go_upto_region 6 with ((with_reducible refine C2.mono ?_); clear C2; rintro e w2 ⟨rfl, rfl⟩)
        cases b2
        · by_cases h1 : bel ≤ m
          · have h1' : (bel : Int) ≤ (m : Int) := by omega
            have hb : bb = true := by rw [HBB.out]; simp [h1]
            subst hb
            clear HBB
            go_wp2; go_returns; exact ⟨rfl, HSET.out _⟩
          · have h1' : ¬ (bel : Int) ≤ (m : Int) := by omega
            by_cases h2 : x = 0
            · have h2' : ((x : Int) == 0) = true := by rw [h2]; rfl
              by_cases h3 : 0 < sh
              · have h3' : (0 : Int) < (sh : Int) := by omega
                have hb : bb = true := by rw [HBB.out]; simp [h2, h3]
                subst hb
                clear HBB h2
                go_wp2; go_returns; exact ⟨rfl, HSET.out _⟩
              · have h3' : ¬ (0 : Int) < (sh : Int) := by omega
                have hb : bb = false := by rw [HBB.out]; simp [h1, h2, h3]
                subst hb
                clear HBB h2
                go_wp2; go_returns; exact ⟨rfl, HSET.out _⟩
            · have h2' : ((x : Int) == 0) = false := beq_eq_false_iff_ne.2 (by omega)
              have hb : bb = false := by rw [HBB.out]; simp [h1, h2]
              subst hb
              clear HBB
              go_wp2; go_returns; exact ⟨rfl, HSET.out _⟩
        · have hb : bb = true := by rw [HBB.out]; simp
          subst hb
          clear HBB
          go_wp2; go_returns; exact ⟨rfl, HSET.out _⟩
      · have hx1 : ¬ (x : Int) < 128 := by omega
        rw [if_neg hx] at hg
        have e2 : acc + (x - 128) * 2 ^ sh = m := by rw [HCOL.out, HS.out.2.2.2.2.1, show x % 128 = x - 128 by have := HS.out.2.2.2.2.2; omega]
        rw [e2] at hg
        have hpw : m < 2 ^ (sh + 7) := by
          have h1 : (y + 1) * 2 ^ sh ≤ 128 * 2 ^ sh := Nat.mul_le_mul (by have := HS.out.2.2.2.2.1; omega) (Nat.le_refl _)
          have h2 : (2 : Nat) ^ (sh + 7) = 128 * 2 ^ sh := by rw [Nat.pow_add]; omega
          rw [Nat.add_mul, Nat.one_mul] at h1
          have := HS.out.2.2.1
          rw [HCOL.out, h2]
          omega
        have HPW := hid hpw
        have C2 := C1.out
        clear C1 e2 hpw
        go_upto_region 6 with ((with_reducible refine C2.mono ?_); clear C2; rintro e w2 ⟨rfl, rfl⟩)
        have hsh2 : sh ≤ 21 := by have := HS.out.1; omega
        cases b2
        · by_cases h3 : sh = 21
          · have h3' : ((sh : Int) == 21) = true := by rw [h3]; rfl
            have e3 : decide (sh = 21) = true := by simp [h3]
            have HGG := hid (show numGT l bel k (sh + 7) m j2 true = T by rw [e3] at hg; simpa using hg)
            clear h3 e3
            clear hg
            go_wp2
            go_roundw
            case rel =>
              refine ⟨k, sh + 7, m, j2, true, rfl, by go_num, by have := HS.out.1; omega, HPW.out, by omega, HSET.out _, HGG.out⟩
            case measure => simp [intOf]; omega
          · have h3' : ((sh : Int) == 21) = false := beq_eq_false_iff_ne.2 (by omega)
            have HGG := hid (show numGT l bel k (sh + 7) m j2 false = T by simpa [h3] using hg)
            clear hg
            go_wp2
            go_roundw
            case rel =>
              refine ⟨k, sh + 7, m, j2, false, rfl, by go_num, by have := HS.out.1; omega, HPW.out, by omega, HSET.out _, HGG.out⟩
            case measure => simp [intOf]; omega
        · have HGG := hid (show numGT l bel k (sh + 7) m j2 true = T by simpa using hg)
          clear hg
          go_wp2
          go_roundw
          case rel =>
            refine ⟨k, sh + 7, m, j2, true, rfl, by go_num, by have := HS.out.1; omega, HPW.out, by omega, HSET.out _, HGG.out⟩
          case measure => simp [intOf]; omega
end Go.Proofs.Ytboekafmplomhaa
set_option linter.unusedVariables false
set_option linter.unusedSimpArgs false
namespace Go.Proofs.Ytboekafmplomhaa

theorem oneT_true (l : List Nat) (j : Nat) : (oneT l j true).2.2 = true := by unfold oneT; split <;> rfl
theorem numGT_true (l : List Nat) (bel : Nat) : ∀ (k sh n j : Nat), (numGT l bel k sh n j true).2.2 = true
  | 0, _, _, _ => rfl
  | k + 1, sh, n, j => by
    rw [numGT]
    split
    · simp [oneT_true]
    · rw [oneT_true, Bool.true_or]
      exact numGT_true l bel k _ _ _
theorem numT_true (l : List Nat) (bel j : Nat) : (numT l bel j true).2.2 = true ∧ (numT l bel j true).1 = 0 := by
  unfold numT
  simp [numGT_true]
theorem numGT_le (l : List Nat) (bel : Nat) : ∀ (k sh n j : Nat) (bad : Bool), j ≤ l.length → (numGT l bel k sh n j bad).2.1 ≤ l.length
  | 0, _, _, _, _, h => h
  | k + 1, sh, n, j, bad, h => by
    rw [numGT]
    split
    · exact oneT_le h
    · exact numGT_le l bel k _ _ _ _ (oneT_le h)
theorem numT_le (l : List Nat) (bel : Nat) {j : Nat} (bad : Bool) (h : j ≤ l.length) : (numT l bel j bad).2.1 ≤ l.length := numGT_le l bel 4 0 0 j bad h
theorem numGT_rel (l : List Nat) (bel : Nat) : ∀ (k sh n j : Nat), 1 ≤ k → sh + 7 * k = 28 → j ≤ l.length →
    (numG bel k sh n (l.drop j) = none ∧ (numGT l bel k sh n j false).2.2 = true) ∨ (∃ a j2, j2 ≤ l.length ∧ numG bel k sh n (l.drop j) = some (a, l.drop j2) ∧ numGT l bel k sh n j false = (a, j2, false))
  | 0, _, _, _, h, _, _ => by omega
  | k + 1, sh, n, j, _, hs, hj => by
    rw [numGT]
    by_cases hlt : j < l.length
    · have e1 : oneT l j false = (l[j], j + 1, false) := by unfold oneT; rw [if_pos hlt]; simp [List.getD_eq_getElem?_getD, List.getElem?_eq_getElem hlt]
      rw [e1, List.drop_eq_getElem_cons hlt, numG]
      by_cases hx : l[j] < 128
      · rw [if_pos hx, if_pos hx]
        by_cases hb : bel ≤ n + l[j] * 2 ^ sh ∨ (l[j] = 0 ∧ 0 < sh)
        · rw [if_pos hb]
          refine .inl ⟨rfl, ?_⟩
          rcases hb with h | ⟨h1, h2⟩
          · simp [h]
          · simp [h1, h2]
        · rw [if_neg hb]
          refine .inr ⟨_, j + 1, hlt, rfl, ?_⟩
          simp only [Prod.mk.injEq, true_and]
          have h1 : ¬ bel ≤ n + l[j] * 2 ^ sh := fun q => hb (.inl q)
          by_cases h2 : l[j] = 0
          · have h3 : ¬ 0 < sh := fun q => hb (.inr ⟨h2, q⟩)
            rw [decide_eq_false h1, decide_eq_false h3]
            simp
          · rw [decide_eq_false h1, decide_eq_false h2]
            rfl
      · rw [if_neg hx, if_neg hx]
        by_cases hk : k = 0
        · subst hk
          have : sh = 21 := by omega
          subst this
          exact .inl ⟨rfl, rfl⟩
        · have : ¬ sh = 21 := by omega
          rw [decide_eq_false this]
          exact numGT_rel l bel k (sh + 7) _ (j + 1) (by omega) (by omega) hlt
    · have e1 : oneT l j false = (0, j, true) := by unfold oneT; rw [if_neg hlt]
      have e2 : l.drop j = [] := List.drop_eq_nil_of_le (by omega)
      rw [e1, e2, numG]
      exact .inl ⟨rfl, by simp⟩
theorem numT_rel (l : List Nat) (bel j : Nat) (hj : j ≤ l.length) :
    (numV bel (l.drop j) = none ∧ (numT l bel j false).2.2 = true ∧ (numT l bel j false).1 = 0) ∨ (∃ a j2, j2 ≤ l.length ∧ numV bel (l.drop j) = some (a, l.drop j2) ∧ numT l bel j false = (a, j2, false)) := by
  unfold numV numT
  rcases numGT_rel l bel 4 0 0 j (by omega) (by omega) hj with ⟨h1, h2⟩ | ⟨a, j2, h1, h2, h3⟩
  · exact .inl ⟨h1, h2, by simp [h2]⟩
  · refine .inr ⟨a, j2, h1, h2, ?_⟩
    rw [h3]
    rfl

def tailV (ns : List Nd) (l : List Nat) : Option (List Nd × List Int) :=
  match numV 65 l with
  | none => none
  | some (k, l3) =>
    match rootsG (ns.length + 2) k [] l3 with
    | none => none
    | some (rs, l4) => if l4 = [] then some (ns, rs) else none
def parse1 (m : Nat) (ns : List Nd) (l : List Nat) : Option (List Nd × List Int) :=
  match nodesG m ns l with
  | none => none
  | some (ns', l2) => tailV ns' l2
def parse2 (ns : List Nd) (m : Nat) (rs : List Int) (l : List Nat) : Option (List Nd × List Int) :=
  match rootsG (ns.length + 2) m rs l with
  | none => none
  | some (rs', l4) => if l4 = [] then some (ns, rs') else none
theorem parseV_eq (l : List Nat) : parseV l = match numV 8388608 l with | none => none | some (m, l1) => parse1 m [] l1 := rfl
theorem parse1_zero (ns : List Nd) (l : List Nat) : parse1 0 ns l = tailV ns l := by unfold parse1; rw [nodesG]
theorem tailV_eq (ns : List Nd) (l : List Nat) : tailV ns l = match numV 65 l with | none => none | some (k, l3) => parse2 ns k [] l3 := rfl
theorem parse2_zero (ns : List Nd) (rs : List Int) (l : List Nat) : parse2 ns 0 rs l = if l = [] then some (ns, rs) else none := by unfold parse2; rw [rootsG]
theorem parse2_more (ns : List Nd) (m : Nat) (rs : List Int) (l : List Nat) : parse2 ns (m + 1) rs l = match numV (ns.length + 2) l with | none => none | some (a, l1) => parse2 ns m (rs ++ [(a : Int)]) l1 := by
  unfold parse2
  rw [rootsG]
  cases numV (ns.length + 2) l with
  | none => rfl
  | some p => rfl
theorem parse1_nil (m : Nat) (ns : List Nd) : parse1 (m + 1) ns [] = none := by unfold parse1; rw [nodesG]
theorem parse1_more (m : Nat) (ns : List Nd) (v : Nat) (l1 : List Nat) : parse1 (m + 1) ns (v :: l1) =
    match numV (ns.length + 2) l1 with
    | none => none
    | some (lo, l2) =>
      match numV (ns.length + 2) l2 with
      | none => none
      | some (hi, l3) => if lo = hi ∨ min 64 (min (topR ns lo) (topR ns hi)) ≤ (v : Int) then none else parse1 m (ns ++ [((v : Int), (lo : Int), (hi : Int))]) l3 := by
  unfold parse1
  rw [nodesG]
  cases numV (ns.length + 2) l1 with
  | none => rfl
  | some p =>
    obtain ⟨lo, l2⟩ := p
    simp only
    cases numV (ns.length + 2) l2 with
    | none => rfl
    | some q =>
      obtain ⟨hi, l3⟩ := q
      simp only
      by_cases hc : lo = hi ∨ min 64 (min (topR ns lo) (topR ns hi)) ≤ (v : Int)
      · rw [if_pos hc, if_pos hc]
      · rw [if_neg hc, if_neg hc]
theorem node_rel (l : List Nat) (ns : List Nd) (m : Nat) {j x j1 y2 j2 y3 j3 : Nat} {b1 b2 b3 : Bool} (hj : j ≤ l.length) (O1 : (x, j1, b1) = oneT l j false) (O2 : (y2, j2, b2) = numT l (ns.length + 2) j1 b1) (O3 : (y3, j3, b3) = numT l (ns.length + 2) j2 b2) :
    (b3 = true → parse1 (m + 1) ns (l.drop j) = none) ∧
    (b3 = false → y2 < ns.length + 2 ∧ y3 < ns.length + 2 ∧ x ∈ l ∧ parse1 (m + 1) ns (l.drop j) = if y2 = y3 ∨ min 64 (min (topR ns y2) (topR ns y3)) ≤ (x : Int) then none else parse1 m (ns ++ [((x : Int), (y2 : Int), (y3 : Int))]) (l.drop j3)) := by
  by_cases hlt : j < l.length
  · have e1 : oneT l j false = (l[j], j + 1, false) := by unfold oneT; rw [if_pos hlt]; simp [List.getD_eq_getElem?_getD, List.getElem?_eq_getElem hlt]
    rw [e1] at O1
    cases O1
    rw [List.drop_eq_getElem_cons hlt, parse1_more]
    rcases numT_rel l (ns.length + 2) (j + 1) hlt with ⟨h1, h2, h3⟩ | ⟨a, k, hk, h1, h2⟩
    · rw [← O2] at h2
      cases h2
      have h4 := (numT_true l (ns.length + 2) j2).1
      rw [← O3] at h4
      cases h4
      rw [h1]
      exact ⟨fun _ => rfl, fun h => (by cases h)⟩
    · rw [h2] at O2
      cases O2
      rw [h1]
      simp only
      rcases numT_rel l (ns.length + 2) j2 hk with ⟨g1, g2, g3⟩ | ⟨a', k', hk', g1, g2⟩
      · rw [← O3] at g2
        cases g2
        rw [g1]
        exact ⟨fun _ => rfl, fun h => (by cases h)⟩
      · rw [g2] at O3
        cases O3
        rw [g1]
        exact ⟨fun h => (by cases h), fun _ => ⟨(numV_len h1).2, (numV_len g1).2, List.getElem_mem _, rfl⟩⟩
  · have e1 : oneT l j false = (0, j, true) := by unfold oneT; rw [if_neg hlt]
    rw [e1] at O1
    cases O1
    have h4 := (numT_true l (ns.length + 2) j).1
    rw [← O2] at h4
    cases h4
    have h5 := (numT_true l (ns.length + 2) j2).1
    rw [← O3] at h5
    cases h5
    rw [List.drop_eq_nil_of_le (by omega), parse1_nil]
    exact ⟨fun _ => rfl, fun h => (by cases h)⟩
end Go.Proofs.Ytboekafmplomhaa
