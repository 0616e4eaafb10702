/-
  The plain law of MatchAll.
-/
import Derived.Test.YtooadmagjpaieaaOrderP
set_option linter.unusedVariables false
set_option linter.unusedSimpArgs false
namespace Go.Proofs.Ytooadmagjpaieaa
open Go.RowKit

/-- So far: whether all that agree with one agree with the other; whether some agree with both. -/
def allIn (v m a b : BitVec 128) : Nat → Bool
  | 0 => true
  | k + 1 => allIn v m a b k && (!agreesB v m (BitVec.ofNat 128 k) || agreesB a b (BitVec.ofNat 128 k))
def someIn (v m a b : BitVec 128) : Nat → Bool
  | 0 => false
  | k + 1 => someIn v m a b k || (agreesB v m (BitVec.ofNat 128 k) && agreesB a b (BitVec.ofNat 128 k))
theorem allIn_iff {v m a b : BitVec 128} : ∀ k, allIn v m a b k = true ↔ ∀ j < k, agreesB v m (BitVec.ofNat 128 j) = true → agreesB a b (BitVec.ofNat 128 j) = true
  | 0 => by simp [allIn]
  | k + 1 => by
    simp only [allIn, Bool.and_eq_true, allIn_iff k, Bool.or_eq_true, Bool.not_eq_true']
    constructor
    · rintro ⟨h1, h2⟩ j hj ha
      by_cases e : j = k
      · subst e
        rcases h2 with h2 | h2
        · rw [h2] at ha; cases ha
        · exact h2
      · exact h1 j (by omega) ha
    · intro h
      refine ⟨fun j hj => h j (by omega), ?_⟩
      cases ha : agreesB v m (BitVec.ofNat 128 k)
      · exact .inl rfl
      · exact .inr (h k (by omega) ha)
theorem someIn_iff {v m a b : BitVec 128} : ∀ k, someIn v m a b k = true ↔ ∃ j < k, agreesB v m (BitVec.ofNat 128 j) = true ∧ agreesB a b (BitVec.ofNat 128 j) = true
  | 0 => by simp [someIn]
  | k + 1 => by
    simp only [someIn, Bool.and_eq_true, someIn_iff k, Bool.or_eq_true]
    constructor
    · rintro (⟨j, hj, h⟩ | h)
      · exact ⟨j, by omega, h⟩
      · exact ⟨k, by omega, h⟩
    · rintro ⟨j, hj, h⟩
      by_cases e : j = k
      · subst e; exact .inr h
      · exact .inl ⟨j, by omega, h⟩
theorem mask_nat : ∀ u : Fin 11, 1 ≤ u.val → (maskOf (u.val : Int)).toNat = 2 ^ u.val - 1 := by decide +kernel
theorem fits_lt {n : BitVec 128} {u : Nat} (h1 : 1 ≤ u) (h2 : u ≤ 10) : n &&& maskOf (u : Int) = n ↔ n.toNat < 2 ^ u := by
  have hm := mask_nat ⟨u, by omega⟩ h1
  dsimp only at hm
  constructor
  · intro h
    have := congrArg BitVec.toNat h
    rw [BitVec.toNat_and, hm, Nat.and_two_pow_sub_one_eq_mod] at this
    rw [← this]; exact Nat.mod_lt _ (Nat.two_pow_pos u)
  · intro h
    apply BitVec.eq_of_toNat_eq
    rw [BitVec.toNat_and, hm, Nat.and_two_pow_sub_one_eq_mod, Nat.mod_eq_of_lt h]
theorem all_law {v m a b : BitVec 128} {u : Int} (h1 : 1 ≤ u) (h2 : u ≤ 10) (hv : mayB v m u = true) (ha : mayB a b u = true) :
    withinB v m a b = allIn v m a b (2 ^ u.toNat) ∧ meetB v m a b = someIn v m a b (2 ^ u.toNat) := by
  obtain ⟨k, rfl⟩ := Int.eq_ofNat_of_zero_le (show 0 ≤ u by omega)
  have k1 : 1 ≤ k := by omega
  have k2 : k ≤ 10 := by omega
  simp only [mayB, fits, Bool.and_eq_true, decide_eq_true_eq] at hv ha
  obtain ⟨⟨⟨_, fv⟩, fm⟩, ev⟩ := hv
  obtain ⟨⟨⟨_, fa⟩, fb⟩, ea⟩ := ha
  have lt_of : ∀ n : BitVec 128, n &&& maskOf (k : Int) = n → n.toNat < 2 ^ k := fun n h => (fits_lt k1 k2).1 h
  have nn : ∀ n : BitVec 128, BitVec.ofNat 128 n.toNat = n := fun n => by simp
  rw [show ((k : Nat) : Int).toNat = k by omega]
  constructor
  · rw [Bool.eq_iff_iff, allIn_iff]
    constructor
    · intro h j _ hj; exact w_agrees h hj
    · intro h
      have s1 := h v.toNat (lt_of v fv) (by rw [nn]; simp only [agreesB, decide_eq_true_eq]; exact ev.symm)
      rw [nn] at s1
      simp only [agreesB, decide_eq_true_eq] at s1
      have hx : (v ^^^ (b &&& ~~~m)) &&& maskOf (k : Int) = v ^^^ (b &&& ~~~m) := by
        conv => rhs; rw [← fv, ← fb]
        ext i hi; simp
        cases v[i] <;> cases b[i] <;> cases m[i] <;> cases (maskOf (k : Int))[i] <;> simp
      have s2 := h (v ^^^ (b &&& ~~~m)).toNat (lt_of _ hx) (by
        rw [nn]; simp only [agreesB, decide_eq_true_eq]
        conv => rhs; rw [ev]
        ext i hi; simp
        cases v[i] <;> cases b[i] <;> cases m[i] <;> simp)
      rw [nn] at s2
      simp only [agreesB, decide_eq_true_eq] at s2
      simp only [withinB, Bool.and_eq_true, decide_eq_true_eq]
      refine ⟨?_, s1⟩
      rw [← s1] at s2
      ext i hi
      have := congrArg (fun x => x.getLsbD i) s2
      simp only [BitVec.getLsbD_and, BitVec.getLsbD_xor, BitVec.getLsbD_not, hi, decide_true, Bool.true_and] at this
      rw [← BitVec.getLsbD_eq_getElem hi, ← BitVec.getLsbD_eq_getElem hi, BitVec.getLsbD_and]
      revert this
      generalize v.getLsbD i = x; generalize b.getLsbD i = y; generalize m.getLsbD i = z
      revert x y z
      decide
  · rw [Bool.eq_iff_iff, someIn_iff]
    constructor
    · intro h
      simp only [meetB, decide_eq_true_eq] at h
      have hx : (v ||| a) &&& maskOf (k : Int) = v ||| a := by
        conv => rhs; rw [← fv, ← fa]
        ext i hi; simp
        cases v[i] <;> cases a[i] <;> cases (maskOf (k : Int))[i] <;> simp
      have bits : ∀ i, i < 128 → ((v.getLsbD i ^^ a.getLsbD i) && (m.getLsbD i && b.getLsbD i)) = false ∧ (v.getLsbD i = (v.getLsbD i && m.getLsbD i)) ∧ (a.getLsbD i = (a.getLsbD i && b.getLsbD i)) := fun i hi => by
        have e1 := congrArg (fun x => x.getLsbD i) h
        have e2 := congrArg (fun x => x.getLsbD i) ev
        have e3 := congrArg (fun x => x.getLsbD i) ea
        simp only [BitVec.getLsbD_and, BitVec.getLsbD_xor, BitVec.getLsbD_zero] at e1 e2 e3
        exact ⟨e1, e2, e3⟩
      refine ⟨(v ||| a).toNat, lt_of _ hx, ?_, ?_⟩
      · rw [nn]; simp only [agreesB, decide_eq_true_eq]
        apply BitVec.eq_of_getLsbD_eq
        intro i hi
        have := bits i hi
        simp only [BitVec.getLsbD_and, BitVec.getLsbD_or]
        revert this
        generalize v.getLsbD i = x; generalize m.getLsbD i = y; generalize a.getLsbD i = z; generalize b.getLsbD i = t
        revert x y z t
        decide
      · rw [nn]; simp only [agreesB, decide_eq_true_eq]
        apply BitVec.eq_of_getLsbD_eq
        intro i hi
        have := bits i hi
        simp only [BitVec.getLsbD_and, BitVec.getLsbD_or]
        revert this
        generalize v.getLsbD i = x; generalize m.getLsbD i = y; generalize a.getLsbD i = z; generalize b.getLsbD i = t
        revert x y z t
        decide
    · rintro ⟨j, _, h1, h2⟩
      exact a_meet h1 h2
theorem wrap_pow {u : Int} (h1 : 1 ≤ u) (h2 : u ≤ 10) : IntKind.u64.wrap (2 ^ u.toNat) = ((2 ^ u.toNat : Nat) : Int) := by
  obtain ⟨k, rfl⟩ := Int.eq_ofNat_of_zero_le (show 0 ≤ u by omega)
  have k2 : k ≤ 10 := by omega
  have : ∀ k : Fin 11, IntKind.u64.wrap (2 ^ ((k.val : Nat) : Int).toNat) = ((2 ^ ((k.val : Nat) : Int).toNat : Nat) : Int) := by decide +kernel
  exact this ⟨k, by omega⟩
theorem all_last {av am bv bm : BitVec 128} {u : Int} {N : Nat} (hc : ((1 ≤ u ∧ u ≤ 10) ∧ (!mayB av am u) = false) ∧ (!mayB bv bm u) = false) (hN : IntKind.u64.wrap (2 ^ u.toNat) = (N : Int)) :
    ((mayB av am u && mayB bv bm u && withinB av am bv bm) == allIn av am bv bm N && (mayB av am u && mayB bv bm u && meetB av am bv bm) == someIn av am bv bm N) = true := by
  obtain ⟨⟨⟨h1, h2⟩, h3⟩, h4⟩ := hc
  have e3 : mayB av am u = true := by simpa using h3
  have e4 : mayB bv bm u = true := by simpa using h4
  have e : N = 2 ^ u.toNat := by
    rw [wrap_pow h1 h2] at hN
    exact (Int.ofNat.inj hN).symm
  obtain ⟨l1, l2⟩ := all_law h1 h2 e3 e4
  rw [e3, e4, e, l1, l2]
  simp
end Go.Proofs.Ytooadmagjpaieaa
