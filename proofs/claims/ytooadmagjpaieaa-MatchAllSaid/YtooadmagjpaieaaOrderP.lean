/-
  The plain law of MatchOrder.
-/
import Derived.Test.YtooadmagjpaieaaLaw11
set_option linter.unusedVariables false
set_option linter.unusedSimpArgs false
namespace Go.Proofs.Ytooadmagjpaieaa

theorem w_meet {v m a b : BitVec 128} (h : withinB v m a b = true) : meetB v m a b = true := by
  simp only [withinB, meetB, Bool.and_eq_true, decide_eq_true_eq] at *
  obtain ⟨h1, rfl⟩ := h
  ext i hi
  have h1 := congrArg (fun x => x.getLsbD i) h1
  simp at h1 ⊢
  cases hv : v[i] <;> cases hm : m[i] <;> cases hb : b[i] <;> simp
theorem w_agrees {v m a b n : BitVec 128} (h : withinB v m a b = true) (h' : agreesB v m n = true) : agreesB a b n = true := by
  simp only [withinB, agreesB, Bool.and_eq_true, decide_eq_true_eq] at *
  obtain ⟨h1, rfl⟩ := h
  subst h'
  rw [BitVec.and_assoc, h1]
theorem w_trans {v m a b c d : BitVec 128} (h : withinB v m a b = true) (h' : withinB a b c d = true) : withinB v m c d = true := by
  simp only [withinB, Bool.and_eq_true, decide_eq_true_eq] at *
  obtain ⟨h1, rfl⟩ := h
  obtain ⟨h2, rfl⟩ := h'
  constructor
  · conv => lhs; rw [← h2]
    rw [← BitVec.and_assoc, h1, h2]
  · conv => lhs; rw [← h2]
    rw [← BitVec.and_assoc]
theorem w_anti {v m a b : BitVec 128} {u : Int} (hm : mayB v m u = true) (h : withinB v m a b = true) (h' : withinB a b v m = true) : v = a ∧ m = b := by
  simp only [withinB, mayB, Bool.and_eq_true, decide_eq_true_eq] at *
  obtain ⟨h1, rfl⟩ := h
  obtain ⟨h2, h3⟩ := h'
  have e : m = b := by rw [← h2, BitVec.and_comm, h1]
  subst e
  exact ⟨hm.2, rfl⟩
theorem a_meet {v m a b n : BitVec 128} (h : agreesB v m n = true) (h' : agreesB a b n = true) : meetB v m a b = true := by
  simp only [agreesB, meetB, decide_eq_true_eq] at *
  subst h; subst h'
  ext i hi
  simp
  cases n[i] <;> cases m[i] <;> cases b[i] <;> simp
theorem w_self {v m : BitVec 128} {u : Int} (hm : mayB v m u = true) : withinB v m v m = true := by
  simp only [withinB, mayB, Bool.and_eq_true, decide_eq_true_eq] at *
  exact ⟨BitVec.and_self, hm.2.symm⟩
theorem order_step1 {av am bv bm cv cm n : BitVec 128} {u : Int} (h : (mayB av am u = true ∧ mayB bv bm u = true) ∧ withinB av am bv bm = true)
    (h' : (((!meetB av am bv bm) = true ∨ agreesB av am n = true ∧ (!agreesB bv bm n) = true) ∨
      (mayB cv cm u = true ∧ withinB bv bm cv cm = true) ∧ (!withinB av am cv cm) = true) ∨
    withinB bv bm av am = true ∧
      ((!decide (hi av = hi bv)) = true ∨
        (!decide (lo av = lo bv)) = true ∨ (!decide (hi am = hi bm)) = true ∨ (!decide (lo am = lo bm)) = true)) : False := by
  obtain ⟨⟨h1, h2⟩, h3⟩ := h
  rcases h' with ((h' | ⟨h4, h5⟩) | ⟨⟨_, h4⟩, h5⟩) | ⟨h4, h5⟩
  · rw [w_meet h3] at h'; cases h'
  · rw [w_agrees h3 h4] at h5; cases h5
  · rw [w_trans h3 h4] at h5; cases h5
  · obtain ⟨rfl, rfl⟩ := w_anti h1 h3 h4
    simp at h5
theorem order_step2 {av am bv bm n : BitVec 128} {u : Int} (h : ((((mayB av am u = true ∧ mayB bv bm u = true) ∧ u ≤ 128) ∧ agreesB av am n = true) ∧ agreesB bv bm n = true) ∧
    (!meetB av am bv bm) = true) : False := by
  obtain ⟨⟨⟨_, h1⟩, h2⟩, h3⟩ := h
  rw [a_meet h1 h2] at h3; cases h3
theorem made_ok {n m pa pb : BitVec 128} {pc u : Int} (h : madeV n m u = .tuple #[pv pa pb, .int .i64 pc]) (h0 : pc = 0) : mayB pa pb u = true ∧ agreesB pa pb n = true := by
  subst h0
  unfold madeV at h
  split at h
  · rename_i hw
    split at h
    · rename_i hf
      simp only [Bool.and_eq_true] at hf
      simp only [pv, Value.tuple.injEq, Value.agg.injEq, List.toArray, Array.mk.injEq, List.cons.injEq, Value.int.injEq, true_and, and_true] at h
      obtain ⟨e1, e2, e3, e4⟩ := h
      have ea := nv_ext e1 e2
      have eb := nv_ext e3 e4
      subst ea; subst eb
      refine ⟨?_, by simp [agreesB]⟩
      obtain ⟨f1, f2⟩ := hf
      simp only [mayB, Bool.and_eq_true, decide_eq_true_eq]
      refine ⟨⟨⟨hw, ?_⟩, f2⟩, ?_⟩
      · simp only [fits, decide_eq_true_eq] at *
        rw [BitVec.and_assoc, f2]
      · rw [BitVec.and_assoc, BitVec.and_self]
    · simp at h
  · simp at h
theorem order_last {av am n pa pb : BitVec 128} {pc u : Int} (h : madeV n am u = .tuple #[pv pa pb, .int .i64 pc]) :
    ((pc != 0 || mayB pa pb u && agreesB pa pb n) && (!mayB av am u || mayB av am u && withinB av am av am && (mayB av am u && meetB av am av am))) = true := by
  have h1 : (pc != 0 || mayB pa pb u && agreesB pa pb n) = true := by
    by_cases h0 : pc = 0
    · obtain ⟨e1, e2⟩ := made_ok h h0
      rw [e1, e2]; simp
    · simp [h0]
  rw [h1]
  cases hm : mayB av am u
  · rfl
  · have e := w_self hm
    rw [e, w_meet e]; rfl
end Go.Proofs.Ytooadmagjpaieaa
