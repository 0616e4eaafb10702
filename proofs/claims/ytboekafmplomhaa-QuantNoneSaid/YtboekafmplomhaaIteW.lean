/-
  Ite's walk.
-/
import Derived.Test.YtboekafmplomhaaNodeC
import Derived.Test.YtboekafmplomhaaPureB
set_option linter.unusedVariables false
set_option linter.unusedSimpArgs false
namespace Go.Proofs.Ytboekafmplomhaa
open Go.RowKit

/-- How a call ends that gives a diagram, or gives up. -/
def endOf : Option Int → Ending
  | some r => .returned (.int .i64 r)
  | none => .panicked overflow

theorem Turned.refl {w : World} {p : Nat} {F : List Nat} {S : Sto} (h : StoIs w p F S) (m : Array Obj) (d : Nat) : Turned w p F S (w.ext m d) :=
  ⟨F, h.ext m d, (StoStep.refl w F).ext m d⟩
theorem Turned.trans {w w' w'' : World} {p : Nat} {F F' : List Nat} {S'' : Sto} (h : StoStep w w' F F') (k : Turned w' p F' S'' w'') : Turned w p F S'' w'' := by
  obtain ⟨F'', k1, k2⟩ := k
  exact ⟨F'', k1, h.trans k2⟩

theorem Turned.after {w w' w'' : World} {p : Nat} {F F' : List Nat} {S'' : Sto} (k : Turned w' p F' S'' w'') (h : StoStep w w' F F') : Turned w p F S'' w'' := Turned.trans h k

theorem node_any {w : World} {p : Nat} {F : List Nat} {S : Sto} (h : StoIs w p F S) (hl : (S.nodes.length : Int) ≤ S.cap) (hc : S.cap ≤ 1048576) (v lo hi : Int) :
    Calls Try.prog 86 #[.pointer (some ⟨p, 0, none⟩), .int .i64 v, .int .i64 lo, .int .i64 hi] w
      (fun e w' => e = endOf (mkN S v lo hi).2 ∧ Turned w p F (mkN S v lo hi).1 w') := by
  unfold mkN
  by_cases e : lo = hi
  · subst e
    rw [if_pos rfl]
    refine (node_same v lo).mono ?_
    rintro e w' ⟨rfl, m, d, rfl⟩
    exact ⟨rfl, Turned.refl h m d⟩
  · rw [if_neg e]
    cases hr : aget S.byn (v, lo, hi) with
    | some r =>
      refine (node_found h v lo hi r e hr).mono ?_
      rintro e w' ⟨rfl, m, d, rfl⟩
      exact ⟨rfl, Turned.refl h m d⟩
    | none =>
      simp only
      by_cases hf : (S.nodes.length : Int) = S.cap
      · rw [if_pos hf]; exact node_full h v lo hi e hr hf
      · rw [if_neg hf]; exact node_new h v lo hi e hr (by omega) hc

theorem low_if (S : Sto) (c a b : Int) : (if topOf S b < if topOf S a < topOf S c then topOf S a else topOf S c then topOf S b else if topOf S a < topOf S c then topOf S a else topOf S c) = low S c a b := by
  unfold low
  by_cases h : topOf S a < topOf S c
  · simp only [h, if_true]
    by_cases k : topOf S b < topOf S a <;> simp only [k, if_true, if_false] <;> omega
  · simp only [h, if_false]
    by_cases k : topOf S b < topOf S c <;> simp only [k, if_true, if_false] <;> omega

section
variable {n : Nat} {S S1 S2 S3 : Sto} {c a b lo hi r : Int}
theorem iteN_1 (e1 : ¬ (c = 1 ∨ a = b)) (e2 : ¬ c = 0) (e3 : ¬ (a = 1 ∧ b = 0)) (ht : aget S.told (c, a, b) = none)
    (h1 : iteN n S (splitOf S c (low S c a b)).1 (splitOf S a (low S c a b)).1 (splitOf S b (low S c a b)).1 = (S1, none)) : iteN (n + 1) S c a b = (S1, none) := by
  simp only [iteN, if_neg e1, if_neg e2, if_neg e3, ht, h1]
theorem iteN_2 (e1 : ¬ (c = 1 ∨ a = b)) (e2 : ¬ c = 0) (e3 : ¬ (a = 1 ∧ b = 0)) (ht : aget S.told (c, a, b) = none)
    (h1 : iteN n S (splitOf S c (low S c a b)).1 (splitOf S a (low S c a b)).1 (splitOf S b (low S c a b)).1 = (S1, some lo))
    (h2 : iteN n S1 (splitOf S c (low S c a b)).2 (splitOf S a (low S c a b)).2 (splitOf S b (low S c a b)).2 = (S2, none)) : iteN (n + 1) S c a b = (S2, none) := by
  simp only [iteN, if_neg e1, if_neg e2, if_neg e3, ht, h1, h2]
theorem iteN_3 (e1 : ¬ (c = 1 ∨ a = b)) (e2 : ¬ c = 0) (e3 : ¬ (a = 1 ∧ b = 0)) (ht : aget S.told (c, a, b) = none)
    (h1 : iteN n S (splitOf S c (low S c a b)).1 (splitOf S a (low S c a b)).1 (splitOf S b (low S c a b)).1 = (S1, some lo))
    (h2 : iteN n S1 (splitOf S c (low S c a b)).2 (splitOf S a (low S c a b)).2 (splitOf S b (low S c a b)).2 = (S2, some hi))
    (h3 : mkN S2 (low S c a b) lo hi = (S3, none)) : iteN (n + 1) S c a b = (S3, none) := by
  simp only [iteN, if_neg e1, if_neg e2, if_neg e3, ht, h1, h2, h3]
theorem iteN_4 (e1 : ¬ (c = 1 ∨ a = b)) (e2 : ¬ c = 0) (e3 : ¬ (a = 1 ∧ b = 0)) (ht : aget S.told (c, a, b) = none)
    (h1 : iteN n S (splitOf S c (low S c a b)).1 (splitOf S a (low S c a b)).1 (splitOf S b (low S c a b)).1 = (S1, some lo))
    (h2 : iteN n S1 (splitOf S c (low S c a b)).2 (splitOf S a (low S c a b)).2 (splitOf S b (low S c a b)).2 = (S2, some hi))
    (h3 : mkN S2 (low S c a b) lo hi = (S3, some r)) : iteN (n + 1) S c a b = ({ S3 with told := aput S3.told (c, a, b) r }, some r) := by
  simp only [iteN, if_neg e1, if_neg e2, if_neg e3, ht, h1, h2, h3]
end

theorem ite_work1 (n : Nat)
    (ih : ∀ (w : World) (p : Nat) (F : List Nat) (S : Sto) (c a b : Int), StoIs w p F S → Wf S → S.has c → S.has a → S.has b → 64 - low S c a b < n →
      Calls Try.prog 88 #[.pointer (some ⟨p, 0, none⟩), .int .i64 c, .int .i64 a, .int .i64 b] w
        (fun e w' => e = endOf (iteN n S c a b).2 ∧ Turned w p F (iteN n S c a b).1 w'))
    {w : World} {p : Nat} {F : List Nat} {S : Sto} {c a b : Int} (h : StoIs w p F S) (hW : Wf S) (hc : S.has c) (ha : S.has a) (hb : S.has b) (hn : 64 - low S c a b < (n + 1 : Nat))
    (e1 : ¬ (c = 1 ∨ a = b)) (e2 : ¬ c = 0) (e3 : ¬ a = 1) (ht : aget S.told (c, a, b) = none) :
    Calls Try.prog 88 #[.pointer (some ⟨p, 0, none⟩), .int .i64 c, .int .i64 a, .int .i64 b] w
      (fun e w' => e = endOf (iteN (n + 1) S c a b).2 ∧ Turned w p F (iteN (n + 1) S c a b).1 w') := by
  have HE := hid (show ¬ (a = 1 ∧ b = 0) by exact fun q => e3 q.1)
  have HE1 := hid e1
  have HE2 := hid e2
  have HT := hid ht
  have f1 : (c == 1) = false := by simp at e1; simpa using e1.1
  have f2 : (a == b) = false := by simp at e1; simpa using e1.2
  have f3 : (c == 0) = false := by simpa using e2
  have f4 : (a == 1) = false := by simpa using e3
  clear e3
  have hl1 : S.nodes.length ≤ 1048576 := by have := hW.len; have := hW.cap; omega
  obtain ⟨sv, G, bm, tm, hA, rfl⟩ := h.at
  obtain ⟨_, _, _, d3, _, _⟩ := hA.cells
  have dp := hA.lt.1
  have hlook : ∀ m d, (Instr.lookup 45 (.map (some tm)) (kv (c, a, b)) true).run Try.prog (w.ext m d) = .ok (.tuple #[.int .i64 0, .bool false]) (w.ext m d) := fun m d => by
    have e := lookup_run (w := w.ext m d) key_three Try.underlying45 (zero_int _) (MapIs.keep hA.told (World.heap_ext _ _ _ hA.lt.2.2.1)) (c, a, b) true
    rw [ht] at e
    exact e
  clear hA
  obtain ⟨l1, l2, l3⟩ := low_le S c a b
  have hl64 : low S c a b < 64 := by
    have hc2 : ¬ c < 2 := fun h2 => by have := hc.1; simp at e1; omega
    obtain ⟨i, m, rfl, hm⟩ := has_node hc hc2
    rw [topOf_node hm] at l1
    have := (hW.node i m hm).v64; omega
  have Sc := hid (split_ok hW hc l1 hl64)
  have Sa := hid (split_ok hW ha l2 hl64)
  have Sb := hid (split_ok hW hb l3 hl64)
  have hlow := low_if S c a b
  have Bc := hc.2
  have Ba := ha.2
  have Bb := hb.2
  clear l1 l2 l3 e1 e2 ht hc ha hb
  go_enter Try.func88, Try.ntmps88
  go_upto_region 7 with (fail)
  refine wp_region_seq (fun F hF => ?_)
  have HF := hid hF; clear hF
  repeat (first
    | (apply text_skip; (focus rfl); simp only [Act.put, List.setIfInBounds_toArray, List.set_cons_zero, List.set_cons_succ])
    | (apply text_val; (focus rfl); (focus (intro _ _; go_simp; with_reducible rfl)); simp only [Act.put, List.setIfInBounds_toArray, List.set_cons_zero, List.set_cons_succ])
    | (apply text_if; (focus (first | exact wanted_t rfl rfl | exact wanted_f rfl rfl | exact wanted_gt rfl rfl | exact wanted_gf rfl rfl)); (focus (intro hc _ _; (try simp only [Bool.and_eq_true, Bool.not_eq_true', Bool.true_and] at hc); go_simp; with_reducible rfl)); simp only [Act.put, List.setIfInBounds_toArray, List.set_cons_zero, List.set_cons_succ]))
  refine text_nil (HF.out _ (fun mx dx => ?_))
  clear HF F
  go_upto_region 10 with (fail)
  refine wp_region_seq (fun F hF => ?_)
  have HF := hid hF; clear hF
  repeat (first
    | (apply text_skip; (focus rfl); simp only [Act.put, List.setIfInBounds_toArray, List.set_cons_zero, List.set_cons_succ])
    | (apply text_val; (focus rfl); (focus (intro _ _; go_simp; with_reducible rfl)); simp only [Act.put, List.setIfInBounds_toArray, List.set_cons_zero, List.set_cons_succ])
    | (apply text_call; (focus rfl); (focus (intro _ _; go_simp; exact ⟨rfl, rfl⟩)); (focus (intro _ _; with_reducible (exact (top_any ((h.ext _ _).ext _ _) hl1 _ (by first | exact Bc | exact Ba | exact Bb))))); simp only [Act.put, List.setIfInBounds_toArray, List.set_cons_zero, List.set_cons_succ])
    | (apply text_if; (focus (first | exact wanted_t rfl rfl | exact wanted_f rfl rfl | exact wanted_gt rfl rfl | exact wanted_gf rfl rfl)); (focus (intro hc _ _; (try simp only [Bool.and_eq_true, Bool.not_eq_true', Bool.true_and] at hc); go_simp; with_reducible rfl)); simp only [Act.put, List.setIfInBounds_toArray, List.set_cons_zero, List.set_cons_succ])
    | (apply text_if_call; (focus (first | exact wanted_t rfl rfl | exact wanted_f rfl rfl | exact wanted_gt rfl rfl | exact wanted_gf rfl rfl)); (focus (intro hc _ _; (try simp only [Bool.and_eq_true, Bool.not_eq_true', Bool.true_and] at hc); go_simp; exact ⟨rfl, rfl⟩)); (focus (intro hc _ _; with_reducible (exact (top_any ((h.ext _ _).ext _ _) hl1 _ (by first | exact Bc | exact Ba | exact Bb))))); simp only [Act.put, List.setIfInBounds_toArray, List.set_cons_zero, List.set_cons_succ]))
  refine text_nil (HF.out _ (fun mx dx => ?_))
  clear HF F
  clear hlow
  go_upto_region 11 with (fail)
  refine wp_gen (fun V hV => ?_)
  have hbV : Below w.heap.size w V := by rw [hV]; ((repeat' (first | (with_reducible exact Below.refl _ _) | (with_reducible refine Below.ext_mk ?_ ?_ _ _) | (with_reducible refine Below.alloc ?_ ?_ _) | (with_reducible refine Below.drew ?_) | (with_reducible refine Below.setCell ?_ ?_ _) | go_size)))
  clear hV
  have hV := h.below hbV
  go_upto_region 14 with (go_at_call 135; refine (split_any (by first | exact hV | exact hV.ext _ _) hl1 _ _ ?_ hl64).mono ?_; (focus (first | exact Bc | exact Ba | exact Bb)); rintro e w' ⟨rfl, m1, d1, rfl⟩)
  refine wp_gen (fun V2 hV2 => ?_)
  have hbV2 : Below V.heap.size V V2 := by rw [hV2]; ((repeat' (first | (with_reducible exact Below.refl _ _) | (with_reducible refine Below.ext_mk ?_ ?_ _ _) | (with_reducible refine Below.alloc ?_ ?_ _) | (with_reducible refine Below.drew ?_) | (with_reducible refine Below.setCell ?_ ?_ _) | go_size)))
  clear hV2
  have hV2 := hV.below hbV2
  have st2 : StoStep w V2 (p :: bm :: tm :: G.toList) (p :: bm :: tm :: G.toList) := (StoStep.of_below hbV).trans (StoStep.of_below hbV2)
  clear hV hbV hbV2 hlook d3
  obtain ⟨c1, c2, c3, c4, c5⟩ := Sc.out
  obtain ⟨a1, a2, a3, a4, a5⟩ := Sa.out
  obtain ⟨b1, b2, b3, b4, b5⟩ := Sb.out
  have fuel1 := lt_low c3 a3 b3
  have fuel2 := lt_low c4 a4 b4
  have I1 := ih V2 p _ S _ _ _ hV2 hW c1 a1 b1 (by omega)
  have O1 := iteN_ok n S _ _ _ hW c1 a1 b1 (by omega)
  clear Sc Sa Sb c3 a3 b3 c5 a5 b5 fuel1 c1 a1 b1
  rcases hR1 : iteN n S (splitOf S c (low S c a b)).1 (splitOf S a (low S c a b)).1 (splitOf S b (low S c a b)).1 with ⟨S1, _ | lo⟩
  · rw [hR1] at I1 O1
    simp only [endOf] at I1
    have HR1 := hid hR1
    clear hR1 O1 ih
    go_wp2_with (go_at_call 88; refine I1.mono ?_; rintro e w' ⟨rfl, hT⟩)
    rw [iteN_1 HE1.out HE2.out HE.out HT.out HR1.out]
    exact ⟨rfl, rfl, hT.after st2⟩
  · rw [hR1] at I1 O1
    have HR1 := hid hR1
    have g1 := O1.grows
    have wf1 := O1.wf
    have k1 := O1.has lo rfl
    have hs1 : S1.nodes.length ≤ 1048576 := by have := wf1.len; have := wf1.cap; simp only at *; omega
    have I2 := fun w F h => ih w p F S1 _ _ _ h wf1 (g1.has c2) (g1.has a2) (g1.has b2) (by rw [g1.low c2 a2 b2]; omega)
    have O2 := iteN_ok n S1 _ _ _ wf1 (g1.has c2) (g1.has a2) (g1.has b2) (by rw [g1.low c2 a2 b2]; omega)
    clear hR1 ih O1 hV2
    simp only [endOf] at I1
    go_upto_region 15 with (go_at_call 88; refine I1.mono ?_; rintro e w' ⟨rfl, F1, hV3, st3⟩)
    have I3 := I2 _ _ hV3
    clear I2 I1
    rcases hR2 : iteN n S1 (splitOf S c (low S c a b)).2 (splitOf S a (low S c a b)).2 (splitOf S b (low S c a b)).2 with ⟨S2, _ | hi⟩
    · rw [hR2] at I3 O2
      simp only [endOf] at I3
      have HR2 := hid hR2
      clear hR2 O2
      go_wp2_with (go_at_call 88; refine I3.mono ?_; rintro e w' ⟨rfl, hT⟩)
      rw [iteN_2 HE1.out HE2.out HE.out HT.out HR1.out HR2.out]
      exact ⟨rfl, rfl, (hT.after st3).after st2⟩
    · rw [hR2] at I3 O2
      simp only [endOf] at I3
      have HR2 := hid hR2
      have g2 := O2.grows
      have wf2 := O2.wf
      have N : ∀ w F, StoIs w p F S2 → _ := fun w F h => node_any h wf2.len wf2.cap (low S c a b) lo hi
      have nl := @mkN_none_len S2 (low S c a b) lo hi
      clear hR2 O2
      rcases hR3 : mkN S2 (low S c a b) lo hi with ⟨S3, _ | r⟩
      · rw [hR3] at N
        simp only [endOf] at N
        have HR3 := hid hR3
        clear hR3 nl
        go_wp2_with (first
          | (go_at_call 88; refine I3.mono ?_; rintro e w' ⟨rfl, F2, hV4, st4⟩)
          | (go_at_call 86; refine (N _ _ hV4).mono ?_; rintro e w' ⟨rfl, hT⟩))
        rw [iteN_3 HE1.out HE2.out HE.out HT.out HR1.out HR2.out HR3.out]
        exact ⟨rfl, rfl, ((hT.after st4).after st3).after st2⟩
      · rw [hR3] at N
        simp only [endOf] at N
        have HR3 := hid hR3
        clear hR3 nl
        go_upto_region 16 with (first
          | (go_at_call 88; refine I3.mono ?_; rintro e w' ⟨rfl, F2, hV4, st4⟩)
          | (go_at_call 86; refine (N _ _ hV4).mono ?_; rintro e w' ⟨rfl, F3, hV5, st5⟩))
        clear I3 N hV3 hV4
        obtain ⟨sv5, G5, bm5, tm5, hB, rfl⟩ := hV5.at
        obtain ⟨_, _, _, y3, _, _⟩ := hB.cells
        have yp := hB.lt.1
        obtain ⟨o, u1, u2⟩ := update_run (t := 45) key_three Try.underlying45 hB.told (c, a, b) r
        have g3 := hB.put_told o u2
        have g4 := StoStep.put (w := w') (F := p :: bm5 :: tm5 :: G5.toList) (b := tm5) (by simp) o
        have G3 := hid g3.is
        have G4 := hid (((st2.trans st3).trans (st4.trans st5)).trans g4)
        clear g3 g4 hB u2 st2 st3 st4 st5
        refine wp_region_do (fun F hF => ?_)
        have HF := hid hF
        clear hF
        repeat (refine do_val rfl (by go_simp; exact ⟨rfl, rfl⟩) ?_; simp only [Act.put, List.setIfInBounds_toArray, List.set_cons_zero, List.set_cons_succ])
        refine do_skip rfl (by go_simp; with_reducible rfl) ?_
        simp only [Act.put, List.setIfInBounds_toArray, List.set_cons_zero, List.set_cons_succ]
        refine do_end (HF.out _ _ ?_)
        clear HF F
        go_wp2
        go_returns
        rw [iteN_4 HE1.out HE2.out HE.out HT.out HR1.out HR2.out HR3.out]
        exact ⟨rfl, _, G3.out, G4.out⟩

theorem ite_work2 (n : Nat)
    (ih : ∀ (w : World) (p : Nat) (F : List Nat) (S : Sto) (c a b : Int), StoIs w p F S → Wf S → S.has c → S.has a → S.has b → 64 - low S c a b < n →
      Calls Try.prog 88 #[.pointer (some ⟨p, 0, none⟩), .int .i64 c, .int .i64 a, .int .i64 b] w
        (fun e w' => e = endOf (iteN n S c a b).2 ∧ Turned w p F (iteN n S c a b).1 w'))
    {w : World} {p : Nat} {F : List Nat} {S : Sto} {c a b : Int} (h : StoIs w p F S) (hW : Wf S) (hc : S.has c) (ha : S.has a) (hb : S.has b) (hn : 64 - low S c a b < (n + 1 : Nat))
    (e1 : ¬ (c = 1 ∨ a = b)) (e2 : ¬ c = 0) (e3 : a = 1) (e4 : ¬ b = 0) (ht : aget S.told (c, a, b) = none) :
    Calls Try.prog 88 #[.pointer (some ⟨p, 0, none⟩), .int .i64 c, .int .i64 a, .int .i64 b] w
      (fun e w' => e = endOf (iteN (n + 1) S c a b).2 ∧ Turned w p F (iteN (n + 1) S c a b).1 w') := by
  have HE := hid (show ¬ (a = 1 ∧ b = 0) by exact fun q => e4 q.2)
  have HE1 := hid e1
  have HE2 := hid e2
  have HT := hid ht
  have f1 : (c == 1) = false := by simp at e1; simpa using e1.1
  have f2 : (a == b) = false := by simp at e1; simpa using e1.2
  have f3 : (c == 0) = false := by simpa using e2
  have f4 : (a == 1) = true := by simpa using e3
  have f5 : (b == 0) = false := by simpa using e4
  clear e3 e4
  have hl1 : S.nodes.length ≤ 1048576 := by have := hW.len; have := hW.cap; omega
  obtain ⟨sv, G, bm, tm, hA, rfl⟩ := h.at
  obtain ⟨_, _, _, d3, _, _⟩ := hA.cells
  have dp := hA.lt.1
  have hlook : ∀ m d, (Instr.lookup 45 (.map (some tm)) (kv (c, a, b)) true).run Try.prog (w.ext m d) = .ok (.tuple #[.int .i64 0, .bool false]) (w.ext m d) := fun m d => by
    have e := lookup_run (w := w.ext m d) key_three Try.underlying45 (zero_int _) (MapIs.keep hA.told (World.heap_ext _ _ _ hA.lt.2.2.1)) (c, a, b) true
    rw [ht] at e
    exact e
  clear hA
  obtain ⟨l1, l2, l3⟩ := low_le S c a b
  have hl64 : low S c a b < 64 := by
    have hc2 : ¬ c < 2 := fun h2 => by have := hc.1; simp at e1; omega
    obtain ⟨i, m, rfl, hm⟩ := has_node hc hc2
    rw [topOf_node hm] at l1
    have := (hW.node i m hm).v64; omega
  have Sc := hid (split_ok hW hc l1 hl64)
  have Sa := hid (split_ok hW ha l2 hl64)
  have Sb := hid (split_ok hW hb l3 hl64)
  have hlow := low_if S c a b
  have Bc := hc.2
  have Ba := ha.2
  have Bb := hb.2
  clear l1 l2 l3 e1 e2 ht hc ha hb
  go_enter Try.func88, Try.ntmps88
  go_upto_region 7 with (fail)
  refine wp_region_seq (fun F hF => ?_)
  have HF := hid hF; clear hF
  repeat (first
    | (apply text_skip; (focus rfl); simp only [Act.put, List.setIfInBounds_toArray, List.set_cons_zero, List.set_cons_succ])
    | (apply text_val; (focus rfl); (focus (intro _ _; go_simp; with_reducible rfl)); simp only [Act.put, List.setIfInBounds_toArray, List.set_cons_zero, List.set_cons_succ])
    | (apply text_if; (focus (first | exact wanted_t rfl rfl | exact wanted_f rfl rfl | exact wanted_gt rfl rfl | exact wanted_gf rfl rfl)); (focus (intro hc _ _; (try simp only [Bool.and_eq_true, Bool.not_eq_true', Bool.true_and] at hc); go_simp; with_reducible rfl)); simp only [Act.put, List.setIfInBounds_toArray, List.set_cons_zero, List.set_cons_succ]))
  refine text_nil (HF.out _ (fun mx dx => ?_))
  clear HF F
  go_upto_region 10 with (fail)
  refine wp_region_seq (fun F hF => ?_)
  have HF := hid hF; clear hF
  repeat (first
    | (apply text_skip; (focus rfl); simp only [Act.put, List.setIfInBounds_toArray, List.set_cons_zero, List.set_cons_succ])
    | (apply text_val; (focus rfl); (focus (intro _ _; go_simp; with_reducible rfl)); simp only [Act.put, List.setIfInBounds_toArray, List.set_cons_zero, List.set_cons_succ])
    | (apply text_call; (focus rfl); (focus (intro _ _; go_simp; exact ⟨rfl, rfl⟩)); (focus (intro _ _; with_reducible (exact (top_any ((h.ext _ _).ext _ _) hl1 _ (by first | exact Bc | exact Ba | exact Bb))))); simp only [Act.put, List.setIfInBounds_toArray, List.set_cons_zero, List.set_cons_succ])
    | (apply text_if; (focus (first | exact wanted_t rfl rfl | exact wanted_f rfl rfl | exact wanted_gt rfl rfl | exact wanted_gf rfl rfl)); (focus (intro hc _ _; (try simp only [Bool.and_eq_true, Bool.not_eq_true', Bool.true_and] at hc); go_simp; with_reducible rfl)); simp only [Act.put, List.setIfInBounds_toArray, List.set_cons_zero, List.set_cons_succ])
    | (apply text_if_call; (focus (first | exact wanted_t rfl rfl | exact wanted_f rfl rfl | exact wanted_gt rfl rfl | exact wanted_gf rfl rfl)); (focus (intro hc _ _; (try simp only [Bool.and_eq_true, Bool.not_eq_true', Bool.true_and] at hc); go_simp; exact ⟨rfl, rfl⟩)); (focus (intro hc _ _; with_reducible (exact (top_any ((h.ext _ _).ext _ _) hl1 _ (by first | exact Bc | exact Ba | exact Bb))))); simp only [Act.put, List.setIfInBounds_toArray, List.set_cons_zero, List.set_cons_succ]))
  refine text_nil (HF.out _ (fun mx dx => ?_))
  clear HF F
  clear hlow
  go_upto_region 11 with (fail)
  refine wp_gen (fun V hV => ?_)
  have hbV : Below w.heap.size w V := by rw [hV]; ((repeat' (first | (with_reducible exact Below.refl _ _) | (with_reducible refine Below.ext_mk ?_ ?_ _ _) | (with_reducible refine Below.alloc ?_ ?_ _) | (with_reducible refine Below.drew ?_) | (with_reducible refine Below.setCell ?_ ?_ _) | go_size)))
  clear hV
  have hV := h.below hbV
  go_upto_region 14 with (go_at_call 135; refine (split_any (by first | exact hV | exact hV.ext _ _) hl1 _ _ ?_ hl64).mono ?_; (focus (first | exact Bc | exact Ba | exact Bb)); rintro e w' ⟨rfl, m1, d1, rfl⟩)
  refine wp_gen (fun V2 hV2 => ?_)
  have hbV2 : Below V.heap.size V V2 := by rw [hV2]; ((repeat' (first | (with_reducible exact Below.refl _ _) | (with_reducible refine Below.ext_mk ?_ ?_ _ _) | (with_reducible refine Below.alloc ?_ ?_ _) | (with_reducible refine Below.drew ?_) | (with_reducible refine Below.setCell ?_ ?_ _) | go_size)))
  clear hV2
  have hV2 := hV.below hbV2
  have st2 : StoStep w V2 (p :: bm :: tm :: G.toList) (p :: bm :: tm :: G.toList) := (StoStep.of_below hbV).trans (StoStep.of_below hbV2)
  clear hV hbV hbV2 hlook d3
  obtain ⟨c1, c2, c3, c4, c5⟩ := Sc.out
  obtain ⟨a1, a2, a3, a4, a5⟩ := Sa.out
  obtain ⟨b1, b2, b3, b4, b5⟩ := Sb.out
  have fuel1 := lt_low c3 a3 b3
  have fuel2 := lt_low c4 a4 b4
  have I1 := ih V2 p _ S _ _ _ hV2 hW c1 a1 b1 (by omega)
  have O1 := iteN_ok n S _ _ _ hW c1 a1 b1 (by omega)
  clear Sc Sa Sb c3 a3 b3 c5 a5 b5 fuel1 c1 a1 b1
  rcases hR1 : iteN n S (splitOf S c (low S c a b)).1 (splitOf S a (low S c a b)).1 (splitOf S b (low S c a b)).1 with ⟨S1, _ | lo⟩
  · rw [hR1] at I1 O1
    simp only [endOf] at I1
    have HR1 := hid hR1
    clear hR1 O1 ih
    go_wp2_with (go_at_call 88; refine I1.mono ?_; rintro e w' ⟨rfl, hT⟩)
    rw [iteN_1 HE1.out HE2.out HE.out HT.out HR1.out]
    exact ⟨rfl, rfl, hT.after st2⟩
  · rw [hR1] at I1 O1
    have HR1 := hid hR1
    have g1 := O1.grows
    have wf1 := O1.wf
    have k1 := O1.has lo rfl
    have hs1 : S1.nodes.length ≤ 1048576 := by have := wf1.len; have := wf1.cap; simp only at *; omega
    have I2 := fun w F h => ih w p F S1 _ _ _ h wf1 (g1.has c2) (g1.has a2) (g1.has b2) (by rw [g1.low c2 a2 b2]; omega)
    have O2 := iteN_ok n S1 _ _ _ wf1 (g1.has c2) (g1.has a2) (g1.has b2) (by rw [g1.low c2 a2 b2]; omega)
    clear hR1 ih O1 hV2
    simp only [endOf] at I1
    go_upto_region 15 with (go_at_call 88; refine I1.mono ?_; rintro e w' ⟨rfl, F1, hV3, st3⟩)
    have I3 := I2 _ _ hV3
    clear I2 I1
    rcases hR2 : iteN n S1 (splitOf S c (low S c a b)).2 (splitOf S a (low S c a b)).2 (splitOf S b (low S c a b)).2 with ⟨S2, _ | hi⟩
    · rw [hR2] at I3 O2
      simp only [endOf] at I3
      have HR2 := hid hR2
      clear hR2 O2
      go_wp2_with (go_at_call 88; refine I3.mono ?_; rintro e w' ⟨rfl, hT⟩)
      rw [iteN_2 HE1.out HE2.out HE.out HT.out HR1.out HR2.out]
      exact ⟨rfl, rfl, (hT.after st3).after st2⟩
    · rw [hR2] at I3 O2
      simp only [endOf] at I3
      have HR2 := hid hR2
      have g2 := O2.grows
      have wf2 := O2.wf
      have N : ∀ w F, StoIs w p F S2 → _ := fun w F h => node_any h wf2.len wf2.cap (low S c a b) lo hi
      have nl := @mkN_none_len S2 (low S c a b) lo hi
      clear hR2 O2
      rcases hR3 : mkN S2 (low S c a b) lo hi with ⟨S3, _ | r⟩
      · rw [hR3] at N
        simp only [endOf] at N
        have HR3 := hid hR3
        clear hR3 nl
        go_wp2_with (first
          | (go_at_call 88; refine I3.mono ?_; rintro e w' ⟨rfl, F2, hV4, st4⟩)
          | (go_at_call 86; refine (N _ _ hV4).mono ?_; rintro e w' ⟨rfl, hT⟩))
        rw [iteN_3 HE1.out HE2.out HE.out HT.out HR1.out HR2.out HR3.out]
        exact ⟨rfl, rfl, ((hT.after st4).after st3).after st2⟩
      · rw [hR3] at N
        simp only [endOf] at N
        have HR3 := hid hR3
        clear hR3 nl
        go_upto_region 16 with (first
          | (go_at_call 88; refine I3.mono ?_; rintro e w' ⟨rfl, F2, hV4, st4⟩)
          | (go_at_call 86; refine (N _ _ hV4).mono ?_; rintro e w' ⟨rfl, F3, hV5, st5⟩))
        clear I3 N hV3 hV4
        obtain ⟨sv5, G5, bm5, tm5, hB, rfl⟩ := hV5.at
        obtain ⟨_, _, _, y3, _, _⟩ := hB.cells
        have yp := hB.lt.1
        obtain ⟨o, u1, u2⟩ := update_run (t := 45) key_three Try.underlying45 hB.told (c, a, b) r
        have g3 := hB.put_told o u2
        have g4 := StoStep.put (w := w') (F := p :: bm5 :: tm5 :: G5.toList) (b := tm5) (by simp) o
        have G3 := hid g3.is
        have G4 := hid (((st2.trans st3).trans (st4.trans st5)).trans g4)
        clear g3 g4 hB u2 st2 st3 st4 st5
        refine wp_region_do (fun F hF => ?_)
        have HF := hid hF
        clear hF
        repeat (refine do_val rfl (by go_simp; exact ⟨rfl, rfl⟩) ?_; simp only [Act.put, List.setIfInBounds_toArray, List.set_cons_zero, List.set_cons_succ])
        refine do_skip rfl (by go_simp; with_reducible rfl) ?_
        simp only [Act.put, List.setIfInBounds_toArray, List.set_cons_zero, List.set_cons_succ]
        refine do_end (HF.out _ _ ?_)
        clear HF F
        go_wp2
        go_returns
        rw [iteN_4 HE1.out HE2.out HE.out HT.out HR1.out HR2.out HR3.out]
        exact ⟨rfl, _, G3.out, G4.out⟩

end Go.Proofs.Ytboekafmplomhaa
