/-
  Ite's walk.
-/
import Derived.Test.YtboekafmplomhaaZNodeC
import Derived.Test.YtboekafmplomhaaZPureB
import Derived.Defers
import Derived.Recover
import Derived.StillTailTactics
set_option linter.unusedVariables false
set_option linter.unusedSimpArgs false
namespace Go.Proofs.Ytboekafmplomhaa
open Go.RowKit

/-- How a call ends that gives a diagram, or gives up. -/
def endOf : Option Int → Ending
  | some r => .returned (.int .i64 r)
  | none => .panicked overflow

theorem Turned.refl {w : World} {p : Nat} {F : List Nat} {S : Sto} (h : StoIs w p F S) (m : Array Obj) (d : Nat) : Turned w p F S (w.ext m d) :=
  ⟨F, h.ext m d, (StoStep.refl w F).ext m d⟩
theorem Turned.trans {w w' w'' : World} {p : Nat} {F F' : List Nat} {S'' : Sto} (h : StoStep w w' F F') (k : Turned w' p F' S'' w'') : Turned w p F S'' w'' := by
  obtain ⟨F'', k1, k2⟩ := k
  exact ⟨F'', k1, h.trans k2⟩

theorem Turned.after {w w' w'' : World} {p : Nat} {F F' : List Nat} {S'' : Sto} (k : Turned w' p F' S'' w'') (h : StoStep w w' F F') : Turned w p F S'' w'' := Turned.trans h k

theorem node_any {w : World} {p : Nat} {F : List Nat} {S : Sto} (h : StoIs w p F S) (hl : (S.nodes.length : Int) ≤ S.cap) (hc : S.cap ≤ 1048576) (v lo hi : Int) :
    Calls Try.prog 86 #[.pointer (some ⟨p, 0, none⟩), .int .i64 v, .int .i64 lo, .int .i64 hi] w
      (fun e w' => e = endOf (mkN S v lo hi).2 ∧ Turned w p F (mkN S v lo hi).1 w') := by
  unfold mkN
  by_cases e : lo = hi
  · subst e
    rw [if_pos rfl]
    refine (node_same v lo).mono ?_
    rintro e w' ⟨rfl, m, d, rfl⟩
    exact ⟨rfl, Turned.refl h m d⟩
  · rw [if_neg e]
    cases hr : aget S.byn (v, lo, hi) with
    | some r =>
      refine (node_found h v lo hi r e hr).mono ?_
      rintro e w' ⟨rfl, m, d, rfl⟩
      exact ⟨rfl, Turned.refl h m d⟩
    | none =>
      simp only
      by_cases hf : (S.nodes.length : Int) = S.cap
      · rw [if_pos hf]; exact node_full h v lo hi e hr hf
      · rw [if_neg hf]; exact node_new h v lo hi e hr (by omega) hc

theorem low_if (S : Sto) (c a b : Int) : (if topOf S b < if topOf S a < topOf S c then topOf S a else topOf S c then topOf S b else if topOf S a < topOf S c then topOf S a else topOf S c) = low S c a b := by
  unfold low
  by_cases h : topOf S a < topOf S c
  · simp only [h, if_true]
    by_cases k : topOf S b < topOf S a <;> simp only [k, if_true, if_false] <;> omega
  · simp only [h, if_false]
    by_cases k : topOf S b < topOf S c <;> simp only [k, if_true, if_false] <;> omega

section
variable {n : Nat} {S S1 S2 S3 : Sto} {c a b lo hi r : Int}
theorem iteN_1 (e1 : ¬ (c = 1 ∨ a = b)) (e2 : ¬ c = 0) (e3 : ¬ (a = 1 ∧ b = 0)) (ht : aget S.told (c, a, b) = none)
    (h1 : iteN n S (splitOf S c (low S c a b)).1 (splitOf S a (low S c a b)).1 (splitOf S b (low S c a b)).1 = (S1, none)) : iteN (n + 1) S c a b = (S1, none) := by
  simp only [iteN, if_neg e1, if_neg e2, if_neg e3, ht, h1]
theorem iteN_2 (e1 : ¬ (c = 1 ∨ a = b)) (e2 : ¬ c = 0) (e3 : ¬ (a = 1 ∧ b = 0)) (ht : aget S.told (c, a, b) = none)
    (h1 : iteN n S (splitOf S c (low S c a b)).1 (splitOf S a (low S c a b)).1 (splitOf S b (low S c a b)).1 = (S1, some lo))
    (h2 : iteN n S1 (splitOf S c (low S c a b)).2 (splitOf S a (low S c a b)).2 (splitOf S b (low S c a b)).2 = (S2, none)) : iteN (n + 1) S c a b = (S2, none) := by
  simp only [iteN, if_neg e1, if_neg e2, if_neg e3, ht, h1, h2]
theorem iteN_3 (e1 : ¬ (c = 1 ∨ a = b)) (e2 : ¬ c = 0) (e3 : ¬ (a = 1 ∧ b = 0)) (ht : aget S.told (c, a, b) = none)
    (h1 : iteN n S (splitOf S c (low S c a b)).1 (splitOf S a (low S c a b)).1 (splitOf S b (low S c a b)).1 = (S1, some lo))
    (h2 : iteN n S1 (splitOf S c (low S c a b)).2 (splitOf S a (low S c a b)).2 (splitOf S b (low S c a b)).2 = (S2, some hi))
    (h3 : mkN S2 (low S c a b) lo hi = (S3, none)) : iteN (n + 1) S c a b = (S3, none) := by
  simp only [iteN, if_neg e1, if_neg e2, if_neg e3, ht, h1, h2, h3]
theorem iteN_4 (e1 : ¬ (c = 1 ∨ a = b)) (e2 : ¬ c = 0) (e3 : ¬ (a = 1 ∧ b = 0)) (ht : aget S.told (c, a, b) = none)
    (h1 : iteN n S (splitOf S c (low S c a b)).1 (splitOf S a (low S c a b)).1 (splitOf S b (low S c a b)).1 = (S1, some lo))
    (h2 : iteN n S1 (splitOf S c (low S c a b)).2 (splitOf S a (low S c a b)).2 (splitOf S b (low S c a b)).2 = (S2, some hi))
    (h3 : mkN S2 (low S c a b) lo hi = (S3, some r)) : iteN (n + 1) S c a b = ({ S3 with told := aput S3.told (c, a, b) r }, some r) := by
  simp only [iteN, if_neg e1, if_neg e2, if_neg e3, ht, h1, h2, h3]
end

theorem ite_work1 (n : Nat)
    (ih : ∀ (w : World) (p : Nat) (F : List Nat) (S : Sto) (c a b : Int), StoIs w p F S → Wf S → S.has c → S.has a → S.has b → 64 - low S c a b < n →
      Calls Try.prog 88 #[.pointer (some ⟨p, 0, none⟩), .int .i64 c, .int .i64 a, .int .i64 b] w
        (fun e w' => e = endOf (iteN n S c a b).2 ∧ Turned w p F (iteN n S c a b).1 w'))
    {w : World} {p : Nat} {F : List Nat} {S : Sto} {c a b : Int} (h : StoIs w p F S) (hW : Wf S) (hc : S.has c) (ha : S.has a) (hb : S.has b) (hn : 64 - low S c a b < (n + 1 : Nat))
    (e1 : ¬ (c = 1 ∨ a = b)) (e2 : ¬ c = 0) (e3 : ¬ a = 1) (ht : aget S.told (c, a, b) = none) :
    Calls Try.prog 88 #[.pointer (some ⟨p, 0, none⟩), .int .i64 c, .int .i64 a, .int .i64 b] w
      (fun e w' => e = endOf (iteN (n + 1) S c a b).2 ∧ Turned w p F (iteN (n + 1) S c a b).1 w') := by
  have HE := hid (show ¬ (a = 1 ∧ b = 0) by exact fun q => e3 q.1)
  have HE1 := hid e1
  have HE2 := hid e2
  have HT := hid ht
  have f1 : (c == 1) = false := by simp at e1; simpa using e1.1
  have f2 : (a == b) = false := by simp at e1; simpa using e1.2
  have f3 : (c == 0) = false := by simpa using e2
  have f4 : (a == 1) = false := by simpa using e3
  clear e3
  have hl1 : S.nodes.length ≤ 1048576 := by have := hW.len; have := hW.cap; omega
  obtain ⟨sv, G, bm, tm, hA, rfl⟩ := h.at
  obtain ⟨_, _, _, d3, _, _⟩ := hA.cells
  have dp := hA.lt.1
  have hlook : ∀ m d, (Instr.lookup 45 (.map (some tm)) (kv (c, a, b)) true).run Try.prog (w.ext m d) = .ok (.tuple #[.int .i64 0, .bool false]) (w.ext m d) := fun m d => by
    have e := lookup_run (w := w.ext m d) key_three Try.underlying45 (zero_int _) (MapIs.keep hA.told (World.heap_ext _ _ _ hA.lt.2.2.1)) (c, a, b) true
    rw [ht] at e
    exact e
  clear hA
  obtain ⟨l1, l2, l3⟩ := low_le S c a b
  have hl64 : low S c a b < 64 := by
    have hc2 : ¬ c < 2 := fun h2 => by have := hc.1; simp at e1; omega
    obtain ⟨i, m, rfl, hm⟩ := has_node hc hc2
    rw [topOf_node hm] at l1
    have := (hW.node i m hm).v64; omega
  have Sc := hid (split_ok hW hc l1 hl64)
  have Sa := hid (split_ok hW ha l2 hl64)
  have Sb := hid (split_ok hW hb l3 hl64)
  have hlow := low_if S c a b
  have Bc := hc.2
  have Ba := ha.2
  have Bb := hb.2
  clear l1 l2 l3 e1 e2 ht hc ha hb
  go_enter Try.func88, Try.ntmps88
  go_upto_region 7 with (fail)
  refine wp_region_seq (fun F hF => ?_)
  have HF := hid hF; clear hF
  repeat (first
    | (apply text_skip; (focus rfl); simp only [Act.put, List.setIfInBounds_toArray, List.set_cons_zero, List.set_cons_succ])
    | (apply text_val; (focus rfl); (focus (intro _ _; go_simp; with_reducible rfl)); simp only [Act.put, List.setIfInBounds_toArray, List.set_cons_zero, List.set_cons_succ])
    | (apply text_if; (focus (first | exact wanted_t rfl rfl | exact wanted_f rfl rfl | exact wanted_gt rfl rfl | exact wanted_gf rfl rfl)); (focus (intro hc _ _; (try simp only [Bool.and_eq_true, Bool.not_eq_true', Bool.true_and] at hc); go_simp; with_reducible rfl)); simp only [Act.put, List.setIfInBounds_toArray, List.set_cons_zero, List.set_cons_succ]))
  refine text_nil (HF.out _ (fun mx dx => ?_))
  clear HF F
  go_upto_region 10 with (fail)
  refine wp_region_seq (fun F hF => ?_)
  have HF := hid hF; clear hF
  repeat (first
    | (apply text_skip; (focus rfl); simp only [Act.put, List.setIfInBounds_toArray, List.set_cons_zero, List.set_cons_succ])
    | (apply text_val; (focus rfl); (focus (intro _ _; go_simp; with_reducible rfl)); simp only [Act.put, List.setIfInBounds_toArray, List.set_cons_zero, List.set_cons_succ])
    | (apply text_call; (focus rfl); (focus (intro _ _; go_simp; exact ⟨rfl, rfl⟩)); (focus (intro _ _; with_reducible (exact (top_any ((h.ext _ _).ext _ _) hl1 _ (by first | exact Bc | exact Ba | exact Bb))))); simp only [Act.put, List.setIfInBounds_toArray, List.set_cons_zero, List.set_cons_succ])
    | (apply text_if; (focus (first | exact wanted_t rfl rfl | exact wanted_f rfl rfl | exact wanted_gt rfl rfl | exact wanted_gf rfl rfl)); (focus (intro hc _ _; (try simp only [Bool.and_eq_true, Bool.not_eq_true', Bool.true_and] at hc); go_simp; with_reducible rfl)); simp only [Act.put, List.setIfInBounds_toArray, List.set_cons_zero, List.set_cons_succ])
    | (apply text_if_call; (focus (first | exact wanted_t rfl rfl | exact wanted_f rfl rfl | exact wanted_gt rfl rfl | exact wanted_gf rfl rfl)); (focus (intro hc _ _; (try simp only [Bool.and_eq_true, Bool.not_eq_true', Bool.true_and] at hc); go_simp; exact ⟨rfl, rfl⟩)); (focus (intro hc _ _; with_reducible (exact (top_any ((h.ext _ _).ext _ _) hl1 _ (by first | exact Bc | exact Ba | exact Bb))))); simp only [Act.put, List.setIfInBounds_toArray, List.set_cons_zero, List.set_cons_succ]))
  refine text_nil (HF.out _ (fun mx dx => ?_))
  clear HF F
  clear hlow
  go_upto_region 11 with (fail)
  refine wp_gen (fun V hV => ?_)
  have hbV : Below w.heap.size w V := by rw [hV]; ((repeat' (first | (with_reducible exact Below.refl _ _) | (with_reducible refine Below.ext_mk ?_ ?_ _ _) | (with_reducible refine Below.alloc ?_ ?_ _) | (with_reducible refine Below.drew ?_) | (with_reducible refine Below.setCell ?_ ?_ _) | go_size)))
  clear hV
  have hV := h.below hbV
  go_upto_region 14 with (go_at_call 135; refine (split_any (by first | exact hV | exact hV.ext _ _) hl1 _ _ ?_ hl64).mono ?_; (focus (first | exact Bc | exact Ba | exact Bb)); rintro e w' ⟨rfl, m1, d1, rfl⟩)
  refine wp_gen (fun V2 hV2 => ?_)
  have hbV2 : Below V.heap.size V V2 := by rw [hV2]; ((repeat' (first | (with_reducible exact Below.refl _ _) | (with_reducible refine Below.ext_mk ?_ ?_ _ _) | (with_reducible refine Below.alloc ?_ ?_ _) | (with_reducible refine Below.drew ?_) | (with_reducible refine Below.setCell ?_ ?_ _) | go_size)))
  clear hV2
  have hV2 := hV.below hbV2
  have st2 : StoStep w V2 (p :: bm :: tm :: G.toList) (p :: bm :: tm :: G.toList) := (StoStep.of_below hbV).trans (StoStep.of_below hbV2)
  clear hV hbV hbV2 hlook d3
  obtain ⟨c1, c2, c3, c4, c5⟩ := Sc.out
  obtain ⟨a1, a2, a3, a4, a5⟩ := Sa.out
  obtain ⟨b1, b2, b3, b4, b5⟩ := Sb.out
  have fuel1 := lt_low c3 a3 b3
  have fuel2 := lt_low c4 a4 b4
  have I1 := ih V2 p _ S _ _ _ hV2 hW c1 a1 b1 (by omega)
  have O1 := iteN_ok n S _ _ _ hW c1 a1 b1 (by omega)
  clear Sc Sa Sb c3 a3 b3 c5 a5 b5 fuel1 c1 a1 b1
  rcases hR1 : iteN n S (splitOf S c (low S c a b)).1 (splitOf S a (low S c a b)).1 (splitOf S b (low S c a b)).1 with ⟨S1, _ | lo⟩
  · rw [hR1] at I1 O1
    simp only [endOf] at I1
    have HR1 := hid hR1
    clear hR1 O1 ih
    go_wp2_with (go_at_call 88; refine I1.mono ?_; rintro e w' ⟨rfl, hT⟩)
    rw [iteN_1 HE1.out HE2.out HE.out HT.out HR1.out]
    exact ⟨rfl, rfl, hT.after st2⟩
  · rw [hR1] at I1 O1
    have HR1 := hid hR1
    have g1 := O1.grows
    have wf1 := O1.wf
    have k1 := O1.has lo rfl
    have hs1 : S1.nodes.length ≤ 1048576 := by have := wf1.len; have := wf1.cap; simp only at *; omega
    have I2 := fun w F h => ih w p F S1 _ _ _ h wf1 (g1.has c2) (g1.has a2) (g1.has b2) (by rw [g1.low c2 a2 b2]; omega)
    have O2 := iteN_ok n S1 _ _ _ wf1 (g1.has c2) (g1.has a2) (g1.has b2) (by rw [g1.low c2 a2 b2]; omega)
    clear hR1 ih O1 hV2
    simp only [endOf] at I1
    go_upto_region 15 with (go_at_call 88; refine I1.mono ?_; rintro e w' ⟨rfl, F1, hV3, st3⟩)
    have I3 := I2 _ _ hV3
    clear I2 I1
    rcases hR2 : iteN n S1 (splitOf S c (low S c a b)).2 (splitOf S a (low S c a b)).2 (splitOf S b (low S c a b)).2 with ⟨S2, _ | hi⟩
    · rw [hR2] at I3 O2
      simp only [endOf] at I3
      have HR2 := hid hR2
      clear hR2 O2
      go_wp2_with (go_at_call 88; refine I3.mono ?_; rintro e w' ⟨rfl, hT⟩)
      rw [iteN_2 HE1.out HE2.out HE.out HT.out HR1.out HR2.out]
      exact ⟨rfl, rfl, (hT.after st3).after st2⟩
    · rw [hR2] at I3 O2
      simp only [endOf] at I3
      have HR2 := hid hR2
      have g2 := O2.grows
      have wf2 := O2.wf
      have N : ∀ w F, StoIs w p F S2 → _ := fun w F h => node_any h wf2.len wf2.cap (low S c a b) lo hi
      have nl := @mkN_none_len S2 (low S c a b) lo hi
      clear hR2 O2
      rcases hR3 : mkN S2 (low S c a b) lo hi with ⟨S3, _ | r⟩
      · rw [hR3] at N
        simp only [endOf] at N
        have HR3 := hid hR3
        clear hR3 nl
        go_wp2_with (first
          | (go_at_call 88; refine I3.mono ?_; rintro e w' ⟨rfl, F2, hV4, st4⟩)
          | (go_at_call 86; refine (N _ _ hV4).mono ?_; rintro e w' ⟨rfl, hT⟩))
        rw [iteN_3 HE1.out HE2.out HE.out HT.out HR1.out HR2.out HR3.out]
        exact ⟨rfl, rfl, ((hT.after st4).after st3).after st2⟩
      · rw [hR3] at N
        simp only [endOf] at N
        have HR3 := hid hR3
        clear hR3 nl
        go_upto_region 16 with (first
          | (go_at_call 88; refine I3.mono ?_; rintro e w' ⟨rfl, F2, hV4, st4⟩)
          | (go_at_call 86; refine (N _ _ hV4).mono ?_; rintro e w' ⟨rfl, F3, hV5, st5⟩))
        clear I3 N hV3 hV4
        obtain ⟨sv5, G5, bm5, tm5, hB, rfl⟩ := hV5.at
        obtain ⟨_, _, _, y3, _, _⟩ := hB.cells
        have yp := hB.lt.1
        obtain ⟨o, u1, u2⟩ := update_run (t := 45) key_three Try.underlying45 hB.told (c, a, b) r
        have g3 := hB.put_told o u2
        have g4 := StoStep.put (w := w') (F := p :: bm5 :: tm5 :: G5.toList) (b := tm5) (by simp) o
        have G3 := hid g3.is
        have G4 := hid (((st2.trans st3).trans (st4.trans st5)).trans g4)
        clear g3 g4 hB u2 st2 st3 st4 st5
        refine wp_region_do (fun F hF => ?_)
        have HF := hid hF
        clear hF
        repeat (refine do_val rfl (by go_simp; exact ⟨rfl, rfl⟩) ?_; simp only [Act.put, List.setIfInBounds_toArray, List.set_cons_zero, List.set_cons_succ])
        refine do_skip rfl (by go_simp; with_reducible rfl) ?_
        simp only [Act.put, List.setIfInBounds_toArray, List.set_cons_zero, List.set_cons_succ]
        refine do_end (HF.out _ _ ?_)
        clear HF F
        go_wp2
        go_returns
        rw [iteN_4 HE1.out HE2.out HE.out HT.out HR1.out HR2.out HR3.out]
        exact ⟨rfl, _, G3.out, G4.out⟩

theorem ite_work2 (n : Nat)
    (ih : ∀ (w : World) (p : Nat) (F : List Nat) (S : Sto) (c a b : Int), StoIs w p F S → Wf S → S.has c → S.has a → S.has b → 64 - low S c a b < n →
      Calls Try.prog 88 #[.pointer (some ⟨p, 0, none⟩), .int .i64 c, .int .i64 a, .int .i64 b] w
        (fun e w' => e = endOf (iteN n S c a b).2 ∧ Turned w p F (iteN n S c a b).1 w'))
    {w : World} {p : Nat} {F : List Nat} {S : Sto} {c a b : Int} (h : StoIs w p F S) (hW : Wf S) (hc : S.has c) (ha : S.has a) (hb : S.has b) (hn : 64 - low S c a b < (n + 1 : Nat))
    (e1 : ¬ (c = 1 ∨ a = b)) (e2 : ¬ c = 0) (e3 : a = 1) (e4 : ¬ b = 0) (ht : aget S.told (c, a, b) = none) :
    Calls Try.prog 88 #[.pointer (some ⟨p, 0, none⟩), .int .i64 c, .int .i64 a, .int .i64 b] w
      (fun e w' => e = endOf (iteN (n + 1) S c a b).2 ∧ Turned w p F (iteN (n + 1) S c a b).1 w') := by
  have HE := hid (show ¬ (a = 1 ∧ b = 0) by exact fun q => e4 q.2)
  have HE1 := hid e1
  have HE2 := hid e2
  have HT := hid ht
  have f1 : (c == 1) = false := by simp at e1; simpa using e1.1
  have f2 : (a == b) = false := by simp at e1; simpa using e1.2
  have f3 : (c == 0) = false := by simpa using e2
  have f4 : (a == 1) = true := by simpa using e3
  have f5 : (b == 0) = false := by simpa using e4
  clear e3 e4
  have hl1 : S.nodes.length ≤ 1048576 := by have := hW.len; have := hW.cap; omega
  obtain ⟨sv, G, bm, tm, hA, rfl⟩ := h.at
  obtain ⟨_, _, _, d3, _, _⟩ := hA.cells
  have dp := hA.lt.1
  have hlook : ∀ m d, (Instr.lookup 45 (.map (some tm)) (kv (c, a, b)) true).run Try.prog (w.ext m d) = .ok (.tuple #[.int .i64 0, .bool false]) (w.ext m d) := fun m d => by
    have e := lookup_run (w := w.ext m d) key_three Try.underlying45 (zero_int _) (MapIs.keep hA.told (World.heap_ext _ _ _ hA.lt.2.2.1)) (c, a, b) true
    rw [ht] at e
    exact e
  clear hA
  obtain ⟨l1, l2, l3⟩ := low_le S c a b
  have hl64 : low S c a b < 64 := by
    have hc2 : ¬ c < 2 := fun h2 => by have := hc.1; simp at e1; omega
    obtain ⟨i, m, rfl, hm⟩ := has_node hc hc2
    rw [topOf_node hm] at l1
    have := (hW.node i m hm).v64; omega
  have Sc := hid (split_ok hW hc l1 hl64)
  have Sa := hid (split_ok hW ha l2 hl64)
  have Sb := hid (split_ok hW hb l3 hl64)
  have hlow := low_if S c a b
  have Bc := hc.2
  have Ba := ha.2
  have Bb := hb.2
  clear l1 l2 l3 e1 e2 ht hc ha hb
  go_enter Try.func88, Try.ntmps88
  go_upto_region 7 with (fail)
  refine wp_region_seq (fun F hF => ?_)
  have HF := hid hF; clear hF
  repeat (first
    | (apply text_skip; (focus rfl); simp only [Act.put, List.setIfInBounds_toArray, List.set_cons_zero, List.set_cons_succ])
    | (apply text_val; (focus rfl); (focus (intro _ _; go_simp; with_reducible rfl)); simp only [Act.put, List.setIfInBounds_toArray, List.set_cons_zero, List.set_cons_succ])
    | (apply text_if; (focus (first | exact wanted_t rfl rfl | exact wanted_f rfl rfl | exact wanted_gt rfl rfl | exact wanted_gf rfl rfl)); (focus (intro hc _ _; (try simp only [Bool.and_eq_true, Bool.not_eq_true', Bool.true_and] at hc); go_simp; with_reducible rfl)); simp only [Act.put, List.setIfInBounds_toArray, List.set_cons_zero, List.set_cons_succ]))
  refine text_nil (HF.out _ (fun mx dx => ?_))
  clear HF F
  go_upto_region 10 with (fail)
  refine wp_region_seq (fun F hF => ?_)
  have HF := hid hF; clear hF
  repeat (first
    | (apply text_skip; (focus rfl); simp only [Act.put, List.setIfInBounds_toArray, List.set_cons_zero, List.set_cons_succ])
    | (apply text_val; (focus rfl); (focus (intro _ _; go_simp; with_reducible rfl)); simp only [Act.put, List.setIfInBounds_toArray, List.set_cons_zero, List.set_cons_succ])
    | (apply text_call; (focus rfl); (focus (intro _ _; go_simp; exact ⟨rfl, rfl⟩)); (focus (intro _ _; with_reducible (exact (top_any ((h.ext _ _).ext _ _) hl1 _ (by first | exact Bc | exact Ba | exact Bb))))); simp only [Act.put, List.setIfInBounds_toArray, List.set_cons_zero, List.set_cons_succ])
    | (apply text_if; (focus (first | exact wanted_t rfl rfl | exact wanted_f rfl rfl | exact wanted_gt rfl rfl | exact wanted_gf rfl rfl)); (focus (intro hc _ _; (try simp only [Bool.and_eq_true, Bool.not_eq_true', Bool.true_and] at hc); go_simp; with_reducible rfl)); simp only [Act.put, List.setIfInBounds_toArray, List.set_cons_zero, List.set_cons_succ])
    | (apply text_if_call; (focus (first | exact wanted_t rfl rfl | exact wanted_f rfl rfl | exact wanted_gt rfl rfl | exact wanted_gf rfl rfl)); (focus (intro hc _ _; (try simp only [Bool.and_eq_true, Bool.not_eq_true', Bool.true_and] at hc); go_simp; exact ⟨rfl, rfl⟩)); (focus (intro hc _ _; with_reducible (exact (top_any ((h.ext _ _).ext _ _) hl1 _ (by first | exact Bc | exact Ba | exact Bb))))); simp only [Act.put, List.setIfInBounds_toArray, List.set_cons_zero, List.set_cons_succ]))
  refine text_nil (HF.out _ (fun mx dx => ?_))
  clear HF F
  clear hlow
  go_upto_region 11 with (fail)
  refine wp_gen (fun V hV => ?_)
  have hbV : Below w.heap.size w V := by rw [hV]; ((repeat' (first | (with_reducible exact Below.refl _ _) | (with_reducible refine Below.ext_mk ?_ ?_ _ _) | (with_reducible refine Below.alloc ?_ ?_ _) | (with_reducible refine Below.drew ?_) | (with_reducible refine Below.setCell ?_ ?_ _) | go_size)))
  clear hV
  have hV := h.below hbV
  go_upto_region 14 with (go_at_call 135; refine (split_any (by first | exact hV | exact hV.ext _ _) hl1 _ _ ?_ hl64).mono ?_; (focus (first | exact Bc | exact Ba | exact Bb)); rintro e w' ⟨rfl, m1, d1, rfl⟩)
  refine wp_gen (fun V2 hV2 => ?_)
  have hbV2 : Below V.heap.size V V2 := by rw [hV2]; ((repeat' (first | (with_reducible exact Below.refl _ _) | (with_reducible refine Below.ext_mk ?_ ?_ _ _) | (with_reducible refine Below.alloc ?_ ?_ _) | (with_reducible refine Below.drew ?_) | (with_reducible refine Below.setCell ?_ ?_ _) | go_size)))
  clear hV2
  have hV2 := hV.below hbV2
  have st2 : StoStep w V2 (p :: bm :: tm :: G.toList) (p :: bm :: tm :: G.toList) := (StoStep.of_below hbV).trans (StoStep.of_below hbV2)
  clear hV hbV hbV2 hlook d3
  obtain ⟨c1, c2, c3, c4, c5⟩ := Sc.out
  obtain ⟨a1, a2, a3, a4, a5⟩ := Sa.out
  obtain ⟨b1, b2, b3, b4, b5⟩ := Sb.out
  have fuel1 := lt_low c3 a3 b3
  have fuel2 := lt_low c4 a4 b4
  have I1 := ih V2 p _ S _ _ _ hV2 hW c1 a1 b1 (by omega)
  have O1 := iteN_ok n S _ _ _ hW c1 a1 b1 (by omega)
  clear Sc Sa Sb c3 a3 b3 c5 a5 b5 fuel1 c1 a1 b1
  rcases hR1 : iteN n S (splitOf S c (low S c a b)).1 (splitOf S a (low S c a b)).1 (splitOf S b (low S c a b)).1 with ⟨S1, _ | lo⟩
  · rw [hR1] at I1 O1
    simp only [endOf] at I1
    have HR1 := hid hR1
    clear hR1 O1 ih
    go_wp2_with (go_at_call 88; refine I1.mono ?_; rintro e w' ⟨rfl, hT⟩)
    rw [iteN_1 HE1.out HE2.out HE.out HT.out HR1.out]
    exact ⟨rfl, rfl, hT.after st2⟩
  · rw [hR1] at I1 O1
    have HR1 := hid hR1
    have g1 := O1.grows
    have wf1 := O1.wf
    have k1 := O1.has lo rfl
    have hs1 : S1.nodes.length ≤ 1048576 := by have := wf1.len; have := wf1.cap; simp only at *; omega
    have I2 := fun w F h => ih w p F S1 _ _ _ h wf1 (g1.has c2) (g1.has a2) (g1.has b2) (by rw [g1.low c2 a2 b2]; omega)
    have O2 := iteN_ok n S1 _ _ _ wf1 (g1.has c2) (g1.has a2) (g1.has b2) (by rw [g1.low c2 a2 b2]; omega)
    clear hR1 ih O1 hV2
    simp only [endOf] at I1
    go_upto_region 15 with (go_at_call 88; refine I1.mono ?_; rintro e w' ⟨rfl, F1, hV3, st3⟩)
    have I3 := I2 _ _ hV3
    clear I2 I1
    rcases hR2 : iteN n S1 (splitOf S c (low S c a b)).2 (splitOf S a (low S c a b)).2 (splitOf S b (low S c a b)).2 with ⟨S2, _ | hi⟩
    · rw [hR2] at I3 O2
      simp only [endOf] at I3
      have HR2 := hid hR2
      clear hR2 O2
      go_wp2_with (go_at_call 88; refine I3.mono ?_; rintro e w' ⟨rfl, hT⟩)
      rw [iteN_2 HE1.out HE2.out HE.out HT.out HR1.out HR2.out]
      exact ⟨rfl, rfl, (hT.after st3).after st2⟩
    · rw [hR2] at I3 O2
      simp only [endOf] at I3
      have HR2 := hid hR2
      have g2 := O2.grows
      have wf2 := O2.wf
      have N : ∀ w F, StoIs w p F S2 → _ := fun w F h => node_any h wf2.len wf2.cap (low S c a b) lo hi
      have nl := @mkN_none_len S2 (low S c a b) lo hi
      clear hR2 O2
      rcases hR3 : mkN S2 (low S c a b) lo hi with ⟨S3, _ | r⟩
      · rw [hR3] at N
        simp only [endOf] at N
        have HR3 := hid hR3
        clear hR3 nl
        go_wp2_with (first
          | (go_at_call 88; refine I3.mono ?_; rintro e w' ⟨rfl, F2, hV4, st4⟩)
          | (go_at_call 86; refine (N _ _ hV4).mono ?_; rintro e w' ⟨rfl, hT⟩))
        rw [iteN_3 HE1.out HE2.out HE.out HT.out HR1.out HR2.out HR3.out]
        exact ⟨rfl, rfl, ((hT.after st4).after st3).after st2⟩
      · rw [hR3] at N
        simp only [endOf] at N
        have HR3 := hid hR3
        clear hR3 nl
        go_upto_region 16 with (first
          | (go_at_call 88; refine I3.mono ?_; rintro e w' ⟨rfl, F2, hV4, st4⟩)
          | (go_at_call 86; refine (N _ _ hV4).mono ?_; rintro e w' ⟨rfl, F3, hV5, st5⟩))
        clear I3 N hV3 hV4
        obtain ⟨sv5, G5, bm5, tm5, hB, rfl⟩ := hV5.at
        obtain ⟨_, _, _, y3, _, _⟩ := hB.cells
        have yp := hB.lt.1
        obtain ⟨o, u1, u2⟩ := update_run (t := 45) key_three Try.underlying45 hB.told (c, a, b) r
        have g3 := hB.put_told o u2
        have g4 := StoStep.put (w := w') (F := p :: bm5 :: tm5 :: G5.toList) (b := tm5) (by simp) o
        have G3 := hid g3.is
        have G4 := hid (((st2.trans st3).trans (st4.trans st5)).trans g4)
        clear g3 g4 hB u2 st2 st3 st4 st5
        refine wp_region_do (fun F hF => ?_)
        have HF := hid hF
        clear hF
        repeat (refine do_val rfl (by go_simp; exact ⟨rfl, rfl⟩) ?_; simp only [Act.put, List.setIfInBounds_toArray, List.set_cons_zero, List.set_cons_succ])
        refine do_skip rfl (by go_simp; with_reducible rfl) ?_
        simp only [Act.put, List.setIfInBounds_toArray, List.set_cons_zero, List.set_cons_succ]
        refine do_end (HF.out _ _ ?_)
        clear HF F
        go_wp2
        go_returns
        rw [iteN_4 HE1.out HE2.out HE.out HT.out HR1.out HR2.out HR3.out]
        exact ⟨rfl, _, G3.out, G4.out⟩

end Go.Proofs.Ytboekafmplomhaa
set_option linter.unusedVariables false
set_option linter.unusedSimpArgs false
namespace Go.Proofs.Ytboekafmplomhaa
open Go.RowKit

theorem ite_any : ∀ (n : Nat) (w : World) (p : Nat) (F : List Nat) (S : Sto) (c a b : Int), StoIs w p F S → Wf S → S.has c → S.has a → S.has b → 64 - low S c a b < n →
    Calls Try.prog 88 #[.pointer (some ⟨p, 0, none⟩), .int .i64 c, .int .i64 a, .int .i64 b] w
      (fun e w' => e = endOf (iteN n S c a b).2 ∧ Turned w p F (iteN n S c a b).1 w') := by
  intro n
  induction n with
  | zero => intro w p F S c a b h hW hc ha hb hn; have := (low_le S c a b).1; have := topOf_le hW hc; omega
  | succ n ih =>
    intro w p F S c a b h hW hc ha hb hn
    have hT : Turned w p F S w := ⟨F, h, StoStep.refl w F⟩
    by_cases e1 : c = 1 ∨ a = b
    · rw [show iteN (n + 1) S c a b = (S, some a) by simp only [iteN, if_pos e1]]
      clear ih
      by_cases e0 : c = 1
      · clear e1
        subst e0
        go_enter Try.func88, Try.ntmps88
        go_wp2
        go_returns
        exact ⟨rfl, hT⟩
      · have e2 : a = b := by simpa [e0] using e1
        have e0' : (c == 1) = false := by simpa using e0
        clear e1
        subst e2
        go_enter Try.func88, Try.ntmps88
        go_wp2
        go_returns
        exact ⟨rfl, hT⟩
    · skip
      have f1 : (c == 1) = false := by simp at e1; simpa using e1.1
      have f2 : (a == b) = false := by simp at e1; simpa using e1.2
      by_cases e2 : c = 0
      · rw [show iteN (n + 1) S c a b = (S, some b) by simp only [iteN, if_neg e1, if_pos e2]]
        clear ih e1
        subst e2
        go_enter Try.func88, Try.ntmps88
        go_wp2
        go_returns
        exact ⟨rfl, hT⟩
      · skip
        have f3 : (c == 0) = false := by simpa using e2
        by_cases e3 : a = 1 ∧ b = 0
        · rw [show iteN (n + 1) S c a b = (S, some c) by simp only [iteN, if_neg e1, if_neg e2, if_pos e3]]
          obtain ⟨rfl, rfl⟩ := e3
          clear ih e1
          go_enter Try.func88, Try.ntmps88
          go_wp2
          go_returns
          exact ⟨rfl, hT⟩
        · cases ht : aget S.told (c, a, b) with
          | none =>
            by_cases q : a = 1
            · exact ite_work2 n ih h hW hc ha hb hn e1 e2 q (fun q' => e3 ⟨q, q'⟩) ht
            · exact ite_work1 n ih h hW hc ha hb hn e1 e2 q ht
          | some r =>
          rw [show iteN (n + 1) S c a b = (S, some r) by simp only [iteN, if_neg e1, if_neg e2, if_neg e3, ht]]
          have f4 : (a == 1) = false ∨ ((a == 1) = true ∧ (b == 0) = false) := by
            by_cases q : a = 1
            · exact .inr ⟨by simpa using q, by simpa [q] using e3⟩
            · exact .inl (by simpa using q)
          obtain ⟨sv, G, bm, tm, hA, rfl⟩ := h.at
          obtain ⟨_, _, _, d3, _, _⟩ := hA.cells
          have dp := hA.lt.1
          have hlook : ∀ m d, (Instr.lookup 45 (.map (some tm)) (kv (c, a, b)) true).run Try.prog (w.ext m d) = .ok (.tuple #[.int .i64 ((aget S.told (c, a, b)).getD 0), .bool (aget S.told (c, a, b)).isSome]) (w.ext m d) := fun m d =>
            lookup_run (w := w.ext m d) key_three Try.underlying45 (zero_int _) (MapIs.keep hA.told (World.heap_ext _ _ _ hA.lt.2.2.1)) (c, a, b) true
          clear hA
          have hl1 : S.nodes.length ≤ 1048576 := by have := hW.len; have := hW.cap; omega
          · simp only [ht, Option.getD_some, Option.isSome_some] at hlook
            clear ih e1 e2 e3 hn hc ha hb ht hW hl1
            go_enter Try.func88, Try.ntmps88
            rcases f4 with f4 | ⟨f4, f5⟩
            all_goals
              go_upto_region 7 with (fail)
              refine wp_region_seq (fun F hF => ?_)
              have HF := hid hF; clear hF
              repeat (first
                | (apply text_skip; (focus rfl); simp only [Act.put, List.setIfInBounds_toArray, List.set_cons_zero, List.set_cons_succ])
                | (apply text_val; (focus rfl); (focus (intro _ _; go_simp; with_reducible rfl)); simp only [Act.put, List.setIfInBounds_toArray, List.set_cons_zero, List.set_cons_succ])
                | (apply text_if; (focus (first | exact wanted_t rfl rfl | exact wanted_f rfl rfl | exact wanted_gt rfl rfl | exact wanted_gf rfl rfl)); (focus (intro hc _ _; (try simp only [Bool.and_eq_true, Bool.not_eq_true', Bool.true_and] at hc); go_simp; with_reducible rfl)); simp only [Act.put, List.setIfInBounds_toArray, List.set_cons_zero, List.set_cons_succ]))
              refine text_nil (HF.out _ (fun mx dx => ?_))
              clear HF F
              go_wp2
              go_returns
              exact ⟨rfl, Turned.refl h _ _⟩

end Go.Proofs.Ytboekafmplomhaa
set_option linter.unusedVariables false
set_option linter.unusedSimpArgs false
namespace Go.Proofs.Ytboekafmplomhaa
open Go.RowKit

theorem assert_overflow (w : World) : (Instr.typeAssert (.iface 159 (.agg #[])) 20 159 true).run Try.prog w = .ok (.tuple #[.agg #[], .bool true]) w := by kernel_rfl
theorem catch_panicking (b : Nat) (x : Int) (w : World) (hb : b < w.heap.size) (hc : w.cell? ⟨b, 0, none⟩ = some (.int .i64 x)) (hz : w.frozen? ⟨b, 0, none⟩ = false) :
    CallsD Try.prog 133 #[.pointer (some ⟨b, 0, none⟩)] (.panicking overflow) w fun e u' w' =>
      e = .returned (.tuple #[]) ∧ u' = .panicking [{ v := .iface 159 (.agg #[]), recovered := true }] ∧ ∃ m d, w' = (w.setCell ⟨b, 0, none⟩ (.int .i64 0)).ext m d := by
  refine callsD_of_wpS Try.func133 rfl fun c₀ cs hu => ?_
  apply wpS_seq
  apply wpS_region
  simp [wpOpsS, go_sem, recoverD, hu, Try.ntmps133, Exit.thenS]
  refine wpS_of_wp ?_
  simp only [List.replicate, Array.replicate]
  go_upto_region 2 with (fail)
  refine wp_region_do (fun F hF => ?_)
  have HF := hid hF
  clear hF
  refine do_val rfl (by go_simp; exact ⟨rfl, rfl⟩) ?_
  simp only [Act.put, List.setIfInBounds_toArray, List.set_cons_zero, List.set_cons_succ]
  refine do_val (v := .tuple #[.agg #[], .bool true]) (W1 := w) rfl (by kernel_rfl) ?_
  simp only [Act.put, List.setIfInBounds_toArray, List.set_cons_zero, List.set_cons_succ]
  repeat (refine do_val rfl (by go_simp; exact ⟨rfl, rfl⟩) ?_; simp only [Act.put, List.setIfInBounds_toArray, List.set_cons_zero, List.set_cons_succ])
  refine do_skip (W1 := w.alloc (Obj.cells #[] 159)) rfl (by first | (go_simp; done) | (go_simp; with_reducible rfl) | kernel_rfl) ?_
  simp only [Act.put, List.setIfInBounds_toArray, List.set_cons_zero, List.set_cons_succ]
  refine do_val rfl (by go_simp; exact ⟨rfl, rfl⟩) ?_
  simp only [Act.put, List.setIfInBounds_toArray, List.set_cons_zero, List.set_cons_succ]
  refine do_end (HF.out _ _ ?_)
  clear HF F
  go_wp2
  simp [bodyPostS, results, Try.results133]
  exact ⟨_, _, World.alloc_is_ext _ _⟩
theorem catch_idle (p : Addr) (w : World) :
    CallsD Try.prog 133 #[.pointer (some p)] .returning w fun e u' w' => e = .returned (.tuple #[]) ∧ u' = .returning ∧ w' = w := by
  refine callsD_of_wpS Try.func133 rfl fun c₀ cs hu => ?_
  apply wpS_seq
  apply wpS_region
  simp [wpOpsS, go_sem, recoverD, hu, Try.ntmps133, Exit.thenS]
  refine wpS_of_wp ?_
  simp only [List.replicate, Array.replicate]
  go_wp2
  cases c₀
  simp_all [bodyPostS, results, Try.results133]

/-- What a call of a closure, with no arguments, does. -/
def Acts (fn : FuncId) (cap : Array Value) (w : World) (p : Nat) (F : List Nat) (R : Sto × Option Int) : Prop :=
  Calls Try.prog fn cap w (fun e w' => e = endOf R.2 ∧ Turned w p F R.1 w')

theorem made_full {w : World} {p : Nat} {F : List Nat} {S : Sto} (h : StoIs w p F S) (hc : S.cap ≠ 0) (hf : S.full = true) (k : FuncId) (cap : Array Value) :
    Calls Try.prog 84 #[.pointer (some ⟨p, 0, none⟩), .func (.func k) #[] cap] w (Pure (.int .i64 0) w) := by
  go_enter_defers Try.func84, Try.ntmps84
  go_upto_region 1 with (fail)
  refine wp_gen (fun V hV => ?_)
  have hbV : Below w.heap.size w V := by rw [hV]; ((repeat' (first | (with_reducible exact Below.refl _ _) | (with_reducible refine Below.ext_mk ?_ ?_ _ _) | (with_reducible refine Below.alloc ?_ ?_ _) | (with_reducible refine Below.drew ?_) | (with_reducible refine Below.setCell ?_ ?_ _) | go_size)))
  have zV0 : w.heap.size < V.heap.size := by rw [hV]; first | (simp; done) | (simp; omega)
  have cV0_0 : V.cell? ⟨w.heap.size, 0, none⟩ = some (.int .i64 0) := by rw [hV]; first | (go_simp; done) | (rw [World.cell?_alloc_past _ _ _ (by first | (simp; done) | (simp; omega))]; go_simp)
  have fV0_0 : V.frozen? ⟨w.heap.size, 0, none⟩ = false := by rw [hV]; go_simp
  clear hV
  have hV := h.below hbV
  have hn : ∀ m d, Calls Try.prog 82 #[.pointer (some ⟨p, 0, none⟩)] (V.ext m d) (Pure (.bool false) (V.ext m d)) := fun m d => none_any (hV.ext m d) hc
  obtain ⟨a, cap', bm, tm, hp, c0, c1, c2, c3, c4, hm⟩ := hV.cells
  rw [hf] at c4
  refine wp_region_seq (fun F hF => ?_)
  have HF := hid hF; clear hF
  repeat (first
    | (apply text_skip; (focus rfl); simp only [Act.put, List.setIfInBounds_toArray, List.set_cons_zero, List.set_cons_succ])
    | (apply text_val; (focus rfl); (focus (intro _ _; go_simp; with_reducible rfl)); simp only [Act.put, List.setIfInBounds_toArray, List.set_cons_zero, List.set_cons_succ])
    | (apply text_call; (focus rfl); (focus (intro _ _; go_simp; exact ⟨rfl, rfl⟩)); (focus (intro _ _; with_reducible (exact hn _ _))); simp only [Act.put, List.setIfInBounds_toArray, List.set_cons_zero, List.set_cons_succ])
    | (apply text_if; (focus (first | exact wanted_t rfl rfl | exact wanted_f rfl rfl | exact wanted_gt rfl rfl | exact wanted_gf rfl rfl)); (focus (intro hc _ _; (try simp only [Bool.and_eq_true, Bool.not_eq_true', Bool.true_and] at hc); go_simp; with_reducible rfl)); simp only [Act.put, List.setIfInBounds_toArray, List.set_cons_zero, List.set_cons_succ])
    | (apply text_if_call; (focus (first | exact wanted_t rfl rfl | exact wanted_f rfl rfl | exact wanted_gt rfl rfl | exact wanted_gf rfl rfl)); (focus (intro hc _ _; (try simp only [Bool.and_eq_true, Bool.not_eq_true', Bool.true_and] at hc); go_simp; exact ⟨rfl, rfl⟩)); (focus (intro hc _ _; with_reducible (exact hn _ _))); simp only [Act.put, List.setIfInBounds_toArray, List.set_cons_zero, List.set_cons_succ]))
  refine text_nil (HF.out _ (fun mx dx => ?_))
  clear HF F
  go_wp2
  simp [bodyPostD, Leaves, settle, results, Try.results84, go_sem, zV0, cV0_0]
  exact Pure.of rfl (by (repeat' (first | (with_reducible exact Below.refl _ _) | (with_reducible refine Below.ext_mk ?_ ?_ _ _) | (with_reducible refine Below.alloc ?_ ?_ _) | (with_reducible refine Below.drew ?_) | (with_reducible refine Below.setCell ?_ ?_ _) | go_size)))

theorem StoStep.poke {w w' : World} {F F' : List Nat} (h : StoStep w w' F F') {b : Nat} (hb : w.heap.size ≤ b) (i : Nat) (v : Value) : StoStep w (w'.setCell ⟨b, i, none⟩ v) F F' :=
  ⟨h.os, h.tape, h.output, by simpa using h.size, fun k hk hn => by rw [Below.heap_setCell _ _ _ _ (show k ≠ b by omega)]; exact h.block k hk hn, fun k hk => by simpa using h.fresh k hk⟩
theorem StoIs.poke {w : World} {p : Nat} {F : List Nat} {S : Sto} (h : StoIs w p F S) {b : Nat} (hb : b ∉ F) (i : Nat) (v : Value) : StoIs (w.setCell ⟨b, i, none⟩ v) p F S :=
  h.keep (fun k hk => Below.heap_setCell _ _ _ _ (fun e => hb (by have e' : k = b := e; rw [← e']; exact hk)))

theorem made_run {w : World} {p : Nat} {F : List Nat} {S : Sto} (h : StoIs w p F S) (hc : S.cap ≠ 0) (hf : S.full = false) (k : FuncId) (cap : Array Value) (hk : ∀ w : World, (callFunc k cap).run Try.prog w = .ok (.enter k cap) w) (R : Sto × Option Int)
    (hcall : ∀ w', Below w.heap.size w w' → StoIs w' p F S → Calls Try.prog k cap w' (fun e w'' => e = endOf R.2 ∧ Turned w' p F R.1 w'')) :
    Calls Try.prog 84 #[.pointer (some ⟨p, 0, none⟩), .func (.func k) #[] cap] w (fun e w' => e = .returned (.int .i64 (R.2.getD 0)) ∧ Turned w p F R.1 w') := by
  have hmf : ∀ (fn : Fn) (first cap : Array Value) (w : World), (Instr.makeFunc fn first cap).run Try.prog w = .ok (.func fn first cap) w := fun _ _ _ _ => rfl
  have hlt := h.lt
  go_enter_defers Try.func84, Try.ntmps84
  go_upto_region 1 with (fail)
  refine wp_gen (fun V hV => ?_)
  have hbV : Below w.heap.size w V := by rw [hV]; ((repeat' (first | (with_reducible exact Below.refl _ _) | (with_reducible refine Below.ext_mk ?_ ?_ _ _) | (with_reducible refine Below.alloc ?_ ?_ _) | (with_reducible refine Below.drew ?_) | (with_reducible refine Below.setCell ?_ ?_ _) | go_size)))
  have zV0 : w.heap.size < V.heap.size := by rw [hV]; first | (simp; done) | (simp; omega)
  have cV0_0 : V.cell? ⟨w.heap.size, 0, none⟩ = some (.int .i64 0) := by rw [hV]; first | (go_simp; done) | (rw [World.cell?_alloc_past _ _ _ (by first | (simp; done) | (simp; omega))]; go_simp)
  have fV0_0 : V.frozen? ⟨w.heap.size, 0, none⟩ = false := by rw [hV]; go_simp
  clear hV
  have hV := h.below hbV
  have hn : ∀ m d, Calls Try.prog 82 #[.pointer (some ⟨p, 0, none⟩)] (V.ext m d) (Pure (.bool false) (V.ext m d)) := fun m d => none_any (hV.ext m d) hc
  obtain ⟨a, cap', bm, tm, hp, c0, c1, c2, c3, c4, hm⟩ := hV.cells
  rw [hf] at c4
  refine wp_region_seq (fun F hF => ?_)
  have HF := hid hF; clear hF
  repeat (first
    | (apply text_skip; (focus rfl); simp only [Act.put, List.setIfInBounds_toArray, List.set_cons_zero, List.set_cons_succ])
    | (apply text_val; (focus rfl); (focus (intro _ _; go_simp; with_reducible rfl)); simp only [Act.put, List.setIfInBounds_toArray, List.set_cons_zero, List.set_cons_succ])
    | (apply text_call; (focus rfl); (focus (intro _ _; go_simp; exact ⟨rfl, rfl⟩)); (focus (intro _ _; with_reducible (exact hn _ _))); simp only [Act.put, List.setIfInBounds_toArray, List.set_cons_zero, List.set_cons_succ])
    | (apply text_if; (focus (first | exact wanted_t rfl rfl | exact wanted_f rfl rfl | exact wanted_gt rfl rfl | exact wanted_gf rfl rfl)); (focus (intro hc _ _; (try simp only [Bool.and_eq_true, Bool.not_eq_true', Bool.true_and] at hc); go_simp; with_reducible rfl)); simp only [Act.put, List.setIfInBounds_toArray, List.set_cons_zero, List.set_cons_succ])
    | (apply text_if_call; (focus (first | exact wanted_t rfl rfl | exact wanted_f rfl rfl | exact wanted_gt rfl rfl | exact wanted_gf rfl rfl)); (focus (intro hc _ _; (try simp only [Bool.and_eq_true, Bool.not_eq_true', Bool.true_and] at hc); go_simp; exact ⟨rfl, rfl⟩)); (focus (intro hc _ _; with_reducible (exact hn _ _))); simp only [Act.put, List.setIfInBounds_toArray, List.set_cons_zero, List.set_cons_succ]))
  refine text_nil (HF.out _ (fun mx dx => ?_))
  clear HF F
  go_upto_region 3 with (fail)
  refine wp_gen (fun V2 hV2 => ?_)
  have hbV2 : Below w.heap.size w V2 := by rw [hV2]; ((repeat' (first | (with_reducible exact Below.refl _ _) | (with_reducible refine Below.ext_mk ?_ ?_ _ _) | (with_reducible refine Below.alloc ?_ ?_ _) | (with_reducible refine Below.drew ?_) | (with_reducible refine Below.setCell ?_ ?_ _) | go_size)))
  have zV20 : w.heap.size < V2.heap.size := by rw [hV2]; first | (simp; done) | (simp; omega)
  have cV20_0 : V2.cell? ⟨w.heap.size, 0, none⟩ = some (.int .i64 0) := by rw [hV2]; first | (go_simp; done) | (rw [World.cell?_alloc_past _ _ _ (by first | (simp; done) | (simp; omega))]; go_simp)
  have fV20_0 : V2.frozen? ⟨w.heap.size, 0, none⟩ = false := by rw [hV2]; go_simp
  clear hV2
  have hV2 := h.below hbV2
  have hcV := hcall V2 hbV2 hV2
  clear hn hV c0 c1 c2 c3 c4 hcall cV0_0 fV0_0 zV0 hp hbV
  obtain ⟨S', o⟩ := R
  cases o with
  | none =>
    simp only [endOf] at hcV
    go_upto_region 4 with (fail)
    go_wp2_with (refine hcV.mono ?_; rintro e w' ⟨rfl, F', hS', hst'⟩)
    have hb0 : w.heap.size ∉ F := fun hm => Nat.lt_irrefl _ (hlt _ hm)
    have hb1 : w.heap.size ∉ F' := fun hm => by rcases hst'.fresh _ hm with q | q; exact hb0 q; omega
    have hk0 := hst'.block _ zV20 hb0
    have y0 := (cell_of_heap 0 hk0).trans cV20_0
    have y1 : w'.frozen? ⟨w.heap.size, 0, none⟩ = false := by simpa [World.frozen?, hk0] using fV20_0
    have y2 : w.heap.size < w'.heap.size := Nat.lt_of_lt_of_le zV20 hst'.size
    have step := (StoStep.of_below (F := F) hbV2).trans hst'
    refine leaves_cons (f := 133) (args := #[.pointer (some ⟨w.heap.size, 0, none⟩)]) (by simp) (by simp [go_sem]) ?_
    refine (catch_panicking w.heap.size 0 _ y2 y0 y1).mono ?_
    rintro e u' w'' ⟨rfl, rfl, m, d, rfl⟩
    simp [Leaves, settle, results, Try.results84, go_sem, y0, y2]
    exact ⟨F', (hS'.poke hb1 0 _).ext m d, (step.poke (Nat.le_refl _) 0 _).ext m d⟩
  | some r =>
    simp only [endOf] at hcV
    go_upto_region 4 with (fail)
    have hb0 : w.heap.size ∉ F := fun hm => Nat.lt_irrefl _ (hlt _ hm)
    go_wp2_with (
      refine hcV.mono ?_
      rintro e w' ⟨rfl, F', hS', hst'⟩
      have hk0 := hst'.block _ zV20 hb0
      have y0 := (cell_of_heap 0 hk0).trans cV20_0
      have y1 : w'.frozen? ⟨w.heap.size, 0, none⟩ = false := by simpa [World.frozen?, hk0] using fV20_0
      have y2 : w.heap.size < w'.heap.size := Nat.lt_of_lt_of_le zV20 hst'.size)
    have hb1 : w.heap.size ∉ F' := fun hm => by rcases hst'.fresh _ hm with q | q; exact hb0 q; omega
    have step := (StoStep.of_below (F := F) hbV2).trans hst'
    refine leaves_cons (f := 133) (args := #[.pointer (some ⟨w.heap.size, 0, none⟩)]) (by simp) (by simp [go_sem]) ?_
    refine (catch_idle _ _).mono ?_
    rintro e u' w'' ⟨rfl, rfl, rfl⟩
    simp [Leaves, settle, results, Try.results84, go_sem, y0, y2]
    exact ⟨F', (hS'.poke hb1 0 _), (step.poke (Nat.le_refl _) 0 _)⟩
end Go.Proofs.Ytboekafmplomhaa
set_option linter.unusedVariables false
set_option linter.unusedSimpArgs false
namespace Go.Proofs.Ytboekafmplomhaa
open Go.RowKit

theorem var1_any {w : World} {p : Nat} {F : List Nat} {S : Sto} (h : StoIs w p F S) (hl : (S.nodes.length : Int) ≤ S.cap) (hc : S.cap ≤ 1048576) (v : Int) (i j : Nat)
    (hi : i < w.heap.size) (hj : j < w.heap.size) (ci : w.cell? ⟨i, 0, none⟩ = some (.pointer (some ⟨p, 0, none⟩))) (cj : w.cell? ⟨j, 0, none⟩ = some (.int .i64 v)) :
    Calls Try.prog 85 #[.pointer (some ⟨i, 0, none⟩), .pointer (some ⟨j, 0, none⟩)] w (fun e w' => e = endOf (mkN S v 0 1).2 ∧ Turned w p F (mkN S v 0 1).1 w') := by
  have N := node_any h hl hc v 0 1
  rcases hR : mkN S v 0 1 with ⟨S', _ | r⟩
  · rw [hR] at N
    simp only [endOf] at N ⊢
    clear hR
    go_enter Try.func85, Try.ntmps85
    go_wp2_with (go_at_call 86; refine N.mono ?_; rintro e w' ⟨rfl, hT⟩)
    exact ⟨rfl, rfl, hT⟩
  · rw [hR] at N
    simp only [endOf] at N ⊢
    clear hR
    go_enter Try.func85, Try.ntmps85
    go_wp2_with (go_at_call 86; refine N.mono ?_; rintro e w' ⟨rfl, hT⟩)
    go_returns
    exact ⟨rfl, hT⟩

theorem right_same {w : World} {p : Nat} {F : List Nat} {S : Sto} (h : StoIs w p F S) (hl : S.nodes.length ≤ 1048576) (x : Int) :
    Calls Try.prog 83 #[.pointer (some ⟨p, 0, none⟩), .int .i64 x] w (fun e w' => e = .returned (.int .i64 (rightOf S x)) ∧ w' = w) := by
  obtain ⟨a, cap', bm, tm, hp, c0, c1, c2, c3, c4, hm⟩ := h.cells
  have hw : IntKind.i64.wrap ((S.nodes.length : Int) + 2) = (S.nodes.length : Int) + 2 := IntWalk.i64_in _ (by omega)
  by_cases h0 : x < 0
  · go_enter Try.func83, Try.ntmps83
    go_wp2
    go_returns
    exact ⟨by unfold rightOf; rw [if_pos (.inl h0)]; rfl, rfl⟩
  · by_cases h1 : (S.nodes.length : Int) + 2 ≤ x
    · go_enter Try.func83, Try.ntmps83
      go_wp2
      go_returns
      exact ⟨by unfold rightOf; rw [if_pos (.inr h1)]; rfl, rfl⟩
    · have h1' : x < (S.nodes.length : Int) + 2 := by omega
      go_enter Try.func83, Try.ntmps83
      go_wp2
      go_returns
      exact ⟨by unfold rightOf; rw [if_neg (by omega)]; rfl, rfl⟩

theorem has_right {S : Sto} (x : Int) : S.has (rightOf S x) := by
  unfold rightOf Sto.has
  by_cases h : x < 0 ∨ (S.nodes.length : Int) + 2 ≤ x
  · rw [if_pos h]; omega
  · rw [if_neg h]; omega

/-- What Ite tells of any numbers. -/
def iteR (S : Sto) (c a b : Int) : Sto × Option Int := iteN 65 S (rightOf S c) (rightOf S a) (rightOf S b)

set_option maxRecDepth 4000 in
theorem ite1_any {w : World} {p : Nat} {F : List Nat} {S : Sto} (h : StoIs w p F S) (hW : Wf S) (x y z : Int) (i0 i1 i2 i3 : Nat)
    (h0 : i0 < w.heap.size) (h1 : i1 < w.heap.size) (h2 : i2 < w.heap.size) (h3 : i3 < w.heap.size)
    (c0 : w.cell? ⟨i0, 0, none⟩ = some (.pointer (some ⟨p, 0, none⟩))) (c1 : w.cell? ⟨i1, 0, none⟩ = some (.int .i64 x)) (c2 : w.cell? ⟨i2, 0, none⟩ = some (.int .i64 y)) (c3 : w.cell? ⟨i3, 0, none⟩ = some (.int .i64 z)) :
    Calls Try.prog 87 #[.pointer (some ⟨i0, 0, none⟩), .pointer (some ⟨i1, 0, none⟩), .pointer (some ⟨i2, 0, none⟩), .pointer (some ⟨i3, 0, none⟩)] w
      (fun e w' => e = endOf (iteR S x y z).2 ∧ Turned w p F (iteR S x y z).1 w') := by
  have hl1 : S.nodes.length ≤ 1048576 := by have := hW.len; have := hW.cap; omega
  have N := fun m d => ite_any 65 (w.ext m d) p F S _ _ _ (h.ext m d) hW (has_right x) (has_right y) (has_right z) (by
    have := (low_le S (rightOf S x) (rightOf S y) (rightOf S z)).1
    have g1 := topOf_ge hW (has_right (S := S) x); have g2 := topOf_ge hW (has_right (S := S) y); have g3 := topOf_ge hW (has_right (S := S) z)
    unfold low; omega)
  go_enter Try.func87, Try.ntmps87
  go_upto_region 1 with (fail)
  refine wp_region_still_tail 10 (by kernel_rfl) (by kernel_rfl) ?_
  simp only [List.take_succ_cons, List.take_zero, List.drop_succ_cons, List.drop_zero]
  have hbd : Below w.heap.size w w.drew := Below.drew (Below.refl _ _)
  have hS := h.below hbd
  have N' := N #[] w.drawn
  have d0 : w.drew.cell? ⟨i0, 0, none⟩ = some (.pointer (some ⟨p, 0, none⟩)) := c0
  have d1 : w.drew.cell? ⟨i1, 0, none⟩ = some (.int .i64 x) := c1
  have d2 : w.drew.cell? ⟨i2, 0, none⟩ = some (.int .i64 y) := c2
  have d3 : w.drew.cell? ⟨i3, 0, none⟩ = some (.int .i64 z) := c3
  have e : ({ w with drawn := w.drawn + 1 } : World) = w.drew := rfl
  rw [e]
  clear e
  have N' := fun q h => ite_any 65 q p F S _ _ _ h hW (has_right x) (has_right y) (has_right z) (by
    have := (low_le S (rightOf S x) (rightOf S y) (rightOf S z)).1
    have g1 := topOf_ge hW (has_right (S := S) x); have g2 := topOf_ge hW (has_right (S := S) y); have g3 := topOf_ge hW (has_right (S := S) z)
    unfold low; omega)
  have N2 := N' _ hS
  have st : StoStep w w.drew F F := StoStep.of_below hbd
  clear N N' c0 c1 c2 c3 h0 h1 h2 h3 h hbd
  generalize w.drew = wd at *
  have H := fun x => right_same hS hl1 x
  repeat (first | still_step | still_call (H _))
  refine wpStill_nil ?_
  clear H
  rcases hR : iteN 65 S (rightOf S x) (rightOf S y) (rightOf S z) with ⟨S', _ | r⟩
  · rw [hR] at N2
    simp only [endOf] at N2
    have HR := hid hR
    clear hR
    go_wp2_with (go_at_call 88; refine N2.mono ?_; rintro e w' ⟨rfl, hT⟩)
    unfold iteR
    rw [HR.out]
    exact ⟨rfl, rfl, hT.after st⟩
  · rw [hR] at N2
    simp only [endOf] at N2
    have HR := hid hR
    clear hR
    go_wp2_with (go_at_call 88; refine N2.mono ?_; rintro e w' ⟨rfl, hT⟩)
    go_returns
    unfold iteR
    rw [HR.out]
    exact ⟨rfl, hT.after st⟩

/-- What a call tells that makes a diagram: 0 if the store is, or was, full. -/
def madeR (S : Sto) (R : Sto × Option Int) : Sto × Int := if S.full then (S, 0) else (R.1, R.2.getD 0)
def varV (S : Sto) (v : Int) : Sto × Int := if v < 0 ∨ 64 ≤ v then (S, 0) else madeR S (mkN S v 0 1)
def iteV (S : Sto) (x y z : Int) : Sto × Int := madeR S (iteR S x y z)
/-- A call that tells a number, and turns a store. -/
def Tells (f : FuncId) (args : Array Value) (w : World) (p : Nat) (F : List Nat) (R : Sto × Int) : Prop :=
  Calls Try.prog f args w (fun e w' => e = .returned (.int .i64 R.2) ∧ Turned w p F R.1 w')

theorem made_any {w : World} {p : Nat} {F : List Nat} {S : Sto} (h : StoIs w p F S) (hc : S.cap ≠ 0) (k : FuncId) (cap : Array Value) (hk : ∀ w : World, (callFunc k cap).run Try.prog w = .ok (.enter k cap) w) (R : Sto × Option Int)
    (hcall : ∀ w', Below w.heap.size w w' → StoIs w' p F S → Calls Try.prog k cap w' (fun e w'' => e = endOf R.2 ∧ Turned w' p F R.1 w'')) :
    Tells 84 #[.pointer (some ⟨p, 0, none⟩), .func (.func k) #[] cap] w p F (madeR S R) := by
  unfold madeR
  cases hf : S.full with
  | true =>
    refine (made_full h hc hf k cap).mono ?_
    rintro e w' ⟨rfl, m, d, rfl⟩
    exact ⟨rfl, Turned.refl h m d⟩
  | false => exact made_run h hc hf k cap hk R hcall

theorem ite_call {w : World} {p : Nat} {F : List Nat} {S : Sto} (h : StoIs w p F S) (hW : Wf S) (x y z : Int) :
    Tells 25 #[.pointer (some ⟨p, 0, none⟩), .int .i64 x, .int .i64 y, .int .i64 z] w p F (iteV S x y z) := by
  have hmf : ∀ (fn : Fn) (first cap : Array Value) (w : World), (Instr.makeFunc fn first cap).run Try.prog w = .ok (.func fn first cap) w := fun _ _ _ _ => rfl
  have hc : S.cap ≠ 0 := by have := hW.cap2; omega
  go_enter Try.func25, Try.ntmps25
  go_upto_region 1 with (fail)
  refine wp_gen (fun V hV => ?_)
  have hbV : Below w.heap.size w V := by rw [hV]; ((repeat' (first | (with_reducible exact Below.refl _ _) | (with_reducible refine Below.ext_mk ?_ ?_ _ _) | (with_reducible refine Below.alloc ?_ ?_ _) | (with_reducible refine Below.drew ?_) | (with_reducible refine Below.setCell ?_ ?_ _) | go_size)))
  have zV0 : w.heap.size < V.heap.size := by rw [hV]; first | (simp; done) | (simp; omega)
  have cV0_0 : V.cell? ⟨w.heap.size, 0, none⟩ = some (.pointer (some ⟨p, 0, none⟩)) := by rw [hV]; first | (go_simp; done) | (rw [World.cell?_alloc_past _ _ _ (by first | (simp; done) | (simp; omega))]; go_simp)
  have zV1 : w.heap.size + 1 < V.heap.size := by rw [hV]; first | (simp; done) | (simp; omega)
  have cV1_0 : V.cell? ⟨w.heap.size + 1, 0, none⟩ = some (.int .i64 x) := by rw [hV]; first | (go_simp; done) | (rw [World.cell?_alloc_past _ _ _ (by first | (simp; done) | (simp; omega))]; go_simp)
  have zV2 : w.heap.size + 2 < V.heap.size := by rw [hV]; first | (simp; done) | (simp; omega)
  have cV2_0 : V.cell? ⟨w.heap.size + 2, 0, none⟩ = some (.int .i64 y) := by rw [hV]; first | (go_simp; done) | (rw [World.cell?_alloc_past _ _ _ (by first | (simp; done) | (simp; omega))]; go_simp)
  have zV3 : w.heap.size + 3 < V.heap.size := by rw [hV]; first | (simp; done) | (simp; omega)
  have cV3_0 : V.cell? ⟨w.heap.size + 3, 0, none⟩ = some (.int .i64 z) := by rw [hV]; first | (go_simp; done) | (rw [World.cell?_alloc_past _ _ _ (by first | (simp; done) | (simp; omega))]; go_simp)
  clear hV
  have hV := h.below hbV
  have M := made_any hV hc 87 #[.pointer (some ⟨w.heap.size, 0, none⟩), .pointer (some ⟨w.heap.size + 1, 0, none⟩), .pointer (some ⟨w.heap.size + 2, 0, none⟩), .pointer (some ⟨w.heap.size + 3, 0, none⟩)] (fun _ => by kernel_rfl) (iteR S x y z)
    (fun w' hb hS => ite1_any hS hW x y z _ _ _ _ (Nat.lt_of_lt_of_le zV0 hb.size) (Nat.lt_of_lt_of_le zV1 hb.size) (Nat.lt_of_lt_of_le zV2 hb.size) (Nat.lt_of_lt_of_le zV3 hb.size)
      ((cell_of_heap 0 (hb.block _ zV0)).trans cV0_0) ((cell_of_heap 0 (hb.block _ zV1)).trans cV1_0) ((cell_of_heap 0 (hb.block _ zV2)).trans cV2_0) ((cell_of_heap 0 (hb.block _ zV3)).trans cV3_0))
  have st : StoStep w V F F := StoStep.of_below hbV
  unfold Tells at M
  go_wp2_with (go_at_call 84; refine M.mono ?_; rintro e w' ⟨rfl, hT⟩)
  go_returns
  exact ⟨rfl, hT.after st⟩

theorem var_call {w : World} {p : Nat} {F : List Nat} {S : Sto} (h : StoIs w p F S) (hW : Wf S) (v : Int) :
    Tells 24 #[.pointer (some ⟨p, 0, none⟩), .int .i64 v] w p F (varV S v) := by
  have hmf : ∀ (fn : Fn) (first cap : Array Value) (w : World), (Instr.makeFunc fn first cap).run Try.prog w = .ok (.func fn first cap) w := fun _ _ _ _ => rfl
  have hc : S.cap ≠ 0 := by have := hW.cap2; omega
  unfold varV
  by_cases hv : v < 0 ∨ 64 ≤ v
  · rw [if_pos hv]
    by_cases h0 : v < 0
    · go_enter Try.func24, Try.ntmps24
      go_wp2
      go_returns
      refine ⟨rfl, F, h.below ?_, StoStep.of_below ?_⟩ <;> (repeat' (first | (with_reducible exact Below.refl _ _) | (with_reducible refine Below.ext_mk ?_ ?_ _ _) | (with_reducible refine Below.alloc ?_ ?_ _) | (with_reducible refine Below.drew ?_) | (with_reducible refine Below.setCell ?_ ?_ _) | go_size))
    · have h1 : 64 ≤ v := by omega
      clear hv
      go_enter Try.func24, Try.ntmps24
      go_wp2
      go_returns
      refine ⟨rfl, F, h.below ?_, StoStep.of_below ?_⟩ <;> (repeat' (first | (with_reducible exact Below.refl _ _) | (with_reducible refine Below.ext_mk ?_ ?_ _ _) | (with_reducible refine Below.alloc ?_ ?_ _) | (with_reducible refine Below.drew ?_) | (with_reducible refine Below.setCell ?_ ?_ _) | go_size))
  · rw [if_neg hv]
    have h0 : ¬ v < 0 := by omega
    have h1 : ¬ 64 ≤ v := by omega
    clear hv
    go_enter Try.func24, Try.ntmps24
    go_upto_region 3 with (fail)
    refine wp_gen (fun V hV => ?_)
    have hbV : Below w.heap.size w V := by rw [hV]; ((repeat' (first | (with_reducible exact Below.refl _ _) | (with_reducible refine Below.ext_mk ?_ ?_ _ _) | (with_reducible refine Below.alloc ?_ ?_ _) | (with_reducible refine Below.drew ?_) | (with_reducible refine Below.setCell ?_ ?_ _) | go_size)))
    have zV0 : w.heap.size < V.heap.size := by rw [hV]; first | (simp; done) | (simp; omega)
    have cV0_0 : V.cell? ⟨w.heap.size, 0, none⟩ = some (.pointer (some ⟨p, 0, none⟩)) := by rw [hV]; first | (go_simp; done) | (rw [World.cell?_alloc_past _ _ _ (by first | (simp; done) | (simp; omega))]; go_simp)
    have zV1 : w.heap.size + 1 < V.heap.size := by rw [hV]; first | (simp; done) | (simp; omega)
    have cV1_0 : V.cell? ⟨w.heap.size + 1, 0, none⟩ = some (.int .i64 v) := by rw [hV]; first | (go_simp; done) | (rw [World.cell?_alloc_past _ _ _ (by first | (simp; done) | (simp; omega))]; go_simp)
    clear hV
    have hV := h.below hbV
    have M := made_any hV hc 85 #[.pointer (some ⟨w.heap.size, 0, none⟩), .pointer (some ⟨w.heap.size + 1, 0, none⟩)] (fun _ => by kernel_rfl) (mkN S v 0 1)
      (fun w' hb hS => var1_any hS hW.len hW.cap v _ _ (Nat.lt_of_lt_of_le zV0 hb.size) (Nat.lt_of_lt_of_le zV1 hb.size)
        ((cell_of_heap 0 (hb.block _ zV0)).trans cV0_0) ((cell_of_heap 0 (hb.block _ zV1)).trans cV1_0))
    have st : StoStep w V F F := StoStep.of_below hbV
    unfold Tells at M
    go_wp2_with (go_at_call 84; refine M.mono ?_; rintro e w' ⟨rfl, hT⟩)
    go_returns
    exact ⟨rfl, hT.after st⟩
end Go.Proofs.Ytboekafmplomhaa
set_option linter.unusedVariables false
set_option linter.unusedSimpArgs false
namespace Go.Proofs.Ytboekafmplomhaa

/-- All variables are below V. -/
def Below' (S : Sto) (V : Int) : Prop := ∀ (i : Nat) (n : Nd), S.nodes[i]? = some n → n.1 < V
/-- A full store has as many nodes as may be. -/
def Sated (S : Sto) : Prop := S.full = true → (S.nodes.length : Int) = S.cap

theorem mkN_below {S : Sto} {V v lo hi : Int} (h : Below' S V) (hv : v < V) : Below' (mkN S v lo hi).1 V ∧ (mkN S v lo hi).1.nodes.length ≤ S.nodes.length + 1 := by
  unfold mkN
  by_cases e : lo = hi
  · rw [if_pos e]; exact ⟨h, by simp⟩
  · rw [if_neg e]
    cases hr : aget S.byn (v, lo, hi) with
    | some r => exact ⟨h, by simp⟩
    | none =>
      simp only
      by_cases hl : (S.nodes.length : Int) = S.cap
      · rw [if_pos hl]; exact ⟨h, by simp⟩
      · rw [if_neg hl]
        refine ⟨?_, by simp⟩
        intro i n hn
        simp only at hn
        rcases Nat.lt_or_ge i S.nodes.length with hlt | hge
        · rw [List.getElem?_append_left hlt] at hn; exact h i n hn
        · rw [List.getElem?_append_right hge] at hn
          cases hj : i - S.nodes.length with
          | zero => rw [hj] at hn; simp at hn; rw [← hn]; exact hv
          | succ j => rw [hj] at hn; simp at hn

theorem mkN_sated {S : Sto} {v lo hi : Int} (h : Sated S) : Sated (mkN S v lo hi).1 := by
  unfold mkN
  by_cases e : lo = hi
  · rw [if_pos e]; exact h
  · rw [if_neg e]
    cases hr : aget S.byn (v, lo, hi) with
    | some r => exact h
    | none =>
      simp only
      by_cases hl : (S.nodes.length : Int) = S.cap
      · rw [if_pos hl]; intro _; exact hl
      · rw [if_neg hl]; intro hf; exact absurd (h hf) hl

theorem topOf_below {S : Sto} {V : Int} (h : Below' S V) {a : Int} (ha : S.has a) (h2 : ¬ a < 2) : topOf S a < V := by
  obtain ⟨i, n, rfl, hn⟩ := has_node ha h2
  rw [topOf_node hn]; exact h i n hn

theorem pow_two_step {k m : Nat} (h : k + 1 ≤ m) : 2 ^ k + 2 ^ k ≤ 2 ^ m := by
  have h1 : 2 ^ (k + 1) ≤ 2 ^ m := Nat.pow_le_pow_right (by omega) h
  rw [Nat.pow_succ] at h1; omega

/-- Ite adds fewer nodes than there are ways through the variables. -/
theorem iteN_count : ∀ (n : Nat) (S : Sto) (c a b V : Int), Wf S → S.has c → S.has a → S.has b → 64 - low S c a b < n → Below' S V →
    Below' (iteN n S c a b).1 V ∧ (iteN n S c a b).1.nodes.length + 1 ≤ S.nodes.length + 2 ^ (V - low S c a b).toNat := by
  intro n
  induction n with
  | zero => intro S c a b V h hc ha hb hn; have := (low_le S c a b).1; have := topOf_le h hc; omega
  | succ n ih =>
    intro S c a b V h hc ha hb hn hV
    have hp : ∀ k : Nat, 1 ≤ 2 ^ k := fun k => Nat.one_le_two_pow
    obtain ⟨l1, l2, l3⟩ := low_le S c a b
    unfold iteN
    by_cases e1 : c = 1 ∨ a = b
    · rw [if_pos e1]; exact ⟨hV, by have := hp (V - low S c a b).toNat; simp only; omega⟩
    · rw [if_neg e1]
      by_cases e2 : c = 0
      · rw [if_pos e2]; exact ⟨hV, by have := hp (V - low S c a b).toNat; simp only; omega⟩
      · rw [if_neg e2]
        by_cases e3 : a = 1 ∧ b = 0
        · rw [if_pos e3]; exact ⟨hV, by have := hp (V - low S c a b).toNat; simp only; omega⟩
        · rw [if_neg e3]
          cases ht : aget S.told (c, a, b) with
          | some r => exact ⟨hV, by have := hp (V - low S c a b).toNat; simp only; omega⟩
          | none =>
            have hl0 : 0 ≤ low S c a b := by
              have := topOf_ge h hc; have := topOf_ge h ha; have := topOf_ge h hb
              unfold low; omega
            have hc2 : ¬ c < 2 := fun h2 => by have := hc.1; simp at e1; omega
            have hlV : low S c a b < V := by have := topOf_below hV hc hc2; omega
            have hl64 : low S c a b < 64 := by
              obtain ⟨i, m, rfl, hm⟩ := has_node hc hc2
              rw [topOf_node hm] at l1
              have := (h.node i m hm).v64; omega
            generalize hv : low S c a b = v at *
            obtain ⟨c1, c2, c3, c4, c5⟩ := split_ok h hc l1 hl64
            obtain ⟨a1, a2, a3, a4, a5⟩ := split_ok h ha l2 hl64
            obtain ⟨b1, b2, b3, b4, b5⟩ := split_ok h hb l3 hl64
            have hlow1 := lt_low c3 a3 b3
            have hlow2 := lt_low c4 a4 b4
            have I1 := ih S _ _ _ V h c1 a1 b1 (by omega) hV
            have O1 := iteN_ok n S _ _ _ h c1 a1 b1 (by omega)
            have two : ∀ k1 k2 : Nat, k1 + 1 ≤ (V - v).toNat → k2 + 1 ≤ (V - v).toNat → 2 ^ k1 + 2 ^ k2 ≤ 2 ^ (V - v).toNat := fun k1 k2 h1 h2 => by
              have x1 : 2 ^ k1 ≤ 2 ^ ((V - v).toNat - 1) := Nat.pow_le_pow_right (by omega) (by omega)
              have x2 : 2 ^ k2 ≤ 2 ^ ((V - v).toNat - 1) := Nat.pow_le_pow_right (by omega) (by omega)
              have x3 := pow_two_step (show ((V - v).toNat - 1) + 1 ≤ (V - v).toNat by omega)
              omega
            have one := two (V - low S (splitOf S c v).1 (splitOf S a v).1 (splitOf S b v).1).toNat
            generalize hR1 : iteN n S (splitOf S c v).1 (splitOf S a v).1 (splitOf S b v).1 = R1 at I1 O1
            obtain ⟨S1, o1⟩ := R1
            obtain ⟨i1, i2⟩ := I1
            simp only at i1 i2
            cases o1 with
            | none =>
              refine ⟨i1, ?_⟩
              have := one 0 (by omega) (by omega)
              simp only; omega
            | some lo =>
              have g1 := O1.grows
              have wf1 := O1.wf
              simp only at g1 wf1
              have e2' := g1.low c2 a2 b2
              have I2 := ih S1 _ _ _ V wf1 (g1.has c2) (g1.has a2) (g1.has b2) (by rw [e2']; omega) i1
              rw [e2'] at I2
              have two' := one (V - low S (splitOf S c v).2 (splitOf S a v).2 (splitOf S b v).2).toNat (by omega) (by omega)
              simp only
              generalize hR2 : iteN n S1 (splitOf S c v).2 (splitOf S a v).2 (splitOf S b v).2 = R2 at I2
              obtain ⟨S2, o2⟩ := R2
              obtain ⟨j1, j2⟩ := I2
              simp only at j1 j2
              cases o2 with
              | none => exact ⟨j1, by simp only; omega⟩
              | some hi =>
                have M := mkN_below (lo := lo) (hi := hi) j1 hlV
                simp only
                generalize hR3 : mkN S2 v lo hi = R3 at M
                obtain ⟨S3, o3⟩ := R3
                obtain ⟨m1, m2⟩ := M
                simp only at m1 m2
                cases o3 with
                | none => exact ⟨m1, by simp only; omega⟩
                | some r => exact ⟨fun i n hn => m1 i n hn, by simp only; omega⟩

theorem iteN_sated : ∀ (n : Nat) (S : Sto) (c a b : Int), Sated S → Sated (iteN n S c a b).1 := by
  intro n
  induction n with
  | zero => intro S c a b h; exact h
  | succ n ih =>
    intro S c a b h
    unfold iteN
    by_cases e1 : c = 1 ∨ a = b
    · rw [if_pos e1]; exact h
    · rw [if_neg e1]
      by_cases e2 : c = 0
      · rw [if_pos e2]; exact h
      · rw [if_neg e2]
        by_cases e3 : a = 1 ∧ b = 0
        · rw [if_pos e3]; exact h
        · rw [if_neg e3]
          cases ht : aget S.told (c, a, b) with
          | some r => exact h
          | none =>
            simp only
            have I1 := ih S (splitOf S c (low S c a b)).1 (splitOf S a (low S c a b)).1 (splitOf S b (low S c a b)).1 h
            generalize iteN n S (splitOf S c (low S c a b)).1 (splitOf S a (low S c a b)).1 (splitOf S b (low S c a b)).1 = R1 at I1
            obtain ⟨S1, o1⟩ := R1
            cases o1 with
            | none => exact I1
            | some lo =>
              have I2 := ih S1 (splitOf S c (low S c a b)).2 (splitOf S a (low S c a b)).2 (splitOf S b (low S c a b)).2 I1
              simp only
              generalize iteN n S1 (splitOf S c (low S c a b)).2 (splitOf S a (low S c a b)).2 (splitOf S b (low S c a b)).2 = R2 at I2
              obtain ⟨S2, o2⟩ := R2
              cases o2 with
              | none => exact I2
              | some hi =>
                have M := mkN_sated (v := low S c a b) (lo := lo) (hi := hi) I2
                simp only
                generalize mkN S2 (low S c a b) lo hi = R3 at M
                obtain ⟨S3, o3⟩ := R3
                cases o3 with
                | none => exact M
                | some r => exact M

/-- What a call that tells a diagram keeps: V variables, at most m nodes more. -/
structure VOk (S : Sto) (V : Int) (m : Nat) (R : Sto × Int) : Prop where
  wf : Wf R.1
  grows : Grows S R.1
  sated : Sated R.1
  below : Below' R.1 V
  count : R.1.nodes.length ≤ S.nodes.length + m
  has : R.1.has R.2
  stays : S.full = true → R.1 = S ∧ R.2 = 0

theorem VOk.weak {S : Sto} {V : Int} {m m' : Nat} {R : Sto × Int} (h : VOk S V m R) (hm : m ≤ m') : VOk S V m' R :=
  { h with count := by have := h.count; omega }
theorem VOk.trans {S : Sto} {V : Int} {m m' : Nat} {R R' : Sto × Int} (h : VOk S V m R) (k : VOk R.1 V m' R') : VOk S V (m + m') R' :=
  ⟨k.wf, h.grows.trans k.grows, k.sated, k.below, by have := h.count; have := k.count; omega, k.has, fun hf => by
    obtain ⟨e1, e2⟩ := h.stays hf
    have e3 := k.stays (by rw [e1]; exact hf)
    exact ⟨e3.1.trans e1, e3.2⟩⟩

theorem iteR_ok {S : Sto} (hW : Wf S) (x y z : Int) : IteOk S (rightOf S x) (rightOf S y) (rightOf S z) (iteR S x y z) :=
  iteN_ok 65 S _ _ _ hW (has_right x) (has_right y) (has_right z) (by
    have g1 := topOf_ge hW (has_right (S := S) x); have g2 := topOf_ge hW (has_right (S := S) y); have g3 := topOf_ge hW (has_right (S := S) z)
    unfold low; omega)
theorem has_zero (S : Sto) : S.has 0 := by unfold Sto.has; omega
theorem has_one (S : Sto) : S.has 1 := by unfold Sto.has; omega
theorem right_has {S : Sto} {x : Int} (h : S.has x) : rightOf S x = x := by
  unfold rightOf; rw [if_neg (by have := h.1; have := h.2; omega)]

theorem iteV_ok {S : Sto} {V : Int} (hW : Wf S) (hs : Sated S) (hb : Below' S V) (hV : 0 ≤ V) (x y z : Int) : VOk S V (2 ^ V.toNat) (iteV S x y z) := by
  unfold iteV madeR
  cases hf : S.full with
  | true => exact ⟨hW, Grows.refl S, hs, hb, by simp, has_zero S, fun _ => ⟨rfl, rfl⟩⟩
  | false =>
    have g1 := topOf_ge hW (has_right (S := S) x); have g2 := topOf_ge hW (has_right (S := S) y); have g3 := topOf_ge hW (has_right (S := S) z)
    have hl0 : 0 ≤ low S (rightOf S x) (rightOf S y) (rightOf S z) := by unfold low; omega
    have O := iteR_ok hW x y z
    have C := iteN_count 65 S _ _ _ V hW (has_right x) (has_right y) (has_right z) (by omega) hb
    have T := iteN_sated 65 S (rightOf S x) (rightOf S y) (rightOf S z) hs
    have hp : 2 ^ (V - low S (rightOf S x) (rightOf S y) (rightOf S z)).toNat ≤ 2 ^ V.toNat := Nat.pow_le_pow_right (by omega) (by omega)
    change Below' (iteR S x y z).1 V ∧ (iteR S x y z).1.nodes.length + 1 ≤ _ at C
    change Sated (iteR S x y z).1 at T
    refine ⟨O.wf, O.grows, T, C.1, by simp only [Bool.false_eq_true, if_false]; omega, ?_, fun h => by rw [hf] at h; cases h⟩
    simp only [Bool.false_eq_true, if_false]
    cases ho : (iteR S x y z).2 with
    | none => exact has_zero _
    | some r => exact (O.has r ho).1
/-- What Ite tells means what it should, if the store is not full. -/
theorem iteV_ev {S : Sto} (hW : Wf S) (x y z : Int) (hf : (iteV S x y z).1.full = false) (β : Int → Bool) :
    ev (iteV S x y z).1 β (iteV S x y z).2 = if ev S β (rightOf S x) then ev S β (rightOf S y) else ev S β (rightOf S z) := by
  have O := iteR_ok hW x y z
  unfold iteV madeR at hf ⊢
  cases hF : S.full with
  | true => rw [hF] at hf; simp [hF] at hf
  | false =>
    rw [hF] at hf
    simp only [Bool.false_eq_true, if_false] at hf ⊢
    cases ho : (iteR S x y z).2 with
    | none => have := (O.full' ho).1; rw [this] at hf; cases hf
    | some r => exact (O.has r ho).2.2 β

theorem varV_ok {S : Sto} {V : Int} (hW : Wf S) (hs : Sated S) (hb : Below' S V) (v : Int) (hv : v < V ∨ 64 ≤ v) : VOk S V 1 (varV S v) := by
  unfold varV
  by_cases h0 : v < 0 ∨ 64 ≤ v
  · rw [if_pos h0]; exact ⟨hW, Grows.refl S, hs, hb, by simp, has_zero S, fun _ => ⟨rfl, rfl⟩⟩
  · rw [if_neg h0]
    unfold madeR
    cases hf : S.full with
    | true => exact ⟨hW, Grows.refl S, hs, hb, by simp, has_zero S, fun _ => ⟨rfl, rfl⟩⟩
    | false =>
      have t0 : topOf S 0 = 64 := topOf_low (by omega)
      have t1 : topOf S 1 = 64 := topOf_low (by omega)
      have M := mkN_ok hW (v := v) (by omega) (by omega) (has_zero S) (has_one S) (by omega) (by omega)
      have B := mkN_below (lo := 0) (hi := 1) hb (v := v) (by omega)
      have T := mkN_sated (v := v) (lo := 0) (hi := 1) hs
      refine ⟨M.wf, M.grows, T, B.1, by simpa using B.2, ?_, fun h => by rw [hf] at h; cases h⟩
      simp only [Bool.false_eq_true, if_false]
      cases ho : (mkN S v 0 1).2 with
      | none => exact has_zero _
      | some r => exact (M.has r ho).1
theorem varV_ev {S : Sto} (hW : Wf S) (v : Int) (hf : (varV S v).1.full = false) (β : Int → Bool) :
    ev (varV S v).1 β (varV S v).2 = if v < 0 ∨ 64 ≤ v then false else β v := by
  unfold varV at hf ⊢
  by_cases h0 : v < 0 ∨ 64 ≤ v
  · rw [if_pos h0, if_pos h0, ev_low _ (by simp)]; rfl
  · rw [if_neg h0, if_neg h0]
    rw [if_neg h0] at hf
    unfold madeR at hf ⊢
    cases hF : S.full with
    | true => rw [hF] at hf; simp [hF] at hf
    | false =>
      rw [hF] at hf
      simp only [Bool.false_eq_true, if_false] at hf ⊢
      have t0 : topOf S 0 = 64 := topOf_low (by omega)
      have t1 : topOf S 1 = 64 := topOf_low (by omega)
      have M := mkN_ok hW (v := v) (by omega) (by omega) (has_zero S) (has_one S) (by omega) (by omega)
      cases ho : (mkN S v 0 1).2 with
      | none => have := (M.full' ho).1; rw [this] at hf; cases hf
      | some r =>
        show ev _ β r = _
        rw [(M.has r ho).2.2 β, ev_low _ (by omega), ev_low _ (by omega)]
        cases β v <;> rfl

def notV (S : Sto) (x : Int) : Sto × Int := iteV S x 0 1
def andV (S : Sto) (x y : Int) : Sto × Int := iteV S x y 0
def orV (S : Sto) (x y : Int) : Sto × Int := iteV S x 1 y
def xorV (S : Sto) (x y : Int) : Sto × Int := iteV (notV S y).1 x (notV S y).2 y

/-- A new store. -/
def newS (cap : Int) : Sto := ⟨cap, [], [], [], false⟩
theorem newS_wf {cap : Int} (h1 : 2 ≤ cap) (h2 : cap ≤ 1048576) : Wf (newS cap) :=
  ⟨h1, h2, by simp [newS]; omega, fun i n hn => by simp [newS] at hn, fun n r => by simp [newS, aget], fun c a b r hr => by simp [newS, aget] at hr⟩
theorem newS_sated (cap : Int) : Sated (newS cap) := fun h => by simp [newS] at h
theorem newS_below (cap V : Int) : Below' (newS cap) V := fun i n hn => by simp [newS] at hn
end Go.Proofs.Ytboekafmplomhaa
