/-
  Not, And, Or, Xor; a node by its number.
-/
import Derived.Test.YtboekafmplomhaaZPlay
set_option linter.unusedVariables false
set_option linter.unusedSimpArgs false
namespace Go.Proofs.Ytboekafmplomhaa
open Go.RowKit

theorem StoStep.keeps {w w' : World} {F F' : List Nat} (h : StoStep w w' F F') {k : Nat} (hk : k < w.heap.size) (hn : k ∉ F) : k ∉ F' := fun hm => by
  rcases h.fresh k hm with q | q
  · exact hn q
  · omega

theorem not_call {w : World} {p : Nat} {F : List Nat} {S : Sto} (h : StoIs w p F S) (hW : Wf S) (x : Int) :
    Tells 26 #[.pointer (some ⟨p, 0, none⟩), .int .i64 x] w p F (notV S x) := by
  have M := ite_call h hW x 0 1
  unfold Tells at M ⊢
  unfold notV
  go_enter Try.func26, Try.ntmps26
  go_wp2_with (go_at_call 25; refine M.mono ?_; rintro e w' ⟨rfl, hT⟩)
  go_returns
  exact ⟨rfl, hT⟩
theorem and_call {w : World} {p : Nat} {F : List Nat} {S : Sto} (h : StoIs w p F S) (hW : Wf S) (x y : Int) :
    Tells 27 #[.pointer (some ⟨p, 0, none⟩), .int .i64 x, .int .i64 y] w p F (andV S x y) := by
  have M := ite_call h hW x y 0
  unfold Tells at M ⊢
  unfold andV
  go_enter Try.func27, Try.ntmps27
  go_wp2_with (go_at_call 25; refine M.mono ?_; rintro e w' ⟨rfl, hT⟩)
  go_returns
  exact ⟨rfl, hT⟩
theorem or_call {w : World} {p : Nat} {F : List Nat} {S : Sto} (h : StoIs w p F S) (hW : Wf S) (x y : Int) :
    Tells 28 #[.pointer (some ⟨p, 0, none⟩), .int .i64 x, .int .i64 y] w p F (orV S x y) := by
  have M := ite_call h hW x 1 y
  unfold Tells at M ⊢
  unfold orV
  go_enter Try.func28, Try.ntmps28
  go_wp2_with (go_at_call 25; refine M.mono ?_; rintro e w' ⟨rfl, hT⟩)
  go_returns
  exact ⟨rfl, hT⟩

theorem iteV_wf {S : Sto} (hW : Wf S) (x y z : Int) : Wf (iteV S x y z).1 := by
  unfold iteV madeR
  cases hf : S.full with
  | true => exact hW
  | false => exact (iteR_ok hW x y z).wf

theorem xor_call {w : World} {p : Nat} {F : List Nat} {S : Sto} (h : StoIs w p F S) (hW : Wf S) (x y : Int) :
    Tells 29 #[.pointer (some ⟨p, 0, none⟩), .int .i64 x, .int .i64 y] w p F (xorV S x y) := by
  have N := not_call h hW y
  have M := fun w F (h : StoIs w p F (notV S y).1) => ite_call h (iteV_wf hW y 0 1) x (notV S y).2 y
  unfold Tells at M N ⊢
  unfold xorV
  generalize notV S y = R at *
  go_enter Try.func29, Try.ntmps29
  go_wp2_with (first
    | (go_at_call 26; refine N.mono ?_; rintro e w' ⟨rfl, F', hS, st⟩)
    | (go_at_call 25; refine (M _ _ hS).mono ?_; rintro e w' ⟨rfl, hT⟩))
  go_returns
  exact ⟨rfl, hT.after st⟩

/-- A node by its number. -/
def atV (S : Sto) (x : Int) : Nd × Bool := if rightOf S x < 2 then ((0, 0, 0), false) else ((S.nodes[(x - 2).toNat]?).getD (0, 0, 0), true)
theorem rightOf_two {S : Sto} {x : Int} (h : ¬ rightOf S x < 2) : rightOf S x = x ∧ 2 ≤ x ∧ x < S.nodes.length + 2 := by
  unfold rightOf at *
  by_cases e : x < 0 ∨ (S.nodes.length : Int) + 2 ≤ x
  · rw [if_pos e] at h; omega
  · rw [if_neg e] at h ⊢; omega
theorem at_call {w : World} {p : Nat} {F : List Nat} {S : Sto} (h : StoIs w p F S) (hW : Wf S) (x : Int) :
    Calls Try.prog 21 #[.pointer (some ⟨p, 0, none⟩), .int .i64 x] w
      (Pure (.tuple #[.agg #[.int .i64 (atV S x).1.1, .int .i64 (atV S x).1.2.1, .int .i64 (atV S x).1.2.2], .bool (atV S x).2]) w) := by
  have hl : S.nodes.length ≤ 1048576 := by have := hW.len; have := hW.cap; omega
  have hc : S.cap ≠ 0 := by have := hW.cap2; omega
  have hn := fun W (hb : Below w.heap.size w W) => none_any (h.below hb) hc
  have hr := fun W (hb : Below w.heap.size w W) => right_any (h.below hb) hl
  by_cases h2 : rightOf S x < 2
  · unfold atV
    rw [if_pos h2]
    go_enter Try.func21, Try.ntmps21
    go_upto_region 1 with (fail)
    refine wp_region_seq (fun F hF => ?_)
    have HF := hid hF; clear hF
    repeat (first
      | (apply text_skip; (focus rfl); simp only [Act.put, List.setIfInBounds_toArray, List.set_cons_zero, List.set_cons_succ])
      | (apply text_val; (focus rfl); (focus (intro _ _; go_simp; with_reducible rfl)); simp only [Act.put, List.setIfInBounds_toArray, List.set_cons_zero, List.set_cons_succ])
      | (apply text_call; (focus rfl); (focus (intro _ _; go_simp; exact ⟨rfl, rfl⟩)); (focus (intro _ _; with_reducible (exact hn _ (by (repeat' (first | (with_reducible exact Below.refl _ _) | (with_reducible refine Below.ext_mk ?_ ?_ _ _) | (with_reducible refine Below.alloc ?_ ?_ _) | (with_reducible refine Below.drew ?_) | (with_reducible refine Below.setCell ?_ ?_ _) | go_size)))))); simp only [Act.put, List.setIfInBounds_toArray, List.set_cons_zero, List.set_cons_succ])
      | (apply text_call; (focus rfl); (focus (intro _ _; go_simp; exact ⟨rfl, rfl⟩)); (focus (intro _ _; with_reducible (exact hr _ (by (repeat' (first | (with_reducible exact Below.refl _ _) | (with_reducible refine Below.ext_mk ?_ ?_ _ _) | (with_reducible refine Below.alloc ?_ ?_ _) | (with_reducible refine Below.drew ?_) | (with_reducible refine Below.setCell ?_ ?_ _) | go_size))) _))); simp only [Act.put, List.setIfInBounds_toArray, List.set_cons_zero, List.set_cons_succ])
      | (apply text_if; (focus (first | exact wanted_t rfl rfl | exact wanted_f rfl rfl | exact wanted_gt rfl rfl | exact wanted_gf rfl rfl)); (focus (intro hc _ _; (try simp only [Bool.and_eq_true, Bool.not_eq_true', Bool.true_and] at hc); go_simp; with_reducible rfl)); simp only [Act.put, List.setIfInBounds_toArray, List.set_cons_zero, List.set_cons_succ])
      | (apply text_if_call; (focus (first | exact wanted_t rfl rfl | exact wanted_f rfl rfl | exact wanted_gt rfl rfl | exact wanted_gf rfl rfl)); (focus (intro hc _ _; (try simp only [Bool.and_eq_true, Bool.not_eq_true', Bool.true_and] at hc); go_simp; exact ⟨rfl, rfl⟩)); (focus (intro hc _ _; with_reducible (exact hn _ (by (repeat' (first | (with_reducible exact Below.refl _ _) | (with_reducible refine Below.ext_mk ?_ ?_ _ _) | (with_reducible refine Below.alloc ?_ ?_ _) | (with_reducible refine Below.drew ?_) | (with_reducible refine Below.setCell ?_ ?_ _) | go_size)))))); simp only [Act.put, List.setIfInBounds_toArray, List.set_cons_zero, List.set_cons_succ])
      | (apply text_if_call; (focus (first | exact wanted_t rfl rfl | exact wanted_f rfl rfl | exact wanted_gt rfl rfl | exact wanted_gf rfl rfl)); (focus (intro hc _ _; (try simp only [Bool.and_eq_true, Bool.not_eq_true', Bool.true_and] at hc); go_simp; exact ⟨rfl, rfl⟩)); (focus (intro hc _ _; with_reducible (exact hr _ (by (repeat' (first | (with_reducible exact Below.refl _ _) | (with_reducible refine Below.ext_mk ?_ ?_ _ _) | (with_reducible refine Below.alloc ?_ ?_ _) | (with_reducible refine Below.drew ?_) | (with_reducible refine Below.setCell ?_ ?_ _) | go_size))) _))); simp only [Act.put, List.setIfInBounds_toArray, List.set_cons_zero, List.set_cons_succ]))
    refine text_nil (HF.out _ (fun mx dx => ?_))
    clear HF F
    go_wp2
    go_returns
    exact Pure.of rfl (by (repeat' (first | (with_reducible exact Below.refl _ _) | (with_reducible refine Below.ext_mk ?_ ?_ _ _) | (with_reducible refine Below.alloc ?_ ?_ _) | (with_reducible refine Below.drew ?_) | (with_reducible refine Below.setCell ?_ ?_ _) | go_size)))
  · unfold atV
    rw [if_neg h2]
    obtain ⟨e1, e2, e3⟩ := rightOf_two h2
    obtain ⟨i, rfl⟩ : ∃ i : Nat, x = (i : Int) + 2 := ⟨(x - 2).toNat, by omega⟩
    have hi : i < S.nodes.length := by omega
    obtain ⟨n, hn'⟩ : ∃ n, S.nodes[i]? = some n := ⟨S.nodes[i], by simp [hi]⟩
    rw [show ((i : Int) + 2 - 2).toNat = i by omega, hn']
    have hb : IntKind.i64.wrap (i : Int) = (i : Int) := IntWalk.i64_in _ (by omega)
    have hi1 : (i : Int) < (S.nodes.length : Int) := by omega
    have hi2 : (0 : Int) ≤ (i : Int) := by omega
    obtain ⟨g, cap', bm, tm, hp, hg, c0, c1, c2, c3, c4, hm, n0, n1, n2⟩ := StoNode h hn'
    clear hn' e1 c0 c2 c3 c4 h
    go_enter Try.func21, Try.ntmps21
    go_upto_region 1 with (fail)
    refine wp_region_seq (fun F hF => ?_)
    have HF := hid hF; clear hF
    repeat (first
      | (apply text_skip; (focus rfl); simp only [Act.put, List.setIfInBounds_toArray, List.set_cons_zero, List.set_cons_succ])
      | (apply text_val; (focus rfl); (focus (intro _ _; go_simp; with_reducible rfl)); simp only [Act.put, List.setIfInBounds_toArray, List.set_cons_zero, List.set_cons_succ])
      | (apply text_call; (focus rfl); (focus (intro _ _; go_simp; exact ⟨rfl, rfl⟩)); (focus (intro _ _; with_reducible (exact hn _ (by (repeat' (first | (with_reducible exact Below.refl _ _) | (with_reducible refine Below.ext_mk ?_ ?_ _ _) | (with_reducible refine Below.alloc ?_ ?_ _) | (with_reducible refine Below.drew ?_) | (with_reducible refine Below.setCell ?_ ?_ _) | go_size)))))); simp only [Act.put, List.setIfInBounds_toArray, List.set_cons_zero, List.set_cons_succ])
      | (apply text_call; (focus rfl); (focus (intro _ _; go_simp; exact ⟨rfl, rfl⟩)); (focus (intro _ _; with_reducible (exact hr _ (by (repeat' (first | (with_reducible exact Below.refl _ _) | (with_reducible refine Below.ext_mk ?_ ?_ _ _) | (with_reducible refine Below.alloc ?_ ?_ _) | (with_reducible refine Below.drew ?_) | (with_reducible refine Below.setCell ?_ ?_ _) | go_size))) _))); simp only [Act.put, List.setIfInBounds_toArray, List.set_cons_zero, List.set_cons_succ])
      | (apply text_if; (focus (first | exact wanted_t rfl rfl | exact wanted_f rfl rfl | exact wanted_gt rfl rfl | exact wanted_gf rfl rfl)); (focus (intro hc _ _; (try simp only [Bool.and_eq_true, Bool.not_eq_true', Bool.true_and] at hc); go_simp; with_reducible rfl)); simp only [Act.put, List.setIfInBounds_toArray, List.set_cons_zero, List.set_cons_succ])
      | (apply text_if_call; (focus (first | exact wanted_t rfl rfl | exact wanted_f rfl rfl | exact wanted_gt rfl rfl | exact wanted_gf rfl rfl)); (focus (intro hc _ _; (try simp only [Bool.and_eq_true, Bool.not_eq_true', Bool.true_and] at hc); go_simp; exact ⟨rfl, rfl⟩)); (focus (intro hc _ _; with_reducible (exact hn _ (by (repeat' (first | (with_reducible exact Below.refl _ _) | (with_reducible refine Below.ext_mk ?_ ?_ _ _) | (with_reducible refine Below.alloc ?_ ?_ _) | (with_reducible refine Below.drew ?_) | (with_reducible refine Below.setCell ?_ ?_ _) | go_size)))))); simp only [Act.put, List.setIfInBounds_toArray, List.set_cons_zero, List.set_cons_succ])
      | (apply text_if_call; (focus (first | exact wanted_t rfl rfl | exact wanted_f rfl rfl | exact wanted_gt rfl rfl | exact wanted_gf rfl rfl)); (focus (intro hc _ _; (try simp only [Bool.and_eq_true, Bool.not_eq_true', Bool.true_and] at hc); go_simp; exact ⟨rfl, rfl⟩)); (focus (intro hc _ _; with_reducible (exact hr _ (by (repeat' (first | (with_reducible exact Below.refl _ _) | (with_reducible refine Below.ext_mk ?_ ?_ _ _) | (with_reducible refine Below.alloc ?_ ?_ _) | (with_reducible refine Below.drew ?_) | (with_reducible refine Below.setCell ?_ ?_ _) | go_size))) _))); simp only [Act.put, List.setIfInBounds_toArray, List.set_cons_zero, List.set_cons_succ]))
    refine text_nil (HF.out _ (fun mx dx => ?_))
    clear HF F
    go_wp2
    go_returns
    exact Pure.of rfl (by (repeat' (first | (with_reducible exact Below.refl _ _) | (with_reducible refine Below.ext_mk ?_ ?_ _ _) | (with_reducible refine Below.alloc ?_ ?_ _) | (with_reducible refine Below.drew ?_) | (with_reducible refine Below.setCell ?_ ?_ _) | go_size)))

/-- A slice of truths. -/
def BitsAre (w : World) (sv : Value) (l : List Bool) : Prop :=
  ∃ g cap, sv = .slice (some ⟨g, 0, none⟩) l.length cap ∧ g < w.heap.size ∧ l.length ≤ 1000000 ∧ ∀ i b, l[i]? = some b → w.cell? ⟨g, i, none⟩ = some (.bool b)
theorem BitsAre.below {w w' : World} {sv : Value} {l : List Bool} (h : BitsAre w sv l) (hb : Below w.heap.size w w') : BitsAre w' sv l := by
  obtain ⟨g, cap, h1, h2, h4, h3⟩ := h
  exact ⟨g, cap, h1, Nat.lt_of_lt_of_le h2 hb.size, h4, fun i b hi => (hb.cell (p := ⟨g, i, none⟩) h2).trans (h3 i b hi)⟩
def bitsB (l : List Bool) : Int → Bool := fun v => decide (0 ≤ v) && l.getD v.toNat false

theorem holds_call {w : World} {p : Nat} {F : List Nat} {S : Sto} (h : StoIs w p F S) (hW : Wf S) (x : Int) {sv : Value} {l : List Bool} (hl : BitsAre w sv l) :
    Calls Try.prog 19 #[.pointer (some ⟨p, 0, none⟩), .int .i64 x, sv] w (Pure (.bool (ev S (bitsB l) (rightOf S x))) w) := by
  have hl1 : S.nodes.length ≤ 1048576 := by have := hW.len; have := hW.cap; omega
  have hc : S.cap ≠ 0 := by have := hW.cap2; omega
  have hr := has_right (S := S) x
  have hl0 := hl
  obtain ⟨gb, bcap, rfl, hgb, hlen, hbits⟩ := hl
  clear hgb hbits
  have N := none_any h hc
  have R := fun m d => right_any (h.ext m d) hl1 x
  go_enter Try.func19, Try.ntmps19
  go_wp2_with (first
    | (go_at_call 82; refine N.mono ?_; rintro e w' ⟨rfl, m1, d1, rfl⟩)
    | (go_at_call 83; refine (R _ _).mono ?_; rintro e w' ⟨rfl, m2, d2, rfl⟩))
  refine wp_gen (fun W hW => ?_)
  have hbW : Below w.heap.size w W := by rw [hW]; ((repeat' (first | (with_reducible exact Below.refl _ _) | (with_reducible refine Below.ext_mk ?_ ?_ _ _) | (with_reducible refine Below.alloc ?_ ?_ _) | (with_reducible refine Below.drew ?_) | (with_reducible refine Below.setCell ?_ ?_ _) | go_size)))
  clear hW
  have hW0 := h.below hbW
  have hB := hl0.below hbW
  clear h hl0 N R
  obtain ⟨gb', bcap', q1, hgb, _, hbits⟩ := hB
  obtain ⟨rfl, rfl⟩ : gb = gb' ∧ bcap = bcap' := by simpa using q1
  clear q1
  go_loopw [1] (fun x' wr => ∃ a : Int, x' = .int .i64 a ∧ S.has a ∧ ev S (bitsB l) a = ev S (bitsB l) (rightOf S x) ∧ Ext W wr) (fun x' _ => (intOf x').toNat)
  case atStart => exact ⟨_, rfl, hr, rfl, Ext.refl W⟩
  case round =>
    obtain ⟨a, rfl, ha, hev, m, d, rfl⟩ := hrel
    have HE := hid hev
    clear hev hr
    by_cases h2 : a < 2
    · have h1 : ¬ (1 < a) := by omega
      go_wp2
      go_returns
      refine Pure.of ?_ (Below.ext_mk hbW hbW.size _ _)
      rw [← HE.out, ev_low _ h2]
      rfl
    · obtain ⟨i, n, rfl, hn⟩ := has_node ha h2
      obtain ⟨g, cap', bm, tm, hp, hg, c0, c1, c2, c3, c4, hm, n0, n1, n2⟩ := StoNode hW0 hn
      have hch := hW.child hn
      have hok := hW.node i n hn
      have hlo := hok.lo
      have hhi := hok.hi
      have hi1 : (i : Int) < (S.nodes.length : Int) := by have := (List.getElem?_eq_some_iff.1 hn).1; omega
      have hi2 : (0 : Int) ≤ (i : Int) := by omega
      have hb : IntKind.i64.wrap (i : Int) = (i : Int) := IntWalk.i64_in _ (by omega)
      have v0 := hok.v0
      obtain ⟨v, lo, hi⟩ := n
      simp only at n0 n1 n2 v0 hlo hhi
      obtain ⟨k, rfl⟩ : ∃ k : Nat, v = (k : Int) := ⟨v.toNat, by omega⟩
      have HV := hid (ev_node hW (bitsB l) hn)
      have hgt : (1 : Int) < (i : Int) + 2 := by omega
      clear c0 c2 c3 c4 hok
      by_cases hk : k < l.length
      · have hbk := hbits k l[k] (List.getElem?_eq_getElem hk)
        have hk1 : (k : Int) < (l.length : Int) := by omega
        have HB : Hid (bitsB l (k : Int) = l[k]) := hid (by unfold bitsB; simp [hk])
        cases hv : l[k] with
        | true =>
          rw [hv] at hbk HB
          go_wp2
          go_roundw
          case rel =>
            refine ⟨hi, rfl, hch.2, ?_, Below.to_ext (by (repeat' (first | (with_reducible exact Below.refl _ _) | (with_reducible refine Below.ext_mk ?_ ?_ _ _) | (with_reducible refine Below.alloc ?_ ?_ _) | (with_reducible refine Below.drew ?_) | (with_reducible refine Below.setCell ?_ ?_ _) | go_size)))⟩
            rw [← HE.out, HV.out, HB.out]; rfl
          case measure => simp [intOf]; omega
        | false =>
          rw [hv] at hbk HB
          go_wp2
          go_roundw
          case rel =>
            refine ⟨lo, rfl, hch.1, ?_, Below.to_ext (by (repeat' (first | (with_reducible exact Below.refl _ _) | (with_reducible refine Below.ext_mk ?_ ?_ _ _) | (with_reducible refine Below.alloc ?_ ?_ _) | (with_reducible refine Below.drew ?_) | (with_reducible refine Below.setCell ?_ ?_ _) | go_size)))⟩
            rw [← HE.out, HV.out, HB.out]; rfl
          case measure => simp [intOf]; omega
      · have hk1 : ¬ (k : Int) < (l.length : Int) := by omega
        have HB : Hid (bitsB l (k : Int) = false) := hid (by unfold bitsB; simp [hk])
        go_wp2
        go_roundw
        case rel =>
          refine ⟨lo, rfl, hch.1, ?_, Below.to_ext (by (repeat' (first | (with_reducible exact Below.refl _ _) | (with_reducible refine Below.ext_mk ?_ ?_ _ _) | (with_reducible refine Below.alloc ?_ ?_ _) | (with_reducible refine Below.drew ?_) | (with_reducible refine Below.setCell ?_ ?_ _) | go_size)))⟩
          rw [← HE.out, HV.out, HB.out]; rfl
        case measure => simp [intOf]; omega
end Go.Proofs.Ytboekafmplomhaa
