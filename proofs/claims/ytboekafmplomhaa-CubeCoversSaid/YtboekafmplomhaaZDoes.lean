/-
  One call of a store, as the statements of layer 15 make it.
-/
import Derived.Test.YtboekafmplomhaaZMeansP
import Derived.Test.YtboekafmplomhaaZCallsB
import Derived.Test.YtboekafmplomhaaZV
set_option linter.unusedVariables false
set_option linter.unusedSimpArgs false
namespace Go.Proofs.Ytboekafmplomhaa
open Go.RowKit

/-- A slice that reads as cells, 'size' of them an element. -/
def Rd (w : World) (size : Nat) (sv : Value) (xs : List Value) : Prop :=
  ∃ a n cap, sv = .slice a n cap ∧ n ≤ cap ∧ n ≤ 9223372036854775807 ∧ xs.length = n * size ∧ (0 < n → ∃ b off, a = some ⟨b, off, none⟩ ∧ b < w.heap.size ∧ ∀ j u, xs[j]? = some u → w.cell? ⟨b, off + j, none⟩ = some u)
theorem Rd.below {w w' : World} {size : Nat} {sv : Value} {xs : List Value} (h : Rd w size sv xs) (hb : Below w.heap.size w w') : Rd w' size sv xs := by
  obtain ⟨a, n, cap, h1, h2, h3, h4, h5⟩ := h
  refine ⟨a, n, cap, h1, h2, h3, h4, fun hn => ?_⟩
  obtain ⟨b, off, e1, e2, e3⟩ := h5 hn
  exact ⟨b, off, e1, Nat.lt_of_lt_of_le e2 hb.size, fun j u hu => (hb.cell (p := ⟨b, off + j, none⟩) e2).trans (e3 j u hu)⟩
theorem Rd.step {w w' : World} {size : Nat} {sv : Value} {xs : List Value} {F F' : List Nat} (h : Rd w size sv xs) (hs : StoStep w w' F F') (hF : ∀ a n cap b off, sv = .slice a n cap → a = some ⟨b, off, none⟩ → b ∉ F) : Rd w' size sv xs := by
  obtain ⟨a, n, cap, h1, h2, h3, h4, h5⟩ := h
  refine ⟨a, n, cap, h1, h2, h3, h4, fun hn => ?_⟩
  obtain ⟨b, off, e1, e2, e3⟩ := h5 hn
  exact ⟨b, off, e1, Nat.lt_of_lt_of_le e2 hs.size, fun j u hu => by
    have := hs.block b e2 (hF a n cap b off h1 e1)
    simp only [World.cell?] at e3 ⊢
    rw [this]; exact e3 j u hu⟩
/-- Whole numbers as cells. -/
def ints (l : List Int) : List Value := l.map (Value.int .i64)
theorem ints_length (l : List Int) : (ints l).length = l.length := by simp [ints]
theorem Rd.len {w : World} {sv : Value} {l : List Int} (h : Rd w 1 sv (ints l)) : ∃ a cap, sv = .slice a l.length cap ∧ l.length ≤ cap ∧ l.length ≤ 9223372036854775807 := by
  obtain ⟨a, n, cap, h1, h2, h3, h4, _⟩ := h
  rw [ints_length, Nat.mul_one] at h4
  subst h4
  exact ⟨a, cap, h1, h2, h3⟩

theorem does1_any {w : World} {all : List Int} {sv : Value} (h : Rd w 1 sv (ints all)) (hlen : all.length ≤ 1000000) (b : Nat) (hb : b < w.heap.size) (cb : w.cell? ⟨b, 0, none⟩ = some sv) (i : Int) :
    Calls Try.prog 80 #[.int .i64 i, .pointer (some ⟨b, 0, none⟩)] w (Pure (.int .i64 (backAt 0 all i)) w) := by
  obtain ⟨a, n, cap, rfl, h2, h3, h4, h5⟩ := h
  rw [ints_length, Nat.mul_one] at h4
  subst h4
  by_cases h0 : i < 0
  · have e : backAt 0 all i = 0 := by unfold backAt; rw [if_pos (.inl h0)]
    rw [e]
    clear e
    go_enter Try.func80, Try.ntmps80
    go_upto_region 1 with (fail)
    refine wp_region_seq (fun F hF => ?_)
    have HF := hid hF; clear hF
    repeat (first
      | (apply text_skip; (focus rfl); simp only [Act.put, List.setIfInBounds_toArray, List.set_cons_zero, List.set_cons_succ])
      | (apply text_val; (focus rfl); (focus (intro _ _; go_simp; with_reducible rfl)); simp only [Act.put, List.setIfInBounds_toArray, List.set_cons_zero, List.set_cons_succ])
      | (apply text_if; (focus (first | exact wanted_t rfl rfl | exact wanted_f rfl rfl | exact wanted_gt rfl rfl | exact wanted_gf rfl rfl)); (focus (intro hc _ _; (try simp only [Bool.and_eq_true, Bool.not_eq_true', Bool.true_and] at hc); go_simp; with_reducible rfl)); simp only [Act.put, List.setIfInBounds_toArray, List.set_cons_zero, List.set_cons_succ]))
    refine text_nil (HF.out _ (fun mx dx => ?_))
    clear HF F
    go_wp2
    go_returns
    exact Pure.of rfl (by (repeat' (first | (with_reducible exact Below.refl _ _) | (with_reducible refine Below.ext_mk ?_ ?_ _ _) | (with_reducible refine Below.alloc ?_ ?_ _) | (with_reducible refine Below.drew ?_) | (with_reducible refine Below.setCell ?_ ?_ _) | go_size)))
  · by_cases hz : all.length = 0
    · have e : backAt 0 all i = 0 := by unfold backAt; rw [if_pos (.inr hz)]
      rw [e]
      clear e
      rw [hz] at cb
      clear h5 hlen h2 h3
      go_enter Try.func80, Try.ntmps80
      go_upto_region 1 with (fail)
      refine wp_region_seq (fun F hF => ?_)
      have HF := hid hF; clear hF
      repeat (first
        | (apply text_skip; (focus rfl); simp only [Act.put, List.setIfInBounds_toArray, List.set_cons_zero, List.set_cons_succ])
        | (apply text_val; (focus rfl); (focus (intro _ _; go_simp; with_reducible rfl)); simp only [Act.put, List.setIfInBounds_toArray, List.set_cons_zero, List.set_cons_succ])
        | (apply text_if; (focus (first | exact wanted_t rfl rfl | exact wanted_f rfl rfl | exact wanted_gt rfl rfl | exact wanted_gf rfl rfl)); (focus (intro hc _ _; (try simp only [Bool.and_eq_true, Bool.not_eq_true', Bool.true_and] at hc); go_simp; with_reducible rfl)); simp only [Act.put, List.setIfInBounds_toArray, List.set_cons_zero, List.set_cons_succ]))
      refine text_nil (HF.out _ (fun mx dx => ?_))
      clear HF F
      go_wp2
      go_returns
      exact Pure.of rfl (by (repeat' (first | (with_reducible exact Below.refl _ _) | (with_reducible refine Below.ext_mk ?_ ?_ _ _) | (with_reducible refine Below.alloc ?_ ?_ _) | (with_reducible refine Below.drew ?_) | (with_reducible refine Below.setCell ?_ ?_ _) | go_size)))
    · obtain ⟨b', off, rfl, e2, e3⟩ := h5 (by omega)
      have hm : i.toNat % all.length < all.length := Nat.mod_lt _ (by omega)
      have hj : all.length - 1 - i.toNat % all.length < all.length := by omega
      have hcell := e3 (all.length - 1 - i.toNat % all.length) (.int .i64 (backAt 0 all i)) (by
        unfold backAt ints
        rw [if_neg (by omega), List.getElem?_map, List.getElem?_eq_getElem hj]; rfl)
      obtain ⟨k, rfl⟩ : ∃ k : Nat, i = (k : Int) := ⟨i.toNat, by omega⟩
      simp only [Int.toNat_natCast] at hm hj hcell ⊢
      obtain ⟨j, hjd⟩ : ∃ j, j = all.length - 1 - k % all.length := ⟨_, rfl⟩
      rw [← hjd] at hcell hj
      have ew : IntKind.i64.wrap ((all.length : Int) - 1) = (all.length : Int) - 1 := IntWalk.i64_in _ (by omega)
      have et : (k : Int).tmod (all.length : Int) = (k : Int) % (all.length : Int) := rfl
      have em : ((k % all.length : Nat) : Int) = (k : Int) % (all.length : Int) := by simp
      have es : IntKind.i64.wrap ((all.length : Int) - 1 - (k : Int) % (all.length : Int)) = (j : Int) := by
        rw [← em, IntWalk.i64_in _ (by omega)]; omega
      have hz2 : ((all.length : Int) == 0) = false := by simp; intro e; exact hz (by rw [e]; rfl)
      have hz' : (all = []) = False := by simp; intro e; exact hz (by rw [e]; rfl)
      have hj1 : (j : Int) < (all.length : Int) := by omega
      have hj0 : (0 : Int) ≤ (j : Int) := by omega
      clear hjd h0 hz em e3 hm hj h3 h2 hlen h5
      go_enter Try.func80, Try.ntmps80
      go_upto_region 1 with (fail)
      refine wp_region_seq (fun F hF => ?_)
      have HF := hid hF; clear hF
      repeat (first
        | (apply text_skip; (focus rfl); simp only [Act.put, List.setIfInBounds_toArray, List.set_cons_zero, List.set_cons_succ])
        | (apply text_val; (focus rfl); (focus (intro _ _; go_simp; with_reducible rfl)); simp only [Act.put, List.setIfInBounds_toArray, List.set_cons_zero, List.set_cons_succ])
        | (apply text_if; (focus (first | exact wanted_t rfl rfl | exact wanted_f rfl rfl | exact wanted_gt rfl rfl | exact wanted_gf rfl rfl)); (focus (intro hc _ _; (try simp only [Bool.and_eq_true, Bool.not_eq_true', Bool.true_and] at hc); go_simp; with_reducible rfl)); simp only [Act.put, List.setIfInBounds_toArray, List.set_cons_zero, List.set_cons_succ]))
      refine text_nil (HF.out _ (fun mx dx => ?_))
      clear HF F
      go_upto_region 3 with (fail)
      refine wp_region_ext (by kernel_rfl) (by kernel_rfl) (fun F hF => ?_)
      have HF := hid hF; clear hF
      repeat (first
        | (apply text_skip; (focus rfl); simp only [Act.put, List.setIfInBounds_toArray, List.set_cons_zero, List.set_cons_succ])
        | (apply text_val; (focus rfl); (focus (intro _ _; go_simp; with_reducible rfl)); simp only [Act.put, List.setIfInBounds_toArray, List.set_cons_zero, List.set_cons_succ])
        | (apply text_if; (focus (first | exact wanted_t rfl rfl | exact wanted_f rfl rfl | exact wanted_gt rfl rfl | exact wanted_gf rfl rfl)); (focus (intro hc _ _; (try simp only [Bool.and_eq_true, Bool.not_eq_true', Bool.true_and] at hc); go_simp; with_reducible rfl)); simp only [Act.put, List.setIfInBounds_toArray, List.set_cons_zero, List.set_cons_succ]))
      refine text_nil (HF.out _ (fun mx dx => ?_))
      clear HF F
      go_wp2
      go_returns
      exact Pure.of rfl (by (repeat' (first | (with_reducible exact Below.refl _ _) | (with_reducible refine Below.ext_mk ?_ ?_ _ _) | (with_reducible refine Below.alloc ?_ ?_ _) | (with_reducible refine Below.drew ?_) | (with_reducible refine Below.setCell ?_ ?_ _) | go_size)))

/-- A call's outcome, by any name of what it tells. -/
theorem Tells.of {f : FuncId} {args : Array Value} {w : World} {p : Nat} {F : List Nat} {R R' : Sto × Int} (h : Tells f args w p F R) (e : R' = R) : Tells f args w p F R' := by rw [e]; exact h

section
variable {w : World} {p : Nat} {F : List Nat} {S : Sto} {all : List Int} {sa : Option Addr} {cap : Nat}

set_option maxRecDepth 4000 in
theorem does_ite (h : StoIs w p F S) (hW : Wf S) (hr : Rd w 1 (.slice sa all.length cap) (ints all)) (hlen : all.length ≤ 1000000) (a b c : Int) (on : Bool) :
    Tells 17 #[.pointer (some ⟨p, 0, none⟩), .slice sa all.length cap, .agg #[.int .i64 2, .int .i64 a, .int .i64 b, .int .i64 c, .bool on]] w p F (iteV S (backAt 0 all a) (backAt 0 all b) (backAt 0 all c)) := by
  have hmf : ∀ (fn : Fn) (first cap : Array Value) (w : World), (Instr.makeFunc fn first cap).run Try.prog w = .ok (.func fn first cap) w := fun _ _ _ _ => rfl
  unfold Tells
  go_enter Try.func17, Try.ntmps17
  go_upto_region 8 with (fail)
  refine wp_gen (fun V hV => ?_)
  have hbV : Below w.heap.size w V := by rw [hV]; ((repeat' (first | (with_reducible exact Below.refl _ _) | (with_reducible refine Below.ext_mk ?_ ?_ _ _) | (with_reducible refine Below.alloc ?_ ?_ _) | (with_reducible refine Below.drew ?_) | (with_reducible refine Below.setCell ?_ ?_ _) | go_size)))
  have zV0 : w.heap.size < V.heap.size := by rw [hV]; first | (simp; done) | (simp; omega)
  have cV0_0 : V.cell? ⟨w.heap.size, 0, none⟩ = some (.slice sa all.length cap) := by rw [hV]; first | (go_simp; done) | (rw [World.cell?_alloc_past _ _ _ (by first | (simp; done) | (simp; omega))]; go_simp)
  have zV1 : w.heap.size + 1 < V.heap.size := by rw [hV]; first | (simp; done) | (simp; omega)
  have cV1_0 : V.cell? ⟨w.heap.size + 1, 0, none⟩ = some (.int .i64 2) := by rw [hV]; first | (go_simp; done) | (rw [World.cell?_alloc_past _ _ _ (by first | (simp; done) | (simp; omega))]; go_simp)
  have cV1_1 : V.cell? ⟨w.heap.size + 1, 1, none⟩ = some (.int .i64 a) := by rw [hV]; first | (go_simp; done) | (rw [World.cell?_alloc_past _ _ _ (by first | (simp; done) | (simp; omega))]; go_simp)
  have cV1_2 : V.cell? ⟨w.heap.size + 1, 2, none⟩ = some (.int .i64 b) := by rw [hV]; first | (go_simp; done) | (rw [World.cell?_alloc_past _ _ _ (by first | (simp; done) | (simp; omega))]; go_simp)
  have cV1_3 : V.cell? ⟨w.heap.size + 1, 3, none⟩ = some (.int .i64 c) := by rw [hV]; first | (go_simp; done) | (rw [World.cell?_alloc_past _ _ _ (by first | (simp; done) | (simp; omega))]; go_simp)
  have cV1_4 : V.cell? ⟨w.heap.size + 1, 4, none⟩ = some (.bool on) := by rw [hV]; first | (go_simp; done) | (rw [World.cell?_alloc_past _ _ _ (by first | (simp; done) | (simp; omega))]; go_simp)
  clear hV
  have hV := h.below hbV
  have C := fun m d i => does1_any (w := V.ext m d) ((hr.below hbV).below (Below.ext_mk (Below.refl _ _) (Nat.le_refl _) m d)) hlen w.heap.size (by simp; omega) (by rw [World.cell?_ext _ _ _ _ _ zV0]; exact cV0_0) i
  have M := fun m d => ite_call (hV.ext m d) hW (backAt 0 all a) (backAt 0 all b) (backAt 0 all c)
  have st : StoStep w V F F := StoStep.of_below hbV
  unfold Tells at M
  clear hV hr h
  refine wp_region_tail 13 (by kernel_rfl) (by kernel_rfl) (by kernel_rfl) (by kernel_rfl) (by kernel_rfl) (fun F hF => ?_)
  simp only [List.take_succ_cons, List.take_zero, List.drop_succ_cons, List.drop_zero] at hF ⊢
  have HF := hid hF; clear hF
  repeat (first
    | (apply text_skip; (focus rfl); simp only [Act.put, List.setIfInBounds_toArray, List.set_cons_zero, List.set_cons_succ])
    | (apply text_val; (focus rfl); (focus (intro _ _; go_simp; with_reducible rfl)); simp only [Act.put, List.setIfInBounds_toArray, List.set_cons_zero, List.set_cons_succ])
    | (apply text_call; (focus rfl); (focus (intro _ _; go_simp; exact ⟨rfl, rfl⟩)); (focus (intro _ _; with_reducible (exact C _ _ _))); simp only [Act.put, List.setIfInBounds_toArray, List.set_cons_zero, List.set_cons_succ])
    | (apply text_if; (focus (first | exact wanted_t rfl rfl | exact wanted_f rfl rfl | exact wanted_gt rfl rfl | exact wanted_gf rfl rfl)); (focus (intro hc _ _; (try simp only [Bool.and_eq_true, Bool.not_eq_true', Bool.true_and] at hc); go_simp; with_reducible rfl)); simp only [Act.put, List.setIfInBounds_toArray, List.set_cons_zero, List.set_cons_succ])
    | (apply text_if_call; (focus (first | exact wanted_t rfl rfl | exact wanted_f rfl rfl | exact wanted_gt rfl rfl | exact wanted_gf rfl rfl)); (focus (intro hc _ _; (try simp only [Bool.and_eq_true, Bool.not_eq_true', Bool.true_and] at hc); go_simp; exact ⟨rfl, rfl⟩)); (focus (intro hc _ _; with_reducible (exact C _ _ _))); simp only [Act.put, List.setIfInBounds_toArray, List.set_cons_zero, List.set_cons_succ]))
  refine text_nil (HF.out _ (fun mx dx => ?_))
  clear HF F
  go_wp2_with (go_at_call 25; refine (M _ _).mono ?_; rintro e w' ⟨rfl, hT⟩)
  go_returns
  exact ⟨rfl, hT.after (st.ext _ _)⟩

set_option maxRecDepth 4000 in
theorem does_not (h : StoIs w p F S) (hW : Wf S) (hr : Rd w 1 (.slice sa all.length cap) (ints all)) (hlen : all.length ≤ 1000000) (a b c : Int) (on : Bool) :
    Tells 17 #[.pointer (some ⟨p, 0, none⟩), .slice sa all.length cap, .agg #[.int .i64 3, .int .i64 a, .int .i64 b, .int .i64 c, .bool on]] w p F (notV S (backAt 0 all a)) := by
  have hmf : ∀ (fn : Fn) (first cap : Array Value) (w : World), (Instr.makeFunc fn first cap).run Try.prog w = .ok (.func fn first cap) w := fun _ _ _ _ => rfl
  unfold Tells
  go_enter Try.func17, Try.ntmps17
  go_upto_region 10 with (fail)
  refine wp_gen (fun V hV => ?_)
  have hbV : Below w.heap.size w V := by rw [hV]; ((repeat' (first | (with_reducible exact Below.refl _ _) | (with_reducible refine Below.ext_mk ?_ ?_ _ _) | (with_reducible refine Below.alloc ?_ ?_ _) | (with_reducible refine Below.drew ?_) | (with_reducible refine Below.setCell ?_ ?_ _) | go_size)))
  have zV0 : w.heap.size < V.heap.size := by rw [hV]; first | (simp; done) | (simp; omega)
  have cV0_0 : V.cell? ⟨w.heap.size, 0, none⟩ = some (.slice sa all.length cap) := by rw [hV]; first | (go_simp; done) | (rw [World.cell?_alloc_past _ _ _ (by first | (simp; done) | (simp; omega))]; go_simp)
  have zV1 : w.heap.size + 1 < V.heap.size := by rw [hV]; first | (simp; done) | (simp; omega)
  have cV1_0 : V.cell? ⟨w.heap.size + 1, 0, none⟩ = some (.int .i64 3) := by rw [hV]; first | (go_simp; done) | (rw [World.cell?_alloc_past _ _ _ (by first | (simp; done) | (simp; omega))]; go_simp)
  have cV1_1 : V.cell? ⟨w.heap.size + 1, 1, none⟩ = some (.int .i64 a) := by rw [hV]; first | (go_simp; done) | (rw [World.cell?_alloc_past _ _ _ (by first | (simp; done) | (simp; omega))]; go_simp)
  have cV1_2 : V.cell? ⟨w.heap.size + 1, 2, none⟩ = some (.int .i64 b) := by rw [hV]; first | (go_simp; done) | (rw [World.cell?_alloc_past _ _ _ (by first | (simp; done) | (simp; omega))]; go_simp)
  have cV1_3 : V.cell? ⟨w.heap.size + 1, 3, none⟩ = some (.int .i64 c) := by rw [hV]; first | (go_simp; done) | (rw [World.cell?_alloc_past _ _ _ (by first | (simp; done) | (simp; omega))]; go_simp)
  have cV1_4 : V.cell? ⟨w.heap.size + 1, 4, none⟩ = some (.bool on) := by rw [hV]; first | (go_simp; done) | (rw [World.cell?_alloc_past _ _ _ (by first | (simp; done) | (simp; omega))]; go_simp)
  clear hV
  have hV := h.below hbV
  have C0 := fun i => does1_any (w := V) (hr.below hbV) hlen w.heap.size zV0 cV0_0 i
  have C := fun m d i => does1_any (w := V.ext m d) ((hr.below hbV).below (Below.ext_mk (Below.refl _ _) (Nat.le_refl _) m d)) hlen w.heap.size (by simp; omega) (by rw [World.cell?_ext _ _ _ _ _ zV0]; exact cV0_0) i
  have M := fun m d => not_call (hV.ext m d) hW (backAt 0 all a)
  have st : StoStep w V F F := StoStep.of_below hbV
  unfold Tells at M
  clear hV hr h
  go_wp2_with (first
    | ((with_reducible refine (C0 _).mono ?_); rintro e w' ⟨rfl, m1, d1, rfl⟩)
    | (go_at_call 26; refine (M _ _).mono ?_; rintro e w' ⟨rfl, hT⟩))
  go_returns
  exact ⟨rfl, hT.after (st.ext _ _)⟩

set_option maxRecDepth 4000 in
theorem does_and (h : StoIs w p F S) (hW : Wf S) (hr : Rd w 1 (.slice sa all.length cap) (ints all)) (hlen : all.length ≤ 1000000) (a b c : Int) (on : Bool) :
    Tells 17 #[.pointer (some ⟨p, 0, none⟩), .slice sa all.length cap, .agg #[.int .i64 4, .int .i64 a, .int .i64 b, .int .i64 c, .bool on]] w p F (andV S (backAt 0 all a) (backAt 0 all b)) := by
  have hmf : ∀ (fn : Fn) (first cap : Array Value) (w : World), (Instr.makeFunc fn first cap).run Try.prog w = .ok (.func fn first cap) w := fun _ _ _ _ => rfl
  unfold Tells
  go_enter Try.func17, Try.ntmps17
  go_upto_region 12 with (fail)
  refine wp_gen (fun V hV => ?_)
  have hbV : Below w.heap.size w V := by rw [hV]; ((repeat' (first | (with_reducible exact Below.refl _ _) | (with_reducible refine Below.ext_mk ?_ ?_ _ _) | (with_reducible refine Below.alloc ?_ ?_ _) | (with_reducible refine Below.drew ?_) | (with_reducible refine Below.setCell ?_ ?_ _) | go_size)))
  have zV0 : w.heap.size < V.heap.size := by rw [hV]; first | (simp; done) | (simp; omega)
  have cV0_0 : V.cell? ⟨w.heap.size, 0, none⟩ = some (.slice sa all.length cap) := by rw [hV]; first | (go_simp; done) | (rw [World.cell?_alloc_past _ _ _ (by first | (simp; done) | (simp; omega))]; go_simp)
  have zV1 : w.heap.size + 1 < V.heap.size := by rw [hV]; first | (simp; done) | (simp; omega)
  have cV1_0 : V.cell? ⟨w.heap.size + 1, 0, none⟩ = some (.int .i64 4) := by rw [hV]; first | (go_simp; done) | (rw [World.cell?_alloc_past _ _ _ (by first | (simp; done) | (simp; omega))]; go_simp)
  have cV1_1 : V.cell? ⟨w.heap.size + 1, 1, none⟩ = some (.int .i64 a) := by rw [hV]; first | (go_simp; done) | (rw [World.cell?_alloc_past _ _ _ (by first | (simp; done) | (simp; omega))]; go_simp)
  have cV1_2 : V.cell? ⟨w.heap.size + 1, 2, none⟩ = some (.int .i64 b) := by rw [hV]; first | (go_simp; done) | (rw [World.cell?_alloc_past _ _ _ (by first | (simp; done) | (simp; omega))]; go_simp)
  have cV1_3 : V.cell? ⟨w.heap.size + 1, 3, none⟩ = some (.int .i64 c) := by rw [hV]; first | (go_simp; done) | (rw [World.cell?_alloc_past _ _ _ (by first | (simp; done) | (simp; omega))]; go_simp)
  have cV1_4 : V.cell? ⟨w.heap.size + 1, 4, none⟩ = some (.bool on) := by rw [hV]; first | (go_simp; done) | (rw [World.cell?_alloc_past _ _ _ (by first | (simp; done) | (simp; omega))]; go_simp)
  clear hV
  have hV := h.below hbV
  have C := fun m d i => does1_any (w := V.ext m d) ((hr.below hbV).below (Below.ext_mk (Below.refl _ _) (Nat.le_refl _) m d)) hlen w.heap.size (by simp; omega) (by rw [World.cell?_ext _ _ _ _ _ zV0]; exact cV0_0) i
  have M := fun m d => and_call (hV.ext m d) hW (backAt 0 all a) (backAt 0 all b)
  have st : StoStep w V F F := StoStep.of_below hbV
  unfold Tells at M
  clear hV hr h
  refine wp_region_tail 9 (by kernel_rfl) (by kernel_rfl) (by kernel_rfl) (by kernel_rfl) (by kernel_rfl) (fun F hF => ?_)
  simp only [List.take_succ_cons, List.take_zero, List.drop_succ_cons, List.drop_zero] at hF ⊢
  have HF := hid hF; clear hF
  repeat (first
    | (apply text_skip; (focus rfl); simp only [Act.put, List.setIfInBounds_toArray, List.set_cons_zero, List.set_cons_succ])
    | (apply text_val; (focus rfl); (focus (intro _ _; go_simp; with_reducible rfl)); simp only [Act.put, List.setIfInBounds_toArray, List.set_cons_zero, List.set_cons_succ])
    | (apply text_call; (focus rfl); (focus (intro _ _; go_simp; exact ⟨rfl, rfl⟩)); (focus (intro _ _; with_reducible (exact C _ _ _))); simp only [Act.put, List.setIfInBounds_toArray, List.set_cons_zero, List.set_cons_succ])
    | (apply text_if; (focus (first | exact wanted_t rfl rfl | exact wanted_f rfl rfl | exact wanted_gt rfl rfl | exact wanted_gf rfl rfl)); (focus (intro hc _ _; (try simp only [Bool.and_eq_true, Bool.not_eq_true', Bool.true_and] at hc); go_simp; with_reducible rfl)); simp only [Act.put, List.setIfInBounds_toArray, List.set_cons_zero, List.set_cons_succ])
    | (apply text_if_call; (focus (first | exact wanted_t rfl rfl | exact wanted_f rfl rfl | exact wanted_gt rfl rfl | exact wanted_gf rfl rfl)); (focus (intro hc _ _; (try simp only [Bool.and_eq_true, Bool.not_eq_true', Bool.true_and] at hc); go_simp; exact ⟨rfl, rfl⟩)); (focus (intro hc _ _; with_reducible (exact C _ _ _))); simp only [Act.put, List.setIfInBounds_toArray, List.set_cons_zero, List.set_cons_succ]))
  refine text_nil (HF.out _ (fun mx dx => ?_))
  clear HF F
  go_wp2_with (go_at_call 27; refine (M _ _).mono ?_; rintro e w' ⟨rfl, hT⟩)
  go_returns
  exact ⟨rfl, hT.after (st.ext _ _)⟩

set_option maxRecDepth 4000 in
theorem does_or (h : StoIs w p F S) (hW : Wf S) (hr : Rd w 1 (.slice sa all.length cap) (ints all)) (hlen : all.length ≤ 1000000) (a b c : Int) (on : Bool) :
    Tells 17 #[.pointer (some ⟨p, 0, none⟩), .slice sa all.length cap, .agg #[.int .i64 5, .int .i64 a, .int .i64 b, .int .i64 c, .bool on]] w p F (orV S (backAt 0 all a) (backAt 0 all b)) := by
  have hmf : ∀ (fn : Fn) (first cap : Array Value) (w : World), (Instr.makeFunc fn first cap).run Try.prog w = .ok (.func fn first cap) w := fun _ _ _ _ => rfl
  unfold Tells
  go_enter Try.func17, Try.ntmps17
  go_upto_region 14 with (fail)
  refine wp_gen (fun V hV => ?_)
  have hbV : Below w.heap.size w V := by rw [hV]; ((repeat' (first | (with_reducible exact Below.refl _ _) | (with_reducible refine Below.ext_mk ?_ ?_ _ _) | (with_reducible refine Below.alloc ?_ ?_ _) | (with_reducible refine Below.drew ?_) | (with_reducible refine Below.setCell ?_ ?_ _) | go_size)))
  have zV0 : w.heap.size < V.heap.size := by rw [hV]; first | (simp; done) | (simp; omega)
  have cV0_0 : V.cell? ⟨w.heap.size, 0, none⟩ = some (.slice sa all.length cap) := by rw [hV]; first | (go_simp; done) | (rw [World.cell?_alloc_past _ _ _ (by first | (simp; done) | (simp; omega))]; go_simp)
  have zV1 : w.heap.size + 1 < V.heap.size := by rw [hV]; first | (simp; done) | (simp; omega)
  have cV1_0 : V.cell? ⟨w.heap.size + 1, 0, none⟩ = some (.int .i64 5) := by rw [hV]; first | (go_simp; done) | (rw [World.cell?_alloc_past _ _ _ (by first | (simp; done) | (simp; omega))]; go_simp)
  have cV1_1 : V.cell? ⟨w.heap.size + 1, 1, none⟩ = some (.int .i64 a) := by rw [hV]; first | (go_simp; done) | (rw [World.cell?_alloc_past _ _ _ (by first | (simp; done) | (simp; omega))]; go_simp)
  have cV1_2 : V.cell? ⟨w.heap.size + 1, 2, none⟩ = some (.int .i64 b) := by rw [hV]; first | (go_simp; done) | (rw [World.cell?_alloc_past _ _ _ (by first | (simp; done) | (simp; omega))]; go_simp)
  have cV1_3 : V.cell? ⟨w.heap.size + 1, 3, none⟩ = some (.int .i64 c) := by rw [hV]; first | (go_simp; done) | (rw [World.cell?_alloc_past _ _ _ (by first | (simp; done) | (simp; omega))]; go_simp)
  have cV1_4 : V.cell? ⟨w.heap.size + 1, 4, none⟩ = some (.bool on) := by rw [hV]; first | (go_simp; done) | (rw [World.cell?_alloc_past _ _ _ (by first | (simp; done) | (simp; omega))]; go_simp)
  clear hV
  have hV := h.below hbV
  have C := fun m d i => does1_any (w := V.ext m d) ((hr.below hbV).below (Below.ext_mk (Below.refl _ _) (Nat.le_refl _) m d)) hlen w.heap.size (by simp; omega) (by rw [World.cell?_ext _ _ _ _ _ zV0]; exact cV0_0) i
  have M := fun m d => or_call (hV.ext m d) hW (backAt 0 all a) (backAt 0 all b)
  have st : StoStep w V F F := StoStep.of_below hbV
  unfold Tells at M
  clear hV hr h
  refine wp_region_tail 9 (by kernel_rfl) (by kernel_rfl) (by kernel_rfl) (by kernel_rfl) (by kernel_rfl) (fun F hF => ?_)
  simp only [List.take_succ_cons, List.take_zero, List.drop_succ_cons, List.drop_zero] at hF ⊢
  have HF := hid hF; clear hF
  repeat (first
    | (apply text_skip; (focus rfl); simp only [Act.put, List.setIfInBounds_toArray, List.set_cons_zero, List.set_cons_succ])
    | (apply text_val; (focus rfl); (focus (intro _ _; go_simp; with_reducible rfl)); simp only [Act.put, List.setIfInBounds_toArray, List.set_cons_zero, List.set_cons_succ])
    | (apply text_call; (focus rfl); (focus (intro _ _; go_simp; exact ⟨rfl, rfl⟩)); (focus (intro _ _; with_reducible (exact C _ _ _))); simp only [Act.put, List.setIfInBounds_toArray, List.set_cons_zero, List.set_cons_succ])
    | (apply text_if; (focus (first | exact wanted_t rfl rfl | exact wanted_f rfl rfl | exact wanted_gt rfl rfl | exact wanted_gf rfl rfl)); (focus (intro hc _ _; (try simp only [Bool.and_eq_true, Bool.not_eq_true', Bool.true_and] at hc); go_simp; with_reducible rfl)); simp only [Act.put, List.setIfInBounds_toArray, List.set_cons_zero, List.set_cons_succ])
    | (apply text_if_call; (focus (first | exact wanted_t rfl rfl | exact wanted_f rfl rfl | exact wanted_gt rfl rfl | exact wanted_gf rfl rfl)); (focus (intro hc _ _; (try simp only [Bool.and_eq_true, Bool.not_eq_true', Bool.true_and] at hc); go_simp; exact ⟨rfl, rfl⟩)); (focus (intro hc _ _; with_reducible (exact C _ _ _))); simp only [Act.put, List.setIfInBounds_toArray, List.set_cons_zero, List.set_cons_succ]))
  refine text_nil (HF.out _ (fun mx dx => ?_))
  clear HF F
  go_wp2_with (go_at_call 28; refine (M _ _).mono ?_; rintro e w' ⟨rfl, hT⟩)
  go_returns
  exact ⟨rfl, hT.after (st.ext _ _)⟩

set_option maxRecDepth 4000 in
theorem does_xor (h : StoIs w p F S) (hW : Wf S) (hr : Rd w 1 (.slice sa all.length cap) (ints all)) (hlen : all.length ≤ 1000000) (a b c : Int) (on : Bool) :
    Tells 17 #[.pointer (some ⟨p, 0, none⟩), .slice sa all.length cap, .agg #[.int .i64 6, .int .i64 a, .int .i64 b, .int .i64 c, .bool on]] w p F (xorV S (backAt 0 all a) (backAt 0 all b)) := by
  have hmf : ∀ (fn : Fn) (first cap : Array Value) (w : World), (Instr.makeFunc fn first cap).run Try.prog w = .ok (.func fn first cap) w := fun _ _ _ _ => rfl
  unfold Tells
  go_enter Try.func17, Try.ntmps17
  go_upto_region 16 with (fail)
  refine wp_gen (fun V hV => ?_)
  have hbV : Below w.heap.size w V := by rw [hV]; ((repeat' (first | (with_reducible exact Below.refl _ _) | (with_reducible refine Below.ext_mk ?_ ?_ _ _) | (with_reducible refine Below.alloc ?_ ?_ _) | (with_reducible refine Below.drew ?_) | (with_reducible refine Below.setCell ?_ ?_ _) | go_size)))
  have zV0 : w.heap.size < V.heap.size := by rw [hV]; first | (simp; done) | (simp; omega)
  have cV0_0 : V.cell? ⟨w.heap.size, 0, none⟩ = some (.slice sa all.length cap) := by rw [hV]; first | (go_simp; done) | (rw [World.cell?_alloc_past _ _ _ (by first | (simp; done) | (simp; omega))]; go_simp)
  have zV1 : w.heap.size + 1 < V.heap.size := by rw [hV]; first | (simp; done) | (simp; omega)
  have cV1_0 : V.cell? ⟨w.heap.size + 1, 0, none⟩ = some (.int .i64 6) := by rw [hV]; first | (go_simp; done) | (rw [World.cell?_alloc_past _ _ _ (by first | (simp; done) | (simp; omega))]; go_simp)
  have cV1_1 : V.cell? ⟨w.heap.size + 1, 1, none⟩ = some (.int .i64 a) := by rw [hV]; first | (go_simp; done) | (rw [World.cell?_alloc_past _ _ _ (by first | (simp; done) | (simp; omega))]; go_simp)
  have cV1_2 : V.cell? ⟨w.heap.size + 1, 2, none⟩ = some (.int .i64 b) := by rw [hV]; first | (go_simp; done) | (rw [World.cell?_alloc_past _ _ _ (by first | (simp; done) | (simp; omega))]; go_simp)
  have cV1_3 : V.cell? ⟨w.heap.size + 1, 3, none⟩ = some (.int .i64 c) := by rw [hV]; first | (go_simp; done) | (rw [World.cell?_alloc_past _ _ _ (by first | (simp; done) | (simp; omega))]; go_simp)
  have cV1_4 : V.cell? ⟨w.heap.size + 1, 4, none⟩ = some (.bool on) := by rw [hV]; first | (go_simp; done) | (rw [World.cell?_alloc_past _ _ _ (by first | (simp; done) | (simp; omega))]; go_simp)
  clear hV
  have hV := h.below hbV
  have C := fun m d i => does1_any (w := V.ext m d) ((hr.below hbV).below (Below.ext_mk (Below.refl _ _) (Nat.le_refl _) m d)) hlen w.heap.size (by simp; omega) (by rw [World.cell?_ext _ _ _ _ _ zV0]; exact cV0_0) i
  have M := fun m d => xor_call (hV.ext m d) hW (backAt 0 all a) (backAt 0 all b)
  have st : StoStep w V F F := StoStep.of_below hbV
  unfold Tells at M
  clear hV hr h
  refine wp_region_tail 9 (by kernel_rfl) (by kernel_rfl) (by kernel_rfl) (by kernel_rfl) (by kernel_rfl) (fun F hF => ?_)
  simp only [List.take_succ_cons, List.take_zero, List.drop_succ_cons, List.drop_zero] at hF ⊢
  have HF := hid hF; clear hF
  repeat (first
    | (apply text_skip; (focus rfl); simp only [Act.put, List.setIfInBounds_toArray, List.set_cons_zero, List.set_cons_succ])
    | (apply text_val; (focus rfl); (focus (intro _ _; go_simp; with_reducible rfl)); simp only [Act.put, List.setIfInBounds_toArray, List.set_cons_zero, List.set_cons_succ])
    | (apply text_call; (focus rfl); (focus (intro _ _; go_simp; exact ⟨rfl, rfl⟩)); (focus (intro _ _; with_reducible (exact C _ _ _))); simp only [Act.put, List.setIfInBounds_toArray, List.set_cons_zero, List.set_cons_succ])
    | (apply text_if; (focus (first | exact wanted_t rfl rfl | exact wanted_f rfl rfl | exact wanted_gt rfl rfl | exact wanted_gf rfl rfl)); (focus (intro hc _ _; (try simp only [Bool.and_eq_true, Bool.not_eq_true', Bool.true_and] at hc); go_simp; with_reducible rfl)); simp only [Act.put, List.setIfInBounds_toArray, List.set_cons_zero, List.set_cons_succ])
    | (apply text_if_call; (focus (first | exact wanted_t rfl rfl | exact wanted_f rfl rfl | exact wanted_gt rfl rfl | exact wanted_gf rfl rfl)); (focus (intro hc _ _; (try simp only [Bool.and_eq_true, Bool.not_eq_true', Bool.true_and] at hc); go_simp; exact ⟨rfl, rfl⟩)); (focus (intro hc _ _; with_reducible (exact C _ _ _))); simp only [Act.put, List.setIfInBounds_toArray, List.set_cons_zero, List.set_cons_succ]))
  refine text_nil (HF.out _ (fun mx dx => ?_))
  clear HF F
  go_wp2_with (go_at_call 29; refine (M _ _).mono ?_; rintro e w' ⟨rfl, hT⟩)
  go_returns
  exact ⟨rfl, hT.after (st.ext _ _)⟩

theorem does_var (h : StoIs w p F S) (hW : Wf S) (a b c : Int) (on : Bool) :
    Tells 17 #[.pointer (some ⟨p, 0, none⟩), .slice sa all.length cap, .agg #[.int .i64 1, .int .i64 a, .int .i64 b, .int .i64 c, .bool on]] w p F (if 5 < a then (S, 0) else varV S a) := by
  have hmf : ∀ (fn : Fn) (first cap : Array Value) (w : World), (Instr.makeFunc fn first cap).run Try.prog w = .ok (.func fn first cap) w := fun _ _ _ _ => rfl
  unfold Tells
  by_cases h5 : 5 < a
  · rw [if_pos h5]
    go_enter Try.func17, Try.ntmps17
    go_wp2
    go_returns
    refine ⟨rfl, F, h.below ?_, StoStep.of_below ?_⟩ <;> (repeat' (first | (with_reducible exact Below.refl _ _) | (with_reducible refine Below.ext_mk ?_ ?_ _ _) | (with_reducible refine Below.alloc ?_ ?_ _) | (with_reducible refine Below.drew ?_) | (with_reducible refine Below.setCell ?_ ?_ _) | go_size))
  · rw [if_neg h5]
    go_enter Try.func17, Try.ntmps17
    go_upto_region 6 with (fail)
    refine wp_gen (fun V hV => ?_)
    have hbV : Below w.heap.size w V := by rw [hV]; ((repeat' (first | (with_reducible exact Below.refl _ _) | (with_reducible refine Below.ext_mk ?_ ?_ _ _) | (with_reducible refine Below.alloc ?_ ?_ _) | (with_reducible refine Below.drew ?_) | (with_reducible refine Below.setCell ?_ ?_ _) | go_size)))
    have zV0 : w.heap.size < V.heap.size := by rw [hV]; first | (simp; done) | (simp; omega)
    have cV0_0 : V.cell? ⟨w.heap.size, 0, none⟩ = some (.slice sa all.length cap) := by rw [hV]; first | (go_simp; done) | (rw [World.cell?_alloc_past _ _ _ (by first | (simp; done) | (simp; omega))]; go_simp)
    have zV1 : w.heap.size + 1 < V.heap.size := by rw [hV]; first | (simp; done) | (simp; omega)
    have cV1_0 : V.cell? ⟨w.heap.size + 1, 0, none⟩ = some (.int .i64 1) := by rw [hV]; first | (go_simp; done) | (rw [World.cell?_alloc_past _ _ _ (by first | (simp; done) | (simp; omega))]; go_simp)
    have cV1_1 : V.cell? ⟨w.heap.size + 1, 1, none⟩ = some (.int .i64 a) := by rw [hV]; first | (go_simp; done) | (rw [World.cell?_alloc_past _ _ _ (by first | (simp; done) | (simp; omega))]; go_simp)
    have cV1_2 : V.cell? ⟨w.heap.size + 1, 2, none⟩ = some (.int .i64 b) := by rw [hV]; first | (go_simp; done) | (rw [World.cell?_alloc_past _ _ _ (by first | (simp; done) | (simp; omega))]; go_simp)
    have cV1_3 : V.cell? ⟨w.heap.size + 1, 3, none⟩ = some (.int .i64 c) := by rw [hV]; first | (go_simp; done) | (rw [World.cell?_alloc_past _ _ _ (by first | (simp; done) | (simp; omega))]; go_simp)
    have cV1_4 : V.cell? ⟨w.heap.size + 1, 4, none⟩ = some (.bool on) := by rw [hV]; first | (go_simp; done) | (rw [World.cell?_alloc_past _ _ _ (by first | (simp; done) | (simp; omega))]; go_simp)
    clear hV
    have hV := h.below hbV
    have M := var_call hV hW a
    have st : StoStep w V F F := StoStep.of_below hbV
    unfold Tells at M
    clear hV h
    go_wp2_with (go_at_call 24; refine M.mono ?_; rintro e w' ⟨rfl, hT⟩)
    go_returns
    exact ⟨rfl, hT.after st⟩
theorem does_other (h : StoIs w p F S) (k a b c : Int) (on : Bool) (e1 : k ≠ 1) (e2 : k ≠ 2) (e3 : k ≠ 3) (e4 : k ≠ 4) (e5 : k ≠ 5) (e6 : k ≠ 6) :
    Tells 17 #[.pointer (some ⟨p, 0, none⟩), .slice sa all.length cap, .agg #[.int .i64 k, .int .i64 a, .int .i64 b, .int .i64 c, .bool on]] w p F (S, 0) := by
  have hmf : ∀ (fn : Fn) (first cap : Array Value) (w : World), (Instr.makeFunc fn first cap).run Try.prog w = .ok (.func fn first cap) w := fun _ _ _ _ => rfl
  have f1 : (k == 1) = false := by simpa using e1
  have f2 : (k == 2) = false := by simpa using e2
  have f3 : (k == 3) = false := by simpa using e3
  have f4 : (k == 4) = false := by simpa using e4
  have f5 : (k == 5) = false := by simpa using e5
  have f6 : (k == 6) = false := by simpa using e6
  clear e1 e2 e3 e4 e5 e6
  unfold Tells
  go_enter Try.func17, Try.ntmps17
  go_wp2
  go_returns
  refine ⟨rfl, F, h.below ?_, StoStep.of_below ?_⟩ <;> (repeat' (first | (with_reducible exact Below.refl _ _) | (with_reducible refine Below.ext_mk ?_ ?_ _ _) | (with_reducible refine Below.alloc ?_ ?_ _) | (with_reducible refine Below.drew ?_) | (with_reducible refine Below.setCell ?_ ?_ _) | go_size))

theorem does_any (h : StoIs w p F S) (hW : Wf S) (hr : Rd w 1 (.slice sa all.length cap) (ints all)) (hlen : all.length ≤ 1000000) (o : OpD) :
    Tells 17 #[.pointer (some ⟨p, 0, none⟩), .slice sa all.length cap, .agg #[.int .i64 o.k, .int .i64 o.a, .int .i64 o.b, .int .i64 o.c, .bool o.on]] w p F (doesV S all o) := by
  obtain ⟨k, a, b, c, on⟩ := o
  unfold doesV
  simp only
  by_cases e1 : k = 1
  · subst e1; rw [if_pos rfl]; exact does_var h hW a b c on
  · rw [if_neg e1]
    by_cases e2 : k = 2
    · subst e2; rw [if_pos rfl]; exact does_ite h hW hr hlen a b c on
    · rw [if_neg e2]
      by_cases e3 : k = 3
      · subst e3; rw [if_pos rfl]; exact does_not h hW hr hlen a b c on
      · rw [if_neg e3]
        by_cases e4 : k = 4
        · subst e4; rw [if_pos rfl]; exact does_and h hW hr hlen a b c on
        · rw [if_neg e4]
          by_cases e5 : k = 5
          · subst e5; rw [if_pos rfl]; exact does_or h hW hr hlen a b c on
          · rw [if_neg e5]
            by_cases e6 : k = 6
            · subst e6; rw [if_pos rfl]; exact does_xor h hW hr hlen a b c on
            · rw [if_neg e6]; exact does_other h k a b c on e1 e2 e3 e4 e5 e6
end
end Go.Proofs.Ytboekafmplomhaa
