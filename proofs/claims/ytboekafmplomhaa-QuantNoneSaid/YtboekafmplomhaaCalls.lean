/-
  Var, Ite and what is made of these.
-/
import Derived.Test.YtboekafmplomhaaMade
import Derived.StillTailTactics
set_option linter.unusedVariables false
set_option linter.unusedSimpArgs false
namespace Go.Proofs.Ytboekafmplomhaa
open Go.RowKit

theorem var1_any {w : World} {p : Nat} {F : List Nat} {S : Sto} (h : StoIs w p F S) (hl : (S.nodes.length : Int) ≤ S.cap) (hc : S.cap ≤ 1048576) (v : Int) (i j : Nat)
    (hi : i < w.heap.size) (hj : j < w.heap.size) (ci : w.cell? ⟨i, 0, none⟩ = some (.pointer (some ⟨p, 0, none⟩))) (cj : w.cell? ⟨j, 0, none⟩ = some (.int .i64 v)) :
    Calls Try.prog 85 #[.pointer (some ⟨i, 0, none⟩), .pointer (some ⟨j, 0, none⟩)] w (fun e w' => e = endOf (mkN S v 0 1).2 ∧ Turned w p F (mkN S v 0 1).1 w') := by
  have N := node_any h hl hc v 0 1
  rcases hR : mkN S v 0 1 with ⟨S', _ | r⟩
  · rw [hR] at N
    simp only [endOf] at N ⊢
    clear hR
    go_enter Try.func85, Try.ntmps85
    go_wp2_with (go_at_call 86; refine N.mono ?_; rintro e w' ⟨rfl, hT⟩)
    exact ⟨rfl, rfl, hT⟩
  · rw [hR] at N
    simp only [endOf] at N ⊢
    clear hR
    go_enter Try.func85, Try.ntmps85
    go_wp2_with (go_at_call 86; refine N.mono ?_; rintro e w' ⟨rfl, hT⟩)
    go_returns
    exact ⟨rfl, hT⟩

theorem right_same {w : World} {p : Nat} {F : List Nat} {S : Sto} (h : StoIs w p F S) (hl : S.nodes.length ≤ 1048576) (x : Int) :
    Calls Try.prog 83 #[.pointer (some ⟨p, 0, none⟩), .int .i64 x] w (fun e w' => e = .returned (.int .i64 (rightOf S x)) ∧ w' = w) := by
  obtain ⟨a, cap', bm, tm, hp, c0, c1, c2, c3, c4, hm⟩ := h.cells
  have hw : IntKind.i64.wrap ((S.nodes.length : Int) + 2) = (S.nodes.length : Int) + 2 := IntWalk.i64_in _ (by omega)
  by_cases h0 : x < 0
  · go_enter Try.func83, Try.ntmps83
    go_wp2
    go_returns
    exact ⟨by unfold rightOf; rw [if_pos (.inl h0)]; rfl, rfl⟩
  · by_cases h1 : (S.nodes.length : Int) + 2 ≤ x
    · go_enter Try.func83, Try.ntmps83
      go_wp2
      go_returns
      exact ⟨by unfold rightOf; rw [if_pos (.inr h1)]; rfl, rfl⟩
    · have h1' : x < (S.nodes.length : Int) + 2 := by omega
      go_enter Try.func83, Try.ntmps83
      go_wp2
      go_returns
      exact ⟨by unfold rightOf; rw [if_neg (by omega)]; rfl, rfl⟩

theorem has_right {S : Sto} (x : Int) : S.has (rightOf S x) := by
  unfold rightOf Sto.has
  by_cases h : x < 0 ∨ (S.nodes.length : Int) + 2 ≤ x
  · rw [if_pos h]; omega
  · rw [if_neg h]; omega

/-- What Ite tells of any numbers. -/
def iteR (S : Sto) (c a b : Int) : Sto × Option Int := iteN 65 S (rightOf S c) (rightOf S a) (rightOf S b)

set_option maxRecDepth 4000 in
theorem ite1_any {w : World} {p : Nat} {F : List Nat} {S : Sto} (h : StoIs w p F S) (hW : Wf S) (x y z : Int) (i0 i1 i2 i3 : Nat)
    (h0 : i0 < w.heap.size) (h1 : i1 < w.heap.size) (h2 : i2 < w.heap.size) (h3 : i3 < w.heap.size)
    (c0 : w.cell? ⟨i0, 0, none⟩ = some (.pointer (some ⟨p, 0, none⟩))) (c1 : w.cell? ⟨i1, 0, none⟩ = some (.int .i64 x)) (c2 : w.cell? ⟨i2, 0, none⟩ = some (.int .i64 y)) (c3 : w.cell? ⟨i3, 0, none⟩ = some (.int .i64 z)) :
    Calls Try.prog 87 #[.pointer (some ⟨i0, 0, none⟩), .pointer (some ⟨i1, 0, none⟩), .pointer (some ⟨i2, 0, none⟩), .pointer (some ⟨i3, 0, none⟩)] w
      (fun e w' => e = endOf (iteR S x y z).2 ∧ Turned w p F (iteR S x y z).1 w') := by
  have hl1 : S.nodes.length ≤ 1048576 := by have := hW.len; have := hW.cap; omega
  have N := fun m d => ite_any 65 (w.ext m d) p F S _ _ _ (h.ext m d) hW (has_right x) (has_right y) (has_right z) (by
    have := (low_le S (rightOf S x) (rightOf S y) (rightOf S z)).1
    have g1 := topOf_ge hW (has_right (S := S) x); have g2 := topOf_ge hW (has_right (S := S) y); have g3 := topOf_ge hW (has_right (S := S) z)
    unfold low; omega)
  go_enter Try.func87, Try.ntmps87
  go_upto_region 1 with (fail)
  refine wp_region_still_tail 10 (by kernel_rfl) (by kernel_rfl) ?_
  simp only [List.take_succ_cons, List.take_zero, List.drop_succ_cons, List.drop_zero]
  have hbd : Below w.heap.size w w.drew := Below.drew (Below.refl _ _)
  have hS := h.below hbd
  have N' := N #[] w.drawn
  have d0 : w.drew.cell? ⟨i0, 0, none⟩ = some (.pointer (some ⟨p, 0, none⟩)) := c0
  have d1 : w.drew.cell? ⟨i1, 0, none⟩ = some (.int .i64 x) := c1
  have d2 : w.drew.cell? ⟨i2, 0, none⟩ = some (.int .i64 y) := c2
  have d3 : w.drew.cell? ⟨i3, 0, none⟩ = some (.int .i64 z) := c3
  have e : ({ w with drawn := w.drawn + 1 } : World) = w.drew := rfl
  rw [e]
  clear e
  have N' := fun q h => ite_any 65 q p F S _ _ _ h hW (has_right x) (has_right y) (has_right z) (by
    have := (low_le S (rightOf S x) (rightOf S y) (rightOf S z)).1
    have g1 := topOf_ge hW (has_right (S := S) x); have g2 := topOf_ge hW (has_right (S := S) y); have g3 := topOf_ge hW (has_right (S := S) z)
    unfold low; omega)
  have N2 := N' _ hS
  have st : StoStep w w.drew F F := StoStep.of_below hbd
  clear N N' c0 c1 c2 c3 h0 h1 h2 h3 h hbd
  generalize w.drew = wd at *
  have H := fun x => right_same hS hl1 x
  repeat (first | still_step | still_call (H _))
  refine wpStill_nil ?_
  clear H
  rcases hR : iteN 65 S (rightOf S x) (rightOf S y) (rightOf S z) with ⟨S', _ | r⟩
  · rw [hR] at N2
    simp only [endOf] at N2
    have HR := hid hR
    clear hR
    go_wp2_with (go_at_call 88; refine N2.mono ?_; rintro e w' ⟨rfl, hT⟩)
    unfold iteR
    rw [HR.out]
    exact ⟨rfl, rfl, hT.after st⟩
  · rw [hR] at N2
    simp only [endOf] at N2
    have HR := hid hR
    clear hR
    go_wp2_with (go_at_call 88; refine N2.mono ?_; rintro e w' ⟨rfl, hT⟩)
    go_returns
    unfold iteR
    rw [HR.out]
    exact ⟨rfl, hT.after st⟩

/-- What a call tells that makes a diagram: 0 if the store is, or was, full. -/
def madeR (S : Sto) (R : Sto × Option Int) : Sto × Int := if S.full then (S, 0) else (R.1, R.2.getD 0)
def varV (S : Sto) (v : Int) : Sto × Int := if v < 0 ∨ 64 ≤ v then (S, 0) else madeR S (mkN S v 0 1)
def iteV (S : Sto) (x y z : Int) : Sto × Int := madeR S (iteR S x y z)
/-- A call that tells a number, and turns a store. -/
def Tells (f : FuncId) (args : Array Value) (w : World) (p : Nat) (F : List Nat) (R : Sto × Int) : Prop :=
  Calls Try.prog f args w (fun e w' => e = .returned (.int .i64 R.2) ∧ Turned w p F R.1 w')

theorem made_any {w : World} {p : Nat} {F : List Nat} {S : Sto} (h : StoIs w p F S) (hc : S.cap ≠ 0) (k : FuncId) (cap : Array Value) (hk : ∀ w : World, (callFunc k cap).run Try.prog w = .ok (.enter k cap) w) (R : Sto × Option Int)
    (hcall : ∀ w', Below w.heap.size w w' → StoIs w' p F S → Calls Try.prog k cap w' (fun e w'' => e = endOf R.2 ∧ Turned w' p F R.1 w'')) :
    Tells 84 #[.pointer (some ⟨p, 0, none⟩), .func (.func k) #[] cap] w p F (madeR S R) := by
  unfold madeR
  cases hf : S.full with
  | true =>
    refine (made_full h hc hf k cap).mono ?_
    rintro e w' ⟨rfl, m, d, rfl⟩
    exact ⟨rfl, Turned.refl h m d⟩
  | false => exact made_run h hc hf k cap hk R hcall

theorem ite_call {w : World} {p : Nat} {F : List Nat} {S : Sto} (h : StoIs w p F S) (hW : Wf S) (x y z : Int) :
    Tells 25 #[.pointer (some ⟨p, 0, none⟩), .int .i64 x, .int .i64 y, .int .i64 z] w p F (iteV S x y z) := by
  have hmf : ∀ (fn : Fn) (first cap : Array Value) (w : World), (Instr.makeFunc fn first cap).run Try.prog w = .ok (.func fn first cap) w := fun _ _ _ _ => rfl
  have hc : S.cap ≠ 0 := by have := hW.cap2; omega
  go_enter Try.func25, Try.ntmps25
  go_upto_region 1 with (fail)
  refine wp_gen (fun V hV => ?_)
  have hbV : Below w.heap.size w V := by rw [hV]; ((repeat' (first | (with_reducible exact Below.refl _ _) | (with_reducible refine Below.ext_mk ?_ ?_ _ _) | (with_reducible refine Below.alloc ?_ ?_ _) | (with_reducible refine Below.drew ?_) | (with_reducible refine Below.setCell ?_ ?_ _) | go_size)))
  have zV0 : w.heap.size < V.heap.size := by rw [hV]; first | (simp; done) | (simp; omega)
  have cV0_0 : V.cell? ⟨w.heap.size, 0, none⟩ = some (.pointer (some ⟨p, 0, none⟩)) := by rw [hV]; first | (go_simp; done) | (rw [World.cell?_alloc_past _ _ _ (by first | (simp; done) | (simp; omega))]; go_simp)
  have zV1 : w.heap.size + 1 < V.heap.size := by rw [hV]; first | (simp; done) | (simp; omega)
  have cV1_0 : V.cell? ⟨w.heap.size + 1, 0, none⟩ = some (.int .i64 x) := by rw [hV]; first | (go_simp; done) | (rw [World.cell?_alloc_past _ _ _ (by first | (simp; done) | (simp; omega))]; go_simp)
  have zV2 : w.heap.size + 2 < V.heap.size := by rw [hV]; first | (simp; done) | (simp; omega)
  have cV2_0 : V.cell? ⟨w.heap.size + 2, 0, none⟩ = some (.int .i64 y) := by rw [hV]; first | (go_simp; done) | (rw [World.cell?_alloc_past _ _ _ (by first | (simp; done) | (simp; omega))]; go_simp)
  have zV3 : w.heap.size + 3 < V.heap.size := by rw [hV]; first | (simp; done) | (simp; omega)
  have cV3_0 : V.cell? ⟨w.heap.size + 3, 0, none⟩ = some (.int .i64 z) := by rw [hV]; first | (go_simp; done) | (rw [World.cell?_alloc_past _ _ _ (by first | (simp; done) | (simp; omega))]; go_simp)
  clear hV
  have hV := h.below hbV
  have M := made_any hV hc 87 #[.pointer (some ⟨w.heap.size, 0, none⟩), .pointer (some ⟨w.heap.size + 1, 0, none⟩), .pointer (some ⟨w.heap.size + 2, 0, none⟩), .pointer (some ⟨w.heap.size + 3, 0, none⟩)] (fun _ => by kernel_rfl) (iteR S x y z)
    (fun w' hb hS => ite1_any hS hW x y z _ _ _ _ (Nat.lt_of_lt_of_le zV0 hb.size) (Nat.lt_of_lt_of_le zV1 hb.size) (Nat.lt_of_lt_of_le zV2 hb.size) (Nat.lt_of_lt_of_le zV3 hb.size)
      ((cell_of_heap 0 (hb.block _ zV0)).trans cV0_0) ((cell_of_heap 0 (hb.block _ zV1)).trans cV1_0) ((cell_of_heap 0 (hb.block _ zV2)).trans cV2_0) ((cell_of_heap 0 (hb.block _ zV3)).trans cV3_0))
  have st : StoStep w V F F := StoStep.of_below hbV
  unfold Tells at M
  go_wp2_with (go_at_call 84; refine M.mono ?_; rintro e w' ⟨rfl, hT⟩)
  go_returns
  exact ⟨rfl, hT.after st⟩

theorem var_call {w : World} {p : Nat} {F : List Nat} {S : Sto} (h : StoIs w p F S) (hW : Wf S) (v : Int) :
    Tells 24 #[.pointer (some ⟨p, 0, none⟩), .int .i64 v] w p F (varV S v) := by
  have hmf : ∀ (fn : Fn) (first cap : Array Value) (w : World), (Instr.makeFunc fn first cap).run Try.prog w = .ok (.func fn first cap) w := fun _ _ _ _ => rfl
  have hc : S.cap ≠ 0 := by have := hW.cap2; omega
  unfold varV
  by_cases hv : v < 0 ∨ 64 ≤ v
  · rw [if_pos hv]
    by_cases h0 : v < 0
    · go_enter Try.func24, Try.ntmps24
      go_wp2
      go_returns
      refine ⟨rfl, F, h.below ?_, StoStep.of_below ?_⟩ <;> (repeat' (first | (with_reducible exact Below.refl _ _) | (with_reducible refine Below.ext_mk ?_ ?_ _ _) | (with_reducible refine Below.alloc ?_ ?_ _) | (with_reducible refine Below.drew ?_) | (with_reducible refine Below.setCell ?_ ?_ _) | go_size))
    · have h1 : 64 ≤ v := by omega
      clear hv
      go_enter Try.func24, Try.ntmps24
      go_wp2
      go_returns
      refine ⟨rfl, F, h.below ?_, StoStep.of_below ?_⟩ <;> (repeat' (first | (with_reducible exact Below.refl _ _) | (with_reducible refine Below.ext_mk ?_ ?_ _ _) | (with_reducible refine Below.alloc ?_ ?_ _) | (with_reducible refine Below.drew ?_) | (with_reducible refine Below.setCell ?_ ?_ _) | go_size))
  · rw [if_neg hv]
    have h0 : ¬ v < 0 := by omega
    have h1 : ¬ 64 ≤ v := by omega
    clear hv
    go_enter Try.func24, Try.ntmps24
    go_upto_region 3 with (fail)
    refine wp_gen (fun V hV => ?_)
    have hbV : Below w.heap.size w V := by rw [hV]; ((repeat' (first | (with_reducible exact Below.refl _ _) | (with_reducible refine Below.ext_mk ?_ ?_ _ _) | (with_reducible refine Below.alloc ?_ ?_ _) | (with_reducible refine Below.drew ?_) | (with_reducible refine Below.setCell ?_ ?_ _) | go_size)))
    have zV0 : w.heap.size < V.heap.size := by rw [hV]; first | (simp; done) | (simp; omega)
    have cV0_0 : V.cell? ⟨w.heap.size, 0, none⟩ = some (.pointer (some ⟨p, 0, none⟩)) := by rw [hV]; first | (go_simp; done) | (rw [World.cell?_alloc_past _ _ _ (by first | (simp; done) | (simp; omega))]; go_simp)
    have zV1 : w.heap.size + 1 < V.heap.size := by rw [hV]; first | (simp; done) | (simp; omega)
    have cV1_0 : V.cell? ⟨w.heap.size + 1, 0, none⟩ = some (.int .i64 v) := by rw [hV]; first | (go_simp; done) | (rw [World.cell?_alloc_past _ _ _ (by first | (simp; done) | (simp; omega))]; go_simp)
    clear hV
    have hV := h.below hbV
    have M := made_any hV hc 85 #[.pointer (some ⟨w.heap.size, 0, none⟩), .pointer (some ⟨w.heap.size + 1, 0, none⟩)] (fun _ => by kernel_rfl) (mkN S v 0 1)
      (fun w' hb hS => var1_any hS hW.len hW.cap v _ _ (Nat.lt_of_lt_of_le zV0 hb.size) (Nat.lt_of_lt_of_le zV1 hb.size)
        ((cell_of_heap 0 (hb.block _ zV0)).trans cV0_0) ((cell_of_heap 0 (hb.block _ zV1)).trans cV1_0))
    have st : StoStep w V F F := StoStep.of_below hbV
    unfold Tells at M
    go_wp2_with (go_at_call 84; refine M.mono ?_; rintro e w' ⟨rfl, hT⟩)
    go_returns
    exact ⟨rfl, hT.after st⟩
end Go.Proofs.Ytboekafmplomhaa
