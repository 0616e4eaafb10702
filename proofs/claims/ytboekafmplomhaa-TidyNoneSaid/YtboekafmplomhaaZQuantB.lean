/-
  Package quant over a store that tells nothing: bind.
-/
import Derived.Test.YtboekafmplomhaaZQuantD
import Derived.Test.YtboekafmplomhaaZDoes
set_option linter.unusedVariables false
set_option linter.unusedSimpArgs false
namespace Go.Proofs.Ytboekafmplomhaa
open Go.RowKit

theorem Rd.int1 {w : World} {a : Option Addr} {cap : Nat} {l : List Int} (h : Rd w 1 (.slice a l.length cap) (ints l)) {i : Nat} (hi : i < l.length) :
    ∃ b off x, a = some ⟨b, off, none⟩ ∧ b < w.heap.size ∧ w.cell? ⟨b, off + i, none⟩ = some (.int .i64 x) := by
  obtain ⟨a', n, cap', h1, h2, h3, h4, h5⟩ := h
  simp only [Value.slice.injEq] at h1
  obtain ⟨rfl, rfl, rfl⟩ := h1
  obtain ⟨b, off, e1, e2, e3⟩ := h5 (by omega)
  exact ⟨b, off, l[i], e1, e2, e3 i _ (by simp [ints, hi])⟩

set_option maxHeartbeats 1000000 in
theorem bind_dead {w : World} {q : Option Addr} (h : Dead w q) (k : FuncId) (hk : ∀ args w, (callFunc k args).run Try.prog w = .ok (.enter k args) w)
    (hby : ∀ W, Below w.heap.size w W → ∀ a b, Calls Try.prog k #[.pointer q, .int .i64 a, .int .i64 b] W (Pure (.int .i64 0) W))
    (x : Int) (l : List Int) (sv : Value) (hl : Rd w 1 sv (ints l)) :
    Calls Try.prog 97 #[.pointer q, .int .i64 x, sv, .func (.func k) #[.pointer q] #[]] w (Pure (.int .i64 0) w) := by
  obtain ⟨a, cap, rfl, hc, hm⟩ := hl.len
  have R := hid (fun W (hb : Below w.heap.size w W) (y : Int) => qright_dead (h.below hb) y)
  have U := hid (fun W (hb : Below w.heap.size w W) (y v : Int) (on : Bool) => under_dead (h.below hb) y v on)
  have B := hid hby
  have L := hid hl
  clear h hby hl
  go_enter Try.func97, Try.ntmps97
  go_wp2_with (go_at_call 99; refine (R.out _ (by (repeat' (first | (with_reducible exact Below.refl _ _) | (with_reducible refine Below.ext_mk ?_ ?_ _ _) | (with_reducible refine Below.alloc ?_ ?_ _) | (with_reducible refine Below.drew ?_) | (with_reducible refine Below.setCell ?_ ?_ _) | go_size))) _).mono ?_; rintro e w' ⟨rfl, m2, d2, rfl⟩)
  go_loopw [1, 18] (fun y i wr => ∃ z : Int, ∃ j : Nat, j ≤ l.length ∧ y = .int .i64 z ∧ i = .int .i64 j ∧ Below w.heap.size w wr) (fun _ i _ => l.length - (intOf i).toNat)
  case atStart => exact ⟨_, 0, by omega, rfl, rfl, by (repeat' (first | (with_reducible exact Below.refl _ _) | (with_reducible refine Below.ext_mk ?_ ?_ _ _) | (with_reducible refine Below.alloc ?_ ?_ _) | (with_reducible refine Below.drew ?_) | (with_reducible refine Below.setCell ?_ ?_ _) | go_size))⟩
  case round =>
    obtain ⟨z, j, hj, rfl, rfl, hb⟩ := hrel
    have hbs := hb.size
    by_cases hlt : j < l.length
    · have hj1 : (j : Int) < (l.length : Int) := by omega
      obtain ⟨b, off, v, rfl, hb1, hcell⟩ := Rd.int1 L.out hlt
      have c := (hb.cell (p := ⟨b, off + j, none⟩) hb1).trans hcell
      have zb : b < wr.heap.size := by omega
      have V := isVar_any v
      cases hv : isVarB v
      all_goals
        rw [hv] at V
        clear hv
        go_wp2_with (first
          | (go_at_call 98; refine (V _).mono ?_; rintro e w' ⟨rfl, m1, d1, rfl⟩)
          | (go_at_call 30; refine (U.out _ (by first | exact hb | exact Below.ext_mk hb hbs _ _ | exact Below.ext_mk (Below.ext_mk hb hbs _ _) (by simp; omega) _ _) _ _ _).mono ?_; rintro e w' ⟨rfl, m3, d3, rfl⟩)
          | ((with_reducible refine (B.out _ (by first | exact hb | exact Below.ext_mk hb hbs _ _ | exact Below.ext_mk (Below.ext_mk hb hbs _ _) (by simp; omega) _ _) _ _).mono ?_); rintro e w' ⟨rfl, m4, d4, rfl⟩))
        go_roundw
        case rel => exact ⟨_, j + 1, by omega, rfl, by go_num, by first | exact hb | exact Below.ext_mk hb hbs _ _ | exact Below.ext_mk (Below.ext_mk hb hbs _ _) (by simp; omega) _ _⟩
        case measure => simp [intOf]; omega
    · go_wp2_with (go_at_call 99; refine (R.out _ hb _).mono ?_; rintro e w' ⟨rfl, m2, d2, rfl⟩)
      go_returns
      exact Pure.of rfl (Below.ext_mk hb hbs _ _)
theorem exists_dead {w : World} {q : Option Addr} (h : Dead w q) (x : Int) (l : List Int) (sv : Value) (hl : Rd w 1 sv (ints l)) :
    Calls Try.prog 38 #[.pointer q, .int .i64 x, sv] w (Pure (.int .i64 0) w) := by
  have hmf : ∀ (fn : Fn) (first cap : Array Value) (w : World), (Instr.makeFunc fn first cap).run Try.prog w = .ok (.func fn first cap) w := fun _ _ _ _ => rfl
  have B := bind_dead h 28 (fun _ _ => by kernel_rfl) (fun W hb a b => or_dead (h.below hb) a b) x l sv hl
  clear h hl
  go_enter Try.func38, Try.ntmps38
  go_wp2_with (go_at_call 97; refine B.mono ?_; rintro e w' ⟨rfl, m1, d1, rfl⟩)
  go_returns
  exact Pure.of rfl (by (repeat' (first | (with_reducible exact Below.refl _ _) | (with_reducible refine Below.ext_mk ?_ ?_ _ _) | (with_reducible refine Below.alloc ?_ ?_ _) | (with_reducible refine Below.drew ?_) | (with_reducible refine Below.setCell ?_ ?_ _) | go_size)))
theorem forall_dead {w : World} {q : Option Addr} (h : Dead w q) (x : Int) (l : List Int) (sv : Value) (hl : Rd w 1 sv (ints l)) :
    Calls Try.prog 39 #[.pointer q, .int .i64 x, sv] w (Pure (.int .i64 0) w) := by
  have hmf : ∀ (fn : Fn) (first cap : Array Value) (w : World), (Instr.makeFunc fn first cap).run Try.prog w = .ok (.func fn first cap) w := fun _ _ _ _ => rfl
  have B := bind_dead h 27 (fun _ _ => by kernel_rfl) (fun W hb a b => and_dead (h.below hb) a b) x l sv hl
  clear h hl
  go_enter Try.func39, Try.ntmps39
  go_wp2_with (go_at_call 97; refine B.mono ?_; rintro e w' ⟨rfl, m1, d1, rfl⟩)
  go_returns
  exact Pure.of rfl (by (repeat' (first | (with_reducible exact Below.refl _ _) | (with_reducible refine Below.ext_mk ?_ ?_ _ _) | (with_reducible refine Below.alloc ?_ ?_ _) | (with_reducible refine Below.drew ?_) | (with_reducible refine Below.setCell ?_ ?_ _) | go_size)))
theorem support_dead {w : World} {q : Option Addr} (h : Dead w q) (x : Int) :
    Calls Try.prog 43 #[.pointer q, .int .i64 x] w (Pure (.slice none 0 0) w) := by
  have HU := hid (fun W hb => h.full W hb)
  clear h
  go_enter Try.func43, Try.ntmps43
  go_wp2_with (go_at_call 22; refine (HU.out _ (by (repeat' (first | (with_reducible exact Below.refl _ _) | (with_reducible refine Below.ext_mk ?_ ?_ _ _) | (with_reducible refine Below.alloc ?_ ?_ _) | (with_reducible refine Below.drew ?_) | (with_reducible refine Below.setCell ?_ ?_ _) | go_size)))).mono ?_; rintro e w' ⟨rfl, m1, d1, rfl⟩)
  go_returns
  exact Pure.of rfl (by (repeat' (first | (with_reducible exact Below.refl _ _) | (with_reducible refine Below.ext_mk ?_ ?_ _ _) | (with_reducible refine Below.alloc ?_ ?_ _) | (with_reducible refine Below.drew ?_) | (with_reducible refine Below.setCell ?_ ?_ _) | go_size)))
end Go.Proofs.Ytboekafmplomhaa
