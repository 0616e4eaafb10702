/-
  The document's example of layer 31.
-/
import Derived.Test.YtboekafmplomhaaZSupB
import Derived.Test.YtboekafmplomhaaZKnown15
set_option linter.unusedVariables false
set_option linter.unusedSimpArgs false
namespace Go.Proofs.Ytboekafmplomhaa
open Go.RowKit

theorem equal_ints {w : World} {l1 l2 : List Int} {s1 s2 : Value} (h1 : Rd w 1 s1 (ints l1)) (h2 : Rd w 1 s2 (ints l2)) :
    Calls Try.prog 45 #[s1, s2] w (Pure (.bool (decide (l1 = l2))) w) := by
  obtain ⟨a1, c1, rfl, hc1, hm1⟩ := h1.len
  obtain ⟨a2, c2, rfl, hc2, hm2⟩ := h2.len
  have L1 := hid h1
  have L2 := hid h2
  clear h1 h2
  by_cases hl : l1.length = l2.length
  · have hl' : (l1.length : Int) = (l2.length : Int) := by omega
    have HL := hid hl
    clear hl
    go_enter Try.func45, Try.ntmps45
    go_wp2_with fail
    go_loopw [13] (fun i wr => ∃ j : Nat, j ≤ l1.length ∧ i = .int .i64 j ∧ (∀ k, k < j → l1[k]? = l2[k]?) ∧ Below w.heap.size w wr) (fun i _ => l1.length - (intOf i).toNat)
    case atStart => exact ⟨0, by omega, rfl, fun k hk => by omega, by (repeat' (first | (with_reducible exact Below.refl _ _) | (with_reducible refine Below.ext_mk ?_ ?_ _ _) | (with_reducible refine Below.alloc ?_ ?_ _) | (with_reducible refine Below.drew ?_) | (with_reducible refine Below.setCell ?_ ?_ _) | go_size))⟩
    case round =>
      obtain ⟨j, hj, rfl, hpre, hb⟩ := hrel
      have hbs := hb.size
      have HP := hid hpre
      clear hpre
      by_cases hlt : j < l1.length
      · have hj1 : (j : Int) < (l1.length : Int) := by omega
        have hj2 : (j : Int) < (l2.length : Int) := by omega
        have hlt2 : j < l2.length := by omega
        obtain ⟨b1, o1, rfl, zb1, cc1⟩ := Rd.intAt L1.out hlt
        obtain ⟨b2, o2, rfl, zb2, cc2⟩ := Rd.intAt L2.out hlt2
        have d1 := (hb.cell (p := ⟨b1, o1 + j, none⟩) zb1).trans cc1
        have d2 := (hb.cell (p := ⟨b2, o2 + j, none⟩) zb2).trans cc2
        have y1 : b1 < wr.heap.size := by omega
        have y2 : b2 < wr.heap.size := by omega
        obtain ⟨x1, hx1⟩ : ∃ x, x = l1[j] := ⟨_, rfl⟩
        obtain ⟨x2, hx2⟩ : ∃ x, x = l2[j] := ⟨_, rfl⟩
        rw [← hx1] at d1
        rw [← hx2] at d2
        have X := hid (And.intro hx1 hx2)
        clear hx1 hx2 cc1 cc2 hl'
        by_cases hx : x1 = x2
        · have HX := hid hx
          have hx' : (x1 == x2) = true := by simpa using hx
          clear hx
          go_upto_region 6 with (fail)
          refine wp_region_ext (by kernel_rfl) (by kernel_rfl) (fun F hF => ?_)
          have HF := hid hF; clear hF
          repeat (first
            | (apply text_skip; (focus rfl); simp only [Act.put, List.setIfInBounds_toArray, List.set_cons_zero, List.set_cons_succ])
            | (apply text_val; (focus rfl); (focus (intro _ _; go_simp; with_reducible rfl)); simp only [Act.put, List.setIfInBounds_toArray, List.set_cons_zero, List.set_cons_succ])
            | (apply text_if; (focus (first | exact wanted_t rfl rfl | exact wanted_f rfl rfl | exact wanted_gt rfl rfl | exact wanted_gf rfl rfl)); (focus (intro hc _ _; (try simp only [Bool.and_eq_true, Bool.not_eq_true', Bool.true_and] at hc); go_simp; with_reducible rfl)); simp only [Act.put, List.setIfInBounds_toArray, List.set_cons_zero, List.set_cons_succ]))
          refine text_nil (HF.out _ (fun mx dx => ?_))
          clear HF F
          go_wp2_with fail
          go_roundw
          case rel =>
            refine ⟨j + 1, by omega, by go_num, fun k hk => ?_, Below.ext_mk hb hbs _ _⟩
            by_cases hk' : k < j
            · exact HP.out k hk'
            · obtain rfl : k = j := by omega
              rw [List.getElem?_eq_getElem hlt, List.getElem?_eq_getElem hlt2, ← X.out.1, ← X.out.2, HX.out]
          case measure => simp [intOf]; omega
        · have HX := hid hx
          have hx' : (x1 == x2) = false := by simpa using hx
          clear hx
          go_upto_region 6 with (fail)
          refine wp_region_ext (by kernel_rfl) (by kernel_rfl) (fun F hF => ?_)
          have HF := hid hF; clear hF
          repeat (first
            | (apply text_skip; (focus rfl); simp only [Act.put, List.setIfInBounds_toArray, List.set_cons_zero, List.set_cons_succ])
            | (apply text_val; (focus rfl); (focus (intro _ _; go_simp; with_reducible rfl)); simp only [Act.put, List.setIfInBounds_toArray, List.set_cons_zero, List.set_cons_succ])
            | (apply text_if; (focus (first | exact wanted_t rfl rfl | exact wanted_f rfl rfl | exact wanted_gt rfl rfl | exact wanted_gf rfl rfl)); (focus (intro hc _ _; (try simp only [Bool.and_eq_true, Bool.not_eq_true', Bool.true_and] at hc); go_simp; with_reducible rfl)); simp only [Act.put, List.setIfInBounds_toArray, List.set_cons_zero, List.set_cons_succ]))
          refine text_nil (HF.out _ (fun mx dx => ?_))
          clear HF F
          go_wp2_with fail
          go_returns
          refine Pure.of ?_ (Below.ext_mk hb hbs _ _)
          have : ¬ l1 = l2 := fun e => HX.out (by rw [X.out.1, X.out.2]; subst e; rfl)
          simp [this]
      · go_wp2_with fail
        go_returns
        refine Pure.of ?_ hb
        have : l1 = l2 := List.ext_getElem? (fun k => by
          by_cases hk : k < j
          · exact HP.out k hk
          · rw [List.getElem?_eq_none (by omega), List.getElem?_eq_none (by have := HL.out; omega)])
        simp [this]
  · have hl' : ¬ (l1.length : Int) = (l2.length : Int) := by omega
    have hl2 : ¬ l1 = l2 := fun e => hl (by rw [e])
    have hd : decide (l1 = l2) = false := by simp [hl2]
    rw [hd]
    clear hd hl2 hl
    go_enter Try.func45, Try.ntmps45
    go_wp2_with fail
    go_returns
    exact Pure.of rfl (by (repeat' (first | (with_reducible exact Below.refl _ _) | (with_reducible refine Below.ext_mk ?_ ?_ _ _) | (with_reducible refine Below.alloc ?_ ?_ _) | (with_reducible refine Below.drew ?_) | (with_reducible refine Below.setCell ?_ ?_ _) | go_size)))

theorem bindL_good (op : Sto → Int → Int → Sto × Int) (hop : ∀ S a b, Wf S → Sated S → Wf (op S a b).1 ∧ Sated (op S a b).1) :
    ∀ (l : List Int) (S : Sto) (a : Int), Wf S → Sated S → Wf (bindL op S a l).1 ∧ Sated (bindL op S a l).1
  | [], S, a, h, hs => ⟨h, hs⟩
  | v :: l, S, a, h, hs => by
    unfold bindL
    split
    · have g1 := underV_good h hs a v false
      have g2 := underV_good g1.1 g1.2 a v true
      have g3 := hop _ (underV S a v false).2 (underV (underV S a v false).1 a v true).2 g2.1 g2.2
      exact bindL_good op hop l _ _ g3.1 g3.2
    · exact bindL_good op hop l _ _ h hs
theorem impliesV_good {S : Sto} (h : Wf S) (hs : Sated S) (a b : Int) : Wf (impliesV S a b).1 ∧ Sated (impliesV S a b).1 := by
  have g1 := iteV_good h hs b 0 1
  exact iteV_good g1.1 g1.2 _ _ _

def qA : Sto × Int := varV (newS 20) 0
def qB : Sto × Int := varV qA.1 1
def qC : Sto × Int := andV qB.1 2 3
def qE : Sto × Int := bindV orV qC.1 4 [0]
def qF : Sto × Int := bindV andV qE.1 4 [0]
def qG : Sto × Bool := impliesV qF.1 4 2
def qH : Sto × Bool := impliesV qG.1 2 4
theorem qA_ok : VOk (newS 20) 6 1 qA := varV_ok (newS_wf (by omega) (by omega)) (newS_sated 20) (newS_below 20 6) 0 (by omega)
theorem qB_ok : VOk qA.1 6 1 qB := varV_ok qA_ok.wf qA_ok.sated qA_ok.below 1 (by omega)
theorem qC_ok : VOk qB.1 6 64 qC := andV_ok qB_ok.wf qB_ok.sated qB_ok.below (by omega) 2 3
theorem qE_ok : Wf qE.1 ∧ Sated qE.1 := bindL_good orV (fun S a b hW hs => iteV_good hW hs _ _ _) _ _ _ qC_ok.wf qC_ok.sated
theorem qF_ok : Wf qF.1 ∧ Sated qF.1 := bindL_good andV (fun S a b hW hs => iteV_good hW hs _ _ _) _ _ _ qE_ok.1 qE_ok.2
theorem qG_ok : Wf qG.1 ∧ Sated qG.1 := impliesV_good qF_ok.1 qF_ok.2 _ _
theorem qA_is : qA.2 = 2 := by decide +kernel
theorem qB_is : qB.2 = 3 := by decide +kernel
theorem qC_is : qC.2 = 4 := by decide +kernel
theorem qE_is : qE.2 = 3 := by decide +kernel
theorem qF_is : qF.2 = 0 := by decide +kernel
theorem qF_full : qF.1.full = false := by decide +kernel
theorem qF_sup : onL (supN qF.1 (qF.1.nodes.length + 2) [] (List.replicate 64 false) 4).2 64 = [0, 1] := by decide +kernel
theorem qG_is : qG.2 = true := by decide +kernel
theorem qH_is : qH.2 = false := by decide +kernel
end Go.Proofs.Ytboekafmplomhaa
set_option linter.unusedVariables false
set_option linter.unusedSimpArgs false
namespace Go.Proofs.Ytboekafmplomhaa
open Go.RowKit

/-- A row of numbers, written out. -/
theorem lit_ints (w : World) (x : Int) (l : List Int) : Rd (w.alloc (.cells (ints (x :: l)).toArray 3)) 1 (.slice (some ⟨w.heap.size, 0, none⟩) (l.length + 1) (l.length + 1)) (ints (x :: l)) ∨ 9223372036854775807 < l.length + 1 := by
  by_cases hl : 9223372036854775807 < l.length + 1
  · exact .inr hl
  · refine .inl ⟨_, _, _, rfl, Nat.le_refl _, by omega, by simp [ints], fun _ => ⟨w.heap.size, 0, rfl, by simp, fun j u hu => ?_⟩⟩
    have h := (Blk.new w 3 (ints (x :: l))).cell j
    rw [Nat.zero_add, h]
    exact hu
theorem lit_one (w : World) (x : Int) : Rd (w.alloc (.cells #[.int .i64 x] 3)) 1 (.slice (some ⟨w.heap.size, 0, none⟩) 1 1) (ints [x]) := by
  rcases lit_ints w x [] with h | h
  · exact h
  · simp at h
theorem lit_two (w : World) (x y : Int) : Rd (w.alloc (.cells #[.int .i64 x, .int .i64 y] 3)) 1 (.slice (some ⟨w.heap.size, 0, none⟩) 2 2) (ints [x, y]) := by
  rcases lit_ints w x [y] with h | h
  · exact h
  · simp at h

section
variable {w : World} {p : Nat} {F : List Nat} {S : Sto}
theorem exists_lit (h : StoIs w p F S) (hW : Wf S) (hs : Sated S) (x v r : Int) (hr : (bindV orV S x [v]).2 = r) :
    Calls Try.prog 38 #[.pointer (some ⟨p, 0, none⟩), .int .i64 x, .slice (some ⟨w.heap.size, 0, none⟩) 1 1] (w.alloc (.cells #[.int .i64 v] 3)) (fun e w' => e = .returned (.int .i64 r) ∧ Turned w p F (bindV orV S x [v]).1 w') := by
  have hb : Below w.heap.size w (w.alloc (.cells #[.int .i64 v] 3)) := by (repeat' (first | (with_reducible exact Below.refl _ _) | (with_reducible refine Below.ext_mk ?_ ?_ _ _) | (with_reducible refine Below.alloc ?_ ?_ _) | (with_reducible refine Below.drew ?_) | (with_reducible refine Below.setCell ?_ ?_ _) | go_size))
  have M := exists_live (h.below hb) hW hs x [v] _ (lit_one w v) (fun a n cap b off e1 e2 => by
    cases e1; cases e2
    exact fun hm => Nat.lt_irrefl _ (h.lt _ hm))
  unfold Tells at M
  rw [hr] at M
  refine M.mono ?_
  rintro e w' ⟨rfl, F', t1, t2⟩
  exact ⟨rfl, F', t1, (StoStep.of_below hb).trans t2⟩
theorem forall_lit (h : StoIs w p F S) (hW : Wf S) (hs : Sated S) (x v r : Int) (hr : (bindV andV S x [v]).2 = r) :
    Calls Try.prog 39 #[.pointer (some ⟨p, 0, none⟩), .int .i64 x, .slice (some ⟨w.heap.size, 0, none⟩) 1 1] (w.alloc (.cells #[.int .i64 v] 3)) (fun e w' => e = .returned (.int .i64 r) ∧ Turned w p F (bindV andV S x [v]).1 w') := by
  have hb : Below w.heap.size w (w.alloc (.cells #[.int .i64 v] 3)) := by (repeat' (first | (with_reducible exact Below.refl _ _) | (with_reducible refine Below.ext_mk ?_ ?_ _ _) | (with_reducible refine Below.alloc ?_ ?_ _) | (with_reducible refine Below.drew ?_) | (with_reducible refine Below.setCell ?_ ?_ _) | go_size))
  have M := forall_live (h.below hb) hW hs x [v] _ (lit_one w v) (fun a n cap b off e1 e2 => by
    cases e1; cases e2
    exact fun hm => Nat.lt_irrefl _ (h.lt _ hm))
  unfold Tells at M
  rw [hr] at M
  refine M.mono ?_
  rintro e w' ⟨rfl, F', t1, t2⟩
  exact ⟨rfl, F', t1, (StoStep.of_below hb).trans t2⟩

theorem q_a (h : StoIs w p F (newS 20)) : Calls Try.prog 24 #[.pointer (some ⟨p, 0, none⟩), .int .i64 0] w (fun e w' => e = .returned (.int .i64 2) ∧ Turned w p F qA.1 w') := by
  have M := var_call h (newS_wf (by omega) (by omega)) 0
  unfold Tells at M
  rw [show (varV (newS 20) 0).2 = 2 from qA_is] at M
  exact M
theorem q_b (h : StoIs w p F qA.1) : Calls Try.prog 24 #[.pointer (some ⟨p, 0, none⟩), .int .i64 1] w (fun e w' => e = .returned (.int .i64 3) ∧ Turned w p F qB.1 w') := by
  have M := var_call h qA_ok.wf 1
  unfold Tells at M
  rw [show (varV qA.1 1).2 = 3 from qB_is] at M
  exact M
theorem q_c (h : StoIs w p F qB.1) : Calls Try.prog 27 #[.pointer (some ⟨p, 0, none⟩), .int .i64 2, .int .i64 3] w (fun e w' => e = .returned (.int .i64 4) ∧ Turned w p F qC.1 w') := by
  have M := and_call h qB_ok.wf 2 3
  unfold Tells at M
  rw [show (andV qB.1 2 3).2 = 4 from qC_is] at M
  exact M
theorem q_e (h : StoIs w p F qC.1) : Calls Try.prog 38 #[.pointer (some ⟨p, 0, none⟩), .int .i64 4, .slice (some ⟨w.heap.size, 0, none⟩) 1 1] (w.alloc (.cells #[.int .i64 0] 3)) (fun e w' => e = .returned (.int .i64 3) ∧ Turned w p F qE.1 w') := exists_lit h qC_ok.wf qC_ok.sated 4 0 3 qE_is
theorem q_f (h : StoIs w p F qE.1) : Calls Try.prog 39 #[.pointer (some ⟨p, 0, none⟩), .int .i64 4, .slice (some ⟨w.heap.size, 0, none⟩) 1 1] (w.alloc (.cells #[.int .i64 0] 3)) (fun e w' => e = .returned (.int .i64 0) ∧ Turned w p F qF.1 w') := forall_lit h qE_ok.1 qE_ok.2 4 0 0 qF_is
theorem q_s (h : StoIs w p F qF.1) : Calls Try.prog 43 #[.pointer (some ⟨p, 0, none⟩), .int .i64 4] w (fun e w' => ∃ sv, e = .returned sv ∧ Rd w' 1 sv (ints [0, 1]) ∧ Below w.heap.size w w') := by
  have M := support_live h qF_ok.1 qF_full 4
  rw [qF_sup] at M
  exact M
theorem q_g (h : StoIs w p F qF.1) : Calls Try.prog 42 #[.pointer (some ⟨p, 0, none⟩), .int .i64 4, .int .i64 2] w (fun e w' => e = .returned (.bool true) ∧ Turned w p F qG.1 w') := by
  have M := implies_live h qF_ok.1 qF_ok.2 4 2
  rw [show (impliesV qF.1 4 2).2 = true from qG_is] at M
  exact M
theorem q_h (h : StoIs w p F qG.1) : Calls Try.prog 42 #[.pointer (some ⟨p, 0, none⟩), .int .i64 2, .int .i64 4] w (fun e w' => e = .returned (.bool false) ∧ Turned w p F qH.1 w') := by
  have M := implies_live h qG_ok.1 qG_ok.2 2 4
  rw [show (impliesV qG.1 2 4).2 = false from qH_is] at M
  exact M
end

set_option maxHeartbeats 8000000 in
theorem known31 (w : World) : Calls Try.prog 37 #[] w (Pure (.bool true) w) := by
  go_enter Try.func37, Try.ntmps37
  go_upto_region 6 with (first
    | ((with_reducible refine (new_call 20 (by omega) (by omega) _).mono ?_); rintro e w1 ⟨p, F, rfl, hS, hb, hF⟩)
    | ((with_reducible refine (q_a hS).mono ?_); rintro e w2 ⟨rfl, F1, hS1, st1⟩)
    | ((with_reducible refine (q_b hS1).mono ?_); rintro e w3 ⟨rfl, F2, hS2, st2⟩)
    | ((with_reducible refine (q_c hS2).mono ?_); rintro e w4 ⟨rfl, F3, hS3, st3⟩))
  have st := (st1.trans st2).trans st3
  clear st1 st2 st3 hS hS1 hS2
  refine wp_region_doc (fun F' hF0 => ?_)
  have HF := hid hF0
  clear hF0
  repeat (refine doc_val rfl (by first | (go_simp; done) | (go_simp; exact ⟨rfl, rfl⟩) | (go_simp; with_reducible rfl)) ?_; simp only [Act.put, List.setIfInBounds_toArray, List.set_cons_zero, List.set_cons_succ])
  refine doc_call rfl (by first | (go_simp; done) | (go_simp; exact ⟨rfl, rfl⟩) | (go_simp; with_reducible rfl)) ((q_e hS3).mono ?_)
  rintro e w5 ⟨rfl, F5, hS5, st5⟩
  refine ⟨_, rfl, ?_⟩
  simp only [Act.put, List.setIfInBounds_toArray, List.set_cons_zero, List.set_cons_succ]
  clear hS3
  repeat (refine doc_val rfl (by first | (go_simp; done) | (go_simp; exact ⟨rfl, rfl⟩) | (go_simp; with_reducible rfl)) ?_; simp only [Act.put, List.setIfInBounds_toArray, List.set_cons_zero, List.set_cons_succ])
  refine doc_call rfl (by first | (go_simp; done) | (go_simp; exact ⟨rfl, rfl⟩) | (go_simp; with_reducible rfl)) ((q_f hS5).mono ?_)
  rintro e w6 ⟨rfl, F6, hS6, st6⟩
  refine ⟨_, rfl, ?_⟩
  simp only [Act.put, List.setIfInBounds_toArray, List.set_cons_zero, List.set_cons_succ]
  clear hS5
  repeat (refine doc_val rfl (by first | (go_simp; done) | (go_simp; exact ⟨rfl, rfl⟩) | (go_simp; with_reducible rfl)) ?_; simp only [Act.put, List.setIfInBounds_toArray, List.set_cons_zero, List.set_cons_succ])
  refine doc_call rfl (by first | (go_simp; done) | (go_simp; exact ⟨rfl, rfl⟩) | (go_simp; with_reducible rfl)) ((q_s hS6).mono ?_)
  rintro e w7 ⟨sv, rfl, hsv, hb7⟩
  refine ⟨_, rfl, ?_⟩
  simp only [Act.put, List.setIfInBounds_toArray, List.set_cons_zero, List.set_cons_succ]
  have hS7 := hS6.below hb7
  have st7 : StoStep w6 w7 F6 F6 := StoStep.of_below hb7
  clear hS6
  refine doc_val rfl (by first | (go_simp; done) | (go_simp; exact ⟨rfl, rfl⟩) | (go_simp; with_reducible rfl)) ?_
  simp only [Act.put, List.setIfInBounds_toArray, List.set_cons_zero, List.set_cons_succ]
  have hbl : Below w7.heap.size w7 (w7.alloc (.cells #[.int .i64 0, .int .i64 1] 3)) := by (repeat' (first | (with_reducible exact Below.refl _ _) | (with_reducible refine Below.ext_mk ?_ ?_ _ _) | (with_reducible refine Below.alloc ?_ ?_ _) | (with_reducible refine Below.drew ?_) | (with_reducible refine Below.setCell ?_ ?_ _) | go_size))
  refine doc_call rfl (by first | (go_simp; done) | (go_simp; exact ⟨rfl, rfl⟩) | (go_simp; with_reducible rfl)) ((equal_ints (hsv.below hbl) (lit_two w7 0 1)).mono ?_)
  rintro e w8 ⟨rfl, m8, d8, rfl⟩
  refine ⟨_, rfl, ?_⟩
  simp only [Act.put, List.setIfInBounds_toArray, List.set_cons_zero, List.set_cons_succ]
  have hb8 : Below w7.heap.size w7 ((w7.alloc (.cells #[.int .i64 0, .int .i64 1] 3)).ext m8 d8) := by (repeat' (first | (with_reducible exact Below.refl _ _) | (with_reducible refine Below.ext_mk ?_ ?_ _ _) | (with_reducible refine Below.alloc ?_ ?_ _) | (with_reducible refine Below.drew ?_) | (with_reducible refine Below.setCell ?_ ?_ _) | go_size))
  have hS8 := hS7.below hb8
  have st8 : StoStep w7 _ F6 F6 := StoStep.of_below hb8
  clear hS7 hsv hbl hb7 hb8
  generalize (w7.alloc (.cells #[.int .i64 0, .int .i64 1] 3)).ext m8 d8 = w8 at *
  repeat (refine doc_val rfl (by first | (go_simp; done) | (go_simp; exact ⟨rfl, rfl⟩) | (go_simp; with_reducible rfl)) ?_; simp only [Act.put, List.setIfInBounds_toArray, List.set_cons_zero, List.set_cons_succ])
  refine doc_call rfl (by first | (go_simp; done) | (go_simp; exact ⟨rfl, rfl⟩) | (go_simp; with_reducible rfl)) ((q_g hS8).mono ?_)
  rintro e w9 ⟨rfl, F9, hS9, st9⟩
  refine ⟨_, rfl, ?_⟩
  simp only [Act.put, List.setIfInBounds_toArray, List.set_cons_zero, List.set_cons_succ]
  repeat (refine doc_val rfl (by first | (go_simp; done) | (go_simp; exact ⟨rfl, rfl⟩) | (go_simp; with_reducible rfl)) ?_; simp only [Act.put, List.setIfInBounds_toArray, List.set_cons_zero, List.set_cons_succ])
  refine doc_call rfl (by first | (go_simp; done) | (go_simp; exact ⟨rfl, rfl⟩) | (go_simp; with_reducible rfl)) ((q_h hS9).mono ?_)
  rintro e w10 ⟨rfl, F10, hS10, st10⟩
  refine ⟨_, rfl, ?_⟩
  simp only [Act.put, List.setIfInBounds_toArray, List.set_cons_zero, List.set_cons_succ]
  repeat (refine doc_val rfl (by first | (go_simp; done) | (go_simp; exact ⟨rfl, rfl⟩) | (go_simp; with_reducible rfl)) ?_; simp only [Act.put, List.setIfInBounds_toArray, List.set_cons_zero, List.set_cons_succ])
  refine doc_end (HF.out _ _ ?_)
  clear HF F'
  have hB := hb.trans ((st.trans (st5.trans (st6.trans (st7.trans (st8.trans (st9.trans st10)))))).below hF hb.size)
  go_wp2
  go_returns
  exact Pure.of rfl hB
end Go.Proofs.Ytboekafmplomhaa
