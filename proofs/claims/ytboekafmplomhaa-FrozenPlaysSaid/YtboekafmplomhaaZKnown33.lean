/-
  The page's example of layer 33.
-/
import Derived.Test.YtboekafmplomhaaZFzRead
import Derived.Test.YtboekafmplomhaaZKnown31B
import Derived.Test.YtboekafmplomhaaZMade33
set_option linter.unusedVariables false
set_option linter.unusedSimpArgs false
namespace Go.Proofs.Ytboekafmplomhaa
open Go.RowKit

def fA : Sto × Int := varV (newS 20) 2
theorem fA_ok : Wf fA.1 ∧ Sated fA.1 := varV_good (newS_wf (by omega) (by omega)) (newS_sated 20) 2
theorem fA_is : fA.2 = 2 := by decide +kernel
theorem fA_ord : ordS fA.1 [2] = ([(2, 0, 1)], [2]) := by decide +kernel
def fB : Sto × List Int := loadN fA.1 [0, 1] [(2, 0, 1)]
theorem fB_is : fB.2 = [0, 1, 2] := by decide +kernel
theorem fB_full : fB.1.full = false := by decide +kernel
theorem fB_ok : Wf fB.1 ∧ Sated fB.1 := by
  unfold fB
  rw [loadN, loadN]
  exact makeN_good fA_ok.1 fA_ok.2 _ _
theorem fB_can : canV [(2, 0, 1)] [2] = true := by decide +kernel
theorem fB_parse : parseV [1, 2, 0, 1, 1, 2] = some ([(2, 0, 1)], [2]) := by decide +kernel
def fC : Sto × Int := varV fB.1 2
theorem fC_is : fC.2 = 2 := by decide +kernel
theorem f_body : bodyB [(2, 0, 1)] [2] = [81, 66, 1, 1, 2, 0, 1, 1, 2] := by
  simp [bodyB, headB, nodeB, numB_small]
theorem f_wb : writeB [(2, 0, 1)] [2] = sealB [81, 66, 1, 1, 2, 0, 1, 1, 2] := by unfold writeB; rw [f_body]
theorem f_len : (writeB [(2, 0, 1)] [2]).length = 13 := by rw [f_wb, sealB_length]; rfl
theorem f_take : (writeB [(2, 0, 1)] [2]).take 9 = [81, 66, 1, 1, 2, 0, 1, 1, 2] := by rw [f_wb]; unfold sealB; rfl
theorem f_byte : ∀ y ∈ writeB [(2, 0, 1)] [2], y < 256 := by rw [f_wb]; exact sealB_byte (by decide)
theorem f_read : readV fA.1 (writeB [(2, 0, 1)] [2]) = (fB.1, [2], 0) := by
  have h9 : (writeB [(2, 0, 1)] [2]).length - 4 = 9 := by rw [f_len]
  have h3 : (writeB [(2, 0, 1)] [2]).take 3 = [81, 66, 1] := by
    have h := congrArg (List.take 3) f_take
    rw [List.take_take] at h
    exact h
  have hm : (((writeB [(2, 0, 1)] [2]).drop 3).take ((writeB [(2, 0, 1)] [2]).length - 7)) = [1, 2, 0, 1, 1, 2] := by
    have h := congrArg (List.drop 3) f_take
    rw [List.drop_take] at h
    rw [f_len]
    exact h
  unfold readV
  rw [if_neg (by rw [f_len]; omega), if_neg (by rw [f_len]; omega), if_neg (by rw [h3]; simp), h9, f_take, if_neg (by rw [f_wb]; simp)]
  unfold readB
  rw [hm, fB_parse]
  simp only
  rw [if_neg (by rw [fB_can]; simp)]
  show (if fB.1.full = true then (fB.1, [], 12) else (fB.1, ([2] : List Int).map (fun r => fB.2.getD r.toNat 0), 0)) = _
  rw [if_neg (by rw [fB_full]; simp), fB_is]
  rfl
section
variable {w : World} {p : Nat} {F : List Nat}
theorem f_a (h : StoIs w p F (newS 20)) : Calls Try.prog 24 #[.pointer (some ⟨p, 0, none⟩), .int .i64 2] w (fun e w' => e = .returned (.int .i64 2) ∧ Turned w p F fA.1 w') := by
  have M := var_call h (newS_wf (by omega) (by omega)) 2
  unfold Tells at M
  rw [show (varV (newS 20) 2).2 = 2 from fA_is] at M
  exact M
theorem f_c (h : StoIs w p F fB.1) : Calls Try.prog 24 #[.pointer (some ⟨p, 0, none⟩), .int .i64 2] w (fun e w' => e = .returned (.int .i64 2) ∧ Turned w p F fC.1 w') := by
  have M := var_call h fB_ok.1 2
  unfold Tells at M
  rw [show (varV fB.1 2).2 = 2 from fC_is] at M
  exact M
theorem f_w (h : StoIs w p F fA.1) : Calls Try.prog 71 #[.pointer (some ⟨p, 0, none⟩), .slice (some ⟨w.heap.size, 0, none⟩) 1 1] (w.alloc (.cells #[.int .i64 2] 3))
    (fun e w' => ∃ a c, e = .returned (.tuple #[.slice a 13 c, .int .i64 0]) ∧ OwnB w.heap.size w' (.slice a 13 c) (writeB [(2, 0, 1)] [2]) ∧ Below w.heap.size w w') := by
  have hb : Below w.heap.size w (w.alloc (.cells #[.int .i64 2] 3)) := by (repeat' (first | (with_reducible exact Below.refl _ _) | (with_reducible refine Below.ext_mk ?_ ?_ _ _) | (with_reducible refine Below.alloc ?_ ?_ _) | (with_reducible refine Below.drew ?_) | (with_reducible refine Below.setCell ?_ ?_ _) | go_size))
  have M := write_live (h.below hb) fA_ok.1 fA_ok.2 (lit_one w 2) (by simp)
  rw [fA_ord] at M
  refine M.mono ?_
  rintro e w' ⟨v, rfl, h1, h2⟩
  obtain ⟨a, c, rfl⟩ := h1.form
  rw [f_len] at h1 ⊢
  exact ⟨a, c, rfl, h1.mono hb.size, hb.trans (h2.mono hb.size)⟩
theorem f_r (h : StoIs w p F fA.1) {a : Option Addr} {c : Nat} (hr : Rd w 1 (.slice a 13 c) (byts (writeB [(2, 0, 1)] [2]))) : Calls Try.prog 73 #[.pointer (some ⟨p, 0, none⟩), .slice a 13 c] w
    (fun e w' => ∃ b c' F', e = .returned (.tuple #[.slice (some ⟨b, 0, none⟩) 1 c', .int .i64 0]) ∧ w'.cell? ⟨b, 0, none⟩ = some (.int .i64 2) ∧ b < w'.heap.size ∧ StoIs w' p F' fB.1 ∧ StoStep w w' F F' ∧ w.heap.size ≤ b ∧ b ∉ F') := by
  have M := read_live h fA_ok.1 fA_ok.2 hr f_byte
  rw [f_read] at M
  refine M.mono ?_
  rintro e w' ⟨sv, G, F', rfl, h1, h2, h3, h4⟩
  obtain ⟨_, ⟨_, q, _⟩ | ⟨g, cap, cur, rfl, rfl, q1, q2, q3, q4, q5⟩⟩ := h1
  · cases q
  · have hlt := (Array.getElem?_eq_some_iff.1 q1).1
    refine ⟨g, cap, F', rfl, ?_, hlt, h3, h4, (h2 g rfl).1, (h2 g rfl).2⟩
    simp only [World.cell?, q1]
    have h := congrArg (·[0]?) q5
    simpa [ints] using h
end
set_option maxRecDepth 100000 in
set_option maxHeartbeats 8000000 in
theorem known33 (w : World) : Calls Try.prog 74 #[] w (Pure (.bool true) w) := by
  go_enter Try.func74, Try.ntmps74
  go_upto_region 5 with (first
    | ((with_reducible refine (new_call 20 (by omega) (by omega) _).mono ?_); rintro e w1 ⟨p, F, rfl, hS, hb, hF⟩)
    | ((with_reducible refine (f_a hS).mono ?_); rintro e w2 ⟨rfl, F1, hS1, st1⟩)
    | ((with_reducible refine (f_w hS1).mono ?_); rintro e w3 ⟨a, c, rfl, hr, hb3⟩))
  have bW : Below w3.heap.size w3 (w3.alloc (.cells (byts [81, 66, 1, 1, 2, 0, 1, 1, 2]).toArray 5)) := Below.alloc (Below.refl _ _) (Nat.le_refl _) _
  have rW := lit_rd w3 [81, 66, 1, 1, 2, 0, 1, 1, 2] (by decide) (0, 0)
  have FR := hid (f_r ((hS1.below hb3).below bW) (hr.rd.below bW))
  have e9 : (byts [81, 66, 1, 1, 2, 0, 1, 1, 2]).toArray = #[.int .u8 81, .int .u8 66, .int .u8 1, .int .u8 1, .int .u8 2, .int .u8 0, .int .u8 1, .int .u8 1, .int .u8 2] := rfl
  have HRW := hid rW
  have HBW := hid bW
  rw [e9] at FR HRW HBW
  clear bW rW e9
  go_upto_region 7 with ((with_reducible refine (FR.out).mono ?_); clear FR; rintro e w4 ⟨b0, c', F4, rfl, q0, qz, hS4, st4, hbb, hbF⟩)
  have hz1 : w.heap.size ≤ w1.heap.size := hb.size
  have hz2 : w1.heap.size ≤ w2.heap.size := st1.size
  have hF1 : ∀ k ∈ F1, w.heap.size ≤ k ∧ k < w2.heap.size := fun k hk => by
    have h2 := hS1.lt k hk
    rcases st1.fresh k hk with h | h
    · exact ⟨hF k h, h2⟩
    · omega
  have hB3 : Below w.heap.size w w3 := (hb.trans (st1.below (fun k hk => by have := hF k hk; omega) (by omega))).trans (hb3.mono (by omega))
  have hBv : Below w.heap.size w w4 := (hB3.trans (HBW.out.mono (Nat.le_trans (Nat.le_trans hz1 hz2) hb3.size))).trans (st4.below (fun k hk => (hF1 k hk).1) (by have := HBW.out.size; have := hb3.size; omega))
  obtain ⟨G, hG, hG2⟩ := hr
  have rB : Rd w4 1 (.slice a 13 c) (byts (writeB [(2, 0, 1)] [2])) := by
    refine RowIs.rd (RowIs.keep (RowIs.keep hG (fun g hg => HBW.out.block g (RowIs.lt hG g hg))) (fun g hg => st4.block g (Nat.lt_of_lt_of_le (RowIs.lt hG g hg) HBW.out.size) (fun hm => ?_)))
    have h1 := (hF1 g hm).2
    have h2 := hG2 g hg
    omega
  have rWn : Rd w4 1 (.slice (some ⟨w3.heap.size, 0, none⟩) 9 9) (byts [81, 66, 1, 1, 2, 0, 1, 1, 2]) := Rd.step HRW.out st4 (fun a n c b off e1 e2 hm => by
    cases e1
    cases e2
    have h1 := (hF1 _ hm).2
    have h2 := hb3.size
    omega)
  have dB := rB.below (Below.drew (Below.refl _ w4))
  have dW := rWn.below (Below.drew (Below.refl _ w4))
  have hc13 : 13 ≤ c := by
    obtain ⟨a', n', c', h1, h2, _⟩ := dB
    cases h1
    exact h2
  have t9 := Rd.takeB (a := a) (cap := c) (l := writeB [(2, 0, 1)] [2]) (by rw [f_len]; exact dB) (i := 9) (c' := c) (by rw [f_len]; omega) (by omega)
  rw [f_take] at t9
  have hc9 : (9 : Int) ≤ (c : Int) := by omega
  have hc9' : 9 ≤ c := by omega
  have s1 := str_any t9
  have s2 := str_any dW
  generalize strOf [81, 66, 1, 1, 2, 0, 1, 1, 2] = st at s1 s2
  have hst : (st.toList == st.toList) = true := beq_self_eq_true _
  have SM := fun W => sum_any (w := W) (sv := .slice none 0 0) (l := []) ⟨none, 0, 0, rfl, Nat.le_refl _, by omega, rfl, fun h => absurd h (by omega)⟩ (by simp)
  rw [show ((sumV [] : Nat) : Int) = 2166136261 from rfl] at SM
  have SM := hid SM
  have hS4d := hS4.below (Below.drew (Below.refl _ w4))
  have VC := hid (f_c hS4d)
  have q0d := ((Below.drew (Below.refl w4.heap.size w4)).cell (p := ⟨b0, 0, none⟩) qz).trans q0
  have hF4 : ∀ k ∈ F4, w.heap.size ≤ k := fun k hk => by
    rcases st4.fresh k hk with h | h
    · exact (hF1 k h).1
    · have := HBW.out.size; have := hb3.size; omega
  have HV := hid (And.intro hBv hF4)
  have HB0 := hid (fun (W : World) (F' : List Nat) (st : StoStep w4.drew W F4 F') => (show W.cell? ⟨b0, 0, none⟩ = some (.int .i64 2) ∧ b0 < W.heap.size from ⟨(cell_of_heap 0 (st.block b0 qz hbF)).trans q0d, Nat.lt_of_lt_of_le qz st.size⟩))
  have S1 := hid s1
  have S2 := hid s2
  have Q0 := hid q0
  clear t9 dB dW rB rWn hG hG2 hF1 hB3 hBv hbb hbF st4 hS4 hS4d hF4 s1 s2 HRW HBW hb3 st1 hS1 hS hb hF q0 q0d
  refine wp_region_stage [29] (fun i W => (i = 0 → W = w4.drew) ∧ (i = 1 → ∃ F', StoIs W p F' fC.1 ∧ StoStep w4.drew W F4 F')) (by kernel_rfl) (by kernel_rfl) (by kernel_rfl) (by kernel_rfl) ⟨fun _ => rfl, fun h => by omega⟩ (fun F' hF' => ?_)
  have HF := hid hF'
  clear hF'
  have rds : True := trivial
  repeat (first
    | (apply sg_any; (focus rfl); (focus (first | exact wanted_t (x := true) rfl rfl | rfl)); (focus (intro _; go_simp; with_reducible rfl)); simp only [Act.put, List.setIfInBounds_toArray, List.set_cons_zero, List.set_cons_succ])
    | (apply sg_read 0 0; (focus rfl); (focus (decide +kernel)); (focus (decide +kernel)); (focus (first | exact wanted_t (x := true) rfl rfl | rfl)); (focus (intro ii w' l' u hR; rw [hR.1 (by omega)]; clear hR; have h1 := S1.out; have h2 := S2.out; have h3 := Q0.out; first | (go_simp; done) | (go_simp; with_reducible rfl))); simp only [Act.put, List.setIfInBounds_toArray, List.set_cons_zero, List.set_cons_succ]))
  refine sg_read (v := .int .i64 2) 0 1 rfl (by decide +kernel) (by decide +kernel) (by first | exact wanted_t (x := true) rfl rfl | rfl) (fun ii w' l' u hR => by
    rcases (show ii = 0 ∨ ii = 1 by omega) with rfl | rfl
    · rw [hR.1 rfl]; clear hR; have h3 := Q0.out; first | (go_simp; done) | (go_simp; with_reducible rfl)
    · obtain ⟨F5, h5, st5⟩ := hR.2 rfl
      obtain ⟨h6, h7⟩ := HB0.out w' F5 st5
      clear hR h5 st5
      first | (go_simp; done) | (go_simp; with_reducible rfl)) ?_
  simp only [Act.put, List.setIfInBounds_toArray, List.set_cons_zero, List.set_cons_succ]
  repeat (apply sg_any; (focus rfl); (focus (first | exact wanted_t (x := true) rfl rfl | rfl)); (focus (intro _; go_simp; with_reducible rfl)); simp only [Act.put, List.setIfInBounds_toArray, List.set_cons_zero, List.set_cons_succ])
  refine sg_turn_call 0 (v := .int .i64 2) (f := 24) (args := #[.pointer (some ⟨p, 0, none⟩), .int .i64 2]) rfl (by first | exact wanted_t (x := true) rfl rfl | rfl) (fun _ => by first | (go_simp; done) | (go_simp; exact ⟨rfl, rfl⟩)) (fun W hR => by
    rw [hR.1 rfl]
    refine VC.out.mono ?_
    rintro e w' ⟨rfl, F5, h5, st5⟩
    exact ⟨rfl, fun h => by omega, fun _ => ⟨F5, h5, st5⟩⟩) ?_
  simp only [Act.put, List.setIfInBounds_toArray, List.set_cons_zero, List.set_cons_succ]
  repeat (apply sg_any; (focus rfl); (focus (first | exact wanted_t (x := true) rfl rfl | rfl)); (focus (intro _; go_simp; with_reducible rfl)); simp only [Act.put, List.setIfInBounds_toArray, List.set_cons_zero, List.set_cons_succ])
  refine sg_call (v := .int .u32 2166136261) 1 1 rfl (by decide +kernel) (by decide +kernel) (by first | exact wanted_t (x := true) rfl rfl | rfl) (f := 75) (args := #[.slice none 0 0]) (fun _ => by first | (go_simp; done) | (go_simp; exact ⟨rfl, rfl⟩)) (fun i W l u hR => by
    refine (SM.out W).mono ?_
    rintro e w' ⟨rfl, rfl⟩
    exact ⟨rfl, hR⟩) ?_
  simp only [Act.put, List.setIfInBounds_toArray, List.set_cons_zero, List.set_cons_succ]
  repeat (apply sg_any; (focus rfl); (focus (first | exact wanted_t (x := true) rfl rfl | rfl)); (focus (intro _; go_simp; with_reducible rfl)); simp only [Act.put, List.setIfInBounds_toArray, List.set_cons_zero, List.set_cons_succ])
  refine sg_end (HF.out _ (fun w5 hR => ?_))
  obtain ⟨F5, h5, st5⟩ := hR.2 rfl
  have hBE : Below w.heap.size w w5 := (HV.out.1.trans (Below.drew (Below.refl _ _))).trans (st5.below (fun k hk => HV.out.2 k hk) HV.out.1.size)
  have HBE := hid hBE
  clear hR HF F' VC SM h5 st5 hBE
  go_wp2_with fail
  go_returns
  exact Pure.of rfl HBE.out
end Go.Proofs.Ytboekafmplomhaa
