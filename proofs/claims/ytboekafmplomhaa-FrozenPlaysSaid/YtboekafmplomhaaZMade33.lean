/-
  The diagrams that numbers say (quillonlaw33.made): the walk.
-/
import Derived.Test.YtboekafmplomhaaZMadeD
import Derived.Deep.Upon
set_option linter.unusedVariables false
set_option linter.unusedSimpArgs false
namespace Go.Proofs.Ytboekafmplomhaa
open Go.RowKit

theorem at33_any (x : Int) (n : Nat) (h0 : 0 < n) (hn : n ≤ 1000) (hx : -9223372036854775808 ≤ x ∧ x ≤ 9223372036854775807) (w : World) :
    Calls Try.prog 123 #[.int .i64 x, .int .i64 (n : Int)] w (Pure (.int .i64 (atN x n)) w) := by
  have hz : ((n : Int) == 0) = false := by simp; omega
  have hz1 : ¬ (n : Int) = 0 := by omega
  have hz2 : ¬ n = 0 := by omega
  have hnm : ¬ (n : Int) = -1 := by omega
  by_cases hx0 : x < 0
  · have e1 : IntKind.i64.wrap (x + 1) = x + 1 := IntWalk.i64_in _ (by omega)
    have e2 : IntKind.i64.wrap (-(x + 1)) = -(x + 1) := IntWalk.i64_in _ (by omega)
    have e3 : (-(x + 1)).tmod (n : Int) = atN x n := by unfold atN; rw [if_pos hx0, Int.tmod_eq_emod_of_nonneg (by omega)]
    have hr := atN_range x (n := (n : Int)) (by omega)
    have e4 : IntKind.i64.wrap (atN x n) = atN x n := IntWalk.i64_in _ (by omega)
    clear hr
    go_enter Try.func123, Try.ntmps123
    go_wp2
    go_returns
    exact Pure.of rfl (by (repeat' (first | (with_reducible exact Below.refl _ _) | (with_reducible refine Below.ext_mk ?_ ?_ _ _) | (with_reducible refine Below.alloc ?_ ?_ _) | (with_reducible refine Below.drew ?_) | (with_reducible refine Below.setCell ?_ ?_ _) | go_size)))
  · have e3 : x.tmod (n : Int) = atN x n := by unfold atN; rw [if_neg hx0, Int.tmod_eq_emod_of_nonneg (by omega)]
    have hr := atN_range x (n := (n : Int)) (by omega)
    have e4 : IntKind.i64.wrap (atN x n) = atN x n := IntWalk.i64_in _ (by omega)
    clear hr
    go_enter Try.func123, Try.ntmps123
    go_wp2
    go_returns
    exact Pure.of rfl (by (repeat' (first | (with_reducible exact Below.refl _ _) | (with_reducible refine Below.ext_mk ?_ ?_ _ _) | (with_reducible refine Below.alloc ?_ ?_ _) | (with_reducible refine Below.drew ?_) | (with_reducible refine Below.setCell ?_ ?_ _) | go_size)))

/-- What 'made' tells: a store, and the diagrams, in blocks of their own. -/
def MadeAt33 (w : World) (cap : Int) (l : List Int) (e : Ending) (w' : World) : Prop :=
  ∃ (p : Nat) (F : List Nat) (sv : Value) (G : Option Nat), e = .returned (.tuple #[.pointer (some ⟨p, 0, none⟩), sv]) ∧ Held w.heap.size w' p F (madeV cap l).1 sv G (madeV cap l).2 ∧ Below w.heap.size w w'

set_option maxRecDepth 100000 in
set_option maxHeartbeats 16000000 in
theorem made33_any {w : World} {sv0 : Value} {l : List Int} {cap : Int} (h1 : 2 ≤ cap) (h2 : cap ≤ 1048576) (hl0 : Rd w 1 sv0 (ints l)) (hI : ∀ x ∈ l, -9223372036854775808 ≤ x ∧ x ≤ 9223372036854775807) :
    Calls Try.prog 70 #[.int .i64 cap, sv0] w (MadeAt33 w cap l) := by
  obtain ⟨la, lc, rfl, hlc, hlm⟩ := hl0.len
  have HL := hid hl0
  have HI := hid hI
  have NC := new_call cap h1 h2
  clear hl0 hI
  go_enter Try.func70, Try.ntmps70
  go_upto_region 6 with (go_at_call 15; refine (NC _).mono ?_; rintro e w1 ⟨p, F, rfl, hS, hb, hF⟩)
  refine wp_gen (fun V hV => ?_)
  have hbw : Below w1.heap.size w1 V := by rw [hV]; (repeat' (first | (with_reducible exact Below.refl _ _) | (with_reducible refine Below.ext_mk ?_ ?_ _ _) | (with_reducible refine Below.alloc ?_ ?_ _) | (with_reducible refine Below.drew ?_) | (with_reducible refine Below.setCell ?_ ?_ _) | go_size))
  have bl : RowIs V (.slice (some ⟨w1.heap.size, 0, none⟩) 2 2) (some w1.heap.size) 3 1 2 (ints [0, 1]) := by
    rw [hV]
    exact ⟨rfl, .inr ⟨w1.heap.size, 2, #[.int .i64 0, .int .i64 1], rfl, rfl, World.heap_alloc_last w1 _, Nat.le_refl _, by unfold maxLen; omega, rfl, rfl⟩⟩
  clear hV
  have hws := hb.size
  have H0 : Held w.heap.size V p F (newS cap) (.slice (some ⟨w1.heap.size, 0, none⟩) 2 2) (some w1.heap.size) [0, 1] :=
    ⟨hS.below hbw, bl, hF, fun g hg => by cases hg; exact ⟨by omega, fun hm => by have := hS.lt _ hm; omega⟩⟩
  have hbV : Below w.heap.size w V := hb.trans (hbw.mono hws)
  have H0h := hid H0
  have HF := hid hF
  clear hS hF bl H0 hb hbw
  go_wp2_with fail
  go_loopw [8, 10] (fun v iv wr => ∃ (j : Nat) (S : Sto) (all : List Int) (F : List Nat) (sc g : Nat), j ≤ 20 ∧ 4 * j ≤ l.length ∧ v = .slice (some ⟨g, 0, none⟩) all.length sc ∧ iv = .int .i64 (4 * j : Nat) ∧ Held w.heap.size wr p F S v (some g) all ∧
      MadeOk S 8 (256 * j) all ∧ all.length = j + 2 ∧ madeL (20 - j) S all (l.drop (4 * j)) = madeV cap l ∧ Below w.heap.size w wr) (fun _ iv _ => l.length + 4 - (intOf iv).toNat)
  case atStart => exact ⟨0, _, [0, 1], F, _, _, by omega, by omega, rfl, rfl, H0h.out, made_new h1 h2, rfl, rfl, hbV⟩
  case round =>
    obtain ⟨j, S, all, F1, sc, g, hj, hj4, rfl, rfl, hH, hM, hal, hmd, hbr⟩ := hrel
    have HH := hid hH
    have HM := hid hM
    have HD := hid hmd
    clear hH hM hmd
    obtain ⟨i, hi⟩ : ∃ i, i = 4 * j := ⟨_, rfl⟩
    rw [← hi] at HD hj4 ⊢
    have wi3 : IntKind.i64.wrap ((i : Int) + 3) = (i : Int) + 3 := IntWalk.i64_in _ (by omega)
    have Hi := hid hi
    have hal2 : all.length ≤ 22 := by omega
    have hal0 : 2 ≤ all.length := by omega
    have HAL := hid hal
    clear hal
    by_cases q1 : i + 3 < l.length
    · have q1' : (i : Int) + 3 < (l.length : Int) := by omega
      by_cases q2 : j < 20
      · have q2' : (i : Int) < 80 := by omega
        have L1 := HL.out.below hbr
        obtain ⟨lb, lo, rfl, zl, k0⟩ := Rd.intAt L1 (i := i) (by omega)
        obtain ⟨_, _, e1', _, k1⟩ := Rd.intAt L1 (i := i + 1) (by omega)
        cases e1'
        obtain ⟨_, _, e2', _, k2⟩ := Rd.intAt L1 (i := i + 2) (by omega)
        cases e2'
        obtain ⟨_, _, e3', _, k3⟩ := Rd.intAt L1 (i := i + 3) (by omega)
        cases e3'
        have I1 := HI.out l[i + 1] (List.getElem_mem _)
        have I2 := HI.out l[i + 2] (List.getElem_mem _)
        have I3 := HI.out l[i + 3] (List.getElem_mem _)
        have I0 := HI.out l[i] (List.getElem_mem _)
        have NX := hid (madeL_next (k := 19 - j) (S := S) (all := all) (List.getElem?_eq_getElem (show i < l.length by omega)) (List.getElem?_eq_getElem (show i + 1 < l.length by omega)) (List.getElem?_eq_getElem (show i + 2 < l.length by omega)) (List.getElem?_eq_getElem (show i + 3 < l.length by omega)))
        rw [show 19 - j + 1 = 20 - j by omega] at NX
        have hn0 : 0 < all.length := by omega
        have X1 := backN_mem hn0 l[i + 1]
        have X2 := backN_mem hn0 l[i + 2]
        have X3 := backN_mem hn0 l[i + 3]
        clear X1 X2 X3
        -- the four numbers
        generalize l[i] = u0 at *
        generalize l[i + 1] = u1 at *
        generalize l[i + 2] = u2 at *
        generalize l[i + 3] = u3 at *
        clear L1
        have wi1 : IntKind.i64.wrap ((i : Int) + 1) = ((i + 1 : Nat) : Int) := by rw [IntWalk.i64_in _ (by omega)]; omega
        have wi2 : IntKind.i64.wrap ((i : Int) + 2) = ((i + 2 : Nat) : Int) := by rw [IntWalk.i64_in _ (by omega)]; omega
        have wi3' : IntKind.i64.wrap ((i : Int) + 3) = ((i + 3 : Nat) : Int) := by rw [IntWalk.i64_in _ (by omega)]; omega
        have wi4 : IntKind.i64.wrap ((i : Int) + 4) = ((i + 4 : Nat) : Int) := by rw [IntWalk.i64_in _ (by omega)]; omega
        obtain ⟨i1, hi1⟩ : ∃ i1, i1 = i + 1 := ⟨_, rfl⟩
        obtain ⟨i2, hi2⟩ : ∃ i2, i2 = i + 2 := ⟨_, rfl⟩
        obtain ⟨i3, hi3⟩ : ∃ i3, i3 = i + 3 := ⟨_, rfl⟩
        obtain ⟨i4, hi4⟩ : ∃ i4, i4 = i + 4 := ⟨_, rfl⟩
        rw [← hi1] at wi1 k1
        rw [← hi2] at wi2 k2
        rw [← hi3] at k3
        rw [← hi4] at wi4
        have li1 : (i1 : Int) < (l.length : Int) := by omega
        have li2 : (i2 : Int) < (l.length : Int) := by omega
        have li3 : (i3 : Int) < (l.length : Int) := by omega
        have li0 : (i : Int) < (l.length : Int) := by omega
        have wi3'' : IntKind.i64.wrap ((i : Int) + 3) = (i3 : Int) := by rw [wi3', hi3]
        have HI4 := hid (And.intro hi4 (And.intro hi1 (And.intro hi2 hi3)))
        have tm : IntKind.i64.wrap (u0.tmod 2) = u0.tmod 2 := IntWalk.i64_in _ (by have := Int.tmod_lt_of_pos u0 (b := 2) (by omega); have := Int.lt_tmod_of_pos u0 (b := 2) (by omega); omega)
        by_cases hev : u0.tmod 2 = 0
        · -- a variable
          have hev' : (u0.tmod 2 == 0) = true := by simpa using hev
          have ST : stepM S all u0 u1 u2 u3 = varV S (atN u1 8) := by unfold stepM; rw [if_pos hev]
          rw [ST] at NX
          have VK := stepM_ok HM.out u0 u1 u2 u3
          rw [ST] at VK
          have VC := fun m d => var_call (HH.out.sto.ext m d) HM.out.wf (atN u1 8)
          unfold Tells at VC
          have HVK := hid VK
          have A1 := at33_any u1 8 (by omega) (by omega) I1
          have HE := hid hev
          clear VK hi1 hi2 hi3 hi4 wi2 wi3' k2 k3 ST hi hev
          go_upto_region 11 with (fail)
          refine wp_region_doc (fun F' hF => ?_)
          have HF1 := hid hF
          clear hF
          iterate 8 (refine doc_val rfl (by first | (go_simp; done) | (go_simp; exact ⟨rfl, rfl⟩) | (go_simp; with_reducible rfl)) ?_; simp only [Act.put, List.setIfInBounds_toArray, List.set_cons_zero, List.set_cons_succ])
          refine doc_call rfl (by first | (go_simp; done) | (go_simp; exact ⟨rfl, rfl⟩) | (go_simp; with_reducible rfl)) ((A1 wr).mono ?_)
          rintro _ _ ⟨rfl, m1, d1, rfl⟩
          refine ⟨_, rfl, ?_⟩
          simp only [Act.put, List.setIfInBounds_toArray, List.set_cons_zero, List.set_cons_succ]
          refine doc_call rfl (by first | (go_simp; done) | (go_simp; exact ⟨rfl, rfl⟩) | (go_simp; with_reducible rfl)) ((VC m1 d1).mono ?_)
          rintro _ w2 ⟨rfl, F2, hS2, st2⟩
          refine ⟨_, rfl, ?_⟩
          simp only [Act.put, List.setIfInBounds_toArray, List.set_cons_zero, List.set_cons_succ]
          have st3 : StoStep wr w2 F1 F2 := (StoStep.of_below (Below.ext_mk (Below.refl _ _) (Nat.le_refl _) m1 d1)).trans st2
          obtain ⟨v', w3, G', r1, r2, r3⟩ := HH.out.grow hbr.size hS2 st3 (by omega) (varV S (atN u1 8)).2
          refine doc_val rfl (by first | (go_simp; done) | (go_simp; exact ⟨rfl, rfl⟩) | (go_simp; with_reducible rfl)) ?_
          simp only [Act.put, List.setIfInBounds_toArray, List.set_cons_zero, List.set_cons_succ]
          refine doc_val rfl (run_append_op _ _ _ _ _ _ _ _ _ r1) ?_
          simp only [Act.put, List.setIfInBounds_toArray, List.set_cons_zero, List.set_cons_succ]
          refine doc_val rfl (by first | (go_simp; done) | (go_simp; exact ⟨rfl, rfl⟩) | (go_simp; with_reducible rfl)) ?_
          simp only [Act.put, List.setIfInBounds_toArray, List.set_cons_zero, List.set_cons_succ]
          refine doc_end (HF1.out _ _ ?_)
          clear HF1 F' VC A1
          obtain ⟨a', sc', rfl, hm'⟩ := RowIs.form r2.row
          obtain ⟨rfl, -⟩ := RowIs.addr2 r2.row
          have HH3 := hid r2
          have HB3 := hid r3
          clear r1 r2 r3 st2 st3 hS2
          go_wp2_with fail
          go_roundw
          case rel =>
            refine ⟨j + 1, _, _, F2, _, G', by omega, by have := HI4.out.1; have := Hi.out; omega, by rw [List.length_append], by have := HI4.out.1; have := Hi.out; first | (congr; done) | (congr; omega), HH3.out, ?_, by have := HAL.out; simp; omega, ?_, hbr.trans (HB3.out.mono (Nat.le_refl _))⟩
            · have := HM.out.of HVK.out
              rw [show 256 * (j + 1) = 256 * j + 256 by omega]; exact this
            · rw [show 20 - (j + 1) = 19 - j by omega, show 4 * (j + 1) = i + 4 by have := Hi.out; omega, ← NX.out]; exact HD.out
          case measure => have := HI4.out.1; simp [intOf]; omega
        · -- Ite of three
          have hev' : (u0.tmod 2 == 0) = false := by simpa using hev
          have ST : stepM S all u0 u1 u2 u3 = iteV S (backN all u1) (backN all u2) (backN all u3) := by unfold stepM; rw [if_neg hev]
          rw [ST] at NX
          have VK := stepM_ok HM.out u0 u1 u2 u3
          rw [ST] at VK
          have HVK := hid VK
          have R1 := atN_range u1 (n := all.length) (by omega)
          have R2 := atN_range u2 (n := all.length) (by omega)
          have R3 := atN_range u3 (n := all.length) (by omega)
          obtain ⟨n, hn⟩ : ∃ n, n = all.length := ⟨_, rfl⟩
          obtain ⟨b1, hb1⟩ : ∃ b : Nat, atN u1 all.length = (b : Int) := ⟨(atN u1 all.length).toNat, by omega⟩
          obtain ⟨b2, hb2⟩ : ∃ b : Nat, atN u2 all.length = (b : Int) := ⟨(atN u2 all.length).toNat, by omega⟩
          obtain ⟨b3, hb3⟩ : ∃ b : Nat, atN u3 all.length = (b : Int) := ⟨(atN u3 all.length).toNat, by omega⟩
          have A1 := at33_any u1 all.length (by omega) (by omega) I1
          have A2 := at33_any u2 all.length (by omega) (by omega) I2
          have A3 := at33_any u3 all.length (by omega) (by omega) I3
          rw [hb1] at A1 R1
          rw [hb2] at A2 R2
          rw [hb3] at A3 R3
          have y1 : backN all u1 = all.getD (all.length - 1 - b1) 0 := by unfold backN; rw [hb1]; rfl
          have y2 : backN all u2 = all.getD (all.length - 1 - b2) 0 := by unfold backN; rw [hb2]; rfl
          have y3 : backN all u3 = all.getD (all.length - 1 - b3) 0 := by unfold backN; rw [hb3]; rfl
          have rowc : ∀ c, c < all.length → wr.cell? ⟨g, c, none⟩ = some (.int .i64 (all.getD c 0)) := fun c hc => by
            obtain ⟨g', cap', e1, e2, e3, _⟩ := HH.out.row.at hc (j := 0) (by omega)
            cases e2
            simp only [Nat.mul_one, Nat.add_zero] at e3
            rw [e3]; simp [ints, List.getD_eq_getElem?_getD, hc]
          have zg : g < wr.heap.size := RowIs.lt HH.out.row g rfl
          have z1 := rowc (all.length - 1 - b1) (by omega)
          have z2 := rowc (all.length - 1 - b2) (by omega)
          have z3 := rowc (all.length - 1 - b3) (by omega)
          rw [← y1] at z1
          rw [← y2] at z2
          rw [← y3] at z3
          obtain ⟨m, hm⟩ : ∃ m, m = all.length - 1 := ⟨_, rfl⟩
          have wm : IntKind.i64.wrap ((all.length : Int) - 1) = (m : Int) := by rw [IntWalk.i64_in _ (by omega)]; omega
          rw [← hm] at z1 z2 z3
          obtain ⟨c1, hc1⟩ : ∃ c, c = m - b1 := ⟨_, rfl⟩
          obtain ⟨c2, hc2⟩ : ∃ c, c = m - b2 := ⟨_, rfl⟩
          obtain ⟨c3, hc3⟩ : ∃ c, c = m - b3 := ⟨_, rfl⟩
          rw [← hc1] at z1
          rw [← hc2] at z2
          rw [← hc3] at z3
          have wc1 : IntKind.i64.wrap ((m : Int) - (b1 : Int)) = (c1 : Int) := by rw [IntWalk.i64_in _ (by omega)]; omega
          have wc2 : IntKind.i64.wrap ((m : Int) - (b2 : Int)) = (c2 : Int) := by rw [IntWalk.i64_in _ (by omega)]; omega
          have wc3 : IntKind.i64.wrap ((m : Int) - (b3 : Int)) = (c3 : Int) := by rw [IntWalk.i64_in _ (by omega)]; omega
          have lc1 : (c1 : Int) < (all.length : Int) := by omega
          have lc2 : (c2 : Int) < (all.length : Int) := by omega
          have lc3 : (c3 : Int) < (all.length : Int) := by omega
          have W3 : IntKind.i64.wrap ((i : Int) + 3) = (i3 : Int) := wi3''
          have IC := hid (fun W (hb : Below wr.heap.size wr W) => ite_call (HH.out.sto.below hb) HM.out.wf (backN all u1) (backN all u2) (backN all u3))
          unfold Tells at IC
          have HC1 := hid z1
          have HC2 := hid z2
          have HC3 := hid z3
          have HK1 := hid k1
          have HK2 := hid k2
          have HK3 := hid k3
          have ARITH := hid (And.intro hm (And.intro hc1 (And.intro hc2 hc3)))
          have HE := hid hev
          generalize hR : iteV S (backN all u1) (backN all u2) (backN all u3) = R at *
          generalize backN all u1 = x1 at *
          generalize backN all u2 = x2 at *
          generalize backN all u3 = x3 at *
          have HR := hid hR
          have HRW := hid rowc
          clear VK hi1 hi2 hi3 hi4 hi ST z1 z2 z3 hm hc1 hc2 hc3 y1 y2 y3 hev hR rowc k1 k2 k3 R1 R2 R3 hb1 hb2 hb3 hn wi3 wi3' wi3''
          go_upto_region 12 with (fail)
          refine wp_made wr w.heap.size p g all.length sc lb lo l.length lc i m i1 i2 i3 b1 b2 b3 c1 c2 c3 (.func (.func 123) #[] #[]) u1 u2 u3 x1 x2 x3 R.2 F1 R.1 all (by kernel_rfl) (by kernel_rfl) ?_ ?_ ?_
          · refine ⟨0, undef, ?_, ⟨fun _ => Below.drew (Below.refl _ _), fun h => by simp at h, fun h => by simp at h, fun h => by simp at h⟩⟩
            unfold mdAct
            rfl
          · rintro L a W' hall ⟨q, v', rfl, hQ⟩
            obtain ⟨F2, G', hH2, hb2⟩ := hQ.d (hall 46 (by decide))
            have e0 := hall 0 (by decide)
            have e1 := hall 1 (by decide)
            have e2 := hall 2 (by decide)
            have e3 := hall 3 (by decide)
            have e4 := hall 4 (by decide)
            have e5 := hall 5 (by decide)
            have e6 := hall 6 (by decide)
            have e7 := hall 7 (by decide)
            have e8 := hall 8 (by decide)
            have e9 := hall 9 (by decide)
            have e10 := hall 10 (by decide)
            have e11 := hall 11 (by decide)
            have e12 := hall 12 (by decide)
            have e13 := hall 13 (by decide)
            have e14 := hall 14 (by decide)
            have e15 := hall 15 (by decide)
            have e16 := hall 16 (by decide)
            have e17 := hall 17 (by decide)
            have e18 := hall 18 (by decide)
            have e19 := hall 19 (by decide)
            have e20 := hall 20 (by decide)
            have e21 := hall 21 (by decide)
            have e22 := hall 22 (by decide)
            have e23 := hall 23 (by decide)
            have e24 := hall 24 (by decide)
            have e25 := hall 25 (by decide)
            have e26 := hall 26 (by decide)
            have e27 := hall 27 (by decide)
            have e28 := hall 28 (by decide)
            have e29 := hall 29 (by decide)
            have e30 := hall 30 (by decide)
            have e31 := hall 31 (by decide)
            have e32 := hall 32 (by decide)
            have e33 := hall 33 (by decide)
            have e34 := hall 34 (by decide)
            have e35 := hall 35 (by decide)
            have e36 := hall 36 (by decide)
            have e37 := hall 37 (by decide)
            have e38 := hall 38 (by decide)
            have e39 := hall 39 (by decide)
            have e40 := hall 40 (by decide)
            have e41 := hall 41 (by decide)
            have e42 := hall 42 (by decide)
            have e43 := hall 43 (by decide)
            have e44 := hall 44 (by decide)
            have e45 := hall 45 (by decide)
            have e46 := hall 46 (by decide)
            have e47 := hall 47 (by decide)
            unfold mdAct
            simp only [e0, e1, e2, e3, e4, e5, e6, e7, e8, e9, e10, e11, e12, e13, e14, e15, e16, e17, e18, e19, e20, e21, e22, e23, e24, e25, e26, e27, e28, e29, e30, e31, e32, e33, e34, e35, e36, e37, e38, e39, e40, e41, e42, e43, e44, e45, e46, e47, gx_true]
            clear e0 e1 e2 e3 e4 e5 e6 e7 e8 e9 e10 e11 e12 e13 e14 e15 e16 e17 e18 e19 e20 e21 e22 e23 e24 e25 e26 e27 e28 e29 e30 e31 e32 e33 e34 e35 e36 e37 e38 e39 e40 e41 e42 e43 e44 e45 e46 e47 hall hQ
            obtain ⟨a', sc', rfl, hm'⟩ := RowIs.form hH2.row
            obtain ⟨rfl, -⟩ := RowIs.addr2 hH2.row
            have HH3 := hid hH2
            have HB3 := hid hb2
            clear hH2 hb2
            go_wp2_with fail
            go_roundw
            case rel =>
              refine ⟨j + 1, R.1, _, F2, _, G', by omega, by have := HI4.out.1; have := Hi.out; omega, by rw [List.length_append], by have := HI4.out.1; have := Hi.out; first | (congr; done) | (congr; omega), HH3.out, ?_, by have := HAL.out; simp; omega, ?_, hbr.trans (HB3.out.mono (Nat.le_refl _))⟩
              · have := HM.out.of HVK.out
                rw [show 256 * (j + 1) = 256 * j + 256 by omega]; exact this
              · rw [show 20 - (j + 1) = 19 - j by omega, show 4 * (j + 1) = i + 4 by have := Hi.out; omega, ← NX.out]; exact HD.out
            case measure => have := HI4.out.1; simp [intOf]; omega
          -- GENERATED by genmade.py
          refine ⟨fun L a w2 hn hI => ?_, ?_⟩
          · obtain ⟨q, v', rfl, hI⟩ := hI
            have hup := getD_up hn.2.1
            have f47 := not_upA hn.2.2.2 (i := 47) (k := 0) (by decide +kernel) hn.2.1
            refine st_val (v := .slice (some ⟨g, 0, none⟩) all.length sc) (W1 := w2) rfl (by unfold mdAct; simp only [gx_true, f47, gx_false]; go_simp) ?_
            refine ⟨q, v', ?_, hI.congr (up_ne _ _ (by decide)) (up_ne _ _ (by decide)) (up_ne _ _ (by decide))⟩
            unfold mdAct
            simp only [Act.put, List.setIfInBounds_toArray, List.set_cons_zero, List.set_cons_succ, hup, gx_true, up_ne 0 1 (by decide), up_ne 0 2 (by decide), up_ne 0 3 (by decide), up_ne 0 4 (by decide), up_ne 0 5 (by decide), up_ne 0 6 (by decide), up_ne 0 7 (by decide), up_ne 0 8 (by decide), up_ne 0 9 (by decide), up_ne 0 10 (by decide), up_ne 0 11 (by decide), up_ne 0 12 (by decide), up_ne 0 13 (by decide), up_ne 0 14 (by decide), up_ne 0 15 (by decide), up_ne 0 16 (by decide), up_ne 0 17 (by decide), up_ne 0 18 (by decide), up_ne 0 19 (by decide), up_ne 0 20 (by decide), up_ne 0 21 (by decide), up_ne 0 22 (by decide), up_ne 0 23 (by decide), up_ne 0 24 (by decide), up_ne 0 25 (by decide), up_ne 0 26 (by decide), up_ne 0 27 (by decide), up_ne 0 28 (by decide), up_ne 0 29 (by decide), up_ne 0 30 (by decide), up_ne 0 31 (by decide), up_ne 0 32 (by decide), up_ne 0 33 (by decide), up_ne 0 34 (by decide), up_ne 0 35 (by decide), up_ne 0 36 (by decide), up_ne 0 37 (by decide), up_ne 0 38 (by decide), up_ne 0 39 (by decide), up_ne 0 40 (by decide), up_ne 0 41 (by decide), up_ne 0 42 (by decide), up_ne 0 43 (by decide), up_ne 0 44 (by decide), up_ne 0 45 (by decide), up_ne 0 46 (by decide), up_ne 0 47 (by decide)]
          refine ⟨fun L a w2 hn hI => ?_, ?_⟩
          · obtain ⟨q, v', rfl, hI⟩ := hI
            have hup := getD_up hn.2.1
            refine st_val (v := .pointer (some ⟨p, 0, none⟩)) (W1 := w2) rfl (by unfold mdAct; simp only [gx_true]; go_simp) ?_
            refine ⟨q, v', ?_, hI.congr (up_ne _ _ (by decide)) (up_ne _ _ (by decide)) (up_ne _ _ (by decide))⟩
            unfold mdAct
            simp only [Act.put, List.setIfInBounds_toArray, List.set_cons_zero, List.set_cons_succ, hup, gx_true, up_ne 1 0 (by decide), up_ne 1 2 (by decide), up_ne 1 3 (by decide), up_ne 1 4 (by decide), up_ne 1 5 (by decide), up_ne 1 6 (by decide), up_ne 1 7 (by decide), up_ne 1 8 (by decide), up_ne 1 9 (by decide), up_ne 1 10 (by decide), up_ne 1 11 (by decide), up_ne 1 12 (by decide), up_ne 1 13 (by decide), up_ne 1 14 (by decide), up_ne 1 15 (by decide), up_ne 1 16 (by decide), up_ne 1 17 (by decide), up_ne 1 18 (by decide), up_ne 1 19 (by decide), up_ne 1 20 (by decide), up_ne 1 21 (by decide), up_ne 1 22 (by decide), up_ne 1 23 (by decide), up_ne 1 24 (by decide), up_ne 1 25 (by decide), up_ne 1 26 (by decide), up_ne 1 27 (by decide), up_ne 1 28 (by decide), up_ne 1 29 (by decide), up_ne 1 30 (by decide), up_ne 1 31 (by decide), up_ne 1 32 (by decide), up_ne 1 33 (by decide), up_ne 1 34 (by decide), up_ne 1 35 (by decide), up_ne 1 36 (by decide), up_ne 1 37 (by decide), up_ne 1 38 (by decide), up_ne 1 39 (by decide), up_ne 1 40 (by decide), up_ne 1 41 (by decide), up_ne 1 42 (by decide), up_ne 1 43 (by decide), up_ne 1 44 (by decide), up_ne 1 45 (by decide), up_ne 1 46 (by decide), up_ne 1 47 (by decide)]
          refine ⟨fun L a w2 hn hI => ?_, ?_⟩
          · obtain ⟨q, v', rfl, hI⟩ := hI
            have hup := getD_up hn.2.1
            have f47 := not_upA hn.2.2.2 (i := 47) (k := 2) (by decide +kernel) hn.2.1
            refine st_val (v := .slice (some ⟨g, 0, none⟩) all.length sc) (W1 := w2) rfl (by unfold mdAct; simp only [gx_true, f47, gx_false]; go_simp) ?_
            refine ⟨q, v', ?_, hI.congr (up_ne _ _ (by decide)) (up_ne _ _ (by decide)) (up_ne _ _ (by decide))⟩
            unfold mdAct
            simp only [Act.put, List.setIfInBounds_toArray, List.set_cons_zero, List.set_cons_succ, hup, gx_true, up_ne 2 0 (by decide), up_ne 2 1 (by decide), up_ne 2 3 (by decide), up_ne 2 4 (by decide), up_ne 2 5 (by decide), up_ne 2 6 (by decide), up_ne 2 7 (by decide), up_ne 2 8 (by decide), up_ne 2 9 (by decide), up_ne 2 10 (by decide), up_ne 2 11 (by decide), up_ne 2 12 (by decide), up_ne 2 13 (by decide), up_ne 2 14 (by decide), up_ne 2 15 (by decide), up_ne 2 16 (by decide), up_ne 2 17 (by decide), up_ne 2 18 (by decide), up_ne 2 19 (by decide), up_ne 2 20 (by decide), up_ne 2 21 (by decide), up_ne 2 22 (by decide), up_ne 2 23 (by decide), up_ne 2 24 (by decide), up_ne 2 25 (by decide), up_ne 2 26 (by decide), up_ne 2 27 (by decide), up_ne 2 28 (by decide), up_ne 2 29 (by decide), up_ne 2 30 (by decide), up_ne 2 31 (by decide), up_ne 2 32 (by decide), up_ne 2 33 (by decide), up_ne 2 34 (by decide), up_ne 2 35 (by decide), up_ne 2 36 (by decide), up_ne 2 37 (by decide), up_ne 2 38 (by decide), up_ne 2 39 (by decide), up_ne 2 40 (by decide), up_ne 2 41 (by decide), up_ne 2 42 (by decide), up_ne 2 43 (by decide), up_ne 2 44 (by decide), up_ne 2 45 (by decide), up_ne 2 46 (by decide), up_ne 2 47 (by decide)]
          refine ⟨fun L a w2 hn hI => ?_, ?_⟩
          · obtain ⟨q, v', rfl, hI⟩ := hI
            have hup := getD_up hn.2.1
            refine st_val (v := .int .i64 (all.length : Nat)) (W1 := w2) rfl (by unfold mdAct; simp only [gx_true]; go_simp) ?_
            refine ⟨q, v', ?_, hI.congr (up_ne _ _ (by decide)) (up_ne _ _ (by decide)) (up_ne _ _ (by decide))⟩
            unfold mdAct
            simp only [Act.put, List.setIfInBounds_toArray, List.set_cons_zero, List.set_cons_succ, hup, gx_true, up_ne 3 0 (by decide), up_ne 3 1 (by decide), up_ne 3 2 (by decide), up_ne 3 4 (by decide), up_ne 3 5 (by decide), up_ne 3 6 (by decide), up_ne 3 7 (by decide), up_ne 3 8 (by decide), up_ne 3 9 (by decide), up_ne 3 10 (by decide), up_ne 3 11 (by decide), up_ne 3 12 (by decide), up_ne 3 13 (by decide), up_ne 3 14 (by decide), up_ne 3 15 (by decide), up_ne 3 16 (by decide), up_ne 3 17 (by decide), up_ne 3 18 (by decide), up_ne 3 19 (by decide), up_ne 3 20 (by decide), up_ne 3 21 (by decide), up_ne 3 22 (by decide), up_ne 3 23 (by decide), up_ne 3 24 (by decide), up_ne 3 25 (by decide), up_ne 3 26 (by decide), up_ne 3 27 (by decide), up_ne 3 28 (by decide), up_ne 3 29 (by decide), up_ne 3 30 (by decide), up_ne 3 31 (by decide), up_ne 3 32 (by decide), up_ne 3 33 (by decide), up_ne 3 34 (by decide), up_ne 3 35 (by decide), up_ne 3 36 (by decide), up_ne 3 37 (by decide), up_ne 3 38 (by decide), up_ne 3 39 (by decide), up_ne 3 40 (by decide), up_ne 3 41 (by decide), up_ne 3 42 (by decide), up_ne 3 43 (by decide), up_ne 3 44 (by decide), up_ne 3 45 (by decide), up_ne 3 46 (by decide), up_ne 3 47 (by decide)]
          refine ⟨fun L a w2 hn hI => ?_, ?_⟩
          · obtain ⟨q, v', rfl, hI⟩ := hI
            have hup := getD_up hn.2.1
            have d3 : L.getD 3 false = true := hn.2.2.1 3 (by decide +kernel)
            refine st_val (v := .int .i64 (m : Nat)) (W1 := w2) rfl (by unfold mdAct; simp only [gx_true, d3]; go_simp) ?_
            refine ⟨q, v', ?_, hI.congr (up_ne _ _ (by decide)) (up_ne _ _ (by decide)) (up_ne _ _ (by decide))⟩
            unfold mdAct
            simp only [Act.put, List.setIfInBounds_toArray, List.set_cons_zero, List.set_cons_succ, hup, gx_true, up_ne 4 0 (by decide), up_ne 4 1 (by decide), up_ne 4 2 (by decide), up_ne 4 3 (by decide), up_ne 4 5 (by decide), up_ne 4 6 (by decide), up_ne 4 7 (by decide), up_ne 4 8 (by decide), up_ne 4 9 (by decide), up_ne 4 10 (by decide), up_ne 4 11 (by decide), up_ne 4 12 (by decide), up_ne 4 13 (by decide), up_ne 4 14 (by decide), up_ne 4 15 (by decide), up_ne 4 16 (by decide), up_ne 4 17 (by decide), up_ne 4 18 (by decide), up_ne 4 19 (by decide), up_ne 4 20 (by decide), up_ne 4 21 (by decide), up_ne 4 22 (by decide), up_ne 4 23 (by decide), up_ne 4 24 (by decide), up_ne 4 25 (by decide), up_ne 4 26 (by decide), up_ne 4 27 (by decide), up_ne 4 28 (by decide), up_ne 4 29 (by decide), up_ne 4 30 (by decide), up_ne 4 31 (by decide), up_ne 4 32 (by decide), up_ne 4 33 (by decide), up_ne 4 34 (by decide), up_ne 4 35 (by decide), up_ne 4 36 (by decide), up_ne 4 37 (by decide), up_ne 4 38 (by decide), up_ne 4 39 (by decide), up_ne 4 40 (by decide), up_ne 4 41 (by decide), up_ne 4 42 (by decide), up_ne 4 43 (by decide), up_ne 4 44 (by decide), up_ne 4 45 (by decide), up_ne 4 46 (by decide), up_ne 4 47 (by decide)]
          refine ⟨fun L a w2 hn hI => ?_, ?_⟩
          · obtain ⟨q, v', rfl, hI⟩ := hI
            have hup := getD_up hn.2.1
            refine st_val (v := .func (.func 123) #[] #[]) (W1 := w2) rfl (by unfold mdAct; simp only [gx_true]; go_simp) ?_
            refine ⟨q, v', ?_, hI.congr (up_ne _ _ (by decide)) (up_ne _ _ (by decide)) (up_ne _ _ (by decide))⟩
            unfold mdAct
            simp only [Act.put, List.setIfInBounds_toArray, List.set_cons_zero, List.set_cons_succ, hup, gx_true, up_ne 5 0 (by decide), up_ne 5 1 (by decide), up_ne 5 2 (by decide), up_ne 5 3 (by decide), up_ne 5 4 (by decide), up_ne 5 6 (by decide), up_ne 5 7 (by decide), up_ne 5 8 (by decide), up_ne 5 9 (by decide), up_ne 5 10 (by decide), up_ne 5 11 (by decide), up_ne 5 12 (by decide), up_ne 5 13 (by decide), up_ne 5 14 (by decide), up_ne 5 15 (by decide), up_ne 5 16 (by decide), up_ne 5 17 (by decide), up_ne 5 18 (by decide), up_ne 5 19 (by decide), up_ne 5 20 (by decide), up_ne 5 21 (by decide), up_ne 5 22 (by decide), up_ne 5 23 (by decide), up_ne 5 24 (by decide), up_ne 5 25 (by decide), up_ne 5 26 (by decide), up_ne 5 27 (by decide), up_ne 5 28 (by decide), up_ne 5 29 (by decide), up_ne 5 30 (by decide), up_ne 5 31 (by decide), up_ne 5 32 (by decide), up_ne 5 33 (by decide), up_ne 5 34 (by decide), up_ne 5 35 (by decide), up_ne 5 36 (by decide), up_ne 5 37 (by decide), up_ne 5 38 (by decide), up_ne 5 39 (by decide), up_ne 5 40 (by decide), up_ne 5 41 (by decide), up_ne 5 42 (by decide), up_ne 5 43 (by decide), up_ne 5 44 (by decide), up_ne 5 45 (by decide), up_ne 5 46 (by decide), up_ne 5 47 (by decide)]
          refine ⟨fun L a w2 hn hI => ?_, ?_⟩
          · obtain ⟨q, v', rfl, hI⟩ := hI
            have hup := getD_up hn.2.1
            refine st_val (v := .slice (some ⟨lb, lo, none⟩) l.length lc) (W1 := w2) rfl (by unfold mdAct; simp only [gx_true]; go_simp) ?_
            refine ⟨q, v', ?_, hI.congr (up_ne _ _ (by decide)) (up_ne _ _ (by decide)) (up_ne _ _ (by decide))⟩
            unfold mdAct
            simp only [Act.put, List.setIfInBounds_toArray, List.set_cons_zero, List.set_cons_succ, hup, gx_true, up_ne 6 0 (by decide), up_ne 6 1 (by decide), up_ne 6 2 (by decide), up_ne 6 3 (by decide), up_ne 6 4 (by decide), up_ne 6 5 (by decide), up_ne 6 7 (by decide), up_ne 6 8 (by decide), up_ne 6 9 (by decide), up_ne 6 10 (by decide), up_ne 6 11 (by decide), up_ne 6 12 (by decide), up_ne 6 13 (by decide), up_ne 6 14 (by decide), up_ne 6 15 (by decide), up_ne 6 16 (by decide), up_ne 6 17 (by decide), up_ne 6 18 (by decide), up_ne 6 19 (by decide), up_ne 6 20 (by decide), up_ne 6 21 (by decide), up_ne 6 22 (by decide), up_ne 6 23 (by decide), up_ne 6 24 (by decide), up_ne 6 25 (by decide), up_ne 6 26 (by decide), up_ne 6 27 (by decide), up_ne 6 28 (by decide), up_ne 6 29 (by decide), up_ne 6 30 (by decide), up_ne 6 31 (by decide), up_ne 6 32 (by decide), up_ne 6 33 (by decide), up_ne 6 34 (by decide), up_ne 6 35 (by decide), up_ne 6 36 (by decide), up_ne 6 37 (by decide), up_ne 6 38 (by decide), up_ne 6 39 (by decide), up_ne 6 40 (by decide), up_ne 6 41 (by decide), up_ne 6 42 (by decide), up_ne 6 43 (by decide), up_ne 6 44 (by decide), up_ne 6 45 (by decide), up_ne 6 46 (by decide), up_ne 6 47 (by decide)]
          refine ⟨fun L a w2 hn hI => ?_, ?_⟩
          · obtain ⟨q, v', rfl, hI⟩ := hI
            have hup := getD_up hn.2.1
            refine st_val (v := .int .i64 (i : Nat)) (W1 := w2) rfl (by unfold mdAct; simp only [gx_true]; go_simp) ?_
            refine ⟨q, v', ?_, hI.congr (up_ne _ _ (by decide)) (up_ne _ _ (by decide)) (up_ne _ _ (by decide))⟩
            unfold mdAct
            simp only [Act.put, List.setIfInBounds_toArray, List.set_cons_zero, List.set_cons_succ, hup, gx_true, up_ne 7 0 (by decide), up_ne 7 1 (by decide), up_ne 7 2 (by decide), up_ne 7 3 (by decide), up_ne 7 4 (by decide), up_ne 7 5 (by decide), up_ne 7 6 (by decide), up_ne 7 8 (by decide), up_ne 7 9 (by decide), up_ne 7 10 (by decide), up_ne 7 11 (by decide), up_ne 7 12 (by decide), up_ne 7 13 (by decide), up_ne 7 14 (by decide), up_ne 7 15 (by decide), up_ne 7 16 (by decide), up_ne 7 17 (by decide), up_ne 7 18 (by decide), up_ne 7 19 (by decide), up_ne 7 20 (by decide), up_ne 7 21 (by decide), up_ne 7 22 (by decide), up_ne 7 23 (by decide), up_ne 7 24 (by decide), up_ne 7 25 (by decide), up_ne 7 26 (by decide), up_ne 7 27 (by decide), up_ne 7 28 (by decide), up_ne 7 29 (by decide), up_ne 7 30 (by decide), up_ne 7 31 (by decide), up_ne 7 32 (by decide), up_ne 7 33 (by decide), up_ne 7 34 (by decide), up_ne 7 35 (by decide), up_ne 7 36 (by decide), up_ne 7 37 (by decide), up_ne 7 38 (by decide), up_ne 7 39 (by decide), up_ne 7 40 (by decide), up_ne 7 41 (by decide), up_ne 7 42 (by decide), up_ne 7 43 (by decide), up_ne 7 44 (by decide), up_ne 7 45 (by decide), up_ne 7 46 (by decide), up_ne 7 47 (by decide)]
          refine ⟨fun L a w2 hn hI => ?_, ?_⟩
          · obtain ⟨q, v', rfl, hI⟩ := hI
            have hup := getD_up hn.2.1
            have d7 : L.getD 7 false = true := hn.2.2.1 7 (by decide +kernel)
            refine st_val (v := .int .i64 (i1 : Nat)) (W1 := w2) rfl (by unfold mdAct; simp only [gx_true, d7]; go_simp) ?_
            refine ⟨q, v', ?_, hI.congr (up_ne _ _ (by decide)) (up_ne _ _ (by decide)) (up_ne _ _ (by decide))⟩
            unfold mdAct
            simp only [Act.put, List.setIfInBounds_toArray, List.set_cons_zero, List.set_cons_succ, hup, gx_true, up_ne 8 0 (by decide), up_ne 8 1 (by decide), up_ne 8 2 (by decide), up_ne 8 3 (by decide), up_ne 8 4 (by decide), up_ne 8 5 (by decide), up_ne 8 6 (by decide), up_ne 8 7 (by decide), up_ne 8 9 (by decide), up_ne 8 10 (by decide), up_ne 8 11 (by decide), up_ne 8 12 (by decide), up_ne 8 13 (by decide), up_ne 8 14 (by decide), up_ne 8 15 (by decide), up_ne 8 16 (by decide), up_ne 8 17 (by decide), up_ne 8 18 (by decide), up_ne 8 19 (by decide), up_ne 8 20 (by decide), up_ne 8 21 (by decide), up_ne 8 22 (by decide), up_ne 8 23 (by decide), up_ne 8 24 (by decide), up_ne 8 25 (by decide), up_ne 8 26 (by decide), up_ne 8 27 (by decide), up_ne 8 28 (by decide), up_ne 8 29 (by decide), up_ne 8 30 (by decide), up_ne 8 31 (by decide), up_ne 8 32 (by decide), up_ne 8 33 (by decide), up_ne 8 34 (by decide), up_ne 8 35 (by decide), up_ne 8 36 (by decide), up_ne 8 37 (by decide), up_ne 8 38 (by decide), up_ne 8 39 (by decide), up_ne 8 40 (by decide), up_ne 8 41 (by decide), up_ne 8 42 (by decide), up_ne 8 43 (by decide), up_ne 8 44 (by decide), up_ne 8 45 (by decide), up_ne 8 46 (by decide), up_ne 8 47 (by decide)]
          refine ⟨fun L a w2 hn hI => ?_, ?_⟩
          · obtain ⟨q, v', rfl, hI⟩ := hI
            have hup := getD_up hn.2.1
            have d6 : L.getD 6 false = true := hn.2.2.1 6 (by decide +kernel)
            have d8 : L.getD 8 false = true := hn.2.2.1 8 (by decide +kernel)
            refine st_val (v := .pointer (some ⟨lb, lo + i1, none⟩)) (W1 := w2) rfl (by unfold mdAct; simp only [gx_true, d6, d8]; go_simp) ?_
            refine ⟨q, v', ?_, hI.congr (up_ne _ _ (by decide)) (up_ne _ _ (by decide)) (up_ne _ _ (by decide))⟩
            unfold mdAct
            simp only [Act.put, List.setIfInBounds_toArray, List.set_cons_zero, List.set_cons_succ, hup, gx_true, up_ne 9 0 (by decide), up_ne 9 1 (by decide), up_ne 9 2 (by decide), up_ne 9 3 (by decide), up_ne 9 4 (by decide), up_ne 9 5 (by decide), up_ne 9 6 (by decide), up_ne 9 7 (by decide), up_ne 9 8 (by decide), up_ne 9 10 (by decide), up_ne 9 11 (by decide), up_ne 9 12 (by decide), up_ne 9 13 (by decide), up_ne 9 14 (by decide), up_ne 9 15 (by decide), up_ne 9 16 (by decide), up_ne 9 17 (by decide), up_ne 9 18 (by decide), up_ne 9 19 (by decide), up_ne 9 20 (by decide), up_ne 9 21 (by decide), up_ne 9 22 (by decide), up_ne 9 23 (by decide), up_ne 9 24 (by decide), up_ne 9 25 (by decide), up_ne 9 26 (by decide), up_ne 9 27 (by decide), up_ne 9 28 (by decide), up_ne 9 29 (by decide), up_ne 9 30 (by decide), up_ne 9 31 (by decide), up_ne 9 32 (by decide), up_ne 9 33 (by decide), up_ne 9 34 (by decide), up_ne 9 35 (by decide), up_ne 9 36 (by decide), up_ne 9 37 (by decide), up_ne 9 38 (by decide), up_ne 9 39 (by decide), up_ne 9 40 (by decide), up_ne 9 41 (by decide), up_ne 9 42 (by decide), up_ne 9 43 (by decide), up_ne 9 44 (by decide), up_ne 9 45 (by decide), up_ne 9 46 (by decide), up_ne 9 47 (by decide)]
          refine ⟨fun L a w2 hn hI => ?_, ?_⟩
          · obtain ⟨q, v', rfl, hI⟩ := hI
            have hup := getD_up hn.2.1
            have d9 : L.getD 9 false = true := hn.2.2.1 9 (by decide +kernel)
            have f44 := not_upA hn.2.2.2 (i := 44) (k := 10) (by decide +kernel) hn.2.1
            have hB := hI.a f44
            have zlw : lb < w2.heap.size := Nat.lt_of_lt_of_le zl hB.size
            have kc := (hB.cell (p := ⟨lb, lo + i1, none⟩) zl).trans HK1.out
            refine st_val (v := .int .i64 u1) (W1 := w2) rfl (by unfold mdAct; simp only [gx_true, d9]; go_simp) ?_
            refine ⟨q, v', ?_, hI.congr (up_ne _ _ (by decide)) (up_ne _ _ (by decide)) (up_ne _ _ (by decide))⟩
            unfold mdAct
            simp only [Act.put, List.setIfInBounds_toArray, List.set_cons_zero, List.set_cons_succ, hup, gx_true, up_ne 10 0 (by decide), up_ne 10 1 (by decide), up_ne 10 2 (by decide), up_ne 10 3 (by decide), up_ne 10 4 (by decide), up_ne 10 5 (by decide), up_ne 10 6 (by decide), up_ne 10 7 (by decide), up_ne 10 8 (by decide), up_ne 10 9 (by decide), up_ne 10 11 (by decide), up_ne 10 12 (by decide), up_ne 10 13 (by decide), up_ne 10 14 (by decide), up_ne 10 15 (by decide), up_ne 10 16 (by decide), up_ne 10 17 (by decide), up_ne 10 18 (by decide), up_ne 10 19 (by decide), up_ne 10 20 (by decide), up_ne 10 21 (by decide), up_ne 10 22 (by decide), up_ne 10 23 (by decide), up_ne 10 24 (by decide), up_ne 10 25 (by decide), up_ne 10 26 (by decide), up_ne 10 27 (by decide), up_ne 10 28 (by decide), up_ne 10 29 (by decide), up_ne 10 30 (by decide), up_ne 10 31 (by decide), up_ne 10 32 (by decide), up_ne 10 33 (by decide), up_ne 10 34 (by decide), up_ne 10 35 (by decide), up_ne 10 36 (by decide), up_ne 10 37 (by decide), up_ne 10 38 (by decide), up_ne 10 39 (by decide), up_ne 10 40 (by decide), up_ne 10 41 (by decide), up_ne 10 42 (by decide), up_ne 10 43 (by decide), up_ne 10 44 (by decide), up_ne 10 45 (by decide), up_ne 10 46 (by decide), up_ne 10 47 (by decide)]
          refine ⟨fun L a w2 hn hI => ?_, ?_⟩
          · obtain ⟨q, v', rfl, hI⟩ := hI
            have hup := getD_up hn.2.1
            refine st_val (v := .int .i64 (all.length : Nat)) (W1 := w2) rfl (by unfold mdAct; simp only [gx_true]; go_simp) ?_
            refine ⟨q, v', ?_, hI.congr (up_ne _ _ (by decide)) (up_ne _ _ (by decide)) (up_ne _ _ (by decide))⟩
            unfold mdAct
            simp only [Act.put, List.setIfInBounds_toArray, List.set_cons_zero, List.set_cons_succ, hup, gx_true, up_ne 11 0 (by decide), up_ne 11 1 (by decide), up_ne 11 2 (by decide), up_ne 11 3 (by decide), up_ne 11 4 (by decide), up_ne 11 5 (by decide), up_ne 11 6 (by decide), up_ne 11 7 (by decide), up_ne 11 8 (by decide), up_ne 11 9 (by decide), up_ne 11 10 (by decide), up_ne 11 12 (by decide), up_ne 11 13 (by decide), up_ne 11 14 (by decide), up_ne 11 15 (by decide), up_ne 11 16 (by decide), up_ne 11 17 (by decide), up_ne 11 18 (by decide), up_ne 11 19 (by decide), up_ne 11 20 (by decide), up_ne 11 21 (by decide), up_ne 11 22 (by decide), up_ne 11 23 (by decide), up_ne 11 24 (by decide), up_ne 11 25 (by decide), up_ne 11 26 (by decide), up_ne 11 27 (by decide), up_ne 11 28 (by decide), up_ne 11 29 (by decide), up_ne 11 30 (by decide), up_ne 11 31 (by decide), up_ne 11 32 (by decide), up_ne 11 33 (by decide), up_ne 11 34 (by decide), up_ne 11 35 (by decide), up_ne 11 36 (by decide), up_ne 11 37 (by decide), up_ne 11 38 (by decide), up_ne 11 39 (by decide), up_ne 11 40 (by decide), up_ne 11 41 (by decide), up_ne 11 42 (by decide), up_ne 11 43 (by decide), up_ne 11 44 (by decide), up_ne 11 45 (by decide), up_ne 11 46 (by decide), up_ne 11 47 (by decide)]
          refine ⟨fun L a w2 hn hI => ?_, ?_⟩
          · obtain ⟨q, v', rfl, hI⟩ := hI
            have hup := getD_up hn.2.1
            have d5 : L.getD 5 false = true := hn.2.2.1 5 (by decide +kernel)
            have d10 : L.getD 10 false = true := hn.2.2.1 10 (by decide +kernel)
            have d11 : L.getD 11 false = true := hn.2.2.1 11 (by decide +kernel)
            have f44 := not_upA hn.2.2.2 (i := 44) (k := 12) (by decide +kernel) hn.2.1
            have f45 := not_upA hn.2.2.2 (i := 45) (k := 12) (by decide +kernel) hn.2.1
            have f46 := not_upA hn.2.2.2 (i := 46) (k := 12) (by decide +kernel) hn.2.1
            refine st_call (f := 123) (args := #[.int .i64 u1, .int .i64 (all.length : Nat)]) (W1 := w2) rfl (by unfold mdAct; simp only [gx_true, d5, d10, d11]; first | (go_simp; done) | (go_simp; exact ⟨rfl, rfl⟩) | (go_simp; with_reducible rfl)) ((A1 w2).mono ?_)
            rintro e' w3 ⟨rfl, m3, d3, rfl⟩
            refine ⟨_, rfl, q, v', ?_, hI.ext f44 ((up_ne _ _ (by decide)).trans f44) ((up_ne _ _ (by decide)).trans f45) ((up_ne _ _ (by decide)).trans f46) m3 d3⟩
            unfold mdAct
            simp only [Act.put, List.setIfInBounds_toArray, List.set_cons_zero, List.set_cons_succ, hup, gx_true, up_ne 12 0 (by decide), up_ne 12 1 (by decide), up_ne 12 2 (by decide), up_ne 12 3 (by decide), up_ne 12 4 (by decide), up_ne 12 5 (by decide), up_ne 12 6 (by decide), up_ne 12 7 (by decide), up_ne 12 8 (by decide), up_ne 12 9 (by decide), up_ne 12 10 (by decide), up_ne 12 11 (by decide), up_ne 12 13 (by decide), up_ne 12 14 (by decide), up_ne 12 15 (by decide), up_ne 12 16 (by decide), up_ne 12 17 (by decide), up_ne 12 18 (by decide), up_ne 12 19 (by decide), up_ne 12 20 (by decide), up_ne 12 21 (by decide), up_ne 12 22 (by decide), up_ne 12 23 (by decide), up_ne 12 24 (by decide), up_ne 12 25 (by decide), up_ne 12 26 (by decide), up_ne 12 27 (by decide), up_ne 12 28 (by decide), up_ne 12 29 (by decide), up_ne 12 30 (by decide), up_ne 12 31 (by decide), up_ne 12 32 (by decide), up_ne 12 33 (by decide), up_ne 12 34 (by decide), up_ne 12 35 (by decide), up_ne 12 36 (by decide), up_ne 12 37 (by decide), up_ne 12 38 (by decide), up_ne 12 39 (by decide), up_ne 12 40 (by decide), up_ne 12 41 (by decide), up_ne 12 42 (by decide), up_ne 12 43 (by decide), up_ne 12 44 (by decide), up_ne 12 45 (by decide), up_ne 12 46 (by decide), up_ne 12 47 (by decide)]
          refine ⟨fun L a w2 hn hI => ?_, ?_⟩
          · obtain ⟨q, v', rfl, hI⟩ := hI
            have hup := getD_up hn.2.1
            have d4 : L.getD 4 false = true := hn.2.2.1 4 (by decide +kernel)
            have d12 : L.getD 12 false = true := hn.2.2.1 12 (by decide +kernel)
            refine st_val (v := .int .i64 (c1 : Nat)) (W1 := w2) rfl (by unfold mdAct; simp only [gx_true, d4, d12]; go_simp) ?_
            refine ⟨q, v', ?_, hI.congr (up_ne _ _ (by decide)) (up_ne _ _ (by decide)) (up_ne _ _ (by decide))⟩
            unfold mdAct
            simp only [Act.put, List.setIfInBounds_toArray, List.set_cons_zero, List.set_cons_succ, hup, gx_true, up_ne 13 0 (by decide), up_ne 13 1 (by decide), up_ne 13 2 (by decide), up_ne 13 3 (by decide), up_ne 13 4 (by decide), up_ne 13 5 (by decide), up_ne 13 6 (by decide), up_ne 13 7 (by decide), up_ne 13 8 (by decide), up_ne 13 9 (by decide), up_ne 13 10 (by decide), up_ne 13 11 (by decide), up_ne 13 12 (by decide), up_ne 13 14 (by decide), up_ne 13 15 (by decide), up_ne 13 16 (by decide), up_ne 13 17 (by decide), up_ne 13 18 (by decide), up_ne 13 19 (by decide), up_ne 13 20 (by decide), up_ne 13 21 (by decide), up_ne 13 22 (by decide), up_ne 13 23 (by decide), up_ne 13 24 (by decide), up_ne 13 25 (by decide), up_ne 13 26 (by decide), up_ne 13 27 (by decide), up_ne 13 28 (by decide), up_ne 13 29 (by decide), up_ne 13 30 (by decide), up_ne 13 31 (by decide), up_ne 13 32 (by decide), up_ne 13 33 (by decide), up_ne 13 34 (by decide), up_ne 13 35 (by decide), up_ne 13 36 (by decide), up_ne 13 37 (by decide), up_ne 13 38 (by decide), up_ne 13 39 (by decide), up_ne 13 40 (by decide), up_ne 13 41 (by decide), up_ne 13 42 (by decide), up_ne 13 43 (by decide), up_ne 13 44 (by decide), up_ne 13 45 (by decide), up_ne 13 46 (by decide), up_ne 13 47 (by decide)]
          refine ⟨fun L a w2 hn hI => ?_, ?_⟩
          · obtain ⟨q, v', rfl, hI⟩ := hI
            have hup := getD_up hn.2.1
            have d2 : L.getD 2 false = true := hn.2.2.1 2 (by decide +kernel)
            have d13 : L.getD 13 false = true := hn.2.2.1 13 (by decide +kernel)
            refine st_val (v := .pointer (some ⟨g, c1, none⟩)) (W1 := w2) rfl (by unfold mdAct; simp only [gx_true, d2, d13]; go_simp) ?_
            refine ⟨q, v', ?_, hI.congr (up_ne _ _ (by decide)) (up_ne _ _ (by decide)) (up_ne _ _ (by decide))⟩
            unfold mdAct
            simp only [Act.put, List.setIfInBounds_toArray, List.set_cons_zero, List.set_cons_succ, hup, gx_true, up_ne 14 0 (by decide), up_ne 14 1 (by decide), up_ne 14 2 (by decide), up_ne 14 3 (by decide), up_ne 14 4 (by decide), up_ne 14 5 (by decide), up_ne 14 6 (by decide), up_ne 14 7 (by decide), up_ne 14 8 (by decide), up_ne 14 9 (by decide), up_ne 14 10 (by decide), up_ne 14 11 (by decide), up_ne 14 12 (by decide), up_ne 14 13 (by decide), up_ne 14 15 (by decide), up_ne 14 16 (by decide), up_ne 14 17 (by decide), up_ne 14 18 (by decide), up_ne 14 19 (by decide), up_ne 14 20 (by decide), up_ne 14 21 (by decide), up_ne 14 22 (by decide), up_ne 14 23 (by decide), up_ne 14 24 (by decide), up_ne 14 25 (by decide), up_ne 14 26 (by decide), up_ne 14 27 (by decide), up_ne 14 28 (by decide), up_ne 14 29 (by decide), up_ne 14 30 (by decide), up_ne 14 31 (by decide), up_ne 14 32 (by decide), up_ne 14 33 (by decide), up_ne 14 34 (by decide), up_ne 14 35 (by decide), up_ne 14 36 (by decide), up_ne 14 37 (by decide), up_ne 14 38 (by decide), up_ne 14 39 (by decide), up_ne 14 40 (by decide), up_ne 14 41 (by decide), up_ne 14 42 (by decide), up_ne 14 43 (by decide), up_ne 14 44 (by decide), up_ne 14 45 (by decide), up_ne 14 46 (by decide), up_ne 14 47 (by decide)]
          refine ⟨fun L a w2 hn hI => ?_, ?_⟩
          · obtain ⟨q, v', rfl, hI⟩ := hI
            have hup := getD_up hn.2.1
            have d14 : L.getD 14 false = true := hn.2.2.1 14 (by decide +kernel)
            have f44 := not_upA hn.2.2.2 (i := 44) (k := 15) (by decide +kernel) hn.2.1
            have hB := hI.a f44
            have zgw : g < w2.heap.size := Nat.lt_of_lt_of_le zg hB.size
            have kc := (hB.cell (p := ⟨g, c1, none⟩) zg).trans HC1.out
            refine st_val (v := .int .i64 x1) (W1 := w2) rfl (by unfold mdAct; simp only [gx_true, d14]; go_simp) ?_
            refine ⟨q, v', ?_, hI.congr (up_ne _ _ (by decide)) (up_ne _ _ (by decide)) (up_ne _ _ (by decide))⟩
            unfold mdAct
            simp only [Act.put, List.setIfInBounds_toArray, List.set_cons_zero, List.set_cons_succ, hup, gx_true, up_ne 15 0 (by decide), up_ne 15 1 (by decide), up_ne 15 2 (by decide), up_ne 15 3 (by decide), up_ne 15 4 (by decide), up_ne 15 5 (by decide), up_ne 15 6 (by decide), up_ne 15 7 (by decide), up_ne 15 8 (by decide), up_ne 15 9 (by decide), up_ne 15 10 (by decide), up_ne 15 11 (by decide), up_ne 15 12 (by decide), up_ne 15 13 (by decide), up_ne 15 14 (by decide), up_ne 15 16 (by decide), up_ne 15 17 (by decide), up_ne 15 18 (by decide), up_ne 15 19 (by decide), up_ne 15 20 (by decide), up_ne 15 21 (by decide), up_ne 15 22 (by decide), up_ne 15 23 (by decide), up_ne 15 24 (by decide), up_ne 15 25 (by decide), up_ne 15 26 (by decide), up_ne 15 27 (by decide), up_ne 15 28 (by decide), up_ne 15 29 (by decide), up_ne 15 30 (by decide), up_ne 15 31 (by decide), up_ne 15 32 (by decide), up_ne 15 33 (by decide), up_ne 15 34 (by decide), up_ne 15 35 (by decide), up_ne 15 36 (by decide), up_ne 15 37 (by decide), up_ne 15 38 (by decide), up_ne 15 39 (by decide), up_ne 15 40 (by decide), up_ne 15 41 (by decide), up_ne 15 42 (by decide), up_ne 15 43 (by decide), up_ne 15 44 (by decide), up_ne 15 45 (by decide), up_ne 15 46 (by decide), up_ne 15 47 (by decide)]
          refine ⟨fun L a w2 hn hI => ?_, ?_⟩
          · obtain ⟨q, v', rfl, hI⟩ := hI
            have hup := getD_up hn.2.1
            have f47 := not_upA hn.2.2.2 (i := 47) (k := 16) (by decide +kernel) hn.2.1
            refine st_val (v := .slice (some ⟨g, 0, none⟩) all.length sc) (W1 := w2) rfl (by unfold mdAct; simp only [gx_true, f47, gx_false]; go_simp) ?_
            refine ⟨q, v', ?_, hI.congr (up_ne _ _ (by decide)) (up_ne _ _ (by decide)) (up_ne _ _ (by decide))⟩
            unfold mdAct
            simp only [Act.put, List.setIfInBounds_toArray, List.set_cons_zero, List.set_cons_succ, hup, gx_true, up_ne 16 0 (by decide), up_ne 16 1 (by decide), up_ne 16 2 (by decide), up_ne 16 3 (by decide), up_ne 16 4 (by decide), up_ne 16 5 (by decide), up_ne 16 6 (by decide), up_ne 16 7 (by decide), up_ne 16 8 (by decide), up_ne 16 9 (by decide), up_ne 16 10 (by decide), up_ne 16 11 (by decide), up_ne 16 12 (by decide), up_ne 16 13 (by decide), up_ne 16 14 (by decide), up_ne 16 15 (by decide), up_ne 16 17 (by decide), up_ne 16 18 (by decide), up_ne 16 19 (by decide), up_ne 16 20 (by decide), up_ne 16 21 (by decide), up_ne 16 22 (by decide), up_ne 16 23 (by decide), up_ne 16 24 (by decide), up_ne 16 25 (by decide), up_ne 16 26 (by decide), up_ne 16 27 (by decide), up_ne 16 28 (by decide), up_ne 16 29 (by decide), up_ne 16 30 (by decide), up_ne 16 31 (by decide), up_ne 16 32 (by decide), up_ne 16 33 (by decide), up_ne 16 34 (by decide), up_ne 16 35 (by decide), up_ne 16 36 (by decide), up_ne 16 37 (by decide), up_ne 16 38 (by decide), up_ne 16 39 (by decide), up_ne 16 40 (by decide), up_ne 16 41 (by decide), up_ne 16 42 (by decide), up_ne 16 43 (by decide), up_ne 16 44 (by decide), up_ne 16 45 (by decide), up_ne 16 46 (by decide), up_ne 16 47 (by decide)]
          refine ⟨fun L a w2 hn hI => ?_, ?_⟩
          · obtain ⟨q, v', rfl, hI⟩ := hI
            have hup := getD_up hn.2.1
            refine st_val (v := .int .i64 (all.length : Nat)) (W1 := w2) rfl (by unfold mdAct; simp only [gx_true]; go_simp) ?_
            refine ⟨q, v', ?_, hI.congr (up_ne _ _ (by decide)) (up_ne _ _ (by decide)) (up_ne _ _ (by decide))⟩
            unfold mdAct
            simp only [Act.put, List.setIfInBounds_toArray, List.set_cons_zero, List.set_cons_succ, hup, gx_true, up_ne 17 0 (by decide), up_ne 17 1 (by decide), up_ne 17 2 (by decide), up_ne 17 3 (by decide), up_ne 17 4 (by decide), up_ne 17 5 (by decide), up_ne 17 6 (by decide), up_ne 17 7 (by decide), up_ne 17 8 (by decide), up_ne 17 9 (by decide), up_ne 17 10 (by decide), up_ne 17 11 (by decide), up_ne 17 12 (by decide), up_ne 17 13 (by decide), up_ne 17 14 (by decide), up_ne 17 15 (by decide), up_ne 17 16 (by decide), up_ne 17 18 (by decide), up_ne 17 19 (by decide), up_ne 17 20 (by decide), up_ne 17 21 (by decide), up_ne 17 22 (by decide), up_ne 17 23 (by decide), up_ne 17 24 (by decide), up_ne 17 25 (by decide), up_ne 17 26 (by decide), up_ne 17 27 (by decide), up_ne 17 28 (by decide), up_ne 17 29 (by decide), up_ne 17 30 (by decide), up_ne 17 31 (by decide), up_ne 17 32 (by decide), up_ne 17 33 (by decide), up_ne 17 34 (by decide), up_ne 17 35 (by decide), up_ne 17 36 (by decide), up_ne 17 37 (by decide), up_ne 17 38 (by decide), up_ne 17 39 (by decide), up_ne 17 40 (by decide), up_ne 17 41 (by decide), up_ne 17 42 (by decide), up_ne 17 43 (by decide), up_ne 17 44 (by decide), up_ne 17 45 (by decide), up_ne 17 46 (by decide), up_ne 17 47 (by decide)]
          refine ⟨fun L a w2 hn hI => ?_, ?_⟩
          · obtain ⟨q, v', rfl, hI⟩ := hI
            have hup := getD_up hn.2.1
            have d17 : L.getD 17 false = true := hn.2.2.1 17 (by decide +kernel)
            refine st_val (v := .int .i64 (m : Nat)) (W1 := w2) rfl (by unfold mdAct; simp only [gx_true, d17]; go_simp) ?_
            refine ⟨q, v', ?_, hI.congr (up_ne _ _ (by decide)) (up_ne _ _ (by decide)) (up_ne _ _ (by decide))⟩
            unfold mdAct
            simp only [Act.put, List.setIfInBounds_toArray, List.set_cons_zero, List.set_cons_succ, hup, gx_true, up_ne 18 0 (by decide), up_ne 18 1 (by decide), up_ne 18 2 (by decide), up_ne 18 3 (by decide), up_ne 18 4 (by decide), up_ne 18 5 (by decide), up_ne 18 6 (by decide), up_ne 18 7 (by decide), up_ne 18 8 (by decide), up_ne 18 9 (by decide), up_ne 18 10 (by decide), up_ne 18 11 (by decide), up_ne 18 12 (by decide), up_ne 18 13 (by decide), up_ne 18 14 (by decide), up_ne 18 15 (by decide), up_ne 18 16 (by decide), up_ne 18 17 (by decide), up_ne 18 19 (by decide), up_ne 18 20 (by decide), up_ne 18 21 (by decide), up_ne 18 22 (by decide), up_ne 18 23 (by decide), up_ne 18 24 (by decide), up_ne 18 25 (by decide), up_ne 18 26 (by decide), up_ne 18 27 (by decide), up_ne 18 28 (by decide), up_ne 18 29 (by decide), up_ne 18 30 (by decide), up_ne 18 31 (by decide), up_ne 18 32 (by decide), up_ne 18 33 (by decide), up_ne 18 34 (by decide), up_ne 18 35 (by decide), up_ne 18 36 (by decide), up_ne 18 37 (by decide), up_ne 18 38 (by decide), up_ne 18 39 (by decide), up_ne 18 40 (by decide), up_ne 18 41 (by decide), up_ne 18 42 (by decide), up_ne 18 43 (by decide), up_ne 18 44 (by decide), up_ne 18 45 (by decide), up_ne 18 46 (by decide), up_ne 18 47 (by decide)]
          refine ⟨fun L a w2 hn hI => ?_, ?_⟩
          · obtain ⟨q, v', rfl, hI⟩ := hI
            have hup := getD_up hn.2.1
            refine st_val (v := .func (.func 123) #[] #[]) (W1 := w2) rfl (by unfold mdAct; simp only [gx_true]; go_simp) ?_
            refine ⟨q, v', ?_, hI.congr (up_ne _ _ (by decide)) (up_ne _ _ (by decide)) (up_ne _ _ (by decide))⟩
            unfold mdAct
            simp only [Act.put, List.setIfInBounds_toArray, List.set_cons_zero, List.set_cons_succ, hup, gx_true, up_ne 19 0 (by decide), up_ne 19 1 (by decide), up_ne 19 2 (by decide), up_ne 19 3 (by decide), up_ne 19 4 (by decide), up_ne 19 5 (by decide), up_ne 19 6 (by decide), up_ne 19 7 (by decide), up_ne 19 8 (by decide), up_ne 19 9 (by decide), up_ne 19 10 (by decide), up_ne 19 11 (by decide), up_ne 19 12 (by decide), up_ne 19 13 (by decide), up_ne 19 14 (by decide), up_ne 19 15 (by decide), up_ne 19 16 (by decide), up_ne 19 17 (by decide), up_ne 19 18 (by decide), up_ne 19 20 (by decide), up_ne 19 21 (by decide), up_ne 19 22 (by decide), up_ne 19 23 (by decide), up_ne 19 24 (by decide), up_ne 19 25 (by decide), up_ne 19 26 (by decide), up_ne 19 27 (by decide), up_ne 19 28 (by decide), up_ne 19 29 (by decide), up_ne 19 30 (by decide), up_ne 19 31 (by decide), up_ne 19 32 (by decide), up_ne 19 33 (by decide), up_ne 19 34 (by decide), up_ne 19 35 (by decide), up_ne 19 36 (by decide), up_ne 19 37 (by decide), up_ne 19 38 (by decide), up_ne 19 39 (by decide), up_ne 19 40 (by decide), up_ne 19 41 (by decide), up_ne 19 42 (by decide), up_ne 19 43 (by decide), up_ne 19 44 (by decide), up_ne 19 45 (by decide), up_ne 19 46 (by decide), up_ne 19 47 (by decide)]
          refine ⟨fun L a w2 hn hI => ?_, ?_⟩
          · obtain ⟨q, v', rfl, hI⟩ := hI
            have hup := getD_up hn.2.1
            refine st_val (v := .slice (some ⟨lb, lo, none⟩) l.length lc) (W1 := w2) rfl (by unfold mdAct; simp only [gx_true]; go_simp) ?_
            refine ⟨q, v', ?_, hI.congr (up_ne _ _ (by decide)) (up_ne _ _ (by decide)) (up_ne _ _ (by decide))⟩
            unfold mdAct
            simp only [Act.put, List.setIfInBounds_toArray, List.set_cons_zero, List.set_cons_succ, hup, gx_true, up_ne 20 0 (by decide), up_ne 20 1 (by decide), up_ne 20 2 (by decide), up_ne 20 3 (by decide), up_ne 20 4 (by decide), up_ne 20 5 (by decide), up_ne 20 6 (by decide), up_ne 20 7 (by decide), up_ne 20 8 (by decide), up_ne 20 9 (by decide), up_ne 20 10 (by decide), up_ne 20 11 (by decide), up_ne 20 12 (by decide), up_ne 20 13 (by decide), up_ne 20 14 (by decide), up_ne 20 15 (by decide), up_ne 20 16 (by decide), up_ne 20 17 (by decide), up_ne 20 18 (by decide), up_ne 20 19 (by decide), up_ne 20 21 (by decide), up_ne 20 22 (by decide), up_ne 20 23 (by decide), up_ne 20 24 (by decide), up_ne 20 25 (by decide), up_ne 20 26 (by decide), up_ne 20 27 (by decide), up_ne 20 28 (by decide), up_ne 20 29 (by decide), up_ne 20 30 (by decide), up_ne 20 31 (by decide), up_ne 20 32 (by decide), up_ne 20 33 (by decide), up_ne 20 34 (by decide), up_ne 20 35 (by decide), up_ne 20 36 (by decide), up_ne 20 37 (by decide), up_ne 20 38 (by decide), up_ne 20 39 (by decide), up_ne 20 40 (by decide), up_ne 20 41 (by decide), up_ne 20 42 (by decide), up_ne 20 43 (by decide), up_ne 20 44 (by decide), up_ne 20 45 (by decide), up_ne 20 46 (by decide), up_ne 20 47 (by decide)]
          refine ⟨fun L a w2 hn hI => ?_, ?_⟩
          · obtain ⟨q, v', rfl, hI⟩ := hI
            have hup := getD_up hn.2.1
            refine st_val (v := .int .i64 (i : Nat)) (W1 := w2) rfl (by unfold mdAct; simp only [gx_true]; go_simp) ?_
            refine ⟨q, v', ?_, hI.congr (up_ne _ _ (by decide)) (up_ne _ _ (by decide)) (up_ne _ _ (by decide))⟩
            unfold mdAct
            simp only [Act.put, List.setIfInBounds_toArray, List.set_cons_zero, List.set_cons_succ, hup, gx_true, up_ne 21 0 (by decide), up_ne 21 1 (by decide), up_ne 21 2 (by decide), up_ne 21 3 (by decide), up_ne 21 4 (by decide), up_ne 21 5 (by decide), up_ne 21 6 (by decide), up_ne 21 7 (by decide), up_ne 21 8 (by decide), up_ne 21 9 (by decide), up_ne 21 10 (by decide), up_ne 21 11 (by decide), up_ne 21 12 (by decide), up_ne 21 13 (by decide), up_ne 21 14 (by decide), up_ne 21 15 (by decide), up_ne 21 16 (by decide), up_ne 21 17 (by decide), up_ne 21 18 (by decide), up_ne 21 19 (by decide), up_ne 21 20 (by decide), up_ne 21 22 (by decide), up_ne 21 23 (by decide), up_ne 21 24 (by decide), up_ne 21 25 (by decide), up_ne 21 26 (by decide), up_ne 21 27 (by decide), up_ne 21 28 (by decide), up_ne 21 29 (by decide), up_ne 21 30 (by decide), up_ne 21 31 (by decide), up_ne 21 32 (by decide), up_ne 21 33 (by decide), up_ne 21 34 (by decide), up_ne 21 35 (by decide), up_ne 21 36 (by decide), up_ne 21 37 (by decide), up_ne 21 38 (by decide), up_ne 21 39 (by decide), up_ne 21 40 (by decide), up_ne 21 41 (by decide), up_ne 21 42 (by decide), up_ne 21 43 (by decide), up_ne 21 44 (by decide), up_ne 21 45 (by decide), up_ne 21 46 (by decide), up_ne 21 47 (by decide)]
          refine ⟨fun L a w2 hn hI => ?_, ?_⟩
          · obtain ⟨q, v', rfl, hI⟩ := hI
            have hup := getD_up hn.2.1
            have d21 : L.getD 21 false = true := hn.2.2.1 21 (by decide +kernel)
            refine st_val (v := .int .i64 (i2 : Nat)) (W1 := w2) rfl (by unfold mdAct; simp only [gx_true, d21]; go_simp) ?_
            refine ⟨q, v', ?_, hI.congr (up_ne _ _ (by decide)) (up_ne _ _ (by decide)) (up_ne _ _ (by decide))⟩
            unfold mdAct
            simp only [Act.put, List.setIfInBounds_toArray, List.set_cons_zero, List.set_cons_succ, hup, gx_true, up_ne 22 0 (by decide), up_ne 22 1 (by decide), up_ne 22 2 (by decide), up_ne 22 3 (by decide), up_ne 22 4 (by decide), up_ne 22 5 (by decide), up_ne 22 6 (by decide), up_ne 22 7 (by decide), up_ne 22 8 (by decide), up_ne 22 9 (by decide), up_ne 22 10 (by decide), up_ne 22 11 (by decide), up_ne 22 12 (by decide), up_ne 22 13 (by decide), up_ne 22 14 (by decide), up_ne 22 15 (by decide), up_ne 22 16 (by decide), up_ne 22 17 (by decide), up_ne 22 18 (by decide), up_ne 22 19 (by decide), up_ne 22 20 (by decide), up_ne 22 21 (by decide), up_ne 22 23 (by decide), up_ne 22 24 (by decide), up_ne 22 25 (by decide), up_ne 22 26 (by decide), up_ne 22 27 (by decide), up_ne 22 28 (by decide), up_ne 22 29 (by decide), up_ne 22 30 (by decide), up_ne 22 31 (by decide), up_ne 22 32 (by decide), up_ne 22 33 (by decide), up_ne 22 34 (by decide), up_ne 22 35 (by decide), up_ne 22 36 (by decide), up_ne 22 37 (by decide), up_ne 22 38 (by decide), up_ne 22 39 (by decide), up_ne 22 40 (by decide), up_ne 22 41 (by decide), up_ne 22 42 (by decide), up_ne 22 43 (by decide), up_ne 22 44 (by decide), up_ne 22 45 (by decide), up_ne 22 46 (by decide), up_ne 22 47 (by decide)]
          refine ⟨fun L a w2 hn hI => ?_, ?_⟩
          · obtain ⟨q, v', rfl, hI⟩ := hI
            have hup := getD_up hn.2.1
            have d20 : L.getD 20 false = true := hn.2.2.1 20 (by decide +kernel)
            have d22 : L.getD 22 false = true := hn.2.2.1 22 (by decide +kernel)
            refine st_val (v := .pointer (some ⟨lb, lo + i2, none⟩)) (W1 := w2) rfl (by unfold mdAct; simp only [gx_true, d20, d22]; go_simp) ?_
            refine ⟨q, v', ?_, hI.congr (up_ne _ _ (by decide)) (up_ne _ _ (by decide)) (up_ne _ _ (by decide))⟩
            unfold mdAct
            simp only [Act.put, List.setIfInBounds_toArray, List.set_cons_zero, List.set_cons_succ, hup, gx_true, up_ne 23 0 (by decide), up_ne 23 1 (by decide), up_ne 23 2 (by decide), up_ne 23 3 (by decide), up_ne 23 4 (by decide), up_ne 23 5 (by decide), up_ne 23 6 (by decide), up_ne 23 7 (by decide), up_ne 23 8 (by decide), up_ne 23 9 (by decide), up_ne 23 10 (by decide), up_ne 23 11 (by decide), up_ne 23 12 (by decide), up_ne 23 13 (by decide), up_ne 23 14 (by decide), up_ne 23 15 (by decide), up_ne 23 16 (by decide), up_ne 23 17 (by decide), up_ne 23 18 (by decide), up_ne 23 19 (by decide), up_ne 23 20 (by decide), up_ne 23 21 (by decide), up_ne 23 22 (by decide), up_ne 23 24 (by decide), up_ne 23 25 (by decide), up_ne 23 26 (by decide), up_ne 23 27 (by decide), up_ne 23 28 (by decide), up_ne 23 29 (by decide), up_ne 23 30 (by decide), up_ne 23 31 (by decide), up_ne 23 32 (by decide), up_ne 23 33 (by decide), up_ne 23 34 (by decide), up_ne 23 35 (by decide), up_ne 23 36 (by decide), up_ne 23 37 (by decide), up_ne 23 38 (by decide), up_ne 23 39 (by decide), up_ne 23 40 (by decide), up_ne 23 41 (by decide), up_ne 23 42 (by decide), up_ne 23 43 (by decide), up_ne 23 44 (by decide), up_ne 23 45 (by decide), up_ne 23 46 (by decide), up_ne 23 47 (by decide)]
          refine ⟨fun L a w2 hn hI => ?_, ?_⟩
          · obtain ⟨q, v', rfl, hI⟩ := hI
            have hup := getD_up hn.2.1
            have d23 : L.getD 23 false = true := hn.2.2.1 23 (by decide +kernel)
            have f44 := not_upA hn.2.2.2 (i := 44) (k := 24) (by decide +kernel) hn.2.1
            have hB := hI.a f44
            have zlw : lb < w2.heap.size := Nat.lt_of_lt_of_le zl hB.size
            have kc := (hB.cell (p := ⟨lb, lo + i2, none⟩) zl).trans HK2.out
            refine st_val (v := .int .i64 u2) (W1 := w2) rfl (by unfold mdAct; simp only [gx_true, d23]; go_simp) ?_
            refine ⟨q, v', ?_, hI.congr (up_ne _ _ (by decide)) (up_ne _ _ (by decide)) (up_ne _ _ (by decide))⟩
            unfold mdAct
            simp only [Act.put, List.setIfInBounds_toArray, List.set_cons_zero, List.set_cons_succ, hup, gx_true, up_ne 24 0 (by decide), up_ne 24 1 (by decide), up_ne 24 2 (by decide), up_ne 24 3 (by decide), up_ne 24 4 (by decide), up_ne 24 5 (by decide), up_ne 24 6 (by decide), up_ne 24 7 (by decide), up_ne 24 8 (by decide), up_ne 24 9 (by decide), up_ne 24 10 (by decide), up_ne 24 11 (by decide), up_ne 24 12 (by decide), up_ne 24 13 (by decide), up_ne 24 14 (by decide), up_ne 24 15 (by decide), up_ne 24 16 (by decide), up_ne 24 17 (by decide), up_ne 24 18 (by decide), up_ne 24 19 (by decide), up_ne 24 20 (by decide), up_ne 24 21 (by decide), up_ne 24 22 (by decide), up_ne 24 23 (by decide), up_ne 24 25 (by decide), up_ne 24 26 (by decide), up_ne 24 27 (by decide), up_ne 24 28 (by decide), up_ne 24 29 (by decide), up_ne 24 30 (by decide), up_ne 24 31 (by decide), up_ne 24 32 (by decide), up_ne 24 33 (by decide), up_ne 24 34 (by decide), up_ne 24 35 (by decide), up_ne 24 36 (by decide), up_ne 24 37 (by decide), up_ne 24 38 (by decide), up_ne 24 39 (by decide), up_ne 24 40 (by decide), up_ne 24 41 (by decide), up_ne 24 42 (by decide), up_ne 24 43 (by decide), up_ne 24 44 (by decide), up_ne 24 45 (by decide), up_ne 24 46 (by decide), up_ne 24 47 (by decide)]
          refine ⟨fun L a w2 hn hI => ?_, ?_⟩
          · obtain ⟨q, v', rfl, hI⟩ := hI
            have hup := getD_up hn.2.1
            refine st_val (v := .int .i64 (all.length : Nat)) (W1 := w2) rfl (by unfold mdAct; simp only [gx_true]; go_simp) ?_
            refine ⟨q, v', ?_, hI.congr (up_ne _ _ (by decide)) (up_ne _ _ (by decide)) (up_ne _ _ (by decide))⟩
            unfold mdAct
            simp only [Act.put, List.setIfInBounds_toArray, List.set_cons_zero, List.set_cons_succ, hup, gx_true, up_ne 25 0 (by decide), up_ne 25 1 (by decide), up_ne 25 2 (by decide), up_ne 25 3 (by decide), up_ne 25 4 (by decide), up_ne 25 5 (by decide), up_ne 25 6 (by decide), up_ne 25 7 (by decide), up_ne 25 8 (by decide), up_ne 25 9 (by decide), up_ne 25 10 (by decide), up_ne 25 11 (by decide), up_ne 25 12 (by decide), up_ne 25 13 (by decide), up_ne 25 14 (by decide), up_ne 25 15 (by decide), up_ne 25 16 (by decide), up_ne 25 17 (by decide), up_ne 25 18 (by decide), up_ne 25 19 (by decide), up_ne 25 20 (by decide), up_ne 25 21 (by decide), up_ne 25 22 (by decide), up_ne 25 23 (by decide), up_ne 25 24 (by decide), up_ne 25 26 (by decide), up_ne 25 27 (by decide), up_ne 25 28 (by decide), up_ne 25 29 (by decide), up_ne 25 30 (by decide), up_ne 25 31 (by decide), up_ne 25 32 (by decide), up_ne 25 33 (by decide), up_ne 25 34 (by decide), up_ne 25 35 (by decide), up_ne 25 36 (by decide), up_ne 25 37 (by decide), up_ne 25 38 (by decide), up_ne 25 39 (by decide), up_ne 25 40 (by decide), up_ne 25 41 (by decide), up_ne 25 42 (by decide), up_ne 25 43 (by decide), up_ne 25 44 (by decide), up_ne 25 45 (by decide), up_ne 25 46 (by decide), up_ne 25 47 (by decide)]
          refine ⟨fun L a w2 hn hI => ?_, ?_⟩
          · obtain ⟨q, v', rfl, hI⟩ := hI
            have hup := getD_up hn.2.1
            have d19 : L.getD 19 false = true := hn.2.2.1 19 (by decide +kernel)
            have d24 : L.getD 24 false = true := hn.2.2.1 24 (by decide +kernel)
            have d25 : L.getD 25 false = true := hn.2.2.1 25 (by decide +kernel)
            have f44 := not_upA hn.2.2.2 (i := 44) (k := 26) (by decide +kernel) hn.2.1
            have f45 := not_upA hn.2.2.2 (i := 45) (k := 26) (by decide +kernel) hn.2.1
            have f46 := not_upA hn.2.2.2 (i := 46) (k := 26) (by decide +kernel) hn.2.1
            refine st_call (f := 123) (args := #[.int .i64 u2, .int .i64 (all.length : Nat)]) (W1 := w2) rfl (by unfold mdAct; simp only [gx_true, d19, d24, d25]; first | (go_simp; done) | (go_simp; exact ⟨rfl, rfl⟩) | (go_simp; with_reducible rfl)) ((A2 w2).mono ?_)
            rintro e' w3 ⟨rfl, m3, d3, rfl⟩
            refine ⟨_, rfl, q, v', ?_, hI.ext f44 ((up_ne _ _ (by decide)).trans f44) ((up_ne _ _ (by decide)).trans f45) ((up_ne _ _ (by decide)).trans f46) m3 d3⟩
            unfold mdAct
            simp only [Act.put, List.setIfInBounds_toArray, List.set_cons_zero, List.set_cons_succ, hup, gx_true, up_ne 26 0 (by decide), up_ne 26 1 (by decide), up_ne 26 2 (by decide), up_ne 26 3 (by decide), up_ne 26 4 (by decide), up_ne 26 5 (by decide), up_ne 26 6 (by decide), up_ne 26 7 (by decide), up_ne 26 8 (by decide), up_ne 26 9 (by decide), up_ne 26 10 (by decide), up_ne 26 11 (by decide), up_ne 26 12 (by decide), up_ne 26 13 (by decide), up_ne 26 14 (by decide), up_ne 26 15 (by decide), up_ne 26 16 (by decide), up_ne 26 17 (by decide), up_ne 26 18 (by decide), up_ne 26 19 (by decide), up_ne 26 20 (by decide), up_ne 26 21 (by decide), up_ne 26 22 (by decide), up_ne 26 23 (by decide), up_ne 26 24 (by decide), up_ne 26 25 (by decide), up_ne 26 27 (by decide), up_ne 26 28 (by decide), up_ne 26 29 (by decide), up_ne 26 30 (by decide), up_ne 26 31 (by decide), up_ne 26 32 (by decide), up_ne 26 33 (by decide), up_ne 26 34 (by decide), up_ne 26 35 (by decide), up_ne 26 36 (by decide), up_ne 26 37 (by decide), up_ne 26 38 (by decide), up_ne 26 39 (by decide), up_ne 26 40 (by decide), up_ne 26 41 (by decide), up_ne 26 42 (by decide), up_ne 26 43 (by decide), up_ne 26 44 (by decide), up_ne 26 45 (by decide), up_ne 26 46 (by decide), up_ne 26 47 (by decide)]
          refine ⟨fun L a w2 hn hI => ?_, ?_⟩
          · obtain ⟨q, v', rfl, hI⟩ := hI
            have hup := getD_up hn.2.1
            have d18 : L.getD 18 false = true := hn.2.2.1 18 (by decide +kernel)
            have d26 : L.getD 26 false = true := hn.2.2.1 26 (by decide +kernel)
            refine st_val (v := .int .i64 (c2 : Nat)) (W1 := w2) rfl (by unfold mdAct; simp only [gx_true, d18, d26]; go_simp) ?_
            refine ⟨q, v', ?_, hI.congr (up_ne _ _ (by decide)) (up_ne _ _ (by decide)) (up_ne _ _ (by decide))⟩
            unfold mdAct
            simp only [Act.put, List.setIfInBounds_toArray, List.set_cons_zero, List.set_cons_succ, hup, gx_true, up_ne 27 0 (by decide), up_ne 27 1 (by decide), up_ne 27 2 (by decide), up_ne 27 3 (by decide), up_ne 27 4 (by decide), up_ne 27 5 (by decide), up_ne 27 6 (by decide), up_ne 27 7 (by decide), up_ne 27 8 (by decide), up_ne 27 9 (by decide), up_ne 27 10 (by decide), up_ne 27 11 (by decide), up_ne 27 12 (by decide), up_ne 27 13 (by decide), up_ne 27 14 (by decide), up_ne 27 15 (by decide), up_ne 27 16 (by decide), up_ne 27 17 (by decide), up_ne 27 18 (by decide), up_ne 27 19 (by decide), up_ne 27 20 (by decide), up_ne 27 21 (by decide), up_ne 27 22 (by decide), up_ne 27 23 (by decide), up_ne 27 24 (by decide), up_ne 27 25 (by decide), up_ne 27 26 (by decide), up_ne 27 28 (by decide), up_ne 27 29 (by decide), up_ne 27 30 (by decide), up_ne 27 31 (by decide), up_ne 27 32 (by decide), up_ne 27 33 (by decide), up_ne 27 34 (by decide), up_ne 27 35 (by decide), up_ne 27 36 (by decide), up_ne 27 37 (by decide), up_ne 27 38 (by decide), up_ne 27 39 (by decide), up_ne 27 40 (by decide), up_ne 27 41 (by decide), up_ne 27 42 (by decide), up_ne 27 43 (by decide), up_ne 27 44 (by decide), up_ne 27 45 (by decide), up_ne 27 46 (by decide), up_ne 27 47 (by decide)]
          refine ⟨fun L a w2 hn hI => ?_, ?_⟩
          · obtain ⟨q, v', rfl, hI⟩ := hI
            have hup := getD_up hn.2.1
            have d16 : L.getD 16 false = true := hn.2.2.1 16 (by decide +kernel)
            have d27 : L.getD 27 false = true := hn.2.2.1 27 (by decide +kernel)
            refine st_val (v := .pointer (some ⟨g, c2, none⟩)) (W1 := w2) rfl (by unfold mdAct; simp only [gx_true, d16, d27]; go_simp) ?_
            refine ⟨q, v', ?_, hI.congr (up_ne _ _ (by decide)) (up_ne _ _ (by decide)) (up_ne _ _ (by decide))⟩
            unfold mdAct
            simp only [Act.put, List.setIfInBounds_toArray, List.set_cons_zero, List.set_cons_succ, hup, gx_true, up_ne 28 0 (by decide), up_ne 28 1 (by decide), up_ne 28 2 (by decide), up_ne 28 3 (by decide), up_ne 28 4 (by decide), up_ne 28 5 (by decide), up_ne 28 6 (by decide), up_ne 28 7 (by decide), up_ne 28 8 (by decide), up_ne 28 9 (by decide), up_ne 28 10 (by decide), up_ne 28 11 (by decide), up_ne 28 12 (by decide), up_ne 28 13 (by decide), up_ne 28 14 (by decide), up_ne 28 15 (by decide), up_ne 28 16 (by decide), up_ne 28 17 (by decide), up_ne 28 18 (by decide), up_ne 28 19 (by decide), up_ne 28 20 (by decide), up_ne 28 21 (by decide), up_ne 28 22 (by decide), up_ne 28 23 (by decide), up_ne 28 24 (by decide), up_ne 28 25 (by decide), up_ne 28 26 (by decide), up_ne 28 27 (by decide), up_ne 28 29 (by decide), up_ne 28 30 (by decide), up_ne 28 31 (by decide), up_ne 28 32 (by decide), up_ne 28 33 (by decide), up_ne 28 34 (by decide), up_ne 28 35 (by decide), up_ne 28 36 (by decide), up_ne 28 37 (by decide), up_ne 28 38 (by decide), up_ne 28 39 (by decide), up_ne 28 40 (by decide), up_ne 28 41 (by decide), up_ne 28 42 (by decide), up_ne 28 43 (by decide), up_ne 28 44 (by decide), up_ne 28 45 (by decide), up_ne 28 46 (by decide), up_ne 28 47 (by decide)]
          refine ⟨fun L a w2 hn hI => ?_, ?_⟩
          · obtain ⟨q, v', rfl, hI⟩ := hI
            have hup := getD_up hn.2.1
            have d28 : L.getD 28 false = true := hn.2.2.1 28 (by decide +kernel)
            have f44 := not_upA hn.2.2.2 (i := 44) (k := 29) (by decide +kernel) hn.2.1
            have hB := hI.a f44
            have zgw : g < w2.heap.size := Nat.lt_of_lt_of_le zg hB.size
            have kc := (hB.cell (p := ⟨g, c2, none⟩) zg).trans HC2.out
            refine st_val (v := .int .i64 x2) (W1 := w2) rfl (by unfold mdAct; simp only [gx_true, d28]; go_simp) ?_
            refine ⟨q, v', ?_, hI.congr (up_ne _ _ (by decide)) (up_ne _ _ (by decide)) (up_ne _ _ (by decide))⟩
            unfold mdAct
            simp only [Act.put, List.setIfInBounds_toArray, List.set_cons_zero, List.set_cons_succ, hup, gx_true, up_ne 29 0 (by decide), up_ne 29 1 (by decide), up_ne 29 2 (by decide), up_ne 29 3 (by decide), up_ne 29 4 (by decide), up_ne 29 5 (by decide), up_ne 29 6 (by decide), up_ne 29 7 (by decide), up_ne 29 8 (by decide), up_ne 29 9 (by decide), up_ne 29 10 (by decide), up_ne 29 11 (by decide), up_ne 29 12 (by decide), up_ne 29 13 (by decide), up_ne 29 14 (by decide), up_ne 29 15 (by decide), up_ne 29 16 (by decide), up_ne 29 17 (by decide), up_ne 29 18 (by decide), up_ne 29 19 (by decide), up_ne 29 20 (by decide), up_ne 29 21 (by decide), up_ne 29 22 (by decide), up_ne 29 23 (by decide), up_ne 29 24 (by decide), up_ne 29 25 (by decide), up_ne 29 26 (by decide), up_ne 29 27 (by decide), up_ne 29 28 (by decide), up_ne 29 30 (by decide), up_ne 29 31 (by decide), up_ne 29 32 (by decide), up_ne 29 33 (by decide), up_ne 29 34 (by decide), up_ne 29 35 (by decide), up_ne 29 36 (by decide), up_ne 29 37 (by decide), up_ne 29 38 (by decide), up_ne 29 39 (by decide), up_ne 29 40 (by decide), up_ne 29 41 (by decide), up_ne 29 42 (by decide), up_ne 29 43 (by decide), up_ne 29 44 (by decide), up_ne 29 45 (by decide), up_ne 29 46 (by decide), up_ne 29 47 (by decide)]
          refine ⟨fun L a w2 hn hI => ?_, ?_⟩
          · obtain ⟨q, v', rfl, hI⟩ := hI
            have hup := getD_up hn.2.1
            have f47 := not_upA hn.2.2.2 (i := 47) (k := 30) (by decide +kernel) hn.2.1
            refine st_val (v := .slice (some ⟨g, 0, none⟩) all.length sc) (W1 := w2) rfl (by unfold mdAct; simp only [gx_true, f47, gx_false]; go_simp) ?_
            refine ⟨q, v', ?_, hI.congr (up_ne _ _ (by decide)) (up_ne _ _ (by decide)) (up_ne _ _ (by decide))⟩
            unfold mdAct
            simp only [Act.put, List.setIfInBounds_toArray, List.set_cons_zero, List.set_cons_succ, hup, gx_true, up_ne 30 0 (by decide), up_ne 30 1 (by decide), up_ne 30 2 (by decide), up_ne 30 3 (by decide), up_ne 30 4 (by decide), up_ne 30 5 (by decide), up_ne 30 6 (by decide), up_ne 30 7 (by decide), up_ne 30 8 (by decide), up_ne 30 9 (by decide), up_ne 30 10 (by decide), up_ne 30 11 (by decide), up_ne 30 12 (by decide), up_ne 30 13 (by decide), up_ne 30 14 (by decide), up_ne 30 15 (by decide), up_ne 30 16 (by decide), up_ne 30 17 (by decide), up_ne 30 18 (by decide), up_ne 30 19 (by decide), up_ne 30 20 (by decide), up_ne 30 21 (by decide), up_ne 30 22 (by decide), up_ne 30 23 (by decide), up_ne 30 24 (by decide), up_ne 30 25 (by decide), up_ne 30 26 (by decide), up_ne 30 27 (by decide), up_ne 30 28 (by decide), up_ne 30 29 (by decide), up_ne 30 31 (by decide), up_ne 30 32 (by decide), up_ne 30 33 (by decide), up_ne 30 34 (by decide), up_ne 30 35 (by decide), up_ne 30 36 (by decide), up_ne 30 37 (by decide), up_ne 30 38 (by decide), up_ne 30 39 (by decide), up_ne 30 40 (by decide), up_ne 30 41 (by decide), up_ne 30 42 (by decide), up_ne 30 43 (by decide), up_ne 30 44 (by decide), up_ne 30 45 (by decide), up_ne 30 46 (by decide), up_ne 30 47 (by decide)]
          refine ⟨fun L a w2 hn hI => ?_, ?_⟩
          · obtain ⟨q, v', rfl, hI⟩ := hI
            have hup := getD_up hn.2.1
            refine st_val (v := .int .i64 (all.length : Nat)) (W1 := w2) rfl (by unfold mdAct; simp only [gx_true]; go_simp) ?_
            refine ⟨q, v', ?_, hI.congr (up_ne _ _ (by decide)) (up_ne _ _ (by decide)) (up_ne _ _ (by decide))⟩
            unfold mdAct
            simp only [Act.put, List.setIfInBounds_toArray, List.set_cons_zero, List.set_cons_succ, hup, gx_true, up_ne 31 0 (by decide), up_ne 31 1 (by decide), up_ne 31 2 (by decide), up_ne 31 3 (by decide), up_ne 31 4 (by decide), up_ne 31 5 (by decide), up_ne 31 6 (by decide), up_ne 31 7 (by decide), up_ne 31 8 (by decide), up_ne 31 9 (by decide), up_ne 31 10 (by decide), up_ne 31 11 (by decide), up_ne 31 12 (by decide), up_ne 31 13 (by decide), up_ne 31 14 (by decide), up_ne 31 15 (by decide), up_ne 31 16 (by decide), up_ne 31 17 (by decide), up_ne 31 18 (by decide), up_ne 31 19 (by decide), up_ne 31 20 (by decide), up_ne 31 21 (by decide), up_ne 31 22 (by decide), up_ne 31 23 (by decide), up_ne 31 24 (by decide), up_ne 31 25 (by decide), up_ne 31 26 (by decide), up_ne 31 27 (by decide), up_ne 31 28 (by decide), up_ne 31 29 (by decide), up_ne 31 30 (by decide), up_ne 31 32 (by decide), up_ne 31 33 (by decide), up_ne 31 34 (by decide), up_ne 31 35 (by decide), up_ne 31 36 (by decide), up_ne 31 37 (by decide), up_ne 31 38 (by decide), up_ne 31 39 (by decide), up_ne 31 40 (by decide), up_ne 31 41 (by decide), up_ne 31 42 (by decide), up_ne 31 43 (by decide), up_ne 31 44 (by decide), up_ne 31 45 (by decide), up_ne 31 46 (by decide), up_ne 31 47 (by decide)]
          refine ⟨fun L a w2 hn hI => ?_, ?_⟩
          · obtain ⟨q, v', rfl, hI⟩ := hI
            have hup := getD_up hn.2.1
            have d31 : L.getD 31 false = true := hn.2.2.1 31 (by decide +kernel)
            refine st_val (v := .int .i64 (m : Nat)) (W1 := w2) rfl (by unfold mdAct; simp only [gx_true, d31]; go_simp) ?_
            refine ⟨q, v', ?_, hI.congr (up_ne _ _ (by decide)) (up_ne _ _ (by decide)) (up_ne _ _ (by decide))⟩
            unfold mdAct
            simp only [Act.put, List.setIfInBounds_toArray, List.set_cons_zero, List.set_cons_succ, hup, gx_true, up_ne 32 0 (by decide), up_ne 32 1 (by decide), up_ne 32 2 (by decide), up_ne 32 3 (by decide), up_ne 32 4 (by decide), up_ne 32 5 (by decide), up_ne 32 6 (by decide), up_ne 32 7 (by decide), up_ne 32 8 (by decide), up_ne 32 9 (by decide), up_ne 32 10 (by decide), up_ne 32 11 (by decide), up_ne 32 12 (by decide), up_ne 32 13 (by decide), up_ne 32 14 (by decide), up_ne 32 15 (by decide), up_ne 32 16 (by decide), up_ne 32 17 (by decide), up_ne 32 18 (by decide), up_ne 32 19 (by decide), up_ne 32 20 (by decide), up_ne 32 21 (by decide), up_ne 32 22 (by decide), up_ne 32 23 (by decide), up_ne 32 24 (by decide), up_ne 32 25 (by decide), up_ne 32 26 (by decide), up_ne 32 27 (by decide), up_ne 32 28 (by decide), up_ne 32 29 (by decide), up_ne 32 30 (by decide), up_ne 32 31 (by decide), up_ne 32 33 (by decide), up_ne 32 34 (by decide), up_ne 32 35 (by decide), up_ne 32 36 (by decide), up_ne 32 37 (by decide), up_ne 32 38 (by decide), up_ne 32 39 (by decide), up_ne 32 40 (by decide), up_ne 32 41 (by decide), up_ne 32 42 (by decide), up_ne 32 43 (by decide), up_ne 32 44 (by decide), up_ne 32 45 (by decide), up_ne 32 46 (by decide), up_ne 32 47 (by decide)]
          refine ⟨fun L a w2 hn hI => ?_, ?_⟩
          · obtain ⟨q, v', rfl, hI⟩ := hI
            have hup := getD_up hn.2.1
            refine st_val (v := .func (.func 123) #[] #[]) (W1 := w2) rfl (by unfold mdAct; simp only [gx_true]; go_simp) ?_
            refine ⟨q, v', ?_, hI.congr (up_ne _ _ (by decide)) (up_ne _ _ (by decide)) (up_ne _ _ (by decide))⟩
            unfold mdAct
            simp only [Act.put, List.setIfInBounds_toArray, List.set_cons_zero, List.set_cons_succ, hup, gx_true, up_ne 33 0 (by decide), up_ne 33 1 (by decide), up_ne 33 2 (by decide), up_ne 33 3 (by decide), up_ne 33 4 (by decide), up_ne 33 5 (by decide), up_ne 33 6 (by decide), up_ne 33 7 (by decide), up_ne 33 8 (by decide), up_ne 33 9 (by decide), up_ne 33 10 (by decide), up_ne 33 11 (by decide), up_ne 33 12 (by decide), up_ne 33 13 (by decide), up_ne 33 14 (by decide), up_ne 33 15 (by decide), up_ne 33 16 (by decide), up_ne 33 17 (by decide), up_ne 33 18 (by decide), up_ne 33 19 (by decide), up_ne 33 20 (by decide), up_ne 33 21 (by decide), up_ne 33 22 (by decide), up_ne 33 23 (by decide), up_ne 33 24 (by decide), up_ne 33 25 (by decide), up_ne 33 26 (by decide), up_ne 33 27 (by decide), up_ne 33 28 (by decide), up_ne 33 29 (by decide), up_ne 33 30 (by decide), up_ne 33 31 (by decide), up_ne 33 32 (by decide), up_ne 33 34 (by decide), up_ne 33 35 (by decide), up_ne 33 36 (by decide), up_ne 33 37 (by decide), up_ne 33 38 (by decide), up_ne 33 39 (by decide), up_ne 33 40 (by decide), up_ne 33 41 (by decide), up_ne 33 42 (by decide), up_ne 33 43 (by decide), up_ne 33 44 (by decide), up_ne 33 45 (by decide), up_ne 33 46 (by decide), up_ne 33 47 (by decide)]
          refine ⟨fun L a w2 hn hI => ?_, ?_⟩
          · obtain ⟨q, v', rfl, hI⟩ := hI
            have hup := getD_up hn.2.1
            refine st_val (v := .slice (some ⟨lb, lo, none⟩) l.length lc) (W1 := w2) rfl (by unfold mdAct; simp only [gx_true]; go_simp) ?_
            refine ⟨q, v', ?_, hI.congr (up_ne _ _ (by decide)) (up_ne _ _ (by decide)) (up_ne _ _ (by decide))⟩
            unfold mdAct
            simp only [Act.put, List.setIfInBounds_toArray, List.set_cons_zero, List.set_cons_succ, hup, gx_true, up_ne 34 0 (by decide), up_ne 34 1 (by decide), up_ne 34 2 (by decide), up_ne 34 3 (by decide), up_ne 34 4 (by decide), up_ne 34 5 (by decide), up_ne 34 6 (by decide), up_ne 34 7 (by decide), up_ne 34 8 (by decide), up_ne 34 9 (by decide), up_ne 34 10 (by decide), up_ne 34 11 (by decide), up_ne 34 12 (by decide), up_ne 34 13 (by decide), up_ne 34 14 (by decide), up_ne 34 15 (by decide), up_ne 34 16 (by decide), up_ne 34 17 (by decide), up_ne 34 18 (by decide), up_ne 34 19 (by decide), up_ne 34 20 (by decide), up_ne 34 21 (by decide), up_ne 34 22 (by decide), up_ne 34 23 (by decide), up_ne 34 24 (by decide), up_ne 34 25 (by decide), up_ne 34 26 (by decide), up_ne 34 27 (by decide), up_ne 34 28 (by decide), up_ne 34 29 (by decide), up_ne 34 30 (by decide), up_ne 34 31 (by decide), up_ne 34 32 (by decide), up_ne 34 33 (by decide), up_ne 34 35 (by decide), up_ne 34 36 (by decide), up_ne 34 37 (by decide), up_ne 34 38 (by decide), up_ne 34 39 (by decide), up_ne 34 40 (by decide), up_ne 34 41 (by decide), up_ne 34 42 (by decide), up_ne 34 43 (by decide), up_ne 34 44 (by decide), up_ne 34 45 (by decide), up_ne 34 46 (by decide), up_ne 34 47 (by decide)]
          refine ⟨fun L a w2 hn hI => ?_, ?_⟩
          · obtain ⟨q, v', rfl, hI⟩ := hI
            have hup := getD_up hn.2.1
            refine st_val (v := .int .i64 (i : Nat)) (W1 := w2) rfl (by unfold mdAct; simp only [gx_true]; go_simp) ?_
            refine ⟨q, v', ?_, hI.congr (up_ne _ _ (by decide)) (up_ne _ _ (by decide)) (up_ne _ _ (by decide))⟩
            unfold mdAct
            simp only [Act.put, List.setIfInBounds_toArray, List.set_cons_zero, List.set_cons_succ, hup, gx_true, up_ne 35 0 (by decide), up_ne 35 1 (by decide), up_ne 35 2 (by decide), up_ne 35 3 (by decide), up_ne 35 4 (by decide), up_ne 35 5 (by decide), up_ne 35 6 (by decide), up_ne 35 7 (by decide), up_ne 35 8 (by decide), up_ne 35 9 (by decide), up_ne 35 10 (by decide), up_ne 35 11 (by decide), up_ne 35 12 (by decide), up_ne 35 13 (by decide), up_ne 35 14 (by decide), up_ne 35 15 (by decide), up_ne 35 16 (by decide), up_ne 35 17 (by decide), up_ne 35 18 (by decide), up_ne 35 19 (by decide), up_ne 35 20 (by decide), up_ne 35 21 (by decide), up_ne 35 22 (by decide), up_ne 35 23 (by decide), up_ne 35 24 (by decide), up_ne 35 25 (by decide), up_ne 35 26 (by decide), up_ne 35 27 (by decide), up_ne 35 28 (by decide), up_ne 35 29 (by decide), up_ne 35 30 (by decide), up_ne 35 31 (by decide), up_ne 35 32 (by decide), up_ne 35 33 (by decide), up_ne 35 34 (by decide), up_ne 35 36 (by decide), up_ne 35 37 (by decide), up_ne 35 38 (by decide), up_ne 35 39 (by decide), up_ne 35 40 (by decide), up_ne 35 41 (by decide), up_ne 35 42 (by decide), up_ne 35 43 (by decide), up_ne 35 44 (by decide), up_ne 35 45 (by decide), up_ne 35 46 (by decide), up_ne 35 47 (by decide)]
          refine ⟨fun L a w2 hn hI => ?_, ?_⟩
          · obtain ⟨q, v', rfl, hI⟩ := hI
            have hup := getD_up hn.2.1
            have d35 : L.getD 35 false = true := hn.2.2.1 35 (by decide +kernel)
            refine st_val (v := .int .i64 (i3 : Nat)) (W1 := w2) rfl (by unfold mdAct; simp only [gx_true, d35]; go_simp) ?_
            refine ⟨q, v', ?_, hI.congr (up_ne _ _ (by decide)) (up_ne _ _ (by decide)) (up_ne _ _ (by decide))⟩
            unfold mdAct
            simp only [Act.put, List.setIfInBounds_toArray, List.set_cons_zero, List.set_cons_succ, hup, gx_true, up_ne 36 0 (by decide), up_ne 36 1 (by decide), up_ne 36 2 (by decide), up_ne 36 3 (by decide), up_ne 36 4 (by decide), up_ne 36 5 (by decide), up_ne 36 6 (by decide), up_ne 36 7 (by decide), up_ne 36 8 (by decide), up_ne 36 9 (by decide), up_ne 36 10 (by decide), up_ne 36 11 (by decide), up_ne 36 12 (by decide), up_ne 36 13 (by decide), up_ne 36 14 (by decide), up_ne 36 15 (by decide), up_ne 36 16 (by decide), up_ne 36 17 (by decide), up_ne 36 18 (by decide), up_ne 36 19 (by decide), up_ne 36 20 (by decide), up_ne 36 21 (by decide), up_ne 36 22 (by decide), up_ne 36 23 (by decide), up_ne 36 24 (by decide), up_ne 36 25 (by decide), up_ne 36 26 (by decide), up_ne 36 27 (by decide), up_ne 36 28 (by decide), up_ne 36 29 (by decide), up_ne 36 30 (by decide), up_ne 36 31 (by decide), up_ne 36 32 (by decide), up_ne 36 33 (by decide), up_ne 36 34 (by decide), up_ne 36 35 (by decide), up_ne 36 37 (by decide), up_ne 36 38 (by decide), up_ne 36 39 (by decide), up_ne 36 40 (by decide), up_ne 36 41 (by decide), up_ne 36 42 (by decide), up_ne 36 43 (by decide), up_ne 36 44 (by decide), up_ne 36 45 (by decide), up_ne 36 46 (by decide), up_ne 36 47 (by decide)]
          refine ⟨fun L a w2 hn hI => ?_, ?_⟩
          · obtain ⟨q, v', rfl, hI⟩ := hI
            have hup := getD_up hn.2.1
            have d34 : L.getD 34 false = true := hn.2.2.1 34 (by decide +kernel)
            have d36 : L.getD 36 false = true := hn.2.2.1 36 (by decide +kernel)
            refine st_val (v := .pointer (some ⟨lb, lo + i3, none⟩)) (W1 := w2) rfl (by unfold mdAct; simp only [gx_true, d34, d36]; go_simp) ?_
            refine ⟨q, v', ?_, hI.congr (up_ne _ _ (by decide)) (up_ne _ _ (by decide)) (up_ne _ _ (by decide))⟩
            unfold mdAct
            simp only [Act.put, List.setIfInBounds_toArray, List.set_cons_zero, List.set_cons_succ, hup, gx_true, up_ne 37 0 (by decide), up_ne 37 1 (by decide), up_ne 37 2 (by decide), up_ne 37 3 (by decide), up_ne 37 4 (by decide), up_ne 37 5 (by decide), up_ne 37 6 (by decide), up_ne 37 7 (by decide), up_ne 37 8 (by decide), up_ne 37 9 (by decide), up_ne 37 10 (by decide), up_ne 37 11 (by decide), up_ne 37 12 (by decide), up_ne 37 13 (by decide), up_ne 37 14 (by decide), up_ne 37 15 (by decide), up_ne 37 16 (by decide), up_ne 37 17 (by decide), up_ne 37 18 (by decide), up_ne 37 19 (by decide), up_ne 37 20 (by decide), up_ne 37 21 (by decide), up_ne 37 22 (by decide), up_ne 37 23 (by decide), up_ne 37 24 (by decide), up_ne 37 25 (by decide), up_ne 37 26 (by decide), up_ne 37 27 (by decide), up_ne 37 28 (by decide), up_ne 37 29 (by decide), up_ne 37 30 (by decide), up_ne 37 31 (by decide), up_ne 37 32 (by decide), up_ne 37 33 (by decide), up_ne 37 34 (by decide), up_ne 37 35 (by decide), up_ne 37 36 (by decide), up_ne 37 38 (by decide), up_ne 37 39 (by decide), up_ne 37 40 (by decide), up_ne 37 41 (by decide), up_ne 37 42 (by decide), up_ne 37 43 (by decide), up_ne 37 44 (by decide), up_ne 37 45 (by decide), up_ne 37 46 (by decide), up_ne 37 47 (by decide)]
          refine ⟨fun L a w2 hn hI => ?_, ?_⟩
          · obtain ⟨q, v', rfl, hI⟩ := hI
            have hup := getD_up hn.2.1
            have d37 : L.getD 37 false = true := hn.2.2.1 37 (by decide +kernel)
            have f44 := not_upA hn.2.2.2 (i := 44) (k := 38) (by decide +kernel) hn.2.1
            have hB := hI.a f44
            have zlw : lb < w2.heap.size := Nat.lt_of_lt_of_le zl hB.size
            have kc := (hB.cell (p := ⟨lb, lo + i3, none⟩) zl).trans HK3.out
            refine st_val (v := .int .i64 u3) (W1 := w2) rfl (by unfold mdAct; simp only [gx_true, d37]; go_simp) ?_
            refine ⟨q, v', ?_, hI.congr (up_ne _ _ (by decide)) (up_ne _ _ (by decide)) (up_ne _ _ (by decide))⟩
            unfold mdAct
            simp only [Act.put, List.setIfInBounds_toArray, List.set_cons_zero, List.set_cons_succ, hup, gx_true, up_ne 38 0 (by decide), up_ne 38 1 (by decide), up_ne 38 2 (by decide), up_ne 38 3 (by decide), up_ne 38 4 (by decide), up_ne 38 5 (by decide), up_ne 38 6 (by decide), up_ne 38 7 (by decide), up_ne 38 8 (by decide), up_ne 38 9 (by decide), up_ne 38 10 (by decide), up_ne 38 11 (by decide), up_ne 38 12 (by decide), up_ne 38 13 (by decide), up_ne 38 14 (by decide), up_ne 38 15 (by decide), up_ne 38 16 (by decide), up_ne 38 17 (by decide), up_ne 38 18 (by decide), up_ne 38 19 (by decide), up_ne 38 20 (by decide), up_ne 38 21 (by decide), up_ne 38 22 (by decide), up_ne 38 23 (by decide), up_ne 38 24 (by decide), up_ne 38 25 (by decide), up_ne 38 26 (by decide), up_ne 38 27 (by decide), up_ne 38 28 (by decide), up_ne 38 29 (by decide), up_ne 38 30 (by decide), up_ne 38 31 (by decide), up_ne 38 32 (by decide), up_ne 38 33 (by decide), up_ne 38 34 (by decide), up_ne 38 35 (by decide), up_ne 38 36 (by decide), up_ne 38 37 (by decide), up_ne 38 39 (by decide), up_ne 38 40 (by decide), up_ne 38 41 (by decide), up_ne 38 42 (by decide), up_ne 38 43 (by decide), up_ne 38 44 (by decide), up_ne 38 45 (by decide), up_ne 38 46 (by decide), up_ne 38 47 (by decide)]
          refine ⟨fun L a w2 hn hI => ?_, ?_⟩
          · obtain ⟨q, v', rfl, hI⟩ := hI
            have hup := getD_up hn.2.1
            refine st_val (v := .int .i64 (all.length : Nat)) (W1 := w2) rfl (by unfold mdAct; simp only [gx_true]; go_simp) ?_
            refine ⟨q, v', ?_, hI.congr (up_ne _ _ (by decide)) (up_ne _ _ (by decide)) (up_ne _ _ (by decide))⟩
            unfold mdAct
            simp only [Act.put, List.setIfInBounds_toArray, List.set_cons_zero, List.set_cons_succ, hup, gx_true, up_ne 39 0 (by decide), up_ne 39 1 (by decide), up_ne 39 2 (by decide), up_ne 39 3 (by decide), up_ne 39 4 (by decide), up_ne 39 5 (by decide), up_ne 39 6 (by decide), up_ne 39 7 (by decide), up_ne 39 8 (by decide), up_ne 39 9 (by decide), up_ne 39 10 (by decide), up_ne 39 11 (by decide), up_ne 39 12 (by decide), up_ne 39 13 (by decide), up_ne 39 14 (by decide), up_ne 39 15 (by decide), up_ne 39 16 (by decide), up_ne 39 17 (by decide), up_ne 39 18 (by decide), up_ne 39 19 (by decide), up_ne 39 20 (by decide), up_ne 39 21 (by decide), up_ne 39 22 (by decide), up_ne 39 23 (by decide), up_ne 39 24 (by decide), up_ne 39 25 (by decide), up_ne 39 26 (by decide), up_ne 39 27 (by decide), up_ne 39 28 (by decide), up_ne 39 29 (by decide), up_ne 39 30 (by decide), up_ne 39 31 (by decide), up_ne 39 32 (by decide), up_ne 39 33 (by decide), up_ne 39 34 (by decide), up_ne 39 35 (by decide), up_ne 39 36 (by decide), up_ne 39 37 (by decide), up_ne 39 38 (by decide), up_ne 39 40 (by decide), up_ne 39 41 (by decide), up_ne 39 42 (by decide), up_ne 39 43 (by decide), up_ne 39 44 (by decide), up_ne 39 45 (by decide), up_ne 39 46 (by decide), up_ne 39 47 (by decide)]
          refine ⟨fun L a w2 hn hI => ?_, ?_⟩
          · obtain ⟨q, v', rfl, hI⟩ := hI
            have hup := getD_up hn.2.1
            have d33 : L.getD 33 false = true := hn.2.2.1 33 (by decide +kernel)
            have d38 : L.getD 38 false = true := hn.2.2.1 38 (by decide +kernel)
            have d39 : L.getD 39 false = true := hn.2.2.1 39 (by decide +kernel)
            have f44 := not_upA hn.2.2.2 (i := 44) (k := 40) (by decide +kernel) hn.2.1
            have f45 := not_upA hn.2.2.2 (i := 45) (k := 40) (by decide +kernel) hn.2.1
            have f46 := not_upA hn.2.2.2 (i := 46) (k := 40) (by decide +kernel) hn.2.1
            refine st_call (f := 123) (args := #[.int .i64 u3, .int .i64 (all.length : Nat)]) (W1 := w2) rfl (by unfold mdAct; simp only [gx_true, d33, d38, d39]; first | (go_simp; done) | (go_simp; exact ⟨rfl, rfl⟩) | (go_simp; with_reducible rfl)) ((A3 w2).mono ?_)
            rintro e' w3 ⟨rfl, m3, d3, rfl⟩
            refine ⟨_, rfl, q, v', ?_, hI.ext f44 ((up_ne _ _ (by decide)).trans f44) ((up_ne _ _ (by decide)).trans f45) ((up_ne _ _ (by decide)).trans f46) m3 d3⟩
            unfold mdAct
            simp only [Act.put, List.setIfInBounds_toArray, List.set_cons_zero, List.set_cons_succ, hup, gx_true, up_ne 40 0 (by decide), up_ne 40 1 (by decide), up_ne 40 2 (by decide), up_ne 40 3 (by decide), up_ne 40 4 (by decide), up_ne 40 5 (by decide), up_ne 40 6 (by decide), up_ne 40 7 (by decide), up_ne 40 8 (by decide), up_ne 40 9 (by decide), up_ne 40 10 (by decide), up_ne 40 11 (by decide), up_ne 40 12 (by decide), up_ne 40 13 (by decide), up_ne 40 14 (by decide), up_ne 40 15 (by decide), up_ne 40 16 (by decide), up_ne 40 17 (by decide), up_ne 40 18 (by decide), up_ne 40 19 (by decide), up_ne 40 20 (by decide), up_ne 40 21 (by decide), up_ne 40 22 (by decide), up_ne 40 23 (by decide), up_ne 40 24 (by decide), up_ne 40 25 (by decide), up_ne 40 26 (by decide), up_ne 40 27 (by decide), up_ne 40 28 (by decide), up_ne 40 29 (by decide), up_ne 40 30 (by decide), up_ne 40 31 (by decide), up_ne 40 32 (by decide), up_ne 40 33 (by decide), up_ne 40 34 (by decide), up_ne 40 35 (by decide), up_ne 40 36 (by decide), up_ne 40 37 (by decide), up_ne 40 38 (by decide), up_ne 40 39 (by decide), up_ne 40 41 (by decide), up_ne 40 42 (by decide), up_ne 40 43 (by decide), up_ne 40 44 (by decide), up_ne 40 45 (by decide), up_ne 40 46 (by decide), up_ne 40 47 (by decide)]
          refine ⟨fun L a w2 hn hI => ?_, ?_⟩
          · obtain ⟨q, v', rfl, hI⟩ := hI
            have hup := getD_up hn.2.1
            have d32 : L.getD 32 false = true := hn.2.2.1 32 (by decide +kernel)
            have d40 : L.getD 40 false = true := hn.2.2.1 40 (by decide +kernel)
            refine st_val (v := .int .i64 (c3 : Nat)) (W1 := w2) rfl (by unfold mdAct; simp only [gx_true, d32, d40]; go_simp) ?_
            refine ⟨q, v', ?_, hI.congr (up_ne _ _ (by decide)) (up_ne _ _ (by decide)) (up_ne _ _ (by decide))⟩
            unfold mdAct
            simp only [Act.put, List.setIfInBounds_toArray, List.set_cons_zero, List.set_cons_succ, hup, gx_true, up_ne 41 0 (by decide), up_ne 41 1 (by decide), up_ne 41 2 (by decide), up_ne 41 3 (by decide), up_ne 41 4 (by decide), up_ne 41 5 (by decide), up_ne 41 6 (by decide), up_ne 41 7 (by decide), up_ne 41 8 (by decide), up_ne 41 9 (by decide), up_ne 41 10 (by decide), up_ne 41 11 (by decide), up_ne 41 12 (by decide), up_ne 41 13 (by decide), up_ne 41 14 (by decide), up_ne 41 15 (by decide), up_ne 41 16 (by decide), up_ne 41 17 (by decide), up_ne 41 18 (by decide), up_ne 41 19 (by decide), up_ne 41 20 (by decide), up_ne 41 21 (by decide), up_ne 41 22 (by decide), up_ne 41 23 (by decide), up_ne 41 24 (by decide), up_ne 41 25 (by decide), up_ne 41 26 (by decide), up_ne 41 27 (by decide), up_ne 41 28 (by decide), up_ne 41 29 (by decide), up_ne 41 30 (by decide), up_ne 41 31 (by decide), up_ne 41 32 (by decide), up_ne 41 33 (by decide), up_ne 41 34 (by decide), up_ne 41 35 (by decide), up_ne 41 36 (by decide), up_ne 41 37 (by decide), up_ne 41 38 (by decide), up_ne 41 39 (by decide), up_ne 41 40 (by decide), up_ne 41 42 (by decide), up_ne 41 43 (by decide), up_ne 41 44 (by decide), up_ne 41 45 (by decide), up_ne 41 46 (by decide), up_ne 41 47 (by decide)]
          refine ⟨fun L a w2 hn hI => ?_, ?_⟩
          · obtain ⟨q, v', rfl, hI⟩ := hI
            have hup := getD_up hn.2.1
            have d30 : L.getD 30 false = true := hn.2.2.1 30 (by decide +kernel)
            have d41 : L.getD 41 false = true := hn.2.2.1 41 (by decide +kernel)
            refine st_val (v := .pointer (some ⟨g, c3, none⟩)) (W1 := w2) rfl (by unfold mdAct; simp only [gx_true, d30, d41]; go_simp) ?_
            refine ⟨q, v', ?_, hI.congr (up_ne _ _ (by decide)) (up_ne _ _ (by decide)) (up_ne _ _ (by decide))⟩
            unfold mdAct
            simp only [Act.put, List.setIfInBounds_toArray, List.set_cons_zero, List.set_cons_succ, hup, gx_true, up_ne 42 0 (by decide), up_ne 42 1 (by decide), up_ne 42 2 (by decide), up_ne 42 3 (by decide), up_ne 42 4 (by decide), up_ne 42 5 (by decide), up_ne 42 6 (by decide), up_ne 42 7 (by decide), up_ne 42 8 (by decide), up_ne 42 9 (by decide), up_ne 42 10 (by decide), up_ne 42 11 (by decide), up_ne 42 12 (by decide), up_ne 42 13 (by decide), up_ne 42 14 (by decide), up_ne 42 15 (by decide), up_ne 42 16 (by decide), up_ne 42 17 (by decide), up_ne 42 18 (by decide), up_ne 42 19 (by decide), up_ne 42 20 (by decide), up_ne 42 21 (by decide), up_ne 42 22 (by decide), up_ne 42 23 (by decide), up_ne 42 24 (by decide), up_ne 42 25 (by decide), up_ne 42 26 (by decide), up_ne 42 27 (by decide), up_ne 42 28 (by decide), up_ne 42 29 (by decide), up_ne 42 30 (by decide), up_ne 42 31 (by decide), up_ne 42 32 (by decide), up_ne 42 33 (by decide), up_ne 42 34 (by decide), up_ne 42 35 (by decide), up_ne 42 36 (by decide), up_ne 42 37 (by decide), up_ne 42 38 (by decide), up_ne 42 39 (by decide), up_ne 42 40 (by decide), up_ne 42 41 (by decide), up_ne 42 43 (by decide), up_ne 42 44 (by decide), up_ne 42 45 (by decide), up_ne 42 46 (by decide), up_ne 42 47 (by decide)]
          refine ⟨fun L a w2 hn hI => ?_, ?_⟩
          · obtain ⟨q, v', rfl, hI⟩ := hI
            have hup := getD_up hn.2.1
            have d42 : L.getD 42 false = true := hn.2.2.1 42 (by decide +kernel)
            have f44 := not_upA hn.2.2.2 (i := 44) (k := 43) (by decide +kernel) hn.2.1
            have hB := hI.a f44
            have zgw : g < w2.heap.size := Nat.lt_of_lt_of_le zg hB.size
            have kc := (hB.cell (p := ⟨g, c3, none⟩) zg).trans HC3.out
            refine st_val (v := .int .i64 x3) (W1 := w2) rfl (by unfold mdAct; simp only [gx_true, d42]; go_simp) ?_
            refine ⟨q, v', ?_, hI.congr (up_ne _ _ (by decide)) (up_ne _ _ (by decide)) (up_ne _ _ (by decide))⟩
            unfold mdAct
            simp only [Act.put, List.setIfInBounds_toArray, List.set_cons_zero, List.set_cons_succ, hup, gx_true, up_ne 43 0 (by decide), up_ne 43 1 (by decide), up_ne 43 2 (by decide), up_ne 43 3 (by decide), up_ne 43 4 (by decide), up_ne 43 5 (by decide), up_ne 43 6 (by decide), up_ne 43 7 (by decide), up_ne 43 8 (by decide), up_ne 43 9 (by decide), up_ne 43 10 (by decide), up_ne 43 11 (by decide), up_ne 43 12 (by decide), up_ne 43 13 (by decide), up_ne 43 14 (by decide), up_ne 43 15 (by decide), up_ne 43 16 (by decide), up_ne 43 17 (by decide), up_ne 43 18 (by decide), up_ne 43 19 (by decide), up_ne 43 20 (by decide), up_ne 43 21 (by decide), up_ne 43 22 (by decide), up_ne 43 23 (by decide), up_ne 43 24 (by decide), up_ne 43 25 (by decide), up_ne 43 26 (by decide), up_ne 43 27 (by decide), up_ne 43 28 (by decide), up_ne 43 29 (by decide), up_ne 43 30 (by decide), up_ne 43 31 (by decide), up_ne 43 32 (by decide), up_ne 43 33 (by decide), up_ne 43 34 (by decide), up_ne 43 35 (by decide), up_ne 43 36 (by decide), up_ne 43 37 (by decide), up_ne 43 38 (by decide), up_ne 43 39 (by decide), up_ne 43 40 (by decide), up_ne 43 41 (by decide), up_ne 43 42 (by decide), up_ne 43 44 (by decide), up_ne 43 45 (by decide), up_ne 43 46 (by decide), up_ne 43 47 (by decide)]
          refine ⟨fun L a w2 hn hI => ?_, ?_⟩
          · obtain ⟨q, v', rfl, hI⟩ := hI
            have hup := getD_up hn.2.1
            have d1 : L.getD 1 false = true := hn.2.2.1 1 (by decide +kernel)
            have d15 : L.getD 15 false = true := hn.2.2.1 15 (by decide +kernel)
            have d29 : L.getD 29 false = true := hn.2.2.1 29 (by decide +kernel)
            have d43 : L.getD 43 false = true := hn.2.2.1 43 (by decide +kernel)
            have f44 := getD_false_of hn.2.1
            have f45 := not_upA hn.2.2.2 (i := 45) (k := 44) (by decide +kernel) hn.2.1
            have f46 := not_upA hn.2.2.2 (i := 46) (k := 44) (by decide +kernel) hn.2.1
            refine st_call (f := 25) (args := #[.pointer (some ⟨p, 0, none⟩), .int .i64 x1, .int .i64 x2, .int .i64 x3]) (W1 := w2) rfl (by unfold mdAct; simp only [gx_true, d1, d15, d29, d43]; first | (go_simp; done) | (go_simp; exact ⟨rfl, rfl⟩) | (go_simp; with_reducible rfl)) ((IC.out w2 (hI.a f44)).mono ?_)
            rintro e' w3 ⟨rfl, F2, hS2, st2⟩
            refine ⟨_, rfl, q, v', ?_, hI.ite f44 hup ((up_ne _ _ (by decide)).trans f45) ((up_ne _ _ (by decide)).trans f46) hS2 st2⟩
            unfold mdAct
            simp only [Act.put, List.setIfInBounds_toArray, List.set_cons_zero, List.set_cons_succ, hup, gx_true, up_ne 44 0 (by decide), up_ne 44 1 (by decide), up_ne 44 2 (by decide), up_ne 44 3 (by decide), up_ne 44 4 (by decide), up_ne 44 5 (by decide), up_ne 44 6 (by decide), up_ne 44 7 (by decide), up_ne 44 8 (by decide), up_ne 44 9 (by decide), up_ne 44 10 (by decide), up_ne 44 11 (by decide), up_ne 44 12 (by decide), up_ne 44 13 (by decide), up_ne 44 14 (by decide), up_ne 44 15 (by decide), up_ne 44 16 (by decide), up_ne 44 17 (by decide), up_ne 44 18 (by decide), up_ne 44 19 (by decide), up_ne 44 20 (by decide), up_ne 44 21 (by decide), up_ne 44 22 (by decide), up_ne 44 23 (by decide), up_ne 44 24 (by decide), up_ne 44 25 (by decide), up_ne 44 26 (by decide), up_ne 44 27 (by decide), up_ne 44 28 (by decide), up_ne 44 29 (by decide), up_ne 44 30 (by decide), up_ne 44 31 (by decide), up_ne 44 32 (by decide), up_ne 44 33 (by decide), up_ne 44 34 (by decide), up_ne 44 35 (by decide), up_ne 44 36 (by decide), up_ne 44 37 (by decide), up_ne 44 38 (by decide), up_ne 44 39 (by decide), up_ne 44 40 (by decide), up_ne 44 41 (by decide), up_ne 44 42 (by decide), up_ne 44 43 (by decide), up_ne 44 45 (by decide), up_ne 44 46 (by decide), up_ne 44 47 (by decide)]
          refine ⟨fun L a w2 hn hI => ?_, ?_⟩
          · obtain ⟨q, v', rfl, hI⟩ := hI
            have hup := getD_up hn.2.1
            have d44 : L.getD 44 false = true := hn.2.2.1 44 (by decide +kernel)
            have f45 := getD_false_of hn.2.1
            have f46 := not_upA hn.2.2.2 (i := 46) (k := 45) (by decide +kernel) hn.2.1
            have f47 := not_upA hn.2.2.2 (i := 47) (k := 45) (by decide +kernel) hn.2.1
            refine st_val (v := .slice (some ⟨w2.heap.size, 0, none⟩) 1 1) (W1 := w2.alloc (.cells #[.int .i64 R.2] 3)) rfl (by unfold mdAct; simp only [gx_true, d44]; go_simp) ?_
            refine ⟨w2.heap.size, v', ?_, hI.lit d44 f45 ((up_ne _ _ (by decide)).trans d44) hup ((up_ne _ _ (by decide)).trans f46)⟩
            unfold mdAct
            simp only [Act.put, List.setIfInBounds_toArray, List.set_cons_zero, List.set_cons_succ, hup, gx_true, f46, f47, gx_false, up_ne 45 0 (by decide), up_ne 45 1 (by decide), up_ne 45 2 (by decide), up_ne 45 3 (by decide), up_ne 45 4 (by decide), up_ne 45 5 (by decide), up_ne 45 6 (by decide), up_ne 45 7 (by decide), up_ne 45 8 (by decide), up_ne 45 9 (by decide), up_ne 45 10 (by decide), up_ne 45 11 (by decide), up_ne 45 12 (by decide), up_ne 45 13 (by decide), up_ne 45 14 (by decide), up_ne 45 15 (by decide), up_ne 45 16 (by decide), up_ne 45 17 (by decide), up_ne 45 18 (by decide), up_ne 45 19 (by decide), up_ne 45 20 (by decide), up_ne 45 21 (by decide), up_ne 45 22 (by decide), up_ne 45 23 (by decide), up_ne 45 24 (by decide), up_ne 45 25 (by decide), up_ne 45 26 (by decide), up_ne 45 27 (by decide), up_ne 45 28 (by decide), up_ne 45 29 (by decide), up_ne 45 30 (by decide), up_ne 45 31 (by decide), up_ne 45 32 (by decide), up_ne 45 33 (by decide), up_ne 45 34 (by decide), up_ne 45 35 (by decide), up_ne 45 36 (by decide), up_ne 45 37 (by decide), up_ne 45 38 (by decide), up_ne 45 39 (by decide), up_ne 45 40 (by decide), up_ne 45 41 (by decide), up_ne 45 42 (by decide), up_ne 45 43 (by decide), up_ne 45 44 (by decide), up_ne 45 46 (by decide), up_ne 45 47 (by decide)]
          refine ⟨fun L a w2 hn hI => ?_, ?_⟩
          · obtain ⟨q, v', rfl, hI⟩ := hI
            have hup := getD_up hn.2.1
            have d0 : L.getD 0 false = true := hn.2.2.1 0 (by decide +kernel)
            have d45 : L.getD 45 false = true := hn.2.2.1 45 (by decide +kernel)
            have f46 := getD_false_of hn.2.1
            have f47 := not_upA hn.2.2.2 (i := 47) (k := 46) (by decide +kernel) hn.2.1
            obtain ⟨v2, w3, G2, r1, r2, r3⟩ := hI.app HH.out hbr.size (by omega) d45 f46
            refine st_val (v := v2) (W1 := w3) rfl (by unfold mdAct; simp only [gx_true, d0, d45]; exact run_append_op _ _ _ _ _ _ _ _ _ r1) ?_
            refine ⟨q, v2, ?_, hI.fin hup ((up_ne _ _ (by decide)).trans (hn.2.2.1 44 (by decide +kernel))) ((up_ne _ _ (by decide)).trans d45) r2 r3⟩
            unfold mdAct
            simp only [Act.put, List.setIfInBounds_toArray, List.set_cons_zero, List.set_cons_succ, hup, gx_true, f47, gx_false, up_ne 46 0 (by decide), up_ne 46 1 (by decide), up_ne 46 2 (by decide), up_ne 46 3 (by decide), up_ne 46 4 (by decide), up_ne 46 5 (by decide), up_ne 46 6 (by decide), up_ne 46 7 (by decide), up_ne 46 8 (by decide), up_ne 46 9 (by decide), up_ne 46 10 (by decide), up_ne 46 11 (by decide), up_ne 46 12 (by decide), up_ne 46 13 (by decide), up_ne 46 14 (by decide), up_ne 46 15 (by decide), up_ne 46 16 (by decide), up_ne 46 17 (by decide), up_ne 46 18 (by decide), up_ne 46 19 (by decide), up_ne 46 20 (by decide), up_ne 46 21 (by decide), up_ne 46 22 (by decide), up_ne 46 23 (by decide), up_ne 46 24 (by decide), up_ne 46 25 (by decide), up_ne 46 26 (by decide), up_ne 46 27 (by decide), up_ne 46 28 (by decide), up_ne 46 29 (by decide), up_ne 46 30 (by decide), up_ne 46 31 (by decide), up_ne 46 32 (by decide), up_ne 46 33 (by decide), up_ne 46 34 (by decide), up_ne 46 35 (by decide), up_ne 46 36 (by decide), up_ne 46 37 (by decide), up_ne 46 38 (by decide), up_ne 46 39 (by decide), up_ne 46 40 (by decide), up_ne 46 41 (by decide), up_ne 46 42 (by decide), up_ne 46 43 (by decide), up_ne 46 44 (by decide), up_ne 46 45 (by decide), up_ne 46 47 (by decide)]
          refine ⟨fun L a w2 hn hI => ?_, ?_⟩
          · obtain ⟨q, v', rfl, hI⟩ := hI
            have hup := getD_up hn.2.1
            have d46 : L.getD 46 false = true := hn.2.2.1 46 (by decide +kernel)
            refine st_val (v := v') (W1 := w2) rfl (by unfold mdAct; simp only [gx_true, d46]; go_simp) ?_
            refine ⟨q, v', ?_, hI.congr (up_ne _ _ (by decide)) (up_ne _ _ (by decide)) (up_ne _ _ (by decide))⟩
            unfold mdAct
            simp only [Act.put, List.setIfInBounds_toArray, List.set_cons_zero, List.set_cons_succ, hup, gx_true, up_ne 47 0 (by decide), up_ne 47 1 (by decide), up_ne 47 2 (by decide), up_ne 47 3 (by decide), up_ne 47 4 (by decide), up_ne 47 5 (by decide), up_ne 47 6 (by decide), up_ne 47 7 (by decide), up_ne 47 8 (by decide), up_ne 47 9 (by decide), up_ne 47 10 (by decide), up_ne 47 11 (by decide), up_ne 47 12 (by decide), up_ne 47 13 (by decide), up_ne 47 14 (by decide), up_ne 47 15 (by decide), up_ne 47 16 (by decide), up_ne 47 17 (by decide), up_ne 47 18 (by decide), up_ne 47 19 (by decide), up_ne 47 20 (by decide), up_ne 47 21 (by decide), up_ne 47 22 (by decide), up_ne 47 23 (by decide), up_ne 47 24 (by decide), up_ne 47 25 (by decide), up_ne 47 26 (by decide), up_ne 47 27 (by decide), up_ne 47 28 (by decide), up_ne 47 29 (by decide), up_ne 47 30 (by decide), up_ne 47 31 (by decide), up_ne 47 32 (by decide), up_ne 47 33 (by decide), up_ne 47 34 (by decide), up_ne 47 35 (by decide), up_ne 47 36 (by decide), up_ne 47 37 (by decide), up_ne 47 38 (by decide), up_ne 47 39 (by decide), up_ne 47 40 (by decide), up_ne 47 41 (by decide), up_ne 47 42 (by decide), up_ne 47 43 (by decide), up_ne 47 44 (by decide), up_ne 47 45 (by decide), up_ne 47 46 (by decide)]
          trivial
          -- END GENERATED
      · have q2' : ¬ (i : Int) < 80 := by omega
        have HX := hid (show (S, all) = madeV cap l by rw [← HD.out, show 20 - j = 0 by omega, madeL_zero])
        clear Hi hi
        go_wp2_with fail
        go_returns
        refine ⟨p, F1, _, some g, rfl, ?_, hbr⟩
        rw [← HX.out]; exact HH.out
    · have q1' : ¬ (i : Int) + 3 < (l.length : Int) := by omega
      have HX := hid (show (S, all) = madeV cap l by rw [← HD.out, madeL_short _ _ _ _ (by rw [List.length_drop]; omega)])
      clear Hi hi
      go_wp2_with fail
      go_returns
      refine ⟨p, F1, _, some g, rfl, ?_, hbr⟩
      rw [← HX.out]; exact HH.out
end Go.Proofs.Ytboekafmplomhaa
