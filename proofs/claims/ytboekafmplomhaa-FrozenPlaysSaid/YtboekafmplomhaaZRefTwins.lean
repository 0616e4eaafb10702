/-
  quillonref31.Twins: the diagrams that numbers say, in the document's store.
-/
import Derived.Test.YtboekafmplomhaaZRef31
import Derived.Test.YtboekafmplomhaaZMadeD
set_option linter.unusedVariables false
set_option linter.unusedSimpArgs false
namespace Go.Proofs.Ytboekafmplomhaa
open Go.RowKit

theorem StoStep.more {w wr w2 : World} {F F1 : List Nat} (st : StoStep w wr F F1) (hk : ∀ k, k < w.heap.size → w2.heap[k]? = wr.heap[k]?) (ho : w2.os = wr.os) (ht : w2.tape = wr.tape) (hp : w2.output = wr.output) (hz : wr.heap.size ≤ w2.heap.size) : StoStep w w2 F F1 :=
  ⟨ho.trans st.os, ht.trans st.tape, hp.trans st.output, Nat.le_trans st.size hz, fun k h1 h2 => (hk k h1).trans (st.block k h1 h2), fun k h => (st.fresh k h).elim .inl (fun q => .inr ⟨q.1, Nat.lt_of_lt_of_le q.2 hz⟩)⟩
/-- One more number in a row of our own. -/
theorem row_one {w : World} {g sc : Nat} {all : List Int} (h : RowIs w (.slice (some ⟨g, 0, none⟩) all.length sc) (some g) 3 1 all.length (ints all)) (hk : all.length ≤ 1000) (x : Int) :
    ∃ (g' sc' : Nat) (w1 : World), (Builtin.append_ #[28, 28] 28 #[.slice (some ⟨g, 0, none⟩) all.length sc, .slice (some ⟨w.heap.size, 0, none⟩) 1 1]).run Try.prog (w.alloc (.cells #[.int .i64 x] 3)) = .ok (.slice (some ⟨g', 0, none⟩) (all ++ [x]).length sc') w1 ∧
      RowIs w1 (.slice (some ⟨g', 0, none⟩) (all ++ [x]).length sc') (some g') 3 1 (all ++ [x]).length (ints (all ++ [x])) ∧ (g' = g ∨ w.heap.size ≤ g') ∧ (∀ k, k < w.heap.size → k ≠ g → w1.heap[k]? = w.heap[k]?) ∧
      w1.os = w.os ∧ w1.tape = w.tape ∧ w1.output = w.output ∧ w.heap.size ≤ w1.heap.size := by
  have lit : (w.alloc (.cells #[.int .i64 x] 3)).heap[w.heap.size]? = some (.cells #[.int .i64 x] 3 (0, 0)) := World.heap_alloc_last w _
  have row : RowIs (w.alloc (.cells #[.int .i64 x] 3)) (.slice (some ⟨g, 0, none⟩) all.length sc) (some g) 3 1 all.length (ints all) := RowIs.keep h (fun g' hg => Below.heap_alloc _ _ _ (RowIs.lt h g' hg))
  obtain ⟨v', w1, G', r1, r2, r3, r4⟩ := append_row (P := Try.prog) 28 28 infoInt (.int .i64 0) 8 Try.underlying28 infoInt_is infoInt_zero infoInt_size infoInt_bytes rfl (by omega) row
    ⟨w.heap.size, 0, none⟩ 1 1 [.int .i64 x] rfl (fun j u hu => by
      rcases j with _ | j
      · simp at hu; subst hu
        show (w.alloc (.cells #[.int .i64 x] 3)).cell? ⟨w.heap.size, 0, none⟩ = _
        simp only [World.cell?]
        rw [lit]; rfl
      · simp at hu) (by simp [Value.oneCell']) (by omega) (by unfold maxLen; omega) (by omega)
  have e1 : ints (all ++ [x]) = ints all ++ [.int .i64 x] := by simp [ints]
  have e2 : (all ++ [x]).length = all.length + 1 := by simp
  rw [← e1, ← e2] at r2
  obtain ⟨a', sc', rfl, _⟩ := r2.form
  obtain ⟨rfl, -⟩ := RowIs.addr2 r2
  refine ⟨G', sc', w1, r1, r2, ?_, fun k hk hn => ?_, r3.os, r3.tape, r3.output, by have := r3.size; simp at this; omega⟩
  · rcases r4 with e | ⟨e, _⟩
    · cases e; exact .inl rfl
    · simp at e; exact .inr (by omega)
  · exact (r3.block k (by simp; omega) (fun e => hn (by cases e; rfl))).trans (Below.heap_alloc _ _ _ hk)

/-- What Twins tells. -/
def TwinsAt (w : World) (q : Nat) (F : List Nat) (X : Sto × List Int) (e : Ending) (w' : World) : Prop :=
  ∃ (F' : List Nat) (g sc : Nat), e = .returned (.slice (some ⟨g, 0, none⟩) X.2.length sc) ∧ RIs w' q F' (rOf X.1) ∧ RowIs w' (.slice (some ⟨g, 0, none⟩) X.2.length sc) (some g) 3 1 X.2.length (ints X.2) ∧ w.heap.size ≤ g ∧ g ∉ F' ∧ StoStep w w' F F'

set_option maxRecDepth 100000 in
set_option maxHeartbeats 16000000 in
theorem twins_any {w : World} {q : Nat} {F : List Nat} {S0 : Sto} (h : RIs w q F (rOf S0)) (hM0 : MadeOk S0 8 0 [0, 1]) {sv0 : Value} {l : List Int} (hl0 : Rd w 1 sv0 (ints l)) (hI : ∀ x ∈ l, -9223372036854775808 ≤ x ∧ x ≤ 9223372036854775807)
    (hLF : ∀ a n cap b off, 0 < n → sv0 = .slice a n cap → a = some ⟨b, off, none⟩ → b ∉ F) :
    Calls Try.prog 46 #[.pointer (some ⟨q, 0, none⟩), sv0] w (TwinsAt w q F (madeL 20 S0 [0, 1] l)) := by
  obtain ⟨la, lc, rfl, hlc, hlm⟩ := hl0.len
  have HL := hid hl0
  have HI := hid hI
  have HLF := hid hLF
  have HH0 := hid h
  have HM0 := hid hM0
  clear hl0 hI hLF h hM0
  go_enter Try.func46, Try.ntmps46
  go_upto_region 2 with (fail)
  refine wp_gen (fun V hV => ?_)
  have hbV : Below w.heap.size w V := by rw [hV]; (repeat' (first | (with_reducible exact Below.refl _ _) | (with_reducible refine Below.ext_mk ?_ ?_ _ _) | (with_reducible refine Below.alloc ?_ ?_ _) | (with_reducible refine Below.drew ?_) | (with_reducible refine Below.setCell ?_ ?_ _) | go_size))
  have bl : RowIs V (.slice (some ⟨w.heap.size, 0, none⟩) 2 2) (some w.heap.size) 3 1 2 (ints [0, 1]) := by
    rw [hV]
    exact ⟨rfl, .inr ⟨w.heap.size, 2, #[.int .i64 0, .int .i64 1], rfl, rfl, World.heap_alloc_last w _, Nat.le_refl _, by unfold maxLen; omega, rfl, rfl⟩⟩
  clear hV
  have BL := hid bl
  have HBV := hid hbV
  clear bl hbV
  go_wp2_with fail
  go_loopw [5, 6] (fun v iv wr => ∃ (j : Nat) (S : Sto) (all : List Int) (F1 : List Nat) (sc g : Nat), j ≤ 20 ∧ 4 * j ≤ l.length ∧ v = .slice (some ⟨g, 0, none⟩) all.length sc ∧ iv = .int .i64 (4 * j : Nat) ∧ RIs wr q F1 (rOf S) ∧ RowIs wr v (some g) 3 1 all.length (ints all) ∧ w.heap.size ≤ g ∧ g ∉ F1 ∧
      MadeOk S 8 (256 * j) all ∧ all.length = j + 2 ∧ madeL (20 - j) S all (l.drop (4 * j)) = madeL 20 S0 [0, 1] l ∧ StoStep w wr F F1) (fun _ iv _ => l.length + 4 - (intOf iv).toNat)
  case atStart => exact ⟨0, S0, [0, 1], F, 2, w.heap.size, by omega, by omega, rfl, rfl, HH0.out.below HBV.out, BL.out, Nat.le_refl _, fun hm => Nat.lt_irrefl _ (HH0.out.lt _ hm), HM0.out, rfl, rfl, StoStep.of_below HBV.out⟩
  case round =>
    obtain ⟨j, S, all, F1, sc, g, hj, hj4, rfl, rfl, hR, hrow, hg, hgF, hM, hal, hmd, hst⟩ := hrel
    have HR := hid hR
    have HROW := hid hrow
    have HM := hid hM
    have HD := hid hmd
    have HST := hid hst
    have HGF := hid hgF
    clear hR hM hmd hrow hst hgF
    obtain ⟨i, hi⟩ : ∃ i, i = 4 * j := ⟨_, rfl⟩
    rw [← hi] at HD hj4 ⊢
    have wi3 : IntKind.i64.wrap ((i : Int) + 3) = (i : Int) + 3 := IntWalk.i64_in _ (by omega)
    have Hi := hid hi
    have hal2 : all.length ≤ 22 := by omega
    have hal0 : 2 ≤ all.length := by omega
    have HAL := hid hal
    clear hal
    by_cases q1 : i + 3 < l.length
    · have q1' : (i : Int) + 3 < (l.length : Int) := by omega
      by_cases q2 : j < 20
      · have q2' : (i : Int) < 80 := by omega
        have L1 := Rd.step HL.out HST.out (fun a n c b off e1 e2 => HLF.out a n c b off (by cases e1; omega) e1 e2)
        obtain ⟨lb, lo, rfl, zl, k0⟩ := Rd.intAt L1 (i := i) (by omega)
        obtain ⟨_, _, e1', _, k1⟩ := Rd.intAt L1 (i := i + 1) (by omega)
        cases e1'
        obtain ⟨_, _, e2', _, k2⟩ := Rd.intAt L1 (i := i + 2) (by omega)
        cases e2'
        obtain ⟨_, _, e3', _, k3⟩ := Rd.intAt L1 (i := i + 3) (by omega)
        cases e3'
        have I1 := HI.out l[i + 1] (List.getElem_mem _)
        have I2 := HI.out l[i + 2] (List.getElem_mem _)
        have I3 := HI.out l[i + 3] (List.getElem_mem _)
        have I0 := HI.out l[i] (List.getElem_mem _)
        have NX := hid (madeL_next (k := 19 - j) (S := S) (all := all) (List.getElem?_eq_getElem (show i < l.length by omega)) (List.getElem?_eq_getElem (show i + 1 < l.length by omega)) (List.getElem?_eq_getElem (show i + 2 < l.length by omega)) (List.getElem?_eq_getElem (show i + 3 < l.length by omega)))
        rw [show 19 - j + 1 = 20 - j by omega] at NX
        generalize l[i] = u0 at *
        generalize l[i + 1] = u1 at *
        generalize l[i + 2] = u2 at *
        generalize l[i + 3] = u3 at *
        clear L1
        have wi1 : IntKind.i64.wrap ((i : Int) + 1) = ((i + 1 : Nat) : Int) := by rw [IntWalk.i64_in _ (by omega)]; omega
        have wi2 : IntKind.i64.wrap ((i : Int) + 2) = ((i + 2 : Nat) : Int) := by rw [IntWalk.i64_in _ (by omega)]; omega
        have wi3' : IntKind.i64.wrap ((i : Int) + 3) = ((i + 3 : Nat) : Int) := by rw [IntWalk.i64_in _ (by omega)]; omega
        have wi4 : IntKind.i64.wrap ((i : Int) + 4) = ((i + 4 : Nat) : Int) := by rw [IntWalk.i64_in _ (by omega)]; omega
        obtain ⟨i1, hi1⟩ : ∃ i1, i1 = i + 1 := ⟨_, rfl⟩
        obtain ⟨i2, hi2⟩ : ∃ i2, i2 = i + 2 := ⟨_, rfl⟩
        obtain ⟨i3, hi3⟩ : ∃ i3, i3 = i + 3 := ⟨_, rfl⟩
        obtain ⟨i4, hi4⟩ : ∃ i4, i4 = i + 4 := ⟨_, rfl⟩
        rw [← hi1] at wi1 k1
        rw [← hi2] at wi2 k2
        rw [← hi3] at k3
        rw [← hi4] at wi4
        have li1 : (i1 : Int) < (l.length : Int) := by omega
        have li2 : (i2 : Int) < (l.length : Int) := by omega
        have li3 : (i3 : Int) < (l.length : Int) := by omega
        have li0 : (i : Int) < (l.length : Int) := by omega
        have wi3'' : IntKind.i64.wrap ((i : Int) + 3) = (i3 : Int) := by rw [wi3', hi3]
        have HI4 := hid (And.intro hi4 (And.intro hi1 (And.intro hi2 hi3)))
        have tm : IntKind.i64.wrap (u0.tmod 2) = u0.tmod 2 := IntWalk.i64_in _ (by have := Int.tmod_lt_of_pos u0 (b := 2) (by omega); have := Int.lt_tmod_of_pos u0 (b := 2) (by omega); omega)
        by_cases hev : u0.tmod 2 = 0
        · have hev' : (u0.tmod 2 == 0) = true := by simpa using hev
          have ST : stepM S all u0 u1 u2 u3 = varV S (atN u1 8) := by unfold stepM; rw [if_pos hev]
          rw [ST] at NX
          have VK := stepM_ok HM.out u0 u1 u2 u3
          rw [ST] at VK
          have VC := fun m d => rVar_call (HR.out.ext m d) HM.out.wf (atN u1 8)
          unfold RSame at VC
          have HVK := hid VK
          have A1 := back_any u1 8 (by omega) (by omega) I1
          clear VK hi1 hi2 hi3 hi4 wi2 wi3' k2 k3 ST hi hev
          go_upto_region 8 with (fail)
          refine wp_region_doc (fun F' hF => ?_)
          have HF1 := hid hF
          clear hF
          iterate 6 (refine doc_val rfl (by first | (go_simp; done) | (go_simp; exact ⟨rfl, rfl⟩) | (go_simp; with_reducible rfl)) ?_; simp only [Act.put, List.setIfInBounds_toArray, List.set_cons_zero, List.set_cons_succ])
          refine doc_call rfl (by first | (go_simp; done) | (go_simp; exact ⟨rfl, rfl⟩) | (go_simp; with_reducible rfl)) ((A1 wr).mono ?_)
          rintro _ _ ⟨rfl, m1, d1, rfl⟩
          refine ⟨_, rfl, ?_⟩
          simp only [Act.put, List.setIfInBounds_toArray, List.set_cons_zero, List.set_cons_succ]
          refine doc_call rfl (by first | (go_simp; done) | (go_simp; exact ⟨rfl, rfl⟩) | (go_simp; with_reducible rfl)) ((VC m1 d1).mono ?_)
          rintro _ w2 ⟨rfl, F2, hS2, st2⟩
          refine ⟨_, rfl, ?_⟩
          simp only [Act.put, List.setIfInBounds_toArray, List.set_cons_zero, List.set_cons_succ]
          refine doc_val rfl (by first | (go_simp; done) | (go_simp; exact ⟨rfl, rfl⟩) | (go_simp; with_reducible rfl)) ?_
          simp only [Act.put, List.setIfInBounds_toArray, List.set_cons_zero, List.set_cons_succ]
          refine doc_end (HF1.out _ _ ?_)
          clear HF1 F' VC A1
          have zg := RowIs.lt HROW.out g rfl
          have st3 : StoStep wr w2 F1 F2 := (StoStep.of_below (Below.ext_mk (Below.refl _ _) (Nat.le_refl _) m1 d1)).trans st2
          have rw2 : RowIs w2 (.slice (some ⟨g, 0, none⟩) all.length sc) (some g) 3 1 all.length (ints all) := RowIs.keep HROW.out (fun g' hg' => by cases hg'; exact st3.block g zg HGF.out)
          obtain ⟨g2, sc2, w4, r1, r2, r3, r4, ro, rt, rp, rz⟩ := row_one rw2 (by omega) (varV S (atN u1 8)).2
          have hgF2 : g ∉ F2 := st3.keeps zg HGF.out
          have z2 := st3.size
          have zw := HST.out.size
          have R2 := hid r2
          have KF := hid (show RIs w4 q F2 (rOf (varV S (atN u1 8)).1) from hS2.keep (fun k hk => r4 k (hS2.lt k hk) (fun e => hgF2 (e ▸ hk))))
          have KS := hid (show StoStep w w4 F F2 from (HST.out.trans st3).more (fun k hk => r4 k (by omega) (by omega)) ro rt rp rz)
          have KG := hid (show w.heap.size ≤ g2 ∧ g2 ∉ F2 by
            rcases r3 with rfl | r3
            · exact ⟨hg, hgF2⟩
            · exact ⟨by omega, fun hm => by have := hS2.lt _ hm; omega⟩)
          have R1 := hid r1
          clear r1 r2 r3 r4 ro rt rp rz st2 st3 hS2 rw2 hgF2 z2 zw
          go_upto_region 10 with (fail)
          refine wp_region_doc (fun F' hF => ?_)
          have HF1 := hid hF
          clear hF
          iterate 3 (refine doc_val rfl (by first | (go_simp; done) | (go_simp; exact ⟨rfl, rfl⟩) | (go_simp; with_reducible rfl)) ?_; simp only [Act.put, List.setIfInBounds_toArray, List.set_cons_zero, List.set_cons_succ])
          refine doc_val rfl (run_append_op _ _ _ _ _ _ _ _ _ R1.out) ?_
          simp only [Act.put, List.setIfInBounds_toArray, List.set_cons_zero, List.set_cons_succ]
          refine doc_val rfl (by first | (go_simp; done) | (go_simp; exact ⟨rfl, rfl⟩) | (go_simp; with_reducible rfl)) ?_
          simp only [Act.put, List.setIfInBounds_toArray, List.set_cons_zero, List.set_cons_succ]
          refine doc_end (HF1.out _ _ ?_)
          clear HF1 F' R1
          go_wp2_with fail
          go_roundw
          case rel =>
            refine ⟨j + 1, (varV S (atN u1 8)).1, all ++ [(varV S (atN u1 8)).2], F2, sc2, g2, by omega, by have := HI4.out.1; have := Hi.out; omega, (by simp only [List.length_append, List.length_cons, List.length_nil, Nat.zero_add]), by have := HI4.out.1; have := Hi.out; first | (congr; done) | (congr; omega), KF.out, (by have := R2.out; simpa only [List.length_append, List.length_cons, List.length_nil, Nat.zero_add] using this), KG.out.1, KG.out.2, ?_, by have := HAL.out; simp; omega, ?_, KS.out⟩
            · have := HM.out.of HVK.out
              rw [show 256 * (j + 1) = 256 * j + 256 by omega]; exact this
            · rw [show 20 - (j + 1) = 19 - j by omega, show 4 * (j + 1) = i + 4 by have := Hi.out; omega, ← NX.out]; exact HD.out
          case measure => have := HI4.out.1; simp [intOf]; omega
        · have hev' : (u0.tmod 2 == 0) = false := by simpa using hev
          have ST : stepM S all u0 u1 u2 u3 = iteV S (backN all u1) (backN all u2) (backN all u3) := by unfold stepM; rw [if_neg hev]
          rw [ST] at NX
          have VK := stepM_ok HM.out u0 u1 u2 u3
          rw [ST] at VK
          have HVK := hid VK
          have R1 := atN_range u1 (n := all.length) (by omega)
          have R2 := atN_range u2 (n := all.length) (by omega)
          have R3 := atN_range u3 (n := all.length) (by omega)
          obtain ⟨b1, hb1⟩ : ∃ b : Nat, atN u1 all.length = (b : Int) := ⟨(atN u1 all.length).toNat, by omega⟩
          obtain ⟨b2, hb2⟩ : ∃ b : Nat, atN u2 all.length = (b : Int) := ⟨(atN u2 all.length).toNat, by omega⟩
          obtain ⟨b3, hb3⟩ : ∃ b : Nat, atN u3 all.length = (b : Int) := ⟨(atN u3 all.length).toNat, by omega⟩
          have A1 := back_any u1 all.length (by omega) (by omega) I1
          have A2 := back_any u2 all.length (by omega) (by omega) I2
          have A3 := back_any u3 all.length (by omega) (by omega) I3
          rw [hb1] at A1 R1
          rw [hb2] at A2 R2
          rw [hb3] at A3 R3
          have y1 : backN all u1 = all.getD (all.length - 1 - b1) 0 := by unfold backN; rw [hb1]; rfl
          have y2 : backN all u2 = all.getD (all.length - 1 - b2) 0 := by unfold backN; rw [hb2]; rfl
          have y3 : backN all u3 = all.getD (all.length - 1 - b3) 0 := by unfold backN; rw [hb3]; rfl
          have rowc : ∀ c, c < all.length → wr.cell? ⟨g, c, none⟩ = some (.int .i64 (all.getD c 0)) := fun c hc => by
            obtain ⟨g', cap', e1, e2, e3, _⟩ := HROW.out.at hc (j := 0) (by omega)
            cases e2
            simp only [Nat.mul_one, Nat.add_zero] at e3
            rw [e3]; simp [ints, List.getD_eq_getElem?_getD, hc]
          have zg : g < wr.heap.size := RowIs.lt HROW.out g rfl
          have z1 := rowc (all.length - 1 - b1) (by omega)
          have z2 := rowc (all.length - 1 - b2) (by omega)
          have z3 := rowc (all.length - 1 - b3) (by omega)
          rw [← y1] at z1
          rw [← y2] at z2
          rw [← y3] at z3
          obtain ⟨m, hm⟩ : ∃ m, m = all.length - 1 := ⟨_, rfl⟩
          have wm : IntKind.i64.wrap ((all.length : Int) - 1) = (m : Int) := by rw [IntWalk.i64_in _ (by omega)]; omega
          rw [← hm] at z1 z2 z3
          obtain ⟨c1, hc1⟩ : ∃ c, c = m - b1 := ⟨_, rfl⟩
          obtain ⟨c2, hc2⟩ : ∃ c, c = m - b2 := ⟨_, rfl⟩
          obtain ⟨c3, hc3⟩ : ∃ c, c = m - b3 := ⟨_, rfl⟩
          rw [← hc1] at z1
          rw [← hc2] at z2
          rw [← hc3] at z3
          have wc1 : IntKind.i64.wrap ((m : Int) - (b1 : Int)) = (c1 : Int) := by rw [IntWalk.i64_in _ (by omega)]; omega
          have wc2 : IntKind.i64.wrap ((m : Int) - (b2 : Int)) = (c2 : Int) := by rw [IntWalk.i64_in _ (by omega)]; omega
          have wc3 : IntKind.i64.wrap ((m : Int) - (b3 : Int)) = (c3 : Int) := by rw [IntWalk.i64_in _ (by omega)]; omega
          have lc1 : (c1 : Int) < (all.length : Int) := by omega
          have lc2 : (c2 : Int) < (all.length : Int) := by omega
          have lc3 : (c3 : Int) < (all.length : Int) := by omega
          have W3 : IntKind.i64.wrap ((i : Int) + 3) = (i3 : Int) := wi3''
          have IC := hid (fun W (hb : Below wr.heap.size wr W) => rIte_call (HR.out.below hb) HM.out.wf (backN all u1) (backN all u2) (backN all u3))
          unfold RSame at IC
          generalize hRR : iteV S (backN all u1) (backN all u2) (backN all u3) = R at *
          generalize backN all u1 = x1 at *
          generalize backN all u2 = x2 at *
          generalize backN all u3 = x3 at *
          have DD := hid (fun W (hb : Below wr.heap.size wr W) => (show W.cell? ⟨lb, lo + i1, none⟩ = some (.int .i64 u1) ∧ W.cell? ⟨lb, lo + i2, none⟩ = some (.int .i64 u2) ∧ W.cell? ⟨lb, lo + i3, none⟩ = some (.int .i64 u3) ∧ lb < W.heap.size ∧ W.cell? ⟨g, c1, none⟩ = some (.int .i64 x1) ∧ W.cell? ⟨g, c2, none⟩ = some (.int .i64 x2) ∧ W.cell? ⟨g, c3, none⟩ = some (.int .i64 x3) ∧ g < W.heap.size from
            ⟨(hb.cell (p := ⟨lb, lo + i1, none⟩) zl).trans k1, (hb.cell (p := ⟨lb, lo + i2, none⟩) zl).trans k2, (hb.cell (p := ⟨lb, lo + i3, none⟩) zl).trans k3, Nat.lt_of_lt_of_le zl hb.size, (hb.cell (p := ⟨g, c1, none⟩) zg).trans z1, (hb.cell (p := ⟨g, c2, none⟩) zg).trans z2, (hb.cell (p := ⟨g, c3, none⟩) zg).trans z3, Nat.lt_of_lt_of_le zg hb.size⟩))
          clear VK hi1 hi2 hi3 hi4 hi ST z1 z2 z3 hm hc1 hc2 hc3 y1 y2 y3 hev hRR rowc k1 k2 k3 R1 R2 R3 hb1 hb2 hb3 wi3 wi3' wi3''
          have EXT : ∀ (W : World) (m : Array Obj) (d : Nat), Below wr.heap.size wr W → Below wr.heap.size wr (W.ext m d) := fun W m d h => Below.ext_mk h h.size m d
          go_upto_region 9 with (fail)
          refine wp_region_stage [40] (fun i w => (i = 0 → Below wr.heap.size wr w) ∧ (i = 1 → ∃ F2, RIs w q F2 (rOf R.1) ∧ StoStep wr w F1 F2)) (by kernel_rfl) (by kernel_rfl) (by kernel_rfl) (by kernel_rfl) ⟨fun _ => Below.drew (Below.refl _ _), fun h => by omega⟩ (fun F' hF' => ?_)
          have HF := hid hF'
          clear hF'
          repeat (first
            | (apply sg_any; (focus rfl); (focus rfl); (focus (intro _; go_simp; with_reducible rfl)); simp only [Act.put, List.setIfInBounds_toArray, List.set_cons_zero, List.set_cons_succ])
            | (apply sg_read 0 0; (focus rfl); (focus (decide +kernel)); (focus (decide +kernel)); (focus rfl); (focus (intro ii w' l' u hR; obtain ⟨t1, t2, t3, t4, t5, t6, t7, t8⟩ := DD.out w' (hR.1 (by omega)); clear hR; go_simp; with_reducible rfl)); simp only [Act.put, List.setIfInBounds_toArray, List.set_cons_zero, List.set_cons_succ]))
          refine sg_call 0 0 (v := .int .i64 (b1 : Nat)) (f := 104) (args := #[.int .i64 u1, .int .i64 (all.length : Nat)]) rfl (by decide +kernel) (by decide +kernel) rfl (fun _ => by first | (go_simp; done) | (go_simp; exact ⟨rfl, rfl⟩)) (fun ii W l' u hR => by
            obtain rfl : ii = 0 := by omega
            exact (A1 W).mono (by rintro e w' ⟨rfl, m, d, rfl⟩; exact ⟨rfl, fun _ => EXT W m d (hR.1 rfl), fun h => by omega⟩)) ?_
          simp only [Act.put, List.setIfInBounds_toArray, List.set_cons_zero, List.set_cons_succ]
          repeat (first
            | (apply sg_any; (focus rfl); (focus rfl); (focus (intro _; go_simp; with_reducible rfl)); simp only [Act.put, List.setIfInBounds_toArray, List.set_cons_zero, List.set_cons_succ])
            | (apply sg_read 0 0; (focus rfl); (focus (decide +kernel)); (focus (decide +kernel)); (focus rfl); (focus (intro ii w' l' u hR; obtain ⟨t1, t2, t3, t4, t5, t6, t7, t8⟩ := DD.out w' (hR.1 (by omega)); clear hR; go_simp; with_reducible rfl)); simp only [Act.put, List.setIfInBounds_toArray, List.set_cons_zero, List.set_cons_succ]))
          refine sg_call 0 0 (v := .int .i64 (b2 : Nat)) (f := 104) (args := #[.int .i64 u2, .int .i64 (all.length : Nat)]) rfl (by decide +kernel) (by decide +kernel) rfl (fun _ => by first | (go_simp; done) | (go_simp; exact ⟨rfl, rfl⟩)) (fun ii W l' u hR => by
            obtain rfl : ii = 0 := by omega
            exact (A2 W).mono (by rintro e w' ⟨rfl, m, d, rfl⟩; exact ⟨rfl, fun _ => EXT W m d (hR.1 rfl), fun h => by omega⟩)) ?_
          simp only [Act.put, List.setIfInBounds_toArray, List.set_cons_zero, List.set_cons_succ]
          repeat (first
            | (apply sg_any; (focus rfl); (focus rfl); (focus (intro _; go_simp; with_reducible rfl)); simp only [Act.put, List.setIfInBounds_toArray, List.set_cons_zero, List.set_cons_succ])
            | (apply sg_read 0 0; (focus rfl); (focus (decide +kernel)); (focus (decide +kernel)); (focus rfl); (focus (intro ii w' l' u hR; obtain ⟨t1, t2, t3, t4, t5, t6, t7, t8⟩ := DD.out w' (hR.1 (by omega)); clear hR; go_simp; with_reducible rfl)); simp only [Act.put, List.setIfInBounds_toArray, List.set_cons_zero, List.set_cons_succ]))
          refine sg_call 0 0 (v := .int .i64 (b3 : Nat)) (f := 104) (args := #[.int .i64 u3, .int .i64 (all.length : Nat)]) rfl (by decide +kernel) (by decide +kernel) rfl (fun _ => by first | (go_simp; done) | (go_simp; exact ⟨rfl, rfl⟩)) (fun ii W l' u hR => by
            obtain rfl : ii = 0 := by omega
            exact (A3 W).mono (by rintro e w' ⟨rfl, m, d, rfl⟩; exact ⟨rfl, fun _ => EXT W m d (hR.1 rfl), fun h => by omega⟩)) ?_
          simp only [Act.put, List.setIfInBounds_toArray, List.set_cons_zero, List.set_cons_succ]
          repeat (first
            | (apply sg_any; (focus rfl); (focus rfl); (focus (intro _; go_simp; with_reducible rfl)); simp only [Act.put, List.setIfInBounds_toArray, List.set_cons_zero, List.set_cons_succ])
            | (apply sg_read 0 0; (focus rfl); (focus (decide +kernel)); (focus (decide +kernel)); (focus rfl); (focus (intro ii w' l' u hR; obtain ⟨t1, t2, t3, t4, t5, t6, t7, t8⟩ := DD.out w' (hR.1 (by omega)); clear hR; go_simp; with_reducible rfl)); simp only [Act.put, List.setIfInBounds_toArray, List.set_cons_zero, List.set_cons_succ]))
          refine sg_turn_call 0 (v := .int .i64 R.2) (f := 105) (args := #[.pointer (some ⟨q, 0, none⟩), .int .i64 x1, .int .i64 x2, .int .i64 x3]) rfl rfl (fun _ => by first | (go_simp; done) | (go_simp; exact ⟨rfl, rfl⟩)) (fun W hR => by
            refine (IC.out W (hR.1 rfl)).mono ?_
            rintro e w' ⟨rfl, F2, t1, t2⟩
            exact ⟨rfl, fun h => by omega, fun _ => ⟨F2, t1, (StoStep.of_below (hR.1 rfl)).trans t2⟩⟩) ?_
          simp only [Act.put, List.setIfInBounds_toArray, List.set_cons_zero, List.set_cons_succ]
          repeat (apply sg_any; (focus rfl); (focus rfl); (focus (intro _; go_simp; with_reducible rfl)); simp only [Act.put, List.setIfInBounds_toArray, List.set_cons_zero, List.set_cons_succ])
          refine sg_end (HF.out _ (fun w2 hR => ?_))
          obtain ⟨F2, hS2, st3⟩ := hR.2 rfl
          clear hR HF F' DD A1 A2 A3 EXT
          have rw2 : RowIs w2 (.slice (some ⟨g, 0, none⟩) all.length sc) (some g) 3 1 all.length (ints all) := RowIs.keep HROW.out (fun g' hg' => by cases hg'; exact st3.block g zg HGF.out)
          obtain ⟨g2, sc2, w4, r1, r2, r3, r4, ro, rt, rp, rz⟩ := row_one rw2 (by omega) R.2
          have hgF2 : g ∉ F2 := st3.keeps zg HGF.out
          have z2 := st3.size
          have zw := HST.out.size
          have R2 := hid r2
          have KF := hid (show RIs w4 q F2 (rOf R.1) from hS2.keep (fun k hk => r4 k (hS2.lt k hk) (fun e => hgF2 (e ▸ hk))))
          have KS := hid (show StoStep w w4 F F2 from (HST.out.trans st3).more (fun k hk => r4 k (by omega) (by omega)) ro rt rp rz)
          have KG := hid (show w.heap.size ≤ g2 ∧ g2 ∉ F2 by
            rcases r3 with rfl | r3
            · exact ⟨hg, hgF2⟩
            · exact ⟨by omega, fun hm => by have := hS2.lt _ hm; omega⟩)
          have R1 := hid r1
          clear r1 r2 r3 r4 ro rt rp rz st3 hS2 rw2 hgF2 z2 zw
          go_upto_region 10 with (fail)
          refine wp_region_doc (fun F' hF => ?_)
          have HF1 := hid hF
          clear hF
          iterate 3 (refine doc_val rfl (by first | (go_simp; done) | (go_simp; exact ⟨rfl, rfl⟩) | (go_simp; with_reducible rfl)) ?_; simp only [Act.put, List.setIfInBounds_toArray, List.set_cons_zero, List.set_cons_succ])
          refine doc_val rfl (run_append_op _ _ _ _ _ _ _ _ _ R1.out) ?_
          simp only [Act.put, List.setIfInBounds_toArray, List.set_cons_zero, List.set_cons_succ]
          refine doc_val rfl (by first | (go_simp; done) | (go_simp; exact ⟨rfl, rfl⟩) | (go_simp; with_reducible rfl)) ?_
          simp only [Act.put, List.setIfInBounds_toArray, List.set_cons_zero, List.set_cons_succ]
          refine doc_end (HF1.out _ _ ?_)
          clear HF1 F' R1
          go_wp2_with fail
          go_roundw
          case rel =>
            refine ⟨j + 1, R.1, all ++ [R.2], F2, sc2, g2, by omega, by have := HI4.out.1; have := Hi.out; omega, (by simp only [List.length_append, List.length_cons, List.length_nil, Nat.zero_add]), by have := HI4.out.1; have := Hi.out; first | (congr; done) | (congr; omega), KF.out, (by have := R2.out; simpa only [List.length_append, List.length_cons, List.length_nil, Nat.zero_add] using this), KG.out.1, KG.out.2, ?_, by have := HAL.out; simp; omega, ?_, KS.out⟩
            · have := HM.out.of HVK.out
              rw [show 256 * (j + 1) = 256 * j + 256 by omega]; exact this
            · rw [show 20 - (j + 1) = 19 - j by omega, show 4 * (j + 1) = i + 4 by have := Hi.out; omega, ← NX.out]; exact HD.out
          case measure => have := HI4.out.1; simp [intOf]; omega
      · have q2' : ¬ (i : Int) < 80 := by omega
        have HX := hid (show (S, all) = madeL 20 S0 [0, 1] l by rw [← HD.out, show 20 - j = 0 by omega, madeL_zero])
        clear Hi hi
        go_wp2_with fail
        go_returns
        rw [← HX.out]
        exact ⟨F1, g, sc, rfl, HR.out, HROW.out, hg, HGF.out, HST.out⟩
    · have q1' : ¬ (i : Int) + 3 < (l.length : Int) := by omega
      have HX := hid (show (S, all) = madeL 20 S0 [0, 1] l by rw [← HD.out, madeL_short _ _ _ _ (by rw [List.length_drop]; omega)])
      clear Hi hi
      go_wp2_with fail
      go_returns
      rw [← HX.out]
      exact ⟨F1, g, sc, rfl, HR.out, HROW.out, hg, HGF.out, HST.out⟩
end Go.Proofs.Ytboekafmplomhaa
