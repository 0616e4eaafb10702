/-
  The document's programs that may be (quillonref19.May).
-/
import Derived.Test.YtkblldmpdihamaaZRefHM
import Derived.Test.YtkblldmpdihamaaZKnown19
set_option linter.unusedVariables false
set_option linter.unusedSimpArgs false
namespace Go.Proofs.Ytkblldmpdihamaa
open Go.RowKit

structure HOk (ws : List Int) : Prop where
  lo : 1 ≤ ws.length
  hi : ws.length ≤ 16
  ok : ws.all wokB = true
  whole : ws.sum % 8 = 0
  few : ws.sum ≤ 256
/-- What a program is that may be. -/
structure MayP (hs : List (SL × List Int)) (ms es : List Int) : Prop where
  hl : hs.length ≤ 8
  ml : ms.length ≤ 16
  el : es.length ≤ 8
  heads : ∀ x ∈ hs, HOk x.2
  emit : ∀ e ∈ es, 0 ≤ e ∧ e < (hs.length : Int)
  once : es.Nodup
  metas : ms.all wokB = true
theorem wok_range {ws : List Int} (h : ws.all wokB = true) : ∀ x ∈ ws, 1 ≤ x ∧ x ≤ 128 := fun x hx => by
  have := List.all_eq_true.1 h x hx
  unfold wokB at this
  simpa using this
theorem wok_sum : ∀ {ws : List Int}, ws.all wokB = true → 0 ≤ ws.sum ∧ ws.sum ≤ 128 * (ws.length : Int)
  | [], _ => by simp
  | x :: r, h => by
    have hx := wok_range h x (List.mem_cons_self ..)
    have ih := wok_sum (ws := r) (by simp at h ⊢; exact h.2)
    rw [List.sum_cons, List.length_cons]
    omega
theorem wok_few {ws : List Int} (h : ws.all wokB = true) (hl : ws.length ≤ 16) : Few ws :=
  ⟨fun x hx => by have := wok_range h x hx; omega, by have := wok_sum h; omega⟩
/-- What May tells. -/
def MayPost (hs : List (SL × List Int)) (ms es : List Int) (w : World) (e : Ending) (w' : World) : Prop := ∃ b, Pure (.bool b) w e w' ∧ (b = true → MayP hs ms es)
theorem prog_facts {w : World} {g : Nat} {e : TypeId} {p : PG} (b : Blk w g e [p.heads.v, p.metas.v, p.steps.v, p.acts.v, p.tabs.v, p.control.v, p.emit.v, p.n0.v, p.n1.v, p.n2.v, p.n3.v, p.n4.v]) :
    w.cell? ⟨g, 0, none⟩ = some p.heads.v ∧ w.cell? ⟨g, 1, none⟩ = some p.metas.v ∧ w.cell? ⟨g, 6, none⟩ = some p.emit.v := ⟨b.cell 0, b.cell 1, b.cell 6⟩

set_option maxRecDepth 100000 in
set_option maxHeartbeats 4000000 in
theorem may_any {p : PG} {hs : List (SL × List Int)} {ms es : List Int} {w : World} (H : HeadsAre w p.heads hs) (M : RdS w 1 p.metas (ints ms)) (E : RdS w 1 p.emit (ints es)) :
    Calls Try.prog 7 #[p.v] w (MayPost hs ms es w) := by
  have hhl := H.len
  have hml := M.int
  have hel := E.int
  have hhm := H.row.2.1
  have hmm := M.2.1
  have hem := E.2.1
  have HH := hid H
  have HM := hid M
  have HE := hid E
  clear H M E
  obtain ⟨⟨pa, pn, pc⟩, ⟨ma, mn, mc⟩, s2, s3, s4, s5, ⟨ea, en, ec⟩, n0, n1, n2, n3, n4⟩ := p
  simp only at hhl hml hel hhm hmm hem HH HM HE
  subst hhl hml hel
  have no : ∀ w', Below w.heap.size w w' → MayPost hs ms es w (.returned (.bool false)) w' := fun w' hb => ⟨false, Pure.of rfl hb, fun h => by cases h⟩
  have NO := hid no
  clear no
  go_enter Try.func7, Try.ntmps7
  by_cases k1 : 8 < (hs.length : Int)
  · go_wp2_with fail
    go_returns
    exact NO.out _ (by (repeat' (first | (with_reducible exact Below.refl _ _) | (with_reducible refine Below.ext_mk ?_ ?_ _ _) | (with_reducible refine Below.alloc ?_ ?_ _) | (with_reducible refine Below.drew ?_) | (with_reducible refine Below.setCell ?_ ?_ _) | go_size)))
  by_cases k2 : 16 < (ms.length : Int)
  · go_wp2_with fail
    go_returns
    exact NO.out _ (by (repeat' (first | (with_reducible exact Below.refl _ _) | (with_reducible refine Below.ext_mk ?_ ?_ _ _) | (with_reducible refine Below.alloc ?_ ?_ _) | (with_reducible refine Below.drew ?_) | (with_reducible refine Below.setCell ?_ ?_ _) | go_size)))
  by_cases k3 : 8 < (es.length : Int)
  · go_wp2_with fail
    go_returns
    exact NO.out _ (by (repeat' (first | (with_reducible exact Below.refl _ _) | (with_reducible refine Below.ext_mk ?_ ?_ _ _) | (with_reducible refine Below.alloc ?_ ?_ _) | (with_reducible refine Below.drew ?_) | (with_reducible refine Below.setCell ?_ ?_ _) | go_size)))
  go_upto_region 3 with (fail)
  refine wp_gen (fun V hV => ?_)
  have hbV : Below w.heap.size w V := by rw [hV]; (repeat' (first | (with_reducible exact Below.refl _ _) | (with_reducible refine Below.ext_mk ?_ ?_ _ _) | (with_reducible refine Below.alloc ?_ ?_ _) | (with_reducible refine Below.drew ?_) | (with_reducible refine Below.setCell ?_ ?_ _) | go_size))
  have bp : Blk V w.heap.size 33 [.slice pa hs.length pc, .slice ma ms.length mc, s2.v, s3.v, s4.v, s5.v, .slice ea es.length ec, n0.v, n1.v, n2.v, n3.v, n4.v] := by
    rw [hV]; exact Blk.new w 33 [.slice pa hs.length pc, .slice ma ms.length mc, s2.v, s3.v, s4.v, s5.v, .slice ea es.length ec, n0.v, n1.v, n2.v, n3.v, n4.v]
  clear hV
  have BP := hid bp
  have NOV := hid (fun w' (hb : Below V.heap.size V w') => NO.out w' (hbV.trans (hb.mono hbV.size)))
  have c0 := bp.cell 0
  simp only [List.getElem?_cons_zero] at c0
  have z0 := bp.lt
  clear bp
  go_wp2_with fail
  go_loopw [3] (fun i wr => ∃ j : Nat, j ≤ hs.length ∧ i = .int .i64 j ∧ (∀ x ∈ hs.take j, HOk x.2) ∧ Below V.heap.size V wr) (fun i _ => hs.length - (intOf i).toNat)
  case atStart => exact ⟨0, by omega, rfl, fun x hx => by simp at hx, Below.refl _ _⟩
  case round =>
    obtain ⟨j, hj, rfl, hall, hb⟩ := hrel
    have hbs := hb.size
    have c0' := (hb.cell (p := ⟨w.heap.size, 0, none⟩) z0).trans c0
    have z0' : w.heap.size < wr.heap.size := by omega
    by_cases hlt : j < hs.length
    · have hj1 : (j : Int) < (hs.length : Int) := by omega
      obtain ⟨pb, po, ep, zp, _, cp⟩ := HH.out.row.one (i := j) (u := hs[j].1.v) (by simp [hlt])
      simp only at ep
      subst ep
      have hbw : Below w.heap.size w wr := hbV.trans (hb.mono hbV.size)
      have vp := (hbw.cell (p := ⟨pb, po + j, none⟩) zp).trans cp
      have zp' : pb < wr.heap.size := by have := hbw.size; omega
      have hA : headAt hs (j : Int) = hs[j] := by unfold headAt; rw [if_neg (by omega)]; simp [hlt]
      have A := HH.out.each hs[j] (List.getElem_mem _)
      have RB := hid (fun hF : Few (headAt hs (j : Int)).2 => fun W (hW : Below w.heap.size w W) => rbits19_any (p := ⟨⟨some ⟨pb, po, none⟩, hs.length, pc⟩, ⟨ma, ms.length, mc⟩, s2, s3, s4, s5, ⟨ea, es.length, ec⟩, n0, n1, n2, n3, n4⟩) (HH.out.below hW) (j : Int) hF)
      rw [hA] at RB
      have hnext : HOk hs[j].2 → ∀ x ∈ hs.take (j + 1), HOk x.2 := fun hk x hx => by
        rw [List.take_succ_eq_append_getElem hlt, List.mem_append] at hx
        rcases hx with hx | hx
        · exact hall x hx
        · simp at hx; subst hx; exact hk
      have HN := hid hnext
      have hl := A.int
      have hm := A.2.1
      have HA := hid A
      clear A hA hnext cp hall
      generalize hs[j] = x at *
      obtain ⟨⟨sa, n, c⟩, ws⟩ := x
      simp only [SL.v_mk] at hl hm vp HA RB HN
      subst hl
      by_cases q1 : (ws.length : Int) < 1
      · go_wp2_with fail
        go_returns
        exact NOV.out _ hb
      by_cases q2 : 16 < (ws.length : Int)
      · go_wp2_with fail
        go_returns
        exact NOV.out _ hb
      have WD := hid (fun W (hW : Below w.heap.size w W) => rwidths_any (HA.out.below hW))
      cases q3 : ws.all wokB
      · rw [q3] at WD
        go_wp2_with (go_at_call 25; refine (WD.out _ hbw).mono ?_; rintro e w' ⟨rfl, m2, d2, rfl⟩)
        go_returns
        exact NOV.out _ (Below.ext_mk hb hbs _ _)
      · rw [q3] at WD
        have RB2 := hid (RB.out (wok_few q3 (by omega)))
        have hsum := wok_sum q3
        have HQ3 := hid q3
        clear q3 RB
        obtain ⟨u, hu⟩ : ∃ u, u = ws.sum := ⟨_, rfl⟩
        rw [← hu] at RB2 hsum
        have HU := hid hu
        clear hu
        have hb2 := fun m d => (Below.ext_mk hbw hbw.size m d)
        obtain ⟨r, hr⟩ : ∃ r, r = u.tmod 8 := ⟨_, rfl⟩
        have hr' : r = u % 8 := by rw [hr, Int.tmod_eq_emod_of_nonneg (by omega)]
        have et : u.tmod 8 = r := hr.symm
        have HR := hid hr'
        clear hr hr'
        by_cases q4 : r = 0
        · subst q4
          by_cases q5 : 256 < u
          · go_upto_region 6 with (fail)
            refine wp_region_doc (fun F hF => ?_)
            have HF := hid hF
            clear hF
            iterate 22 (refine doc_val rfl (by first | (go_simp; done) | (go_simp; exact ⟨rfl, rfl⟩) | (go_simp; with_reducible rfl)) ?_; simp only [Act.put, List.setIfInBounds_toArray, List.set_cons_zero, List.set_cons_succ])
            refine doc_call rfl (by first | (go_simp; done) | (go_simp; exact ⟨rfl, rfl⟩) | (go_simp; with_reducible rfl)) (Calls.mono (WD.out _ (by (repeat' (first | (with_reducible exact hbw) | (with_reducible exact Below.refl _ _) | (with_reducible refine Below.ext_mk ?_ ?_ _ _) | (with_reducible refine Below.alloc ?_ ?_ _) | (with_reducible refine Below.drew ?_) | (with_reducible refine Below.setCell ?_ ?_ _) | go_size)))) ?_)
            rintro _ _ ⟨rfl, mz, dz, rfl⟩
            refine ⟨_, rfl, ?_⟩
            simp only [Act.put, List.setIfInBounds_toArray, List.set_cons_zero, List.set_cons_succ]
            iterate 3 (refine doc_val rfl (by first | (go_simp; done) | (go_simp; exact ⟨rfl, rfl⟩) | (go_simp; with_reducible rfl)) ?_; simp only [Act.put, List.setIfInBounds_toArray, List.set_cons_zero, List.set_cons_succ])
            refine doc_val rfl (load_agg_op _ _ _ _ _ _ _ _ Try.underlying33 (prog_size _ rfl) rfl (BP.out.below (by (repeat' (first | (with_reducible exact hb) | (with_reducible exact Below.refl _ _) | (with_reducible refine Below.ext_mk ?_ ?_ _ _) | (with_reducible refine Below.alloc ?_ ?_ _) | (with_reducible refine Below.drew ?_) | (with_reducible refine Below.setCell ?_ ?_ _) | go_size))))) ?_
            simp only [Act.put, List.setIfInBounds_toArray, List.set_cons_zero, List.set_cons_succ]
            iterate 1 (refine doc_val rfl (by first | (go_simp; done) | (go_simp; exact ⟨rfl, rfl⟩) | (go_simp; with_reducible rfl)) ?_; simp only [Act.put, List.setIfInBounds_toArray, List.set_cons_zero, List.set_cons_succ])
            refine doc_call rfl (by first | (go_simp; done) | (go_simp; exact ⟨rfl, rfl⟩) | (go_simp; with_reducible rfl)) (Calls.mono (RB2.out _ (by (repeat' (first | (with_reducible exact hbw) | (with_reducible exact Below.refl _ _) | (with_reducible refine Below.ext_mk ?_ ?_ _ _) | (with_reducible refine Below.alloc ?_ ?_ _) | (with_reducible refine Below.drew ?_) | (with_reducible refine Below.setCell ?_ ?_ _) | go_size)))) ?_)
            rintro _ _ ⟨rfl, mz, dz, rfl⟩
            refine ⟨_, rfl, ?_⟩
            simp only [Act.put, List.setIfInBounds_toArray, List.set_cons_zero, List.set_cons_succ]
            iterate 4 (refine doc_val rfl (by first | (go_simp; done) | (go_simp; exact ⟨rfl, rfl⟩) | (go_simp; with_reducible rfl)) ?_; simp only [Act.put, List.setIfInBounds_toArray, List.set_cons_zero, List.set_cons_succ])
            refine doc_val rfl (load_agg_op _ _ _ _ _ _ _ _ Try.underlying33 (prog_size _ rfl) rfl (BP.out.below (by (repeat' (first | (with_reducible exact hb) | (with_reducible exact Below.refl _ _) | (with_reducible refine Below.ext_mk ?_ ?_ _ _) | (with_reducible refine Below.alloc ?_ ?_ _) | (with_reducible refine Below.drew ?_) | (with_reducible refine Below.setCell ?_ ?_ _) | go_size))))) ?_
            simp only [Act.put, List.setIfInBounds_toArray, List.set_cons_zero, List.set_cons_succ]
            iterate 1 (refine doc_val rfl (by first | (go_simp; done) | (go_simp; exact ⟨rfl, rfl⟩) | (go_simp; with_reducible rfl)) ?_; simp only [Act.put, List.setIfInBounds_toArray, List.set_cons_zero, List.set_cons_succ])
            refine doc_call rfl (by first | (go_simp; done) | (go_simp; exact ⟨rfl, rfl⟩) | (go_simp; with_reducible rfl)) (Calls.mono (RB2.out _ (by (repeat' (first | (with_reducible exact hbw) | (with_reducible exact Below.refl _ _) | (with_reducible refine Below.ext_mk ?_ ?_ _ _) | (with_reducible refine Below.alloc ?_ ?_ _) | (with_reducible refine Below.drew ?_) | (with_reducible refine Below.setCell ?_ ?_ _) | go_size)))) ?_)
            rintro _ _ ⟨rfl, mz, dz, rfl⟩
            refine ⟨_, rfl, ?_⟩
            simp only [Act.put, List.setIfInBounds_toArray, List.set_cons_zero, List.set_cons_succ]
            iterate 2 (refine doc_val rfl (by first | (go_simp; done) | (go_simp; exact ⟨rfl, rfl⟩) | (go_simp; with_reducible rfl)) ?_; simp only [Act.put, List.setIfInBounds_toArray, List.set_cons_zero, List.set_cons_succ])
            refine doc_end (HF.out _ _ ?_)
            clear HF F
            go_wp2_with fail
            go_returns
            exact NOV.out _ (by (repeat' (first | (with_reducible exact hb) | (with_reducible exact Below.refl _ _) | (with_reducible refine Below.ext_mk ?_ ?_ _ _) | (with_reducible refine Below.alloc ?_ ?_ _) | (with_reducible refine Below.drew ?_) | (with_reducible refine Below.setCell ?_ ?_ _) | go_size)))
          · go_upto_region 6 with (fail)
            refine wp_region_doc (fun F hF => ?_)
            have HF := hid hF
            clear hF
            iterate 22 (refine doc_val rfl (by first | (go_simp; done) | (go_simp; exact ⟨rfl, rfl⟩) | (go_simp; with_reducible rfl)) ?_; simp only [Act.put, List.setIfInBounds_toArray, List.set_cons_zero, List.set_cons_succ])
            refine doc_call rfl (by first | (go_simp; done) | (go_simp; exact ⟨rfl, rfl⟩) | (go_simp; with_reducible rfl)) (Calls.mono (WD.out _ (by (repeat' (first | (with_reducible exact hbw) | (with_reducible exact Below.refl _ _) | (with_reducible refine Below.ext_mk ?_ ?_ _ _) | (with_reducible refine Below.alloc ?_ ?_ _) | (with_reducible refine Below.drew ?_) | (with_reducible refine Below.setCell ?_ ?_ _) | go_size)))) ?_)
            rintro _ _ ⟨rfl, mz, dz, rfl⟩
            refine ⟨_, rfl, ?_⟩
            simp only [Act.put, List.setIfInBounds_toArray, List.set_cons_zero, List.set_cons_succ]
            iterate 3 (refine doc_val rfl (by first | (go_simp; done) | (go_simp; exact ⟨rfl, rfl⟩) | (go_simp; with_reducible rfl)) ?_; simp only [Act.put, List.setIfInBounds_toArray, List.set_cons_zero, List.set_cons_succ])
            refine doc_val rfl (load_agg_op _ _ _ _ _ _ _ _ Try.underlying33 (prog_size _ rfl) rfl (BP.out.below (by (repeat' (first | (with_reducible exact hb) | (with_reducible exact Below.refl _ _) | (with_reducible refine Below.ext_mk ?_ ?_ _ _) | (with_reducible refine Below.alloc ?_ ?_ _) | (with_reducible refine Below.drew ?_) | (with_reducible refine Below.setCell ?_ ?_ _) | go_size))))) ?_
            simp only [Act.put, List.setIfInBounds_toArray, List.set_cons_zero, List.set_cons_succ]
            iterate 1 (refine doc_val rfl (by first | (go_simp; done) | (go_simp; exact ⟨rfl, rfl⟩) | (go_simp; with_reducible rfl)) ?_; simp only [Act.put, List.setIfInBounds_toArray, List.set_cons_zero, List.set_cons_succ])
            refine doc_call rfl (by first | (go_simp; done) | (go_simp; exact ⟨rfl, rfl⟩) | (go_simp; with_reducible rfl)) (Calls.mono (RB2.out _ (by (repeat' (first | (with_reducible exact hbw) | (with_reducible exact Below.refl _ _) | (with_reducible refine Below.ext_mk ?_ ?_ _ _) | (with_reducible refine Below.alloc ?_ ?_ _) | (with_reducible refine Below.drew ?_) | (with_reducible refine Below.setCell ?_ ?_ _) | go_size)))) ?_)
            rintro _ _ ⟨rfl, mz, dz, rfl⟩
            refine ⟨_, rfl, ?_⟩
            simp only [Act.put, List.setIfInBounds_toArray, List.set_cons_zero, List.set_cons_succ]
            iterate 4 (refine doc_val rfl (by first | (go_simp; done) | (go_simp; exact ⟨rfl, rfl⟩) | (go_simp; with_reducible rfl)) ?_; simp only [Act.put, List.setIfInBounds_toArray, List.set_cons_zero, List.set_cons_succ])
            refine doc_val rfl (load_agg_op _ _ _ _ _ _ _ _ Try.underlying33 (prog_size _ rfl) rfl (BP.out.below (by (repeat' (first | (with_reducible exact hb) | (with_reducible exact Below.refl _ _) | (with_reducible refine Below.ext_mk ?_ ?_ _ _) | (with_reducible refine Below.alloc ?_ ?_ _) | (with_reducible refine Below.drew ?_) | (with_reducible refine Below.setCell ?_ ?_ _) | go_size))))) ?_
            simp only [Act.put, List.setIfInBounds_toArray, List.set_cons_zero, List.set_cons_succ]
            iterate 1 (refine doc_val rfl (by first | (go_simp; done) | (go_simp; exact ⟨rfl, rfl⟩) | (go_simp; with_reducible rfl)) ?_; simp only [Act.put, List.setIfInBounds_toArray, List.set_cons_zero, List.set_cons_succ])
            refine doc_call rfl (by first | (go_simp; done) | (go_simp; exact ⟨rfl, rfl⟩) | (go_simp; with_reducible rfl)) (Calls.mono (RB2.out _ (by (repeat' (first | (with_reducible exact hbw) | (with_reducible exact Below.refl _ _) | (with_reducible refine Below.ext_mk ?_ ?_ _ _) | (with_reducible refine Below.alloc ?_ ?_ _) | (with_reducible refine Below.drew ?_) | (with_reducible refine Below.setCell ?_ ?_ _) | go_size)))) ?_)
            rintro _ _ ⟨rfl, mz, dz, rfl⟩
            refine ⟨_, rfl, ?_⟩
            simp only [Act.put, List.setIfInBounds_toArray, List.set_cons_zero, List.set_cons_succ]
            iterate 2 (refine doc_val rfl (by first | (go_simp; done) | (go_simp; exact ⟨rfl, rfl⟩) | (go_simp; with_reducible rfl)) ?_; simp only [Act.put, List.setIfInBounds_toArray, List.set_cons_zero, List.set_cons_succ])
            refine doc_end (HF.out _ _ ?_)
            clear HF F
            go_wp2_with fail
            go_roundw
            case rel => exact ⟨j + 1, hlt, by go_num, HN.out ⟨by omega, by omega, HQ3.out, by have := HR.out; rw [← HU.out]; omega, by rw [← HU.out]; omega⟩, by (repeat' (first | (with_reducible exact hb) | (with_reducible exact Below.refl _ _) | (with_reducible refine Below.ext_mk ?_ ?_ _ _) | (with_reducible refine Below.alloc ?_ ?_ _) | (with_reducible refine Below.drew ?_) | (with_reducible refine Below.setCell ?_ ?_ _) | go_size))⟩
            case measure => simp [intOf]; omega
        · have q5 : (r == 0) = false := by simpa using q4
          have q6 : (r != 0) = true := by simpa using q4
          go_upto_region 6 with (fail)
          refine wp_region_doc (fun F hF => ?_)
          have HF := hid hF
          clear hF
          iterate 22 (refine doc_val rfl (by first | (go_simp; done) | (go_simp; exact ⟨rfl, rfl⟩) | (go_simp; with_reducible rfl)) ?_; simp only [Act.put, List.setIfInBounds_toArray, List.set_cons_zero, List.set_cons_succ])
          refine doc_call rfl (by first | (go_simp; done) | (go_simp; exact ⟨rfl, rfl⟩) | (go_simp; with_reducible rfl)) (Calls.mono (WD.out _ (by (repeat' (first | (with_reducible exact hbw) | (with_reducible exact Below.refl _ _) | (with_reducible refine Below.ext_mk ?_ ?_ _ _) | (with_reducible refine Below.alloc ?_ ?_ _) | (with_reducible refine Below.drew ?_) | (with_reducible refine Below.setCell ?_ ?_ _) | go_size)))) ?_)
          rintro _ _ ⟨rfl, mz, dz, rfl⟩
          refine ⟨_, rfl, ?_⟩
          simp only [Act.put, List.setIfInBounds_toArray, List.set_cons_zero, List.set_cons_succ]
          iterate 3 (refine doc_val rfl (by first | (go_simp; done) | (go_simp; exact ⟨rfl, rfl⟩) | (go_simp; with_reducible rfl)) ?_; simp only [Act.put, List.setIfInBounds_toArray, List.set_cons_zero, List.set_cons_succ])
          refine doc_val rfl (load_agg_op _ _ _ _ _ _ _ _ Try.underlying33 (prog_size _ rfl) rfl (BP.out.below (by (repeat' (first | (with_reducible exact hb) | (with_reducible exact Below.refl _ _) | (with_reducible refine Below.ext_mk ?_ ?_ _ _) | (with_reducible refine Below.alloc ?_ ?_ _) | (with_reducible refine Below.drew ?_) | (with_reducible refine Below.setCell ?_ ?_ _) | go_size))))) ?_
          simp only [Act.put, List.setIfInBounds_toArray, List.set_cons_zero, List.set_cons_succ]
          iterate 1 (refine doc_val rfl (by first | (go_simp; done) | (go_simp; exact ⟨rfl, rfl⟩) | (go_simp; with_reducible rfl)) ?_; simp only [Act.put, List.setIfInBounds_toArray, List.set_cons_zero, List.set_cons_succ])
          refine doc_call rfl (by first | (go_simp; done) | (go_simp; exact ⟨rfl, rfl⟩) | (go_simp; with_reducible rfl)) (Calls.mono (RB2.out _ (by (repeat' (first | (with_reducible exact hbw) | (with_reducible exact Below.refl _ _) | (with_reducible refine Below.ext_mk ?_ ?_ _ _) | (with_reducible refine Below.alloc ?_ ?_ _) | (with_reducible refine Below.drew ?_) | (with_reducible refine Below.setCell ?_ ?_ _) | go_size)))) ?_)
          rintro _ _ ⟨rfl, mz, dz, rfl⟩
          refine ⟨_, rfl, ?_⟩
          simp only [Act.put, List.setIfInBounds_toArray, List.set_cons_zero, List.set_cons_succ]
          iterate 4 (refine doc_val rfl (by first | (go_simp; done) | (go_simp; exact ⟨rfl, rfl⟩) | (go_simp; with_reducible rfl)) ?_; simp only [Act.put, List.setIfInBounds_toArray, List.set_cons_zero, List.set_cons_succ])
          iterate 4 (refine doc_not rfl ?_; simp only [Act.put, List.setIfInBounds_toArray, List.set_cons_zero, List.set_cons_succ])
          iterate 1 (refine doc_val rfl (by first | (go_simp; done) | (go_simp; exact ⟨rfl, rfl⟩) | (go_simp; with_reducible rfl)) ?_; simp only [Act.put, List.setIfInBounds_toArray, List.set_cons_zero, List.set_cons_succ])
          refine doc_end (HF.out _ _ ?_)
          clear HF F
          go_wp2_with fail
          go_returns
          exact NOV.out _ (by (repeat' (first | (with_reducible exact hb) | (with_reducible exact Below.refl _ _) | (with_reducible refine Below.ext_mk ?_ ?_ _ _) | (with_reducible refine Below.alloc ?_ ?_ _) | (with_reducible refine Below.drew ?_) | (with_reducible refine Below.setCell ?_ ?_ _) | go_size)))
    · obtain rfl : j = hs.length := by omega
      rw [List.take_length] at hall
      have HALL := hid hall
      have hbw : Below w.heap.size w wr := hbV.trans (hb.mono hbV.size)
      have c6 := (BP.out.below hb).cell 6
      simp only [List.getElem?_cons_zero, List.getElem?_cons_succ] at c6
      clear hall
      go_wp2_with fail
      go_loopw [4] (fun i wq => ∃ k : Nat, k ≤ es.length ∧ i = .int .i64 k ∧ (∀ x ∈ es.take k, 0 ≤ x ∧ x < (hs.length : Int)) ∧ (es.take k).Nodup ∧ Below V.heap.size V wq) (fun i _ => es.length - (intOf i).toNat)
      case atStart => exact ⟨0, by omega, rfl, fun x hx => by simp at hx, by simp, hb⟩
      case round =>
        clear c0' c6 hbw hb hbs z0'
        obtain ⟨k, hk, rfl, hrng, hnd, hb⟩ := hrel
        have hbs := hb.size
        have c6 := (BP.out.below hb).cell 6
        simp only [List.getElem?_cons_zero, List.getElem?_cons_succ] at c6
        have c0' := (hb.cell (p := ⟨w.heap.size, 0, none⟩) z0).trans c0
        have z0' : w.heap.size < wr.heap.size := by omega
        have hbw : Below w.heap.size w wr := hbV.trans (hb.mono hbV.size)
        have HRNG := hid hrng
        have HND := hid hnd
        clear hrng hnd
        by_cases hlk : k < es.length
        · have hk1 : (k : Int) < (es.length : Int) := by omega
          obtain ⟨eb, eo, ee, ze, ce⟩ := RdS.intAt HE.out hlk
          simp only at ee
          subst ee
          have ve := (hbw.cell (p := ⟨eb, eo + k, none⟩) ze).trans ce
          have ze' : eb < wr.heap.size := by have := hbw.size; omega
          have hnx : es.take (k + 1) = es.take k ++ [es[k]] := List.take_succ_eq_append_getElem hlk
          have HNX := hid hnx
          clear hnx ce
          generalize hev : es[k] = ev at *
          have HEV := hid hev
          clear hev
          by_cases r1 : ev < 0
          · go_upto_region 11 with (fail)
            refine wp_region_ext (by kernel_rfl) (by kernel_rfl) (fun F hF => ?_)
            have HF := hid hF; clear hF
            repeat (first
              | (apply text_skip; (focus rfl); simp only [Act.put, List.setIfInBounds_toArray, List.set_cons_zero, List.set_cons_succ])
              | (apply text_val; (focus rfl); (focus (intro _ _; go_simp; with_reducible rfl)); simp only [Act.put, List.setIfInBounds_toArray, List.set_cons_zero, List.set_cons_succ])
              | (apply text_if; (focus (first | exact wanted_t rfl rfl | exact wanted_f rfl rfl | exact wanted_gt rfl rfl | exact wanted_gf rfl rfl)); (focus (intro hc _ _; (try simp only [Bool.and_eq_true, Bool.not_eq_true', Bool.true_and] at hc); go_simp; with_reducible rfl)); simp only [Act.put, List.setIfInBounds_toArray, List.set_cons_zero, List.set_cons_succ]))
            refine text_nil (HF.out _ (fun mx dx => ?_))
            clear HF F
            go_wp2_with fail
            go_returns
            exact NOV.out _ (by (repeat' (first | (with_reducible exact hb) | (with_reducible exact Below.refl _ _) | (with_reducible refine Below.ext_mk ?_ ?_ _ _) | (with_reducible refine Below.alloc ?_ ?_ _) | (with_reducible refine Below.drew ?_) | (with_reducible refine Below.setCell ?_ ?_ _) | go_size)))
          by_cases r2 : (hs.length : Int) ≤ ev
          · go_upto_region 11 with (fail)
            refine wp_region_ext (by kernel_rfl) (by kernel_rfl) (fun F hF => ?_)
            have HF := hid hF; clear hF
            repeat (first
              | (apply text_skip; (focus rfl); simp only [Act.put, List.setIfInBounds_toArray, List.set_cons_zero, List.set_cons_succ])
              | (apply text_val; (focus rfl); (focus (intro _ _; go_simp; with_reducible rfl)); simp only [Act.put, List.setIfInBounds_toArray, List.set_cons_zero, List.set_cons_succ])
              | (apply text_if; (focus (first | exact wanted_t rfl rfl | exact wanted_f rfl rfl | exact wanted_gt rfl rfl | exact wanted_gf rfl rfl)); (focus (intro hc _ _; (try simp only [Bool.and_eq_true, Bool.not_eq_true', Bool.true_and] at hc); go_simp; with_reducible rfl)); simp only [Act.put, List.setIfInBounds_toArray, List.set_cons_zero, List.set_cons_succ]))
            refine text_nil (HF.out _ (fun mx dx => ?_))
            clear HF F
            go_wp2_with fail
            go_returns
            exact NOV.out _ (by (repeat' (first | (with_reducible exact hb) | (with_reducible exact Below.refl _ _) | (with_reducible refine Below.ext_mk ?_ ?_ _ _) | (with_reducible refine Below.alloc ?_ ?_ _) | (with_reducible refine Below.drew ?_) | (with_reducible refine Below.setCell ?_ ?_ _) | go_size)))
          · go_upto_region 11 with (fail)
            refine wp_region_ext (by kernel_rfl) (by kernel_rfl) (fun F hF => ?_)
            have HF := hid hF; clear hF
            repeat (first
              | (apply text_skip; (focus rfl); simp only [Act.put, List.setIfInBounds_toArray, List.set_cons_zero, List.set_cons_succ])
              | (apply text_val; (focus rfl); (focus (intro _ _; go_simp; with_reducible rfl)); simp only [Act.put, List.setIfInBounds_toArray, List.set_cons_zero, List.set_cons_succ])
              | (apply text_if; (focus (first | exact wanted_t rfl rfl | exact wanted_f rfl rfl | exact wanted_gt rfl rfl | exact wanted_gf rfl rfl)); (focus (intro hc _ _; (try simp only [Bool.and_eq_true, Bool.not_eq_true', Bool.true_and] at hc); go_simp; with_reducible rfl)); simp only [Act.put, List.setIfInBounds_toArray, List.set_cons_zero, List.set_cons_succ]))
            refine text_nil (HF.out _ (fun mx dx => ?_))
            clear HF F
            go_wp2_with fail
            go_loopw [5] (fun i wq => ∃ m : Nat, m ≤ k ∧ i = .int .i64 m ∧ (∀ x ∈ es.take m, x ≠ ev) ∧ Below V.heap.size V wq) (fun i _ => k - (intOf i).toNat)
            case atStart => exact ⟨0, by omega, rfl, fun x hx => by simp at hx, by (repeat' (first | (with_reducible exact hb) | (with_reducible exact Below.refl _ _) | (with_reducible refine Below.ext_mk ?_ ?_ _ _) | (with_reducible refine Below.alloc ?_ ?_ _) | (with_reducible refine Below.drew ?_) | (with_reducible refine Below.setCell ?_ ?_ _) | go_size))⟩
            case round =>
              clear c6 c0' z0' hbw ve ze' hb hbs
              obtain ⟨m, hm, rfl, hne, hb⟩ := hrel
              have hbs := hb.size
              have c6 := (BP.out.below hb).cell 6
              simp only [List.getElem?_cons_zero, List.getElem?_cons_succ] at c6
              have z0' : w.heap.size < wr.heap.size := by omega
              have hbw : Below w.heap.size w wr := hbV.trans (hb.mono hbV.size)
              have HNE := hid hne
              clear hne
              by_cases hlm : m < k
              · have hm1 : (m : Int) < (k : Int) := by omega
                have hml : m < es.length := by omega
                have hml1 : (m : Int) < (es.length : Int) := by omega
                obtain ⟨eb', eo', ee, ze, ce⟩ := RdS.intAt HE.out hlk
                obtain ⟨eb2, eo2, ee2, ze2, ce2⟩ := RdS.intAt HE.out hml
                simp only at ee ee2
                cases ee
                cases ee2
                have ve := (hbw.cell (p := ⟨eb, eo + k, none⟩) ze).trans ce
                have ve2 := (hbw.cell (p := ⟨eb, eo + m, none⟩) ze2).trans ce2
                rw [HEV.out] at ve
                have ze' : eb < wr.heap.size := by have := hbw.size; omega
                have hmx : es.take (m + 1) = es.take m ++ [es[m]] := List.take_succ_eq_append_getElem hml
                have HMX := hid hmx
                clear hmx ce ce2 ze ze2
                generalize es[m] = em at *
                by_cases q : em = ev
                · subst q
                  go_upto_region 16 with (fail)
                  refine wp_region_ext (by kernel_rfl) (by kernel_rfl) (fun F hF => ?_)
                  have HF := hid hF; clear hF
                  repeat (first
                    | (apply text_skip; (focus rfl); simp only [Act.put, List.setIfInBounds_toArray, List.set_cons_zero, List.set_cons_succ])
                    | (apply text_val; (focus rfl); (focus (intro _ _; go_simp; with_reducible rfl)); simp only [Act.put, List.setIfInBounds_toArray, List.set_cons_zero, List.set_cons_succ])
                    | (apply text_if; (focus (first | exact wanted_t rfl rfl | exact wanted_f rfl rfl | exact wanted_gt rfl rfl | exact wanted_gf rfl rfl)); (focus (intro hc _ _; (try simp only [Bool.and_eq_true, Bool.not_eq_true', Bool.true_and] at hc); go_simp; with_reducible rfl)); simp only [Act.put, List.setIfInBounds_toArray, List.set_cons_zero, List.set_cons_succ]))
                  refine text_nil (HF.out _ (fun mx dx => ?_))
                  clear HF F
                  go_wp2_with fail
                  go_returns
                  exact NOV.out _ (by (repeat' (first | (with_reducible exact hb) | (with_reducible exact Below.refl _ _) | (with_reducible refine Below.ext_mk ?_ ?_ _ _) | (with_reducible refine Below.alloc ?_ ?_ _) | (with_reducible refine Below.drew ?_) | (with_reducible refine Below.setCell ?_ ?_ _) | go_size)))
                · have q2 : (em == ev) = false := by simpa using q
                  go_upto_region 16 with (fail)
                  refine wp_region_ext (by kernel_rfl) (by kernel_rfl) (fun F hF => ?_)
                  have HF := hid hF; clear hF
                  repeat (first
                    | (apply text_skip; (focus rfl); simp only [Act.put, List.setIfInBounds_toArray, List.set_cons_zero, List.set_cons_succ])
                    | (apply text_val; (focus rfl); (focus (intro _ _; go_simp; with_reducible rfl)); simp only [Act.put, List.setIfInBounds_toArray, List.set_cons_zero, List.set_cons_succ])
                    | (apply text_if; (focus (first | exact wanted_t rfl rfl | exact wanted_f rfl rfl | exact wanted_gt rfl rfl | exact wanted_gf rfl rfl)); (focus (intro hc _ _; (try simp only [Bool.and_eq_true, Bool.not_eq_true', Bool.true_and] at hc); go_simp; with_reducible rfl)); simp only [Act.put, List.setIfInBounds_toArray, List.set_cons_zero, List.set_cons_succ]))
                  refine text_nil (HF.out _ (fun mx dx => ?_))
                  clear HF F
                  go_wp2_with fail
                  go_roundw
                  case rel => exact ⟨m + 1, hlm, by go_num, fun x hx => by
                    rw [HMX.out, List.mem_append] at hx
                    rcases hx with hx | hx
                    · exact HNE.out x hx
                    · simp at hx; subst hx; exact q, by (repeat' (first | (with_reducible exact hb) | (with_reducible exact Below.refl _ _) | (with_reducible refine Below.ext_mk ?_ ?_ _ _) | (with_reducible refine Below.alloc ?_ ?_ _) | (with_reducible refine Below.drew ?_) | (with_reducible refine Below.setCell ?_ ?_ _) | go_size))⟩
                  case measure => simp [intOf]; omega
              · obtain rfl : m = k := by omega
                go_wp2_with fail
                go_roundw
                case rel => exact ⟨m + 1, hlk, by go_num, fun x hx => by
                    rw [HNX.out, List.mem_append] at hx
                    rcases hx with hx | hx
                    · exact HRNG.out x hx
                    · simp at hx; subst hx; omega, by
                    rw [HNX.out, List.nodup_append]
                    exact ⟨HND.out, by simp, fun a ha b hb e => HNE.out a ha (by simp at hb; rw [e, hb])⟩, hb⟩
                case measure => simp [intOf]; omega
        · obtain rfl : k = es.length := by omega
          have c1 := (BP.out.below hb).cell 1
          simp only [List.getElem?_cons_zero, List.getElem?_cons_succ] at c1
          rw [List.take_length] at HRNG HND
          have WM := hid (fun W (hW : Below w.heap.size w W) => rwidths_any (HM.out.below hW))
          go_wp2_with (go_at_call 25; refine (WM.out _ hbw).mono ?_; rintro e w' ⟨rfl, m2, d2, rfl⟩)
          go_returns
          exact ⟨_, Pure.of rfl (by (repeat' (first | (with_reducible exact hbw) | (with_reducible exact Below.refl _ _) | (with_reducible refine Below.ext_mk ?_ ?_ _ _) | (with_reducible refine Below.alloc ?_ ?_ _) | (with_reducible refine Below.drew ?_) | (with_reducible refine Below.setCell ?_ ?_ _) | go_size))), fun hms => ⟨by omega, by omega, by omega, HALL.out, HRNG.out, HND.out, hms⟩⟩
end Go.Proofs.Ytkblldmpdihamaa
