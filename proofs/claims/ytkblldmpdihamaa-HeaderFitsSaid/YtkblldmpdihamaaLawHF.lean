/-
  HeaderFits answers true: the walk.
-/
import Derived.Test.YtkblldmpdihamaaRefHF
import Derived.Test.YtkblldmpdihamaaKnown19
set_option linter.unusedVariables false
set_option linter.unusedSimpArgs false
namespace Go.Proofs.Ytkblldmpdihamaa
open Go.RowKit

set_option maxRecDepth 100000 in
set_option maxHeartbeats 4000000 in
theorem headerFits_any {w : World} {p : PG} {k : PK} {hs : List (SL × List Int)} {ms es : List Int} {va : List Bool} {fs : List (SL × List (BitVec 128))} {mt : List (BitVec 128)} (FI : FitIn w p k hs ms va fs mt) (E : RdS w 1 p.emit (ints es)) :
    Calls Try.prog 3 #[p.v, k.v] w (Pure (.bool true) w) := by
  have hfl := FI.fields.len
  have hfm := FI.fields.row.2.1
  have hvm := FI.valid.2.1
  have hmm := FI.nums.2.1
  have H := hid FI
  have HE := hid E
  clear FI E
  have HM := hid (fun W (hW : Below w.heap.size w W) => may_any (H.out.heads.below hW) (H.out.metas.below hW) (HE.out.below hW))
  have HF1 := hid (fun W (hW : Below w.heap.size w W) => hfits_any (H.out.below hW))
  have HF2 := hid (fun W (hW : Below w.heap.size w W) => rfits19_any (H.out.below hW))
  have HEq := hid (hfits_rfits hs ms va fs mt)
  obtain ⟨port, rest, ⟨va', vn, vc⟩, ⟨fa, fn, fc⟩, ⟨ma, mn, mc⟩, dr, se, eg, ac⟩ := k
  simp only at hfl hfm hvm hmm
  subst hfl
  go_enter Try.func3, Try.ntmps3
  go_upto_region 1 with (fail)
  refine wp_gen (fun V hV => ?_)
  have hbV : Below w.heap.size w V := by rw [hV]; (repeat' (first | (with_reducible exact Below.refl _ _) | (with_reducible refine Below.ext_mk ?_ ?_ _ _) | (with_reducible refine Below.alloc ?_ ?_ _) | (with_reducible refine Below.drew ?_) | (with_reducible refine Below.setCell ?_ ?_ _) | go_size))
  have bp : Blk V w.heap.size 33 [p.heads.v, p.metas.v, p.steps.v, p.acts.v, p.tabs.v, p.control.v, p.emit.v, p.n0.v, p.n1.v, p.n2.v, p.n3.v, p.n4.v] := by
    rw [hV]
    exact (Blk.new w 33 [p.heads.v, p.metas.v, p.steps.v, p.acts.v, p.tabs.v, p.control.v, p.emit.v, p.n0.v, p.n1.v, p.n2.v, p.n3.v, p.n4.v]).below (by repeat (first | exact Below.refl _ _ | refine Below.alloc ?_ (by simp; try omega) _))
  have bk : Blk V (w.heap.size + 1) 39 (PK.mk port rest ⟨va', vn, vc⟩ ⟨fa, fs.length, fc⟩ ⟨ma, mn, mc⟩ dr se eg ac).cs := by
    rw [hV]
    have h := Blk.new (w.alloc (.cells [p.heads.v, p.metas.v, p.steps.v, p.acts.v, p.tabs.v, p.control.v, p.emit.v, p.n0.v, p.n1.v, p.n2.v, p.n3.v, p.n4.v].toArray 33)) 39 (PK.mk port rest ⟨va', vn, vc⟩ ⟨fa, fs.length, fc⟩ ⟨ma, mn, mc⟩ dr se eg ac).cs
    simp only [World.size_alloc] at h
    exact h
  clear hV
  have BP := hid bp
  have BK := hid bk
  have zp := bp.lt
  have zk := bk.lt
  clear bp bk
  refine wp_region_doc (fun F hF => ?_)
  have HF := hid hF
  clear hF
  refine doc_val rfl (load_agg_op _ _ _ _ _ _ _ _ Try.underlying33 (prog_size _ rfl) rfl BP.out) ?_
  simp only [Act.put, List.setIfInBounds_toArray, List.set_cons_zero, List.set_cons_succ]
  refine doc_call (f := 7) (args := #[p.v]) rfl (by first | (go_simp; done) | (go_simp; exact ⟨rfl, rfl⟩) | (go_simp; with_reducible rfl)) ((HM.out _ hbV).mono ?_)
  rintro e W2 ⟨b, ⟨rfl, m2, d2, rfl⟩, _⟩
  refine ⟨_, rfl, ?_⟩
  simp only [Act.put, List.setIfInBounds_toArray, List.set_cons_zero, List.set_cons_succ]
  cases b
  · iterate 2 (refine doc_val rfl (by first | (go_simp; done) | (go_simp; exact ⟨rfl, rfl⟩) | (go_simp; with_reducible rfl)) ?_; simp only [Act.put, List.setIfInBounds_toArray, List.set_cons_zero, List.set_cons_succ])
    iterate 12 (refine doc_not rfl ?_; simp only [Act.put, List.setIfInBounds_toArray, List.set_cons_zero, List.set_cons_succ])
    refine doc_val rfl (by first | (go_simp; done) | (go_simp; exact ⟨rfl, rfl⟩) | (go_simp; with_reducible rfl)) ?_
    simp only [Act.put, List.setIfInBounds_toArray, List.set_cons_zero, List.set_cons_succ]
    refine doc_end (HF.out _ _ ?_)
    clear HF F
    go_wp2_with (go_at_call 8; refine (known19 _).mono ?_; rintro e w' ⟨rfl, m3, d3, rfl⟩)
    go_returns
    exact Pure.of rfl (by (repeat' (first | (with_reducible exact hbV) | (with_reducible exact Below.refl _ _) | (with_reducible refine Below.ext_mk ?_ ?_ _ _) | (with_reducible refine Below.alloc ?_ ?_ _) | (with_reducible refine Below.drew ?_) | (with_reducible refine Below.setCell ?_ ?_ _) | go_size)))
  · have k2 := (BK.out.ext m2 d2).cell 2
    have k3 := (BK.out.ext m2 d2).cell 3
    have k4 := (BK.out.ext m2 d2).cell 4
    simp only [List.getElem?_cons_zero, List.getElem?_cons_succ, SL.v_mk] at k2 k3 k4
    have zk2 : w.heap.size + 1 < (V.ext m2 d2).heap.size := by simp; omega
    have hb0 : Below V.heap.size V (V.ext m2 d2) := Below.ext_mk (Below.refl _ _) (Nat.le_refl _) _ _
    generalize V.ext m2 d2 = U at *
    iterate 13 (refine doc_val rfl (by first | (go_simp; done) | (go_simp; exact ⟨rfl, rfl⟩) | (go_simp; with_reducible rfl)) ?_; simp only [Act.put, List.setIfInBounds_toArray, List.set_cons_zero, List.set_cons_succ])
    obtain ⟨u, hu⟩ : ∃ u, u = IntKind.i64.wrap (IntKind.i64.wrap ((vn : Int) + (fs.length : Int)) + (mn : Int)) := ⟨_, rfl⟩
    rw [← hu]
    clear hu
    by_cases q : 60 < u
    · iterate 2 (refine doc_val rfl (by first | (go_simp; done) | (go_simp; exact ⟨rfl, rfl⟩) | (go_simp; with_reducible rfl)) ?_; simp only [Act.put, List.setIfInBounds_toArray, List.set_cons_zero, List.set_cons_succ])
      refine doc_end (HF.out _ _ ?_)
      clear HF F
      go_wp2_with (go_at_call 8; refine (known19 _).mono ?_; rintro e w' ⟨rfl, m3, d3, rfl⟩)
      go_returns
      exact Pure.of rfl (by have := hbV.trans (hb0.mono hbV.size); (repeat' (first | (with_reducible exact this) | (with_reducible exact Below.refl _ _) | (with_reducible refine Below.ext_mk ?_ ?_ _ _) | (with_reducible refine Below.alloc ?_ ?_ _) | (with_reducible refine Below.drew ?_) | (with_reducible refine Below.setCell ?_ ?_ _) | go_size)))
    · iterate 2 (refine doc_val rfl (by first | (go_simp; done) | (go_simp; exact ⟨rfl, rfl⟩) | (go_simp; with_reducible rfl)) ?_; simp only [Act.put, List.setIfInBounds_toArray, List.set_cons_zero, List.set_cons_succ])
      refine doc_end (HF.out _ _ ?_)
      clear HF F
      go_wp2_with fail
      clear k2 k3 k4 zk2
      go_loopw [27] (fun i wr => ∃ j : Nat, j ≤ fs.length ∧ i = .int .i64 j ∧ Below V.heap.size V wr) (fun i _ => fs.length - (intOf i).toNat)
      case atStart => exact ⟨0, by omega, rfl, hb0⟩
      case round =>
        clear hb0
        obtain ⟨j, hj, rfl, hb⟩ := hrel
        have hbs := hb.size
        have hbw : Below w.heap.size w wr := hbV.trans (hb.mono hbV.size)
        have k3 := (BK.out.below hb).cell 3
        simp only [List.getElem?_cons_zero, List.getElem?_cons_succ, SL.v_mk] at k3
        have zk2 : w.heap.size + 1 < wr.heap.size := by omega
        by_cases hlt : j < fs.length
        · have hj1 : (j : Int) < (fs.length : Int) := by omega
          obtain ⟨fb, fo, ef, zfb, _, cf⟩ := H.out.fields.row.one (i := j) (u := fs[j].1.v) (by simp [hlt])
          simp only at ef
          subst ef
          have vf := (hbw.cell (p := ⟨fb, fo + j, none⟩) zfb).trans cf
          have zfb' : fb < wr.heap.size := by have := hbw.size; omega
          clear cf
          generalize fs[j] = f at *
          obtain ⟨⟨fa1, fn1, fc1⟩, ns⟩ := f
          simp only [SL.v_mk] at vf
          by_cases q2 : 40 < (fn1 : Int)
          · go_wp2_with (go_at_call 8; refine (known19 _).mono ?_; rintro e w' ⟨rfl, m3, d3, rfl⟩)
            go_returns
            exact Pure.of rfl (by (repeat' (first | (with_reducible exact hbw) | (with_reducible exact Below.refl _ _) | (with_reducible refine Below.ext_mk ?_ ?_ _ _) | (with_reducible refine Below.alloc ?_ ?_ _) | (with_reducible refine Below.drew ?_) | (with_reducible refine Below.setCell ?_ ?_ _) | go_size)))
          · go_wp2_with fail
            go_roundw
            case rel => exact ⟨j + 1, hlt, by go_num, hb⟩
            case measure => simp [intOf]; omega
        · obtain rfl : j = fs.length := by omega
          obtain ⟨fit, hfit⟩ : ∃ fit, fit = rFitsV hs ms va fs mt := ⟨_, rfl⟩
          have A1 := hid (fun W (hW : Below w.heap.size w W) => by have := HF1.out W hW; rw [HEq.out, ← hfit] at this; exact this)
          have A2 := hid (fun W (hW : Below w.heap.size w W) => by have := HF2.out W hW; rw [← hfit] at this; exact this)
          have BPr := hid (BP.out.below hb)
          have BKr := hid (BK.out.below hb)
          clear hfit
          go_upto_region 9 with (fail)
          cases fit
          all_goals
            refine wp_region_ext (by kernel_rfl) (by kernel_rfl) (fun F hF => ?_)
            have HF := hid hF; clear hF
            repeat (first
              | (apply text_skip; (focus rfl); simp only [Act.put, List.setIfInBounds_toArray, List.set_cons_zero, List.set_cons_succ])
              | (apply text_val; (focus rfl); (focus (intro _ _; exact load_agg_op _ _ _ _ _ _ _ _ Try.underlying33 (prog_size _ rfl) rfl (BPr.out.ext _ _))); simp only [Act.put, List.setIfInBounds_toArray, List.set_cons_zero, List.set_cons_succ])
              | (apply text_val; (focus rfl); (focus (intro _ _; exact load_agg_op _ _ _ _ _ _ _ _ Try.underlying39 (pk_size _ rfl) rfl (BKr.out.ext _ _))); simp only [Act.put, List.setIfInBounds_toArray, List.set_cons_zero, List.set_cons_succ])
              | (apply text_if; (focus (first | exact wanted_t rfl rfl | exact wanted_f rfl rfl | exact wanted_gt rfl rfl | exact wanted_gf rfl rfl)); (focus (intro hc _ _; exact load_agg_op _ _ _ _ _ _ _ _ Try.underlying33 (prog_size _ rfl) rfl (BPr.out.ext _ _))); simp only [Act.put, List.setIfInBounds_toArray, List.set_cons_zero, List.set_cons_succ])
              | (apply text_if; (focus (first | exact wanted_t rfl rfl | exact wanted_f rfl rfl | exact wanted_gt rfl rfl | exact wanted_gf rfl rfl)); (focus (intro hc _ _; exact load_agg_op _ _ _ _ _ _ _ _ Try.underlying39 (pk_size _ rfl) rfl (BKr.out.ext _ _))); simp only [Act.put, List.setIfInBounds_toArray, List.set_cons_zero, List.set_cons_succ])
              | (apply text_val; (focus rfl); (focus (intro _ _; go_simp; with_reducible rfl)); simp only [Act.put, List.setIfInBounds_toArray, List.set_cons_zero, List.set_cons_succ])
              | (apply text_call; (focus rfl); (focus (intro _ _; go_simp; exact ⟨rfl, rfl⟩)); (focus (intro _ _; with_reducible (exact A1.out _ (by (repeat' (first | (with_reducible exact hbw) | (with_reducible exact Below.refl _ _) | (with_reducible refine Below.ext_mk ?_ ?_ _ _) | (with_reducible refine Below.alloc ?_ ?_ _) | (with_reducible refine Below.drew ?_) | (with_reducible refine Below.setCell ?_ ?_ _) | go_size)))))); simp only [Act.put, List.setIfInBounds_toArray, List.set_cons_zero, List.set_cons_succ])
              | (apply text_call; (focus rfl); (focus (intro _ _; go_simp; exact ⟨rfl, rfl⟩)); (focus (intro _ _; with_reducible (exact A2.out _ (by (repeat' (first | (with_reducible exact hbw) | (with_reducible exact Below.refl _ _) | (with_reducible refine Below.ext_mk ?_ ?_ _ _) | (with_reducible refine Below.alloc ?_ ?_ _) | (with_reducible refine Below.drew ?_) | (with_reducible refine Below.setCell ?_ ?_ _) | go_size)))))); simp only [Act.put, List.setIfInBounds_toArray, List.set_cons_zero, List.set_cons_succ])
              | (apply text_call; (focus rfl); (focus (intro _ _; go_simp; exact ⟨rfl, rfl⟩)); (focus (intro _ _; with_reducible (exact known19 _))); simp only [Act.put, List.setIfInBounds_toArray, List.set_cons_zero, List.set_cons_succ])
              | (apply text_if; (focus (first | exact wanted_t rfl rfl | exact wanted_f rfl rfl | exact wanted_gt rfl rfl | exact wanted_gf rfl rfl)); (focus (intro hc _ _; (try simp only [Bool.and_eq_true, Bool.not_eq_true', Bool.true_and] at hc); go_simp; with_reducible rfl)); simp only [Act.put, List.setIfInBounds_toArray, List.set_cons_zero, List.set_cons_succ])
              | (apply text_if_call; (focus (first | exact wanted_t rfl rfl | exact wanted_f rfl rfl | exact wanted_gt rfl rfl | exact wanted_gf rfl rfl)); (focus (intro hc _ _; (try simp only [Bool.and_eq_true, Bool.not_eq_true', Bool.true_and] at hc); go_simp; exact ⟨rfl, rfl⟩)); (focus (intro hc _ _; with_reducible (exact A1.out _ (by (repeat' (first | (with_reducible exact hbw) | (with_reducible exact Below.refl _ _) | (with_reducible refine Below.ext_mk ?_ ?_ _ _) | (with_reducible refine Below.alloc ?_ ?_ _) | (with_reducible refine Below.drew ?_) | (with_reducible refine Below.setCell ?_ ?_ _) | go_size)))))); simp only [Act.put, List.setIfInBounds_toArray, List.set_cons_zero, List.set_cons_succ])
              | (apply text_if_call; (focus (first | exact wanted_t rfl rfl | exact wanted_f rfl rfl | exact wanted_gt rfl rfl | exact wanted_gf rfl rfl)); (focus (intro hc _ _; (try simp only [Bool.and_eq_true, Bool.not_eq_true', Bool.true_and] at hc); go_simp; exact ⟨rfl, rfl⟩)); (focus (intro hc _ _; with_reducible (exact A2.out _ (by (repeat' (first | (with_reducible exact hbw) | (with_reducible exact Below.refl _ _) | (with_reducible refine Below.ext_mk ?_ ?_ _ _) | (with_reducible refine Below.alloc ?_ ?_ _) | (with_reducible refine Below.drew ?_) | (with_reducible refine Below.setCell ?_ ?_ _) | go_size)))))); simp only [Act.put, List.setIfInBounds_toArray, List.set_cons_zero, List.set_cons_succ])
              | (apply text_if_call; (focus (first | exact wanted_t rfl rfl | exact wanted_f rfl rfl | exact wanted_gt rfl rfl | exact wanted_gf rfl rfl)); (focus (intro hc _ _; (try simp only [Bool.and_eq_true, Bool.not_eq_true', Bool.true_and] at hc); go_simp; exact ⟨rfl, rfl⟩)); (focus (intro hc _ _; with_reducible (exact known19 _))); simp only [Act.put, List.setIfInBounds_toArray, List.set_cons_zero, List.set_cons_succ]))
            refine text_nil (HF.out _ (fun mx dx => ?_))
            clear HF F
            go_wp2_with fail
            go_returns
            exact Pure.of rfl (by (repeat' (first | (with_reducible exact hbw) | (with_reducible exact Below.refl _ _) | (with_reducible refine Below.ext_mk ?_ ?_ _ _) | (with_reducible refine Below.alloc ?_ ?_ _) | (with_reducible refine Below.drew ?_) | (with_reducible refine Below.setCell ?_ ?_ _) | go_size)))
end Go.Proofs.Ytkblldmpdihamaa
