/-
  Package header: Fits of any packet.
-/
import Derived.Test.YtkblldmpdihamaaZHFits
set_option linter.unusedVariables false
set_option linter.unusedSimpArgs false
namespace Go.Proofs.Ytkblldmpdihamaa
open Go.RowKit

def allF : List (SL × List (BitVec 128)) → List (SL × List Int) → List Bool → Bool
  | f :: fs, x :: hs, v :: va => fitsL f.2 x.2 v && allF fs hs va
  | _, _, _ => true
theorem allF_step {fs : List (SL × List (BitVec 128))} {hs : List (SL × List Int)} {va : List Bool} {j : Nat} (h1 : j < fs.length) (h2 : j < hs.length) (h3 : j < va.length) :
    allF (fs.drop j) (hs.drop j) (va.drop j) = (fitsL fs[j].2 hs[j].2 va[j] && allF (fs.drop (j + 1)) (hs.drop (j + 1)) (va.drop (j + 1))) := by
  rw [List.drop_eq_getElem_cons h1, List.drop_eq_getElem_cons h2, List.drop_eq_getElem_cons h3, allF]
/-- Whether a packet fits a program. -/
def hfitsV (hs : List (SL × List Int)) (ms : List Int) (va : List Bool) (fs : List (SL × List (BitVec 128))) (mt : List (BitVec 128)) : Bool :=
  decide (va.length = hs.length) && (decide (fs.length = hs.length) && (decide (mt.length = ms.length) && (allF fs hs va && fitsL mt ms true)))

structure FitIn (w : World) (p : PG) (k : PK) (hs : List (SL × List Int)) (ms : List Int) (va : List Bool) (fs : List (SL × List (BitVec 128))) (mt : List (BitVec 128)) : Prop where
  heads : HeadsAre w p.heads hs
  metas : RdS w 1 p.metas (ints ms)
  valid : RdS w 1 k.valid (bools va)
  fields : FieldsAre w k.fields fs
  nums : RdS w 2 k.metas (nums mt)
  hin : ∀ x ∈ hs, InI64 x.2
  min : InI64 ms
theorem FitIn.below {w w' : World} {p : PG} {k : PK} {hs : List (SL × List Int)} {ms : List Int} {va : List Bool} {fs : List (SL × List (BitVec 128))} {mt : List (BitVec 128)} (h : FitIn w p k hs ms va fs mt) (hb : Below w.heap.size w w') : FitIn w' p k hs ms va fs mt :=
  ⟨h.heads.below hb, h.metas.below hb, h.valid.below hb, h.fields.below hb, h.nums.below hb, h.hin, h.min⟩

set_option maxRecDepth 100000 in
set_option maxHeartbeats 8000000 in
theorem hfits_any {w : World} {p : PG} {k : PK} {hs : List (SL × List Int)} {ms : List Int} {va : List Bool} {fs : List (SL × List (BitVec 128))} {mt : List (BitVec 128)} (FI : FitIn w p k hs ms va fs mt) :
    Calls Try.prog 9 #[p.v, k.v] w (Pure (.bool (hfitsV hs ms va fs mt)) w) := by
  have hhl := FI.heads.len
  have hfl := FI.fields.len
  have hvl : k.valid.n = va.length := by have := FI.valid.2.2.1; rw [bools_length] at this; omega
  have hml := FI.metas.int
  have hnl : k.metas.n = mt.length := by have := FI.nums.2.2.1; rw [nums_length] at this; omega
  have hfm := FI.fields.row.2.1
  have H := hid FI
  clear FI
  obtain ⟨⟨pa, pn, pc⟩, ⟨ma, mn, mc⟩, s2, s3, s4, s5, s6, n0, n1, n2, n3, n4⟩ := p
  obtain ⟨port, rest, ⟨va', vn, vc⟩, ⟨fa, fn, fc⟩, ⟨na, nn, nc⟩, dr, se, eg, ac⟩ := k
  simp only at hhl hfl hvl hml hnl hfm
  subst hhl hfl hvl hml hnl
  unfold hfitsV
  by_cases e1 : va.length = hs.length
  · have e1' : ((va.length : Int) != (hs.length : Int)) = false := by simp; omega
    by_cases e2 : fs.length = hs.length
    · have e2' : ((fs.length : Int) != (hs.length : Int)) = false := by simp; omega
      by_cases e3 : mt.length = ms.length
      · have e3' : ((mt.length : Int) != (ms.length : Int)) = false := by simp; omega
        have E := hid (And.intro e1 (And.intro e2 e3))
        rw [show decide (va.length = hs.length) = true by simp [e1], show decide (fs.length = hs.length) = true by simp [e2], show decide (mt.length = ms.length) = true by simp [e3], Bool.true_and, Bool.true_and, Bool.true_and]
        clear e1 e2 e3
        go_enter Try.func9, Try.ntmps9
        go_upto_region 1 with (fail)
        refine wp_gen (fun V hV => ?_)
        have hbV : Below w.heap.size w V := by rw [hV]; (repeat' (first | (with_reducible exact Below.refl _ _) | (with_reducible refine Below.ext_mk ?_ ?_ _ _) | (with_reducible refine Below.alloc ?_ ?_ _) | (with_reducible refine Below.drew ?_) | (with_reducible refine Below.setCell ?_ ?_ _) | go_size))
        have bp : Blk V w.heap.size 33 [.slice pa hs.length pc, .slice ma ms.length mc, s2.v, s3.v, s4.v, s5.v, s6.v, n0.v, n1.v, n2.v, n3.v, n4.v] := by
          rw [hV]
          exact (Blk.new w 33 [.slice pa hs.length pc, .slice ma ms.length mc, s2.v, s3.v, s4.v, s5.v, s6.v, n0.v, n1.v, n2.v, n3.v, n4.v]).below (by (repeat' (first | (with_reducible exact Below.refl _ _) | (with_reducible refine Below.ext_mk ?_ ?_ _ _) | (with_reducible refine Below.alloc ?_ ?_ _) | (with_reducible refine Below.drew ?_) | (with_reducible refine Below.setCell ?_ ?_ _) | go_size)))
        have bk : Blk V (w.heap.size + 1) 39 [.int .i64 port, rest.v, .slice va' va.length vc, .slice fa fs.length fc, .slice na mt.length nc, .bool dr, .bool se, .int .i64 eg, .bool ac] := by
          rw [hV]
          have h := Blk.new (w.alloc (.cells #[.slice pa hs.length pc, .slice ma ms.length mc, s2.v, s3.v, s4.v, s5.v, s6.v, n0.v, n1.v, n2.v, n3.v, n4.v] 33)) 39 [.int .i64 port, rest.v, .slice va' va.length vc, .slice fa fs.length fc, .slice na mt.length nc, .bool dr, .bool se, .int .i64 eg, .bool ac]
          simpa using h
        clear hV
        have c0 := bp.cell 0
        have c1 := bp.cell 1
        have k2 := bk.cell 2
        have k3 := bk.cell 3
        have k4 := bk.cell 4
        simp only [List.getElem?_cons_zero, List.getElem?_cons_succ] at c0 c1 k2 k3 k4
        have zp := bp.lt
        have zk := bk.lt
        clear bp bk
        refine wp_region_seq (fun F hF => ?_)
        have HF := hid hF; clear hF
        repeat (first
          | (apply text_skip; (focus rfl); simp only [Act.put, List.setIfInBounds_toArray, List.set_cons_zero, List.set_cons_succ])
          | (apply text_val; (focus rfl); (focus (intro _ _; go_simp; with_reducible rfl)); simp only [Act.put, List.setIfInBounds_toArray, List.set_cons_zero, List.set_cons_succ])
          | (apply text_if; (focus (first | exact wanted_t rfl rfl | exact wanted_f rfl rfl | exact wanted_gt rfl rfl | exact wanted_gf rfl rfl)); (focus (intro hc _ _; (try simp only [Bool.and_eq_true, Bool.not_eq_true', Bool.true_and] at hc); go_simp; with_reducible rfl)); simp only [Act.put, List.setIfInBounds_toArray, List.set_cons_zero, List.set_cons_succ]))
        refine text_nil (HF.out _ (fun mx dx => ?_))
        clear HF F
        go_wp2_with fail
        go_loopw [36] (fun i wr => ∃ j : Nat, j ≤ fs.length ∧ i = .int .i64 j ∧ allF fs hs va = allF (fs.drop j) (hs.drop j) (va.drop j) ∧ Below V.heap.size V wr) (fun i _ => fs.length - (intOf i).toNat)
        case atStart => exact ⟨0, by omega, rfl, rfl, by (repeat' (first | (with_reducible exact Below.refl _ _) | (with_reducible refine Below.ext_mk ?_ ?_ _ _) | (with_reducible refine Below.alloc ?_ ?_ _) | (with_reducible refine Below.drew ?_) | (with_reducible refine Below.setCell ?_ ?_ _) | go_size))⟩
        case round =>
          obtain ⟨j, hj, rfl, hall, hb⟩ := hrel
          have hbs := hb.size
          have HA := hid hall
          have hbw := hbV.trans (hb.mono hbV.size)
          clear hall
          have y0 := (hb.cell (p := ⟨w.heap.size, 0, none⟩) zp).trans c0
          have y1 := (hb.cell (p := ⟨w.heap.size, 1, none⟩) zp).trans c1
          have y2 := (hb.cell (p := ⟨w.heap.size + 1, 2, none⟩) zk).trans k2
          have y3 := (hb.cell (p := ⟨w.heap.size + 1, 3, none⟩) zk).trans k3
          have y4 := (hb.cell (p := ⟨w.heap.size + 1, 4, none⟩) zk).trans k4
          have zp' : w.heap.size < wr.heap.size := by omega
          have zk' : w.heap.size + 1 < wr.heap.size := by omega
          clear c0 c1 k2 k3 k4
          by_cases hlt : j < fs.length
          · have hj1 : (j : Int) < (fs.length : Int) := by omega
            have hjh : j < hs.length := by have := E.out.2.1; omega
            have hjv : j < va.length := by have := E.out.1; omega
            have hst := hid (allF_step hlt hjh hjv)
            obtain ⟨fb, fo, ef, zf, _, cf⟩ := H.out.fields.row.one (i := j) (u := fs[j].1.v) (by simp [hlt])
            obtain ⟨pb, po, ep, zpp, _, cp⟩ := H.out.heads.row.one (i := j) (u := hs[j].1.v) (by simp [hjh])
            obtain ⟨vb, vo, ev, zv, _, cv⟩ := H.out.valid.one (i := j) (u := .bool va[j]) (by simp [bools, hjv])
            simp only at ef ep ev
            subst ef ep ev
            have df := (hbw.cell (p := ⟨fb, fo + j, none⟩) zf).trans cf
            have dp := (hbw.cell (p := ⟨pb, po + j, none⟩) zpp).trans cp
            have dv := (hbw.cell (p := ⟨vb, vo + j, none⟩) zv).trans cv
            have hF := hid (fun W (hW : Below wr.heap.size wr W) => fits1_any (((H.out.fields.each fs[j] (List.getElem_mem _)).below hbw).below hW) (((H.out.heads.each hs[j] (List.getElem_mem _)).below hbw).below hW) (H.out.hin hs[j] (List.getElem_mem _)) va[j])
            have hj2 : (j : Int) < (hs.length : Int) := by omega
            have hj3 : (j : Int) < (va.length : Int) := by omega
            have zf' : fb < wr.heap.size := by have := hbw.size; omega
            have zpp' : pb < wr.heap.size := by have := hbw.size; omega
            have zv' : vb < wr.heap.size := by have := hbw.size; omega
            generalize fs[j] = f at *
            generalize hs[j] = x at *
            generalize va[j] = v at *
            obtain ⟨⟨f1, f2, f3⟩, f4⟩ := f
            obtain ⟨⟨x1, x2, x3⟩, x4⟩ := x
            simp only [SL.v_mk] at df dp hF hst
            clear cf cp cv
            cases hfv : fitsL f4 x4 v
            · rw [hfv] at hF hst
              go_upto_region 7 with (fail)
              refine wp_region_ext (by kernel_rfl) (by kernel_rfl) (fun F hF => ?_)
              have HF := hid hF; clear hF
              repeat (first
                | (apply text_skip; (focus rfl); simp only [Act.put, List.setIfInBounds_toArray, List.set_cons_zero, List.set_cons_succ])
                | (apply text_val; (focus rfl); (focus (intro _ _; go_simp; with_reducible rfl)); simp only [Act.put, List.setIfInBounds_toArray, List.set_cons_zero, List.set_cons_succ])
                | (apply text_call; (focus rfl); (focus (intro _ _; go_simp; exact ⟨rfl, rfl⟩)); (focus (intro _ _; with_reducible (exact hF.out _ (by (repeat' (first | (with_reducible exact Below.refl _ _) | (with_reducible refine Below.ext_mk ?_ ?_ _ _) | (with_reducible refine Below.alloc ?_ ?_ _) | (with_reducible refine Below.drew ?_) | (with_reducible refine Below.setCell ?_ ?_ _) | go_size)))))); simp only [Act.put, List.setIfInBounds_toArray, List.set_cons_zero, List.set_cons_succ])
                | (apply text_if; (focus (first | exact wanted_t rfl rfl | exact wanted_f rfl rfl | exact wanted_gt rfl rfl | exact wanted_gf rfl rfl)); (focus (intro hc _ _; (try simp only [Bool.and_eq_true, Bool.not_eq_true', Bool.true_and] at hc); go_simp; with_reducible rfl)); simp only [Act.put, List.setIfInBounds_toArray, List.set_cons_zero, List.set_cons_succ])
                | (apply text_if_call; (focus (first | exact wanted_t rfl rfl | exact wanted_f rfl rfl | exact wanted_gt rfl rfl | exact wanted_gf rfl rfl)); (focus (intro hc _ _; (try simp only [Bool.and_eq_true, Bool.not_eq_true', Bool.true_and] at hc); go_simp; exact ⟨rfl, rfl⟩)); (focus (intro hc _ _; with_reducible (exact hF.out _ (by (repeat' (first | (with_reducible exact Below.refl _ _) | (with_reducible refine Below.ext_mk ?_ ?_ _ _) | (with_reducible refine Below.alloc ?_ ?_ _) | (with_reducible refine Below.drew ?_) | (with_reducible refine Below.setCell ?_ ?_ _) | go_size)))))); simp only [Act.put, List.setIfInBounds_toArray, List.set_cons_zero, List.set_cons_succ]))
              refine text_nil (HF.out _ (fun mx dx => ?_))
              clear HF F
              go_wp2_with fail
              go_returns
              exact Pure.of (by rw [HA.out, hst.out]; rfl) (Below.ext_mk hbw hbw.size _ _)
            · rw [hfv] at hF hst
              go_upto_region 7 with (fail)
              refine wp_region_ext (by kernel_rfl) (by kernel_rfl) (fun F hF => ?_)
              have HF := hid hF; clear hF
              repeat (first
                | (apply text_skip; (focus rfl); simp only [Act.put, List.setIfInBounds_toArray, List.set_cons_zero, List.set_cons_succ])
                | (apply text_val; (focus rfl); (focus (intro _ _; go_simp; with_reducible rfl)); simp only [Act.put, List.setIfInBounds_toArray, List.set_cons_zero, List.set_cons_succ])
                | (apply text_call; (focus rfl); (focus (intro _ _; go_simp; exact ⟨rfl, rfl⟩)); (focus (intro _ _; with_reducible (exact hF.out _ (by (repeat' (first | (with_reducible exact Below.refl _ _) | (with_reducible refine Below.ext_mk ?_ ?_ _ _) | (with_reducible refine Below.alloc ?_ ?_ _) | (with_reducible refine Below.drew ?_) | (with_reducible refine Below.setCell ?_ ?_ _) | go_size)))))); simp only [Act.put, List.setIfInBounds_toArray, List.set_cons_zero, List.set_cons_succ])
                | (apply text_if; (focus (first | exact wanted_t rfl rfl | exact wanted_f rfl rfl | exact wanted_gt rfl rfl | exact wanted_gf rfl rfl)); (focus (intro hc _ _; (try simp only [Bool.and_eq_true, Bool.not_eq_true', Bool.true_and] at hc); go_simp; with_reducible rfl)); simp only [Act.put, List.setIfInBounds_toArray, List.set_cons_zero, List.set_cons_succ])
                | (apply text_if_call; (focus (first | exact wanted_t rfl rfl | exact wanted_f rfl rfl | exact wanted_gt rfl rfl | exact wanted_gf rfl rfl)); (focus (intro hc _ _; (try simp only [Bool.and_eq_true, Bool.not_eq_true', Bool.true_and] at hc); go_simp; exact ⟨rfl, rfl⟩)); (focus (intro hc _ _; with_reducible (exact hF.out _ (by (repeat' (first | (with_reducible exact Below.refl _ _) | (with_reducible refine Below.ext_mk ?_ ?_ _ _) | (with_reducible refine Below.alloc ?_ ?_ _) | (with_reducible refine Below.drew ?_) | (with_reducible refine Below.setCell ?_ ?_ _) | go_size)))))); simp only [Act.put, List.setIfInBounds_toArray, List.set_cons_zero, List.set_cons_succ]))
              refine text_nil (HF.out _ (fun mx dx => ?_))
              clear HF F
              go_wp2_with fail
              go_roundw
              case rel => exact ⟨j + 1, hlt, by go_num, by rw [HA.out, hst.out]; rfl, Below.ext_mk hb hbs _ _⟩
              case measure => simp [intOf]; omega
          · obtain rfl : j = fs.length := by omega
            have hF := hid (fun W (hW : Below wr.heap.size wr W) => fits1_any ((H.out.nums.below hbw).below hW) ((H.out.metas.below hbw).below hW) H.out.min true)
            have hend : allF fs hs va = true := by
              rw [HA.out, List.drop_length]; simp [allF]
            simp only [SL.v_mk] at hF
            have HE := hid hend
            clear hend
            go_wp2_with (go_at_call 28; refine (hF.out _ (by (repeat' (first | (with_reducible exact Below.refl _ _) | (with_reducible refine Below.ext_mk ?_ ?_ _ _) | (with_reducible refine Below.alloc ?_ ?_ _) | (with_reducible refine Below.drew ?_) | (with_reducible refine Below.setCell ?_ ?_ _) | go_size)))).mono ?_; rintro e w' ⟨rfl, m2, d2, rfl⟩)
            go_returns
            exact Pure.of (by rw [HE.out, Bool.true_and]; rfl) (Below.ext_mk hbw hbw.size _ _)
      · have e3' : ((mt.length : Int) != (ms.length : Int)) = true := by simp; omega
        rw [show decide (va.length = hs.length) = true by simp [e1], show decide (fs.length = hs.length) = true by simp [e2], show decide (mt.length = ms.length) = false by simp [e3], Bool.true_and, Bool.true_and, Bool.false_and]
        clear e1 e2 e3 H
        go_enter Try.func9, Try.ntmps9
        go_upto_region 1 with (fail)
        refine wp_region_seq (fun F hF => ?_)
        have HF := hid hF; clear hF
        repeat (first
          | (apply text_skip; (focus rfl); simp only [Act.put, List.setIfInBounds_toArray, List.set_cons_zero, List.set_cons_succ])
          | (apply text_val; (focus rfl); (focus (intro _ _; go_simp; with_reducible rfl)); simp only [Act.put, List.setIfInBounds_toArray, List.set_cons_zero, List.set_cons_succ])
          | (apply text_if; (focus (first | exact wanted_t rfl rfl | exact wanted_f rfl rfl | exact wanted_gt rfl rfl | exact wanted_gf rfl rfl)); (focus (intro hc _ _; (try simp only [Bool.and_eq_true, Bool.not_eq_true', Bool.true_and] at hc); go_simp; with_reducible rfl)); simp only [Act.put, List.setIfInBounds_toArray, List.set_cons_zero, List.set_cons_succ]))
        refine text_nil (HF.out _ (fun mx dx => ?_))
        clear HF F
        go_wp2_with fail
        go_returns
        exact Pure.of rfl (by (repeat' (first | (with_reducible exact Below.refl _ _) | (with_reducible refine Below.ext_mk ?_ ?_ _ _) | (with_reducible refine Below.alloc ?_ ?_ _) | (with_reducible refine Below.drew ?_) | (with_reducible refine Below.setCell ?_ ?_ _) | go_size)))
    · have e2' : ((fs.length : Int) != (hs.length : Int)) = true := by simp; omega
      rw [show decide (va.length = hs.length) = true by simp [e1], show decide (fs.length = hs.length) = false by simp [e2], Bool.true_and, Bool.false_and]
      clear e1 e2 H
      go_enter Try.func9, Try.ntmps9
      go_upto_region 1 with (fail)
      refine wp_region_seq (fun F hF => ?_)
      have HF := hid hF; clear hF
      repeat (first
        | (apply text_skip; (focus rfl); simp only [Act.put, List.setIfInBounds_toArray, List.set_cons_zero, List.set_cons_succ])
        | (apply text_val; (focus rfl); (focus (intro _ _; go_simp; with_reducible rfl)); simp only [Act.put, List.setIfInBounds_toArray, List.set_cons_zero, List.set_cons_succ])
        | (apply text_if; (focus (first | exact wanted_t rfl rfl | exact wanted_f rfl rfl | exact wanted_gt rfl rfl | exact wanted_gf rfl rfl)); (focus (intro hc _ _; (try simp only [Bool.and_eq_true, Bool.not_eq_true', Bool.true_and] at hc); go_simp; with_reducible rfl)); simp only [Act.put, List.setIfInBounds_toArray, List.set_cons_zero, List.set_cons_succ]))
      refine text_nil (HF.out _ (fun mx dx => ?_))
      clear HF F
      go_wp2_with fail
      go_returns
      exact Pure.of rfl (by (repeat' (first | (with_reducible exact Below.refl _ _) | (with_reducible refine Below.ext_mk ?_ ?_ _ _) | (with_reducible refine Below.alloc ?_ ?_ _) | (with_reducible refine Below.drew ?_) | (with_reducible refine Below.setCell ?_ ?_ _) | go_size)))
  · have e1' : ((va.length : Int) != (hs.length : Int)) = true := by simp; omega
    rw [show decide (va.length = hs.length) = false by simp [e1], Bool.false_and]
    clear e1 H
    go_enter Try.func9, Try.ntmps9
    go_upto_region 1 with (fail)
    refine wp_region_seq (fun F hF => ?_)
    have HF := hid hF; clear hF
    repeat (first
      | (apply text_skip; (focus rfl); simp only [Act.put, List.setIfInBounds_toArray, List.set_cons_zero, List.set_cons_succ])
      | (apply text_val; (focus rfl); (focus (intro _ _; go_simp; with_reducible rfl)); simp only [Act.put, List.setIfInBounds_toArray, List.set_cons_zero, List.set_cons_succ])
      | (apply text_if; (focus (first | exact wanted_t rfl rfl | exact wanted_f rfl rfl | exact wanted_gt rfl rfl | exact wanted_gf rfl rfl)); (focus (intro hc _ _; (try simp only [Bool.and_eq_true, Bool.not_eq_true', Bool.true_and] at hc); go_simp; with_reducible rfl)); simp only [Act.put, List.setIfInBounds_toArray, List.set_cons_zero, List.set_cons_succ]))
    refine text_nil (HF.out _ (fun mx dx => ?_))
    clear HF F
    go_wp2_with fail
    go_returns
    exact Pure.of rfl (by (repeat' (first | (with_reducible exact Below.refl _ _) | (with_reducible refine Below.ext_mk ?_ ?_ _ _) | (with_reducible refine Below.alloc ?_ ?_ _) | (with_reducible refine Below.drew ?_) | (with_reducible refine Below.setCell ?_ ?_ _) | go_size)))
end Go.Proofs.Ytkblldmpdihamaa
