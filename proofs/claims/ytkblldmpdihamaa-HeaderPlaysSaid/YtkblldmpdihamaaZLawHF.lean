/-
  The document's packets that fit (quillonref19.Fits).
-/
import Derived.Test.YtkblldmpdihamaaZRefHN
import Derived.Test.YtkblldmpdihamaaZKnown19
set_option linter.unusedVariables false
set_option linter.unusedSimpArgs false
namespace Go.Proofs.Ytkblldmpdihamaa
open Go.RowKit

def zeros (ns : List (BitVec 128)) : Bool := ns.all (fun n => decide (n = 0#128))
def allR : List (SL × List (BitVec 128)) → List (SL × List Int) → List Bool → Bool
  | f :: fs, x :: hs, v :: va => (rfitsL f.2 x.2 && (v || zeros f.2)) && allR fs hs va
  | _, _, _ => true
theorem allR_step {fs : List (SL × List (BitVec 128))} {hs : List (SL × List Int)} {va : List Bool} {j : Nat} (h1 : j < fs.length) (h2 : j < hs.length) (h3 : j < va.length) :
    allR (fs.drop j) (hs.drop j) (va.drop j) = ((rfitsL fs[j].2 hs[j].2 && (va[j] || zeros fs[j].2)) && allR (fs.drop (j + 1)) (hs.drop (j + 1)) (va.drop (j + 1))) := by
  rw [List.drop_eq_getElem_cons h1, List.drop_eq_getElem_cons h2, List.drop_eq_getElem_cons h3, allR]
/-- Whether a packet fits a program, as the document has it. -/
def rFitsV (hs : List (SL × List Int)) (ms : List Int) (va : List Bool) (fs : List (SL × List (BitVec 128))) (mt : List (BitVec 128)) : Bool :=
  decide (va.length = hs.length) && (decide (fs.length = hs.length) && (rfitsL mt ms && allR fs hs va))
theorem fitsL_rfitsL : ∀ (ns : List (BitVec 128)) (ws : List Int) (on : Bool), fitsL ns ws on = (rfitsL ns ws && (on || zeros ns))
  | [], ws, on => by simp [fitsL, rfitsL, zeros]
  | n :: r, [], on => by simp [fitsL, rfitsL]
  | n :: r, x :: ws, on => by
    rw [fitsL, rfitsL, fitsL_rfitsL r ws on, rfits_fits]
    unfold zeros
    rw [List.all_cons]
    cases fits n x <;> cases on <;> cases rfitsL r ws <;> simp
theorem allF_allR : ∀ (fs : List (SL × List (BitVec 128))) (hs : List (SL × List Int)) (va : List Bool), allF fs hs va = allR fs hs va
  | [], _, _ => rfl
  | _ :: _, [], _ => rfl
  | _ :: _, _ :: _, [] => rfl
  | f :: fs, x :: hs, v :: va => by rw [allF, allR, allF_allR fs hs va, fitsL_rfitsL]
theorem hfits_rfits (hs : List (SL × List Int)) (ms : List Int) (va : List Bool) (fs : List (SL × List (BitVec 128))) (mt : List (BitVec 128)) : hfitsV hs ms va fs mt = rFitsV hs ms va fs mt := by
  unfold hfitsV rFitsV
  rw [allF_allR, fitsL_rfitsL]
  by_cases h : mt.length = ms.length
  · simp [h, Bool.and_comm]
  · rw [rfitsL_len mt ms h]; simp [h]

set_option maxRecDepth 100000 in
set_option maxHeartbeats 4000000 in
theorem rfits19_any {w : World} {p : PG} {k : PK} {hs : List (SL × List Int)} {ms : List Int} {va : List Bool} {fs : List (SL × List (BitVec 128))} {mt : List (BitVec 128)} (FI : FitIn w p k hs ms va fs mt) :
    Calls Try.prog 10 #[p.v, k.v] w (Pure (.bool (rFitsV hs ms va fs mt)) w) := by
  have hhl := FI.heads.len
  have hfl := FI.fields.len
  have hvl : k.valid.n = va.length := by have := FI.valid.2.2.1; rw [bools_length] at this; omega
  have hhm := FI.heads.row.2.1
  have hfm := FI.fields.row.2.1
  have hvm := FI.valid.2.1
  have H := hid FI
  clear FI
  have C0 : ∀ (n : BitVec 128) (W : World), Calls Try.prog 31 #[nv n, .agg #[.int .u64 0, .int .u64 0]] W (Pure (.int .i64 (cmp0 n)) W) := fun n W => by
    have := rcmp0_any n W
    rwa [nv_zero] at this
  have CM := hid C0
  clear C0
  obtain ⟨⟨pa, pn, pc⟩, pm, s2, s3, s4, s5, em, n0, n1, n2, n3, n4⟩ := p
  obtain ⟨port, rest, ⟨va', vn, vc⟩, ⟨fa, fn, fc⟩, kmt, dr, se, eg, ac⟩ := k
  simp only at hhl hfl hvl hhm hfm hvm
  subst hhl hfl hvl
  by_cases e1 : va.length ≠ hs.length
  · have ne1 : ((va.length : Int) != (hs.length : Int)) = true := by simp; omega
    have HV : Hid (rFitsV hs ms va fs mt = false) := hid (by unfold rFitsV; simp [e1])
    clear e1
    go_enter Try.func10, Try.ntmps10
    go_wp2_with fail
    go_returns
    exact Pure.of (by rw [HV.out]; rfl) (by (repeat' (first | (with_reducible exact Below.refl _ _) | (with_reducible refine Below.ext_mk ?_ ?_ _ _) | (with_reducible refine Below.alloc ?_ ?_ _) | (with_reducible refine Below.drew ?_) | (with_reducible refine Below.setCell ?_ ?_ _) | go_size)))
  by_cases e2 : fs.length ≠ hs.length
  · have e1 : va.length = hs.length := by omega
    have ne1 : ((va.length : Int) != (hs.length : Int)) = false := by simp; omega
    have ne2 : ((fs.length : Int) != (hs.length : Int)) = true := by simp; omega
    have HV : Hid (rFitsV hs ms va fs mt = false) := hid (by unfold rFitsV; simp [e2])
    clear e1 e2
    go_enter Try.func10, Try.ntmps10
    go_wp2_with fail
    go_returns
    exact Pure.of (by rw [HV.out]; rfl) (by (repeat' (first | (with_reducible exact Below.refl _ _) | (with_reducible refine Below.ext_mk ?_ ?_ _ _) | (with_reducible refine Below.alloc ?_ ?_ _) | (with_reducible refine Below.drew ?_) | (with_reducible refine Below.setCell ?_ ?_ _) | go_size)))
  have e1 : va.length = hs.length := by omega
  have e2 : fs.length = hs.length := by omega
  have ne1 : ((va.length : Int) != (hs.length : Int)) = false := by simp; omega
  have ne2 : ((fs.length : Int) != (hs.length : Int)) = false := by simp; omega
  have NM := hid (fun W (hW : Below w.heap.size w W) => rnumbers_any (H.out.nums.below hW) (H.out.metas.below hW))
  simp only at NM
  cases hnm : rfitsL mt ms
  · have HV : Hid (rFitsV hs ms va fs mt = false) := hid (by unfold rFitsV; simp [hnm])
    rw [hnm] at NM
    clear e1 e2 hnm
    go_enter Try.func10, Try.ntmps10
    go_upto_region 2 with (fail)
    refine wp_region_doc (fun F hF => ?_)
    have HF := hid hF
    clear hF
    iterate 17 (refine doc_val rfl (by first | (go_simp; done) | (go_simp; exact ⟨rfl, rfl⟩) | (go_simp; with_reducible rfl)) ?_; simp only [Act.put, List.setIfInBounds_toArray, List.set_cons_zero, List.set_cons_succ])
    refine doc_call rfl (by first | (go_simp; done) | (go_simp; exact ⟨rfl, rfl⟩) | (go_simp; with_reducible rfl)) (Calls.mono (NM.out _ (by (repeat' (first | (with_reducible exact Below.refl _ _) | (with_reducible refine Below.ext_mk ?_ ?_ _ _) | (with_reducible refine Below.alloc ?_ ?_ _) | (with_reducible refine Below.drew ?_) | (with_reducible refine Below.setCell ?_ ?_ _) | go_size)))) ?_)
    rintro _ _ ⟨rfl, mz, dz, rfl⟩
    refine ⟨_, rfl, ?_⟩
    simp only [Act.put, List.setIfInBounds_toArray, List.set_cons_zero, List.set_cons_succ]
    iterate 2 (refine doc_val rfl (by first | (go_simp; done) | (go_simp; exact ⟨rfl, rfl⟩) | (go_simp; with_reducible rfl)) ?_; simp only [Act.put, List.setIfInBounds_toArray, List.set_cons_zero, List.set_cons_succ])
    refine doc_end (HF.out _ _ ?_)
    clear HF F
    go_wp2_with fail
    go_returns
    exact Pure.of (by rw [HV.out]; rfl) (by (repeat' (first | (with_reducible exact Below.refl _ _) | (with_reducible refine Below.ext_mk ?_ ?_ _ _) | (with_reducible refine Below.alloc ?_ ?_ _) | (with_reducible refine Below.drew ?_) | (with_reducible refine Below.setCell ?_ ?_ _) | go_size)))
  rw [hnm] at NM
  have HV : Hid (rFitsV hs ms va fs mt = allR fs hs va) := hid (by unfold rFitsV; simp [hnm, e1, e2])
  have E1 := hid e1
  have E2 := hid e2
  clear e1 e2 hnm
  go_enter Try.func10, Try.ntmps10
  go_upto_region 2 with (fail)
  refine wp_region_doc (fun F hF => ?_)
  have HF := hid hF
  clear hF
  iterate 17 (refine doc_val rfl (by first | (go_simp; done) | (go_simp; exact ⟨rfl, rfl⟩) | (go_simp; with_reducible rfl)) ?_; simp only [Act.put, List.setIfInBounds_toArray, List.set_cons_zero, List.set_cons_succ])
  refine doc_call rfl (by first | (go_simp; done) | (go_simp; exact ⟨rfl, rfl⟩) | (go_simp; with_reducible rfl)) (Calls.mono (NM.out _ (by (repeat' (first | (with_reducible exact Below.refl _ _) | (with_reducible refine Below.ext_mk ?_ ?_ _ _) | (with_reducible refine Below.alloc ?_ ?_ _) | (with_reducible refine Below.drew ?_) | (with_reducible refine Below.setCell ?_ ?_ _) | go_size)))) ?_)
  rintro _ _ ⟨rfl, mz, dz, rfl⟩
  refine ⟨_, rfl, ?_⟩
  simp only [Act.put, List.setIfInBounds_toArray, List.set_cons_zero, List.set_cons_succ]
  iterate 2 (refine doc_val rfl (by first | (go_simp; done) | (go_simp; exact ⟨rfl, rfl⟩) | (go_simp; with_reducible rfl)) ?_; simp only [Act.put, List.setIfInBounds_toArray, List.set_cons_zero, List.set_cons_succ])
  refine doc_end (HF.out _ _ ?_)
  clear HF F
  go_upto_region 4 with (fail)
  refine wp_gen (fun V hV => ?_)
  have hbV : Below w.heap.size w V := by rw [hV]; (repeat' (first | (with_reducible exact Below.refl _ _) | (with_reducible refine Below.ext_mk ?_ ?_ _ _) | (with_reducible refine Below.alloc ?_ ?_ _) | (with_reducible refine Below.drew ?_) | (with_reducible refine Below.setCell ?_ ?_ _) | go_size))
  have bp : Blk V w.heap.size 33 [.slice pa hs.length pc, pm.v, s2.v, s3.v, s4.v, s5.v, em.v, n0.v, n1.v, n2.v, n3.v, n4.v] := by
    rw [hV]
    exact (Blk.new w 33 [.slice pa hs.length pc, pm.v, s2.v, s3.v, s4.v, s5.v, em.v, n0.v, n1.v, n2.v, n3.v, n4.v]).below (Below.ext_mk (by repeat (first | exact Below.refl _ _ | refine Below.alloc ?_ (by simp; try omega) _)) (by simp) _ _)
  have bk : Blk V (w.heap.size + 1) 39 [.int .i64 port, rest.v, .slice va' va.length vc, .slice fa fs.length fc, kmt.v, .bool dr, .bool se, .int .i64 eg, .bool ac] := by
    rw [hV]
    have h := Blk.new (w.alloc (.cells [.slice pa hs.length pc, pm.v, s2.v, s3.v, s4.v, s5.v, em.v, n0.v, n1.v, n2.v, n3.v, n4.v].toArray 33)) 39 [.int .i64 port, rest.v, .slice va' va.length vc, .slice fa fs.length fc, kmt.v, .bool dr, .bool se, .int .i64 eg, .bool ac]
    simp only [World.size_alloc] at h
    exact h.ext _ _
  clear hV NM
  have BP := hid bp
  have BK := hid bk
  have zp := bp.lt
  have zk := bk.lt
  clear bp bk
  go_wp2_with fail
  go_loopw [6] (fun i wr => ∃ j : Nat, j ≤ hs.length ∧ i = .int .i64 j ∧ allR fs hs va = allR (fs.drop j) (hs.drop j) (va.drop j) ∧ Below V.heap.size V wr) (fun i _ => hs.length - (intOf i).toNat)
  case atStart => exact ⟨0, by omega, rfl, rfl, Below.refl _ _⟩
  case round =>
    obtain ⟨j, hj, rfl, hfit, hb⟩ := hrel
    have hbs := hb.size
    have HFit := hid hfit
    clear hfit
    by_cases hlt : j < hs.length
    · have hj1 : (j : Int) < (hs.length : Int) := by omega
      have hj2 : j < fs.length := by have := E2.out; omega
      have hj3 : j < va.length := by have := E1.out; omega
      have hj2' : (j : Int) < (fs.length : Int) := by omega
      have hj3' : (j : Int) < (va.length : Int) := by omega
      have hbw : Below w.heap.size w wr := hbV.trans (hb.mono hbV.size)
      have hst := hid (allR_step hj2 hlt hj3)
      obtain ⟨pb, po, ep, zpb, _, cp⟩ := H.out.heads.row.one (i := j) (u := hs[j].1.v) (by simp [hlt])
      obtain ⟨fb, fo, ef, zfb, _, cf⟩ := H.out.fields.row.one (i := j) (u := fs[j].1.v) (by simp [hj2])
      obtain ⟨vb, vo, ev, zvb, _, cv⟩ := H.out.valid.one (i := j) (u := .bool va[j]) (by simp [bools, hj3])
      simp only at ep ef ev
      subst ep ef ev
      have vp := (hbw.cell (p := ⟨pb, po + j, none⟩) zpb).trans cp
      have vf := (hbw.cell (p := ⟨fb, fo + j, none⟩) zfb).trans cf
      have vv := (hbw.cell (p := ⟨vb, vo + j, none⟩) zvb).trans cv
      have zpb' : pb < wr.heap.size := by have := hbw.size; omega
      have zfb' : fb < wr.heap.size := by have := hbw.size; omega
      have zvb' : vb < wr.heap.size := by have := hbw.size; omega
      have c0 := (BP.out.below hb).cell 0
      have k2 := (BK.out.below hb).cell 2
      have k3 := (BK.out.below hb).cell 3
      simp only [List.getElem?_cons_zero, List.getElem?_cons_succ] at c0 k2 k3
      have zp' : w.heap.size < wr.heap.size := by omega
      have zk' : w.heap.size + 1 < wr.heap.size := by omega
      have A := H.out.heads.each hs[j] (List.getElem_mem _)
      have B := H.out.fields.each fs[j] (List.getElem_mem _)
      have hfn : fs[j].1.n = fs[j].2.length := by have := B.2.2.1; rw [nums_length] at this; omega
      have hfnm := B.2.1
      have NM := hid (fun W (hW : Below w.heap.size w W) => rnumbers_any (B.below hW) (A.below hW))
      have HB := hid B
      have VV := hid (fun W (hW : Below w.heap.size w W) => (hW.cell (p := ⟨vb, vo + j, none⟩) zvb).trans cv)
      have VF := hid (fun W (hW : Below w.heap.size w W) => (hW.cell (p := ⟨fb, fo + j, none⟩) zfb).trans cf)
      clear A B cp cf cv
      generalize hs[j] = x at *
      generalize fs[j] = f at *
      generalize va[j] = v at *
      obtain ⟨⟨xa, xn, xc⟩, ws⟩ := x
      obtain ⟨⟨fa1, fn1, fc1⟩, ns⟩ := f
      simp only [SL.v_mk] at hfn hfnm vp vf hst NM HB VF
      subst hfn
      cases hr : rfitsL ns ws
      · rw [hr] at NM hst
        go_upto_region 7 with (fail)
        refine wp_region_ext (by kernel_rfl) (by kernel_rfl) (fun F hF => ?_)
        have HF := hid hF; clear hF
        repeat (first
          | (apply text_skip; (focus rfl); simp only [Act.put, List.setIfInBounds_toArray, List.set_cons_zero, List.set_cons_succ])
          | (apply text_val; (focus rfl); (focus (intro _ _; go_simp; with_reducible rfl)); simp only [Act.put, List.setIfInBounds_toArray, List.set_cons_zero, List.set_cons_succ])
          | (apply text_call; (focus rfl); (focus (intro _ _; go_simp; exact ⟨rfl, rfl⟩)); (focus (intro _ _; with_reducible (exact NM.out _ (by (repeat' (first | (with_reducible exact hbw) | (with_reducible exact Below.refl _ _) | (with_reducible refine Below.ext_mk ?_ ?_ _ _) | (with_reducible refine Below.alloc ?_ ?_ _) | (with_reducible refine Below.drew ?_) | (with_reducible refine Below.setCell ?_ ?_ _) | go_size)))))); simp only [Act.put, List.setIfInBounds_toArray, List.set_cons_zero, List.set_cons_succ])
          | (apply text_if; (focus (first | exact wanted_t rfl rfl | exact wanted_f rfl rfl | exact wanted_gt rfl rfl | exact wanted_gf rfl rfl)); (focus (intro hc _ _; (try simp only [Bool.and_eq_true, Bool.not_eq_true', Bool.true_and] at hc); go_simp; with_reducible rfl)); simp only [Act.put, List.setIfInBounds_toArray, List.set_cons_zero, List.set_cons_succ])
          | (apply text_if_call; (focus (first | exact wanted_t rfl rfl | exact wanted_f rfl rfl | exact wanted_gt rfl rfl | exact wanted_gf rfl rfl)); (focus (intro hc _ _; (try simp only [Bool.and_eq_true, Bool.not_eq_true', Bool.true_and] at hc); go_simp; exact ⟨rfl, rfl⟩)); (focus (intro hc _ _; with_reducible (exact NM.out _ (by (repeat' (first | (with_reducible exact hbw) | (with_reducible exact Below.refl _ _) | (with_reducible refine Below.ext_mk ?_ ?_ _ _) | (with_reducible refine Below.alloc ?_ ?_ _) | (with_reducible refine Below.drew ?_) | (with_reducible refine Below.setCell ?_ ?_ _) | go_size)))))); simp only [Act.put, List.setIfInBounds_toArray, List.set_cons_zero, List.set_cons_succ]))
        refine text_nil (HF.out _ (fun mx dx => ?_))
        clear HF F
        go_wp2_with fail
        go_returns
        exact Pure.of (by rw [HV.out, HFit.out, hst.out]; rfl) (by (repeat' (first | (with_reducible exact hbw) | (with_reducible exact Below.refl _ _) | (with_reducible refine Below.ext_mk ?_ ?_ _ _) | (with_reducible refine Below.alloc ?_ ?_ _) | (with_reducible refine Below.drew ?_) | (with_reducible refine Below.setCell ?_ ?_ _) | go_size)))
      · rw [hr] at NM hst
        go_upto_region 7 with (fail)
        refine wp_region_ext (by kernel_rfl) (by kernel_rfl) (fun F hF => ?_)
        have HF := hid hF; clear hF
        repeat (first
          | (apply text_skip; (focus rfl); simp only [Act.put, List.setIfInBounds_toArray, List.set_cons_zero, List.set_cons_succ])
          | (apply text_val; (focus rfl); (focus (intro _ _; go_simp; with_reducible rfl)); simp only [Act.put, List.setIfInBounds_toArray, List.set_cons_zero, List.set_cons_succ])
          | (apply text_call; (focus rfl); (focus (intro _ _; go_simp; exact ⟨rfl, rfl⟩)); (focus (intro _ _; with_reducible (exact NM.out _ (by (repeat' (first | (with_reducible exact hbw) | (with_reducible exact Below.refl _ _) | (with_reducible refine Below.ext_mk ?_ ?_ _ _) | (with_reducible refine Below.alloc ?_ ?_ _) | (with_reducible refine Below.drew ?_) | (with_reducible refine Below.setCell ?_ ?_ _) | go_size)))))); simp only [Act.put, List.setIfInBounds_toArray, List.set_cons_zero, List.set_cons_succ])
          | (apply text_if; (focus (first | exact wanted_t rfl rfl | exact wanted_f rfl rfl | exact wanted_gt rfl rfl | exact wanted_gf rfl rfl)); (focus (intro hc _ _; (try simp only [Bool.and_eq_true, Bool.not_eq_true', Bool.true_and] at hc); go_simp; with_reducible rfl)); simp only [Act.put, List.setIfInBounds_toArray, List.set_cons_zero, List.set_cons_succ])
          | (apply text_if_call; (focus (first | exact wanted_t rfl rfl | exact wanted_f rfl rfl | exact wanted_gt rfl rfl | exact wanted_gf rfl rfl)); (focus (intro hc _ _; (try simp only [Bool.and_eq_true, Bool.not_eq_true', Bool.true_and] at hc); go_simp; exact ⟨rfl, rfl⟩)); (focus (intro hc _ _; with_reducible (exact NM.out _ (by (repeat' (first | (with_reducible exact hbw) | (with_reducible exact Below.refl _ _) | (with_reducible refine Below.ext_mk ?_ ?_ _ _) | (with_reducible refine Below.alloc ?_ ?_ _) | (with_reducible refine Below.drew ?_) | (with_reducible refine Below.setCell ?_ ?_ _) | go_size)))))); simp only [Act.put, List.setIfInBounds_toArray, List.set_cons_zero, List.set_cons_succ]))
        refine text_nil (HF.out _ (fun mx dx => ?_))
        clear HF F
        go_wp2_with fail
        clear vp vf vv zpb' zfb' zvb' c0 k2 k3 zp' zk' hr
        go_loopw [7] (fun i wq => ∃ m : Nat, m ≤ ns.length ∧ i = .int .i64 m ∧ (v = true ∨ zeros (ns.take m) = true) ∧ Below V.heap.size V wq) (fun i _ => ns.length - (intOf i).toNat)
        case atStart => exact ⟨0, by omega, rfl, .inr rfl, by (repeat' (first | (with_reducible exact hb) | (with_reducible exact Below.refl _ _) | (with_reducible refine Below.ext_mk ?_ ?_ _ _) | (with_reducible refine Below.alloc ?_ ?_ _) | (with_reducible refine Below.drew ?_) | (with_reducible refine Below.setCell ?_ ?_ _) | go_size))⟩
        case round =>
          clear hb hbs hbw
          obtain ⟨m, hm, rfl, hz, hb⟩ := hrel
          have hbs := hb.size
          have hbw : Below w.heap.size w wr := hbV.trans (hb.mono hbV.size)
          have HZ := hid hz
          clear hz
          have k2 := (BK.out.below hb).cell 2
          have k3 := (BK.out.below hb).cell 3
          simp only [List.getElem?_cons_zero, List.getElem?_cons_succ] at k2 k3
          have zk' : w.heap.size + 1 < wr.heap.size := by omega
          have vf := VF.out _ hbw
          have vv := VV.out _ hbw
          have zfb' : fb < wr.heap.size := by have := hbw.size; omega
          have zvb' : vb < wr.heap.size := by have := hbw.size; omega
          by_cases hlm : m < ns.length
          · have hm1 : (m : Int) < (ns.length : Int) := by omega
            obtain ⟨nb, no, en, zn, _, cn0, cn1⟩ := HB.out.num (i := m) (n := ns[m]) (by simp [hlm])
            simp only at en
            subst en
            have vn0 := (hbw.cell (p := ⟨nb, no + m * 2, none⟩) zn).trans cn0
            have vn1 := (hbw.cell (p := ⟨nb, no + m * 2 + 1, none⟩) zn).trans cn1
            have zn' : nb < wr.heap.size := by have := hbw.size; omega
            have hnx : zeros (ns.take (m + 1)) = (zeros (ns.take m) && decide (ns[m] = 0#128)) := by
              unfold zeros
              rw [List.take_succ_eq_append_getElem hlm, List.all_append]; simp
            have hbad : ns[m] ≠ 0#128 → zeros ns = false := fun hne => by
              rw [Bool.eq_false_iff]
              intro ha
              unfold zeros at ha
              rw [List.all_eq_true] at ha
              exact hne (by simpa using ha ns[m] (List.getElem_mem _))
            have HNX := hid hnx
            have HBAD := hid hbad
            clear cn0 cn1 hnx hbad
            generalize ns[m] = n at *
            cases v
            · have CC := hid (CM.out n)
              by_cases hn : n = 0#128
              · have e0 : cmp0 n = 0 := if_pos hn
                rw [e0] at CC
                have HN := hid hn
                clear hn e0
                go_upto_region 12 with (fail)
                refine wp_region_doc (fun F hF => ?_)
                have HF := hid hF
                clear hF
                iterate 16 (refine doc_val rfl (by first | (go_simp; done) | (go_simp; exact ⟨rfl, rfl⟩) | (go_simp; with_reducible rfl)) ?_; simp only [Act.put, List.setIfInBounds_toArray, List.set_cons_zero, List.set_cons_succ])
                refine doc_call rfl (by first | (go_simp; done) | (go_simp; exact ⟨rfl, rfl⟩) | (go_simp; with_reducible rfl)) (Calls.mono (CC.out _) ?_)
                rintro _ _ ⟨rfl, mz, dz, rfl⟩
                refine ⟨_, rfl, ?_⟩
                simp only [Act.put, List.setIfInBounds_toArray, List.set_cons_zero, List.set_cons_succ]
                iterate 2 (refine doc_val rfl (by first | (go_simp; done) | (go_simp; exact ⟨rfl, rfl⟩) | (go_simp; with_reducible rfl)) ?_; simp only [Act.put, List.setIfInBounds_toArray, List.set_cons_zero, List.set_cons_succ])
                refine doc_end (HF.out _ _ ?_)
                clear HF F
                go_wp2_with fail
                go_roundw
                case rel => exact ⟨m + 1, hlm, by go_num, .inr (by
                  rw [HNX.out, HN.out]
                  rcases HZ.out with h | h
                  · cases h
                  · rw [h]; rfl), by (repeat' (first | (with_reducible exact hb) | (with_reducible exact Below.refl _ _) | (with_reducible refine Below.ext_mk ?_ ?_ _ _) | (with_reducible refine Below.alloc ?_ ?_ _) | (with_reducible refine Below.drew ?_) | (with_reducible refine Below.setCell ?_ ?_ _) | go_size))⟩
                case measure => simp [intOf]; omega
              · have e0 : cmp0 n = 1 := if_neg hn
                rw [e0] at CC
                have HZ0 := hid (HBAD.out hn)
                clear hn e0
                go_upto_region 12 with (fail)
                refine wp_region_doc (fun F hF => ?_)
                have HF := hid hF
                clear hF
                iterate 16 (refine doc_val rfl (by first | (go_simp; done) | (go_simp; exact ⟨rfl, rfl⟩) | (go_simp; with_reducible rfl)) ?_; simp only [Act.put, List.setIfInBounds_toArray, List.set_cons_zero, List.set_cons_succ])
                refine doc_call rfl (by first | (go_simp; done) | (go_simp; exact ⟨rfl, rfl⟩) | (go_simp; with_reducible rfl)) (Calls.mono (CC.out _) ?_)
                rintro _ _ ⟨rfl, mz, dz, rfl⟩
                refine ⟨_, rfl, ?_⟩
                simp only [Act.put, List.setIfInBounds_toArray, List.set_cons_zero, List.set_cons_succ]
                iterate 2 (refine doc_val rfl (by first | (go_simp; done) | (go_simp; exact ⟨rfl, rfl⟩) | (go_simp; with_reducible rfl)) ?_; simp only [Act.put, List.setIfInBounds_toArray, List.set_cons_zero, List.set_cons_succ])
                refine doc_end (HF.out _ _ ?_)
                clear HF F
                go_wp2_with fail
                go_returns
                exact Pure.of (by rw [HV.out, HFit.out, hst.out, HZ0.out]; rfl) (by (repeat' (first | (with_reducible exact hbw) | (with_reducible exact Below.refl _ _) | (with_reducible refine Below.ext_mk ?_ ?_ _ _) | (with_reducible refine Below.alloc ?_ ?_ _) | (with_reducible refine Below.drew ?_) | (with_reducible refine Below.setCell ?_ ?_ _) | go_size)))
            · go_upto_region 12 with (fail)
              refine wp_region_doc (fun F hF => ?_)
              have HF := hid hF
              clear hF
              iterate 7 (refine doc_val rfl (by first | (go_simp; done) | (go_simp; exact ⟨rfl, rfl⟩) | (go_simp; with_reducible rfl)) ?_; simp only [Act.put, List.setIfInBounds_toArray, List.set_cons_zero, List.set_cons_succ])
              iterate 11 (refine doc_not rfl ?_; simp only [Act.put, List.setIfInBounds_toArray, List.set_cons_zero, List.set_cons_succ])
              iterate 1 (refine doc_val rfl (by first | (go_simp; done) | (go_simp; exact ⟨rfl, rfl⟩) | (go_simp; with_reducible rfl)) ?_; simp only [Act.put, List.setIfInBounds_toArray, List.set_cons_zero, List.set_cons_succ])
              refine doc_end (HF.out _ _ ?_)
              clear HF F
              go_wp2_with fail
              go_roundw
              case rel => exact ⟨m + 1, hlm, by go_num, .inl (by trivial), hb⟩
              case measure => simp [intOf]; omega
          · obtain rfl : m = ns.length := by omega
            have HZ1 : Hid ((v || zeros ns) = true) := hid (by
              rcases HZ.out with h | h
              · rw [h]; rfl
              · rw [List.take_length] at h; rw [h]; simp)
            go_wp2_with fail
            go_roundw
            case rel => exact ⟨j + 1, hlt, by go_num, by rw [HFit.out, hst.out, HZ1.out]; simp, hb⟩
            case measure => simp [intOf]; omega
    · obtain rfl : j = hs.length := by omega
      have HE : Hid (allR fs hs va = true) := hid (by
        rw [HFit.out, List.drop_length]
        cases fs.drop hs.length <;> rfl)
      go_wp2_with fail
      go_returns
      exact Pure.of (by rw [HV.out, HE.out]; rfl) (hbV.trans (hb.mono hbV.size))
end Go.Proofs.Ytkblldmpdihamaa
set_option linter.unusedVariables false
set_option linter.unusedSimpArgs false
namespace Go.Proofs.Ytkblldmpdihamaa
open Go.RowKit

set_option maxRecDepth 100000 in
set_option maxHeartbeats 4000000 in
theorem headerFits_any {w : World} {p : PG} {k : PK} {hs : List (SL × List Int)} {ms es : List Int} {va : List Bool} {fs : List (SL × List (BitVec 128))} {mt : List (BitVec 128)} (FI : FitIn w p k hs ms va fs mt) (E : RdS w 1 p.emit (ints es)) :
    Calls Try.prog 3 #[p.v, k.v] w (Pure (.bool true) w) := by
  have hfl := FI.fields.len
  have hfm := FI.fields.row.2.1
  have hvm := FI.valid.2.1
  have hmm := FI.nums.2.1
  have H := hid FI
  have HE := hid E
  clear FI E
  have HM := hid (fun W (hW : Below w.heap.size w W) => may_any (H.out.heads.below hW) (H.out.metas.below hW) (HE.out.below hW))
  have HF1 := hid (fun W (hW : Below w.heap.size w W) => hfits_any (H.out.below hW))
  have HF2 := hid (fun W (hW : Below w.heap.size w W) => rfits19_any (H.out.below hW))
  have HEq := hid (hfits_rfits hs ms va fs mt)
  obtain ⟨port, rest, ⟨va', vn, vc⟩, ⟨fa, fn, fc⟩, ⟨ma, mn, mc⟩, dr, se, eg, ac⟩ := k
  simp only at hfl hfm hvm hmm
  subst hfl
  go_enter Try.func3, Try.ntmps3
  go_upto_region 1 with (fail)
  refine wp_gen (fun V hV => ?_)
  have hbV : Below w.heap.size w V := by rw [hV]; (repeat' (first | (with_reducible exact Below.refl _ _) | (with_reducible refine Below.ext_mk ?_ ?_ _ _) | (with_reducible refine Below.alloc ?_ ?_ _) | (with_reducible refine Below.drew ?_) | (with_reducible refine Below.setCell ?_ ?_ _) | go_size))
  have bp : Blk V w.heap.size 33 [p.heads.v, p.metas.v, p.steps.v, p.acts.v, p.tabs.v, p.control.v, p.emit.v, p.n0.v, p.n1.v, p.n2.v, p.n3.v, p.n4.v] := by
    rw [hV]
    exact (Blk.new w 33 [p.heads.v, p.metas.v, p.steps.v, p.acts.v, p.tabs.v, p.control.v, p.emit.v, p.n0.v, p.n1.v, p.n2.v, p.n3.v, p.n4.v]).below (by repeat (first | exact Below.refl _ _ | refine Below.alloc ?_ (by simp; try omega) _))
  have bk : Blk V (w.heap.size + 1) 39 (PK.mk port rest ⟨va', vn, vc⟩ ⟨fa, fs.length, fc⟩ ⟨ma, mn, mc⟩ dr se eg ac).cs := by
    rw [hV]
    have h := Blk.new (w.alloc (.cells [p.heads.v, p.metas.v, p.steps.v, p.acts.v, p.tabs.v, p.control.v, p.emit.v, p.n0.v, p.n1.v, p.n2.v, p.n3.v, p.n4.v].toArray 33)) 39 (PK.mk port rest ⟨va', vn, vc⟩ ⟨fa, fs.length, fc⟩ ⟨ma, mn, mc⟩ dr se eg ac).cs
    simp only [World.size_alloc] at h
    exact h
  clear hV
  have BP := hid bp
  have BK := hid bk
  have zp := bp.lt
  have zk := bk.lt
  clear bp bk
  refine wp_region_doc (fun F hF => ?_)
  have HF := hid hF
  clear hF
  refine doc_val rfl (load_agg_op _ _ _ _ _ _ _ _ Try.underlying33 (prog_size _ rfl) rfl BP.out) ?_
  simp only [Act.put, List.setIfInBounds_toArray, List.set_cons_zero, List.set_cons_succ]
  refine doc_call (f := 7) (args := #[p.v]) rfl (by first | (go_simp; done) | (go_simp; exact ⟨rfl, rfl⟩) | (go_simp; with_reducible rfl)) ((HM.out _ hbV).mono ?_)
  rintro e W2 ⟨b, ⟨rfl, m2, d2, rfl⟩, _⟩
  refine ⟨_, rfl, ?_⟩
  simp only [Act.put, List.setIfInBounds_toArray, List.set_cons_zero, List.set_cons_succ]
  cases b
  · iterate 2 (refine doc_val rfl (by first | (go_simp; done) | (go_simp; exact ⟨rfl, rfl⟩) | (go_simp; with_reducible rfl)) ?_; simp only [Act.put, List.setIfInBounds_toArray, List.set_cons_zero, List.set_cons_succ])
    iterate 12 (refine doc_not rfl ?_; simp only [Act.put, List.setIfInBounds_toArray, List.set_cons_zero, List.set_cons_succ])
    refine doc_val rfl (by first | (go_simp; done) | (go_simp; exact ⟨rfl, rfl⟩) | (go_simp; with_reducible rfl)) ?_
    simp only [Act.put, List.setIfInBounds_toArray, List.set_cons_zero, List.set_cons_succ]
    refine doc_end (HF.out _ _ ?_)
    clear HF F
    go_wp2_with (go_at_call 8; refine (known19 _).mono ?_; rintro e w' ⟨rfl, m3, d3, rfl⟩)
    go_returns
    exact Pure.of rfl (by (repeat' (first | (with_reducible exact hbV) | (with_reducible exact Below.refl _ _) | (with_reducible refine Below.ext_mk ?_ ?_ _ _) | (with_reducible refine Below.alloc ?_ ?_ _) | (with_reducible refine Below.drew ?_) | (with_reducible refine Below.setCell ?_ ?_ _) | go_size)))
  · have k2 := (BK.out.ext m2 d2).cell 2
    have k3 := (BK.out.ext m2 d2).cell 3
    have k4 := (BK.out.ext m2 d2).cell 4
    simp only [List.getElem?_cons_zero, List.getElem?_cons_succ, SL.v_mk] at k2 k3 k4
    have zk2 : w.heap.size + 1 < (V.ext m2 d2).heap.size := by simp; omega
    have hb0 : Below V.heap.size V (V.ext m2 d2) := Below.ext_mk (Below.refl _ _) (Nat.le_refl _) _ _
    generalize V.ext m2 d2 = U at *
    iterate 13 (refine doc_val rfl (by first | (go_simp; done) | (go_simp; exact ⟨rfl, rfl⟩) | (go_simp; with_reducible rfl)) ?_; simp only [Act.put, List.setIfInBounds_toArray, List.set_cons_zero, List.set_cons_succ])
    obtain ⟨u, hu⟩ : ∃ u, u = IntKind.i64.wrap (IntKind.i64.wrap ((vn : Int) + (fs.length : Int)) + (mn : Int)) := ⟨_, rfl⟩
    rw [← hu]
    clear hu
    by_cases q : 60 < u
    · iterate 2 (refine doc_val rfl (by first | (go_simp; done) | (go_simp; exact ⟨rfl, rfl⟩) | (go_simp; with_reducible rfl)) ?_; simp only [Act.put, List.setIfInBounds_toArray, List.set_cons_zero, List.set_cons_succ])
      refine doc_end (HF.out _ _ ?_)
      clear HF F
      go_wp2_with (go_at_call 8; refine (known19 _).mono ?_; rintro e w' ⟨rfl, m3, d3, rfl⟩)
      go_returns
      exact Pure.of rfl (by have := hbV.trans (hb0.mono hbV.size); (repeat' (first | (with_reducible exact this) | (with_reducible exact Below.refl _ _) | (with_reducible refine Below.ext_mk ?_ ?_ _ _) | (with_reducible refine Below.alloc ?_ ?_ _) | (with_reducible refine Below.drew ?_) | (with_reducible refine Below.setCell ?_ ?_ _) | go_size)))
    · iterate 2 (refine doc_val rfl (by first | (go_simp; done) | (go_simp; exact ⟨rfl, rfl⟩) | (go_simp; with_reducible rfl)) ?_; simp only [Act.put, List.setIfInBounds_toArray, List.set_cons_zero, List.set_cons_succ])
      refine doc_end (HF.out _ _ ?_)
      clear HF F
      go_wp2_with fail
      clear k2 k3 k4 zk2
      go_loopw [27] (fun i wr => ∃ j : Nat, j ≤ fs.length ∧ i = .int .i64 j ∧ Below V.heap.size V wr) (fun i _ => fs.length - (intOf i).toNat)
      case atStart => exact ⟨0, by omega, rfl, hb0⟩
      case round =>
        clear hb0
        obtain ⟨j, hj, rfl, hb⟩ := hrel
        have hbs := hb.size
        have hbw : Below w.heap.size w wr := hbV.trans (hb.mono hbV.size)
        have k3 := (BK.out.below hb).cell 3
        simp only [List.getElem?_cons_zero, List.getElem?_cons_succ, SL.v_mk] at k3
        have zk2 : w.heap.size + 1 < wr.heap.size := by omega
        by_cases hlt : j < fs.length
        · have hj1 : (j : Int) < (fs.length : Int) := by omega
          obtain ⟨fb, fo, ef, zfb, _, cf⟩ := H.out.fields.row.one (i := j) (u := fs[j].1.v) (by simp [hlt])
          simp only at ef
          subst ef
          have vf := (hbw.cell (p := ⟨fb, fo + j, none⟩) zfb).trans cf
          have zfb' : fb < wr.heap.size := by have := hbw.size; omega
          clear cf
          generalize fs[j] = f at *
          obtain ⟨⟨fa1, fn1, fc1⟩, ns⟩ := f
          simp only [SL.v_mk] at vf
          by_cases q2 : 40 < (fn1 : Int)
          · go_wp2_with (go_at_call 8; refine (known19 _).mono ?_; rintro e w' ⟨rfl, m3, d3, rfl⟩)
            go_returns
            exact Pure.of rfl (by (repeat' (first | (with_reducible exact hbw) | (with_reducible exact Below.refl _ _) | (with_reducible refine Below.ext_mk ?_ ?_ _ _) | (with_reducible refine Below.alloc ?_ ?_ _) | (with_reducible refine Below.drew ?_) | (with_reducible refine Below.setCell ?_ ?_ _) | go_size)))
          · go_wp2_with fail
            go_roundw
            case rel => exact ⟨j + 1, hlt, by go_num, hb⟩
            case measure => simp [intOf]; omega
        · obtain rfl : j = fs.length := by omega
          obtain ⟨fit, hfit⟩ : ∃ fit, fit = rFitsV hs ms va fs mt := ⟨_, rfl⟩
          have A1 := hid (fun W (hW : Below w.heap.size w W) => by have := HF1.out W hW; rw [HEq.out, ← hfit] at this; exact this)
          have A2 := hid (fun W (hW : Below w.heap.size w W) => by have := HF2.out W hW; rw [← hfit] at this; exact this)
          have BPr := hid (BP.out.below hb)
          have BKr := hid (BK.out.below hb)
          clear hfit
          go_upto_region 9 with (fail)
          cases fit
          all_goals
            refine wp_region_ext (by kernel_rfl) (by kernel_rfl) (fun F hF => ?_)
            have HF := hid hF; clear hF
            repeat (first
              | (apply text_skip; (focus rfl); simp only [Act.put, List.setIfInBounds_toArray, List.set_cons_zero, List.set_cons_succ])
              | (apply text_val; (focus rfl); (focus (intro _ _; exact load_agg_op _ _ _ _ _ _ _ _ Try.underlying33 (prog_size _ rfl) rfl (BPr.out.ext _ _))); simp only [Act.put, List.setIfInBounds_toArray, List.set_cons_zero, List.set_cons_succ])
              | (apply text_val; (focus rfl); (focus (intro _ _; exact load_agg_op _ _ _ _ _ _ _ _ Try.underlying39 (pk_size _ rfl) rfl (BKr.out.ext _ _))); simp only [Act.put, List.setIfInBounds_toArray, List.set_cons_zero, List.set_cons_succ])
              | (apply text_if; (focus (first | exact wanted_t rfl rfl | exact wanted_f rfl rfl | exact wanted_gt rfl rfl | exact wanted_gf rfl rfl)); (focus (intro hc _ _; exact load_agg_op _ _ _ _ _ _ _ _ Try.underlying33 (prog_size _ rfl) rfl (BPr.out.ext _ _))); simp only [Act.put, List.setIfInBounds_toArray, List.set_cons_zero, List.set_cons_succ])
              | (apply text_if; (focus (first | exact wanted_t rfl rfl | exact wanted_f rfl rfl | exact wanted_gt rfl rfl | exact wanted_gf rfl rfl)); (focus (intro hc _ _; exact load_agg_op _ _ _ _ _ _ _ _ Try.underlying39 (pk_size _ rfl) rfl (BKr.out.ext _ _))); simp only [Act.put, List.setIfInBounds_toArray, List.set_cons_zero, List.set_cons_succ])
              | (apply text_val; (focus rfl); (focus (intro _ _; go_simp; with_reducible rfl)); simp only [Act.put, List.setIfInBounds_toArray, List.set_cons_zero, List.set_cons_succ])
              | (apply text_call; (focus rfl); (focus (intro _ _; go_simp; exact ⟨rfl, rfl⟩)); (focus (intro _ _; with_reducible (exact A1.out _ (by (repeat' (first | (with_reducible exact hbw) | (with_reducible exact Below.refl _ _) | (with_reducible refine Below.ext_mk ?_ ?_ _ _) | (with_reducible refine Below.alloc ?_ ?_ _) | (with_reducible refine Below.drew ?_) | (with_reducible refine Below.setCell ?_ ?_ _) | go_size)))))); simp only [Act.put, List.setIfInBounds_toArray, List.set_cons_zero, List.set_cons_succ])
              | (apply text_call; (focus rfl); (focus (intro _ _; go_simp; exact ⟨rfl, rfl⟩)); (focus (intro _ _; with_reducible (exact A2.out _ (by (repeat' (first | (with_reducible exact hbw) | (with_reducible exact Below.refl _ _) | (with_reducible refine Below.ext_mk ?_ ?_ _ _) | (with_reducible refine Below.alloc ?_ ?_ _) | (with_reducible refine Below.drew ?_) | (with_reducible refine Below.setCell ?_ ?_ _) | go_size)))))); simp only [Act.put, List.setIfInBounds_toArray, List.set_cons_zero, List.set_cons_succ])
              | (apply text_call; (focus rfl); (focus (intro _ _; go_simp; exact ⟨rfl, rfl⟩)); (focus (intro _ _; with_reducible (exact known19 _))); simp only [Act.put, List.setIfInBounds_toArray, List.set_cons_zero, List.set_cons_succ])
              | (apply text_if; (focus (first | exact wanted_t rfl rfl | exact wanted_f rfl rfl | exact wanted_gt rfl rfl | exact wanted_gf rfl rfl)); (focus (intro hc _ _; (try simp only [Bool.and_eq_true, Bool.not_eq_true', Bool.true_and] at hc); go_simp; with_reducible rfl)); simp only [Act.put, List.setIfInBounds_toArray, List.set_cons_zero, List.set_cons_succ])
              | (apply text_if_call; (focus (first | exact wanted_t rfl rfl | exact wanted_f rfl rfl | exact wanted_gt rfl rfl | exact wanted_gf rfl rfl)); (focus (intro hc _ _; (try simp only [Bool.and_eq_true, Bool.not_eq_true', Bool.true_and] at hc); go_simp; exact ⟨rfl, rfl⟩)); (focus (intro hc _ _; with_reducible (exact A1.out _ (by (repeat' (first | (with_reducible exact hbw) | (with_reducible exact Below.refl _ _) | (with_reducible refine Below.ext_mk ?_ ?_ _ _) | (with_reducible refine Below.alloc ?_ ?_ _) | (with_reducible refine Below.drew ?_) | (with_reducible refine Below.setCell ?_ ?_ _) | go_size)))))); simp only [Act.put, List.setIfInBounds_toArray, List.set_cons_zero, List.set_cons_succ])
              | (apply text_if_call; (focus (first | exact wanted_t rfl rfl | exact wanted_f rfl rfl | exact wanted_gt rfl rfl | exact wanted_gf rfl rfl)); (focus (intro hc _ _; (try simp only [Bool.and_eq_true, Bool.not_eq_true', Bool.true_and] at hc); go_simp; exact ⟨rfl, rfl⟩)); (focus (intro hc _ _; with_reducible (exact A2.out _ (by (repeat' (first | (with_reducible exact hbw) | (with_reducible exact Below.refl _ _) | (with_reducible refine Below.ext_mk ?_ ?_ _ _) | (with_reducible refine Below.alloc ?_ ?_ _) | (with_reducible refine Below.drew ?_) | (with_reducible refine Below.setCell ?_ ?_ _) | go_size)))))); simp only [Act.put, List.setIfInBounds_toArray, List.set_cons_zero, List.set_cons_succ])
              | (apply text_if_call; (focus (first | exact wanted_t rfl rfl | exact wanted_f rfl rfl | exact wanted_gt rfl rfl | exact wanted_gf rfl rfl)); (focus (intro hc _ _; (try simp only [Bool.and_eq_true, Bool.not_eq_true', Bool.true_and] at hc); go_simp; exact ⟨rfl, rfl⟩)); (focus (intro hc _ _; with_reducible (exact known19 _))); simp only [Act.put, List.setIfInBounds_toArray, List.set_cons_zero, List.set_cons_succ]))
            refine text_nil (HF.out _ (fun mx dx => ?_))
            clear HF F
            go_wp2_with fail
            go_returns
            exact Pure.of rfl (by (repeat' (first | (with_reducible exact hbw) | (with_reducible exact Below.refl _ _) | (with_reducible refine Below.ext_mk ?_ ?_ _ _) | (with_reducible refine Below.alloc ?_ ?_ _) | (with_reducible refine Below.drew ?_) | (with_reducible refine Below.setCell ?_ ?_ _) | go_size)))
end Go.Proofs.Ytkblldmpdihamaa
