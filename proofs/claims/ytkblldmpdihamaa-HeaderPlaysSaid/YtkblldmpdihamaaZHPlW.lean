/-
  HeaderPlays answers true: the walk.
-/
import Derived.Test.YtkblldmpdihamaaZHPlD
import Derived.Test.YtkblldmpdihamaaZOpenH
set_option linter.unusedVariables false
set_option linter.unusedSimpArgs false
namespace Go.Proofs.Ytkblldmpdihamaa
open Go.RowKit

theorem load_at_op {w : World} (a : Act) (dst : Option Tmp) (ty t : TypeId) (x : Operand) (pos : String) (after : Array Edge) (guard : Option (Nat × Bool)) {b off : Nat} {xs : List Value} {fs : _}
    (hu : Try.prog.underlying ty = some (.struct fs)) (hi : (Try.prog.info? ty).map (·.size) = some xs.length) (hx : a.eval x = .pointer (some ⟨b, off, none⟩)) (hc : ∀ j u, xs[j]? = some u → w.cell? ⟨b, off + j, none⟩ = some u) :
    (execOp a.eval { dst, op := .load ty x, type := t, pos, after, guard }).run Try.prog w = .ok (.value (.agg xs.toArray)) w := by
  have hl : (loadCells ⟨b, off, none⟩ xs.length).run Try.prog w = .ok xs.toArray w :=
    run_loadCells_list (P := Try.prog) w ⟨b, off, none⟩ xs (fun j v hv => by
      rw [hadd_off]
      exact hc j v hv)
  have h : (loadVar ty ⟨b, off, none⟩).run Try.prog w = .ok (.agg xs.toArray) w := by
    cases hq : Try.prog.info? ty with
    | none => simp [hq] at hi
    | some i =>
      have hs : i.size = xs.length := by simpa [hq] using hi
      have hagg : (isAgg ty).run Try.prog w = .ok true w := by
        unfold isAgg
        rw [Sem.run_bind, run_underlying hu w]
        rfl
      simp [loadVar, Sem.run_bind, hagg, sizeOf, typeInfo, hq, hs, hl]
  unfold execOp
  simp only [hx, Instr.loadAt, Instr.sureAddr, Sem.run_bind, Sem.run_pure, Result.andThen_ok, h]
theorem RowIs.addr {w : World} {a : Option Addr} {n c g : Nat} {e : TypeId} {s m : Nat} {xs : List Value} (h : RowIs w (.slice a n c) (some g) e s m xs) : a = some ⟨g, 0, none⟩ ∧ n = m := by
  obtain ⟨_, ⟨_, _, h3⟩ | ⟨g', cap, cur, h1, h2, _⟩⟩ := h
  · cases h3
  · cases h2
    injection h1 with e1 e2
    exact ⟨e1, e2⟩
/-- A row of bytes. -/
def U8s (vs : List Value) : Prop := ∀ u ∈ vs, ∃ x : Int, u = .int .u8 x
theorem u8s_byts (l : List Nat) : U8s (byts l) := fun u hu => by
  simp [byts] at hu
  obtain ⟨x, _, rfl⟩ := hu
  exact ⟨_, rfl⟩
theorem U8s.set {vs : List Value} (h : U8s vs) (i : Nat) (x : Int) : U8s (vs.set i (.int .u8 x)) := fun u hu => by
  rcases List.mem_or_eq_of_mem_set hu with h1 | h1
  · exact h u h1
  · exact ⟨x, h1⟩
theorem op_size {o : OpP} (h : (Try.prog.info? 58).map (·.size) = some 6) : (Try.prog.info? 58).map (·.size) = some o.cs.length := h

abbrev zeroOp : List Value := [.int .i64 0, .int .i64 0, .int .i64 0, .int .u64 0, .int .u64 0, .bool false]
set_option maxRecDepth 100000 in
set_option maxHeartbeats 16000000 in
theorem headerPlays_any {w : World} {p : PG} {hs : List (SL × List Int)} {ms es : List Int} {s ol : SL} {bs : List Nat} {os : List OpP} (H : HeadsAre w p.heads hs) (M : RdS w 1 p.metas (ints ms)) (E : RdS w 1 p.emit (ints es))
    (iH : ∀ y ∈ hs, InI64 y.2) (iM : InI64 ms) (S : RdS w 1 s (byts bs)) (hbs : ∀ y ∈ bs, y < 256) (port : Int) (OL : RdS w 6 ol (os.flatMap OpP.cs)) :
    Calls Try.prog 5 #[p.v, .int .i64 port, s.v, ol.v] w (Pure (.bool true) w) := by
  have hsl : s.n = bs.length := by have := S.2.2.1; rw [byts_length] at this; omega
  have hol : ol.n = os.length := by have := OL.2.2.1; rw [flatMap_len OpP.cs (size := 6) (fun _ => rfl)] at this; omega
  have hhl := H.len
  have hml := M.int
  have HH := hid H
  have HM := hid M
  have HE := hid E
  have HS := hid S
  have HO := hid OL
  have MY := hid (fun W (hW : Below w.heap.size w W) => may_any (HH.out.below hW) (HM.out.below hW) (HE.out.below hW))
  have HBS := hid hbs
  have IH := hid iH
  have IM := hid iM
  clear H M E S OL hbs iH iM
  obtain ⟨sa, sn, sc⟩ := s
  obtain ⟨oa, on, oc⟩ := ol
  simp only at hsl hol
  subst hsl hol
  go_enter Try.func5, Try.ntmps5
  go_upto_region 1 with (fail)
  refine wp_gen (fun V hV => ?_)
  have hbV : Below w.heap.size w V := by rw [hV]; (repeat' (first | (with_reducible exact Below.refl _ _) | (with_reducible refine Below.ext_mk ?_ ?_ _ _) | (with_reducible refine Below.alloc ?_ ?_ _) | (with_reducible refine Below.drew ?_) | (with_reducible refine Below.setCell ?_ ?_ _) | go_size))
  have bp : Blk V w.heap.size 33 p.zs := by rw [hV]; exact Blk.new w 33 p.zs
  clear hV
  have hvs := hbV.size
  have GR := great19_any ⟨sa, bs.length, sc⟩ ⟨oa, os.length, oc⟩ V
  simp only at GR
  cases hgr : (decide (400 < (bs.length : Int)) || decide (30 < (os.length : Int)))
  case true =>
    rw [hgr] at GR
    refine wp_region_doc (fun F hF => ?_)
    have HF := hid hF
    clear hF
    iterate 2 (refine doc_val rfl (by first | (go_simp; done) | (go_simp; exact ⟨rfl, rfl⟩) | (go_simp; with_reducible rfl)) ?_; simp only [Act.put, List.setIfInBounds_toArray, List.set_cons_zero, List.set_cons_succ])
    refine doc_call (f := 18) (args := #[.slice sa bs.length sc, .slice oa os.length oc]) rfl (by first | (go_simp; done) | (go_simp; exact ⟨rfl, rfl⟩) | (go_simp; with_reducible rfl)) (GR.mono ?_)
    rintro _ _ ⟨rfl, m1, d1, rfl⟩
    refine ⟨_, rfl, ?_⟩
    simp only [Act.put, List.setIfInBounds_toArray, List.set_cons_zero, List.set_cons_succ]
    refine doc_val rfl (by first | (go_simp; done) | (go_simp; exact ⟨rfl, rfl⟩) | (go_simp; with_reducible rfl)) ?_
    simp only [Act.put, List.setIfInBounds_toArray, List.set_cons_zero, List.set_cons_succ]
    iterate 3 (refine doc_not rfl ?_; simp only [Act.put, List.setIfInBounds_toArray, List.set_cons_zero, List.set_cons_succ])
    refine doc_val rfl (by first | (go_simp; done) | (go_simp; exact ⟨rfl, rfl⟩) | (go_simp; with_reducible rfl)) ?_
    simp only [Act.put, List.setIfInBounds_toArray, List.set_cons_zero, List.set_cons_succ]
    refine doc_end (HF.out _ _ ?_)
    clear HF F
    go_wp2_with (go_at_call 8; refine (known19 _).mono ?_; rintro e w' ⟨rfl, m3, d3, rfl⟩)
    go_returns
    exact Pure.of rfl (by (repeat' (first | (with_reducible exact hbV) | (with_reducible exact Below.refl _ _) | (with_reducible refine Below.ext_mk ?_ ?_ _ _) | (with_reducible refine Below.alloc ?_ ?_ _) | (with_reducible refine Below.drew ?_) | (with_reducible refine Below.setCell ?_ ?_ _) | go_size)))
  rw [hgr] at GR
  have hbl : bs.length ≤ 400 := by simp at hgr; omega
  have hol : os.length ≤ 30 := by simp at hgr; omega
  clear hgr
  refine wp_region_doc (fun F hF => ?_)
  have HF := hid hF
  clear hF
  iterate 2 (refine doc_val rfl (by first | (go_simp; done) | (go_simp; exact ⟨rfl, rfl⟩) | (go_simp; with_reducible rfl)) ?_; simp only [Act.put, List.setIfInBounds_toArray, List.set_cons_zero, List.set_cons_succ])
  refine doc_call (f := 18) (args := #[.slice sa bs.length sc, .slice oa os.length oc]) rfl (by first | (go_simp; done) | (go_simp; exact ⟨rfl, rfl⟩) | (go_simp; with_reducible rfl)) (GR.mono ?_)
  rintro _ _ ⟨rfl, m1, d1, rfl⟩
  refine ⟨_, rfl, ?_⟩
  simp only [Act.put, List.setIfInBounds_toArray, List.set_cons_zero, List.set_cons_succ]
  refine doc_val rfl (by first | (go_simp; done) | (go_simp; exact ⟨rfl, rfl⟩) | (go_simp; with_reducible rfl)) ?_
  simp only [Act.put, List.setIfInBounds_toArray, List.set_cons_zero, List.set_cons_succ]
  refine doc_val rfl (load_agg_op _ _ _ _ _ _ _ _ Try.underlying33 (prog_size _ rfl) rfl (bp.ext m1 d1)) ?_
  simp only [Act.put, List.setIfInBounds_toArray, List.set_cons_zero, List.set_cons_succ]
  refine doc_call (f := 7) (args := #[p.v]) rfl (by first | (go_simp; done) | (go_simp; exact ⟨rfl, rfl⟩) | (go_simp; with_reducible rfl)) ((MY.out _ (by (repeat' (first | (with_reducible exact hbV) | (with_reducible exact Below.refl _ _) | (with_reducible refine Below.ext_mk ?_ ?_ _ _) | (with_reducible refine Below.alloc ?_ ?_ _) | (with_reducible refine Below.drew ?_) | (with_reducible refine Below.setCell ?_ ?_ _) | go_size)))).mono ?_)
  rintro e W2 ⟨b, ⟨rfl, m2, d2, rfl⟩, hmay⟩
  refine ⟨_, rfl, ?_⟩
  simp only [Act.put, List.setIfInBounds_toArray, List.set_cons_zero, List.set_cons_succ]
  cases b
  · iterate 2 (refine doc_val rfl (by first | (go_simp; done) | (go_simp; exact ⟨rfl, rfl⟩) | (go_simp; with_reducible rfl)) ?_; simp only [Act.put, List.setIfInBounds_toArray, List.set_cons_zero, List.set_cons_succ])
    refine doc_end (HF.out _ _ ?_)
    clear HF F
    go_wp2_with (go_at_call 8; refine (known19 _).mono ?_; rintro e w' ⟨rfl, m3, d3, rfl⟩)
    go_returns
    exact Pure.of rfl (by (repeat' (first | (with_reducible exact hbV) | (with_reducible exact Below.refl _ _) | (with_reducible refine Below.ext_mk ?_ ?_ _ _) | (with_reducible refine Below.alloc ?_ ?_ _) | (with_reducible refine Below.drew ?_) | (with_reducible refine Below.setCell ?_ ?_ _) | go_size)))
  iterate 2 (refine doc_val rfl (by first | (go_simp; done) | (go_simp; exact ⟨rfl, rfl⟩) | (go_simp; with_reducible rfl)) ?_; simp only [Act.put, List.setIfInBounds_toArray, List.set_cons_zero, List.set_cons_succ])
  refine doc_end (HF.out _ _ ?_)
  clear HF F
  have MP := hid (hmay rfl)
  clear hmay MY
  go_upto_region 3 with (fail)
  refine wp_gen (fun U hU => ?_)
  have hbVU : Below V.heap.size V U := by rw [hU]; (repeat' (first | (with_reducible exact Below.refl _ _) | (with_reducible refine Below.ext_mk ?_ ?_ _ _) | (with_reducible refine Below.alloc ?_ ?_ _) | (with_reducible refine Below.drew ?_) | (with_reducible refine Below.setCell ?_ ?_ _) | go_size))
  clear hU
  have hbU : Below w.heap.size w U := hbV.trans (hbVU.mono hvs)
  have bp2 := bp.below hbVU
  have hus := hbU.size
  clear bp hbV hbVU hvs GR
  -- the bytes are copied
  obtain ⟨a1, c1, W1, Gr, p1, q1, B1, g1, g1'⟩ := append_copy (w := U) Try.underlying34 infoU8_is infoU8_zero infoU8_size infoU8_bytes rfl (by omega) (HS.out.below hbU) (by intro u hu; simp [byts] at hu; obtain ⟨x, _, rfl⟩ := hu; rfl) (by simp; omega) (by omega)
  simp only [SL.v_mk] at p1 q1
  obtain ⟨rfl, -⟩ := RowIs.addr q1
  have P1 := hid p1
  clear p1
  refine wp_region_doc (fun F' hF => ?_)
  have HF := hid hF
  clear hF
  iterate 2 (refine doc_val rfl (by first | (go_simp; done) | (go_simp; exact ⟨rfl, rfl⟩) | (go_simp; with_reducible rfl)) ?_; simp only [Act.put, List.setIfInBounds_toArray, List.set_cons_zero, List.set_cons_succ])
  refine doc_val rfl (run_append_op _ _ _ _ _ _ _ _ _ P1.out) ?_
  simp only [Act.put, List.setIfInBounds_toArray, List.set_cons_zero, List.set_cons_succ]
  refine doc_val rfl (by first | (go_simp; done) | (go_simp; exact ⟨rfl, rfl⟩) | (go_simp; with_reducible rfl)) ?_
  simp only [Act.put, List.setIfInBounds_toArray, List.set_cons_zero, List.set_cons_succ]
  refine doc_end (HF.out _ _ ?_)
  clear HF F' P1
  have hb1s := B1.size
  have BP4 := hid (bp2.below B1)
  have hb1 : Below w.heap.size w W1 := hbU.trans (B1.mono hus)
  have z1 := bp2.lt
  have hfew : hs.length ≤ 1000000 ∧ (∀ x ∈ hs, x.2.length ≤ 1000000) ∧ bs.length ≤ 100000 ∧ ms.length ≤ 1000000 := by
    have h1 := MP.out.hl
    have h2 := MP.out.ml
    exact ⟨by omega, fun x hx => by have := (MP.out.heads x hx).hi; omega, by omega, by omega⟩
  have HFEW := hid hfew
  clear hfew
  have NI4 := hid (fun W (hb : Below W1.heap.size W1 W) => (show NewIn W p ⟨some ⟨Gr, 0, none⟩, bs.length, c1⟩ hs ms.length bs from
    ⟨HH.out.below (hb1.trans (hb.mono hb1.size)), hml, ((RowIs.rdS (s := ⟨some ⟨Gr, 0, none⟩, bs.length, c1⟩) q1).1).below hb, by omega, by have := MP.out.hl; omega, by have := MP.out.ml; omega, fun x hx => by have := (MP.out.heads x hx).hi; omega⟩))
  have RN4 := hid (fun W (hb : Below W1.heap.size W1 W) => rnew_any (p := p) (mn := ms.length) (L := List.range W.heap.size) port (HH.out.below (hb1.trans (hb.mono hb1.size))) hml MP.out.ml (HS.out.below (hb1.trans (hb.mono hb1.size))) hbl ⟨MP.out.hl, MP.out.heads⟩ (fun q hq => by simpa using hq))
  have Q1 := hid q1
  have HB1 := hid hb1
  clear q1 bp2 hb1s
  go_upto_region 4 with (fail)
  refine wp_plays W1 p port ⟨some ⟨Gr, 0, none⟩, bs.length, c1⟩ ⟨sa, bs.length, sc⟩ bs hs ms.length (by kernel_rfl) (by kernel_rfl) ?_ ?_ ?_
  · refine ⟨PK.mk 0 slNil slNil slNil slNil false false 0 false, PK.mk 0 slNil slNil slNil slNil false false 0 false, 0, 0, W1, W1, W1, W1, ?_, ⟨Below.drew (Below.refl _ _), fun h => by simp at h, fun h => by simp at h, fun h => by simp at h, fun h => by simp at h⟩⟩
    unfold plAct
    rfl
  · rintro L a Z hall ⟨k, kd, qb, qd, wA, w2, wR, wR2, rfl, hI⟩
    have h0 := hall 0 (by decide)
    have h1 := hall 1 (by decide)
    have h2 := hall 2 (by decide)
    have h3 := hall 3 (by decide)
    have h4 := hall 4 (by decide)
    have h5 := hall 5 (by decide)
    have h6 := hall 6 (by decide)
    have h7 := hall 7 (by decide)
    have h8 := hall 8 (by decide)
    have h9 := hall 9 (by decide)
    unfold plAct
    simp only [h0, h1, h2, h3, h4, h5, h6, h7, h8, h9, gd_true]
    obtain ⟨vb, gs, ST⟩ := hI.fin (fun i hi => hall i hi) HB1.out BP4.out (Nat.le_refl _) (by omega) g1' (by omega) HBS.out HFEW.out
    have rowZ : RowIs Z (.slice (some ⟨Gr, 0, none⟩) bs.length c1) (some Gr) 5 1 bs.length (byts bs) := RowIs.keep Q1.out (fun g hg => by cases hg; exact hI.below.block _ g1')
    clear h0 h1 h2 h3 h4 h5 h6 h7 h8 h9 hI hall
    have SZ := hid ST
    have RZ := hid rowZ
    clear ST rowZ
    go_wp2_with fail
    go_loopw [41] (fun iv wr => ∃ (j : Nat) (vs : List Value), j ≤ bs.length ∧ iv = .int .i64 j ∧ U8s vs ∧ RowIs wr (.slice (some ⟨Gr, 0, none⟩) bs.length c1) (some Gr) 5 1 bs.length vs ∧
        PlSt w wr p w.heap.size qb vb qd Gr gs port (List.replicate ms.length 0#128) (PD.new hs bs) kd) (fun iv _ => bs.length - (intOf iv).toNat)
    case atStart => exact ⟨0, _, by omega, rfl, u8s_byts bs, RZ.out, SZ.out⟩
    case round =>
      obtain ⟨j, vs, hj, rfl, hu, hR, hS⟩ := hrel
      by_cases hlt : j < bs.length
      · have hj1 : (j : Int) < (bs.length : Int) := by omega
        have hvl : vs.length = bs.length := by have := hR.1; omega
        obtain ⟨x, hx⟩ := hu vs[j] (List.getElem_mem _)
        obtain ⟨g', cap, e1, e2, e3, e4⟩ := hR.at hlt (j := 0) (by omega)
        cases e2
        simp only [Nat.mul_one, Nat.add_zero] at e3 e4
        rw [List.getElem?_eq_getElem (by omega), hx] at e3
        have zx := RowIs.lt hR Gr rfl
        have NN := hid (RowIs.setOne (.int .u8 (IntKind.u8.wrap (x + 1))) hR hlt).1
        have SS := hid (hS.turnG (Turn.set_ Gr j (.int .u8 (IntKind.u8.wrap (x + 1))) (by simp)))
        have HU := hid (hu.set j (IntKind.u8.wrap (x + 1)))
        clear hu hR hS e1 hx
        go_wp2_with fail
        go_roundw
        case rel => exact ⟨j + 1, _, hlt, by go_num, HU.out, NN.out, SS.out⟩
        case measure => simp [intOf]; omega
      · obtain rfl : j = bs.length := by omega
        obtain ⟨k, F, o, bK, K⟩ := hS.k (PD.new_ok hbl HBS.out) HH.out HM.out HE.out MP.out IH.out IM.out
        have bD := hS.dblk
        have KK := hid K
        have SS := hid hS
        clear hu hR hS K RZ SZ
        go_upto_region 10 with (fail)
        refine wp_region_doc (fun F' hF => ?_)
        have HF := hid hF
        clear hF
        refine doc_val rfl (load_agg_op _ _ _ _ _ _ _ _ Try.underlying39 (pk_size _ rfl) rfl bK) ?_
        simp only [Act.put, List.setIfInBounds_toArray, List.set_cons_zero, List.set_cons_succ]
        refine doc_val rfl (load_agg_op _ _ _ _ _ _ _ _ Try.underlying39 (pk_size _ rfl) rfl bD) ?_
        simp only [Act.put, List.setIfInBounds_toArray, List.set_cons_zero, List.set_cons_succ]
        refine doc_call (f := 16) (args := #[k.v, kd.v]) rfl (by first | (go_simp; done) | (go_simp; exact ⟨rfl, rfl⟩) | (go_simp; with_reducible rfl)) ((KK.out.same _ (Below.refl _ _)).mono ?_)
        rintro _ _ ⟨rfl, m3, d3, rfl⟩
        refine ⟨_, rfl, ?_⟩
        simp only [Act.put, List.setIfInBounds_toArray, List.set_cons_zero, List.set_cons_succ]
        refine doc_val rfl (by first | (go_simp; done) | (go_simp; exact ⟨rfl, rfl⟩) | (go_simp; with_reducible rfl)) ?_
        simp only [Act.put, List.setIfInBounds_toArray, List.set_cons_zero, List.set_cons_succ]
        refine doc_end (HF.out _ _ ?_)
        clear HF F' bK bD KK
        have S3 := hid (SS.out.more (Below.ext_mk (Below.refl _ _) (Nat.le_refl _) m3 d3))
        clear SS
        generalize wr.ext m3 d3 = Y at *
        go_wp2_with fail
        go_loopw [57] (fun iv wr => ∃ (j : Nat) (S : PD) (kd : PK), j ≤ os.length ∧ iv = .int .i64 j ∧ S.Ok hs ∧ S.Zo ∧ PlSt w wr p w.heap.size qb vb qd Gr gs port (List.replicate ms.length 0#128) S kd) (fun iv _ => os.length - (intOf iv).toNat)
        case atStart => exact ⟨0, _, _, by omega, rfl, PD.new_ok hbl HBS.out, PD.new_zo hs bs, S3.out⟩
        case round =>
          obtain ⟨j, S, kd2, hj, rfl, hO, hZ, hS⟩ := hrel
          by_cases hlt : j < os.length
          · have hj1 : (j : Int) < (os.length : Int) := by omega
            obtain ⟨ob, oo, eo, zo, co⟩ := (HO.out.below hS.below).2.2.2 (by simp only; omega)
            simp only at eo
            subst eo
            obtain ⟨oj, hoj⟩ : ∃ oj, oj = os[j] := ⟨_, rfl⟩
            have co6 : ∀ i u, oj.cs[i]? = some u → wr.cell? ⟨ob, oo + j * 6 + i, none⟩ = some u := fun i u hu => by
              have hi : i < 6 := (List.getElem?_eq_some_iff.1 hu).1
              have := co (j * 6 + i) u (by rw [flatMap_at OpP.cs (size := 6) (fun _ => rfl) os j i hi, List.getElem?_eq_getElem hlt]; simpa [hoj] using hu)
              rw [Nat.add_assoc]; exact this
            have CO := hid co6
            have SS := hid hS
            have OO := hid hO
            have ZZ := hid hZ
            clear hO hZ hS co co6 hoj S3
            go_upto_region 14 with (fail)
            refine wp_region_doc (fun F' hF => ?_)
            have HF := hid hF
            clear hF
            refine doc_val rfl (by first | (go_simp; done) | (go_simp; exact ⟨rfl, rfl⟩) | (go_simp; with_reducible rfl)) ?_
            simp only [Act.put, List.setIfInBounds_toArray, List.set_cons_zero, List.set_cons_succ]
            refine doc_val (v := oj.v) rfl (load_at_op _ _ _ _ _ _ _ _ Try.underlying58 (op_size (by kernel_rfl)) rfl CO.out) ?_
            simp only [Act.put, List.setIfInBounds_toArray, List.set_cons_zero, List.set_cons_succ]
            refine doc_val rfl (by first | (go_simp; done) | (go_simp; exact ⟨rfl, rfl⟩) | (go_simp; with_reducible rfl)) ?_
            simp only [Act.put, List.setIfInBounds_toArray, List.set_cons_zero, List.set_cons_succ]
            have bN0 := Blk.new wr 58 zeroOp
            refine doc_skip rfl (store_row_op (xs := zeroOp) (ys := oj.cs) _ _ _ _ _ _ _ _ _ (op_size (by kernel_rfl)) rfl (by simp [Value.oneCell']) rfl rfl bN0) ?_
            simp only [Act.put, List.setIfInBounds_toArray, List.set_cons_zero, List.set_cons_succ]
            refine doc_end (HF.out _ _ ?_)
            clear HF F'
            go_upto_region 15 with (fail)
            refine wp_gen (fun X1 hX1 => ?_)
            have hbX1 : Below wr.heap.size wr X1 := by rw [hX1]; exact Below.setRow (by (repeat' (first | (with_reducible exact Below.refl _ _) | (with_reducible refine Below.ext_mk ?_ ?_ _ _) | (with_reducible refine Below.alloc ?_ ?_ _) | (with_reducible refine Below.drew ?_) | (with_reducible refine Below.setCell ?_ ?_ _) | go_size))) (by simp) _
            have bO : Blk X1 wr.heap.size 58 oj.cs := by rw [hX1]; exact bN0.row _
            clear hX1 bN0
            have S1 := SS.out.more hbX1
            have hNl : ∀ q ∈ qb :: vb :: gs, q < wr.heap.size := fun q hq => (SS.out.ge q (by simp only [List.mem_append]; exact .inr hq)).2
            have hNd : qd < wr.heap.size := (SS.out.ge qd (by simp)).2
            obtain ⟨N, hN⟩ : ∃ N, N = wr.heap.size := ⟨_, rfl⟩
            rw [← hN] at bO hNl hNd ⊢
            have HN := hid hN
            clear hN SS
            have hge1 : ∀ q ∈ qb :: vb :: gs, w.heap.size ≤ q := fun q hq => (S1.ge q (by simp only [List.mem_append]; exact .inr hq)).1
            have CA := call_any (M := [w.heap.size, qd, Gr]) (b := qb) (vb := vb) (gs := gs) (fun q hq => (S1.ge q (by simp only [List.mem_append]; exact .inl hq)).2) S1.prg S1.doc OO.out ZZ.out (HH.out.below S1.below) ⟨MP.out.hl, MP.out.heads⟩
              (HH.out.row.awayN hge1) (fun x hx => (HH.out.each x hx).awayN hge1 (by have := (MP.out.heads x hx).lo; have := (HH.out.each x hx).int; omega)) (by rw [List.length_replicate]; exact MP.out.ml) (fun q hq => (S1.ge q (by simp only [List.mem_append]; exact .inr hq)).2) oj
            have SH := hid S1
            have bP1 := S1.prog
            have bD1 := S1.dblk
            have HNL := hid hNl
            clear S1 hge1 hNl
            refine wp_region_doc (fun F' hF => ?_)
            have HF := hid hF
            clear hF
            refine doc_val rfl (load_agg_op _ _ _ _ _ _ _ _ Try.underlying33 (prog_size _ rfl) rfl bP1) ?_
            simp only [Act.put, List.setIfInBounds_toArray, List.set_cons_zero, List.set_cons_succ]
            refine doc_val rfl (load_agg_op _ _ _ _ _ _ _ _ Try.underlying39 (pk_size _ rfl) rfl bD1) ?_
            simp only [Act.put, List.setIfInBounds_toArray, List.set_cons_zero, List.set_cons_succ]
            refine doc_val rfl (load_agg_op _ _ _ _ _ _ _ _ Try.underlying58 (op_size (by kernel_rfl)) rfl bO) ?_
            simp only [Act.put, List.setIfInBounds_toArray, List.set_cons_zero, List.set_cons_succ]
            refine doc_call (f := 20) (args := #[p.v, .pointer (some ⟨qb, 0, none⟩), kd2.v, oj.v]) rfl (by first | (go_simp; done) | (go_simp; exact ⟨rfl, rfl⟩) | (go_simp; with_reducible rfl)) (CA.mono ?_)
            rintro _ W3 ⟨kd3, rfl, t3, P3, D3⟩
            refine ⟨_, rfl, ?_⟩
            simp only [Act.put, List.setIfInBounds_toArray, List.set_cons_zero, List.set_cons_succ]
            iterate 4 (refine doc_val rfl (by first | (go_simp; done) | (go_simp; exact ⟨rfl, rfl⟩) | (go_simp; with_reducible rfl)) ?_; simp only [Act.put, List.setIfInBounds_toArray, List.set_cons_zero, List.set_cons_succ])
            have bN1 := Blk.new W3 39 zeroCs
            refine doc_skip rfl (store_row_op (xs := zeroCs) (ys := kd3.cs) _ _ _ _ _ _ _ _ _ (pk_size _ rfl) rfl (by simp [Value.oneCell']) rfl rfl bN1) ?_
            simp only [Act.put, List.setIfInBounds_toArray, List.set_cons_zero, List.set_cons_succ]
            refine doc_val rfl (by first | (go_simp; done) | (go_simp; exact ⟨rfl, rfl⟩) | (go_simp; with_reducible rfl)) ?_
            simp only [Act.put, List.setIfInBounds_toArray, List.set_cons_zero, List.set_cons_succ]
            refine doc_end (HF.out _ _ ?_)
            clear HF F' CA bP1 bD1
            go_upto_region 16 with (fail)
            refine wp_gen (fun X2 hX2 => ?_)
            have hb3 : Below W3.heap.size W3 X2 := by rw [hX2]; exact Below.setRow (by (repeat' (first | (with_reducible exact Below.refl _ _) | (with_reducible refine Below.ext_mk ?_ ?_ _ _) | (with_reducible refine Below.alloc ?_ ?_ _) | (with_reducible refine Below.drew ?_) | (with_reducible refine Below.setCell ?_ ?_ _) | go_size))) (by simp) _
            have b15 : Blk X2 W3.heap.size 39 kd3.cs := by rw [hX2]; exact bN1.row _
            clear hX2 bN1
            have nN : N ∉ qb :: vb :: gs := fun hm => by have := HNL.out N hm; omega
            have bD2 := (t3.blk SH.out.dblk (SH.out.sep qd (by simp))).below hb3
            have bO2 := (t3.blk bO nN).below hb3
            have S4 := hid (SH.out.op t3 P3 D3 hb3)
            clear t3 P3 D3 bO SH nN
            refine wp_region_doc (fun F' hF => ?_)
            have HF := hid hF
            clear hF
            refine doc_val rfl (load_agg_op _ _ _ _ _ _ _ _ Try.underlying39 (pk_size _ rfl) rfl b15) ?_
            simp only [Act.put, List.setIfInBounds_toArray, List.set_cons_zero, List.set_cons_succ]
            refine doc_skip rfl (store_row_op (xs := kd2.cs) (ys := kd3.cs) _ _ _ _ _ _ _ _ _ (pk_size _ rfl) rfl (by simp [Value.oneCell']) rfl rfl bD2) ?_
            simp only [Act.put, List.setIfInBounds_toArray, List.set_cons_zero, List.set_cons_succ]
            refine doc_end (HF.out _ _ ?_)
            clear HF F' b15
            have bO3 := bO2.farRow (b := qd) (by omega) kd3.cs.toArray
            clear bO2 bD2 hb3
            go_upto_region 17 with (fail)
            generalize X2.setRow qd kd3.cs.toArray = X3 at *
            obtain ⟨k3, F3, o3, bK3, K3⟩ := S4.out.k (OO.out.op oj) HH.out HM.out HE.out MP.out IH.out IM.out
            have K17 := hid K3
            have bP3 := S4.out.prog
            have bD3 := S4.out.dblk
            have o1 := bO3.cell 1
            have zo1 := bO3.lt
            simp only [List.getElem?_cons_zero, List.getElem?_cons_succ] at o1
            clear K3
            refine wp_region_ext (by kernel_rfl) (by kernel_rfl) (fun F hF => ?_)
            have HF := hid hF; clear hF
            repeat (first
              | (apply text_skip; (focus rfl); simp only [Act.put, List.setIfInBounds_toArray, List.set_cons_zero, List.set_cons_succ])
              | (apply text_val; (focus rfl); (focus (intro _ _; exact load_agg_op _ _ _ _ _ _ _ _ Try.underlying33 (prog_size _ rfl) rfl (bP3.ext _ _))); simp only [Act.put, List.setIfInBounds_toArray, List.set_cons_zero, List.set_cons_succ])
              | (apply text_val; (focus rfl); (focus (intro _ _; exact load_agg_op _ _ _ _ _ _ _ _ Try.underlying39 (pk_size _ rfl) rfl (bK3.ext _ _))); simp only [Act.put, List.setIfInBounds_toArray, List.set_cons_zero, List.set_cons_succ])
              | (apply text_val; (focus rfl); (focus (intro _ _; exact load_agg_op _ _ _ _ _ _ _ _ Try.underlying39 (pk_size _ rfl) rfl (bD3.ext _ _))); simp only [Act.put, List.setIfInBounds_toArray, List.set_cons_zero, List.set_cons_succ])
              | (apply text_if; (focus (first | exact wanted_t rfl rfl | exact wanted_f rfl rfl | exact wanted_gt rfl rfl | exact wanted_gf rfl rfl)); (focus (intro hc _ _; exact load_agg_op _ _ _ _ _ _ _ _ Try.underlying33 (prog_size _ rfl) rfl (bP3.ext _ _))); simp only [Act.put, List.setIfInBounds_toArray, List.set_cons_zero, List.set_cons_succ])
              | (apply text_if; (focus (first | exact wanted_t rfl rfl | exact wanted_f rfl rfl | exact wanted_gt rfl rfl | exact wanted_gf rfl rfl)); (focus (intro hc _ _; exact load_agg_op _ _ _ _ _ _ _ _ Try.underlying39 (pk_size _ rfl) rfl (bK3.ext _ _))); simp only [Act.put, List.setIfInBounds_toArray, List.set_cons_zero, List.set_cons_succ])
              | (apply text_if; (focus (first | exact wanted_t rfl rfl | exact wanted_f rfl rfl | exact wanted_gt rfl rfl | exact wanted_gf rfl rfl)); (focus (intro hc _ _; exact load_agg_op _ _ _ _ _ _ _ _ Try.underlying39 (pk_size _ rfl) rfl (bD3.ext _ _))); simp only [Act.put, List.setIfInBounds_toArray, List.set_cons_zero, List.set_cons_succ])
              | (apply text_val; (focus rfl); (focus (intro _ _; go_simp; with_reducible rfl)); simp only [Act.put, List.setIfInBounds_toArray, List.set_cons_zero, List.set_cons_succ])
              | (apply text_call; (focus rfl); (focus (intro _ _; go_simp; exact ⟨rfl, rfl⟩)); (focus (intro _ _; with_reducible (exact K17.out.same _ (Below.ext_mk (Below.refl _ _) (Nat.le_refl _) _ _)))); simp only [Act.put, List.setIfInBounds_toArray, List.set_cons_zero, List.set_cons_succ])
              | (apply text_call; (focus rfl); (focus (intro _ _; go_simp; exact ⟨rfl, rfl⟩)); (focus (intro _ _; with_reducible (exact K17.out.fits _ (Below.ext_mk (Below.refl _ _) (Nat.le_refl _) _ _)))); simp only [Act.put, List.setIfInBounds_toArray, List.set_cons_zero, List.set_cons_succ])
              | (apply text_call; (focus rfl); (focus (intro _ _; go_simp; exact ⟨rfl, rfl⟩)); (focus (intro _ _; with_reducible (exact K17.out.rfits _ (Below.ext_mk (Below.refl _ _) (Nat.le_refl _) _ _)))); simp only [Act.put, List.setIfInBounds_toArray, List.set_cons_zero, List.set_cons_succ])
              | (apply text_call; (focus rfl); (focus (intro _ _; go_simp; exact ⟨rfl, rfl⟩)); (focus (intro _ _; with_reducible (exact K17.out.size _ (Below.ext_mk (Below.refl _ _) (Nat.le_refl _) _ _) _))); simp only [Act.put, List.setIfInBounds_toArray, List.set_cons_zero, List.set_cons_succ])
              | (apply text_call; (focus rfl); (focus (intro _ _; go_simp; exact ⟨rfl, rfl⟩)); (focus (intro _ _; with_reducible (exact K17.out.rsize _ (Below.ext_mk (Below.refl _ _) (Nat.le_refl _) _ _) _))); simp only [Act.put, List.setIfInBounds_toArray, List.set_cons_zero, List.set_cons_succ])
              | (apply text_if; (focus (first | exact wanted_t rfl rfl | exact wanted_f rfl rfl | exact wanted_gt rfl rfl | exact wanted_gf rfl rfl)); (focus (intro hc _ _; (try simp only [Bool.and_eq_true, Bool.not_eq_true', Bool.true_and] at hc); go_simp; with_reducible rfl)); simp only [Act.put, List.setIfInBounds_toArray, List.set_cons_zero, List.set_cons_succ])
              | (apply text_if_call; (focus (first | exact wanted_t rfl rfl | exact wanted_f rfl rfl | exact wanted_gt rfl rfl | exact wanted_gf rfl rfl)); (focus (intro hc _ _; (try simp only [Bool.and_eq_true, Bool.not_eq_true', Bool.true_and] at hc); go_simp; exact ⟨rfl, rfl⟩)); (focus (intro hc _ _; with_reducible (exact K17.out.same _ (Below.ext_mk (Below.refl _ _) (Nat.le_refl _) _ _)))); simp only [Act.put, List.setIfInBounds_toArray, List.set_cons_zero, List.set_cons_succ])
              | (apply text_if_call; (focus (first | exact wanted_t rfl rfl | exact wanted_f rfl rfl | exact wanted_gt rfl rfl | exact wanted_gf rfl rfl)); (focus (intro hc _ _; (try simp only [Bool.and_eq_true, Bool.not_eq_true', Bool.true_and] at hc); go_simp; exact ⟨rfl, rfl⟩)); (focus (intro hc _ _; with_reducible (exact K17.out.fits _ (Below.ext_mk (Below.refl _ _) (Nat.le_refl _) _ _)))); simp only [Act.put, List.setIfInBounds_toArray, List.set_cons_zero, List.set_cons_succ])
              | (apply text_if_call; (focus (first | exact wanted_t rfl rfl | exact wanted_f rfl rfl | exact wanted_gt rfl rfl | exact wanted_gf rfl rfl)); (focus (intro hc _ _; (try simp only [Bool.and_eq_true, Bool.not_eq_true', Bool.true_and] at hc); go_simp; exact ⟨rfl, rfl⟩)); (focus (intro hc _ _; with_reducible (exact K17.out.rfits _ (Below.ext_mk (Below.refl _ _) (Nat.le_refl _) _ _)))); simp only [Act.put, List.setIfInBounds_toArray, List.set_cons_zero, List.set_cons_succ])
              | (apply text_if_call; (focus (first | exact wanted_t rfl rfl | exact wanted_f rfl rfl | exact wanted_gt rfl rfl | exact wanted_gf rfl rfl)); (focus (intro hc _ _; (try simp only [Bool.and_eq_true, Bool.not_eq_true', Bool.true_and] at hc); go_simp; exact ⟨rfl, rfl⟩)); (focus (intro hc _ _; with_reducible (exact K17.out.size _ (Below.ext_mk (Below.refl _ _) (Nat.le_refl _) _ _) _))); simp only [Act.put, List.setIfInBounds_toArray, List.set_cons_zero, List.set_cons_succ])
              | (apply text_if_call; (focus (first | exact wanted_t rfl rfl | exact wanted_f rfl rfl | exact wanted_gt rfl rfl | exact wanted_gf rfl rfl)); (focus (intro hc _ _; (try simp only [Bool.and_eq_true, Bool.not_eq_true', Bool.true_and] at hc); go_simp; exact ⟨rfl, rfl⟩)); (focus (intro hc _ _; with_reducible (exact K17.out.rsize _ (Below.ext_mk (Below.refl _ _) (Nat.le_refl _) _ _) _))); simp only [Act.put, List.setIfInBounds_toArray, List.set_cons_zero, List.set_cons_succ]))
            refine text_nil (HF.out _ (fun mx dx => ?_))
            clear HF F
            go_upto_region 19 with (fail)
            refine wp_gen (fun X4 hX4 => ?_)
            have hb34 : Below X3.heap.size X3 X4 := by rw [hX4]; (repeat' (first | (with_reducible exact Below.refl _ _) | (with_reducible refine Below.ext_mk ?_ ?_ _ _) | (with_reducible refine Below.alloc ?_ ?_ _) | (with_reducible refine Below.drew ?_) | (with_reducible refine Below.setCell ?_ ?_ _) | go_size))
            clear hX4
            have S5 := hid (S4.out.more hb34)
            have bK4 := bK3.below hb34
            have bP4 := bP3.below hb34
            have bD4 := bD3.below hb34
            have HB34 := hid hb34
            clear bK3 bP3 bD3 bO3 o1 zo1 S4 hb34
            refine wp_region_doc (fun F' hF => ?_)
            have HF := hid hF
            clear hF
            refine doc_val rfl (load_agg_op _ _ _ _ _ _ _ _ Try.underlying33 (prog_size _ rfl) rfl bP4) ?_
            simp only [Act.put, List.setIfInBounds_toArray, List.set_cons_zero, List.set_cons_succ]
            refine doc_val rfl (load_agg_op _ _ _ _ _ _ _ _ Try.underlying39 (pk_size _ rfl) rfl bK4) ?_
            simp only [Act.put, List.setIfInBounds_toArray, List.set_cons_zero, List.set_cons_succ]
            refine doc_call (f := 13) (args := #[p.v, k3.v]) rfl (by first | (go_simp; done) | (go_simp; exact ⟨rfl, rfl⟩) | (go_simp; with_reducible rfl)) ((K17.out.emit _ HB34.out).mono ?_)
            rintro _ W5 ⟨r, G, rfl, hrow, hG, hb5⟩
            refine ⟨_, rfl, ?_⟩
            simp only [Act.put, List.setIfInBounds_toArray, List.set_cons_zero, List.set_cons_succ]
            refine doc_val rfl (by first | (go_simp; done) | (go_simp; exact ⟨rfl, rfl⟩) | (go_simp; with_reducible rfl)) ?_
            simp only [Act.put, List.setIfInBounds_toArray, List.set_cons_zero, List.set_cons_succ]
            refine doc_end (HF.out _ _ ?_)
            clear HF F'
            have BP20 := hid (bP4.below hb5)
            have BD20 := hid (bD4.below hb5)
            have RR20 := hid (RowIs.rdS hrow).1
            have hb35 : Below X3.heap.size X3 W5 := HB34.out.trans (hb5.mono HB34.out.size)
            have EM20 := hid (fun W (hb : Below W5.heap.size W5 W) => K17.out.remit W (hb35.trans (hb.mono hb35.size)))
            have HR := hid hrow
            have HG := hid hG
            have hz45 := hb5.size
            have HB5 := hid hb5
            clear bK4 bP4 bD4 hrow hG hb35
            go_upto_region 20 with (fail)
            refine wp_emits W5 p r kd3 o3 (by kernel_rfl) (by kernel_rfl) ?_ ?_ ?_
            · refine ⟨slNil, ?_, Below.drew (Below.refl _ _), fun h => by simp at h⟩
              unfold pmAct
              rfl
            · rintro L a Z' hall ⟨r', rfl, hB, _⟩
              have e0 := hall 0 (by decide)
              have e1 := hall 1 (by decide)
              have e2 := hall 2 (by decide)
              have e3 := hall 3 (by decide)
              have e4 := hall 4 (by decide)
              have e5 := hall 5 (by decide)
              have e6 := hall 6 (by decide)
              unfold pmAct
              simp only [e0, e1, e2, e3, e4, e5, e6, gx_true]
              clear e0 e1 e2 e3 e4 e5 e6 hall
              have hR7 := RowIs.keep HR.out (fun g hg => hB.block g (RowIs.lt HR.out g hg))
              have hb7 : Below X4.heap.size X4 Z' := HB5.out.trans (hB.mono hz45)
              have hrn := RR20.out.2.1
              have HR7 := hid hR7
              have HB7 := hid hb7
              clear hB HR BP20 BD20 RR20 EM20 HB5 hR7 hb7
              obtain ⟨ra, rn, rc⟩ := r
              simp only [SL.v_mk] at HR7 hrn
              go_wp2_with fail
              go_loopw [109] (fun iv wr => ∃ (i : Nat) (vs : List Value), i ≤ rn ∧ iv = .int .i64 i ∧ U8s vs ∧ RowIs wr (.slice ra rn rc) G 5 1 rn vs ∧ Below X4.heap.size X4 wr) (fun iv _ => rn - (intOf iv).toNat)
              case atStart => exact ⟨0, _, by omega, rfl, u8s_byts o3, HR7.out, HB7.out⟩
              case round =>
                obtain ⟨i, vs, hi, rfl, hu, hR, hS⟩ := hrel
                by_cases hli : i < rn
                · have hi1 : (i : Int) < (rn : Int) := by omega
                  have hvl : vs.length = rn := by have := hR.1; omega
                  obtain ⟨x, hx⟩ := hu vs[i] (List.getElem_mem _)
                  obtain ⟨g', cap, e1, rfl, e3, e4⟩ := hR.at hli (j := 0) (by omega)
                  obtain ⟨rfl, -⟩ := RowIs.addr hR
                  simp only [Nat.mul_one, Nat.add_zero] at e3 e4
                  rw [List.getElem?_eq_getElem (by omega), hx] at e3
                  have zx := RowIs.lt hR g' rfl
                  have hgg := HG.out g' rfl
                  have NN := hid (RowIs.setOne (.int .u8 (IntKind.u8.wrap (x + 1))) hR hli).1
                  have SS := hid (hS.trans ((Turn.set_ (w := wr) (L := [g']) g' i (.int .u8 (IntKind.u8.wrap (x + 1))) (by simp)).below (fun q hq => by simp at hq; omega) hS.size))
                  have HU := hid (hu.set i (IntKind.u8.wrap (x + 1)))
                  clear hu hR hS e1 hx hgg
                  go_wp2_with fail
                  go_roundw
                  case rel => exact ⟨i + 1, _, hli, by go_num, HU.out, NN.out, SS.out⟩
                  case measure => simp [intOf]; omega
                · have SS := hid hS
                  clear hu hR hS
                  go_wp2_with fail
                  go_roundw
                  case rel => exact ⟨j + 1, _, _, hlt, by go_num, OO.out.op oj, ZZ.out.op OO.out oj, S5.out.more SS.out⟩
                  case measure => simp [intOf]; omega
            · skip
              -- GENERATED20 by genplays.py
              refine ⟨fun L a w hn hI => ?_, ?_⟩
              · obtain ⟨r', rfl, hB, hR⟩ := hI
                have hup := getD_up hn.2.1
                refine st_val (v := r.v) (W1 := w) rfl (by unfold pmAct; simp only [gx_true]; go_simp) ?_
                refine ⟨r', ?_, hB, fun h2 => hR (by rwa [up_ne 0 4 (by decide)] at h2)⟩
                unfold pmAct
                simp only [Act.put, List.setIfInBounds_toArray, List.set_cons_zero, List.set_cons_succ, hup, gx_true, up_ne 0 1 (by decide), up_ne 0 2 (by decide), up_ne 0 3 (by decide), up_ne 0 4 (by decide), up_ne 0 5 (by decide), up_ne 0 6 (by decide)]
              refine ⟨fun L a w hn hI => ?_, ?_⟩
              · obtain ⟨r', rfl, hB, hR⟩ := hI
                have hup := getD_up hn.2.1
                have d0 : L.getD 0 false = true := hn.2.2.1 0 (by decide +kernel)
                have hs1 := str_any (RR20.out.below hB)
                refine st_val (v := .string (strOf o3)) (W1 := w) rfl (by unfold pmAct; simp only [gx_true, d0]; go_simp) ?_
                refine ⟨r', ?_, hB, fun h2 => hR (by rwa [up_ne 1 4 (by decide)] at h2)⟩
                unfold pmAct
                simp only [Act.put, List.setIfInBounds_toArray, List.set_cons_zero, List.set_cons_succ, hup, gx_true, up_ne 1 0 (by decide), up_ne 1 2 (by decide), up_ne 1 3 (by decide), up_ne 1 4 (by decide), up_ne 1 5 (by decide), up_ne 1 6 (by decide)]
              refine ⟨fun L a w hn hI => ?_, ?_⟩
              · obtain ⟨r', rfl, hB, hR⟩ := hI
                have hup := getD_up hn.2.1
                refine st_val (v := p.v) (W1 := w) rfl (by unfold pmAct; simp only [gx_true]; exact load_agg_op _ _ _ _ _ _ _ _ Try.underlying33 (prog_size _ rfl) rfl (BP20.out.below hB)) ?_
                refine ⟨r', ?_, hB, fun h2 => hR (by rwa [up_ne 2 4 (by decide)] at h2)⟩
                unfold pmAct
                simp only [Act.put, List.setIfInBounds_toArray, List.set_cons_zero, List.set_cons_succ, hup, gx_true, up_ne 2 0 (by decide), up_ne 2 1 (by decide), up_ne 2 3 (by decide), up_ne 2 4 (by decide), up_ne 2 5 (by decide), up_ne 2 6 (by decide)]
              refine ⟨fun L a w hn hI => ?_, ?_⟩
              · obtain ⟨r', rfl, hB, hR⟩ := hI
                have hup := getD_up hn.2.1
                refine st_val (v := kd3.v) (W1 := w) rfl (by unfold pmAct; simp only [gx_true]; exact load_agg_op _ _ _ _ _ _ _ _ Try.underlying39 (pk_size _ rfl) rfl (BD20.out.below hB)) ?_
                refine ⟨r', ?_, hB, fun h2 => hR (by rwa [up_ne 3 4 (by decide)] at h2)⟩
                unfold pmAct
                simp only [Act.put, List.setIfInBounds_toArray, List.set_cons_zero, List.set_cons_succ, hup, gx_true, up_ne 3 0 (by decide), up_ne 3 1 (by decide), up_ne 3 2 (by decide), up_ne 3 4 (by decide), up_ne 3 5 (by decide), up_ne 3 6 (by decide)]
              refine ⟨fun L a w hn hI => ?_, ?_⟩
              · obtain ⟨r', rfl, hB, hR⟩ := hI
                have hup := getD_up hn.2.1
                have d2 : L.getD 2 false = true := hn.2.2.1 2 (by decide +kernel)
                have d3 : L.getD 3 false = true := hn.2.2.1 3 (by decide +kernel)
                refine st_call (f := 23) (args := #[p.v, kd3.v]) (W1 := w) rfl (by unfold pmAct; simp only [gx_true, d2, d3]; first | (go_simp; done) | (go_simp; exact ⟨rfl, rfl⟩) | (go_simp; with_reducible rfl)) ((EM20.out w hB).mono ?_)
                rintro e' w2 ⟨r'', rfl, q1, q2⟩
                refine ⟨_, rfl, r'', ?_, hB.trans (q2.mono hB.size), fun _ => q1⟩
                unfold pmAct
                simp only [Act.put, List.setIfInBounds_toArray, List.set_cons_zero, List.set_cons_succ, hup, gx_true, up_ne 4 0 (by decide), up_ne 4 1 (by decide), up_ne 4 2 (by decide), up_ne 4 3 (by decide), up_ne 4 5 (by decide), up_ne 4 6 (by decide)]
              refine ⟨fun L a w hn hI => ?_, ?_⟩
              · obtain ⟨r', rfl, hB, hR⟩ := hI
                have hup := getD_up hn.2.1
                have d4 : L.getD 4 false = true := hn.2.2.1 4 (by decide +kernel)
                have hs1 := str_any (hR d4)
                refine st_val (v := .string (strOf o3)) (W1 := w) rfl (by unfold pmAct; simp only [gx_true, d4]; go_simp) ?_
                refine ⟨r', ?_, hB, fun h2 => hR (by rwa [up_ne 5 4 (by decide)] at h2)⟩
                unfold pmAct
                simp only [Act.put, List.setIfInBounds_toArray, List.set_cons_zero, List.set_cons_succ, hup, gx_true, up_ne 5 0 (by decide), up_ne 5 1 (by decide), up_ne 5 2 (by decide), up_ne 5 3 (by decide), up_ne 5 4 (by decide), up_ne 5 6 (by decide)]
              refine ⟨fun L a w hn hI => ?_, ?_⟩
              · obtain ⟨r', rfl, hB, hR⟩ := hI
                have hup := getD_up hn.2.1
                have d1 : L.getD 1 false = true := hn.2.2.1 1 (by decide +kernel)
                have d5 : L.getD 5 false = true := hn.2.2.1 5 (by decide +kernel)
                refine st_val (v := .bool false) (W1 := w) rfl (by unfold pmAct; simp only [gx_true, d1, d5]; go_simp) ?_
                refine ⟨r', ?_, hB, fun h2 => hR (by rwa [up_ne 6 4 (by decide)] at h2)⟩
                unfold pmAct
                simp only [Act.put, List.setIfInBounds_toArray, List.set_cons_zero, List.set_cons_succ, hup, gx_true, up_ne 6 0 (by decide), up_ne 6 1 (by decide), up_ne 6 2 (by decide), up_ne 6 3 (by decide), up_ne 6 4 (by decide), up_ne 6 5 (by decide)]
              trivial
              -- END GENERATED20
          · obtain rfl : j = os.length := by omega
            obtain ⟨k4, F4, o4, bK, K4⟩ := hS.k hO HH.out HM.out HE.out MP.out IH.out IM.out
            have bD := hS.dblk
            have K28 := hid K4
            have hbE := hS.below
            clear hO hZ hS K4 S3
            go_upto_region 28 with (fail)
            refine wp_region_doc (fun F' hF => ?_)
            have HF := hid hF
            clear hF
            refine doc_val rfl (load_agg_op _ _ _ _ _ _ _ _ Try.underlying39 (pk_size _ rfl) rfl bK) ?_
            simp only [Act.put, List.setIfInBounds_toArray, List.set_cons_zero, List.set_cons_succ]
            refine doc_val rfl (load_agg_op _ _ _ _ _ _ _ _ Try.underlying39 (pk_size _ rfl) rfl bD) ?_
            simp only [Act.put, List.setIfInBounds_toArray, List.set_cons_zero, List.set_cons_succ]
            refine doc_call (f := 16) (args := #[k4.v, kd2.v]) rfl (by first | (go_simp; done) | (go_simp; exact ⟨rfl, rfl⟩) | (go_simp; with_reducible rfl)) ((K28.out.same _ (Below.refl _ _)).mono ?_)
            rintro _ _ ⟨rfl, m8, d8, rfl⟩
            refine ⟨_, rfl, ?_⟩
            simp only [Act.put, List.setIfInBounds_toArray, List.set_cons_zero, List.set_cons_succ]
            refine doc_val rfl (by first | (go_simp; done) | (go_simp; exact ⟨rfl, rfl⟩) | (go_simp; with_reducible rfl)) ?_
            simp only [Act.put, List.setIfInBounds_toArray, List.set_cons_zero, List.set_cons_succ]
            refine doc_call (f := 8) (args := #[]) rfl (by first | (go_simp; done) | (go_simp; exact ⟨rfl, rfl⟩) | (go_simp; with_reducible rfl)) ((known19 _).mono ?_)
            rintro _ _ ⟨rfl, m9, d9, rfl⟩
            refine ⟨_, rfl, ?_⟩
            simp only [Act.put, List.setIfInBounds_toArray, List.set_cons_zero, List.set_cons_succ]
            iterate 2 (refine doc_val rfl (by first | (go_simp; done) | (go_simp; exact ⟨rfl, rfl⟩) | (go_simp; with_reducible rfl)) ?_; simp only [Act.put, List.setIfInBounds_toArray, List.set_cons_zero, List.set_cons_succ])
            refine doc_end (HF.out _ _ ?_)
            clear HF F' bK bD K28
            go_wp2_with fail
            go_returns
            exact Pure.of rfl (by have := hbE.size; (repeat' (first | (with_reducible exact hbE) | (with_reducible exact Below.refl _ _) | (with_reducible refine Below.ext_mk ?_ ?_ _ _) | (with_reducible refine Below.alloc ?_ ?_ _) | (with_reducible refine Below.drew ?_) | (with_reducible refine Below.setCell ?_ ?_ _) | go_size)))
  -- GENERATED4 by genplays.py
  refine ⟨fun L a w hn hI => ?_, ?_⟩
  · obtain ⟨k, kd, qb, qd, wA, w2, wR, wR2, rfl, hI⟩ := hI
    have hup := getD_up hn.2.1
    refine st_val (v := p.v) (W1 := w) rfl (by unfold plAct; simp only [gd_true]; exact load_agg_op _ _ _ _ _ _ _ _ Try.underlying33 (prog_size _ rfl) rfl (BP4.out.below hI.below)) ?_
    refine ⟨k, kd, qb, qd, wA, w2, wR, wR2, ?_, hI.congr (up_ne _ _ (by decide)) (up_ne _ _ (by decide)) (up_ne _ _ (by decide)) (up_ne _ _ (by decide)) (up_ne _ _ (by decide)) (up_ne _ _ (by decide))⟩
    unfold plAct
    simp only [Act.put, List.setIfInBounds_toArray, List.set_cons_zero, List.set_cons_succ, hup, gd_true, gd_false, up_ne 0 1 (by decide), up_ne 0 2 (by decide), up_ne 0 3 (by decide), up_ne 0 4 (by decide), up_ne 0 5 (by decide), up_ne 0 6 (by decide), up_ne 0 7 (by decide), up_ne 0 8 (by decide), up_ne 0 9 (by decide), up_ne 0 10 (by decide), up_ne 0 11 (by decide)]
  refine ⟨fun L a w hn hI => ?_, ?_⟩
  · obtain ⟨k, kd, qb, qd, wA, w2, wR, wR2, rfl, hI⟩ := hI
    have hup := getD_up hn.2.1
    refine st_val (v := .int .i64 port) (W1 := w) rfl (by unfold plAct; simp only [gd_true]; go_simp) ?_
    refine ⟨k, kd, qb, qd, wA, w2, wR, wR2, ?_, hI.congr (up_ne _ _ (by decide)) (up_ne _ _ (by decide)) (up_ne _ _ (by decide)) (up_ne _ _ (by decide)) (up_ne _ _ (by decide)) (up_ne _ _ (by decide))⟩
    unfold plAct
    simp only [Act.put, List.setIfInBounds_toArray, List.set_cons_zero, List.set_cons_succ, hup, gd_true, gd_false, up_ne 1 0 (by decide), up_ne 1 2 (by decide), up_ne 1 3 (by decide), up_ne 1 4 (by decide), up_ne 1 5 (by decide), up_ne 1 6 (by decide), up_ne 1 7 (by decide), up_ne 1 8 (by decide), up_ne 1 9 (by decide), up_ne 1 10 (by decide), up_ne 1 11 (by decide)]
  refine ⟨fun L a w hn hI => ?_, ?_⟩
  · obtain ⟨k, kd, qb, qd, wA, w2, wR, wR2, rfl, hI⟩ := hI
    have hup := getD_up hn.2.1
    refine st_val (v := (⟨some ⟨Gr, 0, none⟩, bs.length, c1⟩ : SL).v) (W1 := w) rfl (by unfold plAct; simp only [gd_true]; go_simp) ?_
    refine ⟨k, kd, qb, qd, wA, w2, wR, wR2, ?_, hI.congr (up_ne _ _ (by decide)) (up_ne _ _ (by decide)) (up_ne _ _ (by decide)) (up_ne _ _ (by decide)) (up_ne _ _ (by decide)) (up_ne _ _ (by decide))⟩
    unfold plAct
    simp only [Act.put, List.setIfInBounds_toArray, List.set_cons_zero, List.set_cons_succ, hup, gd_true, gd_false, up_ne 2 0 (by decide), up_ne 2 1 (by decide), up_ne 2 3 (by decide), up_ne 2 4 (by decide), up_ne 2 5 (by decide), up_ne 2 6 (by decide), up_ne 2 7 (by decide), up_ne 2 8 (by decide), up_ne 2 9 (by decide), up_ne 2 10 (by decide), up_ne 2 11 (by decide)]
  refine ⟨fun L a w hn hI => ?_, ?_⟩
  · obtain ⟨k, kd, qb, qd, wA, w2, wR, wR2, rfl, hI⟩ := hI
    have hup := getD_up hn.2.1
    have d0 : L.getD 0 false = true := hn.2.2.1 0 (by decide +kernel)
    have d1 : L.getD 1 false = true := hn.2.2.1 1 (by decide +kernel)
    have d2 : L.getD 2 false = true := hn.2.2.1 2 (by decide +kernel)
    have f10 := not_up hn.2.2.2 (i := 10) (k := 3) (by decide +kernel) hn.2.1
    have f11 := not_up hn.2.2.2 (i := 11) (k := 3) (by decide +kernel) hn.2.1
    have f7 := not_up hn.2.2.2 (i := 7) (k := 3) (by decide +kernel) hn.2.1
    refine st_call (f := 11) (args := #[p.v, .int .i64 port, (⟨some ⟨Gr, 0, none⟩, bs.length, c1⟩ : SL).v]) (W1 := w) rfl (by unfold plAct; simp only [gd_true, d0, d1, d2]; first | (go_simp; done) | (go_simp; exact ⟨rfl, rfl⟩) | (go_simp; with_reducible rfl)) ((new_any port (NI4.out w hI.below)).mono ?_)
    rintro e w3 N
    have N0 := N
    obtain ⟨r, fv, vb, mb, G, gs, he, _⟩ := N0
    subst he
    refine ⟨_, rfl, PK.mk port r ⟨some ⟨vb, 0, none⟩, (hs.map fun x => x.2.length).length, (hs.map fun x => x.2.length).length⟩ fv ⟨some ⟨mb, 0, none⟩, ms.length, ms.length⟩ false false 0 false, kd, qb, qd, w, w3, wR, wR2, ?_, hI.mk3 N hup ((up_ne _ _ (by decide)).trans f7) (up_ne _ _ (by decide)) (up_ne _ _ (by decide)) f10 ((up_ne _ _ (by decide)).trans f10) f11 ((up_ne _ _ (by decide)).trans f11)⟩
    unfold plAct
    simp only [Act.put, List.setIfInBounds_toArray, List.set_cons_zero, List.set_cons_succ, hup, gd_true, gd_false, f7, up_ne 3 0 (by decide), up_ne 3 1 (by decide), up_ne 3 2 (by decide), up_ne 3 4 (by decide), up_ne 3 5 (by decide), up_ne 3 6 (by decide), up_ne 3 7 (by decide), up_ne 3 8 (by decide), up_ne 3 9 (by decide), up_ne 3 10 (by decide), up_ne 3 11 (by decide)]
  refine ⟨fun L a w hn hI => ?_, ?_⟩
  · obtain ⟨k, kd, qb, qd, wA, w2, wR, wR2, rfl, hI⟩ := hI
    have hup := getD_up hn.2.1
    refine st_val (v := p.v) (W1 := w) rfl (by unfold plAct; simp only [gd_true]; exact load_agg_op _ _ _ _ _ _ _ _ Try.underlying33 (prog_size _ rfl) rfl (BP4.out.below hI.below)) ?_
    refine ⟨k, kd, qb, qd, wA, w2, wR, wR2, ?_, hI.congr (up_ne _ _ (by decide)) (up_ne _ _ (by decide)) (up_ne _ _ (by decide)) (up_ne _ _ (by decide)) (up_ne _ _ (by decide)) (up_ne _ _ (by decide))⟩
    unfold plAct
    simp only [Act.put, List.setIfInBounds_toArray, List.set_cons_zero, List.set_cons_succ, hup, gd_true, gd_false, up_ne 4 0 (by decide), up_ne 4 1 (by decide), up_ne 4 2 (by decide), up_ne 4 3 (by decide), up_ne 4 5 (by decide), up_ne 4 6 (by decide), up_ne 4 7 (by decide), up_ne 4 8 (by decide), up_ne 4 9 (by decide), up_ne 4 10 (by decide), up_ne 4 11 (by decide)]
  refine ⟨fun L a w hn hI => ?_, ?_⟩
  · obtain ⟨k, kd, qb, qd, wA, w2, wR, wR2, rfl, hI⟩ := hI
    have hup := getD_up hn.2.1
    refine st_val (v := .int .i64 port) (W1 := w) rfl (by unfold plAct; simp only [gd_true]; go_simp) ?_
    refine ⟨k, kd, qb, qd, wA, w2, wR, wR2, ?_, hI.congr (up_ne _ _ (by decide)) (up_ne _ _ (by decide)) (up_ne _ _ (by decide)) (up_ne _ _ (by decide)) (up_ne _ _ (by decide)) (up_ne _ _ (by decide))⟩
    unfold plAct
    simp only [Act.put, List.setIfInBounds_toArray, List.set_cons_zero, List.set_cons_succ, hup, gd_true, gd_false, up_ne 5 0 (by decide), up_ne 5 1 (by decide), up_ne 5 2 (by decide), up_ne 5 3 (by decide), up_ne 5 4 (by decide), up_ne 5 6 (by decide), up_ne 5 7 (by decide), up_ne 5 8 (by decide), up_ne 5 9 (by decide), up_ne 5 10 (by decide), up_ne 5 11 (by decide)]
  refine ⟨fun L a w hn hI => ?_, ?_⟩
  · obtain ⟨k, kd, qb, qd, wA, w2, wR, wR2, rfl, hI⟩ := hI
    have hup := getD_up hn.2.1
    refine st_val (v := (⟨sa, bs.length, sc⟩ : SL).v) (W1 := w) rfl (by unfold plAct; simp only [gd_true]; go_simp) ?_
    refine ⟨k, kd, qb, qd, wA, w2, wR, wR2, ?_, hI.congr (up_ne _ _ (by decide)) (up_ne _ _ (by decide)) (up_ne _ _ (by decide)) (up_ne _ _ (by decide)) (up_ne _ _ (by decide)) (up_ne _ _ (by decide))⟩
    unfold plAct
    simp only [Act.put, List.setIfInBounds_toArray, List.set_cons_zero, List.set_cons_succ, hup, gd_true, gd_false, up_ne 6 0 (by decide), up_ne 6 1 (by decide), up_ne 6 2 (by decide), up_ne 6 3 (by decide), up_ne 6 4 (by decide), up_ne 6 5 (by decide), up_ne 6 7 (by decide), up_ne 6 8 (by decide), up_ne 6 9 (by decide), up_ne 6 10 (by decide), up_ne 6 11 (by decide)]
  refine ⟨fun L a w hn hI => ?_, ?_⟩
  · obtain ⟨k, kd, qb, qd, wA, w2, wR, wR2, rfl, hI⟩ := hI
    have hup := getD_up hn.2.1
    have d4 : L.getD 4 false = true := hn.2.2.1 4 (by decide +kernel)
    have d5 : L.getD 5 false = true := hn.2.2.1 5 (by decide +kernel)
    have d6 : L.getD 6 false = true := hn.2.2.1 6 (by decide +kernel)
    have d3 : L.getD 3 false = true := hn.2.2.1 3 (by decide +kernel)
    have f10 := not_up hn.2.2.2 (i := 10) (k := 7) (by decide +kernel) hn.2.1
    have f11 := not_up hn.2.2.2 (i := 11) (k := 7) (by decide +kernel) hn.2.1
    refine st_call (f := 19) (args := #[p.v, .int .i64 port, (⟨sa, bs.length, sc⟩ : SL).v]) (W1 := w) rfl (by unfold plAct; simp only [gd_true, d4, d5, d6, d3]; first | (go_simp; done) | (go_simp; exact ⟨rfl, rfl⟩) | (go_simp; with_reducible rfl)) ((RN4.out w hI.below).mono ?_)
    rintro e w3 ⟨kd', rfl, hb, D⟩
    refine ⟨_, rfl, k, kd', qb, qd, wA, w2, w, w3, ?_, hI.mk7 hb D d3 ((up_ne _ _ (by decide)).trans d3) hup (up_ne _ _ (by decide)) (up_ne _ _ (by decide)) f10 ((up_ne _ _ (by decide)).trans f10) f11 ((up_ne _ _ (by decide)).trans f11)⟩
    unfold plAct
    simp only [Act.put, List.setIfInBounds_toArray, List.set_cons_zero, List.set_cons_succ, hup, gd_true, gd_false, up_ne 7 0 (by decide), up_ne 7 1 (by decide), up_ne 7 2 (by decide), up_ne 7 3 (by decide), up_ne 7 4 (by decide), up_ne 7 5 (by decide), up_ne 7 6 (by decide), up_ne 7 8 (by decide), up_ne 7 9 (by decide), up_ne 7 10 (by decide), up_ne 7 11 (by decide)]
  refine ⟨fun L a w hn hI => ?_, ?_⟩
  · obtain ⟨k, kd, qb, qd, wA, w2, wR, wR2, rfl, hI⟩ := hI
    have hup := getD_up hn.2.1
    have f10 := not_up hn.2.2.2 (i := 10) (k := 8) (by decide +kernel) hn.2.1
    have f11 := not_up hn.2.2.2 (i := 11) (k := 8) (by decide +kernel) hn.2.1
    refine st_val (v := .pointer (some ⟨w.heap.size, 0, none⟩)) (W1 := w.alloc (.cells zeroCs.toArray 39)) rfl (by unfold plAct; go_simp) ?_
    refine ⟨k, kd, w.heap.size, qd, wA, w2, wR, wR2, ?_, hI.mk8 (up_ne _ _ (by decide)) (up_ne _ _ (by decide)) hup (up_ne _ _ (by decide)) f10 ((up_ne _ _ (by decide)).trans f10) f11 ((up_ne _ _ (by decide)).trans f11)⟩
    unfold plAct
    simp only [Act.put, List.setIfInBounds_toArray, List.set_cons_zero, List.set_cons_succ, hup, gd_true, gd_false, f10, f11, up_ne 8 0 (by decide), up_ne 8 1 (by decide), up_ne 8 2 (by decide), up_ne 8 3 (by decide), up_ne 8 4 (by decide), up_ne 8 5 (by decide), up_ne 8 6 (by decide), up_ne 8 7 (by decide), up_ne 8 9 (by decide), up_ne 8 10 (by decide), up_ne 8 11 (by decide)]
  refine ⟨fun L a w hn hI => ?_, ?_⟩
  · obtain ⟨k, kd, qb, qd, wA, w2, wR, wR2, rfl, hI⟩ := hI
    have hup := getD_up hn.2.1
    have f10 := not_up hn.2.2.2 (i := 10) (k := 9) (by decide +kernel) hn.2.1
    have f11 := not_up hn.2.2.2 (i := 11) (k := 9) (by decide +kernel) hn.2.1
    refine st_val (v := .pointer (some ⟨w.heap.size, 0, none⟩)) (W1 := w.alloc (.cells zeroCs.toArray 39)) rfl (by unfold plAct; go_simp) ?_
    refine ⟨k, kd, qb, w.heap.size, wA, w2, wR, wR2, ?_, hI.mk9 (up_ne _ _ (by decide)) (up_ne _ _ (by decide)) (up_ne _ _ (by decide)) hup f10 ((up_ne _ _ (by decide)).trans f10) f11 ((up_ne _ _ (by decide)).trans f11)⟩
    unfold plAct
    simp only [Act.put, List.setIfInBounds_toArray, List.set_cons_zero, List.set_cons_succ, hup, gd_true, gd_false, f10, f11, up_ne 9 0 (by decide), up_ne 9 1 (by decide), up_ne 9 2 (by decide), up_ne 9 3 (by decide), up_ne 9 4 (by decide), up_ne 9 5 (by decide), up_ne 9 6 (by decide), up_ne 9 7 (by decide), up_ne 9 8 (by decide), up_ne 9 10 (by decide), up_ne 9 11 (by decide)]
  refine ⟨fun L a w hn hI => ?_, ?_⟩
  · obtain ⟨k, kd, qb, qd, wA, w2, wR, wR2, rfl, hI⟩ := hI
    have hup := getD_up hn.2.1
    have d8 : L.getD 8 false = true := hn.2.2.1 8 (by decide +kernel)
    have d3 : L.getD 3 false = true := hn.2.2.1 3 (by decide +kernel)
    have d7 : L.getD 7 false = true := hn.2.2.1 7 (by decide +kernel)
    have d9 : L.getD 9 false = true := hn.2.2.1 9 (by decide +kernel)
    have f11 := not_up hn.2.2.2 (i := 11) (k := 10) (by decide +kernel) hn.2.1
    have f10 := getD_false_of hn.2.1
    have hQ := (hI.qb d8).2.1
    simp only [f10, Bool.false_eq_true, if_false] at hQ
    have hS := hI.mk10 (b' := fun j => (L.setIfInBounds 10 true).getD j false) d8 d9 (up_ne _ _ (by decide)) (up_ne _ _ (by decide)) (up_ne _ _ (by decide)) (up_ne _ _ (by decide)) f10 hup f11 ((up_ne _ _ (by decide)).trans f11)
    unfold plAct
    simp only [d8, d3, gd_true]
    refine st_skip rfl (store_row_op (xs := zeroCs) (ys := k.cs) _ _ _ _ _ _ _ _ _ (pk_size _ rfl) rfl (by simp [Value.oneCell']) rfl rfl hQ) ?_
    refine ⟨k, kd, qb, qd, wA, w2, wR, wR2, ?_, hS⟩
    unfold plAct
    simp only [Act.put, hup, d8, d3, gd_true, up_ne 10 0 (by decide), up_ne 10 1 (by decide), up_ne 10 2 (by decide), up_ne 10 3 (by decide), up_ne 10 4 (by decide), up_ne 10 5 (by decide), up_ne 10 6 (by decide), up_ne 10 7 (by decide), up_ne 10 8 (by decide), up_ne 10 9 (by decide), up_ne 10 11 (by decide)]
  refine ⟨fun L a w hn hI => ?_, ?_⟩
  · obtain ⟨k, kd, qb, qd, wA, w2, wR, wR2, rfl, hI⟩ := hI
    have hup := getD_up hn.2.1
    have d9 : L.getD 9 false = true := hn.2.2.1 9 (by decide +kernel)
    have d7 : L.getD 7 false = true := hn.2.2.1 7 (by decide +kernel)
    have d8 : L.getD 8 false = true := hn.2.2.1 8 (by decide +kernel)
    have d10 : L.getD 10 false = true := hn.2.2.1 10 (by decide +kernel)
    have f11 := getD_false_of hn.2.1
    have hQ := (hI.qd d9).2.1
    simp only [f11, Bool.false_eq_true, if_false] at hQ
    have hS := hI.mk11 (b' := fun j => (L.setIfInBounds 11 true).getD j false) d8 d9 (up_ne _ _ (by decide)) (up_ne _ _ (by decide)) (up_ne _ _ (by decide)) (up_ne _ _ (by decide)) d10 ((up_ne _ _ (by decide)).trans d10) f11 hup
    unfold plAct
    simp only [d9, d7, gd_true]
    refine st_skip rfl (store_row_op (xs := zeroCs) (ys := kd.cs) _ _ _ _ _ _ _ _ _ (pk_size _ rfl) rfl (by simp [Value.oneCell']) rfl rfl hQ) ?_
    refine ⟨k, kd, qb, qd, wA, w2, wR, wR2, ?_, hS⟩
    unfold plAct
    simp only [Act.put, hup, d9, d7, gd_true, up_ne 11 0 (by decide), up_ne 11 1 (by decide), up_ne 11 2 (by decide), up_ne 11 3 (by decide), up_ne 11 4 (by decide), up_ne 11 5 (by decide), up_ne 11 6 (by decide), up_ne 11 7 (by decide), up_ne 11 8 (by decide), up_ne 11 9 (by decide), up_ne 11 10 (by decide)]
  trivial
    -- END GENERATED4
end Go.Proofs.Ytkblldmpdihamaa
