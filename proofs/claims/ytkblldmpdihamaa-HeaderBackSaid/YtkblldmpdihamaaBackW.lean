/-
  HeaderBack answers true: the walk.
-/
import Derived.Test.YtkblldmpdihamaaBackD
set_option linter.unusedVariables false
set_option linter.unusedSimpArgs false
namespace Go.Proofs.Ytkblldmpdihamaa
open Go.RowKit

set_option maxRecDepth 100000 in
set_option maxHeartbeats 16000000 in
theorem headerBack_any {w : World} {p : PG} {hs : List (SL × List Int)} {ms es0 : List Int} {s : SL} {bs : List Nat} (H : HeadsAre w p.heads hs) (M : RdS w 1 p.metas (ints ms)) (E : RdS w 1 p.emit (ints es0))
    (iH : ∀ y ∈ hs, InI64 y.2) (iM : InI64 ms) (S : RdS w 1 s (byts bs)) (hbs : ∀ y ∈ bs, y < 256) (h f : Int) (hr : -9223372036854775808 ≤ h ∧ h ≤ 9223372036854775807) (fr : -9223372036854775808 ≤ f ∧ f ≤ 9223372036854775807) (n : BitVec 128) :
    Calls Try.prog 4 #[p.v, s.v, .int .i64 h, .int .i64 f, nv n] w (Pure (.bool true) w) := by
  have hsl : s.n = bs.length := by have := S.2.2.1; rw [byts_length] at this; omega
  have hhl := H.len
  have hml := M.int
  have HH := hid H
  have HM := hid M
  have HE := hid E
  have HS := hid S
  have MY := hid (fun W (hW : Below w.heap.size w W) => may_any (HH.out.below hW) (HM.out.below hW) (HE.out.below hW))
  clear H M E S
  obtain ⟨sa, sn, sc⟩ := s
  simp only at hsl
  subst hsl
  go_enter Try.func4, Try.ntmps4
  go_upto_region 1 with (fail)
  refine wp_gen (fun V hV => ?_)
  have hbV : Below w.heap.size w V := by rw [hV]; (repeat' (first | (with_reducible exact Below.refl _ _) | (with_reducible refine Below.ext_mk ?_ ?_ _ _) | (with_reducible refine Below.alloc ?_ ?_ _) | (with_reducible refine Below.drew ?_) | (with_reducible refine Below.setCell ?_ ?_ _) | go_size))
  have bp : Blk V w.heap.size 33 [p.heads.v, p.metas.v, p.steps.v, p.acts.v, p.tabs.v, p.control.v, p.emit.v, p.n0.v, p.n1.v, p.n2.v, p.n3.v, p.n4.v] := by
    rw [hV]
    exact (Blk.new w 33 [p.heads.v, p.metas.v, p.steps.v, p.acts.v, p.tabs.v, p.control.v, p.emit.v, p.n0.v, p.n1.v, p.n2.v, p.n3.v, p.n4.v]).below (by repeat (first | exact Below.refl _ _ | refine Below.alloc ?_ (by simp; try omega) _))
  have bn : Blk V (w.heap.size + 1) 45 [.int .u64 (hi n), .int .u64 (lo n)] := by
    rw [hV]
    have h := Blk.new (w.alloc (.cells [p.heads.v, p.metas.v, p.steps.v, p.acts.v, p.tabs.v, p.control.v, p.emit.v, p.n0.v, p.n1.v, p.n2.v, p.n3.v, p.n4.v].toArray 33)) 45 [.int .u64 (hi n), .int .u64 (lo n)]
    simp only [World.size_alloc] at h
    exact h
  clear hV
  have hvs := hbV.size
  have hwV : w.heap.size + 1 < V.heap.size := bn.lt
  by_cases q1 : 400 < (bs.length : Int)
  · refine wp_region_doc (fun F hF => ?_)
    have HF := hid hF
    clear hF
    iterate 4 (refine doc_val rfl (by first | (go_simp; done) | (go_simp; exact ⟨rfl, rfl⟩) | (go_simp; with_reducible rfl)) ?_; simp only [Act.put, List.setIfInBounds_toArray, List.set_cons_zero, List.set_cons_succ])
    iterate 3 (refine doc_not rfl ?_; simp only [Act.put, List.setIfInBounds_toArray, List.set_cons_zero, List.set_cons_succ])
    refine doc_val rfl (by first | (go_simp; done) | (go_simp; exact ⟨rfl, rfl⟩) | (go_simp; with_reducible rfl)) ?_
    simp only [Act.put, List.setIfInBounds_toArray, List.set_cons_zero, List.set_cons_succ]
    refine doc_end (HF.out _ _ ?_)
    clear HF F
    go_wp2_with (go_at_call 8; refine (known19 _).mono ?_; rintro e w' ⟨rfl, m3, d3, rfl⟩)
    go_returns
    exact Pure.of rfl (by (repeat' (first | (with_reducible exact hbV) | (with_reducible exact Below.refl _ _) | (with_reducible refine Below.ext_mk ?_ ?_ _ _) | (with_reducible refine Below.alloc ?_ ?_ _) | (with_reducible refine Below.drew ?_) | (with_reducible refine Below.setCell ?_ ?_ _) | go_size)))
  refine wp_region_doc (fun F hF => ?_)
  have HF := hid hF
  clear hF
  iterate 4 (refine doc_val rfl (by first | (go_simp; done) | (go_simp; exact ⟨rfl, rfl⟩) | (go_simp; with_reducible rfl)) ?_; simp only [Act.put, List.setIfInBounds_toArray, List.set_cons_zero, List.set_cons_succ])
  refine doc_val rfl (load_agg_op _ _ _ _ _ _ _ _ Try.underlying33 (prog_size _ rfl) rfl bp) ?_
  simp only [Act.put, List.setIfInBounds_toArray, List.set_cons_zero, List.set_cons_succ]
  refine doc_call (f := 7) (args := #[p.v]) rfl (by first | (go_simp; done) | (go_simp; exact ⟨rfl, rfl⟩) | (go_simp; with_reducible rfl)) ((MY.out _ hbV).mono ?_)
  rintro e W2 ⟨b, ⟨rfl, m2, d2, rfl⟩, hmay⟩
  refine ⟨_, rfl, ?_⟩
  simp only [Act.put, List.setIfInBounds_toArray, List.set_cons_zero, List.set_cons_succ]
  cases b
  · iterate 2 (refine doc_val rfl (by first | (go_simp; done) | (go_simp; exact ⟨rfl, rfl⟩) | (go_simp; with_reducible rfl)) ?_; simp only [Act.put, List.setIfInBounds_toArray, List.set_cons_zero, List.set_cons_succ])
    refine doc_end (HF.out _ _ ?_)
    clear HF F
    go_wp2_with (go_at_call 8; refine (known19 _).mono ?_; rintro e w' ⟨rfl, m3, d3, rfl⟩)
    go_returns
    exact Pure.of rfl (by (repeat' (first | (with_reducible exact hbV) | (with_reducible exact Below.refl _ _) | (with_reducible refine Below.ext_mk ?_ ?_ _ _) | (with_reducible refine Below.alloc ?_ ?_ _) | (with_reducible refine Below.drew ?_) | (with_reducible refine Below.setCell ?_ ?_ _) | go_size)))
  iterate 2 (refine doc_val rfl (by first | (go_simp; done) | (go_simp; exact ⟨rfl, rfl⟩) | (go_simp; with_reducible rfl)) ?_; simp only [Act.put, List.setIfInBounds_toArray, List.set_cons_zero, List.set_cons_succ])
  refine doc_end (HF.out _ _ ?_)
  clear HF F
  have MP := hid (hmay rfl)
  clear hmay MY
  have bp2 := bp.ext m2 d2
  have bn2 := bn.ext m2 d2
  have hbU : Below w.heap.size w (V.ext m2 d2) := by (repeat' (first | (with_reducible exact hbV) | (with_reducible exact Below.refl _ _) | (with_reducible refine Below.ext_mk ?_ ?_ _ _) | (with_reducible refine Below.alloc ?_ ?_ _) | (with_reducible refine Below.drew ?_) | (with_reducible refine Below.setCell ?_ ?_ _) | go_size))
  have hU1 : w.heap.size + 1 < (V.ext m2 d2).heap.size := by simp; omega
  generalize V.ext m2 d2 = U at *
  clear bp bn hbV hvs hwV
  go_upto_region 3 with (fail)
  -- a packet is made
  have NI : NewIn U p ⟨sa, bs.length, sc⟩ hs ms.length bs :=
    ⟨HH.out.below hbU, hml, HS.out.below hbU, by omega, by have := MP.out.hl; omega, by have := MP.out.ml; omega, fun x hx => by have := (MP.out.heads x hx).hi; omega⟩
  refine wp_region_doc (fun F hF => ?_)
  have HF := hid hF
  clear hF
  refine doc_val rfl (load_agg_op _ _ _ _ _ _ _ _ Try.underlying33 (prog_size _ rfl) rfl bp2) ?_
  simp only [Act.put, List.setIfInBounds_toArray, List.set_cons_zero, List.set_cons_succ]
  refine doc_val rfl (by first | (go_simp; done) | (go_simp; exact ⟨rfl, rfl⟩) | (go_simp; with_reducible rfl)) ?_
  simp only [Act.put, List.setIfInBounds_toArray, List.set_cons_zero, List.set_cons_succ]
  refine doc_call (f := 11) (args := #[p.v, .int .i64 1, .slice sa bs.length sc]) rfl (by first | (go_simp; done) | (go_simp; exact ⟨rfl, rfl⟩) | (go_simp; with_reducible rfl)) ((new_any (1 : Int) NI).mono ?_)
  rintro e W2 ⟨r, fv, vb, mb, G, gs, rfl, nB, nR, nF, nV, nM, nVM, nRV, nVg, nGV, nRg, nbV, nbM, nL, nRow, nEach, nNd, nG, nMg, nLt⟩
  refine ⟨_, rfl, ?_⟩
  simp only [Act.put, List.setIfInBounds_toArray, List.set_cons_zero, List.set_cons_succ]
  obtain ⟨wl, hwl⟩ : ∃ wl, wl = hs.map fun x => x.2.length := ⟨_, rfl⟩
  rw [← hwl] at nbV nL nRow nEach ⊢
  have hus := nB.size
  refine doc_val rfl (by first | (go_simp; done) | (go_simp; exact ⟨rfl, rfl⟩) | (go_simp; with_reducible rfl)) ?_
  simp only [Act.put, List.setIfInBounds_toArray, List.set_cons_zero, List.set_cons_succ]
  have bZ := Blk.new W2 39 zeroCs
  refine doc_skip rfl (store_row_op (xs := zeroCs) (ys := (PK.mk 1 r ⟨some ⟨vb, 0, none⟩, wl.length, wl.length⟩ fv ⟨some ⟨mb, 0, none⟩, ms.length, ms.length⟩ false false 0 false).cs) _ _ _ _ _ _ _ _ _ (pk_size _ rfl) rfl (by simp [Value.oneCell']) rfl rfl bZ) ?_
  simp only [Act.put, List.setIfInBounds_toArray, List.set_cons_zero, List.set_cons_succ]
  refine doc_end (HF.out _ _ ?_)
  clear HF F
  go_upto_region 4 with (fail)
  refine wp_gen (fun X hX => ?_)
  have hbX : Below W2.heap.size W2 X := by rw [hX]; exact Below.setRow (by (repeat' (first | (with_reducible exact Below.refl _ _) | (with_reducible refine Below.ext_mk ?_ ?_ _ _) | (with_reducible refine Below.alloc ?_ ?_ _) | (with_reducible refine Below.drew ?_) | (with_reducible refine Below.setCell ?_ ?_ _) | go_size))) (by simp) _
  have bK : Blk X W2.heap.size 39 (PK.mk 1 r ⟨some ⟨vb, 0, none⟩, wl.length, wl.length⟩ fv ⟨some ⟨mb, 0, none⟩, ms.length, ms.length⟩ false false 0 false).cs := by rw [hX]; exact bZ.row _
  clear hX bZ
  have hfew : wl.length ≤ 1000000 ∧ (∀ n ∈ wl, n ≤ 1000000) ∧ bs.length ≤ 100000 ∧ ms.length ≤ 1000000 := by
    have h1 := MP.out.hl
    have h2 := MP.out.ml
    refine ⟨by rw [hwl]; simp; omega, fun n hn => ?_, by omega, by omega⟩
    rw [hwl] at hn
    obtain ⟨x, hx, rfl⟩ := List.mem_map.1 hn
    have := (MP.out.heads x hx).hi; omega
  have PK0 := PktIs.of_new hbX (Nat.le_refl _) bK nR nF nLt nVM nRV nVg nGV nRg nbV nbM nL nRow nEach nNd nG nMg hbs hfew
  have hUX : Below U.heap.size U X := nB.trans (hbX.mono hus)
  have bp3 := bp2.below hUX
  have bn3 := bn2.below hUX
  have hbX' : Below w.heap.size w X := hbU.trans (hUX.mono hbU.size)
  obtain ⟨b, hb⟩ : ∃ b, b = W2.heap.size := ⟨_, rfl⟩
  rw [← hb] at PK0 ⊢
  have hfresh : ∀ q ∈ b :: vb :: gs, U.heap.size ≤ q := fun q hq => by
    simp only [List.mem_cons] at hq
    rcases hq with rfl | rfl | hq
    · omega
    · exact nV
    · obtain ⟨i, hi⟩ := List.getElem?_of_mem hq
      exact (nEach i q hi).1
  have HB0 := hid hb
  clear hb
  have hUw := hbU.size
  have farU : ∀ q, q < U.heap.size → Away r [q] ∧ Away fv [q] ∧ Away (⟨some ⟨mb, 0, none⟩, ms.length, ms.length⟩ : SL) [q] := fun q hq => by
    refine ⟨fun b' o e hm => ?_, fun b' o e hm => ?_, fun b' o e hm => ?_⟩
    · have := nF b' o e; simp at hm; omega
    · have := (nG b' ((RowIs.rdS nRow).2.2 b' o e)).1; simp at hm; omega
    · have e' : b' = mb := by
        have : (⟨mb, 0, none⟩ : Addr) = ⟨b', o, none⟩ := Option.some.inj e
        injection this with e1; exact e1.symm
      simp at hm; omega
  have hWX := hbX.size
  have ltX : Lt X fv ∧ Lt X (⟨some ⟨mb, 0, none⟩, ms.length, ms.length⟩ : SL) := by
    refine ⟨fun b' o e => ?_, fun b' o e => ?_⟩
    · have := RowIs.lt nRow b' ((RowIs.rdS nRow).2.2 b' o e); omega
    · have e' : b' = mb := by
        have : (⟨mb, 0, none⟩ : Addr) = ⟨b', o, none⟩ := Option.some.inj e
        injection this with e1; exact e1.symm
      have := nbM.lt; omega
  clear bK bp2 bn2 NI nB nR nF nV nM nVM nRV nVg nGV nRg nbV nbM nL nRow nEach nNd nG nMg nLt hbX hus hfew
  have far0 := farU w.heap.size (by omega)
  obtain ⟨w0, hw0⟩ : ∃ w0, w0 = w.heap.size := ⟨_, rfl⟩
  rw [← hw0] at bp3 bn3 hU1 far0 ⊢
  have HW0 := hid hw0
  have hw0l : w0 ≤ w.heap.size := by omega
  have hw0m : w.heap.size ≤ w0 := by omega
  clear hw0
  have pc6 := bp3.cell 6
  have pf6 := bp3.free 6
  have pz := bp3.lt
  simp only [List.getElem?_cons_zero, List.getElem?_cons_succ] at pc6
  go_upto_region 5 with (fail)
  refine wp_gen (fun Y hY => ?_)
  have tY : Turn X Y [w0] := by rw [hY]; exact Turn.set_ _ _ _ (by simp)
  have bpY : Blk Y w0 33 (progCs p ⟨none, 0, 0⟩) := by rw [hY]; exact bp3.set_ 6 _
  have bnY : Blk Y (w0 + 1) 45 [.int .u64 (hi n), .int .u64 (lo n)] := tY.blk bn3 (by simp)
  have sub : ∀ q ∈ b :: vb :: gs, w0 + 1 < q := fun q hq => by have := hfresh q hq; omega
  have tYw : Turn X Y [w0] := tY
  have PKY : PktIs Y b vb gs (PK.mk 1 r ⟨some ⟨vb, 0, none⟩, wl.length, wl.length⟩ fv ⟨some ⟨mb, 0, none⟩, ms.length, ms.length⟩ false false 0 false) bs (List.replicate wl.length false) (zeroRows wl) (List.replicate ms.length 0#128) := by
    exact PK0.other tY (fun hm => by have := sub w0 hm; omega) far0
  clear hY
  have hYs := tY.size
  have hXs := hUX.size
  have hbY : Below w0 w Y := (hbX'.mono hw0l).trans (tY.below (fun q hq => by simp at hq; omega) (by omega))
  have far1 : ∀ q, q < U.heap.size → Away r [q] ∧ Away fv [q] ∧ Away (⟨some ⟨mb, 0, none⟩, ms.length, ms.length⟩ : SL) [q] := farU
  have ltU : Lt Y fv ∧ Lt Y (⟨some ⟨mb, 0, none⟩, ms.length, ms.length⟩ : SL) := ⟨ltX.1.mono hYs, ltX.2.mono hYs⟩
  have hltY : ∀ q ∈ b :: vb :: gs, q < Y.heap.size := fun q hq => by
    simp only [List.mem_cons] at hq
    rcases hq with rfl | rfl | hq
    · exact PKY.blk.lt
    · exact PKY.vblk.lt
    · obtain ⟨i, hi⟩ := List.getElem?_of_mem hq
      exact (PKY.mem hi).1
  have I0 : BackI w Y Y w0 b vb gs p hs bs n (List.replicate ms.length 0#128) 0 (PK.mk 1 r ⟨some ⟨vb, 0, none⟩, wl.length, wl.length⟩ fv ⟨some ⟨mb, 0, none⟩, ms.length, ms.length⟩ false false 0 false) bs (List.replicate wl.length false) (zeroRows wl) ⟨none, 0, 0⟩ none [] 0 := by
    have hwll : wl.length = hs.length := by rw [hwl]; simp
    refine ⟨hbY, Nat.le_refl _, bpY, bnY, PKY, ⟨rfl, .inl ⟨rfl, rfl, rfl⟩⟩, (fun g hg => by cases hg), by simp, by omega, rfl, by simp [hwll], by simp [zeroRows, hwll], fun i x hx => ?_, (fun e he => by simp at he), by simp, rfl, far0, ltU⟩
    have hi := (List.getElem?_eq_some_iff.1 hx).1
    have hx' := (List.getElem?_eq_some_iff.1 hx).2
    refine ⟨List.replicate x.2.length 0#128, false, ?_, by simp [hwll, hi], by simp, fitsL_zeros false x.2, fun _ => rfl⟩
    unfold zeroRows
    rw [hwl, List.map_map, List.getElem?_map, hx]
    rfl
  have I0' := hid I0
  have hh8 := MP.out.hl
  have c0 : ∀ (Z : World) (e : SL), Blk Z w0 33 (progCs p e) → Z.cell? ⟨w0, 0, none⟩ = some (.slice p.heads.a hs.length p.heads.c) ∧ w0 < Z.heap.size := fun Z e hb => by
    refine ⟨?_, hb.lt⟩
    have := hb.cell 0
    simp only [List.getElem?_cons_zero] at this
    rw [this, ← hhl]
  have C0 := hid c0
  obtain ⟨y0, y1⟩ := c0 Y _ bpY
  clear I0 c0 PKY PK0 bpY bnY bp3 bn3 tY tYw pc6 pf6 pz far0
  go_wp2_with fail
  clear y0 y1
  go_loopw [31] (fun i wr => ∃ (j : Nat) (k : PK) (l : List Nat) (va : List Bool) (nss : List (List (BitVec 128))) (e : SL) (Ge : Option Nat) (es : List Int) (kk : Nat), j ≤ hs.length ∧ i = .int .i64 j ∧
      BackI w Y wr w0 b vb gs p hs bs n (List.replicate ms.length 0#128) j k l va nss e Ge es kk) (fun i _ => hs.length - (intOf i).toNat)
  case atStart => exact ⟨0, _, _, _, _, _, _, _, _, by omega, rfl, I0'.out⟩
  case round =>
    obtain ⟨j, k, l, va, nss, e, Ge, es, kk, hj, rfl, hI⟩ := hrel
    obtain ⟨y0, y1⟩ := C0.out wr e hI.prog
    have hwr := hI.size
    have HI := hid hI
    clear hI
    by_cases hlt : j < hs.length
    · have hj1 : (j : Int) < (hs.length : Int) := by omega
      have hbw : Below w.heap.size w wr := HI.out.below.mono hw0m
      have hA : headAt hs (j : Int) = hs[j] := by unfold headAt; rw [if_neg (by omega)]; simp [hlt]
      have hok := MP.out.heads hs[j] (List.getElem_mem _)
      obtain ⟨ns, v, e1, e2, e3, e4, e5⟩ := HI.out.each j hs[j] (List.getElem?_eq_getElem hlt)
      obtain rfl : v = false := e5 (Nat.le_refl _)
      have hjg : j < gs.length := by have := HI.out.pkt.len; have := HI.out.hn; omega
      have hHr := HH.out.below hbw
      have hAw : Away hs[j].1 (b :: vb :: gs) := by
        intro q o ea hm
        have hR := HH.out.each hs[j] (List.getElem_mem _)
        have hlo := hok.lo
        have hint := hR.int
        obtain ⟨q', o', ea', z', _⟩ := hR.2.2.2 (by omega)
        rw [ea] at ea'
        cases ea'
        have := hfresh q hm
        omega
      have hxj : hs[j]? = some hs[j] := List.getElem?_eq_getElem hlt
      have hg := List.getElem?_eq_getElem hjg
      obtain ⟨p', hp'⟩ : ∃ p' : PG, p' = { p with emit := e } := ⟨_, rfl⟩
      have hph : p'.heads = p.heads := by rw [hp']
      have hpc : progCs p e = [p'.heads.v, p'.metas.v, p'.steps.v, p'.acts.v, p'.tabs.v, p'.control.v, p'.emit.v, p'.n0.v, p'.n1.v, p'.n2.v, p'.n3.v, p'.n4.v] := by rw [hp']
      have hBp := HI.out.prog
      rw [hpc] at hBp
      by_cases hle : hs[j].2.sum / 8 ≤ (l.length : Int)
      · have TK := take_pkt (p := p') (h := j) HI.out.pkt (by rw [hph]; exact hHr) (by rw [hA]; exact hAw) (by rw [hA]; exact hok) hg e1 (by rw [hA]; exact e3) e2 (by rw [hA]; exact hle)
        rw [hA] at TK
        have TKK := hid TK
        have HX := hid (And.intro hxj (And.intro hok hle))
        clear TK e1 e2 e3 e4 e5 hAw hHr hA hok hxj hle
        generalize hs[j] = x at *
        go_upto_region 8 with (fail)
        refine wp_region_doc (fun F hF => ?_)
        have HF := hid hF
        clear hF
        refine doc_val rfl (load_agg_op _ _ _ _ _ _ _ _ Try.underlying33 (prog_size _ rfl) rfl hBp) ?_
        simp only [Act.put, List.setIfInBounds_toArray, List.set_cons_zero, List.set_cons_succ]
        refine doc_val rfl (by first | (go_simp; done) | (go_simp; exact ⟨rfl, rfl⟩) | (go_simp; with_reducible rfl)) ?_
        simp only [Act.put, List.setIfInBounds_toArray, List.set_cons_zero, List.set_cons_succ]
        refine doc_call (f := 12) (args := #[p'.v, .pointer (some ⟨b, 0, none⟩), .int .i64 j]) rfl (by first | (go_simp; done) | (go_simp; exact ⟨rfl, rfl⟩) | (go_simp; with_reducible rfl)) (TKK.out.mono ?_)
        rintro _ W3 ⟨rfl, tT, r', rF, PT⟩
        refine ⟨_, rfl, ?_⟩
        simp only [Act.put, List.setIfInBounds_toArray, List.set_cons_zero, List.set_cons_succ]
        refine doc_end (HF.out _ _ ?_)
        clear HF F TKK
        have hgm := List.mem_of_getElem? hg
        have sub3 : ∀ q ∈ [b, vb, gs[j]], q ∈ b :: vb :: gs := fun q hq => by
          simp at hq ⊢
          rcases hq with rfl | rfl | rfl
          · exact .inl rfl
          · exact .inr (.inl rfl)
          · exact .inr (.inr (List.getElem_mem _))
        have not3 : ∀ q, q ∉ b :: vb :: gs → q ∉ [b, vb, gs[j]] := fun q hq hm => hq (sub3 q hm)
        have w0n : w0 ∉ b :: vb :: gs := fun hm => by have := sub w0 hm; omega
        have w1n : w0 + 1 ∉ b :: vb :: gs := fun hm => by have := sub (w0 + 1) hm; omega
        have bp5 := tT.blk HI.out.prog (not3 _ w0n)
        have bn5 := tT.blk HI.out.num (not3 _ w1n)
        have hgelt := fun g hg => RowIs.lt HI.out.row g hg
        have row5 : RowIs W3 e.v Ge 3 1 es.length (ints es) := RowIs.keep HI.out.row (fun g hg => tT.block g (hgelt g hg) (not3 g (HI.out.ge g hg).2))
        have hs3 := tT.size
        obtain ⟨W4, hW4⟩ : ∃ W4, W4 = W3.alloc (.cells #[.int .i64 j] 3) := ⟨_, rfl⟩
        have hB4 : Below W3.heap.size W3 W4 := by rw [hW4]; (repeat' (first | (with_reducible exact Below.refl _ _) | (with_reducible refine Below.ext_mk ?_ ?_ _ _) | (with_reducible refine Below.alloc ?_ ?_ _) | (with_reducible refine Below.drew ?_) | (with_reducible refine Below.setCell ?_ ?_ _) | go_size))
        have bS : Blk W4 W3.heap.size 3 [.int .i64 (j : Int)] := by rw [hW4]; exact Blk.new W3 _ _
        have h34 : W4.heap.size = W3.heap.size + 1 := by rw [hW4]; simp
        have row6 := RowIs.keep row5 (fun g hg => hB4.block g (RowIs.lt row5 g hg))
        have hesl := HI.out.esl
        obtain ⟨v', W5, G', r1, r2, r3, r4⟩ := append_row (P := Try.prog) 23 23 infoIn (.int .i64 0) 8 Try.underlying23 infoIn_is infoIn_zero infoIn_size infoIn_bytes rfl (by omega) row6
          ⟨W3.heap.size, 0, none⟩ 1 1 [.int .i64 (j : Int)] rfl (fun i u hu => by
            rw [hadd_off, Nat.zero_add]
            exact (bS.cell i).trans hu) (by simp [Value.oneCell']) (by omega) (by unfold maxLen; omega) (by omega)
        obtain ⟨sa', sc', rfl, _⟩ := r2.form
        have hz5 : W4.heap.size ≤ W5.heap.size := r3.size
        have gne : ∀ g, Ge = some g → Y.heap.size ≤ g := fun g hg => (HI.out.ge g hg).1
        have hYw0 : w0 + 1 < Y.heap.size := by omega
        have bp6 := bp5.below hB4
        have bp7 : Blk W5 w0 33 (progCs p e) := bp6.keep (r3.block w0 bp6.lt (fun e => by have := gne w0 e.symm; omega))
        have bn6 := bn5.below hB4
        have bn7 : Blk W5 (w0 + 1) 45 [.int .u64 (hi n), .int .u64 (lo n)] := bn6.keep (r3.block (w0 + 1) bn6.lt (fun e => by have := gne (w0 + 1) e.symm; omega))
        have c6 := bp5.cell 6
        have c6' := bp6.cell 6
        have c6'' := bp7.cell 6
        have f6 := bp7.free 6
        simp only [List.getElem?_cons_zero, List.getElem?_cons_succ] at c6 c6' c6''
        have z6 := bp5.lt
        have z6'' := bp7.lt
        have e4 : W3.alloc (.cells #[.int .i64 j] 3) = W4 := hW4.symm
        have R1 := hid r1
        have KK := hid (And.intro hW4 (And.intro r2 (And.intro r3 r4)))
        clear r1 r2 r3 r4 hW4 bS row6 bp6 bn6
        go_upto_region 9 with (fail)
        refine wp_region_doc (fun F hF => ?_)
        have HF := hid hF
        clear hF
        iterate 3 (refine doc_val rfl (by first | (go_simp; done) | (go_simp; exact ⟨rfl, rfl⟩) | (go_simp; with_reducible rfl)) ?_; simp only [Act.put, List.setIfInBounds_toArray, List.set_cons_zero, List.set_cons_succ])
        refine doc_val (W1 := W4) (v := .slice (some ⟨W3.heap.size, 0, none⟩) 1 1) rfl (by rw [← e4]; go_simp) ?_
        simp only [Act.put, List.setIfInBounds_toArray, List.set_cons_zero, List.set_cons_succ]
        refine doc_val rfl (run_append_op _ _ _ _ _ _ _ _ _ R1.out) ?_
        simp only [Act.put, List.setIfInBounds_toArray, List.set_cons_zero, List.set_cons_succ]
        refine doc_val rfl (by first | (go_simp; done) | (go_simp; exact ⟨rfl, rfl⟩) | (go_simp; with_reducible rfl)) ?_
        simp only [Act.put, List.setIfInBounds_toArray, List.set_cons_zero, List.set_cons_succ]
        refine doc_skip rfl (by first | (go_simp; done) | (go_simp; exact ⟨rfl, rfl⟩) | (go_simp; with_reducible rfl)) ?_
        simp only [Act.put, List.setIfInBounds_toArray, List.set_cons_zero, List.set_cons_succ]
        refine doc_end (HF.out _ _ ?_)
        clear HF F
        go_upto_region 10 with (fail)
        refine wp_gen (fun Z hZ => ?_)
        obtain ⟨hW4, r2, r3, r4⟩ := KK.out
        have tZ : Turn W5 Z [w0] := by rw [hZ]; exact Turn.set_ _ _ _ (by simp)
        have hgG : Y.heap.size ≤ G' := by
          rcases r4 with h | ⟨h, _⟩
          · exact gne G' h
          · omega
        have hG'n : G' ∉ b :: vb :: gs := fun hm => by have := hltY G' hm; omega
        have PT5 : PktIs W5 b vb gs { k with rest := r' } (l.drop (x.2.sum / 8).toNat) (va.set j true) (nss.set j (takeN l 0 x.2)) (List.replicate ms.length 0#128) := by
          cases hGe : Ge with
          | none => exact (PT.below hB4).below ((Below.refl _ _).grown r3 (Nat.le_refl _) (fun g hg => by rw [hGe] at hg; cases hg))
          | some g =>
            have hgy := gne g hGe
            have hgw := hgelt g hGe
            refine (PT.below hB4).other (grown_turn r3 (fun g' h => by rw [hGe] at h; cases h; rfl)) (fun hm => by have := hltY g hm; omega) ⟨fun b' o ea hm => ?_, fun b' o ea hm => ?_, fun b' o ea hm => ?_⟩
            · have := rF b' o ea; simp at hm; omega
            · have := HI.out.lt.1 b' o ea; simp at hm; omega
            · have := HI.out.lt.2 b' o ea; simp at hm; omega
        have hb5 : Below w0 w W5 := by
          have h1 := HI.out.below.trans (tT.below (B := w0) (fun q hq => by have := sub q (sub3 q hq); omega) (by omega))
          have h2 := h1.trans (hB4.mono (by omega))
          exact h2.grown r3 (by omega) (fun g hg => by have := gne g hg; omega)
        have farZ : Away r' [w0] ∧ Away k.fields [w0] ∧ Away k.metas [w0] := ⟨fun b' o ea hm => by have := rF b' o ea; simp at hm; omega, HI.out.far.2.1, HI.out.far.2.2⟩
        have hrowZ : RowIs Z (⟨sa', es.length + 1, sc'⟩ : SL).v (some G') 3 1 (es ++ [(j : Int)]).length (ints (es ++ [(j : Int)])) := by
          have h1 := RowIs.turn r2 tZ (by simp; omega)
          rw [show (es ++ [(j : Int)]).length = es.length + 1 by simp, show ints (es ++ [(j : Int)]) = ints es ++ [.int .i64 (j : Int)] by simp [ints]]
          exact h1
        have IZ := HI.out.took (Z := Z) (e' := ⟨sa', es.length + 1, sc'⟩) (Ge' := some G') (k' := { k with rest := r' }) HX.out.1 HX.out.2.1 HX.out.2.2 (hb5.trans (tZ.below (fun q hq => by simp at hq; omega) (by have := hb5.size; omega))) (by have := tZ.size; omega)
          (by rw [hZ]; exact bp7.set_ 6 _) (tZ.blk bn7 (by simp)) rfl (PT5.other tZ w0n farZ) hrowZ (fun g hg => by cases hg; exact ⟨hgG, hG'n⟩) farZ HI.out.lt
        have IZZ := hid IZ
        clear hZ IZ
        go_wp2_with fail
        go_roundw
        case rel => exact ⟨j + 1, _, _, _, _, _, _, _, _, hlt, by go_num, IZZ.out⟩
        case measure => simp [intOf]; omega
      · have TK := take_fail (p := p') (h := j) HI.out.pkt (by rw [hph]; exact hHr) (by rw [hA]; exact (hok_facts hok).1) (by rw [hA]; exact hok.whole) hg e1 (by rw [hA]; exact e3) e2 (by rw [hA]; exact .inr (by omega))
        have TKK := hid TK
        clear TK e1 e2 e3 e4 e5 hAw hHr hA hok hxj hle
        go_upto_region 8 with (fail)
        refine wp_region_doc (fun F hF => ?_)
        have HF := hid hF
        clear hF
        refine doc_val rfl (load_agg_op _ _ _ _ _ _ _ _ Try.underlying33 (prog_size _ rfl) rfl hBp) ?_
        simp only [Act.put, List.setIfInBounds_toArray, List.set_cons_zero, List.set_cons_succ]
        refine doc_val rfl (by first | (go_simp; done) | (go_simp; exact ⟨rfl, rfl⟩) | (go_simp; with_reducible rfl)) ?_
        simp only [Act.put, List.setIfInBounds_toArray, List.set_cons_zero, List.set_cons_succ]
        refine doc_call (f := 12) (args := #[p'.v, .pointer (some ⟨b, 0, none⟩), .int .i64 j]) rfl (by first | (go_simp; done) | (go_simp; exact ⟨rfl, rfl⟩) | (go_simp; with_reducible rfl)) (TKK.out.mono ?_)
        rintro _ _ ⟨rfl, m5, d5, rfl⟩
        refine ⟨_, rfl, ?_⟩
        simp only [Act.put, List.setIfInBounds_toArray, List.set_cons_zero, List.set_cons_succ]
        refine doc_end (HF.out _ _ ?_)
        clear HF F
        go_wp2_with fail
        go_roundw
        case rel => exact ⟨j + 1, k, l, va, nss, e, Ge, es, kk, hlt, by go_num, HI.out.none (Below.ext_mk (Below.refl _ _) (Nat.le_refl _) _ _) (Nat.le_of_lt HI.out.prog.lt)⟩
        case measure => simp [intOf]; omega
    · obtain rfl : j = hs.length := by omega
      have hbw : Below w.heap.size w wr := HI.out.below.mono hw0m
      have hHr := HH.out.below hbw
      have hesl := HI.out.esl
      obtain ⟨pe, hpe⟩ : ∃ pe : PG, pe = { p with emit := e } := ⟨_, rfl⟩
      have hph : pe.heads = p.heads := by rw [hpe]
      have hpm : pe.metas = p.metas := by rw [hpe]
      have hpe6 : pe.emit = e := by rw [hpe]
      have bP : Blk wr w0 33 [pe.heads.v, pe.metas.v, pe.steps.v, pe.acts.v, pe.tabs.v, pe.control.v, pe.emit.v, pe.n0.v, pe.n1.v, pe.n2.v, pe.n3.v, pe.n4.v] := by rw [hpe]; exact HI.out.prog
      have bK := HI.out.pkt.blk
      have hacc := HI.out.acc
      have bR := HS.out.below hbw
      have EI : EmitIn wr pe k hs es va (fsOf gs nss) l := by
        refine ⟨by rw [hph]; exact hHr, by rw [hpe6]; exact (RowIs.rdS HI.out.row).1, HI.out.pkt.vrd, HI.out.pkt.frd, HI.out.pkt.rest, fun x hx y hy => ?_, fun x hx => ?_, by omega, by have := HI.out.pkt.few.2.2.2; omega⟩
        · have := wok_range (MP.out.heads x hx).ok y hy; omega
        · have := (MP.out.heads x hx).few; omega
      have FI : FitIn wr pe k hs ms va (fsOf gs nss) (List.replicate ms.length 0#128) := ⟨by rw [hph]; exact hHr, by rw [hpm]; exact HM.out.below hbw, HI.out.pkt.vrd, HI.out.pkt.frd, HI.out.pkt.metas, iH, iM⟩
      have hfitv : hfitsV hs ms va (fsOf gs nss) (List.replicate ms.length 0#128) = true := fits_true HI.out.hva HI.out.hn HI.out.pkt.len (fun i x hx => by
        obtain ⟨ns, v, h1, h2, _, h4, _⟩ := HI.out.each i x hx
        exact ⟨ns, v, h1, h2, h4⟩)
      have FT : ∀ {W : World}, FitIn W pe k hs ms va (fsOf gs nss) (List.replicate ms.length 0#128) → Calls Try.prog 9 #[pe.v, k.v] W (Pure (.bool true) W) := fun hF => by
        have := hfits_any hF
        rwa [hfitv] at this
      have hbits : (layAll ([], 0) (emT hs va (fsOf gs nss) es es.length)).1 ++ l = bs := by
        rw [HI.out.em, layAll_bytes bs hbs kk HI.out.kk_, HI.out.l_]
        exact List.take_append_drop kk bs
      have hE : ∀ {W : World} {r : SL}, RdS W 1 r (byts ((layAll ([], 0) (emT hs va (fsOf gs nss) es es.length)).1 ++ l)) → RdS W 1 r (byts bs) := fun h => by rw [hbits] at h; exact h
      clear hfitv hbits
      go_upto_region 11 with (fail)
      refine wp_back wr pe k b bs (by kernel_rfl) (by kernel_rfl) ?_ ?_ ?_
      · refine ⟨slNil, ?_, Below.drew (Below.refl _ _), fun h => by simp at h⟩
        unfold backAct
        rfl
      · rintro L a Z' hall ⟨r', rfl, hB, hR⟩
        have h16 := hall 16 (by decide)
        unfold backAct
        simp only [h16, gd_true]
        have hZs := hB.size
        have prZ := HI.out.prog.below hB
        have nuZ := HI.out.num.below hB
        have PKZ := HI.out.pkt.below hB
        have hbZ : Below w.heap.size w Z' := hbw.trans (hB.mono hbw.size)
        obtain ⟨y2, y3⟩ := C0.out Z' e prZ
        clear EI FI FT bR hE bP bK hB hR hph hpm hpe6 y0 y1
        by_cases hz : hs.length = 0
        · have hz2 : ((hs.length : Int) == 0) = true := by simp [hz]
          go_wp2_with (go_at_call 8; refine (known19 _).mono ?_; rintro e w' ⟨rfl, m3, d3, rfl⟩)
          go_returns
          exact Pure.of rfl (by have := hbZ.size; (repeat' (first | (with_reducible exact hbZ) | (with_reducible exact Below.refl _ _) | (with_reducible refine Below.ext_mk ?_ ?_ _ _) | (with_reducible refine Below.alloc ?_ ?_ _) | (with_reducible refine Below.drew ?_) | (with_reducible refine Below.setCell ?_ ?_ _) | go_size)))
        have hz2 : ((hs.length : Int) == 0) = false := by simpa using hz
        obtain ⟨hu, hhu, hu0⟩ : ∃ hu : Int, IntKind.u64.wrap h = hu ∧ 0 ≤ hu := ⟨_, rfl, by rw [IntKind.wrap_u64]; omega⟩
        have hlw : IntKind.u64.wrap (hs.length : Int) = (hs.length : Int) := by rw [IntKind.wrap_u64]; omega
        obtain ⟨hh, hhm⟩ : ∃ hh : Nat, hu.tmod (hs.length : Int) = (hh : Int) := ⟨(hu.tmod (hs.length : Int)).toNat, by have := Int.tmod_nonneg (hs.length : Int) hu0; omega⟩
        have hhlt : hh < hs.length := by
          have h1 := Int.tmod_lt_of_pos hu (b := (hs.length : Int)) (by omega)
          omega
        have hhw : IntKind.i64.wrap (hh : Int) = (hh : Int) := IntWalk.i64_in _ (by omega)
        have hne0 : ¬ (hs.length : Int) = 0 := by omega
        go_upto_region 15 with (fail)
        refine wp_region_doc (fun F hF => ?_)
        have HF := hid hF
        clear hF
        iterate 9 (refine doc_val rfl (by first | (go_simp; done) | (go_simp; exact ⟨rfl, rfl⟩) | (go_simp; with_reducible rfl)) ?_; simp only [Act.put, List.setIfInBounds_toArray, List.set_cons_zero, List.set_cons_succ])
        refine doc_end (HF.out _ _ ?_)
        clear HF F
        obtain ⟨pb, po, ep, zp, _, cp⟩ := HH.out.row.one (i := hh) (u := hs[hh].1.v) (by simp [hhlt])
        have cpZ := (hbZ.cell (p := ⟨pb, po + hh, none⟩) zp).trans cp
        have zpZ : pb < Z'.heap.size := by have := hbZ.size; omega
        have hxx : hs[hh]? = some hs[hh] := List.getElem?_eq_getElem hhlt
        have hokx := MP.out.heads hs[hh] (List.getElem_mem _)
        have hinx := iH hs[hh] (List.getElem_mem _)
        have hwx := (HH.out.each hs[hh] (List.getElem_mem _)).int
        have hwc : IntKind.u64.wrap (hs[hh].2.length : Int) = (hs[hh].2.length : Int) := by have := hokx.hi; exact IntWalk.u64_in _ (by omega)
        have hAx : headAt hs (hh : Int) = hs[hh] := by unfold headAt; rw [if_neg (by omega)]; simp [hhlt]
        obtain ⟨fu, hfu, fu0⟩ : ∃ fu : Int, IntKind.u64.wrap f = fu ∧ 0 ≤ fu := ⟨_, rfl, by rw [IntKind.wrap_u64]; omega⟩
        have hlo := hokx.lo
        have hhi := hokx.hi
        obtain ⟨ff, hfm⟩ : ∃ ff : Nat, fu.tmod (hs[hh].2.length : Int) = (ff : Int) := ⟨(fu.tmod (hs[hh].2.length : Int)).toNat, by have := Int.tmod_nonneg (hs[hh].2.length : Int) fu0; omega⟩
        have hflt : ff < hs[hh].2.length := by
          have h1 := Int.tmod_lt_of_pos fu (b := (hs[hh].2.length : Int)) (by omega)
          omega
        have hfw : IntKind.i64.wrap (ff : Int) = (ff : Int) := IntWalk.i64_in _ (by omega)
        have hne1 : ¬ (hs[hh].2.length : Int) = 0 := by omega
        have HXX := hid (And.intro hxx (And.intro hokx (And.intro hinx hAx)))
        have hh1 : (hh : Int) < (hs.length : Int) := by omega
        obtain ⟨ns, v, e1, e2, e3, e4, _⟩ := HI.out.each hh hs[hh] hxx
        have EE := hid (And.intro e1 (And.intro e2 (And.intro e3 e4)))
        clear e1 e2 e3 e4 hxx hokx hinx hAx cp hhm hhw hhu hlw hu0
        generalize hs[hh] = x at *
        obtain ⟨⟨xa, xn, xc⟩, ws⟩ := x
        simp only [SL.v_mk] at hwx hwc hfm hflt hne1 hlo hhi cpZ
        subst hwx
        have hwe : ¬ ws = [] := fun e => by rw [e] at hflt; simp at hflt
        go_upto_region 16 with (fail)
        refine wp_region_doc (fun F hF => ?_)
        have HF := hid hF
        clear hF
        iterate 12 (refine doc_val rfl (by first | (go_simp; done) | (go_simp; exact ⟨rfl, rfl⟩) | (go_simp; with_reducible rfl)) ?_; simp only [Act.put, List.setIfInBounds_toArray, List.set_cons_zero, List.set_cons_succ])
        refine doc_end (HF.out _ _ ?_)
        clear HF F
        clear hfm hfw hfu hne1 hwc fu0 hwe hz hz2 hne0 y2 y3 cpZ zpZ
        have hmm : ms.length ≤ 1000000 := by have := MP.out.ml; omega
        have hvaf := PKZ.few
        have OW := own_any (k := k) PKZ.rest PKZ.vrd PKZ.frd PKZ.metas (fsOf_snd gs nss PKZ.len) ⟨by have := hvaf.2.2.2; omega, hvaf.1, by simp; omega, hvaf.2.1, hvaf.2.2.1⟩
        have OWW := hid OW
        clear OW
        go_upto_region 17 with (fail)
        refine wp_region_doc (fun F hF => ?_)
        have HF := hid hF
        clear hF
        refine doc_val rfl (load_agg_op _ _ _ _ _ _ _ _ Try.underlying39 (pk_size _ rfl) rfl PKZ.blk) ?_
        simp only [Act.put, List.setIfInBounds_toArray, List.set_cons_zero, List.set_cons_succ]
        refine doc_call (f := 14) (args := #[k.v]) rfl (by first | (go_simp; done) | (go_simp; exact ⟨rfl, rfl⟩) | (go_simp; with_reducible rfl)) (OWW.out.mono ?_)
        rintro _ W6 ⟨r3, v3, f3, m3, fs3, gs3, Gr, Gv, Gm, Gf, rfl, hB6, hfs3, CI⟩
        refine ⟨_, rfl, ?_⟩
        simp only [Act.put, List.setIfInBounds_toArray, List.set_cons_zero, List.set_cons_succ]
        refine doc_val rfl (by first | (go_simp; done) | (go_simp; exact ⟨rfl, rfl⟩) | (go_simp; with_reducible rfl)) ?_
        simp only [Act.put, List.setIfInBounds_toArray, List.set_cons_zero, List.set_cons_succ]
        have bZ6 := Blk.new W6 39 zeroCs
        refine doc_skip rfl (store_row_op (xs := zeroCs) (ys := (PK.mk k.port r3 v3 f3 m3 k.dropped k.sent k.egress k.access).cs) _ _ _ _ _ _ _ _ _ (pk_size _ rfl) rfl (by simp [Value.oneCell']) rfl rfl bZ6) ?_
        simp only [Act.put, List.setIfInBounds_toArray, List.set_cons_zero, List.set_cons_succ]
        refine doc_end (HF.out _ _ ?_)
        clear HF F
        go_upto_region 18 with (fail)
        refine wp_gen (fun T hT => ?_)
        have hbT : Below W6.heap.size W6 T := by rw [hT]; exact Below.setRow (by (repeat' (first | (with_reducible exact Below.refl _ _) | (with_reducible refine Below.ext_mk ?_ ?_ _ _) | (with_reducible refine Below.alloc ?_ ?_ _) | (with_reducible refine Below.drew ?_) | (with_reducible refine Below.setCell ?_ ?_ _) | go_size))) (by simp) _
        have bC : Blk T W6.heap.size 39 (PK.mk k.port r3 v3 f3 m3 k.dropped k.sent k.egress k.access).cs := by rw [hT]; exact bZ6.row _
        clear hT bZ6
        have hs6 := hB6.size
        have hsT := hbT.size
        have hZT : Below Z'.heap.size Z' T := hB6.trans (hbT.mono hs6)
        obtain ⟨cb, hcb⟩ : ∃ cb, cb = W6.heap.size := ⟨_, rfl⟩
        rw [← hcb] at bC ⊢
        have hcZ : Z'.heap.size ≤ cb := by omega
        have CIT := CI.below hbT
        have CB := hid (And.intro hcb CI)
        clear hcb CI
        have PKT := PKZ.below hZT
        have prT := prZ.below hZT
        have nuT := nuZ.below hZT
        have hbTw : Below w.heap.size w T := hbZ.trans (hZT.mono hbZ.size)
        have PK0 := hid PKZ
        clear PKZ prZ nuZ
        have hvl3 := (RowIs.rdS CIT.valid).2.1
        have hfl3 := (RowIs.rdS CIT.row).2.1
        have hfsl : fs3.length = nss.length := by have h1 := congrArg List.length hfs3; simpa using h1
        have hvaf := HI.out.hva
        have hnsl := HI.out.hn
        obtain ⟨e1, e2, e3, e4⟩ := EE.out
        simp only at e3 e4
        have hx3 : ∃ s3, fs3[hh]? = some (s3, ns) := by
          have hh3 : hh < nss.length := by omega
          obtain ⟨s3, q⟩ := fmap_at hfs3 hh3
          refine ⟨s3, ?_⟩
          rw [q]
          rw [List.getElem?_eq_getElem hh3] at e1
          cases e1; rfl
        obtain ⟨s3, hx3⟩ := hx3
        have hhg : hh < gs3.length := by have := CIT.len; have := (List.getElem?_eq_some_iff.1 hx3).1; omega
        have hg3 := List.getElem?_eq_getElem hhg
        have hrow3 := CIT.each hh _ _ hx3 hg3
        have hsn3 := (RowIs.rdS hrow3).2.1
        obtain ⟨rb, ro, er, zr, _, cr⟩ := CIT.fields.row.one (i := hh) (u := s3.v) (by rw [List.getElem?_map, hx3]; rfl)
        obtain ⟨qb, qo, eq, zq, _, cq⟩ := (RowIs.rdS CIT.valid).1.one (i := hh) (u := .bool v) (by simp [bools, e2])
        have hqb : Z'.heap.size ≤ qb := by
          have h1 := (RowIs.rdS CIT.valid).2.2 qb qo eq
          cases h1
          exact CIT.ge2.2.1
        have hrb : Z'.heap.size ≤ rb := CIT.ge2.2.2.2 rb ((RowIs.rdS CIT.row).2.2 rb ro er)
        have hs3a : s3.a = some ⟨gs3[hh], 0, none⟩ := by
          rcases hrow3.2 with ⟨_, _, h⟩ | ⟨g', cap, cur, h1, h2, _⟩
          · cases h
          · cases h2
            unfold SL.v at h1
            injection h1
        obtain ⟨v3a, v3n, v3c⟩ := v3
        obtain ⟨f3a, f3n, f3c⟩ := f3
        obtain ⟨s3a, s3n, s3c⟩ := s3
        simp only at hvl3 hfl3 hsn3 er eq hs3a
        subst hvl3 hfl3 hsn3 er eq hs3a
        simp only [SL.v_mk] at cr
        have c2 := bC.cell 2
        have c3 := bC.cell 3
        simp only [List.getElem?_cons_zero, List.getElem?_cons_succ, SL.v_mk] at c2 c3
        have zc := bC.lt
        have k1 : ¬ (va.length : Int) ≤ (hh : Int) := by omega
        have k2 : ¬ (fs3.length : Int) ≤ (hh : Int) := by omega
        have k3 : ¬ (ns.length : Int) ≤ (ff : Int) := by omega
        have k4 : (hh : Int) < (fs3.length : Int) := by omega
        have k5 : (hh : Int) < (va.length : Int) := by omega
        have EE2 := hid (And.intro hx3 (And.intro hg3 hrow3))
        have hfn : ff < ns.length := by omega
        have SI : SetIn T pe hs b vb (gs[hh]'(by have := PKT.len; omega)) hh ff gs k l va nss (List.replicate ms.length 0#128) ns (ws[ff]'hflt) v := by
          have hAx := HXX.out.2.2.2
          have hinx := HXX.out.2.2.1
          refine ⟨PKT, by rw [hpe]; exact HH.out.below hbTw, List.getElem?_eq_getElem _, e1, e2, ?_, by omega, hhlt, ?_⟩
          · rw [hAx]; exact List.getElem?_eq_getElem hflt
          · exact hinx _ (List.getElem_mem _)
        have SO := hid (set_ok n SI)
        have HFS := hid hfs3
        have CLT : Hid (CopyLt cb gs3 Gr Gv Gm Gf) := hid (by rw [CB.out.1]; exact CB.out.2.lt)
        clear SI e1 e2 e3 e4 hx3 hg3 hrow3 hfs3
        have prP : Blk T w0 33 [pe.heads.v, pe.metas.v, pe.steps.v, pe.acts.v, pe.tabs.v, pe.control.v, pe.emit.v, pe.n0.v, pe.n1.v, pe.n2.v, pe.n3.v, pe.n4.v] := by rw [hpe]; exact prT
        go_upto_region 20 with (fail)
        refine wp_region_doc (fun F hF => ?_)
        have HF := hid hF
        clear hF
        refine doc_val rfl (load_agg_op _ _ _ _ _ _ _ _ Try.underlying33 (prog_size _ rfl) rfl prP) ?_
        simp only [Act.put, List.setIfInBounds_toArray, List.set_cons_zero, List.set_cons_succ]
        iterate 2 (refine doc_val rfl (by first | (go_simp; done) | (go_simp; exact ⟨rfl, rfl⟩) | (go_simp; with_reducible rfl)) ?_; simp only [Act.put, List.setIfInBounds_toArray, List.set_cons_zero, List.set_cons_succ])
        refine doc_val rfl (load_agg_op _ _ _ _ _ _ _ _ Try.underlying45 (hnum_size _ _) rfl nuT) ?_
        simp only [Act.put, List.setIfInBounds_toArray, List.set_cons_zero, List.set_cons_succ]
        refine doc_call (f := 15) (args := #[pe.v, .pointer (some ⟨b, 0, none⟩), .int .i64 hh, .int .i64 ff, nv n]) rfl (by first | (go_simp; done) | (go_simp; exact ⟨rfl, rfl⟩) | (go_simp; with_reducible rfl)) (SO.out.mono ?_)
        rintro _ W8 ⟨rfl, hset⟩
        refine ⟨_, rfl, ?_⟩
        simp only [Act.put, List.setIfInBounds_toArray, List.set_cons_zero, List.set_cons_succ]
        refine doc_end (HF.out _ _ ?_)
        clear HF F SO
        have hwZ : wr.heap.size ≤ Z'.heap.size := hZs
        have hbz : ∀ q ∈ b :: vb :: gs, q < Z'.heap.size := fun q hq => by have := hltY q hq; omega
        have hTs := hZT.size
        have hgl : hh < gs.length := by have := PKT.len; omega
        rcases hset with ⟨rfl, tS, PK8⟩ | ⟨rfl, tS, PK8⟩
        · have hno : ∀ q, Z'.heap.size ≤ q → q ∉ [gs[hh]] := fun q hq hm => by
            simp at hm
            have := hbz gs[hh] (by simp)
            omega
          have CI8 := CIT.keep (w' := W8) (fun g hg hB => tS.block g hg (hno g hB))
          have bC8 := tS.blk bC (hno cb hcZ)
          have hS8 := tS.size
          have c2 := bC8.cell 2
          have xq := tS.cell zq (hno qb hqb) cq
          have xr := tS.cell zr (hno rb hrb) cr
          have zq8 : qb < W8.heap.size := by omega
          simp only [List.getElem?_cons_zero, List.getElem?_cons_succ, SL.v_mk] at c2
          have zc8 := bC8.lt
          obtain ⟨q1, q2, q3, q4⟩ := EE.out
          simp only at q3 q4
          have hhn : hh < nss.length := by omega
          have hxlt := hflt
          have hsx := HXX.out.1
          obtain ⟨wx, hwx⟩ : ∃ wx, wx = ws[ff]'hflt := ⟨_, rfl⟩
          have hwx' : ws[ff]? = some wx := by rw [hwx]; exact List.getElem?_eq_getElem hflt
          rw [← hwx] at PK8
          obtain ⟨m, hm⟩ : ∃ m, m = n &&& maskOf wx := ⟨_, rfl⟩
          rw [← hm] at PK8
          have HMx := hid (And.intro hm hwx')
          clear hm hwx hwx'
          have hfx : (fsOf gs (nss.set hh (ns.set ff m)))[hh]? = some (⟨some ⟨gs[hh], 0, none⟩, (ns.set ff m).length, (ns.set ff m).length⟩, ns.set ff m) :=
            fsOf_at gs _ hh gs[hh] (ns.set ff m) (List.getElem?_eq_getElem hgl) (by simp [hhn])
          have GT := hid (get_ok (va := va) PK8.blk PK8.vrd PK8.frd (h := hh) (f := ff) (n := m) q2 hfx (by rw [List.getElem?_set_self hfn]))
          clear hfx q1 q2 q3 q4
          go_upto_region 24 with (fail)
          refine wp_region_doc (fun F hF => ?_)
          have HF := hid hF
          clear hF
          iterate 2 (refine doc_val rfl (by first | (go_simp; done) | (go_simp; exact ⟨rfl, rfl⟩) | (go_simp; with_reducible rfl)) ?_; simp only [Act.put, List.setIfInBounds_toArray, List.set_cons_zero, List.set_cons_succ])
          refine doc_call rfl (by first | (go_simp; done) | (go_simp; exact ⟨rfl, rfl⟩) | (go_simp; with_reducible rfl)) (GT.out.mono ?_)
          rintro _ _ ⟨rfl, m5, d5, rfl⟩
          refine ⟨_, rfl, ?_⟩
          simp only [Act.put, List.setIfInBounds_toArray, List.set_cons_zero, List.set_cons_succ]
          refine doc_val rfl (by first | (go_simp; done) | (go_simp; exact ⟨rfl, rfl⟩) | (go_simp; with_reducible rfl)) ?_
          simp only [Act.put, List.setIfInBounds_toArray, List.set_cons_zero, List.set_cons_succ]
          have bN := Blk.new (W8.ext m5 d5) 45 [.int .u64 0, .int .u64 0]
          simp only [World.size_ext] at bN
          refine doc_skip rfl (hstore_num (u := 0) (v := 0) (u' := hi m) (v' := lo m) _ _ _ _ _ _ _ _ rfl rfl bN) ?_
          simp only [Act.put, List.setIfInBounds_toArray, List.set_cons_zero, List.set_cons_succ]
          refine doc_end (HF.out _ _ ?_)
          clear HF F GT
          have bN2 := bN.row [.int .u64 (hi m), .int .u64 (lo m)]
          go_upto_region 25 with (fail)
          refine wp_gen (fun W10 hW10 => ?_)
          have hb10 : Below W8.heap.size W8 W10 := by rw [hW10]; exact Below.setRow (by (repeat' (first | (with_reducible exact Below.refl _ _) | (with_reducible refine Below.ext_mk ?_ ?_ _ _) | (with_reducible refine Below.alloc ?_ ?_ _) | (with_reducible refine Below.drew ?_) | (with_reducible refine Below.setCell ?_ ?_ _) | go_size))) (by omega) _
          have n10 : Blk W10 (W8.heap.size + m5.size) 45 [.int .u64 (hi m), .int .u64 (lo m)] := by rw [hW10]; exact bN2
          clear hW10 bN bN2
          obtain ⟨nb, hnb⟩ : ∃ nb, nb = W8.heap.size + m5.size := ⟨_, rfl⟩
          rw [← hnb] at n10 ⊢
          have HNB := hid hnb
          clear hnb
          have CI10 := CI8.below hb10
          have bC10 := bC8.below hb10
          have c3' := bC10.cell 3
          simp only [List.getElem?_cons_zero, List.getElem?_cons_succ, SL.v_mk] at c3'
          have zc10 := bC10.lt
          have zr8 : rb < W8.heap.size := by omega
          have xr10 := (hb10.cell (p := ⟨rb, ro + hh, none⟩) zr8).trans xr
          have h10s := hb10.size
          have zr10 : rb < W10.heap.size := by omega
          have d0 := n10.cell 0
          have d1 := n10.cell 1
          simp only [List.getElem?_cons_zero, List.getElem?_cons_succ] at d0 d1
          have zn10 := n10.lt
          obtain ⟨xs, bX, hxs⟩ := (RowIs.setNum (i := ff) m (CI10.each hh _ _ EE2.out.1 EE2.out.2.1) hfn).2
          obtain ⟨g3, hg3⟩ : ∃ g3, g3 = gs3[hh] := ⟨_, rfl⟩
          rw [← hg3] at bX xr10
          have hg3l : g3 < cb := by rw [hg3]; exact CLT.out.2.2.2.2 _ (List.getElem_mem _)
          have hg3z : Z'.heap.size ≤ g3 := by rw [hg3]; exact (CIT.ge _ (List.getElem_mem _)).1
          have HG3 := hid hg3
          clear hg3
          have zg := bX.lt
          have k6 : (ff : Int) < (ns.length : Int) := by omega
          have CI10' := hid CI10
          have PK8' := hid PK8
          have hff0 : (0 : Int) ≤ (ff : Int) := by omega
          refine wp_region_store 8 (by kernel_rfl) (by kernel_rfl) (by kernel_rfl) rfl (fun F' hF' G' hG' => ?_)
          simp only [List.take_succ_cons, List.take_zero, List.drop_succ_cons, List.drop_zero] at hG' ⊢
          have HF := hid hF'
          clear hF'
          have HGG := hid hG'
          clear hG' CI10 PK8 xr xq c2
          repeat (apply text_val; (focus rfl); (focus (intro _ _; go_simp; with_reducible rfl)); simp only [Act.put, List.setIfInBounds_toArray, List.set_cons_zero, List.set_cons_succ])
          refine text_nil (HGG.out _ ?_)
          clear HGG G'
          apply store_step (W2 := (W10.setCell ⟨g3, ff * 2, none⟩ (.int .u64 (hi m))).setCell ⟨g3, ff * 2 + 1, none⟩ (.int .u64 (lo m)))
          · rfl
          · intro m d
            refine ⟨m, d, (store_num_at _ _ _ _ _ _ _ _ rfl rfl (bX.ext m d) hxs).trans ?_⟩
            simp [zg]
          simp only [List.getElem_toArray, List.getElem_cons_succ, List.getElem_cons_zero]
          simp only [Act.put, List.setIfInBounds_toArray, List.set_cons_zero, List.set_cons_succ]
          refine both_nil (HF.out _ _ (fun m9 d9 => ?_))
          clear HF F'
          go_upto_region 26 with (fail)
          refine wp_gen (fun Q hQ => ?_)
          have tQ : Turn W10 Q [g3] := by
            rw [hQ]
            exact (Turn.set_ g3 _ _ (by simp)).trans ((Turn.set_ g3 _ _ (by simp)).trans (Turn.of_below (Below.ext_mk (Below.refl _ _) (Nat.le_refl _) _ _)))
          have CIQ := CI10'.out.setNum m EE2.out.1 EE2.out.2.1 hfn
          rw [← HG3.out] at CIQ
          have CIQ2 : CopyIs Z'.heap.size Q (PK.mk k.port r3 ⟨some ⟨qb, qo, none⟩, va.length, v3c⟩ ⟨some ⟨rb, ro, none⟩, fs3.length, f3c⟩ m3 k.dropped k.sent k.egress k.access) l va (fs3.set hh (⟨some ⟨g3, 0, none⟩, ns.length, s3c⟩, ns.set ff m)) gs3 (List.replicate ms.length 0#128) Gr Gv Gm Gf := by
            rw [hQ]; exact CIQ.below (Below.ext_mk (Below.refl _ _) (Nat.le_refl _) _ _)
          clear hQ CIQ
          have t8Q : Turn W8 Q [g3] := (Turn.of_below hb10).trans tQ
          have PKQ := PktIs.past PK0.out PK8'.out ⟨rfl, rfl, rfl⟩ t8Q (fun q hq => by simp at hq; omega)
          have bCQ := tQ.blk bC10 (by simp; omega)
          have hfs' : (fs3.set hh (⟨some ⟨g3, 0, none⟩, ns.length, s3c⟩, ns.set ff m)).map (fun x => x.2) = nss.set hh (ns.set ff m) := by
            rw [List.map_set, HFS.out]
          have hlen' : (nss.set hh (ns.set ff m)).length ≤ va.length := by rw [List.length_set]; omega
          have SM := hid (same_copy (k' := PK.mk k.port r3 ⟨some ⟨qb, qo, none⟩, va.length, v3c⟩ ⟨some ⟨rb, ro, none⟩, fs3.length, f3c⟩ m3 k.dropped k.sent k.egress k.access) PKQ CIQ2 hfs' hlen' ⟨rfl, rfl, rfl, rfl, rfl⟩)
          have tTQ : Turn T Q [gs[hh], g3] := (tS.weak (by simp)).trans (t8Q.weak (by simp))
          have hw0g : w0 ∉ [gs[hh], g3] := fun hm => by
            simp at hm
            rcases hm with hm | hm
            · have := sub gs[hh] (by simp); omega
            · omega
          have prQ := tTQ.blk prP hw0g
          have hbQ : Below w.heap.size w Q := hbTw.trans (tTQ.below (B := w.heap.size) (fun q hq => by
            simp at hq
            rcases hq with hq | hq
            · have := sub gs[hh] (by simp); omega
            · omega) hbTw.size)
          have hbQs := hbQ.size
          have FI' : FitIn Q pe k hs ms va (fsOf gs (nss.set hh (ns.set ff m))) (List.replicate ms.length 0#128) := ⟨by rw [hpe]; exact HH.out.below hbQ, by rw [hpe]; exact HM.out.below hbQ, PKQ.vrd, PKQ.frd, PKQ.metas, iH, iM⟩
          have hfitv : hfitsV hs ms va (fsOf gs (nss.set hh (ns.set ff m))) (List.replicate ms.length 0#128) = true := fits_true HI.out.hva (by rw [List.length_set]; exact HI.out.hn) PKQ.len (fun i x hx => by
            obtain ⟨ns', v', h1, h2, _, h4, _⟩ := HI.out.each i x hx
            by_cases e : hh = i
            · subst e
              obtain ⟨u1, u2, _, _⟩ := EE.out
              rw [u1] at h1
              cases h1
              rw [u2] at h2
              cases h2
              rw [HXX.out.1] at hx
              cases hx
              refine ⟨ns.set ff m, true, by simp [hhn], u2, ?_⟩
              rw [HMx.out.1]
              exact fitsL_set n ns _ ff wx h4 HMx.out.2
            · exact ⟨ns', v', by rw [List.getElem?_set_ne e]; exact h1, h2, h4⟩)
          have FT' : ∀ W, Below Q.heap.size Q W → Calls Try.prog 9 #[pe.v, k.v] W (Pure (.bool true) W) := fun W hW => by
            have := hfits_any (FI'.below hW)
            rwa [hfitv] at this
          have FTT := hid FT'
          have BPK := hid PKQ.blk
          have BCQ := hid bCQ
          have BPR := hid prQ
          have HBQ := hid hbQ
          clear FT' hfitv FI' hfs' hlen' hw0g tTQ t8Q tQ PKQ bCQ prQ hbQ CIQ2 hno tS hbz CI8 bC8 bC10 bX n10 PK8' CI10' hb10 bC CIT PKT prP prT nuT hbTw c2 c3 c3' d0 d1 cr cq zc zq zr zc8 zc10 zr8 zr10 zn10 zg zq8
          refine wp_region_doc (fun F hF => ?_)
          have HF := hid hF
          clear hF
          refine doc_val rfl (load_agg_op _ _ _ _ _ _ _ _ Try.underlying39 (pk_size _ rfl) rfl BPK.out) ?_
          simp only [Act.put, List.setIfInBounds_toArray, List.set_cons_zero, List.set_cons_succ]
          refine doc_val rfl (load_agg_op _ _ _ _ _ _ _ _ Try.underlying39 (pk_size _ rfl) rfl BCQ.out) ?_
          simp only [Act.put, List.setIfInBounds_toArray, List.set_cons_zero, List.set_cons_succ]
          refine doc_call rfl (by first | (go_simp; done) | (go_simp; exact ⟨rfl, rfl⟩) | (go_simp; with_reducible rfl)) (SM.out.mono ?_)
          rintro _ _ ⟨rfl, m6, d6, rfl⟩
          refine ⟨_, rfl, ?_⟩
          simp only [Act.put, List.setIfInBounds_toArray, List.set_cons_zero, List.set_cons_succ]
          refine doc_val rfl (by first | (go_simp; done) | (go_simp; exact ⟨rfl, rfl⟩) | (go_simp; with_reducible rfl)) ?_
          simp only [Act.put, List.setIfInBounds_toArray, List.set_cons_zero, List.set_cons_succ]
          have bpq := BPR.out.ext m6 d6
          have bkq := BPK.out.ext m6 d6
          have hpk9 : (Try.prog.info? 39).map (·.size) = some k.cs.length := pk_size _ rfl
          have hq6 : Below Q.heap.size Q (Q.ext m6 d6) := Below.ext_mk (Below.refl _ _) (Nat.le_refl _) _ _
          generalize Q.ext m6 d6 = Q6 at bpq bkq hq6 ⊢
          refine doc_val rfl (load_agg_op _ _ _ _ _ _ _ _ Try.underlying33 (prog_size _ rfl) rfl bpq) ?_
          simp only [Act.put, List.setIfInBounds_toArray, List.set_cons_zero, List.set_cons_succ]
          refine doc_val rfl (load_agg_op (w := Q6) (g := b) (e := 39) (xs := k.cs) _ _ _ _ _ _ _ _ Try.underlying39 hpk9 rfl bkq) ?_
          simp only [Act.put, List.setIfInBounds_toArray, List.set_cons_zero, List.set_cons_succ]
          refine doc_call (f := 9) (args := #[pe.v, k.v]) rfl (by first | (go_simp; done) | (go_simp; exact ⟨rfl, rfl⟩) | (go_simp; with_reducible rfl)) ((FTT.out _ hq6).mono ?_)
          rintro _ _ ⟨rfl, m7, d7, rfl⟩
          refine ⟨_, rfl, ?_⟩
          simp only [Act.put, List.setIfInBounds_toArray, List.set_cons_zero, List.set_cons_succ]
          iterate 2 (refine doc_val rfl (by first | (go_simp; done) | (go_simp; exact ⟨rfl, rfl⟩) | (go_simp; with_reducible rfl)) ?_; simp only [Act.put, List.setIfInBounds_toArray, List.set_cons_zero, List.set_cons_succ])
          refine doc_call rfl (by first | (go_simp; done) | (go_simp; exact ⟨rfl, rfl⟩) | (go_simp; with_reducible rfl)) ((known19 _).mono ?_)
          rintro _ _ ⟨rfl, m8, d8, rfl⟩
          refine ⟨_, rfl, ?_⟩
          simp only [Act.put, List.setIfInBounds_toArray, List.set_cons_zero, List.set_cons_succ]
          iterate 2 (refine doc_val rfl (by first | (go_simp; done) | (go_simp; exact ⟨rfl, rfl⟩) | (go_simp; with_reducible rfl)) ?_; simp only [Act.put, List.setIfInBounds_toArray, List.set_cons_zero, List.set_cons_succ])
          refine doc_end (HF.out _ _ ?_)
          clear HF F
          go_wp2
          go_returns
          have hbQ6 := HBQ.out.trans (hq6.mono hbQs)
          have hbQ6s := hbQ6.size
          exact Pure.of rfl (by (repeat' (first | (with_reducible exact hbQ6) | (with_reducible exact Below.refl _ _) | (with_reducible refine Below.ext_mk ?_ ?_ _ _) | (with_reducible refine Below.alloc ?_ ?_ _) | (with_reducible refine Below.drew ?_) | (with_reducible refine Below.setCell ?_ ?_ _) | go_size)))
        · have hno : ∀ q, Z'.heap.size ≤ q → q ∉ [b] := fun q hq hm => by
            simp at hm
            have := hbz b (by simp)
            omega
          have CI8 := CIT.keep (w' := W8) (fun g hg hB => tS.block g hg (hno g hB))
          have bC8 := tS.blk bC (hno cb hcZ)
          have hS8 := tS.size
          have c2 := bC8.cell 2
          have xq := tS.cell zq (hno qb hqb) cq
          have zq8 : qb < W8.heap.size := by omega
          have c8 := bC8.cell 8
          have f8 := bC8.free 8
          simp only [List.getElem?_cons_zero, List.getElem?_cons_succ, SL.v_mk] at c2 c8
          have zc8 := bC8.lt
          go_upto_region 23 with (fail)
          refine wp_gen (fun W9 hW9 => ?_)
          have t9 : Turn W8 W9 [cb] := by rw [hW9]; exact Turn.set_ _ _ _ (by simp)
          have bC9 : Blk W9 cb 39 (PK.mk k.port r3 ⟨some ⟨qb, qo, none⟩, va.length, v3c⟩ ⟨some ⟨rb, ro, none⟩, fs3.length, f3c⟩ m3 k.dropped k.sent k.egress true).cs := by rw [hW9]; exact bC8.set_ 8 _
          clear hW9
          have PK9 := PktIs.past PK0.out PK8 ⟨rfl, rfl, rfl⟩ t9 (fun q hq => by simp at hq; omega)
          have CI9 := CI8.keepN (w' := W9) CLT.out (fun g hg hN => t9.block g hg (by simp; omega))
          have SM := hid (same_copy (k' := PK.mk k.port r3 ⟨some ⟨qb, qo, none⟩, va.length, v3c⟩ ⟨some ⟨rb, ro, none⟩, fs3.length, f3c⟩ m3 k.dropped k.sent k.egress true) PK9 (CI9.cells ⟨rfl, rfl, rfl, rfl⟩) HFS.out (by omega) ⟨rfl, rfl, rfl, rfl, rfl⟩)
          have hb9 : Below w.heap.size w W9 := by
            have h1 := hbTw.trans (tS.below (B := w.heap.size) (fun q hq => by simp at hq; have := sub b (by simp); omega) hbTw.size)
            exact h1.trans (t9.below (fun q hq => by simp at hq; have := hbZ.size; omega) h1.size)
          have hb9s := hb9.size
          refine wp_region_doc (fun F hF => ?_)
          have HF := hid hF
          clear hF
          refine doc_val rfl (load_agg_op _ _ _ _ _ _ _ _ Try.underlying39 (pk_size _ rfl) rfl PK9.blk) ?_
          simp only [Act.put, List.setIfInBounds_toArray, List.set_cons_zero, List.set_cons_succ]
          refine doc_val rfl (load_agg_op _ _ _ _ _ _ _ _ Try.underlying39 (pk_size _ rfl) rfl bC9) ?_
          simp only [Act.put, List.setIfInBounds_toArray, List.set_cons_zero, List.set_cons_succ]
          refine doc_call rfl (by first | (go_simp; done) | (go_simp; exact ⟨rfl, rfl⟩) | (go_simp; with_reducible rfl)) (SM.out.mono ?_)
          rintro _ _ ⟨rfl, m5, d5, rfl⟩
          refine ⟨_, rfl, ?_⟩
          simp only [Act.put, List.setIfInBounds_toArray, List.set_cons_zero, List.set_cons_succ]
          refine doc_val rfl (by first | (go_simp; done) | (go_simp; exact ⟨rfl, rfl⟩) | (go_simp; with_reducible rfl)) ?_
          simp only [Act.put, List.setIfInBounds_toArray, List.set_cons_zero, List.set_cons_succ]
          refine doc_call rfl (by first | (go_simp; done) | (go_simp; exact ⟨rfl, rfl⟩) | (go_simp; with_reducible rfl)) ((known19 _).mono ?_)
          rintro _ _ ⟨rfl, m6, d6, rfl⟩
          refine ⟨_, rfl, ?_⟩
          simp only [Act.put, List.setIfInBounds_toArray, List.set_cons_zero, List.set_cons_succ]
          iterate 2 (refine doc_val rfl (by first | (go_simp; done) | (go_simp; exact ⟨rfl, rfl⟩) | (go_simp; with_reducible rfl)) ?_; simp only [Act.put, List.setIfInBounds_toArray, List.set_cons_zero, List.set_cons_succ])
          refine doc_end (HF.out _ _ ?_)
          clear HF F
          go_wp2
          go_returns
          exact Pure.of rfl (by (repeat' (first | (with_reducible exact hb9) | (with_reducible exact Below.refl _ _) | (with_reducible refine Below.ext_mk ?_ ?_ _ _) | (with_reducible refine Below.alloc ?_ ?_ _) | (with_reducible refine Below.drew ?_) | (with_reducible refine Below.setCell ?_ ?_ _) | go_size)))
      -- GENERATED by genback.py
      refine ⟨fun L a w hn hI => ?_, ?_⟩
      · obtain ⟨r, rfl, hB, hR⟩ := hI
        have hup := getD_up hn.2.1
        refine st_val (v := pe.v) (W1 := w) rfl (by unfold backAct; simp only [gd_true]; exact load_agg_op _ _ _ _ _ _ _ _ Try.underlying33 (prog_size _ rfl) rfl (bP.below hB)) ?_
        refine ⟨r, ?_, hB, fun h2 => hR (by rwa [up_ne 0 2 (by decide)] at h2)⟩
        unfold backAct
        simp only [Act.put, List.setIfInBounds_toArray, List.set_cons_zero, List.set_cons_succ, hup, gd_true, up_ne 0 1 (by decide), up_ne 0 2 (by decide), up_ne 0 3 (by decide), up_ne 0 4 (by decide), up_ne 0 5 (by decide), up_ne 0 6 (by decide), up_ne 0 7 (by decide), up_ne 0 8 (by decide), up_ne 0 9 (by decide), up_ne 0 10 (by decide), up_ne 0 11 (by decide), up_ne 0 12 (by decide), up_ne 0 13 (by decide), up_ne 0 14 (by decide), up_ne 0 15 (by decide), up_ne 0 16 (by decide)]
      refine ⟨fun L a w hn hI => ?_, ?_⟩
      · obtain ⟨r, rfl, hB, hR⟩ := hI
        have hup := getD_up hn.2.1
        refine st_val (v := k.v) (W1 := w) rfl (by unfold backAct; simp only [gd_true]; exact load_agg_op _ _ _ _ _ _ _ _ Try.underlying39 (pk_size _ rfl) rfl (bK.below hB)) ?_
        refine ⟨r, ?_, hB, fun h2 => hR (by rwa [up_ne 1 2 (by decide)] at h2)⟩
        unfold backAct
        simp only [Act.put, List.setIfInBounds_toArray, List.set_cons_zero, List.set_cons_succ, hup, gd_true, up_ne 1 0 (by decide), up_ne 1 2 (by decide), up_ne 1 3 (by decide), up_ne 1 4 (by decide), up_ne 1 5 (by decide), up_ne 1 6 (by decide), up_ne 1 7 (by decide), up_ne 1 8 (by decide), up_ne 1 9 (by decide), up_ne 1 10 (by decide), up_ne 1 11 (by decide), up_ne 1 12 (by decide), up_ne 1 13 (by decide), up_ne 1 14 (by decide), up_ne 1 15 (by decide), up_ne 1 16 (by decide)]
      refine ⟨fun L a w hn hI => ?_, ?_⟩
      · obtain ⟨r, rfl, hB, hR⟩ := hI
        have hup := getD_up hn.2.1
        have d0 : L.getD 0 false = true := hn.2.2.1 0 (by decide +kernel)
        have d1 : L.getD 1 false = true := hn.2.2.1 1 (by decide +kernel)
        refine st_call (f := 13) (args := #[pe.v, k.v]) (W1 := w) rfl (by unfold backAct; simp only [gd_true, d0, d1]; first | (go_simp; done) | (go_simp; exact ⟨rfl, rfl⟩) | (go_simp; with_reducible rfl)) ((emit_any (EI.below hB)).mono ?_)
        rintro e' w2 ⟨r', rfl, q1, q2⟩
        have f3 := not_up hn.2.2.2 (i := 3) (k := 2) (by decide +kernel) hn.2.1
        refine ⟨_, rfl, r', ?_, hB.trans (q2.mono hB.size), fun _ => hE q1⟩
        unfold backAct
        simp only [Act.put, List.setIfInBounds_toArray, List.set_cons_zero, List.set_cons_succ, hup, gd_true, up_ne 2 0 (by decide), up_ne 2 1 (by decide), up_ne 2 3 (by decide), up_ne 2 4 (by decide), up_ne 2 5 (by decide), up_ne 2 6 (by decide), up_ne 2 7 (by decide), up_ne 2 8 (by decide), up_ne 2 9 (by decide), up_ne 2 10 (by decide), up_ne 2 11 (by decide), up_ne 2 12 (by decide), up_ne 2 13 (by decide), up_ne 2 14 (by decide), up_ne 2 15 (by decide), up_ne 2 16 (by decide)]
      refine ⟨fun L a w hn hI => ?_, ?_⟩
      · obtain ⟨r, rfl, hB, hR⟩ := hI
        have hup := getD_up hn.2.1
        have d2 : L.getD 2 false = true := hn.2.2.1 2 (by decide +kernel)
        have hs1 := str_any (hR d2)
        refine st_val (v := .string (strOf bs)) (W1 := w) rfl (by unfold backAct; simp only [gd_true, d2]; go_simp) ?_
        refine ⟨r, ?_, hB, fun h2 => hR (by rwa [up_ne 3 2 (by decide)] at h2)⟩
        unfold backAct
        simp only [Act.put, List.setIfInBounds_toArray, List.set_cons_zero, List.set_cons_succ, hup, gd_true, up_ne 3 0 (by decide), up_ne 3 1 (by decide), up_ne 3 2 (by decide), up_ne 3 4 (by decide), up_ne 3 5 (by decide), up_ne 3 6 (by decide), up_ne 3 7 (by decide), up_ne 3 8 (by decide), up_ne 3 9 (by decide), up_ne 3 10 (by decide), up_ne 3 11 (by decide), up_ne 3 12 (by decide), up_ne 3 13 (by decide), up_ne 3 14 (by decide), up_ne 3 15 (by decide), up_ne 3 16 (by decide)]
      refine ⟨fun L a w hn hI => ?_, ?_⟩
      · obtain ⟨r, rfl, hB, hR⟩ := hI
        have hup := getD_up hn.2.1
        refine st_val (v := .slice sa bs.length sc) (W1 := w) rfl (by unfold backAct; simp only [gd_true]; go_simp) ?_
        refine ⟨r, ?_, hB, fun h2 => hR (by rwa [up_ne 4 2 (by decide)] at h2)⟩
        unfold backAct
        simp only [Act.put, List.setIfInBounds_toArray, List.set_cons_zero, List.set_cons_succ, hup, gd_true, up_ne 4 0 (by decide), up_ne 4 1 (by decide), up_ne 4 2 (by decide), up_ne 4 3 (by decide), up_ne 4 5 (by decide), up_ne 4 6 (by decide), up_ne 4 7 (by decide), up_ne 4 8 (by decide), up_ne 4 9 (by decide), up_ne 4 10 (by decide), up_ne 4 11 (by decide), up_ne 4 12 (by decide), up_ne 4 13 (by decide), up_ne 4 14 (by decide), up_ne 4 15 (by decide), up_ne 4 16 (by decide)]
      refine ⟨fun L a w hn hI => ?_, ?_⟩
      · obtain ⟨r, rfl, hB, hR⟩ := hI
        have hup := getD_up hn.2.1
        have d4 : L.getD 4 false = true := hn.2.2.1 4 (by decide +kernel)
        have hs1 := str_any (bR.below hB)
        refine st_val (v := .string (strOf bs)) (W1 := w) rfl (by unfold backAct; simp only [gd_true, d4]; go_simp) ?_
        refine ⟨r, ?_, hB, fun h2 => hR (by rwa [up_ne 5 2 (by decide)] at h2)⟩
        unfold backAct
        simp only [Act.put, List.setIfInBounds_toArray, List.set_cons_zero, List.set_cons_succ, hup, gd_true, up_ne 5 0 (by decide), up_ne 5 1 (by decide), up_ne 5 2 (by decide), up_ne 5 3 (by decide), up_ne 5 4 (by decide), up_ne 5 6 (by decide), up_ne 5 7 (by decide), up_ne 5 8 (by decide), up_ne 5 9 (by decide), up_ne 5 10 (by decide), up_ne 5 11 (by decide), up_ne 5 12 (by decide), up_ne 5 13 (by decide), up_ne 5 14 (by decide), up_ne 5 15 (by decide), up_ne 5 16 (by decide)]
      refine ⟨fun L a w hn hI => ?_, ?_⟩
      · obtain ⟨r, rfl, hB, hR⟩ := hI
        have hup := getD_up hn.2.1
        have d3 : L.getD 3 false = true := hn.2.2.1 3 (by decide +kernel)
        have d5 : L.getD 5 false = true := hn.2.2.1 5 (by decide +kernel)
        refine st_val (v := .bool false) (W1 := w) rfl (by unfold backAct; simp only [gd_true, d3, d5]; go_simp) ?_
        refine ⟨r, ?_, hB, fun h2 => hR (by rwa [up_ne 6 2 (by decide)] at h2)⟩
        unfold backAct
        simp only [Act.put, List.setIfInBounds_toArray, List.set_cons_zero, List.set_cons_succ, hup, gd_true, up_ne 6 0 (by decide), up_ne 6 1 (by decide), up_ne 6 2 (by decide), up_ne 6 3 (by decide), up_ne 6 4 (by decide), up_ne 6 5 (by decide), up_ne 6 7 (by decide), up_ne 6 8 (by decide), up_ne 6 9 (by decide), up_ne 6 10 (by decide), up_ne 6 11 (by decide), up_ne 6 12 (by decide), up_ne 6 13 (by decide), up_ne 6 14 (by decide), up_ne 6 15 (by decide), up_ne 6 16 (by decide)]
      refine ⟨fun L a w hn hI => ?_, ?_⟩
      · obtain ⟨r, rfl, hB, hR⟩ := hI
        have hup := getD_up hn.2.1
        have d6 : L.getD 6 false = true := hn.2.2.1 6 (by decide +kernel)
        refine st_val (v := .bool false) (W1 := w) rfl (by unfold backAct; simp only [gd_true, d6]; go_simp) ?_
        refine ⟨r, ?_, hB, fun h2 => hR (by rwa [up_ne 7 2 (by decide)] at h2)⟩
        unfold backAct
        simp only [Act.put, List.setIfInBounds_toArray, List.set_cons_zero, List.set_cons_succ, hup, gd_true, up_ne 7 0 (by decide), up_ne 7 1 (by decide), up_ne 7 2 (by decide), up_ne 7 3 (by decide), up_ne 7 4 (by decide), up_ne 7 5 (by decide), up_ne 7 6 (by decide), up_ne 7 8 (by decide), up_ne 7 9 (by decide), up_ne 7 10 (by decide), up_ne 7 11 (by decide), up_ne 7 12 (by decide), up_ne 7 13 (by decide), up_ne 7 14 (by decide), up_ne 7 15 (by decide), up_ne 7 16 (by decide)]
      refine ⟨fun L a w hn hI => ?_, ?_⟩
      · obtain ⟨r, rfl, hB, hR⟩ := hI
        have hup := getD_up hn.2.1
        have d7 : L.getD 7 false = true := hn.2.2.1 7 (by decide +kernel)
        refine st_val (v := pe.v) (W1 := w) (wanted_f (x := false) rfl (by unfold backAct; simp only [gd_true, d7]; rfl)) (by unfold backAct; simp only [gd_true, d7]; exact load_agg_op _ _ _ _ _ _ _ _ Try.underlying33 (prog_size _ rfl) rfl (bP.below hB)) ?_
        refine ⟨r, ?_, hB, fun h2 => hR (by rwa [up_ne 8 2 (by decide)] at h2)⟩
        unfold backAct
        simp only [Act.put, List.setIfInBounds_toArray, List.set_cons_zero, List.set_cons_succ, hup, gd_true, up_ne 8 0 (by decide), up_ne 8 1 (by decide), up_ne 8 2 (by decide), up_ne 8 3 (by decide), up_ne 8 4 (by decide), up_ne 8 5 (by decide), up_ne 8 6 (by decide), up_ne 8 7 (by decide), up_ne 8 9 (by decide), up_ne 8 10 (by decide), up_ne 8 11 (by decide), up_ne 8 12 (by decide), up_ne 8 13 (by decide), up_ne 8 14 (by decide), up_ne 8 15 (by decide), up_ne 8 16 (by decide)]
      refine ⟨fun L a w hn hI => ?_, ?_⟩
      · obtain ⟨r, rfl, hB, hR⟩ := hI
        have hup := getD_up hn.2.1
        have d7 : L.getD 7 false = true := hn.2.2.1 7 (by decide +kernel)
        refine st_val (v := k.v) (W1 := w) (wanted_f (x := false) rfl (by unfold backAct; simp only [gd_true, d7]; rfl)) (by unfold backAct; simp only [gd_true, d7]; exact load_agg_op _ _ _ _ _ _ _ _ Try.underlying39 (pk_size _ rfl) rfl (bK.below hB)) ?_
        refine ⟨r, ?_, hB, fun h2 => hR (by rwa [up_ne 9 2 (by decide)] at h2)⟩
        unfold backAct
        simp only [Act.put, List.setIfInBounds_toArray, List.set_cons_zero, List.set_cons_succ, hup, gd_true, up_ne 9 0 (by decide), up_ne 9 1 (by decide), up_ne 9 2 (by decide), up_ne 9 3 (by decide), up_ne 9 4 (by decide), up_ne 9 5 (by decide), up_ne 9 6 (by decide), up_ne 9 7 (by decide), up_ne 9 8 (by decide), up_ne 9 10 (by decide), up_ne 9 11 (by decide), up_ne 9 12 (by decide), up_ne 9 13 (by decide), up_ne 9 14 (by decide), up_ne 9 15 (by decide), up_ne 9 16 (by decide)]
      refine ⟨fun L a w hn hI => ?_, ?_⟩
      · obtain ⟨r, rfl, hB, hR⟩ := hI
        have hup := getD_up hn.2.1
        have d8 : L.getD 8 false = true := hn.2.2.1 8 (by decide +kernel)
        have d9 : L.getD 9 false = true := hn.2.2.1 9 (by decide +kernel)
        have d7 : L.getD 7 false = true := hn.2.2.1 7 (by decide +kernel)
        refine st_call (f := 9) (args := #[pe.v, k.v]) (W1 := w) (wanted_f (x := false) rfl (by unfold backAct; simp only [gd_true, d8, d9, d7]; rfl)) (by unfold backAct; simp only [gd_true, d8, d9, d7]; first | (go_simp; done) | (go_simp; exact ⟨rfl, rfl⟩) | (go_simp; with_reducible rfl)) ((FT (FI.below hB)).mono ?_)
        rintro e' w2 ⟨rfl, m2, d2, rfl⟩
        refine ⟨_, rfl, r, ?_, Below.ext_mk hB hB.size m2 d2, fun h2 => (hR (by rwa [up_ne 10 2 (by decide)] at h2)).below (Below.ext_mk (Below.refl _ _) (Nat.le_refl _) m2 d2)⟩
        unfold backAct
        simp only [Act.put, List.setIfInBounds_toArray, List.set_cons_zero, List.set_cons_succ, hup, gd_true, up_ne 10 0 (by decide), up_ne 10 1 (by decide), up_ne 10 2 (by decide), up_ne 10 3 (by decide), up_ne 10 4 (by decide), up_ne 10 5 (by decide), up_ne 10 6 (by decide), up_ne 10 7 (by decide), up_ne 10 8 (by decide), up_ne 10 9 (by decide), up_ne 10 11 (by decide), up_ne 10 12 (by decide), up_ne 10 13 (by decide), up_ne 10 14 (by decide), up_ne 10 15 (by decide), up_ne 10 16 (by decide)]
      refine ⟨fun L a w hn hI => ?_, ?_⟩
      · obtain ⟨r, rfl, hB, hR⟩ := hI
        have hup := getD_up hn.2.1
        have d10 : L.getD 10 false = true := hn.2.2.1 10 (by decide +kernel)
        have d7 : L.getD 7 false = true := hn.2.2.1 7 (by decide +kernel)
        refine st_val (v := .bool false) (W1 := w) (wanted_f (x := false) rfl (by unfold backAct; simp only [gd_true, d10, d7]; rfl)) (by unfold backAct; simp only [gd_true, d10, d7]; go_simp) ?_
        refine ⟨r, ?_, hB, fun h2 => hR (by rwa [up_ne 11 2 (by decide)] at h2)⟩
        unfold backAct
        simp only [Act.put, List.setIfInBounds_toArray, List.set_cons_zero, List.set_cons_succ, hup, gd_true, up_ne 11 0 (by decide), up_ne 11 1 (by decide), up_ne 11 2 (by decide), up_ne 11 3 (by decide), up_ne 11 4 (by decide), up_ne 11 5 (by decide), up_ne 11 6 (by decide), up_ne 11 7 (by decide), up_ne 11 8 (by decide), up_ne 11 9 (by decide), up_ne 11 10 (by decide), up_ne 11 12 (by decide), up_ne 11 13 (by decide), up_ne 11 14 (by decide), up_ne 11 15 (by decide), up_ne 11 16 (by decide)]
      refine ⟨fun L a w hn hI => ?_, ?_⟩
      · obtain ⟨r, rfl, hB, hR⟩ := hI
        have hup := getD_up hn.2.1
        have d7 : L.getD 7 false = true := hn.2.2.1 7 (by decide +kernel)
        have d11 : L.getD 11 false = true := hn.2.2.1 11 (by decide +kernel)
        refine st_val (v := .bool false) (W1 := w) rfl (by unfold backAct; simp only [gd_true, d7, d11]; go_simp) ?_
        refine ⟨r, ?_, hB, fun h2 => hR (by rwa [up_ne 12 2 (by decide)] at h2)⟩
        unfold backAct
        simp only [Act.put, List.setIfInBounds_toArray, List.set_cons_zero, List.set_cons_succ, hup, gd_true, up_ne 12 0 (by decide), up_ne 12 1 (by decide), up_ne 12 2 (by decide), up_ne 12 3 (by decide), up_ne 12 4 (by decide), up_ne 12 5 (by decide), up_ne 12 6 (by decide), up_ne 12 7 (by decide), up_ne 12 8 (by decide), up_ne 12 9 (by decide), up_ne 12 10 (by decide), up_ne 12 11 (by decide), up_ne 12 13 (by decide), up_ne 12 14 (by decide), up_ne 12 15 (by decide), up_ne 12 16 (by decide)]
      refine ⟨fun L a w hn hI => ?_, ?_⟩
      · obtain ⟨r, rfl, hB, hR⟩ := hI
        have hup := getD_up hn.2.1
        have d12 : L.getD 12 false = true := hn.2.2.1 12 (by decide +kernel)
        refine st_val (v := .bool false) (W1 := w) rfl (by unfold backAct; simp only [gd_true, d12]; go_simp) ?_
        refine ⟨r, ?_, hB, fun h2 => hR (by rwa [up_ne 13 2 (by decide)] at h2)⟩
        unfold backAct
        simp only [Act.put, List.setIfInBounds_toArray, List.set_cons_zero, List.set_cons_succ, hup, gd_true, up_ne 13 0 (by decide), up_ne 13 1 (by decide), up_ne 13 2 (by decide), up_ne 13 3 (by decide), up_ne 13 4 (by decide), up_ne 13 5 (by decide), up_ne 13 6 (by decide), up_ne 13 7 (by decide), up_ne 13 8 (by decide), up_ne 13 9 (by decide), up_ne 13 10 (by decide), up_ne 13 11 (by decide), up_ne 13 12 (by decide), up_ne 13 14 (by decide), up_ne 13 15 (by decide), up_ne 13 16 (by decide)]
      refine ⟨fun L a w hn hI => ?_, ?_⟩
      · obtain ⟨r, rfl, hB, hR⟩ := hI
        have hup := getD_up hn.2.1
        have d13 : L.getD 13 false = true := hn.2.2.1 13 (by decide +kernel)
        refine st_val (v := .pointer (some ⟨b, 8, none⟩)) (W1 := w) (wanted_f (x := false) rfl (by unfold backAct; simp only [gd_true, d13]; rfl)) (by unfold backAct; simp only [gd_true, d13]; go_simp) ?_
        refine ⟨r, ?_, hB, fun h2 => hR (by rwa [up_ne 14 2 (by decide)] at h2)⟩
        unfold backAct
        simp only [Act.put, List.setIfInBounds_toArray, List.set_cons_zero, List.set_cons_succ, hup, gd_true, up_ne 14 0 (by decide), up_ne 14 1 (by decide), up_ne 14 2 (by decide), up_ne 14 3 (by decide), up_ne 14 4 (by decide), up_ne 14 5 (by decide), up_ne 14 6 (by decide), up_ne 14 7 (by decide), up_ne 14 8 (by decide), up_ne 14 9 (by decide), up_ne 14 10 (by decide), up_ne 14 11 (by decide), up_ne 14 12 (by decide), up_ne 14 13 (by decide), up_ne 14 15 (by decide), up_ne 14 16 (by decide)]
      refine ⟨fun L a w hn hI => ?_, ?_⟩
      · obtain ⟨r, rfl, hB, hR⟩ := hI
        have hup := getD_up hn.2.1
        have d14 : L.getD 14 false = true := hn.2.2.1 14 (by decide +kernel)
        have d13 : L.getD 13 false = true := hn.2.2.1 13 (by decide +kernel)
        have c8 := (bK.below hB).cell 8
        simp only [List.getElem?_cons_zero, List.getElem?_cons_succ] at c8
        rw [hacc] at c8
        have zk := (bK.below hB).lt
        refine st_val (v := .bool false) (W1 := w) (wanted_f (x := false) rfl (by unfold backAct; simp only [gd_true, d14, d13]; rfl)) (by unfold backAct; simp only [gd_true, d14, d13]; go_simp) ?_
        refine ⟨r, ?_, hB, fun h2 => hR (by rwa [up_ne 15 2 (by decide)] at h2)⟩
        unfold backAct
        simp only [Act.put, List.setIfInBounds_toArray, List.set_cons_zero, List.set_cons_succ, hup, gd_true, up_ne 15 0 (by decide), up_ne 15 1 (by decide), up_ne 15 2 (by decide), up_ne 15 3 (by decide), up_ne 15 4 (by decide), up_ne 15 5 (by decide), up_ne 15 6 (by decide), up_ne 15 7 (by decide), up_ne 15 8 (by decide), up_ne 15 9 (by decide), up_ne 15 10 (by decide), up_ne 15 11 (by decide), up_ne 15 12 (by decide), up_ne 15 13 (by decide), up_ne 15 14 (by decide), up_ne 15 16 (by decide)]
      refine ⟨fun L a w hn hI => ?_, ?_⟩
      · obtain ⟨r, rfl, hB, hR⟩ := hI
        have hup := getD_up hn.2.1
        have d13 : L.getD 13 false = true := hn.2.2.1 13 (by decide +kernel)
        have d15 : L.getD 15 false = true := hn.2.2.1 15 (by decide +kernel)
        refine st_val (v := .bool false) (W1 := w) rfl (by unfold backAct; simp only [gd_true, d13, d15]; go_simp) ?_
        refine ⟨r, ?_, hB, fun h2 => hR (by rwa [up_ne 16 2 (by decide)] at h2)⟩
        unfold backAct
        simp only [Act.put, List.setIfInBounds_toArray, List.set_cons_zero, List.set_cons_succ, hup, gd_true, up_ne 16 0 (by decide), up_ne 16 1 (by decide), up_ne 16 2 (by decide), up_ne 16 3 (by decide), up_ne 16 4 (by decide), up_ne 16 5 (by decide), up_ne 16 6 (by decide), up_ne 16 7 (by decide), up_ne 16 8 (by decide), up_ne 16 9 (by decide), up_ne 16 10 (by decide), up_ne 16 11 (by decide), up_ne 16 12 (by decide), up_ne 16 13 (by decide), up_ne 16 14 (by decide), up_ne 16 15 (by decide)]
      trivial
      -- END GENERATED
end Go.Proofs.Ytkblldmpdihamaa
