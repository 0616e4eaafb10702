/-
  The document's New of a packet (quillonref19): what holds round by round.
-/
import Derived.Test.YtkblldmpdihamaaZPdE
import Derived.Test.YtkblldmpdihamaaZPdV
set_option linter.unusedVariables false
set_option linter.unusedSimpArgs false
namespace Go.Proofs.Ytkblldmpdihamaa
open Go.RowKit

theorem RowIs.neB {w : World} {sv : Value} {g q : Nat} {e e' : TypeId} {s n : Nat} {xs ys : List Value} (h : RowIs w sv (some g) e s n xs) (h' : Blk w q e' ys) (he : e ≠ e') : g ≠ q := by
  intro x
  subst x
  obtain ⟨_, ⟨_, _, h3⟩ | ⟨g1, cap, cur, h1, h2, h3, _⟩⟩ := h
  · cases h3
  · cases h2
    unfold Blk at h'
    rw [h3] at h'
    injection h' with k3
    injection k3 with _ k4
    exact he k4
/-- The document's new packet, in the making. -/
structure NewS (B : Nat) (w wr : World) (qb : Nat) (port : Int) (l : List Nat) (ws : List Nat) (jv jf : Nat) (r vv fv : SL) (Gr : Nat) (Gv Gf : Option Nat) (fs : NumRows) (gs : List Nat) : Prop where
  below : Below B w wr
  blk : Blk wr qb 39 (PK.mk port r vv fv slNil false false 0 false).cs
  rest : RowIs wr r.v (some Gr) 5 1 l.length (byts l)
  vrow : RowIs wr vv.v Gv 4 1 jv (bools (List.replicate jv false))
  frow : RowIs wr fv.v Gf 37 1 jf (fs.map fun x => x.1.v)
  fsn : fs.map (fun x => x.2) = (zeroRows ws).take jf
  flen : fs.length = jf
  len : gs.length = jf
  each : ∀ (i : Nat) (x : SL × List (BitVec 128)) (g : Nat), fs[i]? = some x → gs[i]? = some g → RowIs wr x.1.v (some g) 45 2 x.2.length (nums x.2)
  ge : B ≤ qb ∧ B ≤ Gr ∧ (∀ g, Gv = some g → B ≤ g) ∧ (∀ g, Gf = some g → B ≤ g) ∧ ∀ g ∈ gs, B ≤ g
section
variable {B : Nat} {w wr w7 : World} {qb : Nat} {port : Int} {l ws : List Nat} {jv jf : Nat} {r vv fv vv' fv' : SL} {Gr G' z : Nat} {Gv Gf : Option Nat} {fs : NumRows} {gs : List Nat}
theorem NewS.gsn (N : NewS B w wr qb port l ws jv jf r vv fv Gr Gv Gf fs gs) {g : Nat} (hg : g ∈ gs) : ∃ (sv : Value) (n : Nat) (xs : List Value), RowIs wr sv (some g) 45 2 n xs := by
  obtain ⟨i, hi⟩ := List.getElem?_of_mem hg
  have hil := (List.getElem?_eq_some_iff.1 hi).1
  have hx : i < fs.length := by have := N.len; have := N.flen; omega
  exact ⟨_, _, _, N.each i fs[i] g (List.getElem?_eq_getElem hx) hi⟩
theorem NewS.pushV (N : NewS B w wr qb port l ws jv jf r vv fv Gr Gv Gf fs gs) (hb : Below B w w7) (hG' : B ≤ G')
    (hq : ∀ q, q < wr.heap.size → Gv ≠ some q → w7.heap[q]? = wr.heap[q]? ∧ G' ≠ q) (hrow : RowIs w7 vv'.v (some G') 4 1 (jv + 1) (bools (List.replicate jv false) ++ [.bool false])) :
    NewS B w (w7.setCell ⟨qb, 2, none⟩ vv'.v) qb port l ws (jv + 1) jf r vv' fv Gr (some G') Gf fs gs := by
  have nq : ∀ {sv : Value} {g : Nat} {e : TypeId} {s n : Nat} {xs : List Value}, RowIs wr sv (some g) e s n xs → e ≠ 4 → e ≠ 39 → RowIs (w7.setCell ⟨qb, 2, none⟩ vv'.v) sv (some g) e s n xs := fun {sv g e s n xs} h h1 h2 =>
    RowIs.keep h (fun g' hg' => by
      cases hg'
      have hlt := RowIs.lt h g rfl
      rw [Below.heap_setCell _ _ _ _ (RowIs.neB h N.blk h2)]
      refine (hq g hlt (fun e => ?_)).1
      have hv := N.vrow
      rw [e] at hv
      exact RowIs.ne h hv h1 rfl)
  have hqb := hq qb N.blk.lt (fun e => by
    have hv := N.vrow
    rw [e] at hv
    exact RowIs.neB hv N.blk (by decide) rfl)
  refine ⟨Below.setCell hb N.ge.1 _, (N.blk.keep hqb.1).set_ 2 _, nq N.rest (by decide) (by decide), ?_, ?_, N.fsn, N.flen, N.len, fun i x g hx hg => nq (N.each i x g hx hg) (by decide) (by decide), N.ge.1, N.ge.2.1, fun g hg => by cases hg; exact hG', N.ge.2.2.2.1, N.ge.2.2.2.2⟩
  · rw [show bools (List.replicate (jv + 1) false) = bools (List.replicate jv false) ++ [.bool false] by rw [List.replicate_succ']; simp [bools]]
    refine RowIs.keep hrow (fun g hg => ?_)
    cases hg
    exact Below.heap_setCell _ _ _ _ hqb.2
  · cases Gf with
    | none => exact RowIs.keep N.frow (fun g hg => by cases hg)
    | some gf => exact nq N.frow (by decide) (by decide)
theorem NewS.pushF {ns : List (BitVec 128)} {zs : SL} (N : NewS B w wr qb port l ws jv jf r vv fv Gr Gv Gf fs gs) (hb : Below B w w7) (hG' : B ≤ G') (hz : B ≤ z) (hzn : (zeroRows ws)[jf]? = some ns)
    (hq : ∀ q, q < wr.heap.size → Gf ≠ some q → w7.heap[q]? = wr.heap[q]? ∧ G' ≠ q) (hrow : RowIs w7 fv'.v (some G') 37 1 (jf + 1) ((fs.map fun x => x.1.v) ++ [zs.v])) (hzr : RowIs w7 zs.v (some z) 45 2 ns.length (nums ns)) (hzq : z ≠ qb) :
    NewS B w (w7.setCell ⟨qb, 3, none⟩ fv'.v) qb port l ws jv (jf + 1) r vv fv' Gr Gv (some G') (fs ++ [(zs, ns)]) (gs ++ [z]) := by
  have nq : ∀ {sv : Value} {g : Nat} {e : TypeId} {s n : Nat} {xs : List Value}, RowIs wr sv (some g) e s n xs → e ≠ 37 → e ≠ 39 → RowIs (w7.setCell ⟨qb, 3, none⟩ fv'.v) sv (some g) e s n xs := fun {sv g e s n xs} h h1 h2 =>
    RowIs.keep h (fun g' hg' => by
      cases hg'
      have hlt := RowIs.lt h g rfl
      rw [Below.heap_setCell _ _ _ _ (RowIs.neB h N.blk h2)]
      refine (hq g hlt (fun e => ?_)).1
      have hv := N.frow
      rw [e] at hv
      exact RowIs.ne h hv h1 rfl)
  have hqb := hq qb N.blk.lt (fun e => by
    have hv := N.frow
    rw [e] at hv
    exact RowIs.neB hv N.blk (by decide) rfl)
  refine ⟨Below.setCell hb N.ge.1 _, (N.blk.keep hqb.1).set_ 3 _, nq N.rest (by decide) (by decide), ?_, ?_, ?_, by simp [N.flen], by simp [N.len], ?_, N.ge.1, N.ge.2.1, N.ge.2.2.1, fun g hg => by cases hg; exact hG', ?_⟩
  · cases Gv with
    | none => exact RowIs.keep N.vrow (fun g hg => by cases hg)
    | some gf => exact nq N.vrow (by decide) (by decide)
  · rw [List.map_append]
    refine RowIs.keep hrow (fun g hg => ?_)
    cases hg
    exact Below.heap_setCell _ _ _ _ hqb.2
  · have hj := (List.getElem?_eq_some_iff.1 hzn).1
    rw [List.map_append, N.fsn, List.take_succ_eq_append_getElem hj, (List.getElem?_eq_some_iff.1 hzn).2]
    rfl
  · intro i x g hx hg
    have h1 := N.len
    have h2 := N.flen
    by_cases hi : i < jf
    · rw [List.getElem?_append_left (by omega)] at hx hg
      exact nq (N.each i x g hx hg) (by decide) (by decide)
    · have hie : i = jf := by
        have := (List.getElem?_eq_some_iff.1 hg).1
        simp at this; omega
      rw [List.getElem?_append_right (by omega)] at hx hg
      rw [show i - fs.length = 0 by omega] at hx
      rw [show i - gs.length = 0 by omega] at hg
      simp at hx hg
      subst hx hg
      refine RowIs.keep hzr (fun g' hg' => ?_)
      cases hg'
      exact Below.heap_setCell _ _ _ _ hzq
  · intro g hg
    rw [List.mem_append] at hg
    rcases hg with hg | hg
    · exact N.ge.2.2.2.2 g hg
    · simp at hg; subst hg; exact hz
end
end Go.Proofs.Ytkblldmpdihamaa
set_option linter.unusedVariables false
set_option linter.unusedSimpArgs false
namespace Go.Proofs.Ytkblldmpdihamaa
open Go.RowKit

abbrev PG.ls (p : PG) : List Value := [p.heads.v, p.metas.v, p.steps.v, p.acts.v, p.tabs.v, p.control.v, p.emit.v, p.n0.v, p.n1.v, p.n2.v, p.n3.v, p.n4.v]
def NewSt (V : World) (qb : Nat) (port : Int) (l ws : List Nat) (r : SL) (Gr j : Nat) (wr : World) : Prop :=
  ∃ (vv fv : SL) (Gv Gf : Option Nat) (fs : NumRows) (gs : List Nat), NewS V.heap.size V wr qb port l ws j j r vv fv Gr Gv Gf fs gs

set_option maxRecDepth 100000 in
set_option maxHeartbeats 8000000 in
theorem rnew_any {w : World} {p : PG} {hs : List (SL × List Int)} {s : SL} {l : List Nat} {mn : Nat} {L : List Nat} (port : Int) (H : HeadsAre w p.heads hs) (hmn : p.metas.n = mn) (hm16 : mn ≤ 16) (R : RdS w 1 s (byts l)) (hl : l.length ≤ 400) (hok : HsOk hs) (hL : ∀ q ∈ L, q < w.heap.size) :
    Calls Try.prog 19 #[p.v, .int .i64 port, s.v] w
      (fun e w' => ∃ k' : PK, e = .returned k'.v ∧ Below w.heap.size w w' ∧ Doc w' L port (List.replicate mn 0#128) ⟨l, List.replicate hs.length false, zeroRows (hs.map fun x => x.2.length), false⟩ k') := by
  have hsn : s.n = l.length := by have := R.2.2.1; rw [byts_length] at this; omega
  have hhn := H.len
  have HH := hid H
  have HL := hid hL
  have RR := hid R
  have hf8 := hok.few
  clear H hL R
  obtain ⟨sa, sn, sc⟩ := s
  obtain ⟨⟨pa, pn, pc⟩, ⟨ma, mm, mc⟩, s2, s3, s4, s5, em, n0, n1, n2, n3, n4⟩ := p
  simp only at hsn hhn hmn
  subst hsn hhn hmn
  obtain ⟨ws, hws⟩ : ∃ ws, ws = hs.map fun x => x.2.length := ⟨_, rfl⟩
  rw [← hws]
  have HWS := hid hws
  clear hws
  go_enter Try.func19, Try.ntmps19
  go_upto_region 1 with (fail)
  refine wp_gen (fun V hV => ?_)
  have hbV : Below w.heap.size w V := by rw [hV]; (repeat' (first | (with_reducible exact Below.refl _ _) | (with_reducible refine Below.ext_mk ?_ ?_ _ _) | (with_reducible refine Below.alloc ?_ ?_ _) | (with_reducible refine Below.drew ?_) | (with_reducible refine Below.setCell ?_ ?_ _) | go_size))
  have BP : Hid (Blk V w.heap.size 33 (PG.mk ⟨pa, hs.length, pc⟩ ⟨ma, mm, mc⟩ s2 s3 s4 s5 em n0 n1 n2 n3 n4).ls) := by
    rw [hV]
    exact hid ((Blk.new w 33 (PG.mk ⟨pa, hs.length, pc⟩ ⟨ma, mm, mc⟩ s2 s3 s4 s5 em n0 n1 n2 n3 n4).ls).below (Below.alloc (Below.refl _ _) (Nat.le_refl _) (.cells zeroCs.toArray 39)))
  have BZ : Hid (Blk V (w.heap.size + 1) 39 zeroCs) := by
    rw [hV]
    have h := Blk.new (w.alloc (.cells (PG.mk ⟨pa, hs.length, pc⟩ ⟨ma, mm, mc⟩ s2 s3 s4 s5 em n0 n1 n2 n3 n4).ls.toArray 33)) 39 zeroCs
    simp only [World.size_alloc] at h
    exact hid h
  clear hV
  have hvs := hbV.size
  have zB := BZ.out.lt
  obtain ⟨a1, c1, W1, Gr, p1, q1, B1, g1, g1'⟩ := append_copy (w := V) Try.underlying34 infoU8_is infoU8_zero infoU8_size infoU8_bytes rfl (by omega) (RR.out.below hbV) (by intro u hu; simp [byts] at hu; obtain ⟨x, _, rfl⟩ := hu; rfl) (by simp; omega) (by omega)
  simp only [SL.v_mk] at p1 q1
  have P1 := hid p1
  have Q1 := hid q1
  have HB1 := hid B1
  clear p1 q1
  refine wp_region_doc (fun F' hF => ?_)
  have HF := hid hF
  clear hF
  iterate 3 (refine doc_val rfl (by first | (go_simp; done) | (go_simp; exact ⟨rfl, rfl⟩) | (go_simp; with_reducible rfl)) ?_; simp only [Act.put, List.setIfInBounds_toArray, List.set_cons_zero, List.set_cons_succ])
  refine doc_val rfl (run_append_op _ _ _ _ _ _ _ _ _ P1.out) ?_
  simp only [Act.put, List.setIfInBounds_toArray, List.set_cons_zero, List.set_cons_succ]
  refine doc_val rfl (by first | (go_simp; done) | (go_simp; exact ⟨rfl, rfl⟩) | (go_simp; with_reducible rfl)) ?_
  simp only [Act.put, List.setIfInBounds_toArray, List.set_cons_zero, List.set_cons_succ]
  refine doc_val rfl (by first | (go_simp; done) | (go_simp; exact ⟨rfl, rfl⟩) | (go_simp; with_reducible rfl)) ?_
  simp only [Act.put, List.setIfInBounds_toArray, List.set_cons_zero, List.set_cons_succ]
  have bZ1 := Blk.new W1 39 zeroCs
  refine doc_skip rfl (store_row_op (xs := zeroCs) (ys := (PK.mk port ⟨a1, l.length, c1⟩ slNil slNil slNil false false 0 false).cs) _ _ _ _ _ _ _ _ _ (pk_size _ rfl) rfl (by simp [Value.oneCell']) rfl rfl bZ1) ?_
  simp only [Act.put, List.setIfInBounds_toArray, List.set_cons_zero, List.set_cons_succ]
  refine doc_end (HF.out _ _ ?_)
  clear HF F'
  go_upto_region 2 with (fail)
  refine wp_gen (fun X hX => ?_)
  have hb1s := HB1.out.size
  have hbX : Below V.heap.size V X := by rw [hX]; exact Below.setRow (Below.alloc HB1.out hb1s _) hb1s _
  have bQ : Blk X W1.heap.size 39 (PK.mk port ⟨a1, l.length, c1⟩ slNil slNil slNil false false 0 false).cs := by rw [hX]; exact bZ1.row _
  have rQ : RowIs X (.slice a1 l.length c1) (some Gr) 5 1 l.length (byts l) := RowIs.keep Q1.out (fun g hg => by
    cases hg
    rw [hX]
    unfold World.setRow
    simp only [Array.getElem?_modify]
    rw [if_neg (by omega)]
    exact Below.heap_alloc _ _ _ g1')
  clear hX bZ1 P1
  obtain ⟨qb, hqb⟩ : ∃ qb, qb = W1.heap.size := ⟨_, rfl⟩
  rw [← hqb] at bQ ⊢
  have hqV : V.heap.size ≤ qb := by omega
  have S0 := hid (show NewSt V qb port l ws ⟨a1, l.length, c1⟩ Gr 0 X from ⟨slNil, slNil, none, none, [], [], hbX, bQ, rQ, ⟨rfl, .inl ⟨rfl, rfl, rfl⟩⟩, ⟨rfl, .inl ⟨rfl, rfl, rfl⟩⟩, by simp, rfl, rfl, fun i x g h => (by simp at h), hqV, g1, fun g h => (by cases h), fun g h => (by cases h), fun g h => (by simp at h)⟩)
  have hbXh := hid hbX
  have hbVh := hid hbV
  have bPX := BP.out.below hbX
  have c0 := bPX.cell 0
  have z0 := bPX.lt
  simp only [List.getElem?_cons_zero, SL.v_mk] at c0
  clear hbX hbV bQ rQ hqb bPX Q1 g1 g1' B1 HB1 hb1s
  go_wp2_with fail
  clear c0
  go_loopw [8] (fun iv wr => ∃ j : Nat, j ≤ hs.length ∧ iv = .int .i64 j ∧ NewSt V qb port l ws ⟨a1, l.length, c1⟩ Gr j wr) (fun iv _ => hs.length - (intOf iv).toNat)
  case atStart => exact ⟨0, by omega, rfl, S0.out⟩
  case round =>
    obtain ⟨j, hj, rfl, vv, fv, Gv, Gf, fs, gs, N⟩ := hrel
    have hbr := N.below
    have hrs := hbr.size
    have bP := BP.out.below hbr
    have c0 := bP.cell 0
    have c1' := bP.cell 1
    have zp0 := bP.lt
    simp only [List.getElem?_cons_zero, List.getElem?_cons_succ, SL.v_mk] at c0 c1'
    by_cases hlt : j < hs.length
    · have hj1 : (j : Int) < (hs.length : Int) := by omega
      -- a header is not valid yet
      obtain ⟨sa', sc', w7, G', r1, r2, r3⟩ := push_one Try.underlying35 infoBo_is infoBo_zero infoBo_size infoBo_bytes rfl N.vrow (.bool false) rfl (by omega) (by omega)
      obtain ⟨⟨k1, k2⟩, k3⟩ := r3 V.heap.size V hbr hrs N.ge.2.2.1
      have N1 := N.pushV (vv' := ⟨sa', j + 1, sc'⟩) k1 k2 k3 r2
      have b2 := N.blk.cell 2
      have zq := N.blk.lt
      have qv : Gv ≠ some qb := fun e => by
        have hv := N.vrow
        rw [e] at hv
        exact RowIs.neB hv N.blk (by decide) rfl
      have B7 := N.blk.keep (k3 qb zq qv).1
      have b27 := B7.cell 2
      have f27 := B7.free 2
      have z27 := B7.lt
      have d2 := ((N.blk.below (Below.alloc (Below.refl _ _) (Nat.le_refl _) (.cells #[.bool false] 4))).cell 2)
      simp only [List.getElem?_cons_zero, List.getElem?_cons_succ, SL.v_mk] at b2 b27 d2
      have R1 := hid r1
      have NN1 := hid N1
      have hlv := N.vrow
      have hvn : vv.v = .slice vv.a vv.n vv.c := rfl
      clear r1 r2 r3 k1 k2 k3 N1 N B7 qv hlv
      go_upto_region 5 with (fail)
      refine wp_region_doc (fun F' hF => ?_)
      have HF := hid hF
      clear hF
      iterate 3 (refine doc_val rfl (by first | (go_simp; done) | (go_simp; exact ⟨rfl, rfl⟩) | (go_simp; with_reducible rfl)) ?_; simp only [Act.put, List.setIfInBounds_toArray, List.set_cons_zero, List.set_cons_succ])
      refine doc_val rfl (run_append_op _ _ _ _ _ _ _ _ _ R1.out) ?_
      simp only [Act.put, List.setIfInBounds_toArray, List.set_cons_zero, List.set_cons_succ]
      refine doc_val rfl (by first | (go_simp; done) | (go_simp; exact ⟨rfl, rfl⟩) | (go_simp; with_reducible rfl)) ?_
      simp only [Act.put, List.setIfInBounds_toArray, List.set_cons_zero, List.set_cons_succ]
      refine doc_skip rfl (by first | (go_simp; done) | (go_simp; exact ⟨rfl, rfl⟩) | (go_simp; with_reducible rfl)) ?_
      simp only [Act.put, List.setIfInBounds_toArray, List.set_cons_zero, List.set_cons_succ]
      refine doc_end (HF.out _ _ ?_)
      clear HF F' R1 b2 b27 f27 z27 d2 c0 c1'
      go_upto_region 6 with (fail)
      refine wp_gen (fun X1 hX1 => ?_)
      have N1 : NewS V.heap.size V X1 qb port l ws (j + 1) j ⟨a1, l.length, c1⟩ ⟨sa', j + 1, sc'⟩ fv Gr (some G') Gf fs gs := by rw [hX1]; exact NN1.out
      clear hX1 NN1
      have hb1 := N1.below
      have h1s := hb1.size
      have zq1 := N1.blk.lt
      have b3 := N1.blk.cell 3
      have b0 := (BP.out.below hb1).cell 0
      have zb0 := (BP.out.below hb1).lt
      simp only [List.getElem?_cons_zero, List.getElem?_cons_succ, SL.v_mk] at b3 b0
      obtain ⟨pb, po, ep, zp, _, cp⟩ := HH.out.row.one (i := j) (u := hs[j].1.v) (by simp [hlt])
      simp only at ep
      have hxn := (HH.out.each hs[j] (List.getElem_mem _)).int
      have hwj : ws[j]? = some hs[j].2.length := by rw [HWS.out]; simp [hlt]
      have hxf := hok.hi hs[j] (List.getElem_mem _)
      generalize hs[j] = x at *
      obtain ⟨⟨xa, xn, xc⟩, xl⟩ := x
      simp only [SL.v_mk] at cp hwj hxn hxf
      obtain ⟨xw, hxw⟩ : ∃ n, n = xl.length := ⟨_, rfl⟩
      rw [← hxw] at hxn hxf hwj
      clear hxw
      subst hxn ep
      have hzn : (zeroRows ws)[j]? = some (List.replicate xn 0#128) := by
        unfold zeroRows; rw [List.getElem?_map, hwj]; rfl
      have hbw1 : Below w.heap.size w X1 := hbVh.out.trans (hb1.mono hvs)
      have dp := (hbw1.cell (p := ⟨pb, po + j, none⟩) zp).trans cp
      have zp1 : pb < X1.heap.size := by have := hbw1.size; omega
      obtain ⟨W3, hW3⟩ : ∃ W3, W3 = X1.drew.alloc (.cells (nums (List.replicate xn 0#128)).toArray 45) := ⟨_, rfl⟩
      obtain ⟨W4, hW4⟩ : ∃ W4, W4 = W3.alloc (.cells #[.slice (some ⟨X1.heap.size, 0, none⟩) xn xn] 37) := ⟨_, rfl⟩
      have hB3 : Below X1.heap.size X1 W3 := by rw [hW3]; (repeat' (first | (with_reducible exact Below.refl _ _) | (with_reducible refine Below.ext_mk ?_ ?_ _ _) | (with_reducible refine Below.alloc ?_ ?_ _) | (with_reducible refine Below.drew ?_) | (with_reducible refine Below.setCell ?_ ?_ _) | go_size))
      have hB3s := hB3.size
      have hz3 : W3.heap.size = X1.heap.size + 1 := by rw [hW3]; simp
      have bN : Blk W3 X1.heap.size 45 (nums (List.replicate xn 0#128)) := by rw [hW3]; exact Blk.new X1.drew _ _
      obtain ⟨sa2, sc2, w8, G2, r1, r2, r3⟩ := push_one Try.underlying36 infoSl_is infoSl_zero infoSl_size infoSl_bytes rfl (RowIs.keep N1.frow (fun g hg => hB3.block g (RowIs.lt N1.frow g hg))) (.slice (some ⟨X1.heap.size, 0, none⟩) xn xn) rfl (by omega) (by omega)
      obtain ⟨⟨k1, k2⟩, k3⟩ := r3 V.heap.size V (hb1.trans (hB3.mono h1s)) (by omega) N1.ge.2.2.2.1
      have hk8 : ∀ q, q < X1.heap.size → Gf ≠ some q → w8.heap[q]? = X1.heap[q]? ∧ G2 ≠ q := fun q hq hn => ⟨(k3 q (by omega) hn).1.trans (hB3.block q hq), (k3 q (by omega) hn).2⟩
      have hGz : Gf ≠ some X1.heap.size := fun e => by have := RowIs.lt N1.frow _ e; omega
      have bN8 := bN.keep (k3 X1.heap.size (by omega) hGz).1
      have N2 := N1.pushF (zs := ⟨some ⟨X1.heap.size, 0, none⟩, xn, xn⟩) (z := X1.heap.size) (fv' := ⟨sa2, j + 1, sc2⟩) (ns := List.replicate xn 0#128) k1 k2 h1s hzn hk8 r2
        ⟨by rw [nums_length], .inr ⟨X1.heap.size, xn, (nums (List.replicate xn 0#128)).toArray, by rw [List.length_replicate], rfl, bN8, by rw [List.length_replicate]; exact Nat.le_refl _, by unfold maxLen; omega, by simp [nums_length], by rw [List.length_replicate]; apply List.take_of_length_le; simp [nums_length]⟩⟩ (by omega)
      have qf : Gf ≠ some qb := fun e => by
        have hv := N1.frow
        rw [e] at hv
        exact RowIs.neB hv N1.blk (by decide) rfl
      have B8 := N1.blk.keep (hk8 qb zq1 qf).1
      have b38 := B8.cell 3
      have f38 := B8.free 3
      have z38 := B8.lt
      simp only [List.getElem?_cons_zero, List.getElem?_cons_succ, SL.v_mk] at b38
      obtain ⟨W5, hW5⟩ : ∃ W5, W5 = w8.setCell ⟨qb, 3, none⟩ (.slice sa2 (j + 1) sc2) := ⟨_, rfl⟩
      simp only [SL.v_mk] at N2
      rw [← hW5] at N2
      rw [← hW4] at r1
      have hmk : (Instr.makeSlice 37 (.int .i64 (xn : Int)) (.int .i64 (xn : Int))).run Try.prog X1.drew = .ok (.slice (some ⟨X1.heap.size, 0, none⟩) xn xn) W3 := by
        have h := make_nums xn (by omega) X1.drew
        rw [hW3]; simpa using h
      have hB4 : Below X1.heap.size X1 W4 := by rw [hW4]; exact Below.alloc hB3 hB3.size _
      have e4 : W3.alloc (.cells #[.slice (some ⟨X1.heap.size, 0, none⟩) xn xn] 37) = W4 := hW4.symm
      have e5 : w8.setCell ⟨qb, 3, none⟩ (.slice sa2 (j + 1) sc2) = W5 := hW5.symm
      have D3 := hid (fun W (hW : W = X1.drew ∨ W = W3 ∨ W = W4) => (show W.cell? ⟨qb, 3, none⟩ = some fv.v ∧ qb < W.heap.size ∧ W.cell? ⟨w.heap.size, 0, none⟩ = some (.slice (some ⟨pb, po, none⟩) hs.length pc) ∧ w.heap.size < W.heap.size ∧ W.cell? ⟨pb, po + j, none⟩ = some (.slice xa xn xc) ∧ pb < W.heap.size from by
        have hB : Below X1.heap.size X1 W := by
          rcases hW with rfl | rfl | rfl
          · (repeat' (first | (with_reducible exact Below.refl _ _) | (with_reducible refine Below.ext_mk ?_ ?_ _ _) | (with_reducible refine Below.alloc ?_ ?_ _) | (with_reducible refine Below.drew ?_) | (with_reducible refine Below.setCell ?_ ?_ _) | go_size))
          · exact hB3
          · exact hB4
        have hBs := hB.size
        exact ⟨(hB.cell (p := ⟨qb, 3, none⟩) zq1).trans b3, by omega, (hB.cell (p := ⟨w.heap.size, 0, none⟩) zb0).trans b0, by omega, (hB.cell (p := ⟨pb, po + j, none⟩) zp1).trans dp, by omega⟩))
      have R1 := hid r1
      have NN2 := hid N2
      clear hW3 hW4 hW5 r1 r2 r3 N2 N1 b3 b0 dp bN bN8 B8 hk8 k1 k2 k3 hwj hzn qf hGz hB4 hB3
      refine wp_region_stage [8, 9, 10, 12] (fun i w => (i = 0 → w = X1.drew) ∧ (i = 1 → w = W3) ∧ (i = 2 → w = W4) ∧ (i = 3 → w = w8) ∧ (i = 4 → w = W5)) (by kernel_rfl) (by kernel_rfl) (by kernel_rfl) (by kernel_rfl) ⟨fun _ => rfl, fun h => by omega, fun h => by omega, fun h => by omega, fun h => by omega⟩ (fun F' hF' => ?_)
      have HF := hid hF'
      clear hF'
      repeat (first
        | (apply sg_any; (focus rfl); (focus rfl); (focus (intro _; go_simp; with_reducible rfl)); simp only [Act.put, List.setIfInBounds_toArray, List.set_cons_zero, List.set_cons_succ])
        | (apply sg_read 0 2; (focus rfl); (focus (decide +kernel)); (focus (decide +kernel)); (focus rfl); (focus (intro ii w' l' u hR; have hw : w' = X1.drew ∨ w' = W3 ∨ w' = W4 := by { rcases (show ii = 0 ∨ ii = 1 ∨ ii = 2 by omega) with rfl | rfl | rfl; exact .inl (hR.1 rfl); exact .inr (.inl (hR.2.1 rfl)); exact .inr (.inr (hR.2.2.1 rfl)) }; obtain ⟨y1, y2, y3, y4, y5, y6⟩ := D3.out w' hw; clear hR hw; go_simp; with_reducible rfl)); simp only [Act.put, List.setIfInBounds_toArray, List.set_cons_zero, List.set_cons_succ])
        | (apply sg_read 0 0; (focus rfl); (focus (decide +kernel)); (focus (decide +kernel)); (focus rfl); (focus (intro ii w' l' u hR; have hw : w' = X1.drew ∨ w' = W3 ∨ w' = W4 := by { rcases (show ii = 0 by omega) with rfl; exact .inl (hR.1 rfl) }; obtain ⟨y1, y2, y3, y4, y5, y6⟩ := D3.out w' hw; clear hR hw; go_simp; with_reducible rfl)); simp only [Act.put, List.setIfInBounds_toArray, List.set_cons_zero, List.set_cons_succ]))
      refine sg_turn (v := .slice (some ⟨X1.heap.size, 0, none⟩) xn xn) 0 rfl rfl (fun w' hR => ?_) ?_
      · obtain rfl := hR.1 rfl
        refine ⟨W3, ?_, fun h => by omega, fun _ => rfl, fun h => by omega, fun h => by omega, fun h => by omega⟩
        go_simp
      simp only [Act.put, List.setIfInBounds_toArray, List.set_cons_zero, List.set_cons_succ]
      refine sg_turn (v := .slice (some ⟨W3.heap.size, 0, none⟩) 1 1) 1 rfl rfl (fun w' hR => ?_) ?_
      · obtain rfl := hR.2.1 rfl
        refine ⟨W4, ?_, fun h => by omega, fun h => by omega, fun _ => rfl, fun h => by omega, fun h => by omega⟩
        rw [← e4]
        go_simp
      simp only [Act.put, List.setIfInBounds_toArray, List.set_cons_zero, List.set_cons_succ]
      refine sg_turn (v := .slice sa2 (j + 1) sc2) 2 rfl rfl (fun w' hR => ?_) ?_
      · obtain rfl := hR.2.2.1 rfl
        exact ⟨w8, run_append_op _ _ _ _ _ _ _ _ _ R1.out, fun h => by omega, fun h => by omega, fun h => by omega, fun _ => rfl, fun h => by omega⟩
      simp only [Act.put, List.setIfInBounds_toArray, List.set_cons_zero, List.set_cons_succ]
      repeat (apply sg_any; (focus rfl); (focus rfl); (focus (intro _; go_simp; with_reducible rfl)); simp only [Act.put, List.setIfInBounds_toArray, List.set_cons_zero, List.set_cons_succ])
      refine sg_do 3 rfl rfl (fun w' hR => ?_) ?_
      · obtain rfl := hR.2.2.2.1 rfl
        refine ⟨W5, ?_, fun h => by omega, fun h => by omega, fun h => by omega, fun h => by omega, fun _ => rfl⟩
        rw [← e5]
        go_simp
      simp only [Act.put, List.setIfInBounds_toArray, List.set_cons_zero, List.set_cons_succ]
      refine sg_end (HF.out _ (fun w' hR => ?_))
      obtain rfl := hR.2.2.2.2 rfl
      clear hR HF F' R1 e4 e5 hmk D3 b38 f38 z38
      have hjw : IntKind.i64.wrap ((j : Int) + 1) = (j : Int) + 1 := IntWalk.i64_in _ (by omega)
      go_wp2_with fail
      go_roundw
      case rel => exact ⟨j + 1, hlt, by go_num, ⟨_, _, _, _, _, _, NN2.out⟩⟩
      case measure => first | (simp [intOf]; done) | (simp [intOf]; omega)
    · have hje : j = hs.length := by omega
      subst hje
      have zq := N.blk.lt
      have b4 := N.blk.cell 4
      have f4 := N.blk.free 4
      have hmk := make_nums mm (by omega) wr
      obtain ⟨W3, hW3⟩ : ∃ W3, W3 = wr.alloc (.cells (nums (List.replicate mm 0#128)).toArray 45) := ⟨_, rfl⟩
      rw [← hW3] at hmk
      have hB3 : Below wr.heap.size wr W3 := by rw [hW3]; (repeat' (first | (with_reducible exact Below.refl _ _) | (with_reducible refine Below.ext_mk ?_ ?_ _ _) | (with_reducible refine Below.alloc ?_ ?_ _) | (with_reducible refine Below.drew ?_) | (with_reducible refine Below.setCell ?_ ?_ _) | go_size))
      have hB3s := hB3.size
      have bN : Blk W3 wr.heap.size 45 (nums (List.replicate mm 0#128)) := by rw [hW3]; exact Blk.new wr _ _
      have zN := bN.lt
      have B3 := N.blk.below hB3
      have b43 := B3.cell 4
      have f43 := B3.free 4
      have z43 := B3.lt
      have BK4 := hid (B3.set_ 4 (.slice (some ⟨wr.heap.size, 0, none⟩) mm mm))
      have zB1 : w.heap.size + 1 < wr.heap.size := by omega
      have BZ4 := hid (((BZ.out.below hbr).below hB3).far (b := qb) (by omega) 4 (.slice (some ⟨wr.heap.size, 0, none⟩) mm mm))
      have BN4 := hid (bN.far (b := qb) (by omega) 4 (.slice (some ⟨wr.heap.size, 0, none⟩) mm mm))
      have t4 := hid ((Turn.of_below hB3 : Turn wr W3 [qb]).trans (Turn.set_ qb 4 (.slice (some ⟨wr.heap.size, 0, none⟩) mm mm) (by simp)))
      simp only [List.getElem?_cons_zero, List.getElem?_cons_succ, SL.v_mk] at b4 b43
      have NN := hid N
      have hbrh := hid hbr
      have HW3 := hid hW3
      clear N hW3 B3 bN hB3
      go_upto_region 7 with (fail)
      refine wp_region_doc (fun F' hF => ?_)
      have HF := hid hF
      clear hF
      iterate 3 (refine doc_val rfl (by first | (go_simp; done) | (go_simp; exact ⟨rfl, rfl⟩) | (go_simp; with_reducible rfl)) ?_; simp only [Act.put, List.setIfInBounds_toArray, List.set_cons_zero, List.set_cons_succ])
      refine doc_val (W1 := W3) (v := .slice (some ⟨wr.heap.size, 0, none⟩) mm mm) rfl (by go_simp) ?_
      simp only [Act.put, List.setIfInBounds_toArray, List.set_cons_zero, List.set_cons_succ]
      refine doc_val rfl (by first | (go_simp; done) | (go_simp; exact ⟨rfl, rfl⟩) | (go_simp; with_reducible rfl)) ?_
      simp only [Act.put, List.setIfInBounds_toArray, List.set_cons_zero, List.set_cons_succ]
      refine doc_skip rfl (by first | (go_simp; done) | (go_simp; exact ⟨rfl, rfl⟩) | (go_simp; with_reducible rfl)) ?_
      simp only [Act.put, List.setIfInBounds_toArray, List.set_cons_zero, List.set_cons_succ]
      refine doc_end (HF.out _ _ ?_)
      clear HF F' hmk b4 f4 b43 f43 z43 c0 c1'
      go_upto_region 8 with (fail)
      generalize (W3.setCell ⟨qb, 4, none⟩ (.slice (some ⟨wr.heap.size, 0, none⟩) mm mm)) = Q at *
      refine wp_region_doc (fun F' hF => ?_)
      have HF := hid hF
      clear hF
      refine doc_val rfl (load_agg_op _ _ _ _ _ _ _ _ Try.underlying39 (pk_size _ rfl) rfl BK4.out) ?_
      simp only [Act.put, List.setIfInBounds_toArray, List.set_cons_zero, List.set_cons_succ]
      refine doc_skip rfl (store_row_op (xs := zeroCs) (ys := (PK.mk port ⟨a1, l.length, c1⟩ vv fv ⟨some ⟨wr.heap.size, 0, none⟩, mm, mm⟩ false false 0 false).cs) _ _ _ _ _ _ _ _ _ (pk_size _ rfl) rfl (by simp [Value.oneCell']) rfl rfl BZ4.out) ?_
      simp only [Act.put, List.setIfInBounds_toArray, List.set_cons_zero, List.set_cons_succ]
      refine doc_end (HF.out _ _ ?_)
      clear HF F'
      have bR := BZ4.out.row (PK.mk port ⟨a1, l.length, c1⟩ vv fv ⟨some ⟨wr.heap.size, 0, none⟩, mm, mm⟩ false false 0 false).cs
      go_wp2
      have N := NN.out
      have tR : Turn wr (Q.setRow (w.heap.size + 1) (PK.mk port ⟨a1, l.length, c1⟩ vv fv ⟨some ⟨wr.heap.size, 0, none⟩, mm, mm⟩ false false 0 false).cs.toArray) [qb, w.heap.size + 1] :=
        (t4.out.weak (by simp)).trans (Turn.row _ _ (by simp))
      have hbR : Below w.heap.size w (Q.setRow (w.heap.size + 1) (PK.mk port ⟨a1, l.length, c1⟩ vv fv ⟨some ⟨wr.heap.size, 0, none⟩, mm, mm⟩ false false 0 false).cs.toArray) :=
        (hbVh.out.trans (hbrh.out.mono hvs)).trans (tR.below (fun q hq => by simp at hq; rcases hq with rfl | rfl <;> omega) (by omega))
      refine bodyPost_ret (hpk_result rfl rfl bR rfl) rfl ⟨PK.mk port ⟨a1, l.length, c1⟩ vv fv ⟨some ⟨wr.heap.size, 0, none⟩, mm, mm⟩ false false 0 false, rfl, hbR, ?_⟩
      have bM := BN4.out.farRow (b := w.heap.size + 1) (by omega) (PK.mk port ⟨a1, l.length, c1⟩ vv fv ⟨some ⟨wr.heap.size, 0, none⟩, mm, mm⟩ false false 0 false).cs.toArray
      generalize Q.setRow (w.heap.size + 1) (PK.mk port ⟨a1, l.length, c1⟩ vv fv ⟨some ⟨wr.heap.size, 0, none⟩, mm, mm⟩ false false 0 false).cs.toArray = Z at *
      have keep : ∀ {sv : Value} {g : Nat} {e : TypeId} {s n : Nat} {xs : List Value}, RowIs wr sv (some g) e s n xs → V.heap.size ≤ g → e ≠ 39 → RowIs Z sv (some g) e s n xs := fun {sv g e s n xs} h hg he =>
        RowIs.turn h tR (by
          simp only [List.mem_cons, List.not_mem_nil, or_false, not_or]
          exact ⟨RowIs.neB h N.blk he, by omega⟩)
      have kv : RowIs Z vv.v Gv 4 1 hs.length (bools (List.replicate hs.length false)) := by
        cases Gv with
        | none => exact RowIs.keep N.vrow (fun g hg => by cases hg)
        | some g => exact keep N.vrow (N.ge.2.2.1 g rfl) (by decide)
      have kf : RowIs Z fv.v Gf 37 1 hs.length (fs.map fun x => x.1.v) := by
        cases Gf with
        | none => exact RowIs.keep N.frow (fun g hg => by cases hg)
        | some g => exact keep N.frow (N.ge.2.2.2.1 g rfl) (by decide)
      have ke : ∀ x ∈ fs, ∃ g, V.heap.size ≤ g ∧ RowIs Z x.1.v (some g) 45 2 x.2.length (nums x.2) := fun x hx => by
        obtain ⟨i, hi⟩ := List.getElem?_of_mem hx
        have hil := (List.getElem?_eq_some_iff.1 hi).1
        have hig : i < gs.length := by have := N.len; have := N.flen; omega
        have hge := N.ge.2.2.2.2 gs[i] (List.getElem_mem _)
        exact ⟨gs[i], hge, keep (N.each i x gs[i] hi (List.getElem?_eq_getElem hig)) hge (by decide)⟩
      have kr := keep N.rest N.ge.2.1 (by decide)
      have away : ∀ {sl : SL} {G : Option Nat} {e : TypeId} {s n : Nat} {xs : List Value}, RowIs Z sl.v G e s n xs → (∀ g, G = some g → V.heap.size ≤ g) → AwayN sl L := fun {sl G e s n xs} h hg _ b off e hm => by
        have h1 := hg b ((RowIs.rdS h).2.2 b off e)
        have := HL.out b hm
        omega
      refine ⟨fs, ⟨(RowIs.rdS kr).1, (RowIs.rdS kv).1, ⟨(RowIs.rdS kf).1, fun x hx => ?_⟩, Blk.rdS bM (by rw [nums_length]; simp) (by omega), away kr (fun g hg => by cases hg; exact N.ge.2.1), away kv N.ge.2.2.1, away kf N.ge.2.2.2.1, ?_, fun x hx => ?_⟩, ?_, rfl, rfl, rfl, rfl, rfl⟩
      · obtain ⟨g, _, hg⟩ := ke x hx
        exact (RowIs.rdS hg).1
      · intro _ b off e hm
        simp at e
        obtain ⟨e1, _⟩ := e
        subst e1
        have := HL.out _ hm
        omega
      · obtain ⟨g, hge, hg⟩ := ke x hx
        exact away hg (fun g' hg' => by cases hg'; exact hge)
      · rw [N.fsn]
        apply List.take_of_length_le
        unfold zeroRows
        rw [HWS.out]; simp
end Go.Proofs.Ytkblldmpdihamaa
