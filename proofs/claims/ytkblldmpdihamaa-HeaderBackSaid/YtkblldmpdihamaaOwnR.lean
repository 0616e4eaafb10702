/-
  The document's copy of a packet (quillonref19.Own).
-/
import Derived.Test.YtkblldmpdihamaaCopy
set_option linter.unusedVariables false
set_option linter.unusedSimpArgs false
namespace Go.Proofs.Ytkblldmpdihamaa
open Go.RowKit

abbrev NumRows := List (SL × List (BitVec 128))
/-- A packet's copy. -/
structure CopyIs (B : Nat) (w : World) (k : PK) (l : List Nat) (va : List Bool) (fs : NumRows) (gs : List Nat) (mt : List (BitVec 128)) (Gr Gv Gm : Nat) (Gf : Option Nat) : Prop where
  rest : RowIs w k.rest.v (some Gr) 5 1 l.length (byts l)
  valid : RowIs w k.valid.v (some Gv) 4 1 va.length (bools va)
  metas : RowIs w k.metas.v (some Gm) 45 2 mt.length (nums mt)
  row : RowIs w k.fields.v Gf 37 1 fs.length (fs.map fun x => x.1.v)
  len : gs.length = fs.length
  each : ∀ (i : Nat) (x : SL × List (BitVec 128)) (g : Nat), fs[i]? = some x → gs[i]? = some g → RowIs w x.1.v (some g) 45 2 x.2.length (nums x.2)
  nodup : gs.Nodup
  ge : ∀ g ∈ gs, B ≤ g ∧ g ≠ Gr ∧ g ≠ Gv ∧ g ≠ Gm ∧ Gf ≠ some g
  ge2 : B ≤ Gr ∧ B ≤ Gv ∧ B ≤ Gm ∧ ∀ g, Gf = some g → B ≤ g
theorem CopyIs.fields {B : Nat} {w : World} {k : PK} {l : List Nat} {va : List Bool} {fs : NumRows} {gs : List Nat} {mt : List (BitVec 128)} {Gr Gv Gm : Nat} {Gf : Option Nat} (h : CopyIs B w k l va fs gs mt Gr Gv Gm Gf) : FieldsAre w k.fields fs := by
  refine ⟨(RowIs.rdS h.row).1, fun x hx => ?_⟩
  obtain ⟨i, hi⟩ := List.getElem?_of_mem hx
  have hil := (List.getElem?_eq_some_iff.1 hi).1
  have hig : i < gs.length := by rw [h.len]; exact hil
  exact (RowIs.rdS (h.each i x gs[i] hi (List.getElem?_eq_getElem hig))).1

theorem nums_one : ∀ {l : List (BitVec 128)}, ∀ u ∈ nums l, u.oneCell' = true := by
  intro l
  induction l with
  | nil => intro u hu; simp [nums] at hu
  | cons n r ih =>
    intro u hu
    simp only [nums, List.mem_cons] at hu
    rcases hu with rfl | rfl | hu
    · rfl
    · rfl
    · exact ih u hu
def OwnOut (w : World) (k : PK) (l : List Nat) (va : List Bool) (nss : List (List (BitVec 128))) (mt : List (BitVec 128)) (e : Ending) (w' : World) : Prop :=
  ∃ (r v f m : SL) (fs : NumRows) (gs : List Nat) (Gr Gv Gm : Nat) (Gf : Option Nat), e = .returned (PK.mk k.port r v f m k.dropped k.sent k.egress k.access).v ∧ Below w.heap.size w w' ∧ fs.map (fun x => x.2) = nss ∧
    CopyIs w.heap.size w' (PK.mk k.port r v f m k.dropped k.sent k.egress k.access) l va fs gs mt Gr Gv Gm Gf

set_option maxRecDepth 100000 in
set_option maxHeartbeats 8000000 in
theorem own_any {w : World} {k : PK} {l : List Nat} {va : List Bool} {fs0 : NumRows} {nss : List (List (BitVec 128))} {mt : List (BitVec 128)}
    (r1 : RdS w 1 k.rest (byts l)) (v1 : RdS w 1 k.valid (bools va)) (f1 : FieldsAre w k.fields fs0) (m1 : RdS w 2 k.metas (nums mt)) (e0 : fs0.map (fun x => x.2) = nss)
    (few : l.length ≤ 1000000 ∧ va.length ≤ 1000000 ∧ mt.length ≤ 1000000 ∧ nss.length ≤ 1000000 ∧ ∀ ns ∈ nss, ns.length ≤ 1000000) :
    Calls Try.prog 14 #[k.v] w (OwnOut w k l va nss mt) := by
  have hl1 := f1.len
  have hn1 : fs0.length = nss.length := by rw [← e0]; simp
  have hr1 : k.rest.n = l.length := by have := r1.2.2.1; rw [byts_length] at this; omega
  have hv1 : k.valid.n = va.length := by have := v1.2.2.1; rw [bools_length] at this; omega
  have hm1 : k.metas.n = mt.length := by have := m1.2.2.1; rw [nums_length] at this; omega
  have R1 := hid r1
  have V1 := hid v1
  have F1 := hid f1
  have M1 := hid m1
  have E0 := hid e0
  clear r1 v1 f1 m1 e0
  obtain ⟨port, ⟨ra, rn, rc⟩, ⟨va1, vn, vc⟩, ⟨fa, fn, fc⟩, ⟨ma, mn, mc⟩, dr, se, eg, ac⟩ := k
  simp only at hl1 hr1 hv1 hm1
  subst hr1 hv1 hm1
  have hfn : fn = nss.length := by omega
  subst hfn
  clear hl1
  go_enter Try.func14, Try.ntmps14
  go_upto_region 1 with (fail)
  refine wp_gen (fun V hV => ?_)
  have hbV : Below w.heap.size w V := by rw [hV]; (repeat' (first | (with_reducible exact Below.refl _ _) | (with_reducible refine Below.ext_mk ?_ ?_ _ _) | (with_reducible refine Below.alloc ?_ ?_ _) | (with_reducible refine Below.drew ?_) | (with_reducible refine Below.setCell ?_ ?_ _) | go_size))
  have bk : Blk V w.heap.size 39 (PK.mk port ⟨ra, l.length, rc⟩ ⟨va1, va.length, vc⟩ ⟨fa, nss.length, fc⟩ ⟨ma, mt.length, mc⟩ dr se eg ac).cs := by
    rw [hV]
    exact (Blk.new w 39 (PK.mk port ⟨ra, l.length, rc⟩ ⟨va1, va.length, vc⟩ ⟨fa, nss.length, fc⟩ ⟨ma, mt.length, mc⟩ dr se eg ac).cs).below (by repeat (first | exact Below.refl _ _ | refine Below.alloc ?_ (by simp; try omega) _))
  have bz : Blk V (w.heap.size + 1) 39 zeroCs := by
    rw [hV]
    have h := Blk.new (w.alloc (.cells (PK.mk port ⟨ra, l.length, rc⟩ ⟨va1, va.length, vc⟩ ⟨fa, nss.length, fc⟩ ⟨ma, mt.length, mc⟩ dr se eg ac).cs.toArray 39)) 39 zeroCs
    simp only [World.size_alloc] at h
    exact h
  clear hV
  have hbs := hbV.size
  have hwV : w.heap.size + 1 < V.heap.size := bz.lt
  -- the bytes
  obtain ⟨a1, c1, W1, Gr, p1, q1, B1, g1, g1'⟩ := append_copy (w := V) Try.underlying34 infoU8_is infoU8_zero infoU8_size infoU8_bytes rfl (by omega) (R1.out.below hbV) (by intro u hu; simp [byts] at hu; obtain ⟨x, _, rfl⟩ := hu; rfl) few.1 (by omega)
  have k1 := bk.cell 1
  have k1' := (bk.below (Below.alloc (Below.refl _ _) (Nat.le_refl _) (.cells #[] 5))).cell 1
  have kf1 := (bk.below B1).free 1
  have kw1 := (bk.below B1).cell 1
  simp only [List.getElem?_cons_zero, List.getElem?_cons_succ, SL.v_mk] at k1 k1' kw1
  simp only [SL.v_mk] at p1 q1
  have zk := bk.lt
  have zk1 := (bk.below B1).lt
  have P1 := hid p1
  refine wp_region_doc (fun F' hF => ?_)
  have HF := hid hF
  clear hF
  iterate 3 (refine doc_val rfl (by first | (go_simp; done) | (go_simp; exact ⟨rfl, rfl⟩) | (go_simp; with_reducible rfl)) ?_; simp only [Act.put, List.setIfInBounds_toArray, List.set_cons_zero, List.set_cons_succ])
  refine doc_val rfl (run_append_op _ _ _ _ _ _ _ _ _ P1.out) ?_
  simp only [Act.put, List.setIfInBounds_toArray, List.set_cons_zero, List.set_cons_succ]
  refine doc_val rfl (by first | (go_simp; done) | (go_simp; exact ⟨rfl, rfl⟩) | (go_simp; with_reducible rfl)) ?_
  simp only [Act.put, List.setIfInBounds_toArray, List.set_cons_zero, List.set_cons_succ]
  refine doc_skip rfl (by first | (go_simp; done) | (go_simp; exact ⟨rfl, rfl⟩) | (go_simp; with_reducible rfl)) ?_
  simp only [Act.put, List.setIfInBounds_toArray, List.set_cons_zero, List.set_cons_succ]
  refine doc_end (HF.out _ _ ?_)
  clear HF F'
  go_upto_region 2 with (fail)
  refine wp_gen (fun X1 hX1 => ?_)
  have t1 : Turn V X1 [w.heap.size] := by rw [hX1]; exact (Turn.of_below B1).trans (Turn.set_ _ _ _ (by simp))
  have bk1 : Blk X1 w.heap.size 39 (PK.mk port ⟨a1, l.length, c1⟩ ⟨va1, va.length, vc⟩ ⟨fa, nss.length, fc⟩ ⟨ma, mt.length, mc⟩ dr se eg ac).cs := by rw [hX1]; exact (bk.below B1).set_ 1 _
  have q1' : RowIs X1 (.slice a1 l.length c1) (some Gr) 5 1 l.length (byts l) := by
    rw [hX1]; exact RowIs.turn q1 (Turn.set_ (L := [w.heap.size]) _ _ _ (by simp)) (by simp; omega)
  have gr1 : Gr < X1.heap.size := RowIs.lt q1' Gr rfl
  clear hX1 k1 k1' kf1 kw1 zk zk1 P1 p1 q1 B1 bk
  have RD : ∀ {X : World} {size : Nat} {s : SL} {xs : List Value}, Turn V X [w.heap.size] → RdS w size s xs → RdS X size s xs := fun t r =>
    RdS.away r hbV t (fun b off _ => by simp : Away _ []) (fun q hq => by simp at hq; subst hq; exact .inr (Nat.le_refl _))
  have hs1 := t1.size
  -- the truths
  obtain ⟨a2, c2, W2, Gv, p2, q2, B2, g2, g2'⟩ := append_copy (w := X1) Try.underlying35 infoBo_is infoBo_zero infoBo_size infoBo_bytes rfl (by omega) (RD t1 V1.out) (by intro u hu; simp [bools] at hu; rcases hu with ⟨_, rfl⟩ | ⟨_, rfl⟩ <;> rfl) few.2.1 (by omega)
  have k1 := bk1.cell 2
  have k1' := (bk1.below (Below.alloc (Below.refl _ _) (Nat.le_refl _) (.cells #[] 4))).cell 2
  have kf1 := (bk1.below B2).free 2
  have kw1 := (bk1.below B2).cell 2
  simp only [List.getElem?_cons_zero, List.getElem?_cons_succ, SL.v_mk] at k1 k1' kw1
  simp only [SL.v_mk] at p2 q2
  have zk := bk1.lt
  have zk1 := (bk1.below B2).lt
  have P2 := hid p2
  refine wp_region_doc (fun F' hF => ?_)
  have HF := hid hF
  clear hF
  iterate 3 (refine doc_val rfl (by first | (go_simp; done) | (go_simp; exact ⟨rfl, rfl⟩) | (go_simp; with_reducible rfl)) ?_; simp only [Act.put, List.setIfInBounds_toArray, List.set_cons_zero, List.set_cons_succ])
  refine doc_val rfl (run_append_op _ _ _ _ _ _ _ _ _ P2.out) ?_
  simp only [Act.put, List.setIfInBounds_toArray, List.set_cons_zero, List.set_cons_succ]
  refine doc_val rfl (by first | (go_simp; done) | (go_simp; exact ⟨rfl, rfl⟩) | (go_simp; with_reducible rfl)) ?_
  simp only [Act.put, List.setIfInBounds_toArray, List.set_cons_zero, List.set_cons_succ]
  refine doc_skip rfl (by first | (go_simp; done) | (go_simp; exact ⟨rfl, rfl⟩) | (go_simp; with_reducible rfl)) ?_
  simp only [Act.put, List.setIfInBounds_toArray, List.set_cons_zero, List.set_cons_succ]
  refine doc_end (HF.out _ _ ?_)
  clear HF F'
  go_upto_region 3 with (fail)
  refine wp_gen (fun X2 hX2 => ?_)
  have t12 : Turn X1 X2 [w.heap.size] := by rw [hX2]; exact (Turn.of_below B2).trans (Turn.set_ _ _ _ (by simp))
  have bk2 : Blk X2 w.heap.size 39 (PK.mk port ⟨a1, l.length, c1⟩ ⟨a2, va.length, c2⟩ ⟨fa, nss.length, fc⟩ ⟨ma, mt.length, mc⟩ dr se eg ac).cs := by rw [hX2]; exact (bk1.below B2).set_ 2 _
  have q2' : RowIs X2 (.slice a2 va.length c2) (some Gv) 4 1 va.length (bools va) := by
    rw [hX2]; exact RowIs.turn q2 (Turn.set_ (L := [w.heap.size]) _ _ _ (by simp)) (by simp; omega)
  have gr2 : Gv < X2.heap.size := RowIs.lt q2' Gv rfl
  have t2 := t1.trans t12
  have hs2 := t2.size
  have q1'' := RowIs.turn q1' t12 (by simp; omega)
  clear hX2 k1 k1' kf1 kw1 zk zk1 P2 p2 q2 B2 bk1 q1'
  -- the metadata
  obtain ⟨a3, c3, W3, Gm, p3, q3, B3, g3, g3'⟩ := append_copy (w := X2) Try.underlying37 infoNu_is infoNu_zero infoNu_size infoNu_bytes rfl (by omega) (RD t2 M1.out) nums_one few.2.2.1 (by omega)
  have k1 := bk2.cell 4
  have k1' := (bk2.below (Below.alloc (Below.refl _ _) (Nat.le_refl _) (.cells #[] 45))).cell 4
  have kf1 := (bk2.below B3).free 4
  have kw1 := (bk2.below B3).cell 4
  simp only [List.getElem?_cons_zero, List.getElem?_cons_succ, SL.v_mk] at k1 k1' kw1
  simp only [SL.v_mk] at p3 q3
  have zk := bk2.lt
  have zk1 := (bk2.below B3).lt
  have P3 := hid p3
  refine wp_region_doc (fun F' hF => ?_)
  have HF := hid hF
  clear hF
  iterate 3 (refine doc_val rfl (by first | (go_simp; done) | (go_simp; exact ⟨rfl, rfl⟩) | (go_simp; with_reducible rfl)) ?_; simp only [Act.put, List.setIfInBounds_toArray, List.set_cons_zero, List.set_cons_succ])
  refine doc_val rfl (run_append_op _ _ _ _ _ _ _ _ _ P3.out) ?_
  simp only [Act.put, List.setIfInBounds_toArray, List.set_cons_zero, List.set_cons_succ]
  refine doc_val rfl (by first | (go_simp; done) | (go_simp; exact ⟨rfl, rfl⟩) | (go_simp; with_reducible rfl)) ?_
  simp only [Act.put, List.setIfInBounds_toArray, List.set_cons_zero, List.set_cons_succ]
  refine doc_skip rfl (by first | (go_simp; done) | (go_simp; exact ⟨rfl, rfl⟩) | (go_simp; with_reducible rfl)) ?_
  simp only [Act.put, List.setIfInBounds_toArray, List.set_cons_zero, List.set_cons_succ]
  refine doc_end (HF.out _ _ ?_)
  clear HF F'
  go_upto_region 4 with (fail)
  refine wp_gen (fun X3 hX3 => ?_)
  have t23 : Turn X2 X3 [w.heap.size] := by rw [hX3]; exact (Turn.of_below B3).trans (Turn.set_ _ _ _ (by simp))
  have bk3 : Blk X3 w.heap.size 39 (PK.mk port ⟨a1, l.length, c1⟩ ⟨a2, va.length, c2⟩ ⟨fa, nss.length, fc⟩ ⟨a3, mt.length, c3⟩ dr se eg ac).cs := by rw [hX3]; exact (bk2.below B3).set_ 4 _
  have q3' : RowIs X3 (.slice a3 mt.length c3) (some Gm) 45 2 mt.length (nums mt) := by
    rw [hX3]; exact RowIs.turn q3 (Turn.set_ (L := [w.heap.size]) _ _ _ (by simp)) (by simp; omega)
  have gr3 : Gm < X3.heap.size := RowIs.lt q3' Gm rfl
  have t3 := t2.trans t23
  have hs3 := t3.size
  have q1 := RowIs.turn q1'' t23 (by simp; omega)
  have q2 := RowIs.turn q2' t23 (by simp; omega)
  clear hX3 k1 k1' kf1 kw1 zk zk1 P3 p3 q3 B3 bk2 q1'' q2'
  have BK := hid bk3
  have BZ := hid (t3.blk bz (by simp))
  have hX3w : Below w.heap.size w X3 := hbV.trans (t3.below (fun q hq => by simp at hq; omega) (by omega))
  clear bz
  have c3' := bk3.cell 3
  simp only [List.getElem?_cons_zero, List.getElem?_cons_succ, SL.v_mk] at c3'
  have zk := bk3.lt
  go_wp2_with fail
  clear c3'
  go_loopw [3, 4] (fun fv i wr => ∃ (j : Nat) (f : SL) (Gf : Option Nat) (fs : NumRows) (gs : List Nat), j ≤ nss.length ∧ i = .int .i64 j ∧ fv = f.v ∧ Below X3.heap.size X3 wr ∧ fs.map (fun x => x.2) = nss.take j ∧ gs.length = j ∧
      RowIs wr f.v Gf 37 1 j (fs.map fun x => x.1.v) ∧ (∀ (i : Nat) (x : SL × List (BitVec 128)) (g : Nat), fs[i]? = some x → gs[i]? = some g → RowIs wr x.1.v (some g) 45 2 x.2.length (nums x.2)) ∧
      gs.Nodup ∧ (∀ g ∈ gs, X3.heap.size ≤ g ∧ Gf ≠ some g) ∧ ∀ g, Gf = some g → X3.heap.size ≤ g) (fun _ i _ => nss.length - (intOf i).toNat)
  case atStart => exact ⟨0, ⟨none, 0, 0⟩, none, [], [], by omega, rfl, rfl, Below.refl _ _, rfl, rfl, ⟨rfl, .inl ⟨rfl, rfl, rfl⟩⟩, fun i x g h => by simp at h, List.nodup_nil, fun g h => by simp at h, fun g h => by cases h⟩
  case round =>
    obtain ⟨j, f, Gf, fs, gs, hj, rfl, rfl, hb, hfs, hgl, hrow, heach, hnd, hge, hGf⟩ := hrel
    have hbr := hb.size
    have c3' := (BK.out.below hb).cell 3
    simp only [List.getElem?_cons_zero, List.getElem?_cons_succ, SL.v_mk] at c3'
    have zk' : w.heap.size < wr.heap.size := by omega
    by_cases hlt : j < nss.length
    · have hj1 : (j : Int) < (nss.length : Int) := by omega
      have hbw : Below w.heap.size w wr := hX3w.trans (hb.mono (by omega))
      obtain ⟨s, hs⟩ := fmap_at E0.out hlt
      have B := (F1.out.each _ (List.mem_of_getElem? hs)).below hbw
      have hn := B.2.2.1
      rw [nums_length] at hn
      simp only at hn B
      obtain ⟨fb, fo, ef, zfb, _, cf⟩ := F1.out.row.one (i := j) (u := s.v) (by rw [List.getElem?_map, hs]; rfl)
      simp only at ef
      subst ef
      have vf := (hbw.cell (p := ⟨fb, fo + j, none⟩) zfb).trans cf
      have zfb' : fb < wr.heap.size := by have := hbw.size; omega
      have hnfew := few.2.2.2.2 nss[j] (List.getElem_mem _)
      have hnt : nss.take (j + 1) = nss.take j ++ [nss[j]] := List.take_succ_eq_append_getElem hlt
      have HNT := hid hnt
      obtain ⟨sa, sn, sc⟩ := s
      simp only at hn
      have hsn : sn = nss[j].length := by omega
      clear hs cf hnt
      generalize nss[j] = ns at *
      subst hsn
      obtain ⟨a5, c5, W5, G5, p5, q5, B5, g5, g5'⟩ := append_copy (w := wr) Try.underlying37 infoNu_is infoNu_zero infoNu_size infoNu_bytes rfl (by omega) B nums_one hnfew (by omega)
      simp only [SL.v_mk] at p5 q5 vf
      obtain ⟨W6, hW6⟩ : ∃ W6, W6 = W5.alloc (.cells #[.slice a5 ns.length c5] 37) := ⟨_, rfl⟩
      have hB6 : Below wr.heap.size wr W6 := by rw [hW6]; exact Below.alloc B5 B5.size _
      have bS : Blk W6 W5.heap.size 37 [.slice a5 ns.length c5] := by rw [hW6]; exact Blk.new W5 _ _
      have h56 : W6.heap.size = W5.heap.size + 1 := by rw [hW6]; simp
      have hn5 := B5.size
      have hgfl := fun g hg => RowIs.lt hrow g hg
      have hrow6 := RowIs.keep hrow (fun g hg => hB6.block g (RowIs.lt hrow g hg))
      obtain ⟨v', w7, G', r1, r2, r3, r4⟩ := append_row (P := Try.prog) 36 36 infoSl (.slice none 0 0) 24 Try.underlying36 infoSl_is infoSl_zero infoSl_size infoSl_bytes rfl (by omega) hrow6
        ⟨W5.heap.size, 0, none⟩ 1 1 [.slice a5 ns.length c5] rfl (fun i u hu => by
          rw [hadd_off, Nat.zero_add]
          exact (bS.cell i).trans hu) (by simp [Value.oneCell']) (by omega) (by unfold maxLen; omega) (by have := few.2.2.2.1; omega)
      obtain ⟨sa', sc', rfl, _⟩ := r2.form
      have c37 : ∀ W, (W = wr ∨ W = wr.alloc (.cells #[] 45) ∨ W = W5 ∨ W = W6) → W.cell? ⟨w.heap.size, 3, none⟩ = some (.slice (some ⟨fb, fo, none⟩) nss.length fc) ∧ w.heap.size < W.heap.size ∧ W.cell? ⟨fb, fo + j, none⟩ = some (.slice sa ns.length sc) ∧ fb < W.heap.size := fun W hW => by
        have hB : Below wr.heap.size wr W := by
          rcases hW with rfl | rfl | rfl | rfl
          · exact Below.refl _ _
          · exact Below.alloc (Below.refl _ _) (Nat.le_refl _) _
          · exact B5
          · exact hB6
        exact ⟨(hB.cell (p := ⟨w.heap.size, 3, none⟩) zk').trans c3', by have := hB.size; omega, (hB.cell (p := ⟨fb, fo + j, none⟩) zfb').trans vf, by have := hB.size; omega⟩
      obtain ⟨x1, x2, x3, x4⟩ := c37 (wr.alloc (.cells #[] 45)) (.inr (.inl rfl))
      have K6 := hid hW6
      have e6 : W5.alloc (.cells #[.slice a5 ns.length c5] 37) = W6 := hW6.symm
      have P5 := hid p5
      have R1' := hid r1
      have HROW := hid (And.intro hrow (And.intro r2 (And.intro r3 r4)))
      have HEACH := hid heach
      have HQ5 := hid q5
      clear hrow r2 r3 r4 heach q5 p5 r1 c37 hW6 bS hrow6
      go_upto_region 8 with (fail)
      refine wp_region_doc (fun F' hF => ?_)
      have HF := hid hF
      clear hF
      iterate 7 (refine doc_val rfl (by first | (go_simp; done) | (go_simp; exact ⟨rfl, rfl⟩) | (go_simp; with_reducible rfl)) ?_; simp only [Act.put, List.setIfInBounds_toArray, List.set_cons_zero, List.set_cons_succ])
      refine doc_val rfl (run_append_op _ _ _ _ _ _ _ _ _ P5.out) ?_
      simp only [Act.put, List.setIfInBounds_toArray, List.set_cons_zero, List.set_cons_succ]
      refine doc_val (W1 := W6) (v := .slice (some ⟨W5.heap.size, 0, none⟩) 1 1) rfl (by rw [← e6]; go_simp) ?_
      simp only [Act.put, List.setIfInBounds_toArray, List.set_cons_zero, List.set_cons_succ]
      refine doc_val rfl (run_append_op _ _ _ _ _ _ _ _ _ R1'.out) ?_
      simp only [Act.put, List.setIfInBounds_toArray, List.set_cons_zero, List.set_cons_succ]
      refine doc_val rfl (by first | (go_simp; done) | (go_simp; exact ⟨rfl, rfl⟩) | (go_simp; with_reducible rfl)) ?_
      simp only [Act.put, List.setIfInBounds_toArray, List.set_cons_zero, List.set_cons_succ]
      refine doc_end (HF.out _ _ ?_)
      clear HF F'
      obtain ⟨hrow, r2, r3, r4⟩ := HROW.out
      have hz7 : W6.heap.size ≤ w7.heap.size := r3.size
      have hgl5 : ∀ g ∈ gs, g < wr.heap.size := fun g hg => by
        obtain ⟨i, hi⟩ := List.getElem?_of_mem hg
        have hil := (List.getElem?_eq_some_iff.1 hi).1
        have hfl : fs.length = gs.length := by have h1 := congrArg List.length hfs; simp at h1; omega
        obtain ⟨x, hx⟩ : ∃ x, fs[i]? = some x := ⟨fs[i]'(by omega), List.getElem?_eq_getElem (by omega)⟩
        exact RowIs.lt (HEACH.out i x g hx hi) g rfl
      have hfl : fs.length = gs.length := by have h1 := congrArg List.length hfs; simp at h1; omega
      go_wp2_with fail
      go_roundw
      case rel =>
        refine ⟨j + 1, ⟨sa', j + 1, sc'⟩, some G', fs ++ [(⟨a5, ns.length, c5⟩, ns)], gs ++ [G5], hlt, by go_num, rfl, ?_, ?_, by simp [hgl], ?_, ?_, ?_, ?_, ?_⟩
        · exact (hb.trans (hB6.mono hbr)).grown r3 (by omega) (fun g hg => hGf g hg)
        · rw [HNT.out, List.map_append, hfs]; rfl
        · rw [List.map_append]; exact r2
        · intro i x g hx hg
          by_cases hi : i < fs.length
          · rw [List.getElem?_append_left hi] at hx
            rw [List.getElem?_append_left (by omega)] at hg
            have h1 := HEACH.out i x g hx hg
            have hgm := List.mem_of_getElem? hg
            exact RowIs.keep h1 (fun g' hg' => by
              cases hg'
              exact (r3.block g (by have := hgl5 g hgm; omega) (fun e => (hge g hgm).2 e.symm)).trans (hB6.block g (hgl5 g hgm)))
          · have hil := (List.getElem?_eq_some_iff.1 hx).1
            have hie : i = fs.length := by simp at hil; omega
            subst hie
            rw [List.getElem?_append_right (Nat.le_refl _)] at hx
            rw [List.getElem?_append_right (by omega)] at hg
            rw [Nat.sub_self] at hx
            rw [show fs.length - gs.length = 0 by omega] at hg
            simp at hx hg
            subst hx hg
            refine RowIs.keep HQ5.out (fun g' hg' => ?_)
            cases hg'
            rw [r3.block G5 (by omega) (fun e => by have := hgfl G5 e.symm; omega), K6.out]
            exact Below.heap_alloc _ _ _ g5'
        · rw [List.nodup_append]
          exact ⟨hnd, by simp, fun a ha b hb' e => by simp at hb'; have := hgl5 a ha; omega⟩
        · intro g hg
          rw [List.mem_append] at hg
          rcases hg with hg | hg
          · refine ⟨(hge g hg).1, fun e => ?_⟩
            cases e
            rcases r4 with h | ⟨h, _⟩
            · exact (hge _ hg).2 h
            · have := hgl5 _ hg; omega
          · simp at hg
            subst hg
            refine ⟨by omega, fun e => ?_⟩
            cases e
            rcases r4 with h | ⟨h, _⟩
            · have := hgfl _ h; omega
            · omega
        · intro g hg
          cases hg
          rcases r4 with h | ⟨h, _⟩
          · exact hGf _ h
          · omega
      case measure => simp [intOf]; omega
    · obtain rfl : j = nss.length := by omega
      obtain ⟨fa5, fn5, fc5⟩ := f
      simp only [SL.v_mk]
      have kf3 := (BK.out.below hb).free 3
      go_upto_region 10 with (fail)
      refine wp_gen (fun Y hY => ?_)
      have tY : Turn wr Y [w.heap.size] := by rw [hY]; exact Turn.set_ _ _ _ (by simp)
      have bY : Blk Y w.heap.size 39 (PK.mk port ⟨a1, l.length, c1⟩ ⟨a2, va.length, c2⟩ ⟨fa5, fn5, fc5⟩ ⟨a3, mt.length, c3⟩ dr se eg ac).cs := by rw [hY]; exact (BK.out.below hb).set_ 3 _
      have bZ : Blk Y (w.heap.size + 1) 39 zeroCs := tY.blk (BZ.out.below hb) (by simp)
      clear hY
      refine wp_region_doc (fun F' hF => ?_)
      have HF := hid hF
      clear hF
      refine doc_val rfl (load_agg_op _ _ _ _ _ _ _ _ Try.underlying39 (pk_size _ rfl) rfl bY) ?_
      simp only [Act.put, List.setIfInBounds_toArray, List.set_cons_zero, List.set_cons_succ]
      refine doc_skip rfl (store_row_op (xs := zeroCs) (ys := (PK.mk port ⟨a1, l.length, c1⟩ ⟨a2, va.length, c2⟩ ⟨fa5, fn5, fc5⟩ ⟨a3, mt.length, c3⟩ dr se eg ac).cs) _ _ _ _ _ _ _ _ _ (pk_size _ rfl) rfl (by simp [Value.oneCell']) rfl rfl bZ) ?_
      simp only [Act.put, List.setIfInBounds_toArray, List.set_cons_zero, List.set_cons_succ]
      refine doc_end (HF.out _ _ ?_)
      clear HF F'
      have b2 := bZ.row (PK.mk port ⟨a1, l.length, c1⟩ ⟨a2, va.length, c2⟩ ⟨fa5, fn5, fc5⟩ ⟨a3, mt.length, c3⟩ dr se eg ac).cs
      go_wp2
      refine bodyPost_ret (hpk_result rfl rfl b2 rfl) rfl ?_
      obtain ⟨U, hU⟩ : ∃ U, U = Y.setRow (w.heap.size + 1) (PK.mk port ⟨a1, l.length, c1⟩ ⟨a2, va.length, c2⟩ ⟨fa5, fn5, fc5⟩ ⟨a3, mt.length, c3⟩ dr se eg ac).cs.toArray := ⟨_, rfl⟩
      have tU : Turn wr U [w.heap.size, w.heap.size + 1] := by
        rw [hU]
        exact (tY.weak (by simp)).trans (Turn.row _ _ (by simp))
      have t3U : Turn X3 U [w.heap.size, w.heap.size + 1] := (Turn.of_below hb).trans tU
      have nin : ∀ g, X3.heap.size ≤ g ∨ (V.heap.size ≤ g) → g ∉ [w.heap.size, w.heap.size + 1] := fun g hg hm => by
        simp at hm; omega
      have hfl : fs.length = nss.length := by have h1 := congrArg List.length hfs; simpa using h1
      rw [List.take_length] at hfs
      refine ⟨⟨a1, l.length, c1⟩, ⟨a2, va.length, c2⟩, ⟨fa5, fn5, fc5⟩, ⟨a3, mt.length, c3⟩, fs, gs, Gr, Gv, Gm, Gf, rfl, ?_, hfs, ?_⟩
      · have h1 : Below w.heap.size w wr := hX3w.trans (hb.mono (by omega))
        have h2 := h1.trans (tU.below (fun q hq => by simp at hq; omega) h1.size)
        rw [hU] at h2
        exact h2
      · have hcopy : CopyIs w.heap.size U (PK.mk port ⟨a1, l.length, c1⟩ ⟨a2, va.length, c2⟩ ⟨fa5, fn5, fc5⟩ ⟨a3, mt.length, c3⟩ dr se eg ac) l va fs gs mt Gr Gv Gm Gf := by
          refine ⟨RowIs.turn q1 t3U (nin _ (.inr g1)), RowIs.turn q2 t3U (nin _ (.inr (by omega))), RowIs.turn q3' t3U (nin _ (.inr (by omega))), ?_, by rw [hfl]; exact hgl, ?_, hnd, ?_, ?_⟩
          · rw [hfl]
            exact RowIs.keep hrow (fun g hg => tU.block g (RowIs.lt hrow g hg) (nin g (.inl (hGf g hg))))
          · intro i x g hx hg
            exact RowIs.turn (heach i x g hx hg) tU (nin g (.inl (hge g (List.mem_of_getElem? hg)).1))
          · intro g hg
            have h1 := (hge g hg).1
            exact ⟨by omega, by omega, by omega, by omega, (hge g hg).2⟩
          · exact ⟨by omega, by omega, by omega, fun g hg => by have := hGf g hg; omega⟩
        rw [hU] at hcopy
        exact hcopy
end Go.Proofs.Ytkblldmpdihamaa
