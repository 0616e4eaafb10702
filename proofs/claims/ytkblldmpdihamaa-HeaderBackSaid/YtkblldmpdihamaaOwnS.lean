/-
  Package header: Set of a packet in memory of its own.
-/
import Derived.Test.YtkblldmpdihamaaOwnT
set_option linter.unusedVariables false
set_option linter.unusedSimpArgs false
namespace Go.Proofs.Ytkblldmpdihamaa
open Go.RowKit

section
variable {w w' : World} {p : PG} {hs : List (SL × List Int)} {b vb g h : Nat} {gs : List Nat} {k k' : PK} {l : List Nat} {va va' : List Bool} {nss nss' : List (List (BitVec 128))} {mt : List (BitVec 128)} {ns ns' : List (BitVec 128)} {v : Bool} {L : List Nat}
/-- A packet whose own blocks turn. -/
theorem PktIs.turn (T : PktIs w b vb gs k l va nss mt) (t : Turn w w' L) (hL : ∀ q ∈ L, q ∈ b :: vb :: gs) (hk : k'.rest = k.rest ∧ k'.valid = k.valid ∧ k'.fields = k.fields ∧ k'.metas = k.metas)
    (blk : Blk w' b 39 k'.cs) (hva : va'.length = va.length) (vblk : Blk w' vb 4 (bools va')) (hl : nss'.map List.length = nss.map List.length)
    (each : ∀ (i g : Nat) (ns : List (BitVec 128)), gs[i]? = some g → nss'[i]? = some ns → Blk w' g 45 (nums ns)) : PktIs w' b vb gs k' l va' nss' mt := by
  obtain ⟨h1, h2, h3, h4⟩ := hk
  have aw : ∀ {s : SL}, Away s (b :: vb :: gs) → Away s L := fun ha q off e hm => ha q off e (hL q hm)
  have hlen : nss'.length = nss.length := by have := congrArg List.length hl; simpa using this
  refine ⟨blk, by rw [h1]; exact t.rd T.rest (aw T.aRest), T.bytes, by rw [h2, hva]; exact T.valid, vblk, ?_, by rw [hlen]; exact T.len, each, by rw [h4]; exact t.rd T.metas (aw T.aMet), T.nodup, ?_, by rw [h1]; exact T.aRest, by rw [h3]; exact T.aRow, by rw [h4]; exact T.aMet⟩
  · rw [h3, fsOf_rows gs nss' nss hl]
    exact t.rd T.row (aw T.aRow)
  · refine ⟨by rw [hva]; exact T.few.1, by rw [hlen]; exact T.few.2.1, fun x hx => ?_, T.few.2.2.2⟩
    have hm : x.length ∈ nss.map List.length := by rw [← hl]; exact List.mem_map_of_mem hx
    obtain ⟨y, hy, e⟩ := List.mem_map.1 hm
    rw [← e]; exact T.few.2.2.1 y hy
theorem set_lengths (hns : nss[h]? = some ns) (hl : ns'.length = ns.length) : (nss.set h ns').map List.length = nss.map List.length := by
  rw [List.map_set]
  apply List.ext_getElem?
  intro i
  rw [List.getElem?_set]
  split
  · rename_i e
    subst e
    rw [List.getElem?_map, hns]
    have := (List.getElem?_eq_some_iff.1 hns).1
    simp [this, hl]
  · rfl
/-- One row of numbers turns. -/
theorem PktIs.numRow (T : PktIs w b vb gs k l va nss mt) (t : Turn w w' [g]) (hg : gs[h]? = some g) (hns : nss[h]? = some ns) (hl : ns'.length = ns.length) (bg : Blk w' g 45 (nums ns')) :
    PktIs w' b vb gs k l va (nss.set h ns') mt := by
  have hgm := T.mem hg
  have hnlt := (List.getElem?_eq_some_iff.1 hns).1
  refine T.turn t (fun q hq => by simp at hq; subst hq; simp [List.mem_of_getElem? hg]) ⟨rfl, rfl, rfl, rfl⟩ (t.blk T.blk (by simp; exact fun e => hgm.2.1 e.symm)) rfl (t.blk T.vblk (by simp; exact fun e => hgm.2.2 e.symm)) (set_lengths hns hl) (fun i g' ns' hg' hn' => ?_)
  rw [List.getElem?_set] at hn'
  by_cases e : h = i
  · subst e
    rw [if_pos rfl, if_pos hnlt] at hn'
    cases hn'
    rw [hg] at hg'
    cases hg'
    exact bg
  · rw [if_neg e] at hn'
    exact t.blk (T.each i g' ns' hg' hn') (by simp; exact fun q => e (T.inj hg (q ▸ hg')))
/-- The packet's own cells turn, but its slices. -/
theorem PktIs.own (T : PktIs w b vb gs k l va nss mt) (t : Turn w w' [b]) (hk : k'.rest = k.rest ∧ k'.valid = k.valid ∧ k'.fields = k.fields ∧ k'.metas = k.metas) (blk : Blk w' b 39 k'.cs) :
    PktIs w' b vb gs k' l va nss mt := by
  refine T.turn t (fun q hq => by simp at hq; subst hq; simp) hk blk rfl (t.blk T.vblk (by simp; exact fun e => T.bvb e.symm)) rfl (fun i g' ns' hg' hn' => t.blk (T.each i g' ns' hg' hn') (by simp; exact (T.mem hg').2.1))

/-- What Set finds: a field of a header. -/
structure SetIn (w : World) (p : PG) (hs : List (SL × List Int)) (b vb g h f : Nat) (gs : List Nat) (k : PK) (l : List Nat) (va : List Bool) (nss : List (List (BitVec 128))) (mt ns : List (BitVec 128)) (x : Int) (v : Bool) : Prop where
  pkt : PktIs w b vb gs k l va nss mt
  heads : HeadsAre w p.heads hs
  g_ : gs[h]? = some g
  ns_ : nss[h]? = some ns
  on : va[h]? = some v
  x_ : (headAt hs h).2[f]? = some x
  fn : f < ns.length
  hh : h < hs.length
  x63 : -9223372036854775808 ≤ x ∧ x ≤ 9223372036854775807
def SetPost (w : World) (b vb g h f : Nat) (gs : List Nat) (k : PK) (l : List Nat) (va : List Bool) (nss : List (List (BitVec 128))) (mt ns : List (BitVec 128)) (x : Int) (v : Bool) (n : BitVec 128) (e : Ending) (w' : World) : Prop :=
  e = .returned (.tuple #[]) ∧ ((v = true ∧ Turn w w' [g] ∧ PktIs w' b vb gs k l va (nss.set h (ns.set f (n &&& maskOf x))) mt) ∨ (v = false ∧ Turn w w' [b] ∧ PktIs w' b vb gs { k with access := true } l va nss mt))
set_option maxRecDepth 100000 in
set_option maxHeartbeats 4000000 in
theorem set_ok {f : Nat} {x : Int} (n : BitVec 128) (S : SetIn w p hs b vb g h f gs k l va nss mt ns x v) :
    Calls Try.prog 15 #[p.v, .pointer (some ⟨b, 0, none⟩), .int .i64 h, .int .i64 f, nv n] w (SetPost w b vb g h f gs k l va nss mt ns x v n) := by
  obtain ⟨T, H, hg, hns, hon, hx, hfn, hh, hx63⟩ := S
  have HT := hid T
  have HHd := hid H
  have hvlt := (List.getElem?_eq_some_iff.1 hon).1
  have hxl := (List.getElem?_eq_some_iff.1 hx).1
  have hxe := (List.getElem?_eq_some_iff.1 hx).2
  have hfl := T.frd.len
  have hfs := fsOf_length gs nss T.len
  have hnl := (List.getElem?_eq_some_iff.1 hns).1
  have hhl := H.len
  have hhas : hasB k (h : Int) = true := by
    unfold hasB
    rw [T.valid]
    simp; omega
  have HS := hid (fun V (hb : Below w.heap.size w V) => by have := has_any (HT.out.blk.below hb) (h : Int); rw [hhas] at this; exact this)
  have WD := hid (fun V (hb : Below w.heap.size w V) => widths_any (HHd.out.below hb) (h : Int))
  have CT := hid (fun V => cut_any n x hx63.1 hx63.2 V)
  obtain ⟨rb, ro, er, zr, _, cr⟩ := T.frd.row.one (i := h) (u := .slice (some ⟨g, 0, none⟩) ns.length ns.length) (by rw [List.getElem?_map, fsOf_at gs nss h g ns hg hns]; rfl)
  obtain ⟨pb, po, ep, zp, _, cp⟩ := H.row.one (i := h) (u := hs[h].1.v) (by simp [hh])
  have hA : headAt hs (h : Int) = hs[h] := by unfold headAt; rw [if_neg (by omega)]; simp [hh]
  have A := H.each hs[h] (List.getElem_mem _)
  have hwn := A.int
  rw [hA] at hxl WD
  have hxe' : hs[h].2[f] = x := by
    have h1 := hx
    rw [hA] at h1
    exact (List.getElem?_eq_some_iff.1 h1).2
  obtain ⟨qb, qo, eq, zq, cq⟩ := RdS.intAt A hxl
  rw [hxe'] at cq
  have hvalid := T.valid
  have cb2 := T.blk.cell 2
  have cb3 := T.blk.cell 3
  have cvh := T.vblk.cell h
  rw [show (bools va)[h]? = some (.bool v) by simp [bools, hon]] at cvh
  simp only [List.getElem?_cons_zero, List.getElem?_cons_succ] at cb2 cb3
  have zb := T.blk.lt
  have zvb := T.vblk.lt
  have bg := T.each h g ns hg hns
  have HG := hid (And.intro hg hns)
  clear T H hx hxe hA A hon hg hns hxe'
  generalize hs[h] = hd at *
  obtain ⟨⟨wa, wn, wc⟩, ws⟩ := hd
  simp only at hxl WD hwn eq cp
  subst hwn eq
  obtain ⟨port, rest, kv, ⟨fa, fn, fc⟩, metas, dr, se, eg, ac⟩ := k
  simp only at hvalid hfl er cb2 cb3
  subst hvalid er
  simp only [SL.v_mk] at cb2 cb3
  obtain ⟨⟨pa, pn, pc⟩, pm, s2, s3, s4, s5, em, n0, n1, n2, n3, n4⟩ := p
  simp only at hhl ep
  subst hhl ep
  have hfn2 : fn = nss.length := by omega
  subst hfn2
  have k1 : (h : Int) < (va.length : Int) := by omega
  have k2 : (h : Int) < (nss.length : Int) := by omega
  have k3 : (f : Int) < (ns.length : Int) := by omega
  have k4 : (f : Int) < (ws.length : Int) := by omega
  have k5 : (h : Int) < (hs.length : Int) := by omega
  have k6 : ¬ (ns.length : Int) ≤ (f : Int) := by omega
  have k7 : ¬ (ws.length : Int) ≤ (f : Int) := by omega
  have k8 : ¬ (f : Int) < 0 := by omega
  clear hfl hfs hnl hhas hvlt hxl
  go_enter Try.func15, Try.ntmps15
  go_upto_region 1 with (fail)
  refine wp_gen (fun V hV => ?_)
  have hbV : Below w.heap.size w V := by rw [hV]; (repeat' (first | (with_reducible exact Below.refl _ _) | (with_reducible refine Below.ext_mk ?_ ?_ _ _) | (with_reducible refine Below.alloc ?_ ?_ _) | (with_reducible refine Below.drew ?_) | (with_reducible refine Below.setCell ?_ ?_ _) | go_size))
  have bp : Blk V w.heap.size 33 [.slice (some ⟨pb, po, none⟩) hs.length pc, pm.v, s2.v, s3.v, s4.v, s5.v, em.v, n0.v, n1.v, n2.v, n3.v, n4.v] := by
    rw [hV]
    exact (Blk.new w 33 [.slice (some ⟨pb, po, none⟩) hs.length pc, pm.v, s2.v, s3.v, s4.v, s5.v, em.v, n0.v, n1.v, n2.v, n3.v, n4.v]).below (by repeat (first | exact Below.refl _ _ | refine Below.alloc ?_ (by simp; try omega) _))
  have bn : Blk V (w.heap.size + 1) 45 [.int .u64 (hi n), .int .u64 (lo n)] := by
    rw [hV]
    have h := Blk.new (w.alloc (.cells [.slice (some ⟨pb, po, none⟩) hs.length pc, pm.v, s2.v, s3.v, s4.v, s5.v, em.v, n0.v, n1.v, n2.v, n3.v, n4.v].toArray 33)) 45 [.int .u64 (hi n), .int .u64 (lo n)]
    simp only [World.size_alloc] at h
    exact h
  clear hV
  have vb2 := (hbV.cell (p := ⟨b, 2, none⟩) zb).trans cb2
  have vb3 := (hbV.cell (p := ⟨b, 3, none⟩) zb).trans cb3
  have vrh := (hbV.cell (p := ⟨rb, ro + h, none⟩) zr).trans cr
  have yb : b < V.heap.size := by have := hbV.size; omega
  have yr : rb < V.heap.size := by have := hbV.size; omega
  have BP := hid bp
  have BN := hid bn
  clear bp bn
  have hbs := hbV.size
  refine wp_region_doc (fun F hF => ?_)
  have HF := hid hF
  clear hF
  iterate 2 (refine doc_val rfl (by first | (go_simp; done) | (go_simp; exact ⟨rfl, rfl⟩) | (go_simp; with_reducible rfl)) ?_; simp only [Act.put, List.setIfInBounds_toArray, List.set_cons_zero, List.set_cons_succ])
  refine doc_call rfl (by first | (go_simp; done) | (go_simp; exact ⟨rfl, rfl⟩) | (go_simp; with_reducible rfl)) (Calls.mono (HS.out _ (by (repeat' (first | (with_reducible exact hbV) | (with_reducible exact Below.refl _ _) | (with_reducible refine Below.ext_mk ?_ ?_ _ _) | (with_reducible refine Below.alloc ?_ ?_ _) | (with_reducible refine Below.drew ?_) | (with_reducible refine Below.setCell ?_ ?_ _) | go_size)))) ?_)
  rintro _ _ ⟨rfl, mz, dz, rfl⟩
  refine ⟨_, rfl, ?_⟩
  simp only [Act.put, List.setIfInBounds_toArray, List.set_cons_zero, List.set_cons_succ]
  iterate 19 (refine doc_val rfl (by first | (go_simp; done) | (go_simp; exact ⟨rfl, rfl⟩) | (go_simp; with_reducible rfl)) ?_; simp only [Act.put, List.setIfInBounds_toArray, List.set_cons_zero, List.set_cons_succ])
  refine doc_val rfl (load_agg_op _ _ _ _ _ _ _ _ Try.underlying33 (prog_size _ rfl) rfl (BP.out.below (by first | exact Below.ext_mk (Below.refl _ _) (Nat.le_refl _) _ _ | (repeat' (first | (with_reducible exact Below.refl _ _) | (with_reducible refine Below.ext_mk ?_ ?_ _ _) | (with_reducible refine Below.alloc ?_ ?_ _) | (with_reducible refine Below.drew ?_) | (with_reducible refine Below.setCell ?_ ?_ _) | go_size))))) ?_
  simp only [Act.put, List.setIfInBounds_toArray, List.set_cons_zero, List.set_cons_succ]
  iterate 1 (refine doc_val rfl (by first | (go_simp; done) | (go_simp; exact ⟨rfl, rfl⟩) | (go_simp; with_reducible rfl)) ?_; simp only [Act.put, List.setIfInBounds_toArray, List.set_cons_zero, List.set_cons_succ])
  refine doc_call rfl (by first | (go_simp; done) | (go_simp; exact ⟨rfl, rfl⟩) | (go_simp; with_reducible rfl)) (Calls.mono (WD.out _ (by (repeat' (first | (with_reducible exact hbV) | (with_reducible exact Below.refl _ _) | (with_reducible refine Below.ext_mk ?_ ?_ _ _) | (with_reducible refine Below.alloc ?_ ?_ _) | (with_reducible refine Below.drew ?_) | (with_reducible refine Below.setCell ?_ ?_ _) | go_size)))) ?_)
  rintro _ _ ⟨rfl, mz, dz, rfl⟩
  refine ⟨_, rfl, ?_⟩
  simp only [Act.put, List.setIfInBounds_toArray, List.set_cons_zero, List.set_cons_succ]
  iterate 3 (refine doc_val rfl (by first | (go_simp; done) | (go_simp; exact ⟨rfl, rfl⟩) | (go_simp; with_reducible rfl)) ?_; simp only [Act.put, List.setIfInBounds_toArray, List.set_cons_zero, List.set_cons_succ])
  refine doc_end (HF.out _ _ ?_)
  clear HF F
  go_upto_region 2 with (fail)
  refine wp_gen (fun X hX => ?_)
  have hbVX : Below V.heap.size V X := by rw [hX]; exact Below.ext_mk (Below.refl _ _) (Nat.le_refl _) _ _
  have hbX : Below w.heap.size w X := hbV.trans (hbVX.mono hbs)
  clear hX
  have xb2 := (hbX.cell (p := ⟨b, 2, none⟩) zb).trans cb2
  have xb3 := (hbX.cell (p := ⟨b, 3, none⟩) zb).trans cb3
  have xvh := (hbX.cell (p := ⟨vb, h, none⟩) zvb).trans cvh
  have xrh := (hbX.cell (p := ⟨rb, ro + h, none⟩) zr).trans cr
  have xph := (hbX.cell (p := ⟨pb, po + h, none⟩) zp).trans cp
  have xqf := (hbX.cell (p := ⟨qb, qo + f, none⟩) zq).trans cq
  have hXs := hbX.size
  have ub : b < X.heap.size := by omega
  have uvb : vb < X.heap.size := by omega
  have ur : rb < X.heap.size := by omega
  have up : pb < X.heap.size := by omega
  have uq : qb < X.heap.size := by omega
  have BPX := hid (BP.out.below hbVX)
  have BNX := hid (BN.out.below hbVX)
  have c0 := BPX.out.cell 0
  have d0 := BNX.out.cell 0
  have d1 := BNX.out.cell 1
  simp only [List.getElem?_cons_zero, List.getElem?_cons_succ] at c0 d0 d1
  have u0 := BPX.out.lt
  have u1 := BNX.out.lt
  have TX := hid (HT.out.below hbX)
  clear vb2 vb3 vrh yb yr cb2 cb3 cvh cr cp cq BP BN
  cases v
  · have xb8 := TX.out.blk.cell 8
    have xf8 := TX.out.blk.free 8
    simp only [List.getElem?_cons_zero, List.getElem?_cons_succ] at xb8
    go_wp2_with fail
    go_returns
    refine ⟨rfl, .inr ⟨rfl, ?_, ?_⟩⟩
    · exact (Turn.of_below hbX).trans (Turn.set_ b 8 _ (by simp))
    · exact TX.out.own (Turn.set_ b 8 _ (by simp)) ⟨rfl, rfl, rfl, rfl⟩ (TX.out.blk.set_ 8 (.bool true))
  · go_upto_region 4 with (fail)
    refine wp_region_store 19 (by kernel_rfl) (by kernel_rfl) (by kernel_rfl) rfl (fun F' hF' G' hG' => ?_)
    simp only [List.take_succ_cons, List.take_zero, List.drop_succ_cons, List.drop_zero] at hG' ⊢
    have HF := hid hF'
    clear hF'
    have HGG := hid hG'
    clear hG'
    repeat (first
      | (apply text_val; (focus rfl); (focus (intro _ _; go_simp; with_reducible rfl)); simp only [Act.put, List.setIfInBounds_toArray, List.set_cons_zero, List.set_cons_succ])
      | (apply text_call; (focus rfl); (focus (intro _ _; go_simp; exact ⟨rfl, rfl⟩)); (focus (intro _ _; with_reducible (exact CT.out _))); simp only [Act.put, List.setIfInBounds_toArray, List.set_cons_zero, List.set_cons_succ]))
    refine text_nil (HGG.out _ ?_)
    clear HGG G'
    have bgX : Blk X g 45 (nums ns) := TX.out.each h g ns HG.out.1 HG.out.2
    have zg := bgX.lt
    have hjl : f * 2 + 1 < (nums ns).length := by rw [nums_length]; omega
    apply store_step (W2 := (X.setCell ⟨g, f * 2, none⟩ (.int .u64 (hi (n &&& maskOf x)))).setCell ⟨g, f * 2 + 1, none⟩ (.int .u64 (lo (n &&& maskOf x))))
    · rfl
    · intro m d
      refine ⟨m, d, (store_num_at _ _ _ _ _ _ _ _ rfl rfl (bgX.ext m d) hjl).trans ?_⟩
      simp [zg]
    refine both_nil (HF.out _ _ (fun m9 d9 => ?_))
    clear HF F'
    go_wp2_with fail
    go_returns
    have t1 : Turn X (((X.setCell ⟨g, f * 2, none⟩ (.int .u64 (hi (n &&& maskOf x)))).setCell ⟨g, f * 2 + 1, none⟩ (.int .u64 (lo (n &&& maskOf x)))).ext m9 d9) [g] :=
      (Turn.set_ g _ _ (by simp)).trans ((Turn.set_ g _ _ (by simp)).trans (Turn.of_below (Below.ext_mk (Below.refl _ _) (Nat.le_refl _) _ _)))
    refine ⟨rfl, .inl ⟨rfl, (Turn.of_below hbX).trans t1, ?_⟩⟩
    refine TX.out.numRow t1 HG.out.1 HG.out.2 (by simp) ?_
    rw [nums_set]
    exact ((bgX.set_ _ _).set_ _ _).ext _ _
end
end Go.Proofs.Ytkblldmpdihamaa
