/-
  A packet that was just made is in memory of its own.
-/
import Derived.Test.YtkblldmpdihamaaBackP
set_option linter.unusedVariables false
set_option linter.unusedSimpArgs false
namespace Go.Proofs.Ytkblldmpdihamaa
open Go.RowKit

def zeroRows (ws : List Nat) : List (List (BitVec 128)) := ws.map fun n => List.replicate n 0#128
theorem rowsOf_fsOf (ws gs : List Nat) (hl : gs.length = ws.length) : rowsOf ws gs = (fsOf gs (zeroRows ws)).map (fun x => x.1.v) := by
  have hlz : gs.length = (zeroRows ws).length := by simp [zeroRows, hl]
  apply List.ext_getElem?
  intro i
  by_cases hi : i < gs.length
  · have hz : (zeroRows ws)[i]? = some (List.replicate (ws.getD i 0) 0#128) := by
      have hw : i < ws.length := by omega
      simp [zeroRows, hw]
    rw [List.getElem?_map, fsOf_at gs (zeroRows ws) i gs[i] _ (List.getElem?_eq_getElem hi) hz]
    unfold rowsOf
    simp [hi]
  · rw [List.getElem?_eq_none (by unfold rowsOf; simp; omega), List.getElem?_eq_none (by rw [List.length_map, fsOf_length gs _ hlz]; omega)]
theorem PktIs.of_new {B : Nat} {w2 X : World} {port : Int} {r fv : SL} {vb mb b : Nat} {G : Option Nat} {gs : List Nat} {l ws : List Nat} {mn : Nat} (hX : Below w2.heap.size w2 X) (hb : w2.heap.size ≤ b)
    (bk : Blk X b 39 (PK.mk port r ⟨some ⟨vb, 0, none⟩, ws.length, ws.length⟩ fv ⟨some ⟨mb, 0, none⟩, mn, mn⟩ false false 0 false).cs)
    (nR : RdS w2 1 r (byts l)) (nF : Fresh B r) (nLt : Lt w2 r) (nVM : vb ≠ mb) (nRV : Away r [vb]) (nVg : vb ∉ gs) (nGV : G ≠ some vb) (nRg : Away r gs)
    (nbV : Blk w2 vb 4 (bools (List.replicate ws.length false))) (nbM : Blk w2 mb 45 (nums (List.replicate mn 0#128))) (nL : gs.length = ws.length) (nRow : RowIs w2 fv.v G 37 1 ws.length (rowsOf ws gs))
    (nEach : ∀ i g, gs[i]? = some g → B ≤ g ∧ Blk w2 g 45 (nums (List.replicate (ws.getD i 0) 0#128))) (nNd : gs.Nodup) (nG : ∀ g, G = some g → B ≤ g ∧ g ∉ gs) (nMg : mb ∉ gs)
    (hbytes : ∀ x ∈ l, x < 256) (few : ws.length ≤ 1000000 ∧ (∀ n ∈ ws, n ≤ 1000000) ∧ l.length ≤ 100000 ∧ mn ≤ 1000000) :
    PktIs X b vb gs (PK.mk port r ⟨some ⟨vb, 0, none⟩, ws.length, ws.length⟩ fv ⟨some ⟨mb, 0, none⟩, mn, mn⟩ false false 0 false) l (List.replicate ws.length false) (zeroRows ws) (List.replicate mn 0#128) := by
  have hz : (zeroRows ws).length = ws.length := by simp [zeroRows]
  have gz : ∀ g ∈ gs, g < w2.heap.size := fun g hg => by
    obtain ⟨i, hi⟩ := List.getElem?_of_mem hg
    exact (nEach i g hi).2.lt
  have vz := nbV.lt
  have mz := nbM.lt
  obtain ⟨fR, _, fA⟩ := RowIs.rdS nRow
  refine ⟨bk, nR.below hX, hbytes, by rw [List.length_replicate], nbV.below hX, by rw [← rowsOf_fsOf ws gs nL]; exact fR.below hX, by rw [hz]; exact nL, ?_, ?_, ?_, ?_, ?_, ?_, ?_⟩
  · intro i g ns hg hn
    have h := (nEach i g hg).2.below hX
    have hw : i < ws.length := by have := (List.getElem?_eq_some_iff.1 hg).1; omega
    have e : ns = List.replicate (ws.getD i 0) 0#128 := by
      simp [zeroRows, hw] at hn
      rw [← hn]; simp [hw]
    rw [e]; exact h
  · exact Blk.rdS (nbM.below hX) (by rw [nums_length]; simp) few.2.2.2
  · simp only [List.nodup_cons, List.mem_cons, not_or]
    exact ⟨⟨by omega, fun hm => by have := gz b hm; omega⟩, nVg, nNd⟩
  · refine ⟨by rw [List.length_replicate]; exact few.1, by rw [hz]; exact few.1, fun ns hn => ?_, few.2.2.1⟩
    unfold zeroRows at hn
    rw [List.mem_map] at hn
    obtain ⟨n, hn, rfl⟩ := hn
    rw [List.length_replicate]; exact few.2.1 n hn
  · intro q off e hm
    simp only [List.mem_cons] at hm
    rcases hm with hm | hm | hm
    · have := nLt q off e; omega
    · exact nRV q off e (by simp [hm])
    · exact nRg q off e hm
  · intro q off e hm
    have hG := fA q off e
    simp only [List.mem_cons] at hm
    rcases hm with hm | hm | hm
    · have := RowIs.lt nRow q hG; omega
    · exact nGV (by rw [hG, hm])
    · exact (nG q hG).2 hm
  · intro q off e hm
    have e' : q = mb := by
      have : (⟨mb, 0, none⟩ : Addr) = ⟨q, off, none⟩ := Option.some.inj e
      injection this with e1; exact e1.symm
    subst e'
    simp only [List.mem_cons] at hm
    rcases hm with hm | hm | hm
    · omega
    · exact nVM hm.symm
    · exact nMg hm
-- the bits that are emitted
theorem emT_congr {hs : List (SL × List Int)} {va va' : List Bool} {fs fs' : List (SL × List (BitVec 128))} {es es' : List Int} : ∀ m, (∀ i, i < m → hBits hs va fs (es.getD i 0) = hBits hs va' fs' (es'.getD i 0)) → emT hs va fs es m = emT hs va' fs' es' m
  | 0, _ => rfl
  | m + 1, h => by rw [emT, emT, emT_congr m (fun i hi => h i (by omega)), h m (by omega)]
/-- Header by header: what is emitted, when one header more was taken. -/
theorem emT_take {hs : List (SL × List Int)} {va : List Bool} {gs : List Nat} {nss : List (List (BitVec 128))} {es : List Int} {j kk : Nat} {bs : List Nat} {x : SL × List Int} (hx : hs[j]? = some x) (hok : HOk x.2)
    (hva : va.length = hs.length) (hn : nss.length = hs.length) (hg : gs.length = nss.length) (hes : ∀ e ∈ es, 0 ≤ e ∧ e < (j : Int)) (hem : emT hs va (fsOf gs nss) es es.length = bitsFrom bs 0 (8 * kk)) :
    emT hs (va.set j true) (fsOf gs (nss.set j (takeN (bs.drop kk) 0 x.2))) (es ++ [(j : Int)]) (es ++ [(j : Int)]).length = bitsFrom bs 0 (8 * (kk + (x.2.sum / 8).toNat)) := by
  have hj : j < hs.length := (List.getElem?_eq_some_iff.1 hx).1
  have hgl : ∀ nss' : List (List (BitVec 128)), nss'.length = nss.length → (fsOf gs nss').length = nss.length := fun nss' h => by rw [fsOf_length gs nss' (by omega), h]
  rw [show (es ++ [(j : Int)]).length = es.length + 1 by simp, emT]
  have h1 : emT hs (va.set j true) (fsOf gs (nss.set j (takeN (bs.drop kk) 0 x.2))) (es ++ [(j : Int)]) es.length = emT hs va (fsOf gs nss) es es.length := by
    apply emT_congr
    intro i hi
    have he : (es ++ [(j : Int)]).getD i 0 = es.getD i 0 := by simp [List.getD_eq_getElem?_getD, List.getElem?_append_left hi]
    rw [he]
    have hm := hes (es.getD i 0) (by rw [List.getD_eq_getElem?_getD, List.getElem?_eq_getElem hi]; exact List.getElem_mem _)
    generalize es.getD i 0 = e at *
    unfold hBits
    have hne : j ≠ e.toNat := by omega
    have e1 : (va.set j true).getD e.toNat false = va.getD e.toNat false := by simp [List.getD_eq_getElem?_getD, List.getElem?_set_ne hne]
    have hel : e.toNat < gs.length := by omega
    have hel2 : e.toNat < nss.length := by omega
    have e2 : (fsOf gs (nss.set j (takeN (bs.drop kk) 0 x.2))).getD e.toNat (slNil, []) = (fsOf gs nss).getD e.toNat (slNil, []) := by
      rw [List.getD_eq_getElem?_getD, List.getD_eq_getElem?_getD, fsOf_at gs nss e.toNat gs[e.toNat] nss[e.toNat] (List.getElem?_eq_getElem hel) (List.getElem?_eq_getElem hel2),
        fsOf_at gs (nss.set j (takeN (bs.drop kk) 0 x.2)) e.toNat gs[e.toNat] nss[e.toNat] (List.getElem?_eq_getElem hel) (by rw [List.getElem?_set_ne hne]; exact List.getElem?_eq_getElem hel2)]
    rw [e1, e2, List.length_set, hgl _ (by simp), hgl nss rfl]
  rw [h1, hem]
  have he : (es ++ [(j : Int)]).getD es.length 0 = (j : Int) := by simp [List.getD_eq_getElem?_getD]
  rw [he]
  have hjg : j < gs.length := by omega
  have hA : headAt hs (j : Int) = x := by unfold headAt; rw [if_neg (by omega)]; simp [hx]
  have h2 : hBits hs (va.set j true) (fsOf gs (nss.set j (takeN (bs.drop kk) 0 x.2))) (j : Int) = fbT (takeN (bs.drop kk) 0 x.2) x.2 x.2.length := by
    unfold hBits
    rw [if_pos ⟨by omega, by rw [List.length_set, Int.toNat_natCast]; omega, by rw [hgl _ (by simp), Int.toNat_natCast]; omega, by rw [Int.toNat_natCast]; simp [List.getD_eq_getElem?_getD, show j < va.length by omega]⟩, hA, Int.toNat_natCast]
    rw [List.getD_eq_getElem?_getD, fsOf_at gs (nss.set j (takeN (bs.drop kk) 0 x.2)) j gs[j] (takeN (bs.drop kk) 0 x.2) (List.getElem?_eq_getElem hjg) (by simp [show j < nss.length by omega])]
    rfl
  have hr := wok_range hok.ok
  rw [h2, fbT_take _ _ hr _ (Nat.le_refl _), List.take_length, bitsFrom_drop]
  have hw := hok.whole
  have hs0 := (wok_sum hok.ok).1
  rw [show 8 * (kk + (x.2.sum / 8).toNat) = 8 * kk + x.2.sum.toNat by omega, bitsFrom_add, Nat.zero_add]
theorem int_info_some : (Try.prog.info? 3).isSome = true := by kernel_rfl
noncomputable abbrev infoIn : TypeInfo := (Try.prog.info? 3).get int_info_some
theorem infoIn_is : Try.prog.info? 3 = some infoIn := (Option.some_get _).symm
theorem infoIn_zero : infoIn.zero = some (.int .i64 0) := by kernel_rfl
theorem infoIn_size : infoIn.size = 1 := by kernel_rfl
theorem infoIn_bytes : infoIn.bytes = 8 := by kernel_rfl
abbrev progCs (p : PG) (e : SL) : List Value := [p.heads.v, p.metas.v, p.steps.v, p.acts.v, p.tabs.v, p.control.v, e.v, p.n0.v, p.n1.v, p.n2.v, p.n3.v, p.n4.v]
/-- What holds when the first headers were tried. -/
structure BackI (w U wr : World) (w0 b vb : Nat) (gs : List Nat) (p : PG) (hs : List (SL × List Int)) (bs : List Nat) (n : BitVec 128) (mt : List (BitVec 128)) (j : Nat) (k : PK) (l : List Nat) (va : List Bool) (nss : List (List (BitVec 128))) (e : SL) (Ge : Option Nat) (es : List Int) (kk : Nat) : Prop where
  below : Below w0 w wr
  size : U.heap.size ≤ wr.heap.size
  prog : Blk wr w0 33 (progCs p e)
  num : Blk wr (w0 + 1) 45 [.int .u64 (hi n), .int .u64 (lo n)]
  pkt : PktIs wr b vb gs k l va nss mt
  row : RowIs wr e.v Ge 3 1 es.length (ints es)
  ge : ∀ g, Ge = some g → U.heap.size ≤ g ∧ g ∉ b :: vb :: gs
  l_ : l = bs.drop kk
  kk_ : kk ≤ bs.length
  em : emT hs va (fsOf gs nss) es es.length = bitsFrom bs 0 (8 * kk)
  hva : va.length = hs.length
  hn : nss.length = hs.length
  each : ∀ (i : Nat) (x : SL × List Int), hs[i]? = some x → ∃ (ns : List (BitVec 128)) (v : Bool), nss[i]? = some ns ∧ va[i]? = some v ∧ ns.length = x.2.length ∧ fitsL ns x.2 v = true ∧ (j ≤ i → v = false)
  es_ : ∀ e ∈ es, 0 ≤ e ∧ e < (j : Int)
  esl : es.length ≤ j
  acc : k.access = false
  far : Away k.rest [w0] ∧ Away k.fields [w0] ∧ Away k.metas [w0]
  lt : Lt U k.fields ∧ Lt U k.metas
section
variable {w U wr Z : World} {w0 b vb g : Nat} {gs : List Nat} {p : PG} {hs : List (SL × List Int)} {bs : List Nat} {n : BitVec 128} {mt : List (BitVec 128)} {j : Nat} {k k' : PK} {l : List Nat} {va : List Bool} {nss : List (List (BitVec 128))} {e e' : SL} {Ge Ge' : Option Nat} {es : List Int} {kk : Nat}
/-- A packet when a block turns that is none of its own. -/
theorem PktIs.other {w w' : World} {q : Nat} {l : List Nat} (T : PktIs w b vb gs k l va nss mt) (t : Turn w w' [q]) (hq : q ∉ b :: vb :: gs) (far : Away k.rest [q] ∧ Away k.fields [q] ∧ Away k.metas [q]) : PktIs w' b vb gs k l va nss mt := by
  simp only [List.mem_cons, not_or] at hq
  refine ⟨t.blk T.blk (by simp; exact fun e => hq.1 e.symm), t.rd T.rest far.1, T.bytes, T.valid, t.blk T.vblk (by simp; exact fun e => hq.2.1 e.symm), t.rd T.row far.2.1, T.len, fun i g ns hg hn => t.blk (T.each i g ns hg hn) (by simp; exact fun e => hq.2.2 (e ▸ List.mem_of_getElem? hg)), t.rd T.metas far.2.2, T.nodup, T.few, T.aRest, T.aRow, T.aMet⟩
theorem grown_turn {w w' : World} {row : Option Nat} {q : Nat} (h : w.grownBy w' row) (hr : ∀ g, row = some g → g = q) : Turn w w' [q] := by
  obtain ⟨h1, h2, h3, h4, h5⟩ := h
  exact ⟨h1, h2, h3, h4, fun k hk hn => h5 k hk (fun e => hn (by simp [hr k e.symm]))⟩
theorem BackI.none (h : BackI w U wr w0 b vb gs p hs bs n mt j k l va nss e Ge es kk) (hb : Below wr.heap.size wr Z) (hw : w0 ≤ wr.heap.size) : BackI w U Z w0 b vb gs p hs bs n mt (j + 1) k l va nss e Ge es kk :=
  ⟨h.below.trans (hb.mono hw), Nat.le_trans h.size hb.size, h.prog.below hb, h.num.below hb, h.pkt.below hb, RowIs.keep h.row (fun g hg => hb.block g (RowIs.lt h.row g hg)), h.ge, h.l_, h.kk_, h.em, h.hva, h.hn, fun i x hx => by
    obtain ⟨ns, v, h1, h2, h3, h4, h5⟩ := h.each i x hx
    exact ⟨ns, v, h1, h2, h3, h4, fun hi => h5 (by omega)⟩, (fun y hy => by have := h.es_ y hy; omega), by have := h.esl; omega, h.acc, h.far, h.lt⟩
theorem BackI.took (h : BackI w U wr w0 b vb gs p hs bs n mt j k l va nss e Ge es kk) {x : SL × List Int} (hx : hs[j]? = some x) (hok : HOk x.2) (hle : x.2.sum / 8 ≤ (l.length : Int)) (hbl : Below w0 w Z) (hsz : U.heap.size ≤ Z.heap.size)
    (hprog : Blk Z w0 33 (progCs p e')) (hnum : Blk Z (w0 + 1) 45 [.int .u64 (hi n), .int .u64 (lo n)]) (hk : k'.access = k.access)
    (hpkt : PktIs Z b vb gs k' (l.drop (x.2.sum / 8).toNat) (va.set j true) (nss.set j (takeN l 0 x.2)) mt) (hrow : RowIs Z e'.v Ge' 3 1 (es ++ [(j : Int)]).length (ints (es ++ [(j : Int)])))
    (hge : ∀ g, Ge' = some g → U.heap.size ≤ g ∧ g ∉ b :: vb :: gs) (hfar : Away k'.rest [w0] ∧ Away k'.fields [w0] ∧ Away k'.metas [w0]) (hlt : Lt U k'.fields ∧ Lt U k'.metas) :
    BackI w U Z w0 b vb gs p hs bs n mt (j + 1) k' (l.drop (x.2.sum / 8).toNat) (va.set j true) (nss.set j (takeN l 0 x.2)) e' Ge' (es ++ [(j : Int)]) (kk + (x.2.sum / 8).toNat) := by
  have hl := h.l_
  have hkl := h.kk_
  have hj : j < hs.length := (List.getElem?_eq_some_iff.1 hx).1
  have hs0 := (wok_sum hok.ok).1
  have hll : l.length = bs.length - kk := by rw [hl, List.length_drop]
  refine ⟨hbl, hsz, hprog, hnum, hpkt, hrow, hge, by rw [hl, List.drop_drop], by omega, ?_, by rw [List.length_set]; exact h.hva, by rw [List.length_set]; exact h.hn, ?_, ?_, by have := h.esl; simp; omega, by rw [hk]; exact h.acc, hfar, hlt⟩
  · rw [hl]
    exact emT_take hx hok h.hva h.hn h.pkt.len h.es_ h.em
  · intro i y hy
    by_cases e : j = i
    · subst e
      rw [hx] at hy
      cases hy
      refine ⟨takeN l 0 x.2, true, by simp [show j < nss.length by rw [h.hn]; omega], by simp [show j < va.length by rw [h.hva]; omega], takeN_length l x.2 0, fitsL_take l x.2 0 (wok_range hok.ok), fun hi => by omega⟩
    · obtain ⟨ns, v, h1, h2, h3, h4, h5⟩ := h.each i y hy
      exact ⟨ns, v, by rw [List.getElem?_set_ne e]; exact h1, by rw [List.getElem?_set_ne e]; exact h2, h3, h4, fun hi => h5 (by omega)⟩
  · intro y hy
    rw [List.mem_append] at hy
    rcases hy with hy | hy
    · have := h.es_ y hy; omega
    · simp at hy; subst hy; omega
theorem allF_true : ∀ (fs : List (SL × List (BitVec 128))) (hs : List (SL × List Int)) (va : List Bool), (∀ (i : Nat) (f : SL × List (BitVec 128)) (x : SL × List Int) (v : Bool), fs[i]? = some f → hs[i]? = some x → va[i]? = some v → fitsL f.2 x.2 v = true) → allF fs hs va = true
  | [], _, _, _ => rfl
  | _ :: _, [], _, _ => rfl
  | _ :: _, _ :: _, [], _ => rfl
  | f :: fs, x :: hs, v :: va, h => by
    rw [allF, h 0 f x v rfl rfl rfl, allF_true fs hs va (fun i f' x' v' h1 h2 h3 => h (i + 1) f' x' v' (by simpa using h1) (by simpa using h2) (by simpa using h3))]
    rfl
theorem fits_true {ms : List Int} (hva : va.length = hs.length) (hn : nss.length = hs.length) (hg : gs.length = nss.length) (each : ∀ (i : Nat) (x : SL × List Int), hs[i]? = some x → ∃ (ns : List (BitVec 128)) (v : Bool), nss[i]? = some ns ∧ va[i]? = some v ∧ fitsL ns x.2 v = true) :
    hfitsV hs ms va (fsOf gs nss) (List.replicate ms.length 0#128) = true := by
  unfold hfitsV
  rw [fitsL_zeros true ms, allF_true _ _ _ (fun i f x v h1 h2 h3 => by
    obtain ⟨ns, v', q1, q2, q3⟩ := each i x h2
    have hi : i < gs.length := by have := (List.getElem?_eq_some_iff.1 h2).1; omega
    rw [fsOf_at gs nss i gs[i] ns (List.getElem?_eq_getElem hi) q1] at h1
    cases h1
    rw [q2] at h3
    cases h3
    exact q3)]
  simp [hva, fsOf_length gs nss hg, hn]
end
theorem fsOf_snd : ∀ (gs : List Nat) (nss : List (List (BitVec 128))), gs.length = nss.length → (fsOf gs nss).map (fun x => x.2) = nss
  | [], [], _ => rfl
  | g :: gs, ns :: nss, h => by rw [fsOf, List.map_cons, fsOf_snd gs nss (by simpa using h)]
  | [], _ :: _, h => by simp at h
  | _ :: _, [], h => by simp at h
theorem CopyIs.keep {B : Nat} {w w' : World} {k : PK} {l : List Nat} {va : List Bool} {fs : NumRows} {gs : List Nat} {mt : List (BitVec 128)} {Gr Gv Gm : Nat} {Gf : Option Nat} (h : CopyIs B w k l va fs gs mt Gr Gv Gm Gf)
    (hk : ∀ g, g < w.heap.size → B ≤ g → w'.heap[g]? = w.heap[g]?) : CopyIs B w' k l va fs gs mt Gr Gv Gm Gf := by
  refine ⟨RowIs.keep h.rest (fun g hg => ?_), RowIs.keep h.valid (fun g hg => ?_), RowIs.keep h.metas (fun g hg => ?_), RowIs.keep h.row (fun g hg => hk g (RowIs.lt h.row g hg) (h.ge2.2.2.2 g hg)), h.len, fun i x g hx hg => RowIs.keep (h.each i x g hx hg) (fun g' hg' => ?_), h.nodup, h.ge, h.ge2⟩
  · cases hg; exact hk _ (RowIs.lt h.rest _ rfl) h.ge2.1
  · cases hg; exact hk _ (RowIs.lt h.valid _ rfl) h.ge2.2.1
  · cases hg; exact hk _ (RowIs.lt h.metas _ rfl) h.ge2.2.2.1
  · cases hg'; exact hk _ (RowIs.lt (h.each i x _ hx hg) _ rfl) (h.ge _ (List.mem_of_getElem? hg)).1
theorem CopyIs.below {B : Nat} {w w' : World} {k : PK} {l : List Nat} {va : List Bool} {fs : NumRows} {gs : List Nat} {mt : List (BitVec 128)} {Gr Gv Gm : Nat} {Gf : Option Nat} (h : CopyIs B w k l va fs gs mt Gr Gv Gm Gf) (hb : Below w.heap.size w w') : CopyIs B w' k l va fs gs mt Gr Gv Gm Gf :=
  h.keep (fun g hg _ => hb.block g hg)
/-- A number is stored in a row of numbers. -/
theorem RowIs.setNum {w : World} {sv : Value} {g n i : Nat} {ns : List (BitVec 128)} (m : BitVec 128) (h : RowIs w sv (some g) 45 2 n (nums ns)) (hi : i < ns.length) :
    RowIs ((w.setCell ⟨g, i * 2, none⟩ (.int .u64 (Go.hi m))).setCell ⟨g, i * 2 + 1, none⟩ (.int .u64 (lo m))) sv (some g) 45 2 n (nums (ns.set i m)) ∧ ∃ xs, Blk w g 45 xs ∧ i * 2 + 1 < xs.length := by
  obtain ⟨h0, ⟨_, _, h3⟩ | ⟨g', cap, cur, h1, h2, h3, h4, h5, h6, h7⟩⟩ := h
  · cases h3
  · cases h2
    have hn : n = ns.length := by rw [nums_length] at h0; omega
    have hb : Blk w g 45 cur.toList := by unfold Blk; simpa using h3
    have hcl : cur.toList.length = cap * 2 := by simpa using h6
    refine ⟨⟨by rw [nums_length, List.length_set]; omega, .inr ⟨g, cap, ((cur.toList.set (i * 2) (.int .u64 (Go.hi m))).set (i * 2 + 1) (.int .u64 (lo m))).toArray, h1, rfl, (hb.set_ _ _).set_ _ _, h4, h5, by simp [h6], ?_⟩⟩, cur.toList, hb, by omega⟩
    rw [nums_set, ← h7]
    simp only [List.take_set]
theorem CopyIs.setNum {B : Nat} {w : World} {k : PK} {l : List Nat} {va : List Bool} {fs : NumRows} {gs : List Nat} {mt : List (BitVec 128)} {Gr Gv Gm : Nat} {Gf : Option Nat} {h f g : Nat} {x : SL × List (BitVec 128)} (m : BitVec 128) (C : CopyIs B w k l va fs gs mt Gr Gv Gm Gf)
    (hx : fs[h]? = some x) (hg : gs[h]? = some g) (hf : f < x.2.length) :
    CopyIs B ((w.setCell ⟨g, f * 2, none⟩ (.int .u64 (Go.hi m))).setCell ⟨g, f * 2 + 1, none⟩ (.int .u64 (lo m))) k l va (fs.set h (x.1, x.2.set f m)) gs mt Gr Gv Gm Gf := by
  have t : Turn w ((w.setCell ⟨g, f * 2, none⟩ (.int .u64 (Go.hi m))).setCell ⟨g, f * 2 + 1, none⟩ (.int .u64 (lo m))) [g] := (Turn.set_ g _ _ (by simp)).trans (Turn.set_ g _ _ (by simp))
  have hge := C.ge g (List.mem_of_getElem? hg)
  have hfl := (List.getElem?_eq_some_iff.1 hx).1
  have e1 := (RowIs.setNum m (C.each h x g hx hg) hf).1
  refine ⟨RowIs.turn C.rest t (by simp; exact fun e => hge.2.1 e.symm), RowIs.turn C.valid t (by simp; exact fun e => hge.2.2.1 e.symm), RowIs.turn C.metas t (by simp; exact fun e => hge.2.2.2.1 e.symm), ?_, by rw [List.length_set]; exact C.len, ?_, C.nodup, C.ge, C.ge2⟩
  · have e2 : (fs.set h (x.1, x.2.set f m)).map (fun y => y.1.v) = fs.map (fun y => y.1.v) := by
      rw [List.map_set]
      apply List.ext_getElem?
      intro i
      rw [List.getElem?_set]
      split
      · rename_i e
        subst e
        rw [List.getElem?_map, hx]
        simp [hfl]
      · rfl
    rw [e2, List.length_set]
    exact RowIs.keep C.row (fun g' hg' => t.block g' (RowIs.lt C.row g' hg') (by simp; exact fun e => hge.2.2.2.2 (e ▸ hg')))
  · intro i y g' hy hg'
    rw [List.getElem?_set] at hy
    by_cases e : h = i
    · subst e
      rw [if_pos rfl, if_pos hfl] at hy
      cases hy
      rw [hg] at hg'
      cases hg'
      simp only [List.length_set]
      exact e1
    · rw [if_neg e] at hy
      refine RowIs.turn (C.each i y g' hy hg') t ?_
      simp
      intro q
      subst q
      obtain ⟨h1, q1⟩ := List.getElem?_eq_some_iff.1 hg
      obtain ⟨h2, q2⟩ := List.getElem?_eq_some_iff.1 hg'
      exact e ((List.getElem_inj C.nodup).1 (q1.trans q2.symm))
/-- A slice that was there early is read after later blocks turned. -/
theorem RdS.past {w0 w w' : World} {n0 n : Nat} {s : SL} {xs0 xs : List Value} {L : List Nat} (r0 : RdS w0 n0 s xs0) (r : RdS w n s xs) (t : Turn w w' L) (hL : ∀ q ∈ L, w0.heap.size ≤ q) : RdS w' n s xs := by
  rcases Nat.eq_zero_or_pos s.n with h0 | h0
  · exact ⟨r.1, r.2.1, r.2.2.1, fun h => by omega⟩
  · obtain ⟨b0, o0, e0, z0, _⟩ := r0.2.2.2 h0
    refine r.keep t.size (fun b off e hb => t.block b hb (fun hm => ?_))
    rw [e0] at e
    cases e
    have := hL _ hm
    omega
theorem PktIs.past {w0 w w' : World} {b vb : Nat} {gs : List Nat} {k0 k : PK} {l : List Nat} {va : List Bool} {nss0 nss : List (List (BitVec 128))} {mt : List (BitVec 128)} {L : List Nat} (P0 : PktIs w0 b vb gs k0 l va nss0 mt) (T : PktIs w b vb gs k l va nss mt)
    (hk : k.rest = k0.rest ∧ k.fields = k0.fields ∧ k.metas = k0.metas) (t : Turn w w' L) (hL : ∀ q ∈ L, w0.heap.size ≤ q) : PktIs w' b vb gs k l va nss mt := by
  obtain ⟨h1, h2, h3⟩ := hk
  have hn : ∀ q, q < w0.heap.size → q ∉ L := fun q hq hm => by have := hL q hm; omega
  refine ⟨t.blk T.blk (hn _ P0.blk.lt), RdS.past (h1 ▸ P0.rest) T.rest t hL, T.bytes, T.valid, t.blk T.vblk (hn _ P0.vblk.lt), RdS.past (h2 ▸ P0.row) T.row t hL, T.len, fun i g ns hg hn' => t.blk (T.each i g ns hg hn') (hn _ (P0.mem hg).1), RdS.past (h3 ▸ P0.metas) T.metas t hL, T.nodup, T.few, T.aRest, T.aRow, T.aMet⟩
/-- A copy's blocks lie below. -/
def CopyLt (N : Nat) (gs : List Nat) (Gr Gv Gm : Nat) (Gf : Option Nat) : Prop := Gr < N ∧ Gv < N ∧ Gm < N ∧ (∀ g, Gf = some g → g < N) ∧ ∀ g ∈ gs, g < N
theorem CopyIs.lt {B : Nat} {w : World} {k : PK} {l : List Nat} {va : List Bool} {fs : NumRows} {gs : List Nat} {mt : List (BitVec 128)} {Gr Gv Gm : Nat} {Gf : Option Nat} (h : CopyIs B w k l va fs gs mt Gr Gv Gm Gf) : CopyLt w.heap.size gs Gr Gv Gm Gf := by
  refine ⟨RowIs.lt h.rest _ rfl, RowIs.lt h.valid _ rfl, RowIs.lt h.metas _ rfl, fun g hg => RowIs.lt h.row g hg, fun g hg => ?_⟩
  obtain ⟨i, hi⟩ := List.getElem?_of_mem hg
  have hil := (List.getElem?_eq_some_iff.1 hi).1
  obtain ⟨x, hx⟩ : ∃ x, fs[i]? = some x := ⟨fs[i]'(by have := h.len; omega), List.getElem?_eq_getElem (by have := h.len; omega)⟩
  exact RowIs.lt (h.each i x g hx hi) _ rfl
theorem CopyIs.keepN {B N : Nat} {w w' : World} {k : PK} {l : List Nat} {va : List Bool} {fs : NumRows} {gs : List Nat} {mt : List (BitVec 128)} {Gr Gv Gm : Nat} {Gf : Option Nat} (h : CopyIs B w k l va fs gs mt Gr Gv Gm Gf) (hN : CopyLt N gs Gr Gv Gm Gf)
    (hk : ∀ g, g < w.heap.size → g < N → w'.heap[g]? = w.heap[g]?) : CopyIs B w' k l va fs gs mt Gr Gv Gm Gf := by
  refine ⟨RowIs.keep h.rest (fun g hg => ?_), RowIs.keep h.valid (fun g hg => ?_), RowIs.keep h.metas (fun g hg => ?_), RowIs.keep h.row (fun g hg => hk g (RowIs.lt h.row g hg) (hN.2.2.2.1 g hg)), h.len, fun i x g hx hg => RowIs.keep (h.each i x g hx hg) (fun g' hg' => ?_), h.nodup, h.ge, h.ge2⟩
  · cases hg; exact hk _ (RowIs.lt h.rest _ rfl) hN.1
  · cases hg; exact hk _ (RowIs.lt h.valid _ rfl) hN.2.1
  · cases hg; exact hk _ (RowIs.lt h.metas _ rfl) hN.2.2.1
  · cases hg'; exact hk _ (RowIs.lt (h.each i x _ hx hg) _ rfl) (hN.2.2.2.2 _ (List.mem_of_getElem? hg))
/-- The other cells of a copy's packet don't matter. -/
theorem CopyIs.cells {B : Nat} {w : World} {k k' : PK} {l : List Nat} {va : List Bool} {fs : NumRows} {gs : List Nat} {mt : List (BitVec 128)} {Gr Gv Gm : Nat} {Gf : Option Nat} (h : CopyIs B w k l va fs gs mt Gr Gv Gm Gf) (e : k'.rest = k.rest ∧ k'.valid = k.valid ∧ k'.fields = k.fields ∧ k'.metas = k.metas) : CopyIs B w k' l va fs gs mt Gr Gv Gm Gf := by
  obtain ⟨e1, e2, e3, e4⟩ := e
  exact ⟨e1 ▸ h.rest, e2 ▸ h.valid, e4 ▸ h.metas, e3 ▸ h.row, h.len, h.each, h.nodup, h.ge, h.ge2⟩
theorem same_copy {B : Nat} {w : World} {b vb : Nat} {gs gs' : List Nat} {k k' : PK} {l : List Nat} {va : List Bool} {nss : List (List (BitVec 128))} {mt : List (BitVec 128)} {fs : NumRows} {Gr Gv Gm : Nat} {Gf : Option Nat}
    (P : PktIs w b vb gs k l va nss mt) (C : CopyIs B w k' l va fs gs' mt Gr Gv Gm Gf) (hfs : fs.map (fun x => x.2) = nss) (hle : nss.length ≤ va.length) (hk : k'.port = k.port ∧ k'.dropped = k.dropped ∧ k'.sent = k.sent ∧ k'.egress = k.egress ∧ k'.access = k.access) :
    Calls Try.prog 16 #[k.v, k'.v] w (Pure (.bool true) w) :=
  same_any P.rest (RowIs.rdS C.rest).1 P.vrd (RowIs.rdS C.valid).1 P.frd C.fields P.metas (RowIs.rdS C.metas).1 (fsOf_snd gs nss P.len) hfs hle hk.1 hk.2.1 hk.2.2.1 hk.2.2.2.1 hk.2.2.2.2
end Go.Proofs.Ytkblldmpdihamaa
