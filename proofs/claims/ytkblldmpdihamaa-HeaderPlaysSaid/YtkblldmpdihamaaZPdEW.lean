/-
  The document's Emit of a packet (quillonref19): the walk.
-/
import Derived.Test.YtkblldmpdihamaaZPdE
set_option linter.unusedVariables false
set_option linter.unusedSimpArgs false
namespace Go.Proofs.Ytkblldmpdihamaa
open Go.RowKit

abbrev PG.ks (p : PG) : List Value := [p.heads.v, p.metas.v, p.steps.v, p.acts.v, p.tabs.v, p.control.v, p.emit.v, p.n0.v, p.n1.v, p.n2.v, p.n3.v, p.n4.v]
structure REmitIn (w : World) (p : PG) (k : PK) (hs : List (SL × List Int)) (es : List Int) (l : List Nat) (va : List Bool) (fs : NumRows) : Prop where
  heads : HeadsAre w p.heads hs
  emit : RdS w 1 p.emit (ints es)
  rest : RdS w 1 k.rest (byts l)
  valid : RdS w 1 k.valid (bools va)
  frd : FieldsAre w k.fields fs
  ok : HsOk hs
  el : es.length ≤ 8
  es_ : ∀ e ∈ es, 0 ≤ e ∧ e < (hs.length : Int)
  hva : va.length = hs.length
  hfs : fs.length = hs.length
  rows : ∀ (i : Nat) (x : SL × List (BitVec 128)) (y : SL × List Int), fs[i]? = some x → hs[i]? = some y → x.2.length = y.2.length
  few : l.length ≤ 1000
theorem REmitIn.below {w w' : World} {p : PG} {k : PK} {hs : List (SL × List Int)} {es : List Int} {l : List Nat} {va : List Bool} {fs : NumRows} (h : REmitIn w p k hs es l va fs) (hb : Below w.heap.size w w') : REmitIn w' p k hs es l va fs :=
  { h with heads := h.heads.below hb, emit := h.emit.below hb, rest := h.rest.below hb, valid := h.valid.below hb, frd := h.frd.below hb }
theorem fbT_length (ns : List (BitVec 128)) (ws : List Int) (hp : ∀ x ∈ ws, 0 ≤ x) : ∀ f, f ≤ ws.length → (fbT ns ws f).length = (ws.take f).sum.toNat
  | 0, _ => by simp [fbT]
  | f + 1, h => by
    have hlt : f < ws.length := by omega
    have hs := sum_snoc ws hlt
    have s0 := (sum_mono hp f).1
    have hx := hp _ (List.getElem_mem hlt)
    rw [fbT, List.length_append, fbT_length ns ws hp f (by omega), bitsOne_length, hs, show ws.getD f 0 = ws[f] by simp [hlt]]
    omega

/-- Bits are being laid behind a row of our own. -/
def EmB (V : World) (E : List Bool) (sv : Value) (wr : World) : Prop :=
  ∃ (s : SL) (G : Option Nat), sv = s.v ∧ Below V.heap.size V wr ∧ RowIs wr s.v G 4 1 E.length (bools E) ∧ ∀ g, G = some g → V.heap.size ≤ g

/-- The same, beside a row of a number's bits. -/
def EmR (V : World) (rb : Nat) (n : BitVec 128) (E : List Bool) (sv : Value) (wr : World) : Prop :=
  ∃ (s : SL) (G : Option Nat), sv = s.v ∧ Below V.heap.size V wr ∧ RowIs wr s.v G 4 1 E.length (bools E) ∧ (∀ g, G = some g → V.heap.size ≤ g) ∧ Blk wr rb 86 (rowL (bt n)) ∧ G ≠ some rb
theorem EmR.push {V : World} {rb : Nat} {n : BitVec 128} {E : List Bool} {sv : Value} {wr : World} (h : EmR V rb n E sv wr) (hn : E.length ≤ 100000) (b : Bool) :
    ∃ (sa : Option Addr) (sc : Nat) (w7 : World), (Builtin.append_ #[35, 35] 35 #[sv, .slice (some ⟨wr.heap.size, 0, none⟩) 1 1]).run Try.prog (wr.alloc (.cells #[.bool b] 4)) = .ok (.slice sa (E.length + 1) sc) w7 ∧ EmR V rb n (E ++ [b]) (.slice sa (E.length + 1) sc) w7 := by
  obtain ⟨s, G, rfl, hb, hrow, hG, hR, hne⟩ := h
  obtain ⟨sa, sc, w7, G', r1, r2, r3⟩ := push_one Try.underlying35 infoBo_is infoBo_zero infoBo_size infoBo_bytes rfl hrow (.bool b) rfl (by omega) (by omega)
  obtain ⟨⟨k1, k2⟩, k3⟩ := r3 V.heap.size V hb hb.size hG
  obtain ⟨k4, k5⟩ := k3 rb hR.lt hne
  refine ⟨sa, sc, w7, r1, ⟨sa, E.length + 1, sc⟩, some G', rfl, k1, ?_, fun g hg => by cases hg; exact k2, hR.keep k4, fun e => k5 (by injection e)⟩
  rw [show bools (E ++ [b]) = bools E ++ [.bool b] by simp [bools], List.length_append]
  exact r2

/-- Bytes are being laid behind a row of our own. -/
def EmY (V : World) (out : List Nat) (sv : Value) (wr : World) : Prop :=
  ∃ (s : SL) (G : Option Nat), sv = s.v ∧ Below V.heap.size V wr ∧ RowIs wr s.v G 5 1 out.length (byts out) ∧ ∀ g, G = some g → V.heap.size ≤ g
theorem EmY.push {V : World} {out : List Nat} {sv : Value} {wr : World} (h : EmY V out sv wr) (hn : out.length ≤ 100000) (b : Nat) :
    ∃ (sa : Option Addr) (sc : Nat) (w7 : World), (Builtin.append_ #[34, 34] 34 #[sv, .slice (some ⟨wr.heap.size, 0, none⟩) 1 1]).run Try.prog (wr.alloc (.cells #[.int .u8 (b : Int)] 5)) = .ok (.slice sa (out.length + 1) sc) w7 ∧ EmY V (out ++ [b]) (.slice sa (out.length + 1) sc) w7 := by
  obtain ⟨s, G, rfl, hb, hrow, hG⟩ := h
  obtain ⟨sa, sc, w7, G', r1, r2, r3⟩ := push_one Try.underlying34 infoU8_is infoU8_zero infoU8_size infoU8_bytes rfl hrow (.int .u8 (b : Int)) rfl (by omega) (by omega)
  obtain ⟨⟨k1, k2⟩, _⟩ := r3 V.heap.size V hb hb.size hG
  refine ⟨sa, sc, w7, r1, ⟨sa, out.length + 1, sc⟩, some G', rfl, k1, ?_, fun g hg => by cases hg; exact k2⟩
  rw [show byts (out ++ [b]) = byts out ++ [.int .u8 (b : Int)] by simp [byts], List.length_append]
  exact r2

set_option maxRecDepth 100000 in
set_option maxHeartbeats 8000000 in
theorem remit_any {w : World} {p : PG} {k : PK} {hs : List (SL × List Int)} {es : List Int} {l : List Nat} {va : List Bool} {fs : NumRows} (I : REmitIn w p k hs es l va fs) :
    Calls Try.prog 23 #[p.v, k.v] w
      (fun e w' => ∃ r : SL, e = .returned r.v ∧ RdS w' 1 r (byts ((layAll ([], 0) (emT hs va fs es es.length)).1 ++ l)) ∧ Below w.heap.size w w') := by
  have HI := hid I
  have hen := I.emit.int
  have hhn := I.heads.len
  have hvn : k.valid.n = va.length := by have := I.valid.2.2.1; rw [bools_length] at this; omega
  have hfn := I.frd.len
  have hrn : k.rest.n = l.length := by have := I.rest.2.2.1; rw [byts_length] at this; omega
  have hel := I.el
  have HVA := hid I.hva
  have HFL := hid I.hfs
  clear I
  obtain ⟨ph, pm, s2, s3, s4, s5, ⟨ea, en, ec⟩, n0, n1, n2, n3, n4⟩ := p
  obtain ⟨ha, hn0, hc⟩ := ph
  obtain ⟨port, ⟨ra, rn, rc⟩, ⟨va', vn, vc⟩, ⟨fa, fn, fc⟩, mt, dr, se, eg, ac⟩ := k
  simp only at hen hhn hvn hfn hrn
  subst hen hhn hvn hrn
  have hfn' : fn = fs.length := by omega
  subst hfn'
  clear hfn
  go_enter Try.func23, Try.ntmps23
  go_upto_region 1 with (fail)
  refine wp_gen (fun V hV => ?_)
  have hbV : Below w.heap.size w V := by rw [hV]; (repeat' (first | (with_reducible exact Below.refl _ _) | (with_reducible refine Below.ext_mk ?_ ?_ _ _) | (with_reducible refine Below.alloc ?_ ?_ _) | (with_reducible refine Below.drew ?_) | (with_reducible refine Below.setCell ?_ ?_ _) | go_size))
  have BP : Hid (Blk V w.heap.size 33 (PG.mk ⟨ha, hs.length, hc⟩ pm s2 s3 s4 s5 ⟨ea, es.length, ec⟩ n0 n1 n2 n3 n4).ks) := by
    rw [hV]
    exact hid ((Blk.new w 33 (PG.mk ⟨ha, hs.length, hc⟩ pm s2 s3 s4 s5 ⟨ea, es.length, ec⟩ n0 n1 n2 n3 n4).ks).below (Below.alloc (Below.refl _ _) (Nat.le_refl _) (.cells (PK.mk port ⟨ra, l.length, rc⟩ ⟨va', va.length, vc⟩ ⟨fa, fs.length, fc⟩ mt dr se eg ac).cs.toArray 39)))
  have BK : Hid (Blk V (w.heap.size + 1) 39 (PK.mk port ⟨ra, l.length, rc⟩ ⟨va', va.length, vc⟩ ⟨fa, fs.length, fc⟩ mt dr se eg ac).cs) := by
    rw [hV]
    have h := Blk.new (w.alloc (.cells (PG.mk ⟨ha, hs.length, hc⟩ pm s2 s3 s4 s5 ⟨ea, es.length, ec⟩ n0 n1 n2 n3 n4).ks.toArray 33)) 39 (PK.mk port ⟨ra, l.length, rc⟩ ⟨va', va.length, vc⟩ ⟨fa, fs.length, fc⟩ mt dr se eg ac).cs
    simp only [World.size_alloc] at h
    exact hid h
  clear hV
  have hvs := hbV.size
  have zB := BK.out.lt
  have IV := hid (HI.out.below hbV)
  have hbVh := hid hbV
  have c6 := BP.out.cell 6
  have z0 := BP.out.lt
  simp only [List.getElem?_cons_zero, List.getElem?_cons_succ, SL.v_mk] at c6
  clear HI hbV
  go_wp2_with fail
  clear c6
  go_loopw [5, 6] (fun sv iv wr => ∃ (j : Nat), j ≤ es.length ∧ iv = .int .i64 j ∧ EmB V (emT hs va fs es j) sv wr ∧ (emT hs va fs es j).length ≤ j * 256 ∧ (emT hs va fs es j).length % 8 = 0) (fun _ iv _ => es.length - (intOf iv).toNat)
  case atStart => exact ⟨0, by omega, rfl, ⟨slNil, none, rfl, Below.refl _ _, ⟨rfl, .inl ⟨rfl, rfl, rfl⟩⟩, fun g h => by cases h⟩, by simp [emT], rfl⟩
  case round =>
    obtain ⟨j, hj, rfl, ⟨s, G, rfl, hb, hrow, hG⟩, hle, h8⟩ := hrel
    have hrs := hb.size
    have bP := BP.out.below hb
    have c6 := bP.cell 6
    have z6 := bP.lt
    simp only [List.getElem?_cons_zero, List.getElem?_cons_succ, SL.v_mk] at c6
    by_cases hlt : j < es.length
    · have hj1 : (j : Int) < (es.length : Int) := by omega
      obtain ⟨eb, eo, ee, ze, ce⟩ := RdS.intAt IV.out.emit hlt
      simp only at ee
      subst ee
      have hes := IV.out.es_ es[j] (List.getElem_mem _)
      obtain ⟨hi', hhe⟩ : ∃ i : Nat, es[j] = (i : Int) := ⟨es[j].toNat, by omega⟩
      rw [hhe] at ce hes
      have hil : hi' < hs.length := by omega
      have hnext : emT hs va fs es (j + 1) = emT hs va fs es j ++ hBits hs va fs (hi' : Int) := by
        rw [emT]; simp [hlt, hhe]
      have de := (hb.cell (p := ⟨eb, eo + j, none⟩) ze).trans ce
      have ze' : eb < wr.heap.size := by omega
      obtain ⟨v, hv⟩ : ∃ v, va[hi']? = some v := ⟨va[hi']'(by have := HVA.out; omega), List.getElem?_eq_getElem (by have := HVA.out; omega)⟩
      obtain ⟨vb, vo, ev, zv, _, cv⟩ := IV.out.valid.one (i := hi') (u := .bool v) (by simp [bools, hv])
      simp only at ev
      subst ev
      have dv := (hb.cell (p := ⟨vb, vo + hi', none⟩) zv).trans cv
      have zv' : vb < wr.heap.size := by omega
      have bK := BK.out.below hb
      have c2 := bK.cell 2
      have zk := bK.lt
      simp only [List.getElem?_cons_zero, List.getElem?_cons_succ, SL.v_mk] at c2
      have q1 : (hi' : Int) < (va.length : Int) := by have := HVA.out; omega
      have q2 : (hi' : Int) < (hs.length : Int) := by omega
      have q3 : (hi' : Int) < (fs.length : Int) := by have := HFL.out; omega
      have hjw : IntKind.i64.wrap ((j : Int) + 1) = (j : Int) + 1 := IntWalk.i64_in _ (by omega)
      have HNX := hid hnext
      have HV := hid hv
      have HROW := hid (And.intro hrow (And.intro hle h8))
      have HG := hid hG
      have HE := hid hhe
      clear hnext hv hrow hle h8 hG ce cv hhe hes
      cases v
      · have hb0 : hBits hs va fs (hi' : Int) = [] := by
          unfold hBits
          rw [if_neg (fun q => by rw [Int.toNat_natCast, List.getD_eq_getElem?_getD, HV.out] at q; exact absurd q.2.2.2 (by simp))]
        rw [hb0, List.append_nil] at HNX
        clear hb0
        go_wp2_with fail
        go_roundw
        case rel => exact ⟨j + 1, hlt, by go_num, ⟨s, G, rfl, hb, by rw [HNX.out]; exact HROW.out.1, HG.out⟩, by rw [HNX.out]; have := HROW.out.2.1; omega, by rw [HNX.out]; exact HROW.out.2.2⟩
        case measure => first | (simp [intOf]; done) | (simp [intOf]; omega)
      · obtain ⟨y, hy⟩ : ∃ y, hs[hi']? = some y := ⟨hs[hi'], List.getElem?_eq_getElem hil⟩
        have hA : headAt hs (hi' : Int) = y := by unfold headAt; rw [if_neg (by omega), Int.toNat_natCast, hy]; rfl
        obtain ⟨x, hx⟩ : ∃ x, fs[hi']? = some x := ⟨fs[hi']'(by have := HFL.out; omega), List.getElem?_eq_getElem (by have := HFL.out; omega)⟩
        have hb1 : hBits hs va fs (hi' : Int) = fbT x.2 y.2 y.2.length := by
          unfold hBits
          rw [if_pos ⟨by omega, by rw [Int.toNat_natCast]; omega, by rw [Int.toNat_natCast]; omega, by rw [Int.toNat_natCast, List.getD_eq_getElem?_getD, HV.out]; rfl⟩, hA, Int.toNat_natCast, List.getD_eq_getElem?_getD, hx]
          rfl
        rw [hb1] at HNX
        have hxy := IV.out.rows hi' x y hx hy
        have hyo := IV.out.ok.each y (List.mem_of_getElem? hy)
        have YR := hid (IV.out.heads.each y (List.mem_of_getElem? hy))
        have XR := hid (IV.out.frd.each x (List.mem_of_getElem? hx))
        obtain ⟨hFew, hf2, _, hf4⟩ := hok_facts hyo
        have hf16 := hyo.hi
        have hrng := hid (wok_range hyo.ok)
        obtain ⟨pb, po, ep, zp, _, cp⟩ := IV.out.heads.row.one (i := hi') (u := y.1.v) (by rw [List.getElem?_map, hy]; rfl)
        obtain ⟨fb, fo, ef, zf, _, cf⟩ := IV.out.frd.row.one (i := hi') (u := x.1.v) (by rw [List.getElem?_map, hx]; rfl)
        have hyn := YR.out.int
        have hxn : x.1.n = x.2.length := by have := XR.out.2.2.1; rw [nums_length] at this; omega
        clear hy hx hA hb1 hyo
        obtain ⟨⟨ya, yn, yc⟩, ws⟩ := y
        obtain ⟨⟨xa, xn, xc⟩, ns⟩ := x
        simp only at ep ef hyn hxn hFew hf2 hf4 hf16 hxy hrng
        subst ep ef hyn hxn
        simp only [SL.v_mk] at cp cf
        obtain ⟨E0, hE0⟩ : ∃ E0, E0 = emT hs va fs es j := ⟨_, rfl⟩
        rw [← hE0] at HROW HNX
        have HE0 := hid hE0
        clear hE0
        have hE0l : E0.length ≤ 2048 := by have := HROW.out.2.1; omega
        have c0 := bP.cell 0
        simp only [List.getElem?_cons_zero, SL.v_mk] at c0
        have dp := (hb.cell (p := ⟨pb, po + hi', none⟩) zp).trans cp
        have zp' : pb < wr.heap.size := by omega
        go_wp2_with fail
        clear c0 dp c2 dv de c6
        go_loopw [5, 8] (fun sv fv wq => ∃ (f : Nat), f ≤ ws.length ∧ fv = .int .i64 f ∧ EmB V (E0 ++ fbT ns ws f) sv wq) (fun _ fv _ => ws.length - (intOf fv).toNat)
        case atStart => exact ⟨0, by omega, rfl, ⟨s, G, rfl, hb, by rw [fbT, List.append_nil]; exact HROW.out.1, HG.out⟩⟩
        case round =>
          obtain ⟨f, hf, rfl, s', G', rfl, hb2, hrow2, hG2⟩ := hrel
          have hrs2 := hb2.size
          have bP2 := BP.out.below hb2
          have bK2 := BK.out.below hb2
          have c0 := bP2.cell 0
          have z02 := bP2.lt
          have zk2 := bK2.lt
          simp only [List.getElem?_cons_zero, List.getElem?_cons_succ, SL.v_mk] at c0
          have dp := (hb2.cell (p := ⟨pb, po + hi', none⟩) zp).trans cp
          have zp2 : pb < wr.heap.size := by omega
          have HR2 := hid (And.intro hb2 (And.intro hrow2 hG2))
          by_cases hfw : f < ws.length
          · have hf1 : (f : Int) < (ws.length : Int) := by omega
            obtain ⟨qb, qo, eq, zq, cq⟩ := RdS.intAt YR.out hfw
            simp only at eq
            subst eq
            have hxr := hrng.out ws[f] (List.getElem_mem _)
            obtain ⟨xi, hxi⟩ : ∃ xi, xi = ws[f] := ⟨_, rfl⟩
            rw [← hxi] at cq hxr
            obtain ⟨x, rfl⟩ : ∃ x : Nat, xi = (x : Int) := ⟨xi.toNat, by omega⟩
            have hfn : f < ns.length := by omega
            obtain ⟨n, hn⟩ : ∃ n, ns[f]? = some n := ⟨ns[f], List.getElem?_eq_getElem hfn⟩
            obtain ⟨nb, no, en, zn, _, cn0, cn1⟩ := XR.out.num hn
            simp only at en
            subst en
            have hfb : fbT ns ws (f + 1) = fbT ns ws f ++ bitsOne ns f (x : Int) := by rw [fbT, hxi]; simp [hfw]
            have hbl : (fbT ns ws f).length = (ws.take f).sum.toNat := fbT_length ns ws hFew.pos f hf
            have hsm := sum_mono hFew.pos f
            have hlen : (E0 ++ fbT ns ws f).length ≤ 3000 := by rw [List.length_append, hbl]; omega
            have HFB := hid hfb
            have HN := hid hn
            have c3 := bK2.cell 3
            simp only [List.getElem?_cons_zero, List.getElem?_cons_succ, SL.v_mk] at c3
            have df := (hb2.cell (p := ⟨fb, fo + hi', none⟩) zf).trans cf
            have zf2 : fb < wr.heap.size := by omega
            have d0 := (hb2.cell (p := ⟨nb, no + f * 2, none⟩) zn).trans cn0
            have d1 := (hb2.cell (p := ⟨nb, no + f * 2 + 1, none⟩) zn).trans cn1
            have zn2 : nb < wr.heap.size := by omega
            have dq := (hb2.cell (p := ⟨qb, qo + f, none⟩) zq).trans cq
            have zq2 : qb < wr.heap.size := by omega
            have hfn1 : (f : Int) < (ns.length : Int) := by omega
            have RB := hid (fun W => rbits_any n W)
            obtain ⟨E1, hE1⟩ : ∃ E1, E1 = E0 ++ fbT ns ws f := ⟨_, rfl⟩
            rw [← hE1] at HR2 hlen
            have HE1 := hid hE1
            have hz := (zero_of_info (P := Try.prog) row_info).1
            have HXI := hid hxi
            have CQ := hid cq
            clear hE1 hfb hn hxi hbl hsm hb2 hrow2 hG2 bP2 bK2 cn0 cn1 cq
            go_upto_region 10 with (fail)
            refine wp_region_doc (fun F' hF' => ?_)
            have HF := hid hF'
            clear hF'
            iterate 8 (refine doc_val rfl (by first | (go_simp; done) | (go_simp; exact ⟨rfl, rfl⟩) | (go_simp; with_reducible rfl)) ?_; simp only [Act.put, List.setIfInBounds_toArray, List.set_cons_zero, List.set_cons_succ])
            refine doc_call (f := 47) (args := #[nv n]) rfl (by first | (go_simp; done) | (go_simp; exact ⟨rfl, rfl⟩) | (go_simp; with_reducible rfl)) ((RB.out _).mono ?_)
            rintro _ _ ⟨rfl, m2, d2, rfl⟩
            refine ⟨_, rfl, ?_⟩
            simp only [Act.put, List.setIfInBounds_toArray, List.set_cons_zero, List.set_cons_succ]
            refine doc_val rfl (by first | (go_simp; done) | (go_simp; exact ⟨rfl, rfl⟩) | (go_simp; with_reducible rfl)) ?_
            simp only [Act.put, List.setIfInBounds_toArray, List.set_cons_zero, List.set_cons_succ]
            have bR0 := Blk.new (wr.ext m2 d2) 86 (rowL fun _ => false)
            simp only [World.size_ext] at bR0
            refine doc_skip rfl (store_row_op (xs := rowL fun _ => false) (ys := rowL (bt n)) _ _ _ _ _ _ _ _ _ (row_size (bt n)) (by rw [rowL_length, rowL_length]) (rowL_one _) rfl rfl bR0) ?_
            simp only [Act.put, List.setIfInBounds_toArray, List.set_cons_zero, List.set_cons_succ]
            refine doc_end (HF.out _ _ ?_)
            clear HF F' hz
            have bR1 := hid (bR0.row (rowL (bt n)))
            go_upto_region 11 with (fail)
            refine wp_gen (fun X hX => ?_)
            have hbX : Below wr.heap.size wr X := by rw [hX]; exact Below.setRow (by (repeat' (first | (with_reducible exact Below.refl _ _) | (with_reducible refine Below.ext_mk ?_ ?_ _ _) | (with_reducible refine Below.alloc ?_ ?_ _) | (with_reducible refine Below.drew ?_) | (with_reducible refine Below.setCell ?_ ?_ _) | go_size))) (by omega) _
            have BR : Blk X (wr.heap.size + m2.size) 86 (rowL (bt n)) := by rw [hX]; exact bR1.out
            clear hX bR1 bR0 c0 dp c3 df d0 d1 dq
            obtain ⟨rb, hrb⟩ : ∃ rb, rb = wr.heap.size + m2.size := ⟨_, rfl⟩
            rw [← hrb] at BR ⊢
            have EX : EmR V rb n E1 s'.v X := by
              obtain ⟨hb2, hrow2, hG2⟩ := HR2.out
              exact ⟨s', G', rfl, hb2.trans (hbX.mono hrs2), RowIs.keep hrow2 (fun g hg => hbX.block g (RowIs.lt hrow2 g hg)), hG2, BR, fun e => by have := RowIs.lt hrow2 rb e; omega⟩
            have hbXV : Below V.heap.size V X := HR2.out.1.trans (hbX.mono hrs2)
            have EXH := hid EX
            have BRl := BR.lt
            clear hrb hbX EX BR HR2
            have hXs := hbXV.size
            have bPX := BP.out.below hbXV
            have c0 := bPX.cell 0
            have z0X := bPX.lt
            simp only [List.getElem?_cons_zero, List.getElem?_cons_succ, SL.v_mk] at c0
            have dp := (hbXV.cell (p := ⟨pb, po + hi', none⟩) zp).trans cp
            have zpX : pb < X.heap.size := by omega
            have dq := (hbXV.cell (p := ⟨qb, qo + f, none⟩) zq).trans CQ.out
            have zqX : qb < X.heap.size := by omega
            have hxw : IntKind.i64.wrap ((x : Int) - 1) = (x : Int) - 1 := IntWalk.i64_in _ (by omega)
            have hx1 : x ≤ 128 := by omega
            have hbo : (bitsOne ns f (x : Int)).length = x := by rw [bitsOne_length, Int.toNat_natCast]
            go_wp2_with fail
            clear c0 dp dq hxw
            go_loopw [5, 10] (fun sv kv wz => ∃ c : Nat, c ≤ x ∧ kv = .int .i64 ((x : Int) - 1 - (c : Int)) ∧ EmR V rb n (E1 ++ (bitsOne ns f (x : Int)).take c) sv wz) (fun _ kv _ => (intOf kv + 1).toNat)
            case atStart => exact ⟨0, by omega, by simp, by rw [List.take_zero, List.append_nil]; exact EXH.out⟩
            case round =>
              obtain ⟨c, hc, rfl, hE⟩ := hrel
              by_cases hcx : c < x
              · obtain ⟨q, hq⟩ : ∃ q : Nat, (x : Int) - 1 - (c : Int) = (q : Int) := ⟨x - 1 - c, by omega⟩
                have hqb : q < 128 := by omega
                have hbit : (bitsOne ns f (x : Int))[c]'(by omega) = bt n q := by
                  rw [bitsOne_at ns f (x : Int) (by omega), hq]
                  have h1 : ns.getD f 0#128 = n := by rw [List.getD_eq_getElem?_getD, HN.out]; rfl
                  rw [h1]
                  unfold bitV bt
                  have h2 : (q : Int) < 128 := by omega
                  simp [hfn, h2]
                have htk : (bitsOne ns f (x : Int)).take (c + 1) = (bitsOne ns f (x : Int)).take c ++ [bt n q] := by
                  rw [List.take_succ_eq_append_getElem (by omega), hbit]
                have hq' : ∀ d : Nat, (x : Int) - 1 - ((d + 1 : Nat) : Int) = (x : Int) - 1 - (d : Int) - 1 := fun d => by omega
                have HTK := hid (And.intro htk (hq' c))
                clear hbit htk hq'
                have HQ := hid hq
                rw [hq]
                clear hq
                have q0 : (0 : Int) ≤ (q : Int) := by omega
                have q1 : (q : Int) < 128 := by omega
                have hqw : IntKind.i64.wrap ((q : Int) - 1) = (q : Int) - 1 := IntWalk.i64_in _ (by omega)
                have hEl : (E1 ++ (bitsOne ns f (x : Int)).take c).length ≤ 4000 := by rw [List.length_append, List.length_take]; omega
                obtain ⟨sa, sc, w7, r1, hE2⟩ := hE.push (by omega) (bt n q)
                obtain ⟨s7, G7, rfl, hb7, hrow7, hG7, hR7, hne7⟩ := hE
                have R1 := hid r1
                have HE2 := hid hE2
                have zr := hR7.lt
                have cr := hR7.cell q
                rw [rowL_at _ hqb] at cr
                clear r1 hE2 hrow7 hG7 hR7 hne7 hb7
                generalize bt n q = bq at *
                generalize (E1 ++ (bitsOne ns f (x : Int)).take c).length = nE at *
                go_upto_region 14 with (fail)
                refine wp_region_doc (fun F' hF' => ?_)
                have HF := hid hF'
                clear hF'
                iterate 5 (refine doc_val rfl (by first | (go_simp; done) | (go_simp; exact ⟨rfl, rfl⟩) | (go_simp; with_reducible rfl)) ?_; simp only [Act.put, List.setIfInBounds_toArray, List.set_cons_zero, List.set_cons_succ])
                refine doc_val rfl (run_append_op _ _ _ _ _ _ _ _ _ R1.out) ?_
                simp only [Act.put, List.setIfInBounds_toArray, List.set_cons_zero, List.set_cons_succ]
                refine doc_val rfl (by first | (go_simp; done) | (go_simp; exact ⟨rfl, rfl⟩) | (go_simp; with_reducible rfl)) ?_
                simp only [Act.put, List.setIfInBounds_toArray, List.set_cons_zero, List.set_cons_succ]
                refine doc_end (HF.out _ _ ?_)
                clear HF F' cr
                go_wp2_with fail
                go_roundw
                case rel =>
                  refine ⟨c + 1, by omega, ?_, ?_⟩
                  · congr 1; have := HTK.out.2; have := HQ.out; omega
                  · rw [HTK.out.1, ← List.append_assoc]; exact HE2.out
                case measure => first | (simp [intOf]; done) | (simp [intOf]; omega)
              · have hce : c = x := by omega
                subst hce
                have hneg : ¬ (0 : Int) ≤ (c : Int) - 1 - (c : Int) := by omega
                have hfw2 : IntKind.i64.wrap ((f : Int) + 1) = (f : Int) + 1 := IntWalk.i64_in _ (by omega)
                rw [List.take_of_length_le (by omega)] at hE
                obtain ⟨s7, G7, rfl, hb7, hrow7, hG7, _, _⟩ := hE
                have HR7 := hid (And.intro hb7 (And.intro hrow7 hG7))
                clear hb7 hrow7 hG7
                go_wp2_with fail
                go_roundw
                case rel =>
                  obtain ⟨hb7, hrow7, hG7⟩ := HR7.out
                  refine ⟨f + 1, hfw, by go_num, s7, G7, rfl, hb7, ?_, hG7⟩
                  rw [HFB.out, ← List.append_assoc, ← HE1.out]
                  exact hrow7
                case measure => first | (simp [intOf]; done) | (simp [intOf]; omega)
          · have hfe : f = ws.length := by omega
            subst hfe
            have hbl : (fbT ns ws ws.length).length = ws.sum.toNat := by rw [fbT_length ns ws hFew.pos ws.length (Nat.le_refl _), List.take_length]
            have hsm := sum_mono hFew.pos ws.length
            rw [List.take_length] at hsm
            have HLN := hid (And.intro hbl hsm)
            clear hrow2 hG2 hb2 hbl hsm
            go_wp2_with fail
            go_roundw
            case rel =>
              obtain ⟨hb2, hrow2, hG2⟩ := HR2.out
              obtain ⟨hbl, hsm⟩ := HLN.out
              have h1 := HROW.out.2
              have h2 : (emT hs va fs es (j + 1)).length = E0.length + ws.sum.toNat := by rw [HNX.out, List.length_append, hbl]
              exact ⟨j + 1, hlt, by go_num, ⟨s', G', rfl, hb2, by rw [HNX.out]; exact hrow2, hG2⟩, by omega, by omega⟩
            case measure => first | (simp [intOf]; done) | (simp [intOf]; omega)
    · have hje : j = es.length := by omega
      subst hje
      obtain ⟨E0, hE0⟩ : ∃ E0, E0 = emT hs va fs es es.length := ⟨_, rfl⟩
      rw [← hE0] at hrow hle h8
      have HE0 := hid hE0
      obtain ⟨N, hN⟩ : ∃ N, E0.length = 8 * N := ⟨E0.length / 8, by omega⟩
      have hNl : N ≤ 256 := by omega
      obtain ⟨g, c5, hs5⟩ : ∃ g c5, s = ⟨g, E0.length, c5⟩ := by
        obtain ⟨a, n, c⟩ := s
        have := (RowIs.rdS hrow).2.1
        simp only at this
        exact ⟨a, c, by rw [this]⟩
      subst hs5
      have HRW := hid (RowIs.rdS hrow).1
      have hbW := hid hb
      have c6' := c6
      clear hrow hG hE0 hle h8 bP
      go_wp2_with fail
      clear c6 c6'
      obtain ⟨W0, hW0⟩ : ∃ W0, W0 = wr := ⟨_, rfl⟩
      rw [← hW0] at HRW hbW
      have HN8 := hid hN
      have hel0 : E0.length ≤ 2048 := by omega
      go_loopw [11, 12] (fun sv iv wq => ∃ j : Nat, j ≤ N ∧ iv = .int .i64 ((8 * j : Nat) : Int) ∧ EmY W0 (byteN E0 j) sv wq) (fun _ iv _ => 8 * N - (intOf iv).toNat)
      case atStart => exact ⟨0, by omega, rfl, slNil, none, rfl, by rw [hW0]; exact Below.refl _ _, ⟨rfl, .inl ⟨rfl, rfl, rfl⟩⟩, fun g h => by cases h⟩
      case round =>
        clear hW0
        obtain ⟨j, hj, rfl, hY⟩ := hrel
        obtain ⟨a8, ha8⟩ : ∃ a8, a8 = 8 * j := ⟨_, rfl⟩
        rw [← ha8]
        have ha9 : IntKind.i64.wrap ((a8 : Int) + 8) = (a8 : Int) + 8 := IntWalk.i64_in _ (by omega)
        by_cases hjN : j < N
        · have hle8 : (a8 : Int) + 8 ≤ (E0.length : Int) := by omega
          have hbq : Below W0.heap.size W0 wr := by obtain ⟨_, _, _, hb, _⟩ := hY; exact hb
          have HY := hid hY
          have HA8 := hid ha8
          have hb1q := hid hbq
          clear hY ha8 hbq
          obtain ⟨fB, hfB⟩ : ∃ fB : Nat → Bool, fB = fun i => E0.getD (8 * j + i) false := ⟨_, rfl⟩
          have HFB := hid hfB
          clear hfB
          go_wp2_with fail
          obtain ⟨W1, hW1⟩ : ∃ W1, W1 = wr := ⟨_, rfl⟩
          go_loopw [13, 14] (fun xv kv wz => ∃ c : Nat, c ≤ 8 ∧ xv = .int .u8 ((hvB fB c : Nat) : Int) ∧ kv = .int .i64 (c : Int) ∧ wz = W1) (fun _ kv _ => 8 - (intOf kv).toNat)
          case atStart => exact ⟨0, by omega, rfl, rfl, by rw [hW1]⟩
          case round =>
            obtain ⟨c, hc, rfl, rfl, hwz⟩ := hrel
            have hwo := hwz.trans hW1
            have HWZ := hid hwz
            clear hwz hW1
            subst hwo
            by_cases hc8 : c < 8
            · have hci : (c : Int) < 8 := by omega
              have hlt2 := hvB_lt fB c
              have hp2 : 2 ^ c ≤ 2 ^ 7 := Nat.pow_le_pow_right (by omega) (by omega)
              have hib : a8 + c < E0.length := by omega
              have hfc : fB c = E0[a8 + c] := by rw [HFB.out, ← HA8.out]; simp [hib]
              obtain ⟨bb, bo, eb', zb', _, cb'⟩ := (HRW.out.below hb1q.out).one (i := a8 + c) (u := .bool E0[a8 + c]) (by simp [bools, hib])
              simp only at eb'
              subst eb'
              rw [← hfc] at cb'
              have HX : Hid (hvB fB (c + 1) = 2 * hvB fB c + if fB c then 1 else 0) := hid rfl
              have hab : IntKind.i64.wrap ((a8 : Int) + (c : Int)) = ((a8 + c : Nat) : Int) := by rw [IntWalk.i64_in _ (by omega)]; omega
              have hab1 : ((a8 + c : Nat) : Int) < (E0.length : Int) := by omega
              have hab0 : (0 : Int) ≤ ((a8 + c : Nat) : Int) := by omega
              generalize a8 + c = ac' at *
              generalize hvB fB c = X at *
              have hX1 : (X : Int) ≤ 127 := by omega
              have hX0 : (0 : Int) ≤ (X : Int) := by omega
              have hw2 : IntKind.u8.wrap (2 * (X : Int)) = 2 * (X : Int) := IntWalk.u8_in _ (by omega)
              have hw3 : IntKind.u8.wrap (2 * (X : Int) + 1) = 2 * (X : Int) + 1 := IntWalk.u8_in _ (by omega)
              have hcw : IntKind.i64.wrap ((c : Int) + 1) = (c : Int) + 1 := IntWalk.i64_in _ (by omega)
              clear hfc hlt2 hp2 hib
              generalize fB c = bq at *
              cases bq
              all_goals
                go_wp2_with fail
                go_roundw
                case rel => exact ⟨c + 1, by omega, by rw [HX.out]; simp, by go_num, HWZ.out⟩
                case measure => first | (simp [intOf]; done) | (simp [intOf]; omega)
            · have hc8' : c = 8 := by omega
              subst hc8'
              rw [show ((8 : Nat) : Int) = 8 from rfl]
              obtain ⟨sa, sc, w7, r1, hY2⟩ := HY.out.push (by rw [byteN_length]; omega) (hvB fB 8)
              rw [byteN_length] at r1 hY2
              obtain ⟨s7, G7, rfl, _, _, _⟩ := HY.out
              have R1 := hid r1
              have HY2 := hid hY2
              have hbn : byteN E0 (j + 1) = byteN E0 j ++ [hvB fB 8] := by rw [byteN, HFB.out]
              have HBN := hid hbn
              clear r1 hY2 hbn
              generalize hvB fB 8 = X8 at *
              go_upto_region 26 with (fail)
              refine wp_region_doc (fun F' hF' => ?_)
              have HF := hid hF'
              clear hF'
              iterate 3 (refine doc_val rfl (by first | (go_simp; done) | (go_simp; exact ⟨rfl, rfl⟩) | (go_simp; with_reducible rfl)) ?_; simp only [Act.put, List.setIfInBounds_toArray, List.set_cons_zero, List.set_cons_succ])
              refine doc_val rfl (run_append_op _ _ _ _ _ _ _ _ _ R1.out) ?_
              simp only [Act.put, List.setIfInBounds_toArray, List.set_cons_zero, List.set_cons_succ]
              refine doc_val rfl (by first | (go_simp; done) | (go_simp; exact ⟨rfl, rfl⟩) | (go_simp; with_reducible rfl)) ?_
              simp only [Act.put, List.setIfInBounds_toArray, List.set_cons_zero, List.set_cons_succ]
              refine doc_end (HF.out _ _ ?_)
              clear HF F'
              go_wp2_with fail
              go_roundw
              case rel =>
                refine ⟨j + 1, by omega, ?_, ?_⟩
                · congr 1; have := HA8.out; omega
                · rw [HBN.out]; exact HY2.out
              case measure => first | (simp [intOf]; done) | (simp [intOf]; omega)
        · have hjN' : j = N := by omega
          subst hjN'
          have hgt : ¬ (a8 : Int) + 8 ≤ (E0.length : Int) := by omega
          obtain ⟨s7, G7, rfl, hb7, hrow7, hG7⟩ := hY
          obtain ⟨r, w1, r1, q1, r2⟩ := push_bytes hrow7 (IV.out.rest.below (hbW.out.trans (hb7.mono hbW.out.size))) (by rw [byteN_length]; omega) (by have := IV.out.few; omega)
          have hbV1 := r2 V.heap.size V (hbW.out.trans (hb7.mono hbW.out.size)) (by have := hb7.size; have := hbW.out.size; omega) (fun g hg => by have := hG7 g hg; have := hbW.out.size; omega)
          have bK7 := BK.out.below (hbW.out.trans (hb7.mono hbW.out.size))
          have c1 := bK7.cell 1
          have zk7 := bK7.lt
          simp only [List.getElem?_cons_zero, List.getElem?_cons_succ, SL.v_mk] at c1
          have R1 := hid r1
          have Q1 := hid (And.intro q1 (hbVh.out.trans (hbV1.mono hvs)))
          clear hrow7 hG7 hb7 r1 q1 r2 bK7 hbV1
          go_upto_region 27 with (fail)
          refine wp_region_doc (fun F' hF' => ?_)
          have HF := hid hF'
          clear hF'
          iterate 3 (refine doc_val rfl (by first | (go_simp; done) | (go_simp; exact ⟨rfl, rfl⟩) | (go_simp; with_reducible rfl)) ?_; simp only [Act.put, List.setIfInBounds_toArray, List.set_cons_zero, List.set_cons_succ])
          refine doc_val rfl (run_append_op _ _ _ _ _ _ _ _ _ R1.out) ?_
          simp only [Act.put, List.setIfInBounds_toArray, List.set_cons_zero, List.set_cons_succ]
          refine doc_val rfl (by first | (go_simp; done) | (go_simp; exact ⟨rfl, rfl⟩) | (go_simp; with_reducible rfl)) ?_
          simp only [Act.put, List.setIfInBounds_toArray, List.set_cons_zero, List.set_cons_succ]
          refine doc_end (HF.out _ _ ?_)
          clear HF F'
          go_wp2
          go_returns
          obtain ⟨q1, hfin⟩ := Q1.out
          refine ⟨r, rfl, ?_, hfin⟩
          have h1 := layAll_byteN E0 j (by have := HN8.out; omega)
          rw [List.take_of_length_le (by have := HN8.out; omega), HE0.out] at h1
          rw [h1]
          rw [HE0.out] at q1
          exact q1
end Go.Proofs.Ytkblldmpdihamaa
