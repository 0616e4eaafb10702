/-
  Package header: Take of a header that is there.
-/
import Derived.Test.YtkblldmpdihamaaZClone
set_option linter.unusedVariables false
set_option linter.unusedSimpArgs false
namespace Go.Proofs.Ytkblldmpdihamaa
open Go.RowKit

/-- What Take finds. -/
structure TakeIn (w : World) (p : PG) (hs : List (SL × List Int)) (k : PK) (b vb g h : Nat) (l : List Nat) (va : List Bool) (fs : List (SL × List (BitVec 128))) (ns : List (BitVec 128)) : Prop where
  heads : HeadsAre w p.heads hs
  few : Few (headAt hs h).2
  whole : (headAt hs h).2.sum % 8 = 0
  blk : Blk w b 39 k.cs
  rest : RdS w 1 k.rest (byts l)
  bytes : ∀ x ∈ l, x < 256
  more : (headAt hs h).2.sum / 8 ≤ l.length
  pos : 1 ≤ (headAt hs h).2.sum / 8
  small : l.length ≤ 100000
  valid : k.valid = ⟨some ⟨vb, 0, none⟩, va.length, va.length⟩
  vblk : Blk w vb 4 (bools va)
  off : va[h]? = some false
  row : RdS w 1 k.fields (fs.map fun x => x.1.v)
  here : fs[h]? = some (⟨some ⟨g, 0, none⟩, ns.length, ns.length⟩, ns)
  gblk : Blk w g 45 (nums ns)
  len : ns.length = (headAt hs h).2.length
  ne1 : b ≠ vb
  ne2 : b ≠ g
  ne3 : vb ≠ g
  aw1 : Away (headAt hs h).1 [b, vb, g]
  aw2 : Away k.rest [b, vb, g]
  aw3 : Away k.fields [b, vb, g]
  hbig : h ≤ 1000000

section
variable {w w' : World} {p : PG} {hs : List (SL × List Int)} {k : PK} {b vb g h : Nat} {l : List Nat} {va : List Bool} {fs : List (SL × List (BitVec 128))} {ns : List (BitVec 128)}
theorem TakeIn.below (T : TakeIn w p hs k b vb g h l va fs ns) (hb : Below w.heap.size w w') : TakeIn w' p hs k b vb g h l va fs ns :=
  { T with heads := T.heads.below hb, blk := T.blk.below hb, rest := T.rest.below hb, vblk := T.vblk.below hb, row := T.row.below hb, gblk := T.gblk.below hb }

def TakePost (w : World) (hs : List (SL × List Int)) (k : PK) (b vb g h : Nat) (l : List Nat) (va : List Bool) (e : Ending) (w' : World) : Prop :=
  e = .returned (.bool true) ∧ Turn w w' [b, vb, g] ∧ Blk w' vb 4 (bools (va.set h true)) ∧ Blk w' g 45 (nums (takeN l 0 (headAt hs h).2)) ∧
    ∃ r : SL, Blk w' b 39 ({ k with rest := r } : PK).cs ∧ RdS w' 1 r (byts (l.drop ((headAt hs h).2.sum / 8).toNat)) ∧ Fresh w.heap.size r ∧ Lt w' r

set_option maxRecDepth 100000 in
set_option maxHeartbeats 8000000 in
theorem take_ok (T : TakeIn w p hs k b vb g h l va fs ns) :
    Calls Try.prog 12 #[p.v, .pointer (some ⟨b, 0, none⟩), .int .i64 h] w (TakePost w hs k b vb g h l va) := by
  have hmf : ∀ (fn : Fn) (first cap : Array Value) (w : World), (Instr.makeFunc fn first cap).run Try.prog w = .ok (.func fn first cap) w := fun _ _ _ _ => rfl
  have HT := hid T
  have SZ := hid (fun V (hb : Below w.heap.size w V) => size_any (HT.out.heads.below hb) (h : Int) HT.out.few)
  have WD := hid (fun V (hb : Below w.heap.size w V) => widths_any (HT.out.heads.below hb) (h : Int))
  have WH := hid (fun V (hb : Below w.heap.size w V) => whole_any ((HT.out.heads.below hb).at (h : Int)) HT.out.few)
  have HS := hid (fun V (hb : Below w.heap.size w V) => has_any (HT.out.blk.below hb) (h : Int))
  -- numbers
  have s0 := sum_mono T.few.pos (headAt hs (h : Int)).2.length
  rw [List.take_length] at s0
  have hwhole : ((headAt hs (h : Int)).2.sum % 8 == 0) = true := by simpa using T.whole
  rw [hwhole] at WH
  obtain ⟨hvlt, hvv⟩ := List.getElem?_eq_some_iff.1 T.off
  have hfl : h < k.fields.n := by
    have h1 := T.row.2.2.1
    have h2 := (List.getElem?_eq_some_iff.1 T.here).1
    simp at h1; omega
  have hhas : hasB k (h : Int) = true := by
    unfold hasB
    rw [T.valid]
    simp; omega
  rw [hhas] at HS
  obtain ⟨rb, ro, er, zr, _, cr⟩ := T.row.one (i := h) (u := .slice (some ⟨g, 0, none⟩) ns.length ns.length) (by rw [List.getElem?_map, T.here]; rfl)
  have hrn : k.rest.n = l.length := by have := T.rest.2.2.1; rw [byts_length] at this; omega
  have hwn := (T.heads.at (h : Int)).int
  have hlen := T.len
  have hmore := T.more
  have hposi := T.pos
  have hvalid := T.valid
  have cb1 := T.blk.cell 1
  have cb2 := T.blk.cell 2
  have cb3 := T.blk.cell 3
  have cvh := T.vblk.cell h
  rw [show (bools va)[h]? = some (.bool false) by simp [bools, T.off]] at cvh
  simp only [List.getElem?_cons_zero, List.getElem?_cons_succ] at cb1 cb2 cb3
  have zb := T.blk.lt
  have zvb := T.vblk.lt
  clear T
  obtain ⟨hd, hhd⟩ : ∃ hd, hd = headAt hs (h : Int) := ⟨_, rfl⟩
  rw [← hhd] at SZ WD WH s0 hwhole hwn hlen hmore hposi
  have HH := hid hhd
  clear hhd
  obtain ⟨⟨wa, wn, wc⟩, ws⟩ := hd
  simp only at SZ WD WH s0 hwhole hwn hlen hmore hposi
  subst hwn
  obtain ⟨n, hn⟩ : ∃ n : Int, n = ws.sum / 8 := ⟨_, rfl⟩
  rw [← hn] at SZ hmore hposi
  have HN := hid hn
  have n0 : 0 ≤ n := by omega
  clear hn hwhole
  obtain ⟨port, ⟨ra, rn, rc⟩, kv, ⟨fa, fn, fc⟩, metas, dr, se, eg, ac⟩ := k
  simp only at hvalid hrn hfl er cr cb1 cb2 cb3
  subst hvalid hrn er
  simp only [SL.v_mk] at cb1 cb2 cb3
  have k1 : (h : Int) < (va.length : Int) := by omega
  have k2 : (h : Int) < (fn : Int) := by omega
  have k3 : (ns.length : Int) = (ws.length : Int) := by omega
  have k4 : ¬ ((l.length : Int) < n) := by omega
  clear hfl hvv hhas hvlt s0
  go_enter Try.func12, Try.ntmps12
  go_upto_region 2 with (go_at_call 21; refine (SZ.out _ (by (repeat' (first | (with_reducible exact Below.refl _ _) | (with_reducible refine Below.ext_mk ?_ ?_ _ _) | (with_reducible refine Below.alloc ?_ ?_ _) | (with_reducible refine Below.drew ?_) | (with_reducible refine Below.setCell ?_ ?_ _) | go_size)))).mono ?_; rintro e w' ⟨rfl, m2, d2, rfl⟩)
  refine wp_gen (fun V hV => ?_)
  have hbV : Below w.heap.size w V := by rw [hV]; (repeat' (first | (with_reducible exact Below.refl _ _) | (with_reducible refine Below.ext_mk ?_ ?_ _ _) | (with_reducible refine Below.alloc ?_ ?_ _) | (with_reducible refine Below.drew ?_) | (with_reducible refine Below.setCell ?_ ?_ _) | go_size))
  have cp : V.cell? ⟨w.heap.size + 1, 0, none⟩ = some (.pointer (some ⟨b, 0, none⟩)) := by rw [hV]; go_simp
  have bp : Blk V w.heap.size 33 [p.heads.v, p.metas.v, p.steps.v, p.acts.v, p.tabs.v, p.control.v, p.emit.v, p.n0.v, p.n1.v, p.n2.v, p.n3.v, p.n4.v] := by
    rw [hV]
    exact (Blk.new w 33 [p.heads.v, p.metas.v, p.steps.v, p.acts.v, p.tabs.v, p.control.v, p.emit.v, p.n0.v, p.n1.v, p.n2.v, p.n3.v, p.n4.v]).below (by (repeat' (first | (with_reducible exact Below.refl _ _) | (with_reducible refine Below.ext_mk ?_ ?_ _ _) | (with_reducible refine Below.alloc ?_ ?_ _) | (with_reducible refine Below.drew ?_) | (with_reducible refine Below.setCell ?_ ?_ _) | go_size)))
  have zp : w.heap.size + 1 < V.heap.size := by rw [hV]; first | (simp; done) | (simp; omega)
  clear hV
  have p0 := bp.cell 0
  have p1 := bp.cell 1
  have p2 := bp.cell 2
  have p3 := bp.cell 3
  have p4 := bp.cell 4
  have p5 := bp.cell 5
  have p6 := bp.cell 6
  have p7 := bp.cell 7
  have p8 := bp.cell 8
  have p9 := bp.cell 9
  have p10 := bp.cell 10
  have p11 := bp.cell 11
  simp only [List.getElem?_cons_zero, List.getElem?_cons_succ] at p0 p1 p2 p3 p4 p5 p6 p7 p8 p9 p10 p11
  have zpb : w.heap.size < V.heap.size := by omega
  have vb1 := (hbV.cell (p := ⟨b, 1, none⟩) zb).trans cb1
  have vb2 := (hbV.cell (p := ⟨b, 2, none⟩) zb).trans cb2
  have vb3 := (hbV.cell (p := ⟨b, 3, none⟩) zb).trans cb3
  have vvh := (hbV.cell (p := ⟨vb, h, none⟩) zvb).trans cvh
  have vrh := (hbV.cell (p := ⟨rb, ro + h, none⟩) zr).trans cr
  have yb : b < V.heap.size := by have := hbV.size; omega
  have yvb : vb < V.heap.size := by have := hbV.size; omega
  have yr : rb < V.heap.size := by have := hbV.size; omega
  have S2 := hid (fun W (hb : Below V.heap.size V W) => SZ.out W (hbV.trans (hb.mono hbV.size)))
  have W2 := hid (fun W (hb : Below V.heap.size V W) => WD.out W (hbV.trans (hb.mono hbV.size)))
  have H2 := hid (fun W (hb : Below V.heap.size V W) => WH.out W (hbV.trans (hb.mono hbV.size)))
  have A2 := hid (fun W (hb : Below V.heap.size V W) => HS.out W (hbV.trans (hb.mono hbV.size)))
  clear SZ WD WH HS cb1 cb2 cb3 cvh cr
  refine wp_region_ext (by kernel_rfl) (by kernel_rfl) (fun F hF => ?_)
  have HF := hid hF; clear hF
  repeat (first
    | (apply text_skip; (focus rfl); simp only [Act.put, List.setIfInBounds_toArray, List.set_cons_zero, List.set_cons_succ])
    | (apply text_val; (focus rfl); (focus (intro _ _; go_simp; with_reducible rfl)); simp only [Act.put, List.setIfInBounds_toArray, List.set_cons_zero, List.set_cons_succ])
    | (apply text_call; (focus rfl); (focus (intro _ _; go_simp; exact ⟨rfl, rfl⟩)); (focus (intro _ _; with_reducible (first | exact A2.out _ (by (repeat' (first | (with_reducible exact Below.refl _ _) | (with_reducible refine Below.ext_mk ?_ ?_ _ _) | (with_reducible refine Below.alloc ?_ ?_ _) | (with_reducible refine Below.drew ?_) | (with_reducible refine Below.setCell ?_ ?_ _) | go_size))) | exact W2.out _ (by (repeat' (first | (with_reducible exact Below.refl _ _) | (with_reducible refine Below.ext_mk ?_ ?_ _ _) | (with_reducible refine Below.alloc ?_ ?_ _) | (with_reducible refine Below.drew ?_) | (with_reducible refine Below.setCell ?_ ?_ _) | go_size))) | exact H2.out _ (by (repeat' (first | (with_reducible exact Below.refl _ _) | (with_reducible refine Below.ext_mk ?_ ?_ _ _) | (with_reducible refine Below.alloc ?_ ?_ _) | (with_reducible refine Below.drew ?_) | (with_reducible refine Below.setCell ?_ ?_ _) | go_size)))))); simp only [Act.put, List.setIfInBounds_toArray, List.set_cons_zero, List.set_cons_succ])
    | (apply text_if; (focus (first | exact wanted_t rfl rfl | exact wanted_f rfl rfl | exact wanted_gt rfl rfl | exact wanted_gf rfl rfl)); (focus (intro hc _ _; (try simp only [Bool.and_eq_true, Bool.not_eq_true', Bool.true_and] at hc); go_simp; with_reducible rfl)); simp only [Act.put, List.setIfInBounds_toArray, List.set_cons_zero, List.set_cons_succ])
    | (apply text_if_call; (focus (first | exact wanted_t rfl rfl | exact wanted_f rfl rfl | exact wanted_gt rfl rfl | exact wanted_gf rfl rfl)); (focus (intro hc _ _; (try simp only [Bool.and_eq_true, Bool.not_eq_true', Bool.true_and] at hc); go_simp; exact ⟨rfl, rfl⟩)); (focus (intro hc _ _; with_reducible (first | exact A2.out _ (by (repeat' (first | (with_reducible exact Below.refl _ _) | (with_reducible refine Below.ext_mk ?_ ?_ _ _) | (with_reducible refine Below.alloc ?_ ?_ _) | (with_reducible refine Below.drew ?_) | (with_reducible refine Below.setCell ?_ ?_ _) | go_size))) | exact W2.out _ (by (repeat' (first | (with_reducible exact Below.refl _ _) | (with_reducible refine Below.ext_mk ?_ ?_ _ _) | (with_reducible refine Below.alloc ?_ ?_ _) | (with_reducible refine Below.drew ?_) | (with_reducible refine Below.setCell ?_ ?_ _) | go_size))) | exact H2.out _ (by (repeat' (first | (with_reducible exact Below.refl _ _) | (with_reducible refine Below.ext_mk ?_ ?_ _ _) | (with_reducible refine Below.alloc ?_ ?_ _) | (with_reducible refine Below.drew ?_) | (with_reducible refine Below.setCell ?_ ?_ _) | go_size)))))); simp only [Act.put, List.setIfInBounds_toArray, List.set_cons_zero, List.set_cons_succ]))
  refine text_nil (HF.out _ (fun mx dx => ?_))
  clear HF F
  go_wp2_with (go_at_call 35; refine (W2.out _ (by (repeat' (first | (with_reducible exact Below.refl _ _) | (with_reducible refine Below.ext_mk ?_ ?_ _ _) | (with_reducible refine Below.alloc ?_ ?_ _) | (with_reducible refine Below.drew ?_) | (with_reducible refine Below.setCell ?_ ?_ _) | go_size)))).mono ?_; rintro e w' ⟨rfl, m5, d5, rfl⟩)
  refine wp_gen (fun X hX => ?_)
  have hbX : Below V.heap.size V X := by rw [hX]; (repeat' (first | (with_reducible exact Below.refl _ _) | (with_reducible refine Below.ext_mk ?_ ?_ _ _) | (with_reducible refine Below.alloc ?_ ?_ _) | (with_reducible refine Below.drew ?_) | (with_reducible refine Below.setCell ?_ ?_ _) | go_size))
  have bi := Blk.new (V.ext mx dx) 3 [.int .i64 0]
  rw [World.size_ext] at bi
  have bI : Blk X (V.heap.size + mx.size) 3 [.int .i64 0] := by rw [hX]; exact bi.below (by (repeat' (first | (with_reducible exact Below.refl _ _) | (with_reducible refine Below.ext_mk ?_ ?_ _ _) | (with_reducible refine Below.alloc ?_ ?_ _) | (with_reducible refine Below.drew ?_) | (with_reducible refine Below.setCell ?_ ?_ _) | go_size)))
  have hi1 : V.heap.size ≤ V.heap.size + mx.size := by omega
  clear hX bi
  have hbwX : Below w.heap.size w X := hbV.trans (hbX.mono hbV.size)
  have T := HT.out.below hbwX
  have hsw : w.heap.size ≤ V.heap.size := hbV.size
  have cpX := (hbX.cell (p := ⟨w.heap.size + 1, 0, none⟩) zp).trans cp
  have zpX : w.heap.size + 1 < X.heap.size := by have := hbX.size; omega
  have gw := HT.out.gblk.lt
  have hF := HT.out.few
  have hws : (headAt hs (h : Int)) = (⟨wa, ws.length, wc⟩, ws) := HH.out.symm
  have i1w : w.heap.size + 1 < V.heap.size + mx.size := by omega
  have pX : ∀ i, i < 12 → X.cell? ⟨w.heap.size, i, none⟩ = V.cell? ⟨w.heap.size, i, none⟩ := fun i _ => hbX.cell (p := ⟨w.heap.size, i, none⟩) zpb
  generalize V.heap.size + mx.size = i1 at *
  have TH := hid T
  have CR := hid HT.out.row
  have hbs := hbX.size
  clear p0 p1 p2 p3 p4 p5 p6 p7 p8 p9 p10 p11 vb1 vb2 vb3 vvh vrh S2 H2 A2 cp bp
  obtain ⟨N, hN⟩ : ∃ N, N = takeN l 0 ws := ⟨_, rfl⟩
  have hNl : N.length = ns.length := by rw [hN, takeN_length]; omega
  have Hn := hid hN
  clear hN
  have R0 := hid HT.out.rest
  have A0 := hid HT.out.aw2
  have WS0 := hid (HT.out.heads.at (h : Int))
  have AW0 := hid HT.out.aw1
  rw [hws] at WS0 AW0
  have hsum := hF.sum
  have hpos := hF.pos
  have hwm := WS0.out.2.1
  simp only at hwm
  rw [hws] at hsum hpos
  simp only at hsum hpos
  have hFew : Few ws := ⟨hpos, hsum⟩
  have hwh := HT.out.whole
  rw [hws] at hwh
  simp only at hwh
  have HWH := hid hwh
  clear hwh
  have hbytes := HT.out.bytes
  have hsmall := HT.out.small
  go_loopw [65] (fun i wr => ∃ j : Nat, j ≤ ws.length ∧ i = .int .i64 j ∧ Turn X wr [g, i1] ∧ Blk wr i1 3 [.int .i64 (((ws.take j).sum.toNat : Nat) : Int)] ∧ Blk wr g 45 (nums (mixN N ns j))) (fun i _ => ws.length - (intOf i).toNat)
  case atStart => exact ⟨0, by omega, rfl, Turn.refl _ _, by simpa using bI, by rw [mixN_zero]; exact TH.out.gblk⟩
  case round =>
    obtain ⟨j, hj, rfl, tr, bi, bg⟩ := hrel
    by_cases hlt : j < ws.length
    · have hj1 : (j : Int) < (ws.length : Int) := by omega
      have hL1 : ∀ q ∈ [g, i1], q ∈ [b, vb, g] ∨ w.heap.size ≤ q := fun q hq => by
        simp at hq; rcases hq with rfl | rfl
        · exact .inl (by simp)
        · exact .inr (by omega)
      obtain ⟨wb, wo, ew, zw, cw⟩ := RdS.intAt (RdS.away WS0.out hbwX tr AW0.out hL1) hlt
      simp only at ew
      subst ew
      obtain ⟨x, hx⟩ : ∃ x, x = ws[j] := ⟨_, rfl⟩
      rw [← hx] at cw
      have hx0 : 0 ≤ x := by rw [hx]; exact hpos _ (List.getElem_mem _)
      have hsn := sum_snoc ws hlt
      rw [← hx] at hsn
      have sm := sum_mono hpos j
      have sm1 := sum_mono hpos (j + 1)
      obtain ⟨A, hA⟩ : ∃ A : Nat, A = (ws.take j).sum.toNat := ⟨_, rfl⟩
      have hA1 : (ws.take (j + 1)).sum.toNat = A + x.toNat := by omega
      have hAl : A + x.toNat ≤ 100000 := by omega
      have hA8 : ∀ c, c < x.toNat → (A + c) / 8 < l.length := fun c hc => by have := HN.out; have := HWH.out; omega
      rw [← hA] at bi
      have hNj : N[j]? = some (valN l A x.toNat) := by
        rw [Hn.out, takeN_at l ws 0 j hpos hlt, hA, hx, Nat.zero_add]
      have HX := hid hx
      clear hx hsn sm sm1 hA
      go_upto_region 10 with (fail)
      refine wp_gen (fun Y hY => ?_)
      have hbY : Below wr.heap.size wr Y := by rw [hY]; (repeat' (first | (with_reducible exact Below.refl _ _) | (with_reducible refine Below.ext_mk ?_ ?_ _ _) | (with_reducible refine Below.alloc ?_ ?_ _) | (with_reducible refine Below.drew ?_) | (with_reducible refine Below.setCell ?_ ?_ _) | go_size))
      have bz : Blk Y wr.heap.size 45 [.int .u64 0, .int .u64 0] := by rw [hY]; exact Blk.new wr 45 [.int .u64 0, .int .u64 0]
      clear hY
      have biY := bi.below hbY
      have bgY := bg.below hbY
      have trY : Turn X Y [g, i1] := tr.trans (Turn.of_below hbY)
      have hzX : X.heap.size ≤ wr.heap.size := tr.size
      have i1X := bI.lt
      have zi1 : wr.heap.size ≠ i1 := by omega
      have zg : wr.heap.size ≠ g := by omega
      generalize wr.heap.size = z at *
      clear bi bg tr hbY
      go_wp2_with fail
      go_loopw [71] (fun i wq => ∃ c : Nat, c ≤ x.toNat ∧ i = .int .i64 c ∧ Turn Y wq [i1, z] ∧ Blk wq i1 3 [.int .i64 ((A + c : Nat) : Int)] ∧ Blk wq z 45 [.int .u64 (hi (valN l A c)), .int .u64 (lo (valN l A c))]) (fun i _ => x.toNat - (intOf i).toNat)
      case atStart => exact ⟨0, by omega, rfl, Turn.refl _ _, biY, by rw [show valN l A 0 = 0#128 from rfl, show hi 0#128 = 0 from rfl, show lo 0#128 = 0 from rfl]; exact bz⟩
      case round =>
        obtain ⟨c, hc, rfl, tq, bi, bzq⟩ := hrel
        have trq : Turn X wr [g, i1, z] := (trY.weak (by simp)).trans (tq.weak (by simp))
        by_cases hlc : c < x.toNat
        · have hc1 : (c : Int) < x := by omega
          have hLq : ∀ q ∈ [g, i1, z], q ∈ [b, vb, g] ∨ w.heap.size ≤ q := fun q hq => by
            simp at hq; rcases hq with rfl | rfl | rfl
            · exact .inl (by simp)
            · exact .inr (by omega)
            · exact .inr (by omega)
          have hbn : b ∉ [g, i1, z] := by
            have := TH.out.ne2
            simp; omega
          have bB := trq.blk TH.out.blk hbn
          have rR := RdS.away R0.out hbwX trq A0.out hLq
          have cI := trq.cell zpX (by simp; omega) cpX
          have zI : w.heap.size + 1 < wr.heap.size := by have := trq.size; omega
          have BT := fun m d => bit1_any (bB.ext m d) (rR.below (Below.ext_mk (Below.refl _ _) (Nat.le_refl _) m d)) hbytes (i0 := w.heap.size + 1) ⟨by rw [World.size_ext]; omega, ((Below.ext_mk (Below.refl wr.heap.size wr) (Nat.le_refl _) m d).cell (p := ⟨w.heap.size + 1, 0, none⟩) zI).trans cI⟩ (bi.ext m d) (hA8 c hlc) (by omega)
          have SH := fun W => shl_any (valN l A c) 1 128 (by omega) (by omega) (by omega) (by omega) W
          rw [show (sh 1).toNat = 1 from rfl] at SH
          have hbi := bitAt_le l (A + c)
          have OF := fun W => of_any (bitAt l (A + c)) (by omega) W
          have OR := fun W => or_any ((valN l A c <<< 1) &&& maskOf 128) (ofN (bitAt l (A + c))) W
          rw [show ((valN l A c <<< 1) &&& maskOf 128) ||| ofN (bitAt l (A + c)) = valN l A (c + 1) from rfl] at OR
          have e0 := bzq.cell 0
          have e1 := bzq.cell 1
          have ze := bzq.lt
          simp only [List.getElem?_cons_zero, List.getElem?_cons_succ] at e0 e1
          go_upto_region 12 with (fail)
          refine wp_region_doc (fun F' hF' => ?_)
          have HF := hid hF'
          clear hF'
          refine doc_val rfl (by first | (go_simp; done) | (go_simp; exact ⟨rfl, rfl⟩) | (go_simp; with_reducible rfl)) ?_
          simp only [Act.put, List.setIfInBounds_toArray, List.set_cons_zero, List.set_cons_succ]
          refine doc_call rfl (by first | (go_simp; done) | (go_simp; exact ⟨rfl, rfl⟩) | (go_simp; with_reducible rfl)) ((SH _).mono ?_)
          rintro e w1 ⟨rfl, m1, d1, rfl⟩
          refine ⟨_, rfl, ?_⟩
          simp only [Act.put, List.setIfInBounds_toArray, List.set_cons_zero, List.set_cons_succ]
          refine doc_val rfl (by first | (go_simp; done) | (go_simp; exact ⟨rfl, rfl⟩) | (go_simp; with_reducible rfl)) ?_
          simp only [Act.put, List.setIfInBounds_toArray, List.set_cons_zero, List.set_cons_succ]
          refine doc_call rfl (by first | (go_simp; done) | (go_simp; exact ⟨rfl, rfl⟩) | (go_simp; with_reducible rfl)) ((BT m1 d1).mono ?_)
          rintro e w2 ⟨rfl, m3, d3, rfl⟩
          refine ⟨_, rfl, ?_⟩
          simp only [Act.put, List.setIfInBounds_toArray, List.set_cons_zero, List.set_cons_succ]
          refine doc_call rfl (by first | (go_simp; done) | (go_simp; exact ⟨rfl, rfl⟩) | (go_simp; with_reducible rfl)) ((OF _).mono ?_)
          rintro e w2 ⟨rfl, m4, d4, rfl⟩
          refine ⟨_, rfl, ?_⟩
          simp only [Act.put, List.setIfInBounds_toArray, List.set_cons_zero, List.set_cons_succ]
          refine doc_call rfl (by first | (go_simp; done) | (go_simp; exact ⟨rfl, rfl⟩) | (go_simp; with_reducible rfl)) ((OR _).mono ?_)
          rintro e w2 ⟨rfl, m6, d6, rfl⟩
          refine ⟨_, rfl, ?_⟩
          simp only [Act.put, List.setIfInBounds_toArray, List.set_cons_zero, List.set_cons_succ]
          have bz2 : ∀ m1 d1 m d m' d', Blk ((((wr.ext m1 d1).setCell ⟨i1, 0, none⟩ (.int .i64 ((A : Int) + (c : Int) + 1))).ext m d).ext m' d') z 45 [.int .u64 (hi (valN l A c)), .int .u64 (lo (valN l A c))] :=
            fun m1 d1 m d m' d' => (((bzq.ext m1 d1).far (fun e => zi1 e.symm) 0 _).ext m d).ext m' d'
          refine doc_skip rfl (hstore_num _ _ _ _ _ _ _ _ rfl rfl (bz2 _ _ _ _ _ _)) ?_
          simp only [Act.put, List.setIfInBounds_toArray, List.set_cons_zero, List.set_cons_succ]
          refine doc_end (HF.out _ _ ?_)
          clear HF F' BT SH OF OR bz2
          go_upto_region 13 with (fail)
          refine wp_gen (fun Z hZ => ?_)
          obtain ⟨s1, s2, s3⟩ : Turn Y Z [i1, z] ∧ Blk Z i1 3 [.int .i64 ((A : Int) + (c : Int) + 1)] ∧ Blk Z z 45 [.int .u64 (hi (valN l A (c + 1))), .int .u64 (lo (valN l A (c + 1)))] := by
            rw [hZ]; exact take_step tq bi bzq zi1
          clear hZ tq bi bzq trq bB rR cI zI e0 e1 ze
          have hcc : ((A : Int) + (c : Int) + 1) = ((A + (c + 1) : Nat) : Int) := by omega
          rw [hcc] at s2
          go_wp2_with fail
          go_roundw
          case rel => exact ⟨c + 1, hlc, by go_num, s1, s2, s3⟩
          case measure => simp [intOf]; omega
        · have hcx : c = x.toNat := by omega
          subst hcx
          have hbn : b ∉ [g, i1, z] := by
            have := TH.out.ne2
            simp; omega
          have bB := trq.blk TH.out.blk hbn
          have f3 := bB.cell 3
          simp only [List.getElem?_cons_zero, List.getElem?_cons_succ] at f3
          have zB := bB.lt
          have cI := trq.cell zpX (by simp; omega) cpX
          have zI : w.heap.size + 1 < wr.heap.size := by have := trq.size; omega
          have hLq : ∀ q ∈ [g, i1, z], q ∈ [b, vb, g] ∨ w.heap.size ≤ q := fun q hq => by
            simp at hq; rcases hq with rfl | rfl | rfl
            · exact .inl (by simp)
            · exact .inr (by omega)
            · exact .inr (by omega)
          obtain ⟨rb', ro', er', zr', hrl', cr'⟩ := (RdS.away CR.out hbwX trq HT.out.aw3 hLq).one (i := h) (u := .slice (some ⟨g, 0, none⟩) ns.length ns.length) (by rw [List.getElem?_map, HT.out.here]; rfl)
          simp only [Option.some.injEq, Addr.mk.injEq, and_true] at er'
          obtain ⟨rfl, rfl⟩ := er'
          simp only at hrl'
          have e0 := bzq.cell 0
          have e1 := bzq.cell 1
          have ze := bzq.lt
          simp only [List.getElem?_cons_zero, List.getElem?_cons_succ] at e0 e1
          have bgq := tq.blk bgY (by simp; omega)
          have trX : Turn X wr [g, i1] := trY.from tq (fun i hi => by
            simp at hi; rcases hi with rfl | rfl
            · exact .inl (by simp)
            · exact .inr (by omega))
          have zgq := bgq.lt
          have hjn : (j : Int) < (ns.length : Int) := by omega
          have hj0 : (0 : Int) ≤ (j : Int) := by omega
          have hh0 : (0 : Int) ≤ (h : Int) := by omega
          have hjl : j * 2 + 1 < (nums (mixN N ns j)).length := by rw [nums_length, mixN_length N ns hNl]; omega
          rw [← hA1] at bi
          have hgi : g ≠ i1 := by omega
          clear trq bB tq bzq biY bgY trY hLq hbn
          go_upto_region 14 with (fail)
          refine wp_region_store 10 (by kernel_rfl) (by kernel_rfl) (by kernel_rfl) rfl (fun F' hF' G' hG' => ?_)
          simp only [List.take_succ_cons, List.take_zero, List.drop_succ_cons, List.drop_zero] at hG' ⊢
          have HF := hid hF'
          clear hF'
          have HG := hid hG'
          clear hG'
          repeat (first
            | (apply text_val; (focus rfl); (focus (intro _ _; go_simp; with_reducible rfl)); simp only [Act.put, List.setIfInBounds_toArray, List.set_cons_zero, List.set_cons_succ]))
          refine text_nil (HG.out _ ?_)
          clear HG G'
          apply store_step (W2 := (wr.setCell ⟨g, j * 2, none⟩ (.int .u64 (hi (valN l A x.toNat)))).setCell ⟨g, j * 2 + 1, none⟩ (.int .u64 (lo (valN l A x.toNat))))
          · rfl
          · intro m d
            refine ⟨m, d, (store_num_at _ _ _ _ _ _ _ _ rfl rfl (bgq.ext m d) hjl).trans ?_⟩
            simp [zgq]
          refine both_nil (HF.out _ _ (fun m9 d9 => ?_))
          clear HF F'
          go_upto_region 15 with (fail)
          refine wp_gen (fun Z hZ => ?_)
          obtain ⟨s1, s2⟩ : Turn X Z [g, i1] ∧ Blk Z g 45 (nums (mixN N ns (j + 1))) := by
            rw [hZ]; exact take_put trX bgq hNl hNj
          have s3 : Blk Z i1 3 [.int .i64 (((ws.take (j + 1)).sum.toNat : Nat) : Int)] := by
            rw [hZ]; exact ((bi.far hgi _ _).far hgi _ _).ext _ _
          clear hZ
          go_wp2_with fail
          go_roundw
          case rel => exact ⟨j + 1, hlt, by go_num, s1, s3, s2⟩
          case measure => simp [intOf]; omega
    · have hje : j = ws.length := by omega
      subst hje
      clear bi
      rw [show ws.length = N.length by omega, mixN_end N ns hNl] at bg
      have hL1 : ∀ q ∈ [g, i1], q ∈ [b, vb, g] ∨ w.heap.size ≤ q := fun q hq => by
        simp at hq; rcases hq with rfl | rfl
        · exact .inl (by simp)
        · exact .inr (by omega)
      have hb2 : b ∉ [g, i1] := by have := TH.out.ne2; simp; omega
      have hvb2 : vb ∉ [g, i1] := by have := TH.out.ne3; simp; omega
      have bB := tr.blk TH.out.blk hb2
      have vB := tr.blk TH.out.vblk hvb2
      have rR := RdS.away R0.out hbwX tr A0.out hL1
      have cI := tr.cell zpX (by simp; omega) cpX
      have zI : w.heap.size + 1 < wr.heap.size := by have := tr.size; omega
      obtain ⟨nn, hnn⟩ : ∃ nn : Nat, n = (nn : Int) := ⟨n.toNat, by omega⟩
      subst hnn
      obtain ⟨q, qo, eq, zq, _⟩ := rR.2.2.2 (by simp only; omega)
      simp only at eq
      subst eq
      have hrc0 := rR.1
      simp only at hrc0
      have rDp : rc = nn → RdS wr.drew 1 ⟨some ⟨q, qo, none⟩, 0, 0⟩ (byts (l.drop nn)) := fun hne => by
        rw [List.drop_eq_nil_of_le (by omega)]; exact ⟨Nat.le_refl _, by simp, by simp [byts], fun h => by simp at h⟩
      have rDn := (rR.drop (nn := nn) (by omega)).below (Below.drew (Below.refl wr.heap.size wr))
      have hl0 : rc = nn → l.length = nn := fun hne => by omega
      have hdl : (l.drop nn).length ≤ 100000 := by rw [List.length_drop]; omega
      by_cases hne : rc = nn
      all_goals
        first
          | (obtain ⟨r, W1, cl, cr1, cr2, cr3, cr4⟩ := clone_all (rDp hne) hdl; have hl1 := hl0 hne)
          | obtain ⟨r, W1, cl, cr1, cr2, cr3, cr4⟩ := clone_all rDn hdl
        clear rDp rDn hl0 hdl
        obtain ⟨W2, hW2⟩ : ∃ W2, W2 = W1.setCell ⟨b, 1, none⟩ r.v := ⟨_, rfl⟩
        obtain ⟨W3, hW3⟩ : ∃ W3, W3 = W2.setCell ⟨vb, h, none⟩ (.bool true) := ⟨_, rfl⟩
        have hd0 : Below wr.heap.size wr wr.drew := Below.drew (Below.refl _ _)
        have hB1 : Below wr.heap.size wr W1 := hd0.trans cr3
        have hB : ∀ w', (w' = wr.drew ∨ w' = W1) → Below wr.heap.size wr w' := fun w' hw => by rcases hw with rfl | rfl; exact hd0; exact hB1
        have b1 := bB.cell 1
        have b2 := bB.cell 2
        simp only [List.getElem?_cons_zero, List.getElem?_cons_succ, SL.v_mk] at b1 b2
        have C0 : ∀ w', (w' = wr.drew ∨ w' = W1) → w'.cell? ⟨w.heap.size + 1, 0, none⟩ = some (.pointer (some ⟨b, 0, none⟩)) := fun w' hw => ((hB w' hw).cell (p := ⟨w.heap.size + 1, 0, none⟩) zI).trans cI
        have C1 : ∀ w', (w' = wr.drew ∨ w' = W1) → w'.cell? ⟨b, 1, none⟩ = some (.slice (some ⟨q, qo, none⟩) l.length rc) := fun w' hw => ((hB w' hw).cell (p := ⟨b, 1, none⟩) bB.lt).trans b1
        have C2 : ∀ w', (w' = wr.drew ∨ w' = W1) → w'.cell? ⟨b, 2, none⟩ = some (.slice (some ⟨vb, 0, none⟩) va.length va.length) := fun w' hw => ((hB w' hw).cell (p := ⟨b, 2, none⟩) bB.lt).trans b2
        have B1 := bB.below hB1
        have V1 := vB.below hB1
        have E1 := C1 W1 (.inr rfl)
        have F1 := B1.free 1
        have V2 : Blk W2 vb 4 (bools va) := by rw [hW2]; exact V1.far TH.out.ne1 _ _
        have E2 := V2.cell h
        rw [show (bools va)[h]? = some (.bool false) by simp [bools, HT.out.off]] at E2
        have F2 := V2.free h
        have hnl : (nn : Int) ≤ (l.length : Int) := by omega
        have hnc : (l.length : Int) ≤ (rc : Int) := by have := rR.1; simp only at this; omega
        have hh0 : (0 : Int) ≤ (h : Int) := by omega
        have CL := hid cl
        have KB := hid bB
        have KV := hid vB
        have KG := hid bg
        have KR := hid (And.intro tr (And.intro cr1 (And.intro cr2 cr4)))
        have KW := hid (And.intro hW2 hW3)
        have D0 := hid C0
        have D1 := hid C1
        have D2 := hid C2
        have e3 : W2.setCell ⟨vb, h, none⟩ (.bool true) = W3 := hW3.symm
        have e2 : W1.setCell ⟨b, 1, none⟩ r.v = W2 := hW2.symm
        clear cl bB vB bg tr cr1 cr2 cr3 rR b1 b2 C0 C1 C2 hB B1 V1 V2 hW2 hW3
        go_upto_region 16 with (fail)
        refine wp_region_stage [12, 15, 17] (fun i w => (i = 0 → w = wr.drew) ∧ (i = 1 → w = W1) ∧ (i = 2 → w = W2) ∧ (i = 3 → w = W3)) (by kernel_rfl) (by kernel_rfl) (by kernel_rfl) (by kernel_rfl) ⟨fun _ => rfl, fun h => by omega, fun h => by omega, fun h => by omega⟩ (fun F' hF' => ?_)
        have HF := hid hF'
        clear hF'
        repeat (first
          | (apply sg_any; (focus rfl); (focus rfl); (focus (intro _; go_simp; with_reducible rfl)); simp only [Act.put, List.setIfInBounds_toArray, List.set_cons_zero, List.set_cons_succ])
          | (apply sg_read 0 1; (focus rfl); (focus (decide +kernel)); (focus (decide +kernel)); (focus rfl); (focus (intro i w' l u hR; have hw : w' = wr.drew ∨ w' = W1 := by { rcases (show i = 0 ∨ i = 1 by omega) with rfl | rfl; exact .inl (hR.1 rfl); exact .inr (hR.2.1 rfl) }; have d0 := D0.out w' hw; have d1 := D1.out w' hw; have d2 := D2.out w' hw; clear hR hw; go_simp; with_reducible rfl)); simp only [Act.put, List.setIfInBounds_toArray, List.set_cons_zero, List.set_cons_succ])
          | (apply sg_read 0 0; (focus rfl); (focus (decide +kernel)); (focus (decide +kernel)); (focus rfl); (focus (intro i w' l u hR; have hw : w' = wr.drew ∨ w' = W1 := by { rcases (show i = 0 by omega) with rfl; exact .inl (hR.1 rfl) }; have d0 := D0.out w' hw; have d1 := D1.out w' hw; have d2 := D2.out w' hw; clear hR hw; go_simp; with_reducible rfl)); simp only [Act.put, List.setIfInBounds_toArray, List.set_cons_zero, List.set_cons_succ]))
        apply sg_turn_call 0
        · rfl
        · rfl
        · intro _; go_simp; exact ⟨rfl, rfl⟩
        · intro w' hR
          obtain rfl := hR.1 rfl
          exact CL.out.mono fun e w'' ⟨q1, q2⟩ => ⟨q1, fun h => by omega, fun _ => q2, fun h => by omega, fun h => by omega⟩
        simp only [Act.put, List.setIfInBounds_toArray, List.set_cons_zero, List.set_cons_succ]
        repeat (apply sg_any; (focus rfl); (focus rfl); (focus (intro _; go_simp; with_reducible rfl)); simp only [Act.put, List.setIfInBounds_toArray, List.set_cons_zero, List.set_cons_succ])
        apply sg_do 1
        · rfl
        · rfl
        · intro w' hR
          obtain rfl := hR.2.1 rfl
          refine ⟨W2, ?_, fun h => by omega, fun h => by omega, fun _ => rfl, fun h => by omega⟩
          rw [← e2]
          go_simp
        simp only [Act.put, List.setIfInBounds_toArray, List.set_cons_zero, List.set_cons_succ]
        repeat (apply sg_any; (focus rfl); (focus rfl); (focus (intro _; go_simp; with_reducible rfl)); simp only [Act.put, List.setIfInBounds_toArray, List.set_cons_zero, List.set_cons_succ])
        apply sg_do 2
        · rfl
        · rfl
        · intro w' hR
          obtain rfl := hR.2.2.1 rfl
          refine ⟨W3, ?_, fun h => by omega, fun h => by omega, fun h => by omega, fun _ => rfl⟩
          rw [← e3]
          go_simp
        simp only [Act.put, List.setIfInBounds_toArray, List.set_cons_zero, List.set_cons_succ]
        refine sg_end (HF.out _ (fun w' hR => ?_))
        obtain rfl := hR.2.2.2 rfl
        clear hR HF F'
        go_wp2
        go_returns
        obtain ⟨tr, cr1, cr2, cr4⟩ := KR.out
        obtain ⟨hW2, hW3⟩ := KW.out
        have hTw : Turn w w' [b, vb, g] := by
          have h1 : Turn w X [b, vb, g] := Turn.of_below hbwX
          have h2 : Turn w wr [b, vb, g] := h1.from tr (fun i hi => by
            simp at hi; rcases hi with rfl | rfl
            · exact .inl (by simp)
            · exact .inr (by omega))
          have h3 : Turn wr W1 [b, vb, g] := Turn.of_below hB1
          have h4 : Turn W1 W2 [b, vb, g] := by rw [hW2]; exact Turn.set_ b _ _ (by simp)
          have h5 : Turn W2 w' [b, vb, g] := by rw [hW3]; exact Turn.set_ vb _ _ (by simp)
          exact h2.trans (h3.trans (h4.trans h5))
        have ne1 := TH.out.ne1
        have ne2 := TH.out.ne2
        have ne3 := TH.out.ne3
        refine ⟨rfl, hTw, ?_, ?_, r, ?_, ?_, ?_, ?_⟩
        · rw [hW3, hW2, show bools (va.set h true) = (bools va).set h (.bool true) by simp [bools, List.map_set]]
          exact ((KV.out.below hB1).far ne1 _ _).set_ _ _
        · rw [hW3, hW2, hws, ← Hn.out]
          exact ((KG.out.below hB1).far ne2 _ _).far ne3 _ _
        · rw [hW3, hW2]
          exact ((KB.out.below hB1).set_ 1 r.v).far (fun e => ne1 e.symm) _ _
        · rw [hws, show (ws.sum / 8).toNat = nn by have := HN.out; omega]
          refine cr1.keep (by rw [hW3, hW2]; simp [World.setCell]) (fun q' o' e z' => ?_)
          have hq := cr2 q' o' e
          have hz : wr.heap.size ≤ q' := by simpa using hq
          have z1 := KB.out.lt
          have z2 := KV.out.lt
          rw [hW3, hW2, Below.heap_setCell _ _ _ _ (by simp; omega), Below.heap_setCell _ _ _ _ (by simp; omega)]
        · intro q' o' e
          have hq := cr2 q' o' e
          have hz : wr.heap.size ≤ q' := by simpa using hq
          have := tr.size
          have := hbwX.size
          omega
        · intro q' o' e
          have := cr4 q' o' e
          rw [hW3, hW2]; simpa [World.setCell] using this
end
end Go.Proofs.Ytkblldmpdihamaa
