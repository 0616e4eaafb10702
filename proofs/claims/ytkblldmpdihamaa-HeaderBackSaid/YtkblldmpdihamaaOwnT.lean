/-
  Package header: Take of a packet in memory of its own.
-/
import Derived.Test.YtkblldmpdihamaaOwn
import Derived.Test.YtkblldmpdihamaaRefHN
set_option linter.unusedVariables false
set_option linter.unusedSimpArgs false
namespace Go.Proofs.Ytkblldmpdihamaa
open Go.RowKit

theorem hok_facts {ws : List Int} (h : HOk ws) : Few ws ∧ ws.sum % 8 = 0 ∧ 1 ≤ ws.sum / 8 ∧ ws.sum ≤ 256 := by
  refine ⟨wok_few h.ok h.hi, h.whole, ?_, h.few⟩
  have h1 : 1 ≤ ws.sum := by
    have hlo := h.lo
    cases ws with
    | nil => simp at hlo
    | cons x r =>
      have hx := wok_range h.ok x (List.mem_cons_self ..)
      have hr := wok_sum (ws := r) (by have := h.ok; simp at this ⊢; exact this.2)
      rw [List.sum_cons]; omega
  have := h.whole
  omega

section
variable {w : World} {p : PG} {hs : List (SL × List Int)} {b vb g h : Nat} {gs : List Nat} {k : PK} {l : List Nat} {va : List Bool} {nss : List (List (BitVec 128))} {mt : List (BitVec 128)} {ns : List (BitVec 128)} {v : Bool}
theorem take_pkt (T : PktIs w b vb gs k l va nss mt) (H : HeadsAre w p.heads hs) (hA : Away (headAt hs h).1 (b :: vb :: gs)) (hok : HOk (headAt hs h).2) (hg : gs[h]? = some g) (hns : nss[h]? = some ns)
    (hnl : ns.length = (headAt hs h).2.length) (hoff : va[h]? = some false) (hmore : (headAt hs h).2.sum / 8 ≤ l.length) :
    Calls Try.prog 12 #[p.v, .pointer (some ⟨b, 0, none⟩), .int .i64 h] w (fun e w' => e = .returned (.bool true) ∧ Turn w w' [b, vb, g] ∧
      ∃ r, Fresh w.heap.size r ∧ PktIs w' b vb gs { k with rest := r } (l.drop ((headAt hs h).2.sum / 8).toNat) (va.set h true) (nss.set h (takeN l 0 (headAt hs h).2)) mt) := by
  obtain ⟨hF, hw8, hpos, _⟩ := hok_facts hok
  have hgm := T.mem hg
  have hgl := List.mem_of_getElem? hg
  have sub : ∀ q ∈ [b, vb, g], q ∈ b :: vb :: gs := fun q hq => by
    simp at hq ⊢
    rcases hq with rfl | rfl | rfl
    · exact .inl rfl
    · exact .inr (.inl rfl)
    · exact .inr (.inr hgl)
  have aw : ∀ {s : SL}, Away s (b :: vb :: gs) → Away s [b, vb, g] := fun ha q off e hm => ha q off e (sub q hm)
  have hlt := (List.getElem?_eq_some_iff.1 hoff).1
  have hnlt := (List.getElem?_eq_some_iff.1 hns).1
  have TI : TakeIn w p hs k b vb g h l va (fsOf gs nss) ns :=
    ⟨H, hF, hw8, T.blk, T.rest, T.bytes, hmore, hpos, T.few.2.2.2, T.valid, T.vblk, hoff, T.row, fsOf_at gs nss h g ns hg hns, T.each h g ns hg hns, hnl, T.bvb, fun e => hgm.2.1 e.symm, fun e => hgm.2.2 e.symm, aw hA, aw T.aRest, aw T.aRow, by have := T.few.1; omega⟩
  refine (take_ok TI).mono ?_
  rintro e w' ⟨rfl, tT, tV, tG, r, tB, tR, tF, tL⟩
  refine ⟨rfl, tT, r, tF, tB, tR, fun x hx => T.bytes x (List.mem_of_mem_drop hx), by rw [List.length_set]; exact T.valid, tV, ?_, by rw [List.length_set]; exact T.len, ?_, tT.rd T.metas (aw T.aMet), T.nodup, ?_, ?_, T.aRow, T.aMet⟩
  · have := tT.rd T.row (aw T.aRow)
    rw [fsOf_rows gs nss (nss.set h (takeN l 0 (headAt hs h).2)) ?_] at this
    · exact this
    · rw [List.map_set, takeN_length, ← hnl]
      apply List.ext_getElem?
      intro i
      rw [List.getElem?_set]
      split
      · rename_i e
        subst e
        rw [List.getElem?_map, hns]
        simp [hnlt]
      · rfl
  · intro i g' ns' hg' hn'
    rw [List.getElem?_set] at hn'
    by_cases e : h = i
    · subst e
      rw [if_pos rfl, if_pos hnlt] at hn'
      cases hn'
      rw [hg] at hg'
      cases hg'
      exact tG
    · rw [if_neg e] at hn'
      have hgm' := T.mem hg'
      exact tT.blk (T.each i g' ns' hg' hn') (by
        simp only [List.mem_cons, List.not_mem_nil, or_false, not_or]
        exact ⟨hgm'.2.1, hgm'.2.2, fun q => e (T.inj hg (q ▸ hg'))⟩)
  · refine ⟨by rw [List.length_set]; exact T.few.1, by rw [List.length_set]; exact T.few.2.1, fun x hx => ?_, by rw [List.length_drop]; have := T.few.2.2.2; omega⟩
    rcases List.mem_or_eq_of_mem_set hx with hx | rfl
    · exact T.few.2.2.1 x hx
    · rw [takeN_length, ← hnl]; exact T.few.2.2.1 ns (List.mem_of_getElem? hns)
  · intro q off e hm
    have hq := tF q off e
    simp only [List.mem_cons] at hm
    rcases hm with hm | hm | hm
    · have := T.blk.lt; omega
    · have := T.vblk.lt; omega
    · obtain ⟨i, hi⟩ := List.getElem?_of_mem hm
      have := (T.mem hi).1; omega
set_option maxRecDepth 100000 in
set_option maxHeartbeats 4000000 in
theorem take_fail (T : PktIs w b vb gs k l va nss mt) (H : HeadsAre w p.heads hs) (hF : Few (headAt hs h).2) (hwho : (headAt hs h).2.sum % 8 = 0) (hg : gs[h]? = some g) (hns : nss[h]? = some ns)
    (hnl : ns.length = (headAt hs h).2.length) (hoff : va[h]? = some v) (hbad : v = true ∨ (l.length : Int) < (headAt hs h).2.sum / 8) :
    Calls Try.prog 12 #[p.v, .pointer (some ⟨b, 0, none⟩), .int .i64 h] w (Pure (.bool false) w) := by
  have HH0 := hid H
  have hmf : ∀ (fn : Fn) (first cap : Array Value) (w : World), (Instr.makeFunc fn first cap).run Try.prog w = .ok (.func fn first cap) w := fun _ _ _ _ => rfl
  have HT := hid T
  have SZ := hid (fun V (hb : Below w.heap.size w V) => size_any (HH0.out.below hb) (h : Int) hF)
  have WD := hid (fun V (hb : Below w.heap.size w V) => widths_any (HH0.out.below hb) (h : Int))
  have WH := hid (fun V (hb : Below w.heap.size w V) => whole_any ((HH0.out.below hb).at (h : Int)) hF)
  have HS := hid (fun V (hb : Below w.heap.size w V) => has_any (HT.out.blk.below hb) (h : Int))
  -- numbers
  have s0 := sum_mono hF.pos (headAt hs (h : Int)).2.length
  rw [List.take_length] at s0
  have hwhole : ((headAt hs (h : Int)).2.sum % 8 == 0) = true := by simpa using hwho
  rw [hwhole] at WH
  obtain ⟨hvlt, hvv⟩ := List.getElem?_eq_some_iff.1 hoff
  have hfl : h < k.fields.n := by
    have h1 := T.frd.len
    have h2 := fsOf_length gs nss T.len
    have h3 := (List.getElem?_eq_some_iff.1 hns).1
    omega
  have hhas : hasB k (h : Int) = true := by
    unfold hasB
    rw [T.valid]
    simp; omega
  rw [hhas] at HS
  obtain ⟨rb, ro, er, zr, _, cr⟩ := T.row.one (i := h) (u := .slice (some ⟨g, 0, none⟩) ns.length ns.length) (by rw [List.getElem?_map, fsOf_at gs nss h g ns hg hns]; rfl)
  have hrn : k.rest.n = l.length := by have := T.rest.2.2.1; rw [byts_length] at this; omega
  have hwn := (H.at (h : Int)).int
  have hlen := hnl
  have hmore := hbad
  have hvalid := T.valid
  have cb1 := T.blk.cell 1
  have cb2 := T.blk.cell 2
  have cb3 := T.blk.cell 3
  have cvh := T.vblk.cell h
  rw [show (bools va)[h]? = some (.bool v) by simp [bools, hoff]] at cvh
  simp only [List.getElem?_cons_zero, List.getElem?_cons_succ] at cb1 cb2 cb3
  have zb := T.blk.lt
  have zvb := T.vblk.lt
  clear T hoff hns hg hnl hbad hwho
  obtain ⟨hd, hhd⟩ : ∃ hd, hd = headAt hs (h : Int) := ⟨_, rfl⟩
  rw [← hhd] at SZ WD WH s0 hwhole hwn hlen hmore
  have HH := hid hhd
  clear hhd
  obtain ⟨⟨wa, wn, wc⟩, ws⟩ := hd
  simp only at SZ WD WH s0 hwhole hwn hlen hmore
  subst hwn
  obtain ⟨n, hn⟩ : ∃ n : Int, n = ws.sum / 8 := ⟨_, rfl⟩
  rw [← hn] at SZ hmore
  have HN := hid hn
  have n0 : 0 ≤ n := by omega
  clear hn hwhole
  obtain ⟨port, ⟨ra, rn, rc⟩, kv, ⟨fa, fn, fc⟩, metas, dr, se, eg, ac⟩ := k
  simp only at hvalid hrn hfl er cr cb1 cb2 cb3
  subst hvalid hrn er
  simp only [SL.v_mk] at cb1 cb2 cb3
  have k1 : (h : Int) < (va.length : Int) := by omega
  have k2 : (h : Int) < (fn : Int) := by omega
  have k3 : (ns.length : Int) = (ws.length : Int) := by omega
  clear hfl hvv hhas hvlt s0
  go_enter Try.func12, Try.ntmps12
  go_upto_region 2 with (go_at_call 21; refine (SZ.out _ (by (repeat' (first | (with_reducible exact Below.refl _ _) | (with_reducible refine Below.ext_mk ?_ ?_ _ _) | (with_reducible refine Below.alloc ?_ ?_ _) | (with_reducible refine Below.drew ?_) | (with_reducible refine Below.setCell ?_ ?_ _) | go_size)))).mono ?_; rintro e w' ⟨rfl, m2, d2, rfl⟩)
  refine wp_gen (fun V hV => ?_)
  have hbV : Below w.heap.size w V := by rw [hV]; (repeat' (first | (with_reducible exact Below.refl _ _) | (with_reducible refine Below.ext_mk ?_ ?_ _ _) | (with_reducible refine Below.alloc ?_ ?_ _) | (with_reducible refine Below.drew ?_) | (with_reducible refine Below.setCell ?_ ?_ _) | go_size))
  have cp : V.cell? ⟨w.heap.size + 1, 0, none⟩ = some (.pointer (some ⟨b, 0, none⟩)) := by rw [hV]; go_simp
  have bp : Blk V w.heap.size 33 [p.heads.v, p.metas.v, p.steps.v, p.acts.v, p.tabs.v, p.control.v, p.emit.v, p.n0.v, p.n1.v, p.n2.v, p.n3.v, p.n4.v] := by
    rw [hV]
    exact (Blk.new w 33 [p.heads.v, p.metas.v, p.steps.v, p.acts.v, p.tabs.v, p.control.v, p.emit.v, p.n0.v, p.n1.v, p.n2.v, p.n3.v, p.n4.v]).below (by (repeat' (first | (with_reducible exact Below.refl _ _) | (with_reducible refine Below.ext_mk ?_ ?_ _ _) | (with_reducible refine Below.alloc ?_ ?_ _) | (with_reducible refine Below.drew ?_) | (with_reducible refine Below.setCell ?_ ?_ _) | go_size)))
  have zp : w.heap.size + 1 < V.heap.size := by rw [hV]; first | (simp; done) | (simp; omega)
  clear hV
  have p0 := bp.cell 0
  have p1 := bp.cell 1
  have p2 := bp.cell 2
  have p3 := bp.cell 3
  have p4 := bp.cell 4
  have p5 := bp.cell 5
  have p6 := bp.cell 6
  have p7 := bp.cell 7
  have p8 := bp.cell 8
  have p9 := bp.cell 9
  have p10 := bp.cell 10
  have p11 := bp.cell 11
  simp only [List.getElem?_cons_zero, List.getElem?_cons_succ] at p0 p1 p2 p3 p4 p5 p6 p7 p8 p9 p10 p11
  have zpb : w.heap.size < V.heap.size := by omega
  have vb1 := (hbV.cell (p := ⟨b, 1, none⟩) zb).trans cb1
  have vb2 := (hbV.cell (p := ⟨b, 2, none⟩) zb).trans cb2
  have vb3 := (hbV.cell (p := ⟨b, 3, none⟩) zb).trans cb3
  have vvh := (hbV.cell (p := ⟨vb, h, none⟩) zvb).trans cvh
  have vrh := (hbV.cell (p := ⟨rb, ro + h, none⟩) zr).trans cr
  have yb : b < V.heap.size := by have := hbV.size; omega
  have yvb : vb < V.heap.size := by have := hbV.size; omega
  have yr : rb < V.heap.size := by have := hbV.size; omega
  have S2 := hid (fun W (hb : Below V.heap.size V W) => SZ.out W (hbV.trans (hb.mono hbV.size)))
  have W2 := hid (fun W (hb : Below V.heap.size V W) => WD.out W (hbV.trans (hb.mono hbV.size)))
  have H2 := hid (fun W (hb : Below V.heap.size V W) => WH.out W (hbV.trans (hb.mono hbV.size)))
  have A2 := hid (fun W (hb : Below V.heap.size V W) => HS.out W (hbV.trans (hb.mono hbV.size)))
  clear SZ WD WH HS cb1 cb2 cb3 cvh cr
  cases v
  · have k4 : (l.length : Int) < n := by rcases hmore with h | h; cases h; exact h
    clear hmore
    refine wp_region_ext (by kernel_rfl) (by kernel_rfl) (fun F hF => ?_)
    have HF := hid hF; clear hF
    repeat (first
      | (apply text_skip; (focus rfl); simp only [Act.put, List.setIfInBounds_toArray, List.set_cons_zero, List.set_cons_succ])
      | (apply text_val; (focus rfl); (focus (intro _ _; go_simp; with_reducible rfl)); simp only [Act.put, List.setIfInBounds_toArray, List.set_cons_zero, List.set_cons_succ])
      | (apply text_call; (focus rfl); (focus (intro _ _; go_simp; exact ⟨rfl, rfl⟩)); (focus (intro _ _; with_reducible (first | exact A2.out _ (by (repeat' (first | (with_reducible exact Below.refl _ _) | (with_reducible refine Below.ext_mk ?_ ?_ _ _) | (with_reducible refine Below.alloc ?_ ?_ _) | (with_reducible refine Below.drew ?_) | (with_reducible refine Below.setCell ?_ ?_ _) | go_size))) | exact W2.out _ (by (repeat' (first | (with_reducible exact Below.refl _ _) | (with_reducible refine Below.ext_mk ?_ ?_ _ _) | (with_reducible refine Below.alloc ?_ ?_ _) | (with_reducible refine Below.drew ?_) | (with_reducible refine Below.setCell ?_ ?_ _) | go_size))) | exact H2.out _ (by (repeat' (first | (with_reducible exact Below.refl _ _) | (with_reducible refine Below.ext_mk ?_ ?_ _ _) | (with_reducible refine Below.alloc ?_ ?_ _) | (with_reducible refine Below.drew ?_) | (with_reducible refine Below.setCell ?_ ?_ _) | go_size)))))); simp only [Act.put, List.setIfInBounds_toArray, List.set_cons_zero, List.set_cons_succ])
      | (apply text_if; (focus (first | exact wanted_t rfl rfl | exact wanted_f rfl rfl | exact wanted_gt rfl rfl | exact wanted_gf rfl rfl)); (focus (intro hc _ _; (try simp only [Bool.and_eq_true, Bool.not_eq_true', Bool.true_and] at hc); go_simp; with_reducible rfl)); simp only [Act.put, List.setIfInBounds_toArray, List.set_cons_zero, List.set_cons_succ])
      | (apply text_if_call; (focus (first | exact wanted_t rfl rfl | exact wanted_f rfl rfl | exact wanted_gt rfl rfl | exact wanted_gf rfl rfl)); (focus (intro hc _ _; (try simp only [Bool.and_eq_true, Bool.not_eq_true', Bool.true_and] at hc); go_simp; exact ⟨rfl, rfl⟩)); (focus (intro hc _ _; with_reducible (first | exact A2.out _ (by (repeat' (first | (with_reducible exact Below.refl _ _) | (with_reducible refine Below.ext_mk ?_ ?_ _ _) | (with_reducible refine Below.alloc ?_ ?_ _) | (with_reducible refine Below.drew ?_) | (with_reducible refine Below.setCell ?_ ?_ _) | go_size))) | exact W2.out _ (by (repeat' (first | (with_reducible exact Below.refl _ _) | (with_reducible refine Below.ext_mk ?_ ?_ _ _) | (with_reducible refine Below.alloc ?_ ?_ _) | (with_reducible refine Below.drew ?_) | (with_reducible refine Below.setCell ?_ ?_ _) | go_size))) | exact H2.out _ (by (repeat' (first | (with_reducible exact Below.refl _ _) | (with_reducible refine Below.ext_mk ?_ ?_ _ _) | (with_reducible refine Below.alloc ?_ ?_ _) | (with_reducible refine Below.drew ?_) | (with_reducible refine Below.setCell ?_ ?_ _) | go_size)))))); simp only [Act.put, List.setIfInBounds_toArray, List.set_cons_zero, List.set_cons_succ]))
    refine text_nil (HF.out _ (fun mx dx => ?_))
    clear HF F
    go_wp2_with fail
    go_returns
    exact Pure.of rfl (by (repeat' (first | (with_reducible exact hbV) | (with_reducible exact Below.refl _ _) | (with_reducible refine Below.ext_mk ?_ ?_ _ _) | (with_reducible refine Below.alloc ?_ ?_ _) | (with_reducible refine Below.drew ?_) | (with_reducible refine Below.setCell ?_ ?_ _) | go_size)))
  · clear hmore
    refine wp_region_ext (by kernel_rfl) (by kernel_rfl) (fun F hF => ?_)
    have HF := hid hF; clear hF
    repeat (first
      | (apply text_skip; (focus rfl); simp only [Act.put, List.setIfInBounds_toArray, List.set_cons_zero, List.set_cons_succ])
      | (apply text_val; (focus rfl); (focus (intro _ _; go_simp; with_reducible rfl)); simp only [Act.put, List.setIfInBounds_toArray, List.set_cons_zero, List.set_cons_succ])
      | (apply text_call; (focus rfl); (focus (intro _ _; go_simp; exact ⟨rfl, rfl⟩)); (focus (intro _ _; with_reducible (first | exact A2.out _ (by (repeat' (first | (with_reducible exact Below.refl _ _) | (with_reducible refine Below.ext_mk ?_ ?_ _ _) | (with_reducible refine Below.alloc ?_ ?_ _) | (with_reducible refine Below.drew ?_) | (with_reducible refine Below.setCell ?_ ?_ _) | go_size))) | exact W2.out _ (by (repeat' (first | (with_reducible exact Below.refl _ _) | (with_reducible refine Below.ext_mk ?_ ?_ _ _) | (with_reducible refine Below.alloc ?_ ?_ _) | (with_reducible refine Below.drew ?_) | (with_reducible refine Below.setCell ?_ ?_ _) | go_size))) | exact H2.out _ (by (repeat' (first | (with_reducible exact Below.refl _ _) | (with_reducible refine Below.ext_mk ?_ ?_ _ _) | (with_reducible refine Below.alloc ?_ ?_ _) | (with_reducible refine Below.drew ?_) | (with_reducible refine Below.setCell ?_ ?_ _) | go_size)))))); simp only [Act.put, List.setIfInBounds_toArray, List.set_cons_zero, List.set_cons_succ])
      | (apply text_if; (focus (first | exact wanted_t rfl rfl | exact wanted_f rfl rfl | exact wanted_gt rfl rfl | exact wanted_gf rfl rfl)); (focus (intro hc _ _; (try simp only [Bool.and_eq_true, Bool.not_eq_true', Bool.true_and] at hc); go_simp; with_reducible rfl)); simp only [Act.put, List.setIfInBounds_toArray, List.set_cons_zero, List.set_cons_succ])
      | (apply text_if_call; (focus (first | exact wanted_t rfl rfl | exact wanted_f rfl rfl | exact wanted_gt rfl rfl | exact wanted_gf rfl rfl)); (focus (intro hc _ _; (try simp only [Bool.and_eq_true, Bool.not_eq_true', Bool.true_and] at hc); go_simp; exact ⟨rfl, rfl⟩)); (focus (intro hc _ _; with_reducible (first | exact A2.out _ (by (repeat' (first | (with_reducible exact Below.refl _ _) | (with_reducible refine Below.ext_mk ?_ ?_ _ _) | (with_reducible refine Below.alloc ?_ ?_ _) | (with_reducible refine Below.drew ?_) | (with_reducible refine Below.setCell ?_ ?_ _) | go_size))) | exact W2.out _ (by (repeat' (first | (with_reducible exact Below.refl _ _) | (with_reducible refine Below.ext_mk ?_ ?_ _ _) | (with_reducible refine Below.alloc ?_ ?_ _) | (with_reducible refine Below.drew ?_) | (with_reducible refine Below.setCell ?_ ?_ _) | go_size))) | exact H2.out _ (by (repeat' (first | (with_reducible exact Below.refl _ _) | (with_reducible refine Below.ext_mk ?_ ?_ _ _) | (with_reducible refine Below.alloc ?_ ?_ _) | (with_reducible refine Below.drew ?_) | (with_reducible refine Below.setCell ?_ ?_ _) | go_size)))))); simp only [Act.put, List.setIfInBounds_toArray, List.set_cons_zero, List.set_cons_succ]))
    refine text_nil (HF.out _ (fun mx dx => ?_))
    clear HF F
    go_wp2_with fail
    go_returns
    exact Pure.of rfl (by (repeat' (first | (with_reducible exact hbV) | (with_reducible exact Below.refl _ _) | (with_reducible refine Below.ext_mk ?_ ?_ _ _) | (with_reducible refine Below.alloc ?_ ?_ _) | (with_reducible refine Below.drew ?_) | (with_reducible refine Below.setCell ?_ ?_ _) | go_size)))
end
end Go.Proofs.Ytkblldmpdihamaa
