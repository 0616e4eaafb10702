/-
  Package header: Take of a packet in memory of its own.
-/
import Derived.Test.YtkblldmpdihamaaZOwn
import Derived.Test.YtkblldmpdihamaaZRefHN
import Derived.Deep.Upon
set_option linter.unusedVariables false
set_option linter.unusedSimpArgs false
namespace Go.Proofs.Ytkblldmpdihamaa
open Go.RowKit

theorem hok_facts {ws : List Int} (h : HOk ws) : Few ws ∧ ws.sum % 8 = 0 ∧ 1 ≤ ws.sum / 8 ∧ ws.sum ≤ 256 := by
  refine ⟨wok_few h.ok h.hi, h.whole, ?_, h.few⟩
  have h1 : 1 ≤ ws.sum := by
    have hlo := h.lo
    cases ws with
    | nil => simp at hlo
    | cons x r =>
      have hx := wok_range h.ok x (List.mem_cons_self ..)
      have hr := wok_sum (ws := r) (by have := h.ok; simp at this ⊢; exact this.2)
      rw [List.sum_cons]; omega
  have := h.whole
  omega

section
variable {w : World} {p : PG} {hs : List (SL × List Int)} {b vb g h : Nat} {gs : List Nat} {k : PK} {l : List Nat} {va : List Bool} {nss : List (List (BitVec 128))} {mt : List (BitVec 128)} {ns : List (BitVec 128)} {v : Bool}
theorem take_pkt (T : PktIs w b vb gs k l va nss mt) (H : HeadsAre w p.heads hs) (hA : Away (headAt hs h).1 (b :: vb :: gs)) (hok : HOk (headAt hs h).2) (hg : gs[h]? = some g) (hns : nss[h]? = some ns)
    (hnl : ns.length = (headAt hs h).2.length) (hoff : va[h]? = some false) (hmore : (headAt hs h).2.sum / 8 ≤ l.length) :
    Calls Try.prog 12 #[p.v, .pointer (some ⟨b, 0, none⟩), .int .i64 h] w (fun e w' => e = .returned (.bool true) ∧ Turn w w' [b, vb, g] ∧
      ∃ r, Fresh w.heap.size r ∧ PktIs w' b vb gs { k with rest := r } (l.drop ((headAt hs h).2.sum / 8).toNat) (va.set h true) (nss.set h (takeN l 0 (headAt hs h).2)) mt) := by
  obtain ⟨hF, hw8, hpos, _⟩ := hok_facts hok
  have hgm := T.mem hg
  have hgl := List.mem_of_getElem? hg
  have sub : ∀ q ∈ [b, vb, g], q ∈ b :: vb :: gs := fun q hq => by
    simp at hq ⊢
    rcases hq with rfl | rfl | rfl
    · exact .inl rfl
    · exact .inr (.inl rfl)
    · exact .inr (.inr hgl)
  have aw : ∀ {s : SL}, Away s (b :: vb :: gs) → Away s [b, vb, g] := fun ha q off e hm => ha q off e (sub q hm)
  have hlt := (List.getElem?_eq_some_iff.1 hoff).1
  have hnlt := (List.getElem?_eq_some_iff.1 hns).1
  have TI : TakeIn w p hs k b vb g h l va (fsOf gs nss) ns :=
    ⟨H, hF, hw8, T.blk, T.rest, T.bytes, hmore, hpos, T.few.2.2.2, T.valid, T.vblk, hoff, T.row, fsOf_at gs nss h g ns hg hns, T.each h g ns hg hns, hnl, T.bvb, fun e => hgm.2.1 e.symm, fun e => hgm.2.2 e.symm, aw hA, aw T.aRest, aw T.aRow, by have := T.few.1; omega⟩
  refine (take_ok TI).mono ?_
  rintro e w' ⟨rfl, tT, tV, tG, r, tB, tR, tF, tL⟩
  refine ⟨rfl, tT, r, tF, tB, tR, fun x hx => T.bytes x (List.mem_of_mem_drop hx), by rw [List.length_set]; exact T.valid, tV, ?_, by rw [List.length_set]; exact T.len, ?_, tT.rd T.metas (aw T.aMet), T.nodup, ?_, ?_, T.aRow, T.aMet⟩
  · have := tT.rd T.row (aw T.aRow)
    rw [fsOf_rows gs nss (nss.set h (takeN l 0 (headAt hs h).2)) ?_] at this
    · exact this
    · rw [List.map_set, takeN_length, ← hnl]
      apply List.ext_getElem?
      intro i
      rw [List.getElem?_set]
      split
      · rename_i e
        subst e
        rw [List.getElem?_map, hns]
        simp [hnlt]
      · rfl
  · intro i g' ns' hg' hn'
    rw [List.getElem?_set] at hn'
    by_cases e : h = i
    · subst e
      rw [if_pos rfl, if_pos hnlt] at hn'
      cases hn'
      rw [hg] at hg'
      cases hg'
      exact tG
    · rw [if_neg e] at hn'
      have hgm' := T.mem hg'
      exact tT.blk (T.each i g' ns' hg' hn') (by
        simp only [List.mem_cons, List.not_mem_nil, or_false, not_or]
        exact ⟨hgm'.2.1, hgm'.2.2, fun q => e (T.inj hg (q ▸ hg'))⟩)
  · refine ⟨by rw [List.length_set]; exact T.few.1, by rw [List.length_set]; exact T.few.2.1, fun x hx => ?_, by rw [List.length_drop]; have := T.few.2.2.2; omega⟩
    rcases List.mem_or_eq_of_mem_set hx with hx | rfl
    · exact T.few.2.2.1 x hx
    · rw [takeN_length, ← hnl]; exact T.few.2.2.1 ns (List.mem_of_getElem? hns)
  · intro q off e hm
    have hq := tF q off e
    simp only [List.mem_cons] at hm
    rcases hm with hm | hm | hm
    · have := T.blk.lt; omega
    · have := T.vblk.lt; omega
    · obtain ⟨i, hi⟩ := List.getElem?_of_mem hm
      have := (T.mem hi).1; omega
set_option maxRecDepth 100000 in
set_option maxHeartbeats 4000000 in
theorem take_fail (T : PktIs w b vb gs k l va nss mt) (H : HeadsAre w p.heads hs) (hF : Few (headAt hs h).2) (hwho : (headAt hs h).2.sum % 8 = 0) (hg : gs[h]? = some g) (hns : nss[h]? = some ns)
    (hnl : ns.length = (headAt hs h).2.length) (hoff : va[h]? = some v) (hbad : v = true ∨ (l.length : Int) < (headAt hs h).2.sum / 8) :
    Calls Try.prog 12 #[p.v, .pointer (some ⟨b, 0, none⟩), .int .i64 h] w (Pure (.bool false) w) := by
  have HH0 := hid H
  have hmf : ∀ (fn : Fn) (first cap : Array Value) (w : World), (Instr.makeFunc fn first cap).run Try.prog w = .ok (.func fn first cap) w := fun _ _ _ _ => rfl
  have HT := hid T
  have SZ := hid (fun V (hb : Below w.heap.size w V) => size_any (HH0.out.below hb) (h : Int) hF)
  have WD := hid (fun V (hb : Below w.heap.size w V) => widths_any (HH0.out.below hb) (h : Int))
  have WH := hid (fun V (hb : Below w.heap.size w V) => whole_any ((HH0.out.below hb).at (h : Int)) hF)
  have HS := hid (fun V (hb : Below w.heap.size w V) => has_any (HT.out.blk.below hb) (h : Int))
  -- numbers
  have s0 := sum_mono hF.pos (headAt hs (h : Int)).2.length
  rw [List.take_length] at s0
  have hwhole : ((headAt hs (h : Int)).2.sum % 8 == 0) = true := by simpa using hwho
  rw [hwhole] at WH
  obtain ⟨hvlt, hvv⟩ := List.getElem?_eq_some_iff.1 hoff
  have hfl : h < k.fields.n := by
    have h1 := T.frd.len
    have h2 := fsOf_length gs nss T.len
    have h3 := (List.getElem?_eq_some_iff.1 hns).1
    omega
  have hhas : hasB k (h : Int) = true := by
    unfold hasB
    rw [T.valid]
    simp; omega
  rw [hhas] at HS
  obtain ⟨rb, ro, er, zr, _, cr⟩ := T.row.one (i := h) (u := .slice (some ⟨g, 0, none⟩) ns.length ns.length) (by rw [List.getElem?_map, fsOf_at gs nss h g ns hg hns]; rfl)
  have hrn : k.rest.n = l.length := by have := T.rest.2.2.1; rw [byts_length] at this; omega
  have hwn := (H.at (h : Int)).int
  have hlen := hnl
  have hmore := hbad
  have hvalid := T.valid
  have cb1 := T.blk.cell 1
  have cb2 := T.blk.cell 2
  have cb3 := T.blk.cell 3
  have cvh := T.vblk.cell h
  rw [show (bools va)[h]? = some (.bool v) by simp [bools, hoff]] at cvh
  simp only [List.getElem?_cons_zero, List.getElem?_cons_succ] at cb1 cb2 cb3
  have zb := T.blk.lt
  have zvb := T.vblk.lt
  clear T hoff hns hg hnl hbad hwho
  obtain ⟨hd, hhd⟩ : ∃ hd, hd = headAt hs (h : Int) := ⟨_, rfl⟩
  rw [← hhd] at SZ WD WH s0 hwhole hwn hlen hmore
  have HH := hid hhd
  clear hhd
  obtain ⟨⟨wa, wn, wc⟩, ws⟩ := hd
  simp only at SZ WD WH s0 hwhole hwn hlen hmore
  subst hwn
  obtain ⟨n, hn⟩ : ∃ n : Int, n = ws.sum / 8 := ⟨_, rfl⟩
  rw [← hn] at SZ hmore
  have HN := hid hn
  have n0 : 0 ≤ n := by omega
  clear hn hwhole
  obtain ⟨port, ⟨ra, rn, rc⟩, kv, ⟨fa, fn, fc⟩, metas, dr, se, eg, ac⟩ := k
  simp only at hvalid hrn hfl er cr cb1 cb2 cb3
  subst hvalid hrn er
  simp only [SL.v_mk] at cb1 cb2 cb3
  have k1 : (h : Int) < (va.length : Int) := by omega
  have k2 : (h : Int) < (fn : Int) := by omega
  have k3 : (ns.length : Int) = (ws.length : Int) := by omega
  clear hfl hvv hhas hvlt s0
  go_enter Try.func12, Try.ntmps12
  go_upto_region 2 with (go_at_call 21; refine (SZ.out _ (by (repeat' (first | (with_reducible exact Below.refl _ _) | (with_reducible refine Below.ext_mk ?_ ?_ _ _) | (with_reducible refine Below.alloc ?_ ?_ _) | (with_reducible refine Below.drew ?_) | (with_reducible refine Below.setCell ?_ ?_ _) | go_size)))).mono ?_; rintro e w' ⟨rfl, m2, d2, rfl⟩)
  refine wp_gen (fun V hV => ?_)
  have hbV : Below w.heap.size w V := by rw [hV]; (repeat' (first | (with_reducible exact Below.refl _ _) | (with_reducible refine Below.ext_mk ?_ ?_ _ _) | (with_reducible refine Below.alloc ?_ ?_ _) | (with_reducible refine Below.drew ?_) | (with_reducible refine Below.setCell ?_ ?_ _) | go_size))
  have cp : V.cell? ⟨w.heap.size + 1, 0, none⟩ = some (.pointer (some ⟨b, 0, none⟩)) := by rw [hV]; go_simp
  have bp : Blk V w.heap.size 33 [p.heads.v, p.metas.v, p.steps.v, p.acts.v, p.tabs.v, p.control.v, p.emit.v, p.n0.v, p.n1.v, p.n2.v, p.n3.v, p.n4.v] := by
    rw [hV]
    exact (Blk.new w 33 [p.heads.v, p.metas.v, p.steps.v, p.acts.v, p.tabs.v, p.control.v, p.emit.v, p.n0.v, p.n1.v, p.n2.v, p.n3.v, p.n4.v]).below (by (repeat' (first | (with_reducible exact Below.refl _ _) | (with_reducible refine Below.ext_mk ?_ ?_ _ _) | (with_reducible refine Below.alloc ?_ ?_ _) | (with_reducible refine Below.drew ?_) | (with_reducible refine Below.setCell ?_ ?_ _) | go_size)))
  have zp : w.heap.size + 1 < V.heap.size := by rw [hV]; first | (simp; done) | (simp; omega)
  clear hV
  have p0 := bp.cell 0
  have p1 := bp.cell 1
  have p2 := bp.cell 2
  have p3 := bp.cell 3
  have p4 := bp.cell 4
  have p5 := bp.cell 5
  have p6 := bp.cell 6
  have p7 := bp.cell 7
  have p8 := bp.cell 8
  have p9 := bp.cell 9
  have p10 := bp.cell 10
  have p11 := bp.cell 11
  simp only [List.getElem?_cons_zero, List.getElem?_cons_succ] at p0 p1 p2 p3 p4 p5 p6 p7 p8 p9 p10 p11
  have zpb : w.heap.size < V.heap.size := by omega
  have vb1 := (hbV.cell (p := ⟨b, 1, none⟩) zb).trans cb1
  have vb2 := (hbV.cell (p := ⟨b, 2, none⟩) zb).trans cb2
  have vb3 := (hbV.cell (p := ⟨b, 3, none⟩) zb).trans cb3
  have vvh := (hbV.cell (p := ⟨vb, h, none⟩) zvb).trans cvh
  have vrh := (hbV.cell (p := ⟨rb, ro + h, none⟩) zr).trans cr
  have yb : b < V.heap.size := by have := hbV.size; omega
  have yvb : vb < V.heap.size := by have := hbV.size; omega
  have yr : rb < V.heap.size := by have := hbV.size; omega
  have S2 := hid (fun W (hb : Below V.heap.size V W) => SZ.out W (hbV.trans (hb.mono hbV.size)))
  have W2 := hid (fun W (hb : Below V.heap.size V W) => WD.out W (hbV.trans (hb.mono hbV.size)))
  have H2 := hid (fun W (hb : Below V.heap.size V W) => WH.out W (hbV.trans (hb.mono hbV.size)))
  have A2 := hid (fun W (hb : Below V.heap.size V W) => HS.out W (hbV.trans (hb.mono hbV.size)))
  clear SZ WD WH HS cb1 cb2 cb3 cvh cr
  cases v
  · have k4 : (l.length : Int) < n := by rcases hmore with h | h; cases h; exact h
    clear hmore
    refine wp_region_ext (by kernel_rfl) (by kernel_rfl) (fun F hF => ?_)
    have HF := hid hF; clear hF
    repeat (first
      | (apply text_skip; (focus rfl); simp only [Act.put, List.setIfInBounds_toArray, List.set_cons_zero, List.set_cons_succ])
      | (apply text_val; (focus rfl); (focus (intro _ _; go_simp; with_reducible rfl)); simp only [Act.put, List.setIfInBounds_toArray, List.set_cons_zero, List.set_cons_succ])
      | (apply text_call; (focus rfl); (focus (intro _ _; go_simp; exact ⟨rfl, rfl⟩)); (focus (intro _ _; with_reducible (first | exact A2.out _ (by (repeat' (first | (with_reducible exact Below.refl _ _) | (with_reducible refine Below.ext_mk ?_ ?_ _ _) | (with_reducible refine Below.alloc ?_ ?_ _) | (with_reducible refine Below.drew ?_) | (with_reducible refine Below.setCell ?_ ?_ _) | go_size))) | exact W2.out _ (by (repeat' (first | (with_reducible exact Below.refl _ _) | (with_reducible refine Below.ext_mk ?_ ?_ _ _) | (with_reducible refine Below.alloc ?_ ?_ _) | (with_reducible refine Below.drew ?_) | (with_reducible refine Below.setCell ?_ ?_ _) | go_size))) | exact H2.out _ (by (repeat' (first | (with_reducible exact Below.refl _ _) | (with_reducible refine Below.ext_mk ?_ ?_ _ _) | (with_reducible refine Below.alloc ?_ ?_ _) | (with_reducible refine Below.drew ?_) | (with_reducible refine Below.setCell ?_ ?_ _) | go_size)))))); simp only [Act.put, List.setIfInBounds_toArray, List.set_cons_zero, List.set_cons_succ])
      | (apply text_if; (focus (first | exact wanted_t rfl rfl | exact wanted_f rfl rfl | exact wanted_gt rfl rfl | exact wanted_gf rfl rfl)); (focus (intro hc _ _; (try simp only [Bool.and_eq_true, Bool.not_eq_true', Bool.true_and] at hc); go_simp; with_reducible rfl)); simp only [Act.put, List.setIfInBounds_toArray, List.set_cons_zero, List.set_cons_succ])
      | (apply text_if_call; (focus (first | exact wanted_t rfl rfl | exact wanted_f rfl rfl | exact wanted_gt rfl rfl | exact wanted_gf rfl rfl)); (focus (intro hc _ _; (try simp only [Bool.and_eq_true, Bool.not_eq_true', Bool.true_and] at hc); go_simp; exact ⟨rfl, rfl⟩)); (focus (intro hc _ _; with_reducible (first | exact A2.out _ (by (repeat' (first | (with_reducible exact Below.refl _ _) | (with_reducible refine Below.ext_mk ?_ ?_ _ _) | (with_reducible refine Below.alloc ?_ ?_ _) | (with_reducible refine Below.drew ?_) | (with_reducible refine Below.setCell ?_ ?_ _) | go_size))) | exact W2.out _ (by (repeat' (first | (with_reducible exact Below.refl _ _) | (with_reducible refine Below.ext_mk ?_ ?_ _ _) | (with_reducible refine Below.alloc ?_ ?_ _) | (with_reducible refine Below.drew ?_) | (with_reducible refine Below.setCell ?_ ?_ _) | go_size))) | exact H2.out _ (by (repeat' (first | (with_reducible exact Below.refl _ _) | (with_reducible refine Below.ext_mk ?_ ?_ _ _) | (with_reducible refine Below.alloc ?_ ?_ _) | (with_reducible refine Below.drew ?_) | (with_reducible refine Below.setCell ?_ ?_ _) | go_size)))))); simp only [Act.put, List.setIfInBounds_toArray, List.set_cons_zero, List.set_cons_succ]))
    refine text_nil (HF.out _ (fun mx dx => ?_))
    clear HF F
    go_wp2_with fail
    go_returns
    exact Pure.of rfl (by (repeat' (first | (with_reducible exact hbV) | (with_reducible exact Below.refl _ _) | (with_reducible refine Below.ext_mk ?_ ?_ _ _) | (with_reducible refine Below.alloc ?_ ?_ _) | (with_reducible refine Below.drew ?_) | (with_reducible refine Below.setCell ?_ ?_ _) | go_size)))
  · clear hmore
    refine wp_region_ext (by kernel_rfl) (by kernel_rfl) (fun F hF => ?_)
    have HF := hid hF; clear hF
    repeat (first
      | (apply text_skip; (focus rfl); simp only [Act.put, List.setIfInBounds_toArray, List.set_cons_zero, List.set_cons_succ])
      | (apply text_val; (focus rfl); (focus (intro _ _; go_simp; with_reducible rfl)); simp only [Act.put, List.setIfInBounds_toArray, List.set_cons_zero, List.set_cons_succ])
      | (apply text_call; (focus rfl); (focus (intro _ _; go_simp; exact ⟨rfl, rfl⟩)); (focus (intro _ _; with_reducible (first | exact A2.out _ (by (repeat' (first | (with_reducible exact Below.refl _ _) | (with_reducible refine Below.ext_mk ?_ ?_ _ _) | (with_reducible refine Below.alloc ?_ ?_ _) | (with_reducible refine Below.drew ?_) | (with_reducible refine Below.setCell ?_ ?_ _) | go_size))) | exact W2.out _ (by (repeat' (first | (with_reducible exact Below.refl _ _) | (with_reducible refine Below.ext_mk ?_ ?_ _ _) | (with_reducible refine Below.alloc ?_ ?_ _) | (with_reducible refine Below.drew ?_) | (with_reducible refine Below.setCell ?_ ?_ _) | go_size))) | exact H2.out _ (by (repeat' (first | (with_reducible exact Below.refl _ _) | (with_reducible refine Below.ext_mk ?_ ?_ _ _) | (with_reducible refine Below.alloc ?_ ?_ _) | (with_reducible refine Below.drew ?_) | (with_reducible refine Below.setCell ?_ ?_ _) | go_size)))))); simp only [Act.put, List.setIfInBounds_toArray, List.set_cons_zero, List.set_cons_succ])
      | (apply text_if; (focus (first | exact wanted_t rfl rfl | exact wanted_f rfl rfl | exact wanted_gt rfl rfl | exact wanted_gf rfl rfl)); (focus (intro hc _ _; (try simp only [Bool.and_eq_true, Bool.not_eq_true', Bool.true_and] at hc); go_simp; with_reducible rfl)); simp only [Act.put, List.setIfInBounds_toArray, List.set_cons_zero, List.set_cons_succ])
      | (apply text_if_call; (focus (first | exact wanted_t rfl rfl | exact wanted_f rfl rfl | exact wanted_gt rfl rfl | exact wanted_gf rfl rfl)); (focus (intro hc _ _; (try simp only [Bool.and_eq_true, Bool.not_eq_true', Bool.true_and] at hc); go_simp; exact ⟨rfl, rfl⟩)); (focus (intro hc _ _; with_reducible (first | exact A2.out _ (by (repeat' (first | (with_reducible exact Below.refl _ _) | (with_reducible refine Below.ext_mk ?_ ?_ _ _) | (with_reducible refine Below.alloc ?_ ?_ _) | (with_reducible refine Below.drew ?_) | (with_reducible refine Below.setCell ?_ ?_ _) | go_size))) | exact W2.out _ (by (repeat' (first | (with_reducible exact Below.refl _ _) | (with_reducible refine Below.ext_mk ?_ ?_ _ _) | (with_reducible refine Below.alloc ?_ ?_ _) | (with_reducible refine Below.drew ?_) | (with_reducible refine Below.setCell ?_ ?_ _) | go_size))) | exact H2.out _ (by (repeat' (first | (with_reducible exact Below.refl _ _) | (with_reducible refine Below.ext_mk ?_ ?_ _ _) | (with_reducible refine Below.alloc ?_ ?_ _) | (with_reducible refine Below.drew ?_) | (with_reducible refine Below.setCell ?_ ?_ _) | go_size)))))); simp only [Act.put, List.setIfInBounds_toArray, List.set_cons_zero, List.set_cons_succ]))
    refine text_nil (HF.out _ (fun mx dx => ?_))
    clear HF F
    go_wp2_with fail
    go_returns
    exact Pure.of rfl (by (repeat' (first | (with_reducible exact hbV) | (with_reducible exact Below.refl _ _) | (with_reducible refine Below.ext_mk ?_ ?_ _ _) | (with_reducible refine Below.alloc ?_ ?_ _) | (with_reducible refine Below.drew ?_) | (with_reducible refine Below.setCell ?_ ?_ _) | go_size)))
end
end Go.Proofs.Ytkblldmpdihamaa
set_option linter.unusedVariables false
set_option linter.unusedSimpArgs false
namespace Go.Proofs.Ytkblldmpdihamaa
open Go.RowKit

section
variable {w w' : World} {p : PG} {hs : List (SL × List Int)} {b vb g h : Nat} {gs : List Nat} {k k' : PK} {l : List Nat} {va va' : List Bool} {nss nss' : List (List (BitVec 128))} {mt : List (BitVec 128)} {ns ns' : List (BitVec 128)} {v : Bool} {L : List Nat}
/-- A packet whose own blocks turn. -/
theorem PktIs.turn (T : PktIs w b vb gs k l va nss mt) (t : Turn w w' L) (hL : ∀ q ∈ L, q ∈ b :: vb :: gs) (hk : k'.rest = k.rest ∧ k'.valid = k.valid ∧ k'.fields = k.fields ∧ k'.metas = k.metas)
    (blk : Blk w' b 39 k'.cs) (hva : va'.length = va.length) (vblk : Blk w' vb 4 (bools va')) (hl : nss'.map List.length = nss.map List.length)
    (each : ∀ (i g : Nat) (ns : List (BitVec 128)), gs[i]? = some g → nss'[i]? = some ns → Blk w' g 45 (nums ns)) : PktIs w' b vb gs k' l va' nss' mt := by
  obtain ⟨h1, h2, h3, h4⟩ := hk
  have aw : ∀ {s : SL}, Away s (b :: vb :: gs) → Away s L := fun ha q off e hm => ha q off e (hL q hm)
  have hlen : nss'.length = nss.length := by have := congrArg List.length hl; simpa using this
  refine ⟨blk, by rw [h1]; exact t.rd T.rest (aw T.aRest), T.bytes, by rw [h2, hva]; exact T.valid, vblk, ?_, by rw [hlen]; exact T.len, each, by rw [h4]; exact t.rd T.metas (aw T.aMet), T.nodup, ?_, by rw [h1]; exact T.aRest, by rw [h3]; exact T.aRow, by rw [h4]; exact T.aMet⟩
  · rw [h3, fsOf_rows gs nss' nss hl]
    exact t.rd T.row (aw T.aRow)
  · refine ⟨by rw [hva]; exact T.few.1, by rw [hlen]; exact T.few.2.1, fun x hx => ?_, T.few.2.2.2⟩
    have hm : x.length ∈ nss.map List.length := by rw [← hl]; exact List.mem_map_of_mem hx
    obtain ⟨y, hy, e⟩ := List.mem_map.1 hm
    rw [← e]; exact T.few.2.2.1 y hy
theorem set_lengths (hns : nss[h]? = some ns) (hl : ns'.length = ns.length) : (nss.set h ns').map List.length = nss.map List.length := by
  rw [List.map_set]
  apply List.ext_getElem?
  intro i
  rw [List.getElem?_set]
  split
  · rename_i e
    subst e
    rw [List.getElem?_map, hns]
    have := (List.getElem?_eq_some_iff.1 hns).1
    simp [this, hl]
  · rfl
/-- One row of numbers turns. -/
theorem PktIs.numRow (T : PktIs w b vb gs k l va nss mt) (t : Turn w w' [g]) (hg : gs[h]? = some g) (hns : nss[h]? = some ns) (hl : ns'.length = ns.length) (bg : Blk w' g 45 (nums ns')) :
    PktIs w' b vb gs k l va (nss.set h ns') mt := by
  have hgm := T.mem hg
  have hnlt := (List.getElem?_eq_some_iff.1 hns).1
  refine T.turn t (fun q hq => by simp at hq; subst hq; simp [List.mem_of_getElem? hg]) ⟨rfl, rfl, rfl, rfl⟩ (t.blk T.blk (by simp; exact fun e => hgm.2.1 e.symm)) rfl (t.blk T.vblk (by simp; exact fun e => hgm.2.2 e.symm)) (set_lengths hns hl) (fun i g' ns' hg' hn' => ?_)
  rw [List.getElem?_set] at hn'
  by_cases e : h = i
  · subst e
    rw [if_pos rfl, if_pos hnlt] at hn'
    cases hn'
    rw [hg] at hg'
    cases hg'
    exact bg
  · rw [if_neg e] at hn'
    exact t.blk (T.each i g' ns' hg' hn') (by simp; exact fun q => e (T.inj hg (q ▸ hg')))
/-- The packet's own cells turn, but its slices. -/
theorem PktIs.own (T : PktIs w b vb gs k l va nss mt) (t : Turn w w' [b]) (hk : k'.rest = k.rest ∧ k'.valid = k.valid ∧ k'.fields = k.fields ∧ k'.metas = k.metas) (blk : Blk w' b 39 k'.cs) :
    PktIs w' b vb gs k' l va nss mt := by
  refine T.turn t (fun q hq => by simp at hq; subst hq; simp) hk blk rfl (t.blk T.vblk (by simp; exact fun e => T.bvb e.symm)) rfl (fun i g' ns' hg' hn' => t.blk (T.each i g' ns' hg' hn') (by simp; exact (T.mem hg').2.1))

/-- What Set finds: a field of a header. -/
structure SetIn (w : World) (p : PG) (hs : List (SL × List Int)) (b vb g h f : Nat) (gs : List Nat) (k : PK) (l : List Nat) (va : List Bool) (nss : List (List (BitVec 128))) (mt ns : List (BitVec 128)) (x : Int) (v : Bool) : Prop where
  pkt : PktIs w b vb gs k l va nss mt
  heads : HeadsAre w p.heads hs
  g_ : gs[h]? = some g
  ns_ : nss[h]? = some ns
  on : va[h]? = some v
  x_ : (headAt hs h).2[f]? = some x
  fn : f < ns.length
  hh : h < hs.length
  x63 : -9223372036854775808 ≤ x ∧ x ≤ 9223372036854775807
def SetPost (w : World) (b vb g h f : Nat) (gs : List Nat) (k : PK) (l : List Nat) (va : List Bool) (nss : List (List (BitVec 128))) (mt ns : List (BitVec 128)) (x : Int) (v : Bool) (n : BitVec 128) (e : Ending) (w' : World) : Prop :=
  e = .returned (.tuple #[]) ∧ ((v = true ∧ Turn w w' [g] ∧ PktIs w' b vb gs k l va (nss.set h (ns.set f (n &&& maskOf x))) mt) ∨ (v = false ∧ Turn w w' [b] ∧ PktIs w' b vb gs { k with access := true } l va nss mt))
set_option maxRecDepth 100000 in
set_option maxHeartbeats 4000000 in
theorem set_ok {f : Nat} {x : Int} (n : BitVec 128) (S : SetIn w p hs b vb g h f gs k l va nss mt ns x v) :
    Calls Try.prog 15 #[p.v, .pointer (some ⟨b, 0, none⟩), .int .i64 h, .int .i64 f, nv n] w (SetPost w b vb g h f gs k l va nss mt ns x v n) := by
  obtain ⟨T, H, hg, hns, hon, hx, hfn, hh, hx63⟩ := S
  have HT := hid T
  have HHd := hid H
  have hvlt := (List.getElem?_eq_some_iff.1 hon).1
  have hxl := (List.getElem?_eq_some_iff.1 hx).1
  have hxe := (List.getElem?_eq_some_iff.1 hx).2
  have hfl := T.frd.len
  have hfs := fsOf_length gs nss T.len
  have hnl := (List.getElem?_eq_some_iff.1 hns).1
  have hhl := H.len
  have hhas : hasB k (h : Int) = true := by
    unfold hasB
    rw [T.valid]
    simp; omega
  have HS := hid (fun V (hb : Below w.heap.size w V) => by have := has_any (HT.out.blk.below hb) (h : Int); rw [hhas] at this; exact this)
  have WD := hid (fun V (hb : Below w.heap.size w V) => widths_any (HHd.out.below hb) (h : Int))
  have CT := hid (fun V => cut_any n x hx63.1 hx63.2 V)
  obtain ⟨rb, ro, er, zr, _, cr⟩ := T.frd.row.one (i := h) (u := .slice (some ⟨g, 0, none⟩) ns.length ns.length) (by rw [List.getElem?_map, fsOf_at gs nss h g ns hg hns]; rfl)
  obtain ⟨pb, po, ep, zp, _, cp⟩ := H.row.one (i := h) (u := hs[h].1.v) (by simp [hh])
  have hA : headAt hs (h : Int) = hs[h] := by unfold headAt; rw [if_neg (by omega)]; simp [hh]
  have A := H.each hs[h] (List.getElem_mem _)
  have hwn := A.int
  rw [hA] at hxl WD
  have hxe' : hs[h].2[f] = x := by
    have h1 := hx
    rw [hA] at h1
    exact (List.getElem?_eq_some_iff.1 h1).2
  obtain ⟨qb, qo, eq, zq, cq⟩ := RdS.intAt A hxl
  rw [hxe'] at cq
  have hvalid := T.valid
  have cb2 := T.blk.cell 2
  have cb3 := T.blk.cell 3
  have cvh := T.vblk.cell h
  rw [show (bools va)[h]? = some (.bool v) by simp [bools, hon]] at cvh
  simp only [List.getElem?_cons_zero, List.getElem?_cons_succ] at cb2 cb3
  have zb := T.blk.lt
  have zvb := T.vblk.lt
  have bg := T.each h g ns hg hns
  have HG := hid (And.intro hg hns)
  clear T H hx hxe hA A hon hg hns hxe'
  generalize hs[h] = hd at *
  obtain ⟨⟨wa, wn, wc⟩, ws⟩ := hd
  simp only at hxl WD hwn eq cp
  subst hwn eq
  obtain ⟨port, rest, kv, ⟨fa, fn, fc⟩, metas, dr, se, eg, ac⟩ := k
  simp only at hvalid hfl er cb2 cb3
  subst hvalid er
  simp only [SL.v_mk] at cb2 cb3
  obtain ⟨⟨pa, pn, pc⟩, pm, s2, s3, s4, s5, em, n0, n1, n2, n3, n4⟩ := p
  simp only at hhl ep
  subst hhl ep
  have hfn2 : fn = nss.length := by omega
  subst hfn2
  have k1 : (h : Int) < (va.length : Int) := by omega
  have k2 : (h : Int) < (nss.length : Int) := by omega
  have k3 : (f : Int) < (ns.length : Int) := by omega
  have k4 : (f : Int) < (ws.length : Int) := by omega
  have k5 : (h : Int) < (hs.length : Int) := by omega
  have k6 : ¬ (ns.length : Int) ≤ (f : Int) := by omega
  have k7 : ¬ (ws.length : Int) ≤ (f : Int) := by omega
  have k8 : ¬ (f : Int) < 0 := by omega
  clear hfl hfs hnl hhas hvlt hxl
  go_enter Try.func15, Try.ntmps15
  go_upto_region 1 with (fail)
  refine wp_gen (fun V hV => ?_)
  have hbV : Below w.heap.size w V := by rw [hV]; (repeat' (first | (with_reducible exact Below.refl _ _) | (with_reducible refine Below.ext_mk ?_ ?_ _ _) | (with_reducible refine Below.alloc ?_ ?_ _) | (with_reducible refine Below.drew ?_) | (with_reducible refine Below.setCell ?_ ?_ _) | go_size))
  have bp : Blk V w.heap.size 33 [.slice (some ⟨pb, po, none⟩) hs.length pc, pm.v, s2.v, s3.v, s4.v, s5.v, em.v, n0.v, n1.v, n2.v, n3.v, n4.v] := by
    rw [hV]
    exact (Blk.new w 33 [.slice (some ⟨pb, po, none⟩) hs.length pc, pm.v, s2.v, s3.v, s4.v, s5.v, em.v, n0.v, n1.v, n2.v, n3.v, n4.v]).below (by repeat (first | exact Below.refl _ _ | refine Below.alloc ?_ (by simp; try omega) _))
  have bn : Blk V (w.heap.size + 1) 45 [.int .u64 (hi n), .int .u64 (lo n)] := by
    rw [hV]
    have h := Blk.new (w.alloc (.cells [.slice (some ⟨pb, po, none⟩) hs.length pc, pm.v, s2.v, s3.v, s4.v, s5.v, em.v, n0.v, n1.v, n2.v, n3.v, n4.v].toArray 33)) 45 [.int .u64 (hi n), .int .u64 (lo n)]
    simp only [World.size_alloc] at h
    exact h
  clear hV
  have vb2 := (hbV.cell (p := ⟨b, 2, none⟩) zb).trans cb2
  have vb3 := (hbV.cell (p := ⟨b, 3, none⟩) zb).trans cb3
  have vrh := (hbV.cell (p := ⟨rb, ro + h, none⟩) zr).trans cr
  have yb : b < V.heap.size := by have := hbV.size; omega
  have yr : rb < V.heap.size := by have := hbV.size; omega
  have BP := hid bp
  have BN := hid bn
  clear bp bn
  have hbs := hbV.size
  refine wp_region_doc (fun F hF => ?_)
  have HF := hid hF
  clear hF
  iterate 2 (refine doc_val rfl (by first | (go_simp; done) | (go_simp; exact ⟨rfl, rfl⟩) | (go_simp; with_reducible rfl)) ?_; simp only [Act.put, List.setIfInBounds_toArray, List.set_cons_zero, List.set_cons_succ])
  refine doc_call rfl (by first | (go_simp; done) | (go_simp; exact ⟨rfl, rfl⟩) | (go_simp; with_reducible rfl)) (Calls.mono (HS.out _ (by (repeat' (first | (with_reducible exact hbV) | (with_reducible exact Below.refl _ _) | (with_reducible refine Below.ext_mk ?_ ?_ _ _) | (with_reducible refine Below.alloc ?_ ?_ _) | (with_reducible refine Below.drew ?_) | (with_reducible refine Below.setCell ?_ ?_ _) | go_size)))) ?_)
  rintro _ _ ⟨rfl, mz, dz, rfl⟩
  refine ⟨_, rfl, ?_⟩
  simp only [Act.put, List.setIfInBounds_toArray, List.set_cons_zero, List.set_cons_succ]
  iterate 19 (refine doc_val rfl (by first | (go_simp; done) | (go_simp; exact ⟨rfl, rfl⟩) | (go_simp; with_reducible rfl)) ?_; simp only [Act.put, List.setIfInBounds_toArray, List.set_cons_zero, List.set_cons_succ])
  refine doc_val rfl (load_agg_op _ _ _ _ _ _ _ _ Try.underlying33 (prog_size _ rfl) rfl (BP.out.below (by first | exact Below.ext_mk (Below.refl _ _) (Nat.le_refl _) _ _ | (repeat' (first | (with_reducible exact Below.refl _ _) | (with_reducible refine Below.ext_mk ?_ ?_ _ _) | (with_reducible refine Below.alloc ?_ ?_ _) | (with_reducible refine Below.drew ?_) | (with_reducible refine Below.setCell ?_ ?_ _) | go_size))))) ?_
  simp only [Act.put, List.setIfInBounds_toArray, List.set_cons_zero, List.set_cons_succ]
  iterate 1 (refine doc_val rfl (by first | (go_simp; done) | (go_simp; exact ⟨rfl, rfl⟩) | (go_simp; with_reducible rfl)) ?_; simp only [Act.put, List.setIfInBounds_toArray, List.set_cons_zero, List.set_cons_succ])
  refine doc_call rfl (by first | (go_simp; done) | (go_simp; exact ⟨rfl, rfl⟩) | (go_simp; with_reducible rfl)) (Calls.mono (WD.out _ (by (repeat' (first | (with_reducible exact hbV) | (with_reducible exact Below.refl _ _) | (with_reducible refine Below.ext_mk ?_ ?_ _ _) | (with_reducible refine Below.alloc ?_ ?_ _) | (with_reducible refine Below.drew ?_) | (with_reducible refine Below.setCell ?_ ?_ _) | go_size)))) ?_)
  rintro _ _ ⟨rfl, mz, dz, rfl⟩
  refine ⟨_, rfl, ?_⟩
  simp only [Act.put, List.setIfInBounds_toArray, List.set_cons_zero, List.set_cons_succ]
  iterate 3 (refine doc_val rfl (by first | (go_simp; done) | (go_simp; exact ⟨rfl, rfl⟩) | (go_simp; with_reducible rfl)) ?_; simp only [Act.put, List.setIfInBounds_toArray, List.set_cons_zero, List.set_cons_succ])
  refine doc_end (HF.out _ _ ?_)
  clear HF F
  go_upto_region 2 with (fail)
  refine wp_gen (fun X hX => ?_)
  have hbVX : Below V.heap.size V X := by rw [hX]; exact Below.ext_mk (Below.refl _ _) (Nat.le_refl _) _ _
  have hbX : Below w.heap.size w X := hbV.trans (hbVX.mono hbs)
  clear hX
  have xb2 := (hbX.cell (p := ⟨b, 2, none⟩) zb).trans cb2
  have xb3 := (hbX.cell (p := ⟨b, 3, none⟩) zb).trans cb3
  have xvh := (hbX.cell (p := ⟨vb, h, none⟩) zvb).trans cvh
  have xrh := (hbX.cell (p := ⟨rb, ro + h, none⟩) zr).trans cr
  have xph := (hbX.cell (p := ⟨pb, po + h, none⟩) zp).trans cp
  have xqf := (hbX.cell (p := ⟨qb, qo + f, none⟩) zq).trans cq
  have hXs := hbX.size
  have ub : b < X.heap.size := by omega
  have uvb : vb < X.heap.size := by omega
  have ur : rb < X.heap.size := by omega
  have up : pb < X.heap.size := by omega
  have uq : qb < X.heap.size := by omega
  have BPX := hid (BP.out.below hbVX)
  have BNX := hid (BN.out.below hbVX)
  have c0 := BPX.out.cell 0
  have d0 := BNX.out.cell 0
  have d1 := BNX.out.cell 1
  simp only [List.getElem?_cons_zero, List.getElem?_cons_succ] at c0 d0 d1
  have u0 := BPX.out.lt
  have u1 := BNX.out.lt
  have TX := hid (HT.out.below hbX)
  clear vb2 vb3 vrh yb yr cb2 cb3 cvh cr cp cq BP BN
  cases v
  · have xb8 := TX.out.blk.cell 8
    have xf8 := TX.out.blk.free 8
    simp only [List.getElem?_cons_zero, List.getElem?_cons_succ] at xb8
    go_wp2_with fail
    go_returns
    refine ⟨rfl, .inr ⟨rfl, ?_, ?_⟩⟩
    · exact (Turn.of_below hbX).trans (Turn.set_ b 8 _ (by simp))
    · exact TX.out.own (Turn.set_ b 8 _ (by simp)) ⟨rfl, rfl, rfl, rfl⟩ (TX.out.blk.set_ 8 (.bool true))
  · go_upto_region 4 with (fail)
    refine wp_region_store 19 (by kernel_rfl) (by kernel_rfl) (by kernel_rfl) rfl (fun F' hF' G' hG' => ?_)
    simp only [List.take_succ_cons, List.take_zero, List.drop_succ_cons, List.drop_zero] at hG' ⊢
    have HF := hid hF'
    clear hF'
    have HGG := hid hG'
    clear hG'
    repeat (first
      | (apply text_val; (focus rfl); (focus (intro _ _; go_simp; with_reducible rfl)); simp only [Act.put, List.setIfInBounds_toArray, List.set_cons_zero, List.set_cons_succ])
      | (apply text_call; (focus rfl); (focus (intro _ _; go_simp; exact ⟨rfl, rfl⟩)); (focus (intro _ _; with_reducible (exact CT.out _))); simp only [Act.put, List.setIfInBounds_toArray, List.set_cons_zero, List.set_cons_succ]))
    refine text_nil (HGG.out _ ?_)
    clear HGG G'
    have bgX : Blk X g 45 (nums ns) := TX.out.each h g ns HG.out.1 HG.out.2
    have zg := bgX.lt
    have hjl : f * 2 + 1 < (nums ns).length := by rw [nums_length]; omega
    apply store_step (W2 := (X.setCell ⟨g, f * 2, none⟩ (.int .u64 (hi (n &&& maskOf x)))).setCell ⟨g, f * 2 + 1, none⟩ (.int .u64 (lo (n &&& maskOf x))))
    · rfl
    · intro m d
      refine ⟨m, d, (store_num_at _ _ _ _ _ _ _ _ rfl rfl (bgX.ext m d) hjl).trans ?_⟩
      simp [zg]
    refine both_nil (HF.out _ _ (fun m9 d9 => ?_))
    clear HF F'
    go_wp2_with fail
    go_returns
    have t1 : Turn X (((X.setCell ⟨g, f * 2, none⟩ (.int .u64 (hi (n &&& maskOf x)))).setCell ⟨g, f * 2 + 1, none⟩ (.int .u64 (lo (n &&& maskOf x)))).ext m9 d9) [g] :=
      (Turn.set_ g _ _ (by simp)).trans ((Turn.set_ g _ _ (by simp)).trans (Turn.of_below (Below.ext_mk (Below.refl _ _) (Nat.le_refl _) _ _)))
    refine ⟨rfl, .inl ⟨rfl, (Turn.of_below hbX).trans t1, ?_⟩⟩
    refine TX.out.numRow t1 HG.out.1 HG.out.2 (by simp) ?_
    rw [nums_set]
    exact ((bgX.set_ _ _).set_ _ _).ext _ _
end
end Go.Proofs.Ytkblldmpdihamaa
set_option linter.unusedVariables false
set_option linter.unusedSimpArgs false
namespace Go.Proofs.Ytkblldmpdihamaa
open Go.RowKit

theorem neq_bool (b : Bool) : (b != b) = false := by cases b <;> rfl
theorem fmap_at {fs : List (SL × List (BitVec 128))} {nss : List (List (BitVec 128))} (h : fs.map (fun x => x.2) = nss) {i : Nat} (hi : i < nss.length) : ∃ s, fs[i]? = some (s, nss[i]) := by
  subst h
  have hi' : i < fs.length := by simpa using hi
  exact ⟨fs[i].1, by rw [List.getElem?_eq_getElem hi']; simp⟩
set_option maxRecDepth 100000 in
set_option maxHeartbeats 8000000 in
theorem same_any {w : World} {k k' : PK} {l : List Nat} {va : List Bool} {fs fs' : List (SL × List (BitVec 128))} {nss : List (List (BitVec 128))} {mt : List (BitVec 128)}
    (r1 : RdS w 1 k.rest (byts l)) (r2 : RdS w 1 k'.rest (byts l)) (v1 : RdS w 1 k.valid (bools va)) (v2 : RdS w 1 k'.valid (bools va)) (f1 : FieldsAre w k.fields fs) (f2 : FieldsAre w k'.fields fs') (m1 : RdS w 2 k.metas (nums mt)) (m2 : RdS w 2 k'.metas (nums mt))
    (e1 : fs.map (fun x => x.2) = nss) (e2 : fs'.map (fun x => x.2) = nss) (hle : nss.length ≤ va.length)
    (q1 : k'.port = k.port) (q2 : k'.dropped = k.dropped) (q3 : k'.sent = k.sent) (q4 : k'.egress = k.egress) (q5 : k'.access = k.access) :
    Calls Try.prog 16 #[k.v, k'.v] w (Pure (.bool true) w) := by
  have hl1 := f1.len
  have hl2 := f2.len
  have hn1 : fs.length = nss.length := by rw [← e1]; simp
  have hn2 : fs'.length = nss.length := by rw [← e2]; simp
  have hv1 : k.valid.n = va.length := by have := v1.2.2.1; rw [bools_length] at this; omega
  have hv2 : k'.valid.n = va.length := by have := v2.2.2.1; rw [bools_length] at this; omega
  have hm1 : k.metas.n = mt.length := by have := m1.2.2.1; rw [nums_length] at this; omega
  have hm2 : k'.metas.n = mt.length := by have := m2.2.2.1; rw [nums_length] at this; omega
  have hmm := m1.2.1
  have hfm := f1.row.2.1
  have A1 := hid (fun W (hb : Below w.heap.size w W) => str_any (r1.below hb))
  have A2 := hid (fun W (hb : Below w.heap.size w W) => str_any (r2.below hb))
  have V1 := hid v1
  have V2 := hid v2
  have F1 := hid f1
  have F2 := hid f2
  have M1 := hid m1
  have M2 := hid m2
  have E1 := hid e1
  have E2 := hid e2
  clear r1 r2 v1 v2 f1 f2 m1 m2 e1 e2
  obtain ⟨port, ⟨ra, rn, rc⟩, ⟨va1, vn, vc⟩, ⟨fa, fn, fc⟩, ⟨ma, mn, mc⟩, dr, se, eg, ac⟩ := k
  obtain ⟨port', ⟨ra', rn', rc'⟩, ⟨va1', vn', vc'⟩, ⟨fa', fn', fc'⟩, ⟨ma', mn', mc'⟩, dr', se', eg', ac'⟩ := k'
  simp only at hl1 hl2 hv1 hv2 hm1 hm2 hmm hfm q1 q2 q3 q4 q5 A1 A2
  subst hv1 hv2 hm1 hm2 q1 q2 q3 q4 q5
  have hfn : fn = nss.length := by omega
  have hfn' : fn' = nss.length := by omega
  subst hfn hfn'
  clear hl1 hl2
  have b1 := neq_bool dr'
  have b2 := neq_bool se'
  have b3 := neq_bool ac'
  have i1 : ((port' : Int) != port') = false := by simp
  have i2 : ((eg' : Int) != eg') = false := by simp
  go_enter Try.func16, Try.ntmps16
  go_upto_region 1 with (fail)
  refine wp_gen (fun V hV => ?_)
  have hbV : Below w.heap.size w V := by rw [hV]; (repeat' (first | (with_reducible exact Below.refl _ _) | (with_reducible refine Below.ext_mk ?_ ?_ _ _) | (with_reducible refine Below.alloc ?_ ?_ _) | (with_reducible refine Below.drew ?_) | (with_reducible refine Below.setCell ?_ ?_ _) | go_size))
  have bk : Blk V w.heap.size 39 (PK.mk port' ⟨ra, rn, rc⟩ ⟨va1, va.length, vc⟩ ⟨fa, nss.length, fc⟩ ⟨ma, mt.length, mc⟩ dr' se' eg' ac').cs := by
    rw [hV]
    exact (Blk.new w 39 (PK.mk port' ⟨ra, rn, rc⟩ ⟨va1, va.length, vc⟩ ⟨fa, nss.length, fc⟩ ⟨ma, mt.length, mc⟩ dr' se' eg' ac').cs).below (by repeat (first | exact Below.refl _ _ | refine Below.alloc ?_ (by simp; try omega) _))
  have bk' : Blk V (w.heap.size + 1) 39 (PK.mk port' ⟨ra', rn', rc'⟩ ⟨va1', va.length, vc'⟩ ⟨fa', nss.length, fc'⟩ ⟨ma', mt.length, mc'⟩ dr' se' eg' ac').cs := by
    rw [hV]
    have h := Blk.new (w.alloc (.cells (PK.mk port' ⟨ra, rn, rc⟩ ⟨va1, va.length, vc⟩ ⟨fa, nss.length, fc⟩ ⟨ma, mt.length, mc⟩ dr' se' eg' ac').cs.toArray 39)) 39 (PK.mk port' ⟨ra', rn', rc'⟩ ⟨va1', va.length, vc'⟩ ⟨fa', nss.length, fc'⟩ ⟨ma', mt.length, mc'⟩ dr' se' eg' ac').cs
    simp only [World.size_alloc] at h
    exact h
  clear hV
  have hbs := hbV.size
  have BK := hid bk
  have BK' := hid bk'
  have z1 := bk.lt
  have z2 := bk'.lt
  have a1 : (convert 34 9 (.slice ra rn rc)).run Try.prog V = .ok (.string (strOf l)) V := A1.out _ hbV
  have a2 : (convert 34 9 (.slice ra' rn' rc')).run Try.prog V = .ok (.string (strOf l)) V := A2.out _ hbV
  have c0 := bk.cell 0
  have c1 := bk.cell 1
  have c2 := bk.cell 2
  have c3 := bk.cell 3
  have c4 := bk.cell 4
  have c5 := bk.cell 5
  have c6 := bk.cell 6
  have c7 := bk.cell 7
  have c8 := bk.cell 8
  have d0 := bk'.cell 0
  have d1 := bk'.cell 1
  have d2 := bk'.cell 2
  have d3 := bk'.cell 3
  have d4 := bk'.cell 4
  have d5 := bk'.cell 5
  have d6 := bk'.cell 6
  have d7 := bk'.cell 7
  have d8 := bk'.cell 8
  simp only [List.getElem?_cons_zero, List.getElem?_cons_succ, SL.v_mk] at c0 c1 c2 c3 c4 c5 c6 c7 c8 d0 d1 d2 d3 d4 d5 d6 d7 d8
  clear bk bk'
  refine wp_region_doc (fun F hF => ?_)
  have HF := hid hF
  clear hF
  iterate 69 (refine doc_val rfl (by first | (go_simp; done) | (go_simp; exact ⟨rfl, rfl⟩) | (go_simp; with_reducible rfl)) ?_; simp only [Act.put, List.setIfInBounds_toArray, List.set_cons_zero, List.set_cons_succ])
  refine doc_end (HF.out _ _ ?_)
  clear HF F
  go_upto_region 3 with (fail)
  clear c0 c1 c2 c3 c4 c5 c6 c7 c8 d0 d1 d2 d3 d4 d5 d6 d7 d8 a1 a2
  have KC : ∀ W, Below V.heap.size V W → W.cell? ⟨w.heap.size, 2, none⟩ = some (.slice va1 va.length vc) ∧ W.cell? ⟨w.heap.size, 3, none⟩ = some (.slice fa nss.length fc) ∧ W.cell? ⟨w.heap.size, 4, none⟩ = some (.slice ma mt.length mc) ∧ w.heap.size < W.heap.size ∧
      W.cell? ⟨w.heap.size + 1, 2, none⟩ = some (.slice va1' va.length vc') ∧ W.cell? ⟨w.heap.size + 1, 3, none⟩ = some (.slice fa' nss.length fc') ∧ W.cell? ⟨w.heap.size + 1, 4, none⟩ = some (.slice ma' mt.length mc') ∧ w.heap.size + 1 < W.heap.size := fun W hW =>
    ⟨(BK.out.below hW).cell 2, (BK.out.below hW).cell 3, (BK.out.below hW).cell 4, by have := hW.size; omega, (BK'.out.below hW).cell 2, (BK'.out.below hW).cell 3, (BK'.out.below hW).cell 4, by have := hW.size; omega⟩
  have KD := hid KC
  obtain ⟨c2, c3, c4, y1, d2, d3, d4, y2⟩ := KC V (Below.refl _ _)
  clear KC
  go_wp2_with fail
  go_loopw [5] (fun i wr => ∃ j : Nat, j ≤ mt.length ∧ i = .int .i64 j ∧ Below V.heap.size V wr) (fun i _ => mt.length - (intOf i).toNat)
  case atStart => exact ⟨0, by omega, rfl, Below.refl _ _⟩
  case round =>
    clear c2 c3 c4 y1 d2 d3 d4 y2
    obtain ⟨j, hj, rfl, hb⟩ := hrel
    have hbr := hb.size
    have hbw : Below w.heap.size w wr := hbV.trans (hb.mono hbs)
    obtain ⟨c2, c3, c4, y1, d2, d3, d4, y2⟩ := KD.out wr hb
    by_cases hlt : j < mt.length
    · have hj1 : (j : Int) < (mt.length : Int) := by omega
      obtain ⟨b, off, e1, zb, _, n0, n1⟩ := M1.out.num (i := j) (n := mt[j]) (by simp [hlt])
      obtain ⟨b', off', e1', zb', _, n0', n1'⟩ := M2.out.num (i := j) (n := mt[j]) (by simp [hlt])
      simp only at e1 e1'
      subst e1 e1'
      have u0 := (hbw.cell (p := ⟨b, off + j * 2, none⟩) zb).trans n0
      have u1 := (hbw.cell (p := ⟨b, off + j * 2 + 1, none⟩) zb).trans n1
      have u0' := (hbw.cell (p := ⟨b', off' + j * 2, none⟩) zb').trans n0'
      have u1' := (hbw.cell (p := ⟨b', off' + j * 2 + 1, none⟩) zb').trans n1'
      have zw : b < wr.heap.size := by have := hbw.size; omega
      have zw' : b' < wr.heap.size := by have := hbw.size; omega
      clear n0 n1 n0' n1'
      generalize mt[j] = n at *
      go_upto_region 6 with (fail)
      refine wp_region_ext (by kernel_rfl) (by kernel_rfl) (fun F hF => ?_)
      have HF := hid hF; clear hF
      repeat (first
        | (apply text_skip; (focus rfl); simp only [Act.put, List.setIfInBounds_toArray, List.set_cons_zero, List.set_cons_succ])
        | (apply text_val; (focus rfl); (focus (intro _ _; go_simp; with_reducible rfl)); simp only [Act.put, List.setIfInBounds_toArray, List.set_cons_zero, List.set_cons_succ])
        | (apply text_if; (focus (first | exact wanted_t rfl rfl | exact wanted_f rfl rfl | exact wanted_gt rfl rfl | exact wanted_gf rfl rfl)); (focus (intro hc _ _; (try simp only [Bool.and_eq_true, Bool.not_eq_true', Bool.true_and] at hc); go_simp; with_reducible rfl)); simp only [Act.put, List.setIfInBounds_toArray, List.set_cons_zero, List.set_cons_succ]))
      refine text_nil (HF.out _ (fun mx dx => ?_))
      clear HF F
      go_wp2_with fail
      go_roundw
      case rel => exact ⟨j + 1, hlt, by go_num, by (repeat' (first | (with_reducible exact hb) | (with_reducible exact Below.refl _ _) | (with_reducible refine Below.ext_mk ?_ ?_ _ _) | (with_reducible refine Below.alloc ?_ ?_ _) | (with_reducible refine Below.drew ?_) | (with_reducible refine Below.setCell ?_ ?_ _) | go_size))⟩
      case measure => simp [intOf]; omega
    · obtain rfl : j = mt.length := by omega
      go_wp2_with fail
      go_loopw [6] (fun i wr => ∃ j : Nat, j ≤ nss.length ∧ i = .int .i64 j ∧ Below V.heap.size V wr) (fun i _ => nss.length - (intOf i).toNat)
      case atStart => exact ⟨0, by omega, rfl, hb⟩
      case round =>
        clear c2 c3 c4 y1 d2 d3 d4 y2 hb hbr hbw
        obtain ⟨j, hj, rfl, hb⟩ := hrel
        have hbr := hb.size
        have hbw : Below w.heap.size w wr := hbV.trans (hb.mono hbs)
        obtain ⟨c2, c3, c4, y1, d2, d3, d4, y2⟩ := KD.out wr hb
        by_cases hlt : j < nss.length
        · have hj1 : (j : Int) < (nss.length : Int) := by omega
          have hjv : j < va.length := by omega
          have hj2 : (j : Int) < (va.length : Int) := by omega
          obtain ⟨s, hs⟩ := fmap_at E1.out hlt
          obtain ⟨s', hs'⟩ := fmap_at E2.out hlt
          have B := F1.out.each _ (List.mem_of_getElem? hs)
          have B' := F2.out.each _ (List.mem_of_getElem? hs')
          have hn := B.2.2.1
          have hn' := B'.2.2.1
          have hnm := B.2.1
          rw [nums_length] at hn hn'
          simp only at hn hn' hnm
          obtain ⟨fb, fo, ef, zfb, _, cf⟩ := F1.out.row.one (i := j) (u := s.v) (by rw [List.getElem?_map, hs]; rfl)
          obtain ⟨fb', fo', ef', zfb', _, cf'⟩ := F2.out.row.one (i := j) (u := s'.v) (by rw [List.getElem?_map, hs']; rfl)
          obtain ⟨vb, vo, ev, zvb, _, cv⟩ := V1.out.one (i := j) (u := .bool va[j]) (by simp [bools, hjv])
          obtain ⟨vb', vo', ev', zvb', _, cv'⟩ := V2.out.one (i := j) (u := .bool va[j]) (by simp [bools, hjv])
          simp only at ef ef' ev ev'
          subst ef ef' ev ev'
          obtain ⟨sa, sn, sc⟩ := s
          obtain ⟨sa', sn', sc'⟩ := s'
          have hsn : sn = nss[j].length := by simp only at hn; omega
          have hsn' : sn' = nss[j].length := by simp only at hn'; omega
          have HBB := hid (And.intro B B')
          clear B B' hs hs' hn hn'
          generalize nss[j] = ns at *
          subst hsn hsn'
          simp only [SL.v_mk] at cf cf' hnm
          have FC : ∀ W, Below w.heap.size w W → W.cell? ⟨fb, fo + j, none⟩ = some (.slice sa ns.length sc) ∧ W.cell? ⟨fb', fo' + j, none⟩ = some (.slice sa' ns.length sc') ∧ fb < W.heap.size ∧ fb' < W.heap.size := fun W hW =>
            ⟨(hW.cell (p := ⟨fb, fo + j, none⟩) zfb).trans cf, (hW.cell (p := ⟨fb', fo' + j, none⟩) zfb').trans cf', by have := hW.size; omega, by have := hW.size; omega⟩
          have FD := hid FC
          obtain ⟨x1, x2, x3, x4⟩ := FC wr hbw
          have x5 := (hbw.cell (p := ⟨vb, vo + j, none⟩) zvb).trans cv
          have x6 := (hbw.cell (p := ⟨vb', vo' + j, none⟩) zvb').trans cv'
          have x7 : vb < wr.heap.size := by have := hbw.size; omega
          have x8 : vb' < wr.heap.size := by have := hbw.size; omega
          generalize va[j] = v at *
          have b4 := neq_bool v
          clear FC cf cf' cv cv'
          go_upto_region 11 with (fail)
          refine wp_region_ext (by kernel_rfl) (by kernel_rfl) (fun F hF => ?_)
          have HF := hid hF; clear hF
          repeat (first
            | (apply text_skip; (focus rfl); simp only [Act.put, List.setIfInBounds_toArray, List.set_cons_zero, List.set_cons_succ])
            | (apply text_val; (focus rfl); (focus (intro _ _; go_simp; with_reducible rfl)); simp only [Act.put, List.setIfInBounds_toArray, List.set_cons_zero, List.set_cons_succ])
            | (apply text_if; (focus (first | exact wanted_t rfl rfl | exact wanted_f rfl rfl | exact wanted_gt rfl rfl | exact wanted_gf rfl rfl)); (focus (intro hc _ _; (try simp only [Bool.and_eq_true, Bool.not_eq_true', Bool.true_and] at hc); go_simp; with_reducible rfl)); simp only [Act.put, List.setIfInBounds_toArray, List.set_cons_zero, List.set_cons_succ]))
          refine text_nil (HF.out _ (fun mx dx => ?_))
          clear HF F
          go_wp2_with fail
          go_loopw [7] (fun i wr => ∃ m : Nat, m ≤ ns.length ∧ i = .int .i64 m ∧ Below V.heap.size V wr) (fun i _ => ns.length - (intOf i).toNat)
          case atStart => exact ⟨0, by omega, rfl, by (repeat' (first | (with_reducible exact hb) | (with_reducible exact Below.refl _ _) | (with_reducible refine Below.ext_mk ?_ ?_ _ _) | (with_reducible refine Below.alloc ?_ ?_ _) | (with_reducible refine Below.drew ?_) | (with_reducible refine Below.setCell ?_ ?_ _) | go_size))⟩
          case round =>
            clear c2 c3 c4 y1 d2 d3 d4 y2 hb hbr hbw x1 x2 x3 x4 x5 x6 x7 x8
            obtain ⟨m, hm, rfl, hb⟩ := hrel
            have hbr := hb.size
            have hbw : Below w.heap.size w wr := hbV.trans (hb.mono hbs)
            obtain ⟨c2, c3, c4, y1, d2, d3, d4, y2⟩ := KD.out wr hb
            obtain ⟨x1, x2, x3, x4⟩ := FD.out wr hbw
            by_cases hlm : m < ns.length
            · have hm1 : (m : Int) < (ns.length : Int) := by omega
              obtain ⟨b, off, e1, zb, _, n0, n1⟩ := HBB.out.1.num (i := m) (n := ns[m]) (by simp [hlm])
              obtain ⟨b', off', e1', zb', _, n0', n1'⟩ := HBB.out.2.num (i := m) (n := ns[m]) (by simp [hlm])
              simp only at e1 e1'
              subst e1 e1'
              have u0 := (hbw.cell (p := ⟨b, off + m * 2, none⟩) zb).trans n0
              have u1 := (hbw.cell (p := ⟨b, off + m * 2 + 1, none⟩) zb).trans n1
              have u0' := (hbw.cell (p := ⟨b', off' + m * 2, none⟩) zb').trans n0'
              have u1' := (hbw.cell (p := ⟨b', off' + m * 2 + 1, none⟩) zb').trans n1'
              have zw : b < wr.heap.size := by have := hbw.size; omega
              have zw' : b' < wr.heap.size := by have := hbw.size; omega
              clear n0 n1 n0' n1'
              generalize ns[m] = n at *
              go_upto_region 16 with (fail)
              refine wp_region_ext (by kernel_rfl) (by kernel_rfl) (fun F hF => ?_)
              have HF := hid hF; clear hF
              repeat (first
                | (apply text_skip; (focus rfl); simp only [Act.put, List.setIfInBounds_toArray, List.set_cons_zero, List.set_cons_succ])
                | (apply text_val; (focus rfl); (focus (intro _ _; go_simp; with_reducible rfl)); simp only [Act.put, List.setIfInBounds_toArray, List.set_cons_zero, List.set_cons_succ])
                | (apply text_if; (focus (first | exact wanted_t rfl rfl | exact wanted_f rfl rfl | exact wanted_gt rfl rfl | exact wanted_gf rfl rfl)); (focus (intro hc _ _; (try simp only [Bool.and_eq_true, Bool.not_eq_true', Bool.true_and] at hc); go_simp; with_reducible rfl)); simp only [Act.put, List.setIfInBounds_toArray, List.set_cons_zero, List.set_cons_succ]))
              refine text_nil (HF.out _ (fun mx dx => ?_))
              clear HF F
              go_wp2_with fail
              go_roundw
              case rel => exact ⟨m + 1, hlm, by go_num, by (repeat' (first | (with_reducible exact hb) | (with_reducible exact Below.refl _ _) | (with_reducible refine Below.ext_mk ?_ ?_ _ _) | (with_reducible refine Below.alloc ?_ ?_ _) | (with_reducible refine Below.drew ?_) | (with_reducible refine Below.setCell ?_ ?_ _) | go_size))⟩
              case measure => simp [intOf]; omega
            · obtain rfl : m = ns.length := by omega
              go_wp2_with fail
              go_roundw
              case rel => exact ⟨j + 1, hlt, by go_num, hb⟩
              case measure => simp [intOf]; omega
        · obtain rfl : j = nss.length := by omega
          go_wp2_with fail
          go_returns
          exact Pure.of rfl hbw
end Go.Proofs.Ytkblldmpdihamaa
set_option linter.unusedVariables false
set_option linter.unusedSimpArgs false
namespace Go.Proofs.Ytkblldmpdihamaa
open Go.RowKit

theorem append_copy {w : World} {s : SL} {xs : List Value} {t e : TypeId} {i : TypeInfo} {z : Value} {size bytes : Nat} (ht : Try.prog.underlying t = some (.slice e)) (hi : Try.prog.info? e = some i) (hz : i.zero = some z) (hsize : i.size = size) (hby : i.bytes = bytes)
    (hzs : z.cells.size = size) (hsz : 0 < size) (h : RdS w size s xs) (h1 : ∀ u ∈ xs, u.oneCell' = true) (hn : s.n ≤ 1000000) (hb : bytes ≤ 1000) :
    ∃ (a : Option Addr) (c : Nat) (w1 : World) (G : Nat), (Builtin.append_ #[t, t] t #[.slice (some ⟨w.heap.size, 0, none⟩) 0 0, s.v]).run Try.prog (w.alloc (.cells #[] e)) = .ok (.slice a s.n c) w1 ∧
      RowIs w1 (.slice a s.n c) (some G) e size s.n xs ∧ Below w.heap.size w w1 ∧ w.heap.size ≤ G ∧ G < w1.heap.size := by
  have hrow : RowIs (w.alloc (.cells #[] e)) (.slice (some ⟨w.heap.size, 0, none⟩) 0 0) (some w.heap.size) e size 0 [] :=
    ⟨by simp, .inr ⟨w.heap.size, 0, #[], rfl, rfl, Blk.new w e [], Nat.le_refl _, Nat.zero_le _, by simp, by simp⟩⟩
  have hbl : Below w.heap.size w (w.alloc (.cells #[] e)) := by (repeat' (first | (with_reducible exact Below.refl _ _) | (with_reducible refine Below.ext_mk ?_ ?_ _ _) | (with_reducible refine Below.alloc ?_ ?_ _) | (with_reducible refine Below.drew ?_) | (with_reducible refine Below.setCell ?_ ?_ _) | go_size))
  obtain ⟨sa, sn, sc⟩ := s
  rcases Nat.eq_zero_or_pos sn with h0 | h0
  · subst h0
    have hx : xs = [] := List.length_eq_zero_iff.1 (by have := h.2.2.1; simpa using this)
    subst hx
    refine ⟨_, _, _, w.heap.size, run_append_nothing (P := Try.prog) _ t t t e i ht hi _ 0 0 (Nat.le_refl _) _ ?_, hrow, hbl, Nat.le_refl _, by simp⟩
    cases sa with
    | none => exact Src.ofNil _ ht sc
    | some a => exact Src.ofSlice _ ht a 0 sc [] (by simp) (fun j u hu => by simp at hu) (fun u hu => by simp at hu)
  · obtain ⟨b, off, ea, zb, hc⟩ := h.2.2.2 h0
    simp only at ea
    subst ea
    have hxl := h.2.2.1
    simp only at hxl hn
    have hbb : sn * bytes ≤ 1000000 * 1000 := Nat.mul_le_mul hn hb
    obtain ⟨v', w1, G', r1, r2, r3, r4⟩ := append_row (P := Try.prog) t t i z bytes ht hi hz hsize hby hzs hsz hrow ⟨b, off, none⟩ sn sc xs hxl (fun j u hu => by
      rw [hadd_off]
      exact (hbl.cell (p := ⟨b, off + j, none⟩) zb).trans (hc j u hu)) h1 h0 (by unfold maxLen; omega) (by rw [Nat.zero_add]; omega)
    obtain ⟨sa', sc', rfl, _⟩ := r2.form
    simp only [Nat.zero_add, List.nil_append] at r1 r2
    have hlt := r2.lt G' rfl
    have hB : Below w.heap.size w w1 := hbl.grown r3 (by simp) (fun g hg => by cases hg; exact Nat.le_refl _)
    refine ⟨sa', sc', w1, G', r1, r2, hB, ?_, hlt⟩
    rcases r4 with r4 | ⟨r4, _⟩
    · cases r4; exact Nat.le_refl _
    · simp at r4; omega
/-- A row that is kept when other blocks turn. -/
theorem RowIs.turn {w w' : World} {L : List Nat} {sv : Value} {g : Nat} {e : TypeId} {size n : Nat} {xs : List Value} (h : RowIs w sv (some g) e size n xs) (t : Turn w w' L) (hg : g ∉ L) : RowIs w' sv (some g) e size n xs :=
  RowIs.keep h (fun g' hg' => by cases hg'; exact t.block g (RowIs.lt h g rfl) hg)
end Go.Proofs.Ytkblldmpdihamaa
set_option linter.unusedVariables false
set_option linter.unusedSimpArgs false
namespace Go.Proofs.Ytkblldmpdihamaa
open Go.RowKit

abbrev NumRows := List (SL × List (BitVec 128))
/-- A packet's copy. -/
structure CopyIs (B : Nat) (w : World) (k : PK) (l : List Nat) (va : List Bool) (fs : NumRows) (gs : List Nat) (mt : List (BitVec 128)) (Gr Gv Gm : Nat) (Gf : Option Nat) : Prop where
  rest : RowIs w k.rest.v (some Gr) 5 1 l.length (byts l)
  valid : RowIs w k.valid.v (some Gv) 4 1 va.length (bools va)
  metas : RowIs w k.metas.v (some Gm) 45 2 mt.length (nums mt)
  row : RowIs w k.fields.v Gf 37 1 fs.length (fs.map fun x => x.1.v)
  len : gs.length = fs.length
  each : ∀ (i : Nat) (x : SL × List (BitVec 128)) (g : Nat), fs[i]? = some x → gs[i]? = some g → RowIs w x.1.v (some g) 45 2 x.2.length (nums x.2)
  nodup : gs.Nodup
  ge : ∀ g ∈ gs, B ≤ g ∧ g ≠ Gr ∧ g ≠ Gv ∧ g ≠ Gm ∧ Gf ≠ some g
  ge2 : B ≤ Gr ∧ B ≤ Gv ∧ B ≤ Gm ∧ ∀ g, Gf = some g → B ≤ g
theorem CopyIs.fields {B : Nat} {w : World} {k : PK} {l : List Nat} {va : List Bool} {fs : NumRows} {gs : List Nat} {mt : List (BitVec 128)} {Gr Gv Gm : Nat} {Gf : Option Nat} (h : CopyIs B w k l va fs gs mt Gr Gv Gm Gf) : FieldsAre w k.fields fs := by
  refine ⟨(RowIs.rdS h.row).1, fun x hx => ?_⟩
  obtain ⟨i, hi⟩ := List.getElem?_of_mem hx
  have hil := (List.getElem?_eq_some_iff.1 hi).1
  have hig : i < gs.length := by rw [h.len]; exact hil
  exact (RowIs.rdS (h.each i x gs[i] hi (List.getElem?_eq_getElem hig))).1

theorem nums_one : ∀ {l : List (BitVec 128)}, ∀ u ∈ nums l, u.oneCell' = true := by
  intro l
  induction l with
  | nil => intro u hu; simp [nums] at hu
  | cons n r ih =>
    intro u hu
    simp only [nums, List.mem_cons] at hu
    rcases hu with rfl | rfl | hu
    · rfl
    · rfl
    · exact ih u hu
def OwnOut (w : World) (k : PK) (l : List Nat) (va : List Bool) (nss : List (List (BitVec 128))) (mt : List (BitVec 128)) (e : Ending) (w' : World) : Prop :=
  ∃ (r v f m : SL) (fs : NumRows) (gs : List Nat) (Gr Gv Gm : Nat) (Gf : Option Nat), e = .returned (PK.mk k.port r v f m k.dropped k.sent k.egress k.access).v ∧ Below w.heap.size w w' ∧ fs.map (fun x => x.2) = nss ∧
    CopyIs w.heap.size w' (PK.mk k.port r v f m k.dropped k.sent k.egress k.access) l va fs gs mt Gr Gv Gm Gf

set_option maxRecDepth 100000 in
set_option maxHeartbeats 8000000 in
theorem own_any {w : World} {k : PK} {l : List Nat} {va : List Bool} {fs0 : NumRows} {nss : List (List (BitVec 128))} {mt : List (BitVec 128)}
    (r1 : RdS w 1 k.rest (byts l)) (v1 : RdS w 1 k.valid (bools va)) (f1 : FieldsAre w k.fields fs0) (m1 : RdS w 2 k.metas (nums mt)) (e0 : fs0.map (fun x => x.2) = nss)
    (few : l.length ≤ 1000000 ∧ va.length ≤ 1000000 ∧ mt.length ≤ 1000000 ∧ nss.length ≤ 1000000 ∧ ∀ ns ∈ nss, ns.length ≤ 1000000) :
    Calls Try.prog 14 #[k.v] w (OwnOut w k l va nss mt) := by
  have hl1 := f1.len
  have hn1 : fs0.length = nss.length := by rw [← e0]; simp
  have hr1 : k.rest.n = l.length := by have := r1.2.2.1; rw [byts_length] at this; omega
  have hv1 : k.valid.n = va.length := by have := v1.2.2.1; rw [bools_length] at this; omega
  have hm1 : k.metas.n = mt.length := by have := m1.2.2.1; rw [nums_length] at this; omega
  have R1 := hid r1
  have V1 := hid v1
  have F1 := hid f1
  have M1 := hid m1
  have E0 := hid e0
  clear r1 v1 f1 m1 e0
  obtain ⟨port, ⟨ra, rn, rc⟩, ⟨va1, vn, vc⟩, ⟨fa, fn, fc⟩, ⟨ma, mn, mc⟩, dr, se, eg, ac⟩ := k
  simp only at hl1 hr1 hv1 hm1
  subst hr1 hv1 hm1
  have hfn : fn = nss.length := by omega
  subst hfn
  clear hl1
  go_enter Try.func14, Try.ntmps14
  go_upto_region 1 with (fail)
  refine wp_gen (fun V hV => ?_)
  have hbV : Below w.heap.size w V := by rw [hV]; (repeat' (first | (with_reducible exact Below.refl _ _) | (with_reducible refine Below.ext_mk ?_ ?_ _ _) | (with_reducible refine Below.alloc ?_ ?_ _) | (with_reducible refine Below.drew ?_) | (with_reducible refine Below.setCell ?_ ?_ _) | go_size))
  have bk : Blk V w.heap.size 39 (PK.mk port ⟨ra, l.length, rc⟩ ⟨va1, va.length, vc⟩ ⟨fa, nss.length, fc⟩ ⟨ma, mt.length, mc⟩ dr se eg ac).cs := by
    rw [hV]
    exact (Blk.new w 39 (PK.mk port ⟨ra, l.length, rc⟩ ⟨va1, va.length, vc⟩ ⟨fa, nss.length, fc⟩ ⟨ma, mt.length, mc⟩ dr se eg ac).cs).below (by repeat (first | exact Below.refl _ _ | refine Below.alloc ?_ (by simp; try omega) _))
  have bz : Blk V (w.heap.size + 1) 39 zeroCs := by
    rw [hV]
    have h := Blk.new (w.alloc (.cells (PK.mk port ⟨ra, l.length, rc⟩ ⟨va1, va.length, vc⟩ ⟨fa, nss.length, fc⟩ ⟨ma, mt.length, mc⟩ dr se eg ac).cs.toArray 39)) 39 zeroCs
    simp only [World.size_alloc] at h
    exact h
  clear hV
  have hbs := hbV.size
  have hwV : w.heap.size + 1 < V.heap.size := bz.lt
  -- the bytes
  obtain ⟨a1, c1, W1, Gr, p1, q1, B1, g1, g1'⟩ := append_copy (w := V) Try.underlying34 infoU8_is infoU8_zero infoU8_size infoU8_bytes rfl (by omega) (R1.out.below hbV) (by intro u hu; simp [byts] at hu; obtain ⟨x, _, rfl⟩ := hu; rfl) few.1 (by omega)
  have k1 := bk.cell 1
  have k1' := (bk.below (Below.alloc (Below.refl _ _) (Nat.le_refl _) (.cells #[] 5))).cell 1
  have kf1 := (bk.below B1).free 1
  have kw1 := (bk.below B1).cell 1
  simp only [List.getElem?_cons_zero, List.getElem?_cons_succ, SL.v_mk] at k1 k1' kw1
  simp only [SL.v_mk] at p1 q1
  have zk := bk.lt
  have zk1 := (bk.below B1).lt
  have P1 := hid p1
  refine wp_region_doc (fun F' hF => ?_)
  have HF := hid hF
  clear hF
  iterate 3 (refine doc_val rfl (by first | (go_simp; done) | (go_simp; exact ⟨rfl, rfl⟩) | (go_simp; with_reducible rfl)) ?_; simp only [Act.put, List.setIfInBounds_toArray, List.set_cons_zero, List.set_cons_succ])
  refine doc_val rfl (run_append_op _ _ _ _ _ _ _ _ _ P1.out) ?_
  simp only [Act.put, List.setIfInBounds_toArray, List.set_cons_zero, List.set_cons_succ]
  refine doc_val rfl (by first | (go_simp; done) | (go_simp; exact ⟨rfl, rfl⟩) | (go_simp; with_reducible rfl)) ?_
  simp only [Act.put, List.setIfInBounds_toArray, List.set_cons_zero, List.set_cons_succ]
  refine doc_skip rfl (by first | (go_simp; done) | (go_simp; exact ⟨rfl, rfl⟩) | (go_simp; with_reducible rfl)) ?_
  simp only [Act.put, List.setIfInBounds_toArray, List.set_cons_zero, List.set_cons_succ]
  refine doc_end (HF.out _ _ ?_)
  clear HF F'
  go_upto_region 2 with (fail)
  refine wp_gen (fun X1 hX1 => ?_)
  have t1 : Turn V X1 [w.heap.size] := by rw [hX1]; exact (Turn.of_below B1).trans (Turn.set_ _ _ _ (by simp))
  have bk1 : Blk X1 w.heap.size 39 (PK.mk port ⟨a1, l.length, c1⟩ ⟨va1, va.length, vc⟩ ⟨fa, nss.length, fc⟩ ⟨ma, mt.length, mc⟩ dr se eg ac).cs := by rw [hX1]; exact (bk.below B1).set_ 1 _
  have q1' : RowIs X1 (.slice a1 l.length c1) (some Gr) 5 1 l.length (byts l) := by
    rw [hX1]; exact RowIs.turn q1 (Turn.set_ (L := [w.heap.size]) _ _ _ (by simp)) (by simp; omega)
  have gr1 : Gr < X1.heap.size := RowIs.lt q1' Gr rfl
  clear hX1 k1 k1' kf1 kw1 zk zk1 P1 p1 q1 B1 bk
  have RD : ∀ {X : World} {size : Nat} {s : SL} {xs : List Value}, Turn V X [w.heap.size] → RdS w size s xs → RdS X size s xs := fun t r =>
    RdS.away r hbV t (fun b off _ => by simp : Away _ []) (fun q hq => by simp at hq; subst hq; exact .inr (Nat.le_refl _))
  have hs1 := t1.size
  -- the truths
  obtain ⟨a2, c2, W2, Gv, p2, q2, B2, g2, g2'⟩ := append_copy (w := X1) Try.underlying35 infoBo_is infoBo_zero infoBo_size infoBo_bytes rfl (by omega) (RD t1 V1.out) (by intro u hu; simp [bools] at hu; rcases hu with ⟨_, rfl⟩ | ⟨_, rfl⟩ <;> rfl) few.2.1 (by omega)
  have k1 := bk1.cell 2
  have k1' := (bk1.below (Below.alloc (Below.refl _ _) (Nat.le_refl _) (.cells #[] 4))).cell 2
  have kf1 := (bk1.below B2).free 2
  have kw1 := (bk1.below B2).cell 2
  simp only [List.getElem?_cons_zero, List.getElem?_cons_succ, SL.v_mk] at k1 k1' kw1
  simp only [SL.v_mk] at p2 q2
  have zk := bk1.lt
  have zk1 := (bk1.below B2).lt
  have P2 := hid p2
  refine wp_region_doc (fun F' hF => ?_)
  have HF := hid hF
  clear hF
  iterate 3 (refine doc_val rfl (by first | (go_simp; done) | (go_simp; exact ⟨rfl, rfl⟩) | (go_simp; with_reducible rfl)) ?_; simp only [Act.put, List.setIfInBounds_toArray, List.set_cons_zero, List.set_cons_succ])
  refine doc_val rfl (run_append_op _ _ _ _ _ _ _ _ _ P2.out) ?_
  simp only [Act.put, List.setIfInBounds_toArray, List.set_cons_zero, List.set_cons_succ]
  refine doc_val rfl (by first | (go_simp; done) | (go_simp; exact ⟨rfl, rfl⟩) | (go_simp; with_reducible rfl)) ?_
  simp only [Act.put, List.setIfInBounds_toArray, List.set_cons_zero, List.set_cons_succ]
  refine doc_skip rfl (by first | (go_simp; done) | (go_simp; exact ⟨rfl, rfl⟩) | (go_simp; with_reducible rfl)) ?_
  simp only [Act.put, List.setIfInBounds_toArray, List.set_cons_zero, List.set_cons_succ]
  refine doc_end (HF.out _ _ ?_)
  clear HF F'
  go_upto_region 3 with (fail)
  refine wp_gen (fun X2 hX2 => ?_)
  have t12 : Turn X1 X2 [w.heap.size] := by rw [hX2]; exact (Turn.of_below B2).trans (Turn.set_ _ _ _ (by simp))
  have bk2 : Blk X2 w.heap.size 39 (PK.mk port ⟨a1, l.length, c1⟩ ⟨a2, va.length, c2⟩ ⟨fa, nss.length, fc⟩ ⟨ma, mt.length, mc⟩ dr se eg ac).cs := by rw [hX2]; exact (bk1.below B2).set_ 2 _
  have q2' : RowIs X2 (.slice a2 va.length c2) (some Gv) 4 1 va.length (bools va) := by
    rw [hX2]; exact RowIs.turn q2 (Turn.set_ (L := [w.heap.size]) _ _ _ (by simp)) (by simp; omega)
  have gr2 : Gv < X2.heap.size := RowIs.lt q2' Gv rfl
  have t2 := t1.trans t12
  have hs2 := t2.size
  have q1'' := RowIs.turn q1' t12 (by simp; omega)
  clear hX2 k1 k1' kf1 kw1 zk zk1 P2 p2 q2 B2 bk1 q1'
  -- the metadata
  obtain ⟨a3, c3, W3, Gm, p3, q3, B3, g3, g3'⟩ := append_copy (w := X2) Try.underlying37 infoNu_is infoNu_zero infoNu_size infoNu_bytes rfl (by omega) (RD t2 M1.out) nums_one few.2.2.1 (by omega)
  have k1 := bk2.cell 4
  have k1' := (bk2.below (Below.alloc (Below.refl _ _) (Nat.le_refl _) (.cells #[] 45))).cell 4
  have kf1 := (bk2.below B3).free 4
  have kw1 := (bk2.below B3).cell 4
  simp only [List.getElem?_cons_zero, List.getElem?_cons_succ, SL.v_mk] at k1 k1' kw1
  simp only [SL.v_mk] at p3 q3
  have zk := bk2.lt
  have zk1 := (bk2.below B3).lt
  have P3 := hid p3
  refine wp_region_doc (fun F' hF => ?_)
  have HF := hid hF
  clear hF
  iterate 3 (refine doc_val rfl (by first | (go_simp; done) | (go_simp; exact ⟨rfl, rfl⟩) | (go_simp; with_reducible rfl)) ?_; simp only [Act.put, List.setIfInBounds_toArray, List.set_cons_zero, List.set_cons_succ])
  refine doc_val rfl (run_append_op _ _ _ _ _ _ _ _ _ P3.out) ?_
  simp only [Act.put, List.setIfInBounds_toArray, List.set_cons_zero, List.set_cons_succ]
  refine doc_val rfl (by first | (go_simp; done) | (go_simp; exact ⟨rfl, rfl⟩) | (go_simp; with_reducible rfl)) ?_
  simp only [Act.put, List.setIfInBounds_toArray, List.set_cons_zero, List.set_cons_succ]
  refine doc_skip rfl (by first | (go_simp; done) | (go_simp; exact ⟨rfl, rfl⟩) | (go_simp; with_reducible rfl)) ?_
  simp only [Act.put, List.setIfInBounds_toArray, List.set_cons_zero, List.set_cons_succ]
  refine doc_end (HF.out _ _ ?_)
  clear HF F'
  go_upto_region 4 with (fail)
  refine wp_gen (fun X3 hX3 => ?_)
  have t23 : Turn X2 X3 [w.heap.size] := by rw [hX3]; exact (Turn.of_below B3).trans (Turn.set_ _ _ _ (by simp))
  have bk3 : Blk X3 w.heap.size 39 (PK.mk port ⟨a1, l.length, c1⟩ ⟨a2, va.length, c2⟩ ⟨fa, nss.length, fc⟩ ⟨a3, mt.length, c3⟩ dr se eg ac).cs := by rw [hX3]; exact (bk2.below B3).set_ 4 _
  have q3' : RowIs X3 (.slice a3 mt.length c3) (some Gm) 45 2 mt.length (nums mt) := by
    rw [hX3]; exact RowIs.turn q3 (Turn.set_ (L := [w.heap.size]) _ _ _ (by simp)) (by simp; omega)
  have gr3 : Gm < X3.heap.size := RowIs.lt q3' Gm rfl
  have t3 := t2.trans t23
  have hs3 := t3.size
  have q1 := RowIs.turn q1'' t23 (by simp; omega)
  have q2 := RowIs.turn q2' t23 (by simp; omega)
  clear hX3 k1 k1' kf1 kw1 zk zk1 P3 p3 q3 B3 bk2 q1'' q2'
  have BK := hid bk3
  have BZ := hid (t3.blk bz (by simp))
  have hX3w : Below w.heap.size w X3 := hbV.trans (t3.below (fun q hq => by simp at hq; omega) (by omega))
  clear bz
  have c3' := bk3.cell 3
  simp only [List.getElem?_cons_zero, List.getElem?_cons_succ, SL.v_mk] at c3'
  have zk := bk3.lt
  go_wp2_with fail
  clear c3'
  go_loopw [3, 4] (fun fv i wr => ∃ (j : Nat) (f : SL) (Gf : Option Nat) (fs : NumRows) (gs : List Nat), j ≤ nss.length ∧ i = .int .i64 j ∧ fv = f.v ∧ Below X3.heap.size X3 wr ∧ fs.map (fun x => x.2) = nss.take j ∧ gs.length = j ∧
      RowIs wr f.v Gf 37 1 j (fs.map fun x => x.1.v) ∧ (∀ (i : Nat) (x : SL × List (BitVec 128)) (g : Nat), fs[i]? = some x → gs[i]? = some g → RowIs wr x.1.v (some g) 45 2 x.2.length (nums x.2)) ∧
      gs.Nodup ∧ (∀ g ∈ gs, X3.heap.size ≤ g ∧ Gf ≠ some g) ∧ ∀ g, Gf = some g → X3.heap.size ≤ g) (fun _ i _ => nss.length - (intOf i).toNat)
  case atStart => exact ⟨0, ⟨none, 0, 0⟩, none, [], [], by omega, rfl, rfl, Below.refl _ _, rfl, rfl, ⟨rfl, .inl ⟨rfl, rfl, rfl⟩⟩, fun i x g h => by simp at h, List.nodup_nil, fun g h => by simp at h, fun g h => by cases h⟩
  case round =>
    obtain ⟨j, f, Gf, fs, gs, hj, rfl, rfl, hb, hfs, hgl, hrow, heach, hnd, hge, hGf⟩ := hrel
    have hbr := hb.size
    have c3' := (BK.out.below hb).cell 3
    simp only [List.getElem?_cons_zero, List.getElem?_cons_succ, SL.v_mk] at c3'
    have zk' : w.heap.size < wr.heap.size := by omega
    by_cases hlt : j < nss.length
    · have hj1 : (j : Int) < (nss.length : Int) := by omega
      have hbw : Below w.heap.size w wr := hX3w.trans (hb.mono (by omega))
      obtain ⟨s, hs⟩ := fmap_at E0.out hlt
      have B := (F1.out.each _ (List.mem_of_getElem? hs)).below hbw
      have hn := B.2.2.1
      rw [nums_length] at hn
      simp only at hn B
      obtain ⟨fb, fo, ef, zfb, _, cf⟩ := F1.out.row.one (i := j) (u := s.v) (by rw [List.getElem?_map, hs]; rfl)
      simp only at ef
      subst ef
      have vf := (hbw.cell (p := ⟨fb, fo + j, none⟩) zfb).trans cf
      have zfb' : fb < wr.heap.size := by have := hbw.size; omega
      have hnfew := few.2.2.2.2 nss[j] (List.getElem_mem _)
      have hnt : nss.take (j + 1) = nss.take j ++ [nss[j]] := List.take_succ_eq_append_getElem hlt
      have HNT := hid hnt
      obtain ⟨sa, sn, sc⟩ := s
      simp only at hn
      have hsn : sn = nss[j].length := by omega
      clear hs cf hnt
      generalize nss[j] = ns at *
      subst hsn
      obtain ⟨a5, c5, W5, G5, p5, q5, B5, g5, g5'⟩ := append_copy (w := wr) Try.underlying37 infoNu_is infoNu_zero infoNu_size infoNu_bytes rfl (by omega) B nums_one hnfew (by omega)
      simp only [SL.v_mk] at p5 q5 vf
      obtain ⟨W6, hW6⟩ : ∃ W6, W6 = W5.alloc (.cells #[.slice a5 ns.length c5] 37) := ⟨_, rfl⟩
      have hB6 : Below wr.heap.size wr W6 := by rw [hW6]; exact Below.alloc B5 B5.size _
      have bS : Blk W6 W5.heap.size 37 [.slice a5 ns.length c5] := by rw [hW6]; exact Blk.new W5 _ _
      have h56 : W6.heap.size = W5.heap.size + 1 := by rw [hW6]; simp
      have hn5 := B5.size
      have hgfl := fun g hg => RowIs.lt hrow g hg
      have hrow6 := RowIs.keep hrow (fun g hg => hB6.block g (RowIs.lt hrow g hg))
      obtain ⟨v', w7, G', r1, r2, r3, r4⟩ := append_row (P := Try.prog) 36 36 infoSl (.slice none 0 0) 24 Try.underlying36 infoSl_is infoSl_zero infoSl_size infoSl_bytes rfl (by omega) hrow6
        ⟨W5.heap.size, 0, none⟩ 1 1 [.slice a5 ns.length c5] rfl (fun i u hu => by
          rw [hadd_off, Nat.zero_add]
          exact (bS.cell i).trans hu) (by simp [Value.oneCell']) (by omega) (by unfold maxLen; omega) (by have := few.2.2.2.1; omega)
      obtain ⟨sa', sc', rfl, _⟩ := r2.form
      have c37 : ∀ W, (W = wr ∨ W = wr.alloc (.cells #[] 45) ∨ W = W5 ∨ W = W6) → W.cell? ⟨w.heap.size, 3, none⟩ = some (.slice (some ⟨fb, fo, none⟩) nss.length fc) ∧ w.heap.size < W.heap.size ∧ W.cell? ⟨fb, fo + j, none⟩ = some (.slice sa ns.length sc) ∧ fb < W.heap.size := fun W hW => by
        have hB : Below wr.heap.size wr W := by
          rcases hW with rfl | rfl | rfl | rfl
          · exact Below.refl _ _
          · exact Below.alloc (Below.refl _ _) (Nat.le_refl _) _
          · exact B5
          · exact hB6
        exact ⟨(hB.cell (p := ⟨w.heap.size, 3, none⟩) zk').trans c3', by have := hB.size; omega, (hB.cell (p := ⟨fb, fo + j, none⟩) zfb').trans vf, by have := hB.size; omega⟩
      obtain ⟨x1, x2, x3, x4⟩ := c37 (wr.alloc (.cells #[] 45)) (.inr (.inl rfl))
      have K6 := hid hW6
      have e6 : W5.alloc (.cells #[.slice a5 ns.length c5] 37) = W6 := hW6.symm
      have P5 := hid p5
      have R1' := hid r1
      have HROW := hid (And.intro hrow (And.intro r2 (And.intro r3 r4)))
      have HEACH := hid heach
      have HQ5 := hid q5
      clear hrow r2 r3 r4 heach q5 p5 r1 c37 hW6 bS hrow6
      go_upto_region 8 with (fail)
      refine wp_region_doc (fun F' hF => ?_)
      have HF := hid hF
      clear hF
      iterate 7 (refine doc_val rfl (by first | (go_simp; done) | (go_simp; exact ⟨rfl, rfl⟩) | (go_simp; with_reducible rfl)) ?_; simp only [Act.put, List.setIfInBounds_toArray, List.set_cons_zero, List.set_cons_succ])
      refine doc_val rfl (run_append_op _ _ _ _ _ _ _ _ _ P5.out) ?_
      simp only [Act.put, List.setIfInBounds_toArray, List.set_cons_zero, List.set_cons_succ]
      refine doc_val (W1 := W6) (v := .slice (some ⟨W5.heap.size, 0, none⟩) 1 1) rfl (by rw [← e6]; go_simp) ?_
      simp only [Act.put, List.setIfInBounds_toArray, List.set_cons_zero, List.set_cons_succ]
      refine doc_val rfl (run_append_op _ _ _ _ _ _ _ _ _ R1'.out) ?_
      simp only [Act.put, List.setIfInBounds_toArray, List.set_cons_zero, List.set_cons_succ]
      refine doc_val rfl (by first | (go_simp; done) | (go_simp; exact ⟨rfl, rfl⟩) | (go_simp; with_reducible rfl)) ?_
      simp only [Act.put, List.setIfInBounds_toArray, List.set_cons_zero, List.set_cons_succ]
      refine doc_end (HF.out _ _ ?_)
      clear HF F'
      obtain ⟨hrow, r2, r3, r4⟩ := HROW.out
      have hz7 : W6.heap.size ≤ w7.heap.size := r3.size
      have hgl5 : ∀ g ∈ gs, g < wr.heap.size := fun g hg => by
        obtain ⟨i, hi⟩ := List.getElem?_of_mem hg
        have hil := (List.getElem?_eq_some_iff.1 hi).1
        have hfl : fs.length = gs.length := by have h1 := congrArg List.length hfs; simp at h1; omega
        obtain ⟨x, hx⟩ : ∃ x, fs[i]? = some x := ⟨fs[i]'(by omega), List.getElem?_eq_getElem (by omega)⟩
        exact RowIs.lt (HEACH.out i x g hx hi) g rfl
      have hfl : fs.length = gs.length := by have h1 := congrArg List.length hfs; simp at h1; omega
      go_wp2_with fail
      go_roundw
      case rel =>
        refine ⟨j + 1, ⟨sa', j + 1, sc'⟩, some G', fs ++ [(⟨a5, ns.length, c5⟩, ns)], gs ++ [G5], hlt, by go_num, rfl, ?_, ?_, by simp [hgl], ?_, ?_, ?_, ?_, ?_⟩
        · exact (hb.trans (hB6.mono hbr)).grown r3 (by omega) (fun g hg => hGf g hg)
        · rw [HNT.out, List.map_append, hfs]; rfl
        · rw [List.map_append]; exact r2
        · intro i x g hx hg
          by_cases hi : i < fs.length
          · rw [List.getElem?_append_left hi] at hx
            rw [List.getElem?_append_left (by omega)] at hg
            have h1 := HEACH.out i x g hx hg
            have hgm := List.mem_of_getElem? hg
            exact RowIs.keep h1 (fun g' hg' => by
              cases hg'
              exact (r3.block g (by have := hgl5 g hgm; omega) (fun e => (hge g hgm).2 e.symm)).trans (hB6.block g (hgl5 g hgm)))
          · have hil := (List.getElem?_eq_some_iff.1 hx).1
            have hie : i = fs.length := by simp at hil; omega
            subst hie
            rw [List.getElem?_append_right (Nat.le_refl _)] at hx
            rw [List.getElem?_append_right (by omega)] at hg
            rw [Nat.sub_self] at hx
            rw [show fs.length - gs.length = 0 by omega] at hg
            simp at hx hg
            subst hx hg
            refine RowIs.keep HQ5.out (fun g' hg' => ?_)
            cases hg'
            rw [r3.block G5 (by omega) (fun e => by have := hgfl G5 e.symm; omega), K6.out]
            exact Below.heap_alloc _ _ _ g5'
        · rw [List.nodup_append]
          exact ⟨hnd, by simp, fun a ha b hb' e => by simp at hb'; have := hgl5 a ha; omega⟩
        · intro g hg
          rw [List.mem_append] at hg
          rcases hg with hg | hg
          · refine ⟨(hge g hg).1, fun e => ?_⟩
            cases e
            rcases r4 with h | ⟨h, _⟩
            · exact (hge _ hg).2 h
            · have := hgl5 _ hg; omega
          · simp at hg
            subst hg
            refine ⟨by omega, fun e => ?_⟩
            cases e
            rcases r4 with h | ⟨h, _⟩
            · have := hgfl _ h; omega
            · omega
        · intro g hg
          cases hg
          rcases r4 with h | ⟨h, _⟩
          · exact hGf _ h
          · omega
      case measure => simp [intOf]; omega
    · obtain rfl : j = nss.length := by omega
      obtain ⟨fa5, fn5, fc5⟩ := f
      simp only [SL.v_mk]
      have kf3 := (BK.out.below hb).free 3
      go_upto_region 10 with (fail)
      refine wp_gen (fun Y hY => ?_)
      have tY : Turn wr Y [w.heap.size] := by rw [hY]; exact Turn.set_ _ _ _ (by simp)
      have bY : Blk Y w.heap.size 39 (PK.mk port ⟨a1, l.length, c1⟩ ⟨a2, va.length, c2⟩ ⟨fa5, fn5, fc5⟩ ⟨a3, mt.length, c3⟩ dr se eg ac).cs := by rw [hY]; exact (BK.out.below hb).set_ 3 _
      have bZ : Blk Y (w.heap.size + 1) 39 zeroCs := tY.blk (BZ.out.below hb) (by simp)
      clear hY
      refine wp_region_doc (fun F' hF => ?_)
      have HF := hid hF
      clear hF
      refine doc_val rfl (load_agg_op _ _ _ _ _ _ _ _ Try.underlying39 (pk_size _ rfl) rfl bY) ?_
      simp only [Act.put, List.setIfInBounds_toArray, List.set_cons_zero, List.set_cons_succ]
      refine doc_skip rfl (store_row_op (xs := zeroCs) (ys := (PK.mk port ⟨a1, l.length, c1⟩ ⟨a2, va.length, c2⟩ ⟨fa5, fn5, fc5⟩ ⟨a3, mt.length, c3⟩ dr se eg ac).cs) _ _ _ _ _ _ _ _ _ (pk_size _ rfl) rfl (by simp [Value.oneCell']) rfl rfl bZ) ?_
      simp only [Act.put, List.setIfInBounds_toArray, List.set_cons_zero, List.set_cons_succ]
      refine doc_end (HF.out _ _ ?_)
      clear HF F'
      have b2 := bZ.row (PK.mk port ⟨a1, l.length, c1⟩ ⟨a2, va.length, c2⟩ ⟨fa5, fn5, fc5⟩ ⟨a3, mt.length, c3⟩ dr se eg ac).cs
      go_wp2
      refine bodyPost_ret (hpk_result rfl rfl b2 rfl) rfl ?_
      obtain ⟨U, hU⟩ : ∃ U, U = Y.setRow (w.heap.size + 1) (PK.mk port ⟨a1, l.length, c1⟩ ⟨a2, va.length, c2⟩ ⟨fa5, fn5, fc5⟩ ⟨a3, mt.length, c3⟩ dr se eg ac).cs.toArray := ⟨_, rfl⟩
      have tU : Turn wr U [w.heap.size, w.heap.size + 1] := by
        rw [hU]
        exact (tY.weak (by simp)).trans (Turn.row _ _ (by simp))
      have t3U : Turn X3 U [w.heap.size, w.heap.size + 1] := (Turn.of_below hb).trans tU
      have nin : ∀ g, X3.heap.size ≤ g ∨ (V.heap.size ≤ g) → g ∉ [w.heap.size, w.heap.size + 1] := fun g hg hm => by
        simp at hm; omega
      have hfl : fs.length = nss.length := by have h1 := congrArg List.length hfs; simpa using h1
      rw [List.take_length] at hfs
      refine ⟨⟨a1, l.length, c1⟩, ⟨a2, va.length, c2⟩, ⟨fa5, fn5, fc5⟩, ⟨a3, mt.length, c3⟩, fs, gs, Gr, Gv, Gm, Gf, rfl, ?_, hfs, ?_⟩
      · have h1 : Below w.heap.size w wr := hX3w.trans (hb.mono (by omega))
        have h2 := h1.trans (tU.below (fun q hq => by simp at hq; omega) h1.size)
        rw [hU] at h2
        exact h2
      · have hcopy : CopyIs w.heap.size U (PK.mk port ⟨a1, l.length, c1⟩ ⟨a2, va.length, c2⟩ ⟨fa5, fn5, fc5⟩ ⟨a3, mt.length, c3⟩ dr se eg ac) l va fs gs mt Gr Gv Gm Gf := by
          refine ⟨RowIs.turn q1 t3U (nin _ (.inr g1)), RowIs.turn q2 t3U (nin _ (.inr (by omega))), RowIs.turn q3' t3U (nin _ (.inr (by omega))), ?_, by rw [hfl]; exact hgl, ?_, hnd, ?_, ?_⟩
          · rw [hfl]
            exact RowIs.keep hrow (fun g hg => tU.block g (RowIs.lt hrow g hg) (nin g (.inl (hGf g hg))))
          · intro i x g hx hg
            exact RowIs.turn (heach i x g hx hg) tU (nin g (.inl (hge g (List.mem_of_getElem? hg)).1))
          · intro g hg
            have h1 := (hge g hg).1
            exact ⟨by omega, by omega, by omega, by omega, (hge g hg).2⟩
          · exact ⟨by omega, by omega, by omega, fun g hg => by have := hGf g hg; omega⟩
        rw [hU] at hcopy
        exact hcopy
end Go.Proofs.Ytkblldmpdihamaa
set_option linter.unusedVariables false
set_option linter.unusedSimpArgs false
namespace Go.Proofs.Ytkblldmpdihamaa
open Go.RowKit

/-- Bits of bytes, from bit a on. -/
def bitsFrom (l : List Nat) (a n : Nat) : List Bool := (List.range n).map fun i => decide (bitAt l (a + i) = 1)
theorem bitsFrom_add (l : List Nat) (a m n : Nat) : bitsFrom l a (m + n) = bitsFrom l a m ++ bitsFrom l (a + m) n := by
  unfold bitsFrom
  rw [List.range_add, List.map_append, List.map_map]
  congr 1
  apply List.map_congr_left
  intro i _
  simp only [Function.comp]
  rw [Nat.add_assoc]
theorem bitAt_drop (l : List Nat) (k t : Nat) : bitAt (l.drop k) t = bitAt l (8 * k + t) := by
  unfold bitAt
  rw [show (8 * k + t) / 8 = k + t / 8 by omega, show (8 * k + t) % 8 = t % 8 by omega, List.getD_eq_getElem?_getD, List.getD_eq_getElem?_getD, List.getElem?_drop]
theorem bitsFrom_drop (l : List Nat) (k n : Nat) : bitsFrom (l.drop k) 0 n = bitsFrom l (8 * k) n := by
  unfold bitsFrom
  apply List.map_congr_left
  intro i _
  rw [bitAt_drop, Nat.zero_add]
theorem bt_or (x y : BitVec 128) (i : Nat) : bt (x ||| y) i = (bt x i || bt y i) := by unfold bt; exact BitVec.getLsbD_or
theorem bt_shl1 (x : BitVec 128) {i : Nat} (hi : i < 128) : bt (x <<< 1) i = (decide (1 ≤ i) && bt x (i - 1)) := by
  unfold bt
  rw [BitVec.getLsbD_shiftLeft]
  by_cases h : i < 1
  · have : ¬ 1 ≤ i := by omega
    simp [h, this]
  · have : 1 ≤ i := by omega
    simp [h, this, hi]
theorem bt_ofN (b : Nat) (hb : b ≤ 1) (i : Nat) : bt (ofN b) i = (decide (i = 0) && decide (b = 1)) := by
  unfold bt ofN
  rcases (show b = 0 ∨ b = 1 by omega) with rfl | rfl
  · simp
  · cases i with
    | zero => rfl
    | succ i => simp [BitVec.getLsbD, Nat.testBit_succ]
theorem bt_valN (l : List Nat) (a : Nat) : ∀ (n i : Nat), n ≤ 128 → i < 128 → bt (valN l a n) i = (decide (i < n) && decide (bitAt l (a + (n - 1 - i)) = 1))
  | 0, i, _, hi => by rw [valN, bt_zero]; simp
  | n + 1, i, hn, hi => by
    rw [valN, bt_or, bt_and, bt_mask 128 hi, bt_shl1 _ hi, bt_ofN _ (bitAt_le l _)]
    cases i with
    | zero => simp
    | succ i =>
      rw [show i + 1 - 1 = i by omega, bt_valN l a n i (by omega) (by omega)]
      have h1 : ((i + 1 : Nat) : Int) < 128 := by omega
      have h2 : n + 1 - 1 - (i + 1) = n - 1 - i := by omega
      rw [h2]
      simp only [h1, decide_true, Bool.and_true]
      have h3 : decide (i + 1 < n + 1) = decide (i < n) := by simp
      have h4 : decide (1 ≤ i + 1) = true := by simp
      have h5 : decide (i + 1 = 0) = false := by simp
      rw [h3, h4, h5]
      simp
theorem fits_valN (l : List Nat) (a n : Nat) (hn : n ≤ 128) : fits (valN l a n) (n : Int) = true := by
  unfold fits
  simp only [decide_eq_true_eq]
  apply bt_ext
  intro i hi
  rw [bt_and, bt_mask _ hi, bt_valN l a n i hn hi]
  by_cases h : i < n
  · have : ((i : Nat) : Int) < n := by omega
    simp [this]
  · simp [h]
theorem fits_zero (x : Int) : fits 0#128 x = true := by unfold fits; simp
theorem fits_cut (n : BitVec 128) (x : Int) : fits (n &&& maskOf x) x = true := by
  unfold fits
  rw [BitVec.and_assoc, BitVec.and_self]; simp
theorem fitsL_take (l : List Nat) : ∀ (ws : List Int) (a : Nat), (∀ x ∈ ws, 1 ≤ x ∧ x ≤ 128) → fitsL (takeN l a ws) ws true = true
  | [], _, _ => rfl
  | x :: r, a, h => by
    have hx := h x (List.mem_cons_self ..)
    rw [takeN, fitsL, fitsL_take l r _ (fun y hy => h y (List.mem_cons_of_mem _ hy))]
    have := fits_valN l a x.toNat (by omega)
    rw [show ((x.toNat : Nat) : Int) = x by omega] at this
    rw [this]; rfl
theorem fitsL_zeros (on : Bool) : ∀ (ws : List Int), fitsL (List.replicate ws.length 0#128) ws on = true
  | [] => rfl
  | x :: r => by
    rw [List.length_cons, List.replicate_succ, fitsL, fits_zero, fitsL_zeros on r]
    simp
theorem fitsL_set (n : BitVec 128) : ∀ (ns : List (BitVec 128)) (ws : List Int) (f : Nat) (x : Int), fitsL ns ws true = true → ws[f]? = some x → fitsL (ns.set f (n &&& maskOf x)) ws true = true
  | [], ws, f, x, h, hx => by simpa using h
  | m :: r, [], f, x, h, hx => by simp at hx
  | m :: r, y :: ws, 0, x, h, hx => by
    simp at hx; subst hx
    rw [fitsL] at h
    simp only [Bool.and_eq_true, Bool.true_or, true_and] at h
    rw [List.set_cons_zero, fitsL, fits_cut, h.2]; rfl
  | m :: r, y :: ws, f + 1, x, h, hx => by
    rw [fitsL] at h
    simp only [Bool.and_eq_true, Bool.true_or, true_and] at h
    rw [List.set_cons_succ, fitsL, h.1, fitsL_set n r ws f x h.2 (by simpa using hx)]; rfl
/-- The bits of a taken header's fields. -/
theorem bitsOne_take (l : List Nat) (ws : List Int) (h : ∀ x ∈ ws, 1 ≤ x ∧ x ≤ 128) {f : Nat} (hf : f < ws.length) :
    bitsOne (takeN l 0 ws) f ws[f] = bitsFrom l (ws.take f).sum.toNat ws[f].toNat := by
  have hp : ∀ x ∈ ws, 0 ≤ x := fun x hx => by have := h x hx; omega
  have hx := h ws[f] (List.getElem_mem _)
  have hat := takeN_at l ws 0 f hp hf
  rw [Nat.zero_add] at hat
  unfold bitsOne bitsFrom
  apply List.map_congr_left
  intro i hi
  simp only [List.mem_range] at hi
  rw [show decide (f < (takeN l 0 ws).length) = true by simp [takeN_length, hf], List.getD_eq_getElem?_getD, hat]
  simp only [Option.getD_some, Bool.true_and]
  unfold bitV
  rw [show (ws[f] - 1 - (i : Int)).toNat = ws[f].toNat - 1 - i by omega]
  have hb := bt_valN l (ws.take f).sum.toNat ws[f].toNat (ws[f].toNat - 1 - i) (by omega) (by omega)
  unfold bt at hb
  rw [hb]
  have h1 : (0 : Int) ≤ ws[f] - 1 - (i : Int) := by omega
  have h2 : ws[f] - 1 - (i : Int) < 128 := by omega
  have h3 : ws[f].toNat - 1 - i < ws[f].toNat := by omega
  rw [show ws[f].toNat - 1 - (ws[f].toNat - 1 - i) = i by omega, decide_eq_true h1, decide_eq_true h2, decide_eq_true h3]
  simp
theorem fbT_take (l : List Nat) (ws : List Int) (h : ∀ x ∈ ws, 1 ≤ x ∧ x ≤ 128) : ∀ f, f ≤ ws.length → fbT (takeN l 0 ws) ws f = bitsFrom l 0 (ws.take f).sum.toNat
  | 0, _ => rfl
  | f + 1, hf => by
    have hlt : f < ws.length := by omega
    have hp : ∀ x ∈ ws, 0 ≤ x := fun x hx => by have := h x hx; omega
    have s0 := sum_mono hp f
    have hx := h ws[f] (List.getElem_mem _)
    rw [fbT, fbT_take l ws h f (by omega), sum_snoc ws hlt, show ((ws.take f).sum + ws[f]).toNat = (ws.take f).sum.toNat + ws[f].toNat by omega, bitsFrom_add, Nat.zero_add,
      show ws.getD f 0 = ws[f] by simp [hlt], bitsOne_take l ws h hlt]
-- bytes out of bits
theorem layN_start (o : List Nat) (m : Nat) (b : Bool) (hm : m % 8 = 0) : layN o m b = o ++ [if b then 128 else 0] := by
  unfold layN
  cases b
  · simp [hm]
  · simp [hm]
theorem layN_on (o : List Nat) (y m : Nat) (b : Bool) (hm : m % 8 ≠ 0) : layN (o ++ [y]) m b = o ++ [if b then y ||| 2 ^ (7 - m % 8) else y] := by
  unfold layN
  cases b
  · simp [hm]
  · simp [hm]
def byteOf (f : Nat → Bool) : Nat := (List.range 8).foldl (fun y i => if f i then y ||| 2 ^ (7 - i) else y) 0
theorem byteOf_congr {f g : Nat → Bool} (h : ∀ i, i < 8 → f i = g i) : byteOf f = byteOf g := by
  unfold byteOf
  rw [show List.range 8 = [0, 1, 2, 3, 4, 5, 6, 7] from rfl]
  simp only [List.foldl_cons, List.foldl_nil, h 0 (by omega), h 1 (by omega), h 2 (by omega), h 3 (by omega), h 4 (by omega), h 5 (by omega), h 6 (by omega), h 7 (by omega)]
theorem byteOf_bits : ∀ x : Fin 256, byteOf (fun i => decide (x.val / 2 ^ (7 - i) % 2 = 1)) = x.val := by decide +kernel
theorem layAll_byte (o : List Nat) (m : Nat) (f : Nat → Bool) (hm : m % 8 = 0) : layAll (o, m) ((List.range 8).map f) = (o ++ [byteOf f], m + 8) := by
  have e : (List.range 8).map f = [f 0, f 1, f 2, f 3, f 4, f 5, f 6, f 7] := rfl
  rw [e]
  unfold layAll
  simp only [List.foldl_cons, List.foldl_nil]
  rw [layN_start o m _ hm, layN_on _ _ (m + 1) _ (by omega), layN_on _ _ (m + 1 + 1) _ (by omega), layN_on _ _ (m + 1 + 1 + 1) _ (by omega), layN_on _ _ (m + 1 + 1 + 1 + 1) _ (by omega),
    layN_on _ _ (m + 1 + 1 + 1 + 1 + 1) _ (by omega), layN_on _ _ (m + 1 + 1 + 1 + 1 + 1 + 1) _ (by omega), layN_on _ _ (m + 1 + 1 + 1 + 1 + 1 + 1 + 1) _ (by omega)]
  rw [show (m + 1) % 8 = 1 by omega, show (m + 1 + 1) % 8 = 2 by omega, show (m + 1 + 1 + 1) % 8 = 3 by omega, show (m + 1 + 1 + 1 + 1) % 8 = 4 by omega, show (m + 1 + 1 + 1 + 1 + 1) % 8 = 5 by omega, show (m + 1 + 1 + 1 + 1 + 1 + 1) % 8 = 6 by omega, show (m + 1 + 1 + 1 + 1 + 1 + 1 + 1) % 8 = 7 by omega]
  unfold byteOf
  rw [show List.range 8 = [0, 1, 2, 3, 4, 5, 6, 7] from rfl]
  simp only [List.foldl_cons, List.foldl_nil]
  cases f 0 <;> simp
theorem layAll_bytes (l : List Nat) (hl : ∀ x ∈ l, x < 256) : ∀ n, n ≤ l.length → layAll ([], 0) (bitsFrom l 0 (8 * n)) = (l.take n, 8 * n)
  | 0, _ => rfl
  | n + 1, hn => by
    rw [show 8 * (n + 1) = 8 * n + 8 by omega, bitsFrom_add, layAll_append, layAll_bytes l hl n (by omega), Nat.zero_add]
    unfold bitsFrom
    rw [layAll_byte _ _ _ (by omega)]
    have hx := hl l[n] (List.getElem_mem _)
    have hb := byteOf_bits ⟨l[n], hx⟩
    have e : byteOf (fun i => decide (bitAt l (8 * n + i) = 1)) = l[n] := by
      have hb' : byteOf (fun i => decide (l[n] / 2 ^ (7 - i) % 2 = 1)) = l[n] := hb
      refine Eq.trans (byteOf_congr fun i hi => ?_) hb'
      have hbit : bitAt l (8 * n + i) = l[n] / 2 ^ (7 - i) % 2 := by
        unfold bitAt
        rw [show (8 * n + i) / 8 = n by omega, show (8 * n + i) % 8 = i by omega]
        simp [show n < l.length by omega]
      rw [hbit]
    rw [e, List.take_succ_eq_append_getElem (by omega)]
end Go.Proofs.Ytkblldmpdihamaa
set_option linter.unusedVariables false
set_option linter.unusedSimpArgs false
namespace Go.Proofs.Ytkblldmpdihamaa
open Go.RowKit

def zeroRows (ws : List Nat) : List (List (BitVec 128)) := ws.map fun n => List.replicate n 0#128
theorem rowsOf_fsOf (ws gs : List Nat) (hl : gs.length = ws.length) : rowsOf ws gs = (fsOf gs (zeroRows ws)).map (fun x => x.1.v) := by
  have hlz : gs.length = (zeroRows ws).length := by simp [zeroRows, hl]
  apply List.ext_getElem?
  intro i
  by_cases hi : i < gs.length
  · have hz : (zeroRows ws)[i]? = some (List.replicate (ws.getD i 0) 0#128) := by
      have hw : i < ws.length := by omega
      simp [zeroRows, hw]
    rw [List.getElem?_map, fsOf_at gs (zeroRows ws) i gs[i] _ (List.getElem?_eq_getElem hi) hz]
    unfold rowsOf
    simp [hi]
  · rw [List.getElem?_eq_none (by unfold rowsOf; simp; omega), List.getElem?_eq_none (by rw [List.length_map, fsOf_length gs _ hlz]; omega)]
theorem PktIs.of_new {B : Nat} {w2 X : World} {port : Int} {r fv : SL} {vb mb b : Nat} {G : Option Nat} {gs : List Nat} {l ws : List Nat} {mn : Nat} (hX : Below w2.heap.size w2 X) (hb : w2.heap.size ≤ b)
    (bk : Blk X b 39 (PK.mk port r ⟨some ⟨vb, 0, none⟩, ws.length, ws.length⟩ fv ⟨some ⟨mb, 0, none⟩, mn, mn⟩ false false 0 false).cs)
    (nR : RdS w2 1 r (byts l)) (nF : Fresh B r) (nLt : Lt w2 r) (nVM : vb ≠ mb) (nRV : Away r [vb]) (nVg : vb ∉ gs) (nGV : G ≠ some vb) (nRg : Away r gs)
    (nbV : Blk w2 vb 4 (bools (List.replicate ws.length false))) (nbM : Blk w2 mb 45 (nums (List.replicate mn 0#128))) (nL : gs.length = ws.length) (nRow : RowIs w2 fv.v G 37 1 ws.length (rowsOf ws gs))
    (nEach : ∀ i g, gs[i]? = some g → B ≤ g ∧ Blk w2 g 45 (nums (List.replicate (ws.getD i 0) 0#128))) (nNd : gs.Nodup) (nG : ∀ g, G = some g → B ≤ g ∧ g ∉ gs) (nMg : mb ∉ gs)
    (hbytes : ∀ x ∈ l, x < 256) (few : ws.length ≤ 1000000 ∧ (∀ n ∈ ws, n ≤ 1000000) ∧ l.length ≤ 100000 ∧ mn ≤ 1000000) :
    PktIs X b vb gs (PK.mk port r ⟨some ⟨vb, 0, none⟩, ws.length, ws.length⟩ fv ⟨some ⟨mb, 0, none⟩, mn, mn⟩ false false 0 false) l (List.replicate ws.length false) (zeroRows ws) (List.replicate mn 0#128) := by
  have hz : (zeroRows ws).length = ws.length := by simp [zeroRows]
  have gz : ∀ g ∈ gs, g < w2.heap.size := fun g hg => by
    obtain ⟨i, hi⟩ := List.getElem?_of_mem hg
    exact (nEach i g hi).2.lt
  have vz := nbV.lt
  have mz := nbM.lt
  obtain ⟨fR, _, fA⟩ := RowIs.rdS nRow
  refine ⟨bk, nR.below hX, hbytes, by rw [List.length_replicate], nbV.below hX, by rw [← rowsOf_fsOf ws gs nL]; exact fR.below hX, by rw [hz]; exact nL, ?_, ?_, ?_, ?_, ?_, ?_, ?_⟩
  · intro i g ns hg hn
    have h := (nEach i g hg).2.below hX
    have hw : i < ws.length := by have := (List.getElem?_eq_some_iff.1 hg).1; omega
    have e : ns = List.replicate (ws.getD i 0) 0#128 := by
      simp [zeroRows, hw] at hn
      rw [← hn]; simp [hw]
    rw [e]; exact h
  · exact Blk.rdS (nbM.below hX) (by rw [nums_length]; simp) few.2.2.2
  · simp only [List.nodup_cons, List.mem_cons, not_or]
    exact ⟨⟨by omega, fun hm => by have := gz b hm; omega⟩, nVg, nNd⟩
  · refine ⟨by rw [List.length_replicate]; exact few.1, by rw [hz]; exact few.1, fun ns hn => ?_, few.2.2.1⟩
    unfold zeroRows at hn
    rw [List.mem_map] at hn
    obtain ⟨n, hn, rfl⟩ := hn
    rw [List.length_replicate]; exact few.2.1 n hn
  · intro q off e hm
    simp only [List.mem_cons] at hm
    rcases hm with hm | hm | hm
    · have := nLt q off e; omega
    · exact nRV q off e (by simp [hm])
    · exact nRg q off e hm
  · intro q off e hm
    have hG := fA q off e
    simp only [List.mem_cons] at hm
    rcases hm with hm | hm | hm
    · have := RowIs.lt nRow q hG; omega
    · exact nGV (by rw [hG, hm])
    · exact (nG q hG).2 hm
  · intro q off e hm
    have e' : q = mb := by
      have : (⟨mb, 0, none⟩ : Addr) = ⟨q, off, none⟩ := Option.some.inj e
      injection this with e1; exact e1.symm
    subst e'
    simp only [List.mem_cons] at hm
    rcases hm with hm | hm | hm
    · omega
    · exact nVM hm.symm
    · exact nMg hm
-- the bits that are emitted
theorem emT_congr {hs : List (SL × List Int)} {va va' : List Bool} {fs fs' : List (SL × List (BitVec 128))} {es es' : List Int} : ∀ m, (∀ i, i < m → hBits hs va fs (es.getD i 0) = hBits hs va' fs' (es'.getD i 0)) → emT hs va fs es m = emT hs va' fs' es' m
  | 0, _ => rfl
  | m + 1, h => by rw [emT, emT, emT_congr m (fun i hi => h i (by omega)), h m (by omega)]
/-- Header by header: what is emitted, when one header more was taken. -/
theorem emT_take {hs : List (SL × List Int)} {va : List Bool} {gs : List Nat} {nss : List (List (BitVec 128))} {es : List Int} {j kk : Nat} {bs : List Nat} {x : SL × List Int} (hx : hs[j]? = some x) (hok : HOk x.2)
    (hva : va.length = hs.length) (hn : nss.length = hs.length) (hg : gs.length = nss.length) (hes : ∀ e ∈ es, 0 ≤ e ∧ e < (j : Int)) (hem : emT hs va (fsOf gs nss) es es.length = bitsFrom bs 0 (8 * kk)) :
    emT hs (va.set j true) (fsOf gs (nss.set j (takeN (bs.drop kk) 0 x.2))) (es ++ [(j : Int)]) (es ++ [(j : Int)]).length = bitsFrom bs 0 (8 * (kk + (x.2.sum / 8).toNat)) := by
  have hj : j < hs.length := (List.getElem?_eq_some_iff.1 hx).1
  have hgl : ∀ nss' : List (List (BitVec 128)), nss'.length = nss.length → (fsOf gs nss').length = nss.length := fun nss' h => by rw [fsOf_length gs nss' (by omega), h]
  rw [show (es ++ [(j : Int)]).length = es.length + 1 by simp, emT]
  have h1 : emT hs (va.set j true) (fsOf gs (nss.set j (takeN (bs.drop kk) 0 x.2))) (es ++ [(j : Int)]) es.length = emT hs va (fsOf gs nss) es es.length := by
    apply emT_congr
    intro i hi
    have he : (es ++ [(j : Int)]).getD i 0 = es.getD i 0 := by simp [List.getD_eq_getElem?_getD, List.getElem?_append_left hi]
    rw [he]
    have hm := hes (es.getD i 0) (by rw [List.getD_eq_getElem?_getD, List.getElem?_eq_getElem hi]; exact List.getElem_mem _)
    generalize es.getD i 0 = e at *
    unfold hBits
    have hne : j ≠ e.toNat := by omega
    have e1 : (va.set j true).getD e.toNat false = va.getD e.toNat false := by simp [List.getD_eq_getElem?_getD, List.getElem?_set_ne hne]
    have hel : e.toNat < gs.length := by omega
    have hel2 : e.toNat < nss.length := by omega
    have e2 : (fsOf gs (nss.set j (takeN (bs.drop kk) 0 x.2))).getD e.toNat (slNil, []) = (fsOf gs nss).getD e.toNat (slNil, []) := by
      rw [List.getD_eq_getElem?_getD, List.getD_eq_getElem?_getD, fsOf_at gs nss e.toNat gs[e.toNat] nss[e.toNat] (List.getElem?_eq_getElem hel) (List.getElem?_eq_getElem hel2),
        fsOf_at gs (nss.set j (takeN (bs.drop kk) 0 x.2)) e.toNat gs[e.toNat] nss[e.toNat] (List.getElem?_eq_getElem hel) (by rw [List.getElem?_set_ne hne]; exact List.getElem?_eq_getElem hel2)]
    rw [e1, e2, List.length_set, hgl _ (by simp), hgl nss rfl]
  rw [h1, hem]
  have he : (es ++ [(j : Int)]).getD es.length 0 = (j : Int) := by simp [List.getD_eq_getElem?_getD]
  rw [he]
  have hjg : j < gs.length := by omega
  have hA : headAt hs (j : Int) = x := by unfold headAt; rw [if_neg (by omega)]; simp [hx]
  have h2 : hBits hs (va.set j true) (fsOf gs (nss.set j (takeN (bs.drop kk) 0 x.2))) (j : Int) = fbT (takeN (bs.drop kk) 0 x.2) x.2 x.2.length := by
    unfold hBits
    rw [if_pos ⟨by omega, by rw [List.length_set, Int.toNat_natCast]; omega, by rw [hgl _ (by simp), Int.toNat_natCast]; omega, by rw [Int.toNat_natCast]; simp [List.getD_eq_getElem?_getD, show j < va.length by omega]⟩, hA, Int.toNat_natCast]
    rw [List.getD_eq_getElem?_getD, fsOf_at gs (nss.set j (takeN (bs.drop kk) 0 x.2)) j gs[j] (takeN (bs.drop kk) 0 x.2) (List.getElem?_eq_getElem hjg) (by simp [show j < nss.length by omega])]
    rfl
  have hr := wok_range hok.ok
  rw [h2, fbT_take _ _ hr _ (Nat.le_refl _), List.take_length, bitsFrom_drop]
  have hw := hok.whole
  have hs0 := (wok_sum hok.ok).1
  rw [show 8 * (kk + (x.2.sum / 8).toNat) = 8 * kk + x.2.sum.toNat by omega, bitsFrom_add, Nat.zero_add]
theorem int_info_some : (Try.prog.info? 3).isSome = true := by kernel_rfl
noncomputable abbrev infoIn : TypeInfo := (Try.prog.info? 3).get int_info_some
theorem infoIn_is : Try.prog.info? 3 = some infoIn := (Option.some_get _).symm
theorem infoIn_zero : infoIn.zero = some (.int .i64 0) := by kernel_rfl
theorem infoIn_size : infoIn.size = 1 := by kernel_rfl
theorem infoIn_bytes : infoIn.bytes = 8 := by kernel_rfl
abbrev progCs (p : PG) (e : SL) : List Value := [p.heads.v, p.metas.v, p.steps.v, p.acts.v, p.tabs.v, p.control.v, e.v, p.n0.v, p.n1.v, p.n2.v, p.n3.v, p.n4.v]
/-- What holds when the first headers were tried. -/
structure BackI (w U wr : World) (w0 b vb : Nat) (gs : List Nat) (p : PG) (hs : List (SL × List Int)) (bs : List Nat) (n : BitVec 128) (mt : List (BitVec 128)) (j : Nat) (k : PK) (l : List Nat) (va : List Bool) (nss : List (List (BitVec 128))) (e : SL) (Ge : Option Nat) (es : List Int) (kk : Nat) : Prop where
  below : Below w0 w wr
  size : U.heap.size ≤ wr.heap.size
  prog : Blk wr w0 33 (progCs p e)
  num : Blk wr (w0 + 1) 45 [.int .u64 (hi n), .int .u64 (lo n)]
  pkt : PktIs wr b vb gs k l va nss mt
  row : RowIs wr e.v Ge 3 1 es.length (ints es)
  ge : ∀ g, Ge = some g → U.heap.size ≤ g ∧ g ∉ b :: vb :: gs
  l_ : l = bs.drop kk
  kk_ : kk ≤ bs.length
  em : emT hs va (fsOf gs nss) es es.length = bitsFrom bs 0 (8 * kk)
  hva : va.length = hs.length
  hn : nss.length = hs.length
  each : ∀ (i : Nat) (x : SL × List Int), hs[i]? = some x → ∃ (ns : List (BitVec 128)) (v : Bool), nss[i]? = some ns ∧ va[i]? = some v ∧ ns.length = x.2.length ∧ fitsL ns x.2 v = true ∧ (j ≤ i → v = false)
  es_ : ∀ e ∈ es, 0 ≤ e ∧ e < (j : Int)
  esl : es.length ≤ j
  acc : k.access = false
  far : Away k.rest [w0] ∧ Away k.fields [w0] ∧ Away k.metas [w0]
  lt : Lt U k.fields ∧ Lt U k.metas
section
variable {w U wr Z : World} {w0 b vb g : Nat} {gs : List Nat} {p : PG} {hs : List (SL × List Int)} {bs : List Nat} {n : BitVec 128} {mt : List (BitVec 128)} {j : Nat} {k k' : PK} {l : List Nat} {va : List Bool} {nss : List (List (BitVec 128))} {e e' : SL} {Ge Ge' : Option Nat} {es : List Int} {kk : Nat}
/-- A packet when a block turns that is none of its own. -/
theorem PktIs.other {w w' : World} {q : Nat} {l : List Nat} (T : PktIs w b vb gs k l va nss mt) (t : Turn w w' [q]) (hq : q ∉ b :: vb :: gs) (far : Away k.rest [q] ∧ Away k.fields [q] ∧ Away k.metas [q]) : PktIs w' b vb gs k l va nss mt := by
  simp only [List.mem_cons, not_or] at hq
  refine ⟨t.blk T.blk (by simp; exact fun e => hq.1 e.symm), t.rd T.rest far.1, T.bytes, T.valid, t.blk T.vblk (by simp; exact fun e => hq.2.1 e.symm), t.rd T.row far.2.1, T.len, fun i g ns hg hn => t.blk (T.each i g ns hg hn) (by simp; exact fun e => hq.2.2 (e ▸ List.mem_of_getElem? hg)), t.rd T.metas far.2.2, T.nodup, T.few, T.aRest, T.aRow, T.aMet⟩
theorem grown_turn {w w' : World} {row : Option Nat} {q : Nat} (h : w.grownBy w' row) (hr : ∀ g, row = some g → g = q) : Turn w w' [q] := by
  obtain ⟨h1, h2, h3, h4, h5⟩ := h
  exact ⟨h1, h2, h3, h4, fun k hk hn => h5 k hk (fun e => hn (by simp [hr k e.symm]))⟩
theorem BackI.none (h : BackI w U wr w0 b vb gs p hs bs n mt j k l va nss e Ge es kk) (hb : Below wr.heap.size wr Z) (hw : w0 ≤ wr.heap.size) : BackI w U Z w0 b vb gs p hs bs n mt (j + 1) k l va nss e Ge es kk :=
  ⟨h.below.trans (hb.mono hw), Nat.le_trans h.size hb.size, h.prog.below hb, h.num.below hb, h.pkt.below hb, RowIs.keep h.row (fun g hg => hb.block g (RowIs.lt h.row g hg)), h.ge, h.l_, h.kk_, h.em, h.hva, h.hn, fun i x hx => by
    obtain ⟨ns, v, h1, h2, h3, h4, h5⟩ := h.each i x hx
    exact ⟨ns, v, h1, h2, h3, h4, fun hi => h5 (by omega)⟩, (fun y hy => by have := h.es_ y hy; omega), by have := h.esl; omega, h.acc, h.far, h.lt⟩
theorem BackI.took (h : BackI w U wr w0 b vb gs p hs bs n mt j k l va nss e Ge es kk) {x : SL × List Int} (hx : hs[j]? = some x) (hok : HOk x.2) (hle : x.2.sum / 8 ≤ (l.length : Int)) (hbl : Below w0 w Z) (hsz : U.heap.size ≤ Z.heap.size)
    (hprog : Blk Z w0 33 (progCs p e')) (hnum : Blk Z (w0 + 1) 45 [.int .u64 (hi n), .int .u64 (lo n)]) (hk : k'.access = k.access)
    (hpkt : PktIs Z b vb gs k' (l.drop (x.2.sum / 8).toNat) (va.set j true) (nss.set j (takeN l 0 x.2)) mt) (hrow : RowIs Z e'.v Ge' 3 1 (es ++ [(j : Int)]).length (ints (es ++ [(j : Int)])))
    (hge : ∀ g, Ge' = some g → U.heap.size ≤ g ∧ g ∉ b :: vb :: gs) (hfar : Away k'.rest [w0] ∧ Away k'.fields [w0] ∧ Away k'.metas [w0]) (hlt : Lt U k'.fields ∧ Lt U k'.metas) :
    BackI w U Z w0 b vb gs p hs bs n mt (j + 1) k' (l.drop (x.2.sum / 8).toNat) (va.set j true) (nss.set j (takeN l 0 x.2)) e' Ge' (es ++ [(j : Int)]) (kk + (x.2.sum / 8).toNat) := by
  have hl := h.l_
  have hkl := h.kk_
  have hj : j < hs.length := (List.getElem?_eq_some_iff.1 hx).1
  have hs0 := (wok_sum hok.ok).1
  have hll : l.length = bs.length - kk := by rw [hl, List.length_drop]
  refine ⟨hbl, hsz, hprog, hnum, hpkt, hrow, hge, by rw [hl, List.drop_drop], by omega, ?_, by rw [List.length_set]; exact h.hva, by rw [List.length_set]; exact h.hn, ?_, ?_, by have := h.esl; simp; omega, by rw [hk]; exact h.acc, hfar, hlt⟩
  · rw [hl]
    exact emT_take hx hok h.hva h.hn h.pkt.len h.es_ h.em
  · intro i y hy
    by_cases e : j = i
    · subst e
      rw [hx] at hy
      cases hy
      refine ⟨takeN l 0 x.2, true, by simp [show j < nss.length by rw [h.hn]; omega], by simp [show j < va.length by rw [h.hva]; omega], takeN_length l x.2 0, fitsL_take l x.2 0 (wok_range hok.ok), fun hi => by omega⟩
    · obtain ⟨ns, v, h1, h2, h3, h4, h5⟩ := h.each i y hy
      exact ⟨ns, v, by rw [List.getElem?_set_ne e]; exact h1, by rw [List.getElem?_set_ne e]; exact h2, h3, h4, fun hi => h5 (by omega)⟩
  · intro y hy
    rw [List.mem_append] at hy
    rcases hy with hy | hy
    · have := h.es_ y hy; omega
    · simp at hy; subst hy; omega
theorem allF_true : ∀ (fs : List (SL × List (BitVec 128))) (hs : List (SL × List Int)) (va : List Bool), (∀ (i : Nat) (f : SL × List (BitVec 128)) (x : SL × List Int) (v : Bool), fs[i]? = some f → hs[i]? = some x → va[i]? = some v → fitsL f.2 x.2 v = true) → allF fs hs va = true
  | [], _, _, _ => rfl
  | _ :: _, [], _, _ => rfl
  | _ :: _, _ :: _, [], _ => rfl
  | f :: fs, x :: hs, v :: va, h => by
    rw [allF, h 0 f x v rfl rfl rfl, allF_true fs hs va (fun i f' x' v' h1 h2 h3 => h (i + 1) f' x' v' (by simpa using h1) (by simpa using h2) (by simpa using h3))]
    rfl
theorem fits_true {ms : List Int} (hva : va.length = hs.length) (hn : nss.length = hs.length) (hg : gs.length = nss.length) (each : ∀ (i : Nat) (x : SL × List Int), hs[i]? = some x → ∃ (ns : List (BitVec 128)) (v : Bool), nss[i]? = some ns ∧ va[i]? = some v ∧ fitsL ns x.2 v = true) :
    hfitsV hs ms va (fsOf gs nss) (List.replicate ms.length 0#128) = true := by
  unfold hfitsV
  rw [fitsL_zeros true ms, allF_true _ _ _ (fun i f x v h1 h2 h3 => by
    obtain ⟨ns, v', q1, q2, q3⟩ := each i x h2
    have hi : i < gs.length := by have := (List.getElem?_eq_some_iff.1 h2).1; omega
    rw [fsOf_at gs nss i gs[i] ns (List.getElem?_eq_getElem hi) q1] at h1
    cases h1
    rw [q2] at h3
    cases h3
    exact q3)]
  simp [hva, fsOf_length gs nss hg, hn]
end
theorem fsOf_snd : ∀ (gs : List Nat) (nss : List (List (BitVec 128))), gs.length = nss.length → (fsOf gs nss).map (fun x => x.2) = nss
  | [], [], _ => rfl
  | g :: gs, ns :: nss, h => by rw [fsOf, List.map_cons, fsOf_snd gs nss (by simpa using h)]
  | [], _ :: _, h => by simp at h
  | _ :: _, [], h => by simp at h
theorem CopyIs.keep {B : Nat} {w w' : World} {k : PK} {l : List Nat} {va : List Bool} {fs : NumRows} {gs : List Nat} {mt : List (BitVec 128)} {Gr Gv Gm : Nat} {Gf : Option Nat} (h : CopyIs B w k l va fs gs mt Gr Gv Gm Gf)
    (hk : ∀ g, g < w.heap.size → B ≤ g → w'.heap[g]? = w.heap[g]?) : CopyIs B w' k l va fs gs mt Gr Gv Gm Gf := by
  refine ⟨RowIs.keep h.rest (fun g hg => ?_), RowIs.keep h.valid (fun g hg => ?_), RowIs.keep h.metas (fun g hg => ?_), RowIs.keep h.row (fun g hg => hk g (RowIs.lt h.row g hg) (h.ge2.2.2.2 g hg)), h.len, fun i x g hx hg => RowIs.keep (h.each i x g hx hg) (fun g' hg' => ?_), h.nodup, h.ge, h.ge2⟩
  · cases hg; exact hk _ (RowIs.lt h.rest _ rfl) h.ge2.1
  · cases hg; exact hk _ (RowIs.lt h.valid _ rfl) h.ge2.2.1
  · cases hg; exact hk _ (RowIs.lt h.metas _ rfl) h.ge2.2.2.1
  · cases hg'; exact hk _ (RowIs.lt (h.each i x _ hx hg) _ rfl) (h.ge _ (List.mem_of_getElem? hg)).1
theorem CopyIs.below {B : Nat} {w w' : World} {k : PK} {l : List Nat} {va : List Bool} {fs : NumRows} {gs : List Nat} {mt : List (BitVec 128)} {Gr Gv Gm : Nat} {Gf : Option Nat} (h : CopyIs B w k l va fs gs mt Gr Gv Gm Gf) (hb : Below w.heap.size w w') : CopyIs B w' k l va fs gs mt Gr Gv Gm Gf :=
  h.keep (fun g hg _ => hb.block g hg)
/-- A number is stored in a row of numbers. -/
theorem RowIs.setNum {w : World} {sv : Value} {g n i : Nat} {ns : List (BitVec 128)} (m : BitVec 128) (h : RowIs w sv (some g) 45 2 n (nums ns)) (hi : i < ns.length) :
    RowIs ((w.setCell ⟨g, i * 2, none⟩ (.int .u64 (Go.hi m))).setCell ⟨g, i * 2 + 1, none⟩ (.int .u64 (lo m))) sv (some g) 45 2 n (nums (ns.set i m)) ∧ ∃ xs, Blk w g 45 xs ∧ i * 2 + 1 < xs.length := by
  obtain ⟨h0, ⟨_, _, h3⟩ | ⟨g', cap, cur, h1, h2, h3, h4, h5, h6, h7⟩⟩ := h
  · cases h3
  · cases h2
    have hn : n = ns.length := by rw [nums_length] at h0; omega
    have hb : Blk w g 45 cur.toList := by unfold Blk; simpa using h3
    have hcl : cur.toList.length = cap * 2 := by simpa using h6
    refine ⟨⟨by rw [nums_length, List.length_set]; omega, .inr ⟨g, cap, ((cur.toList.set (i * 2) (.int .u64 (Go.hi m))).set (i * 2 + 1) (.int .u64 (lo m))).toArray, h1, rfl, (hb.set_ _ _).set_ _ _, h4, h5, by simp [h6], ?_⟩⟩, cur.toList, hb, by omega⟩
    rw [nums_set, ← h7]
    simp only [List.take_set]
theorem CopyIs.setNum {B : Nat} {w : World} {k : PK} {l : List Nat} {va : List Bool} {fs : NumRows} {gs : List Nat} {mt : List (BitVec 128)} {Gr Gv Gm : Nat} {Gf : Option Nat} {h f g : Nat} {x : SL × List (BitVec 128)} (m : BitVec 128) (C : CopyIs B w k l va fs gs mt Gr Gv Gm Gf)
    (hx : fs[h]? = some x) (hg : gs[h]? = some g) (hf : f < x.2.length) :
    CopyIs B ((w.setCell ⟨g, f * 2, none⟩ (.int .u64 (Go.hi m))).setCell ⟨g, f * 2 + 1, none⟩ (.int .u64 (lo m))) k l va (fs.set h (x.1, x.2.set f m)) gs mt Gr Gv Gm Gf := by
  have t : Turn w ((w.setCell ⟨g, f * 2, none⟩ (.int .u64 (Go.hi m))).setCell ⟨g, f * 2 + 1, none⟩ (.int .u64 (lo m))) [g] := (Turn.set_ g _ _ (by simp)).trans (Turn.set_ g _ _ (by simp))
  have hge := C.ge g (List.mem_of_getElem? hg)
  have hfl := (List.getElem?_eq_some_iff.1 hx).1
  have e1 := (RowIs.setNum m (C.each h x g hx hg) hf).1
  refine ⟨RowIs.turn C.rest t (by simp; exact fun e => hge.2.1 e.symm), RowIs.turn C.valid t (by simp; exact fun e => hge.2.2.1 e.symm), RowIs.turn C.metas t (by simp; exact fun e => hge.2.2.2.1 e.symm), ?_, by rw [List.length_set]; exact C.len, ?_, C.nodup, C.ge, C.ge2⟩
  · have e2 : (fs.set h (x.1, x.2.set f m)).map (fun y => y.1.v) = fs.map (fun y => y.1.v) := by
      rw [List.map_set]
      apply List.ext_getElem?
      intro i
      rw [List.getElem?_set]
      split
      · rename_i e
        subst e
        rw [List.getElem?_map, hx]
        simp [hfl]
      · rfl
    rw [e2, List.length_set]
    exact RowIs.keep C.row (fun g' hg' => t.block g' (RowIs.lt C.row g' hg') (by simp; exact fun e => hge.2.2.2.2 (e ▸ hg')))
  · intro i y g' hy hg'
    rw [List.getElem?_set] at hy
    by_cases e : h = i
    · subst e
      rw [if_pos rfl, if_pos hfl] at hy
      cases hy
      rw [hg] at hg'
      cases hg'
      simp only [List.length_set]
      exact e1
    · rw [if_neg e] at hy
      refine RowIs.turn (C.each i y g' hy hg') t ?_
      simp
      intro q
      subst q
      obtain ⟨h1, q1⟩ := List.getElem?_eq_some_iff.1 hg
      obtain ⟨h2, q2⟩ := List.getElem?_eq_some_iff.1 hg'
      exact e ((List.getElem_inj C.nodup).1 (q1.trans q2.symm))
/-- A slice that was there early is read after later blocks turned. -/
theorem RdS.past {w0 w w' : World} {n0 n : Nat} {s : SL} {xs0 xs : List Value} {L : List Nat} (r0 : RdS w0 n0 s xs0) (r : RdS w n s xs) (t : Turn w w' L) (hL : ∀ q ∈ L, w0.heap.size ≤ q) : RdS w' n s xs := by
  rcases Nat.eq_zero_or_pos s.n with h0 | h0
  · exact ⟨r.1, r.2.1, r.2.2.1, fun h => by omega⟩
  · obtain ⟨b0, o0, e0, z0, _⟩ := r0.2.2.2 h0
    refine r.keep t.size (fun b off e hb => t.block b hb (fun hm => ?_))
    rw [e0] at e
    cases e
    have := hL _ hm
    omega
theorem PktIs.past {w0 w w' : World} {b vb : Nat} {gs : List Nat} {k0 k : PK} {l : List Nat} {va : List Bool} {nss0 nss : List (List (BitVec 128))} {mt : List (BitVec 128)} {L : List Nat} (P0 : PktIs w0 b vb gs k0 l va nss0 mt) (T : PktIs w b vb gs k l va nss mt)
    (hk : k.rest = k0.rest ∧ k.fields = k0.fields ∧ k.metas = k0.metas) (t : Turn w w' L) (hL : ∀ q ∈ L, w0.heap.size ≤ q) : PktIs w' b vb gs k l va nss mt := by
  obtain ⟨h1, h2, h3⟩ := hk
  have hn : ∀ q, q < w0.heap.size → q ∉ L := fun q hq hm => by have := hL q hm; omega
  refine ⟨t.blk T.blk (hn _ P0.blk.lt), RdS.past (h1 ▸ P0.rest) T.rest t hL, T.bytes, T.valid, t.blk T.vblk (hn _ P0.vblk.lt), RdS.past (h2 ▸ P0.row) T.row t hL, T.len, fun i g ns hg hn' => t.blk (T.each i g ns hg hn') (hn _ (P0.mem hg).1), RdS.past (h3 ▸ P0.metas) T.metas t hL, T.nodup, T.few, T.aRest, T.aRow, T.aMet⟩
/-- A copy's blocks lie below. -/
def CopyLt (N : Nat) (gs : List Nat) (Gr Gv Gm : Nat) (Gf : Option Nat) : Prop := Gr < N ∧ Gv < N ∧ Gm < N ∧ (∀ g, Gf = some g → g < N) ∧ ∀ g ∈ gs, g < N
theorem CopyIs.lt {B : Nat} {w : World} {k : PK} {l : List Nat} {va : List Bool} {fs : NumRows} {gs : List Nat} {mt : List (BitVec 128)} {Gr Gv Gm : Nat} {Gf : Option Nat} (h : CopyIs B w k l va fs gs mt Gr Gv Gm Gf) : CopyLt w.heap.size gs Gr Gv Gm Gf := by
  refine ⟨RowIs.lt h.rest _ rfl, RowIs.lt h.valid _ rfl, RowIs.lt h.metas _ rfl, fun g hg => RowIs.lt h.row g hg, fun g hg => ?_⟩
  obtain ⟨i, hi⟩ := List.getElem?_of_mem hg
  have hil := (List.getElem?_eq_some_iff.1 hi).1
  obtain ⟨x, hx⟩ : ∃ x, fs[i]? = some x := ⟨fs[i]'(by have := h.len; omega), List.getElem?_eq_getElem (by have := h.len; omega)⟩
  exact RowIs.lt (h.each i x g hx hi) _ rfl
theorem CopyIs.keepN {B N : Nat} {w w' : World} {k : PK} {l : List Nat} {va : List Bool} {fs : NumRows} {gs : List Nat} {mt : List (BitVec 128)} {Gr Gv Gm : Nat} {Gf : Option Nat} (h : CopyIs B w k l va fs gs mt Gr Gv Gm Gf) (hN : CopyLt N gs Gr Gv Gm Gf)
    (hk : ∀ g, g < w.heap.size → g < N → w'.heap[g]? = w.heap[g]?) : CopyIs B w' k l va fs gs mt Gr Gv Gm Gf := by
  refine ⟨RowIs.keep h.rest (fun g hg => ?_), RowIs.keep h.valid (fun g hg => ?_), RowIs.keep h.metas (fun g hg => ?_), RowIs.keep h.row (fun g hg => hk g (RowIs.lt h.row g hg) (hN.2.2.2.1 g hg)), h.len, fun i x g hx hg => RowIs.keep (h.each i x g hx hg) (fun g' hg' => ?_), h.nodup, h.ge, h.ge2⟩
  · cases hg; exact hk _ (RowIs.lt h.rest _ rfl) hN.1
  · cases hg; exact hk _ (RowIs.lt h.valid _ rfl) hN.2.1
  · cases hg; exact hk _ (RowIs.lt h.metas _ rfl) hN.2.2.1
  · cases hg'; exact hk _ (RowIs.lt (h.each i x _ hx hg) _ rfl) (hN.2.2.2.2 _ (List.mem_of_getElem? hg))
/-- The other cells of a copy's packet don't matter. -/
theorem CopyIs.cells {B : Nat} {w : World} {k k' : PK} {l : List Nat} {va : List Bool} {fs : NumRows} {gs : List Nat} {mt : List (BitVec 128)} {Gr Gv Gm : Nat} {Gf : Option Nat} (h : CopyIs B w k l va fs gs mt Gr Gv Gm Gf) (e : k'.rest = k.rest ∧ k'.valid = k.valid ∧ k'.fields = k.fields ∧ k'.metas = k.metas) : CopyIs B w k' l va fs gs mt Gr Gv Gm Gf := by
  obtain ⟨e1, e2, e3, e4⟩ := e
  exact ⟨e1 ▸ h.rest, e2 ▸ h.valid, e4 ▸ h.metas, e3 ▸ h.row, h.len, h.each, h.nodup, h.ge, h.ge2⟩
theorem same_copy {B : Nat} {w : World} {b vb : Nat} {gs gs' : List Nat} {k k' : PK} {l : List Nat} {va : List Bool} {nss : List (List (BitVec 128))} {mt : List (BitVec 128)} {fs : NumRows} {Gr Gv Gm : Nat} {Gf : Option Nat}
    (P : PktIs w b vb gs k l va nss mt) (C : CopyIs B w k' l va fs gs' mt Gr Gv Gm Gf) (hfs : fs.map (fun x => x.2) = nss) (hle : nss.length ≤ va.length) (hk : k'.port = k.port ∧ k'.dropped = k.dropped ∧ k'.sent = k.sent ∧ k'.egress = k.egress ∧ k'.access = k.access) :
    Calls Try.prog 16 #[k.v, k'.v] w (Pure (.bool true) w) :=
  same_any P.rest (RowIs.rdS C.rest).1 P.vrd (RowIs.rdS C.valid).1 P.frd C.fields P.metas (RowIs.rdS C.metas).1 (fsOf_snd gs nss P.len) hfs hle hk.1 hk.2.1 hk.2.2.1 hk.2.2.2.1 hk.2.2.2.2
end Go.Proofs.Ytkblldmpdihamaa
