/-
  The document's store: which variables a diagram's nodes have (quillonref31.hangs): the walk.
-/
import Derived.Test.YtboekafmplomhaaZRef31I
import Derived.Test.YtboekafmplomhaaZQMeansC
import Derived.Test.YtboekafmplomhaaZMadeD
import Derived.Test.YtboekafmplomhaaZSupB
import Derived.Test.YtboekafmplomhaaZQMeansP
set_option linter.unusedVariables false
set_option linter.unusedSimpArgs false
namespace Go.Proofs.Ytboekafmplomhaa
open Go.RowKit

def hangL (S : Sto) : Nat → List Bool → Int → List Bool
  | 0, O, _ => O
  | n + 1, O, a => if a < 2 then O else hangL S n (hangL S n (O.set (nodeOf S a).1.toNat true) (nodeOf S a).2.1) (nodeOf S a).2.2
theorem hangL_length (S : Sto) : ∀ (n : Nat) (O : List Bool) (a : Int), (hangL S n O a).length = O.length
  | 0, O, a => rfl
  | n + 1, O, a => by
    unfold hangL
    split
    · rfl
    · rw [hangL_length S n, hangL_length S n, List.length_set]
def HangsTo (w : World) (l : List Bool) (e : Ending) (w' : World) : Prop := ∃ sv, e = .returned sv ∧ BitsAre w' sv l ∧ Below w.heap.size w w'
theorem bits_copy {w : World} {sv : Value} {l : List Bool} (h : BitsAre w sv l) (h0 : 0 < l.length) (h8 : l.length ≤ 1000) :
    ∃ (G c : Nat) (w1 : World), (Builtin.append_ #[33, 33] 33 #[.slice (some ⟨w.heap.size, 0, none⟩) 0 0, sv]).run Try.prog (w.alloc (.cells #[] 4)) = .ok (.slice (some ⟨G, 0, none⟩) l.length c) w1 ∧
      RowIs w1 (.slice (some ⟨G, 0, none⟩) l.length c) (some G) 4 1 l.length (bools l) ∧ w.heap.size ≤ G ∧ Below w.heap.size w w1 := by
  obtain ⟨gb, cap, rfl, hg, _, hc⟩ := h
  have hrow : RowIs (w.alloc (.cells #[] 4)) (.slice (some ⟨w.heap.size, 0, none⟩) 0 0) (some w.heap.size) 4 1 0 [] :=
    ⟨by simp, .inr ⟨w.heap.size, 0, #[], rfl, rfl, World.heap_alloc_last w _, Nat.le_refl _, Nat.zero_le _, by simp, by simp⟩⟩
  have hbl : Below w.heap.size w (w.alloc (.cells #[] 4)) := by (repeat' (first | (with_reducible exact Below.refl _ _) | (with_reducible refine Below.ext_mk ?_ ?_ _ _) | (with_reducible refine Below.alloc ?_ ?_ _) | (with_reducible refine Below.drew ?_) | (with_reducible refine Below.setCell ?_ ?_ _) | go_size))
  obtain ⟨v', w1, G', r1, r2, r3, r4⟩ := append_row (P := Try.prog) 33 33 infoBool (.bool false) 1 Try.underlying33 infoBool_is infoBool_zero infoBool_size infoBool_bytes rfl (by omega) hrow
    ⟨gb, 0, none⟩ l.length cap (bools l) (by simp [bools]) (fun j u hu => by
      have hj : (⟨gb, 0, none⟩ : Addr).add j = ⟨gb, j, none⟩ := by unfold Addr.add; by_cases e : j = 0 <;> simp [e]
      rw [hj]
      simp only [bools, List.getElem?_map, Option.map_eq_some_iff] at hu
      obtain ⟨b, hb, rfl⟩ := hu
      exact (hbl.cell (p := ⟨gb, j, none⟩) hg).trans (hc j b hb)) (by intro u hu; simp [bools] at hu; rcases hu with ⟨_, rfl⟩ | ⟨_, rfl⟩ <;> rfl) h0 (by unfold maxLen; omega) (by omega)
  have hfin : Below w.heap.size w w1 := hbl.grown r3 (by simp) (fun g hg => by cases hg; exact Nat.le_refl _)
  rw [Nat.zero_add, List.nil_append] at r2
  have hG : w.heap.size ≤ G' := by
    rcases r4 with e | ⟨e, _⟩
    · cases e; exact Nat.le_refl _
    · simp at e; omega
  obtain ⟨a', sc', rfl, _⟩ := r2.form
  obtain ⟨rfl, -⟩ := RowIs.addr3 r2
  exact ⟨G', sc', w1, r1, r2, hG, hfin⟩

/-- The worlds of the drawn region. -/
structure HgI (Z : World) (O1 O2 : List Bool) (b : Nat → Bool) (w : World) (v1 v2 : Value) : Prop where
  lo : Below Z.heap.size Z w
  c : b 7 = true → BitsAre w v1 O1
  d : b 8 = true → BitsAre w v2 O2
theorem HgI.congr {Z w : World} {O1 O2 : List Bool} {b b' : Nat → Bool} {v1 v2 : Value} (h : HgI Z O1 O2 b w v1 v2) (h7 : b' 7 = b 7) (h8 : b' 8 = b 8) : HgI Z O1 O2 b' w v1 v2 :=
  ⟨h.lo, by rw [h7]; exact h.c, by rw [h8]; exact h.d⟩
theorem HgI.one {Z w w' : World} {O1 O2 : List Bool} {b b' : Nat → Bool} {v1 v2 x : Value} (h : HgI Z O1 O2 b w v1 v2) (h8 : b' 8 = false) (hx : BitsAre w' x O1) (hb : Below w.heap.size w w') : HgI Z O1 O2 b' w' x v2 :=
  ⟨h.lo.trans (hb.mono h.lo.size), fun _ => hx, fun e => by (rw [h8] at e; cases e)⟩
theorem HgI.two {Z w w' : World} {O1 O2 : List Bool} {b b' : Nat → Bool} {v1 v2 x : Value} (h : HgI Z O1 O2 b w v1 v2) (h7 : b 7 = true) (hx : BitsAre w' x O2) (hb : Below w.heap.size w w') : HgI Z O1 O2 b' w' v1 x :=
  ⟨h.lo.trans (hb.mono h.lo.size), fun _ => (h.c h7).below hb, fun _ => hx⟩
-- printed by genhangs.py
def hgAct (q nb g n sc : Nat) (m2 m3 : Int) (y0 y1 y2 y3 y4 y5 y6 y7 y8 y9 y10 y11 y12 y13 y14 y15 y16 y17 y18 y19 y20 y21 y22 y23 y24 y25 y26 y27 y28 y29 y30 y31 y32 y33 y34 y35 : Value) (b : Nat → Bool) (v1 v2 : Value) : Act :=
  ⟨#[y0, y1, y2, y3, y4, y5, gx (b 9) (v2) y6, y7, y8, y9, y10, y11, y12, y13, y14, y15, y16, y17, y18, y19, y20, y21, y22, y23, y24, y25, y26, gx (b 0) (.pointer (some ⟨q, 0, none⟩)) y27, gx (b 1) (.pointer (some ⟨nb, 2, none⟩)) y28, gx (b 2) (.int .i64 m3) y29, gx (b 3) (.pointer (some ⟨q, 0, none⟩)) y30, gx (b 4) (.pointer (some ⟨nb, 1, none⟩)) y31, gx (b 5) (.int .i64 m2) y32, gx (b 6) (.slice (some ⟨g, 0, none⟩) n sc) y33, gx (b 7) (v1) y34, gx (b 8) (v2) y35], []⟩
def hgInv (Z : World) (q nb g n sc : Nat) (m2 m3 : Int) (O1 O2 : List Bool) (y0 y1 y2 y3 y4 y5 y6 y7 y8 y9 y10 y11 y12 y13 y14 y15 y16 y17 y18 y19 y20 y21 y22 y23 y24 y25 y26 y27 y28 y29 y30 y31 y32 y33 y34 y35 : Value) (L : Array Bool) (a : Act) (w : World) : Prop :=
  ∃ v1 v2, a = hgAct q nb g n sc m2 m3 y0 y1 y2 y3 y4 y5 y6 y7 y8 y9 y10 y11 y12 y13 y14 y15 y16 y17 y18 y19 y20 y21 y22 y23 y24 y25 y26 y27 y28 y29 y30 y31 y32 y33 y34 y35 (fun k => L.getD k false) v1 v2 ∧ HgI Z O1 O2 (fun k => L.getD k false) w v1 v2
theorem wp_hang {ops : Array Oper} {id : Nat} {Q : Exit → Act → World → Prop} {y0 y1 y2 y3 y4 y5 y6 y7 y8 y9 y10 y11 y12 y13 y14 y15 y16 y17 y18 y19 y20 y21 y22 y23 y24 y25 y26 y27 y28 y29 y30 y31 y32 y33 y34 y35 : Value} (Z : World) (q nb g n sc : Nat) (m2 m3 : Int) (O1 O2 : List Bool)
    (hm : Try.prog.follows .mixedOrders = true) (hlt : (List.range ops.size).all (fun i => (deps .any ops i).all (fun k => decide (k < i))) = true)
    (h0 : hgInv Z q nb g n sc m2 m3 O1 O2 y0 y1 y2 y3 y4 y5 y6 y7 y8 y9 y10 y11 y12 y13 y14 y15 y16 y17 y18 y19 y20 y21 y22 y23 y24 y25 y26 y27 y28 y29 y30 y31 y32 y33 y34 y35 (Array.replicate ops.size false) ⟨#[y0, y1, y2, y3, y4, y5, y6, y7, y8, y9, y10, y11, y12, y13, y14, y15, y16, y17, y18, y19, y20, y21, y22, y23, y24, y25, y26, y27, y28, y29, y30, y31, y32, y33, y34, y35], []⟩ Z.drew)
    (hfin : ∀ (L : Array Bool) (a : Act) (w : World), (∀ j, j < ops.size → L.getD j false = true) → hgInv Z q nb g n sc m2 m3 O1 O2 y0 y1 y2 y3 y4 y5 y6 y7 y8 y9 y10 y11 y12 y13 y14 y15 y16 y17 y18 y19 y20 y21 y22 y23 y24 y25 y26 y27 y28 y29 y30 y31 y32 y33 y34 y35 L a w → Q .normal a w)
    (hs' : InvSteps Try.prog ops (hgInv Z q nb g n sc m2 m3 O1 O2 y0 y1 y2 y3 y4 y5 y6 y7 y8 y9 y10 y11 y12 y13 y14 y15 y16 y17 y18 y19 y20 y21 y22 y23 y24 y25 y26 y27 y28 y29 y30 y31 y32 y33 y34 y35) 0 ops.toList) : (Code.region id ops true).wp Try.prog Q ⟨#[y0, y1, y2, y3, y4, y5, y6, y7, y8, y9, y10, y11, y12, y13, y14, y15, y16, y17, y18, y19, y20, y21, y22, y23, y24, y25, y26, y27, y28, y29, y30, y31, y32, y33, y34, y35], []⟩ Z :=
  wp_region_invs (hgInv Z q nb g n sc m2 m3 O1 O2 y0 y1 y2 y3 y4 y5 y6 y7 y8 y9 y10 y11 y12 y13 y14 y15 y16 y17 y18 y19 y20 y21 y22 y23 y24 y25 y26 y27 y28 y29 y30 y31 y32 y33 y34 y35) hm hlt h0 hfin hs'

set_option maxRecDepth 100000 in
set_option maxHeartbeats 16000000 in
theorem hangs_any : ∀ (n : Nat) (w : World) (q : Nat) (F : List Nat) (S : Sto) (a : Int) (sv : Value) (O : List Bool), RIs w q F (rOf S) → Wf S → S.has a → 64 - topOf S a < n → BitsAre w sv O → O.length = 64 →
    Calls Try.prog 106 #[.pointer (some ⟨q, 0, none⟩), .int .i64 a, sv] w (HangsTo w (hangL S n O a)) := by
  intro n
  induction n with
  | zero => intro w q F S a sv O _ h ha hn; have := topOf_le h ha; omega
  | succ n ih =>
    intro w q F S a sv O h hW ha hn hO hlO
    have H := hid h
    have HO := hid hO
    have hl := wf_len hW
    obtain ⟨gb, cb, rfl, zb, -, -⟩ := hO
    rw [hlO]
    by_cases h2 : a < 2
    · have er : hangL S (n + 1) O a = O := by unfold hangL; rw [if_pos h2]
      rw [er]
      clear er h ih hn
      go_enter Try.func106, Try.ntmps106
      go_wp2_with fail
      go_returns
      exact ⟨_, rfl, (by rw [← hlO]; exact HO.out.below (by (repeat' (first | (with_reducible exact Below.refl _ _) | (with_reducible refine Below.ext_mk ?_ ?_ _ _) | (with_reducible refine Below.alloc ?_ ?_ _) | (with_reducible refine Below.drew ?_) | (with_reducible refine Below.setCell ?_ ?_ _) | go_size)))), by (repeat' (first | (with_reducible exact Below.refl _ _) | (with_reducible refine Below.ext_mk ?_ ?_ _ _) | (with_reducible refine Below.alloc ?_ ?_ _) | (with_reducible refine Below.drew ?_) | (with_reducible refine Below.setCell ?_ ?_ _) | go_size))⟩
    obtain ⟨i, m, rfl, hmn⟩ := has_node ha h2
    obtain ⟨g, cap2, zq, zg, _, d1, _, n0, n1, n2⟩ := h.node (show (rOf S).L[i]? = some m from hmn)
    have hi := (List.getElem?_eq_some_iff.1 hmn).1
    have hL : (rOf S).L.length = S.nodes.length := rfl
    rw [hL] at d1
    have hb : IntKind.i64.wrap (i : Int) = (i : Int) := IntWalk.i64_in _ (by omega)
    have hi1 : (i : Int) < (S.nodes.length : Int) := by omega
    have hi2 : (0 : Int) ≤ (i : Int) := by omega
    have hnd : nodeOf S ((i : Int) + 2) = m := nodeOf_is hmn
    have ht := topOf_node hmn
    rw [ht] at hn
    have hc := hW.child hmn
    have hok := hW.node i m hmn
    have tlo := hok.tlo
    have thi := hok.thi
    have v64 := hok.v64
    have v0 := hok.v0
    obtain ⟨m1, m2, m3⟩ := m
    simp only at n0 n1 n2 hc tlo thi hn v64 v0
    obtain ⟨k, rfl⟩ : ∃ k : Nat, m1 = (k : Int) := ⟨m1.toNat, by omega⟩
    have er : hangL S (n + 1) O ((i : Int) + 2) = hangL S n (hangL S n (O.set k true) m2) m3 := by
      conv => lhs; unfold hangL
      rw [if_neg h2, hnd, Int.toNat_natCast]
    rw [er]
    have I1 := hid (fun W (hb : Below w.heap.size w W) sv O hO hl => ih W q F S m2 sv O (H.out.below hb) hW hc.1 (by omega) hO hl)
    have I2 := hid (fun W (hb : Below w.heap.size w W) sv O hO hl => ih W q F S m3 sv O (H.out.below hb) hW hc.2 (by omega) hO hl)
    have k64 : (k : Int) < 64 := v64
    have k64' : k < 64 := by omega
    have LO := hid hlO
    have l1 : ((O.set k true).length = 64) := by rw [List.length_set]; exact hlO
    have L1 := hid l1
    have L2 := hid (show (hangL S n (O.set k true) m2).length = 64 by rw [hangL_length]; exact l1)
    clear er h ih hn hnd ht hc hok tlo thi v64 v0 hmn ha hL hW h2 hl l1 hlO
    go_enter Try.func106, Try.ntmps106
    go_upto_region 4 with (fail)
    refine wp_gen (fun V hV => ?_)
    have hbV : Below w.heap.size w V := by rw [hV]; (repeat' (first | (with_reducible exact Below.refl _ _) | (with_reducible refine Below.ext_mk ?_ ?_ _ _) | (with_reducible refine Below.alloc ?_ ?_ _) | (with_reducible refine Below.drew ?_) | (with_reducible refine Below.setCell ?_ ?_ _) | go_size))
    have e1 : V.cell? ⟨w.heap.size, 0, none⟩ = some (.int .i64 (k : Int)) := by rw [hV]; first | (go_simp; done) | (simp [World.cell?, World.alloc]; done)
    have e2 : V.cell? ⟨w.heap.size, 1, none⟩ = some (.int .i64 m2) := by rw [hV]; first | (go_simp; done) | (simp [World.cell?, World.alloc]; done)
    have e3 : V.cell? ⟨w.heap.size, 2, none⟩ = some (.int .i64 m3) := by rw [hV]; first | (go_simp; done) | (simp [World.cell?, World.alloc]; done)
    have zV : w.heap.size < V.heap.size := by rw [hV]; simp
    clear hV
    obtain ⟨g2, c2, W1, r1, r2, r3, r4⟩ := bits_copy (HO.out.below hbV) (by have := LO.out; omega) (by have := LO.out; omega)
    rw [LO.out] at r1 r2
    have HBV := hid hbV
    have R1 := hid r1
    have f1 := (r4.cell (p := ⟨w.heap.size, 0, none⟩) zV).trans e1
    have E2 := hid ((r4.cell (p := ⟨w.heap.size, 1, none⟩) zV).trans e2)
    have E3 := hid ((r4.cell (p := ⟨w.heap.size, 2, none⟩) zV).trans e3)
    have st := RowIs.setOne (i := k) (.bool true) r2 k64'
    have ST := hid st.1
    have R3 := hid r3
    have R4 := hid r4
    have fz := st.2
    have zg2 := RowIs.lt r2 g2 rfl
    have ck : ∃ u, W1.cell? ⟨g2, k, none⟩ = some (.bool u) := by
      have hk' : k < O.length := by have := LO.out; omega
      obtain ⟨g', cap, q1, q2, _, q4⟩ := RowIs.one r2 (show (bools O)[k]? = some (.bool O[k]) by simp [bools, hk'])
      cases q2
      exact ⟨_, q4⟩
    obtain ⟨u, ck⟩ := ck
    have zV1 : w.heap.size < W1.heap.size := Nat.lt_of_lt_of_le zV r4.size
    have ZV := hid zV
    clear r1 r2 r3 r4 st e1 e2 e3 hbV d1 n0 n1 n2
    refine wp_region_doc (fun F' hF => ?_)
    have HF := hid hF
    clear hF
    iterate 2 (refine doc_val rfl (by first | (go_simp; done) | (go_simp; exact ⟨rfl, rfl⟩) | (go_simp; with_reducible rfl)) ?_; simp only [Act.put, List.setIfInBounds_toArray, List.set_cons_zero, List.set_cons_succ])
    refine doc_val rfl (run_append_op _ _ _ _ _ _ _ _ _ R1.out) ?_
    simp only [Act.put, List.setIfInBounds_toArray, List.set_cons_zero, List.set_cons_succ]
    refine doc_val rfl (by first | (go_simp; done) | (go_simp; exact ⟨rfl, rfl⟩) | (go_simp; with_reducible rfl)) ?_
    simp only [Act.put, List.setIfInBounds_toArray, List.set_cons_zero, List.set_cons_succ]
    refine doc_end (HF.out _ _ ?_)
    clear HF F' R1
    go_upto_region 6 with (fail)
    refine wp_gen (fun Z hZ => ?_)
    have hZ' : Z = W1.setCell ⟨g2, k, none⟩ (.bool true) := hZ
    have RZ : RowIs Z (.slice (some ⟨g2, 0, none⟩) 64 c2) (some g2) 4 1 64 (bools (O.set k true)) := by
      rw [hZ']
      have := ST.out
      simpa [bools, List.map_set] using this
    have BZ := hid (show BitsAre Z (.slice (some ⟨g2, 0, none⟩) 64 c2) (O.set k true) by
      have := RZ
      rw [← L1.out] at this ⊢
      exact RowIs.bits this (by have := L1.out; omega))
    have B0 : Below w.heap.size w Z := by rw [hZ']; exact (HBV.out.trans (R4.out.mono HBV.out.size)).setCell (p := ⟨g2, k, none⟩) (by have := ZV.out; have := R3.out; show w.heap.size ≤ g2; omega) _
    have nb2 : g2 ≠ w.heap.size := by have := ZV.out; have := R3.out; omega
    have C2 := hid (show Z.cell? ⟨w.heap.size, 1, none⟩ = some (.int .i64 m2) by rw [hZ', World.cell?_setCell_far _ _ _ _ nb2]; exact E2.out)
    have C3 := hid (show Z.cell? ⟨w.heap.size, 2, none⟩ = some (.int .i64 m3) by rw [hZ', World.cell?_setCell_far _ _ _ _ nb2]; exact E3.out)
    have zZ : w.heap.size < Z.heap.size := by rw [hZ']; simpa [World.setCell] using zV1
    have BB := hid B0
    clear hZ hZ' RZ nb2 B0 f1 fz ck zV1 zg2
    refine wp_hang Z q w.heap.size g2 64 c2 m2 m3 (hangL S n (O.set k true) m2) (hangL S n (hangL S n (O.set k true) m2) m3) (by kernel_rfl) (by kernel_rfl) ?_ ?_ ?_
    · refine ⟨undef, undef, ?_, ⟨Below.drew (Below.refl _ _), fun h => by simp at h, fun h => by simp at h⟩⟩
      unfold hgAct
      rfl
    · rintro L a W' hall ⟨v1, v2, rfl, hQ⟩
      have e0 := hall 0 (by decide)
      have e1 := hall 1 (by decide)
      have e2 := hall 2 (by decide)
      have e3 := hall 3 (by decide)
      have e4 := hall 4 (by decide)
      have e5 := hall 5 (by decide)
      have e6 := hall 6 (by decide)
      have e7 := hall 7 (by decide)
      have e8 := hall 8 (by decide)
      have e9 := hall 9 (by decide)
      unfold hgAct
      simp only [e0, e1, e2, e3, e4, e5, e6, e7, e8, e9, gx_true]
      have D := hQ.d e8
      have B3 := hQ.lo
      clear e0 e1 e2 e3 e4 e5 e6 e7 e8 e9 hall hQ
      go_wp2_with fail
      go_returns
      exact ⟨_, rfl, D, BB.out.trans (B3.mono BB.out.size)⟩
    refine ⟨fun L a w2 hn hI => ?_, ?_⟩
    · obtain ⟨v1, v2, rfl, hI⟩ := hI
      have hup := getD_up hn.2.1
      refine st_val (v := .pointer (some ⟨q, 0, none⟩)) (W1 := w2) rfl (by unfold hgAct; simp only [gx_true]; go_simp) ?_
      refine ⟨v1, v2, ?_, hI.congr (up_ne _ _ (by decide)) (up_ne _ _ (by decide))⟩
      unfold hgAct
      simp only [Act.put, List.setIfInBounds_toArray, List.set_cons_zero, List.set_cons_succ, hup, gx_true, up_ne 0 1 (by decide), up_ne 0 2 (by decide), up_ne 0 3 (by decide), up_ne 0 4 (by decide), up_ne 0 5 (by decide), up_ne 0 6 (by decide), up_ne 0 7 (by decide), up_ne 0 8 (by decide), up_ne 0 9 (by decide)]
    refine ⟨fun L a w2 hn hI => ?_, ?_⟩
    · obtain ⟨v1, v2, rfl, hI⟩ := hI
      have hup := getD_up hn.2.1
      refine st_val (v := .pointer (some ⟨w.heap.size, 2, none⟩)) (W1 := w2) rfl (by unfold hgAct; simp only [gx_true]; go_simp) ?_
      refine ⟨v1, v2, ?_, hI.congr (up_ne _ _ (by decide)) (up_ne _ _ (by decide))⟩
      unfold hgAct
      simp only [Act.put, List.setIfInBounds_toArray, List.set_cons_zero, List.set_cons_succ, hup, gx_true, up_ne 1 0 (by decide), up_ne 1 2 (by decide), up_ne 1 3 (by decide), up_ne 1 4 (by decide), up_ne 1 5 (by decide), up_ne 1 6 (by decide), up_ne 1 7 (by decide), up_ne 1 8 (by decide), up_ne 1 9 (by decide)]
    refine ⟨fun L a w2 hn hI => ?_, ?_⟩
    · obtain ⟨v1, v2, rfl, hI⟩ := hI
      have hup := getD_up hn.2.1
      have d1 : L.getD 1 false = true := hn.2.2.1 1 (by decide +kernel)
      have zw : w.heap.size < w2.heap.size := Nat.lt_of_lt_of_le zZ hI.lo.size
      have kc := (hI.lo.cell (p := ⟨w.heap.size, 2, none⟩) zZ).trans C3.out
      refine st_val (v := .int .i64 m3) (W1 := w2) rfl (by unfold hgAct; simp only [gx_true, d1]; go_simp) ?_
      refine ⟨v1, v2, ?_, hI.congr (up_ne _ _ (by decide)) (up_ne _ _ (by decide))⟩
      unfold hgAct
      simp only [Act.put, List.setIfInBounds_toArray, List.set_cons_zero, List.set_cons_succ, hup, gx_true, up_ne 2 0 (by decide), up_ne 2 1 (by decide), up_ne 2 3 (by decide), up_ne 2 4 (by decide), up_ne 2 5 (by decide), up_ne 2 6 (by decide), up_ne 2 7 (by decide), up_ne 2 8 (by decide), up_ne 2 9 (by decide)]
    refine ⟨fun L a w2 hn hI => ?_, ?_⟩
    · obtain ⟨v1, v2, rfl, hI⟩ := hI
      have hup := getD_up hn.2.1
      refine st_val (v := .pointer (some ⟨q, 0, none⟩)) (W1 := w2) rfl (by unfold hgAct; simp only [gx_true]; go_simp) ?_
      refine ⟨v1, v2, ?_, hI.congr (up_ne _ _ (by decide)) (up_ne _ _ (by decide))⟩
      unfold hgAct
      simp only [Act.put, List.setIfInBounds_toArray, List.set_cons_zero, List.set_cons_succ, hup, gx_true, up_ne 3 0 (by decide), up_ne 3 1 (by decide), up_ne 3 2 (by decide), up_ne 3 4 (by decide), up_ne 3 5 (by decide), up_ne 3 6 (by decide), up_ne 3 7 (by decide), up_ne 3 8 (by decide), up_ne 3 9 (by decide)]
    refine ⟨fun L a w2 hn hI => ?_, ?_⟩
    · obtain ⟨v1, v2, rfl, hI⟩ := hI
      have hup := getD_up hn.2.1
      refine st_val (v := .pointer (some ⟨w.heap.size, 1, none⟩)) (W1 := w2) rfl (by unfold hgAct; simp only [gx_true]; go_simp) ?_
      refine ⟨v1, v2, ?_, hI.congr (up_ne _ _ (by decide)) (up_ne _ _ (by decide))⟩
      unfold hgAct
      simp only [Act.put, List.setIfInBounds_toArray, List.set_cons_zero, List.set_cons_succ, hup, gx_true, up_ne 4 0 (by decide), up_ne 4 1 (by decide), up_ne 4 2 (by decide), up_ne 4 3 (by decide), up_ne 4 5 (by decide), up_ne 4 6 (by decide), up_ne 4 7 (by decide), up_ne 4 8 (by decide), up_ne 4 9 (by decide)]
    refine ⟨fun L a w2 hn hI => ?_, ?_⟩
    · obtain ⟨v1, v2, rfl, hI⟩ := hI
      have hup := getD_up hn.2.1
      have d4 : L.getD 4 false = true := hn.2.2.1 4 (by decide +kernel)
      have zw : w.heap.size < w2.heap.size := Nat.lt_of_lt_of_le zZ hI.lo.size
      have kc := (hI.lo.cell (p := ⟨w.heap.size, 1, none⟩) zZ).trans C2.out
      refine st_val (v := .int .i64 m2) (W1 := w2) rfl (by unfold hgAct; simp only [gx_true, d4]; go_simp) ?_
      refine ⟨v1, v2, ?_, hI.congr (up_ne _ _ (by decide)) (up_ne _ _ (by decide))⟩
      unfold hgAct
      simp only [Act.put, List.setIfInBounds_toArray, List.set_cons_zero, List.set_cons_succ, hup, gx_true, up_ne 5 0 (by decide), up_ne 5 1 (by decide), up_ne 5 2 (by decide), up_ne 5 3 (by decide), up_ne 5 4 (by decide), up_ne 5 6 (by decide), up_ne 5 7 (by decide), up_ne 5 8 (by decide), up_ne 5 9 (by decide)]
    refine ⟨fun L a w2 hn hI => ?_, ?_⟩
    · obtain ⟨v1, v2, rfl, hI⟩ := hI
      have hup := getD_up hn.2.1
      refine st_val (v := .slice (some ⟨g2, 0, none⟩) 64 c2) (W1 := w2) rfl (by unfold hgAct; simp only [gx_true]; go_simp) ?_
      refine ⟨v1, v2, ?_, hI.congr (up_ne _ _ (by decide)) (up_ne _ _ (by decide))⟩
      unfold hgAct
      simp only [Act.put, List.setIfInBounds_toArray, List.set_cons_zero, List.set_cons_succ, hup, gx_true, up_ne 6 0 (by decide), up_ne 6 1 (by decide), up_ne 6 2 (by decide), up_ne 6 3 (by decide), up_ne 6 4 (by decide), up_ne 6 5 (by decide), up_ne 6 7 (by decide), up_ne 6 8 (by decide), up_ne 6 9 (by decide)]
    refine ⟨fun L a w2 hn hI => ?_, ?_⟩
    · obtain ⟨v1, v2, rfl, hI⟩ := hI
      have hup := getD_up hn.2.1
      have d3 : L.getD 3 false = true := hn.2.2.1 3 (by decide +kernel)
      have d5 : L.getD 5 false = true := hn.2.2.1 5 (by decide +kernel)
      have d6 : L.getD 6 false = true := hn.2.2.1 6 (by decide +kernel)
      have f8 := not_upA hn.2.2.2 (i := 8) (k := 7) (by decide +kernel) hn.2.1
      have CC := I1.out w2 (BB.out.trans (hI.lo.mono BB.out.size)) (.slice (some ⟨g2, 0, none⟩) 64 c2) (O.set k true) (BZ.out.below hI.lo) L1.out
      refine st_call (f := 106) (args := #[.pointer (some ⟨q, 0, none⟩), .int .i64 m2, .slice (some ⟨g2, 0, none⟩) 64 c2]) (W1 := w2) rfl (by unfold hgAct; simp only [gx_true, d3, d5, d6]; first | (go_simp; done) | (go_simp; exact ⟨rfl, rfl⟩) | (go_simp; with_reducible rfl)) (CC.mono ?_)
      rintro e' w3 ⟨x, rfl, hx, hb3⟩
      refine ⟨_, rfl, x, v2, ?_, hI.one ((up_ne _ _ (by decide)).trans f8) hx hb3⟩
      unfold hgAct
      simp only [Act.put, List.setIfInBounds_toArray, List.set_cons_zero, List.set_cons_succ, hup, gx_true, up_ne 7 0 (by decide), up_ne 7 1 (by decide), up_ne 7 2 (by decide), up_ne 7 3 (by decide), up_ne 7 4 (by decide), up_ne 7 5 (by decide), up_ne 7 6 (by decide), up_ne 7 8 (by decide), up_ne 7 9 (by decide)]
    refine ⟨fun L a w2 hn hI => ?_, ?_⟩
    · obtain ⟨v1, v2, rfl, hI⟩ := hI
      have hup := getD_up hn.2.1
      have d0 : L.getD 0 false = true := hn.2.2.1 0 (by decide +kernel)
      have d2 : L.getD 2 false = true := hn.2.2.1 2 (by decide +kernel)
      have d7 : L.getD 7 false = true := hn.2.2.1 7 (by decide +kernel)
      have f9 := not_upA hn.2.2.2 (i := 9) (k := 8) (by decide +kernel) hn.2.1
      have CC := I2.out w2 (BB.out.trans (hI.lo.mono BB.out.size)) v1 (hangL S n (O.set k true) m2) (hI.c d7) L2.out
      refine st_call (f := 106) (args := #[.pointer (some ⟨q, 0, none⟩), .int .i64 m3, v1]) (W1 := w2) rfl (by unfold hgAct; simp only [gx_true, d0, d2, d7]; first | (go_simp; done) | (go_simp; exact ⟨rfl, rfl⟩) | (go_simp; with_reducible rfl)) (CC.mono ?_)
      rintro e' w3 ⟨x, rfl, hx, hb3⟩
      refine ⟨_, rfl, v1, x, ?_, hI.two d7 hx hb3⟩
      unfold hgAct
      simp only [Act.put, List.setIfInBounds_toArray, List.set_cons_zero, List.set_cons_succ, hup, gx_true, f9, gx_false, up_ne 8 0 (by decide), up_ne 8 1 (by decide), up_ne 8 2 (by decide), up_ne 8 3 (by decide), up_ne 8 4 (by decide), up_ne 8 5 (by decide), up_ne 8 6 (by decide), up_ne 8 7 (by decide), up_ne 8 9 (by decide)]
    refine ⟨fun L a w2 hn hI => ?_, ?_⟩
    · obtain ⟨v1, v2, rfl, hI⟩ := hI
      have hup := getD_up hn.2.1
      have d8 : L.getD 8 false = true := hn.2.2.1 8 (by decide +kernel)
      refine st_val (v := v2) (W1 := w2) rfl (by unfold hgAct; simp only [gx_true, d8]; go_simp) ?_
      refine ⟨v1, v2, ?_, hI.congr (up_ne _ _ (by decide)) (up_ne _ _ (by decide))⟩
      unfold hgAct
      simp only [Act.put, List.setIfInBounds_toArray, List.set_cons_zero, List.set_cons_succ, hup, gx_true, up_ne 9 0 (by decide), up_ne 9 1 (by decide), up_ne 9 2 (by decide), up_ne 9 3 (by decide), up_ne 9 4 (by decide), up_ne 9 5 (by decide), up_ne 9 6 (by decide), up_ne 9 7 (by decide), up_ne 9 8 (by decide)]
    trivial
end Go.Proofs.Ytboekafmplomhaa
set_option linter.unusedVariables false
set_option linter.unusedSimpArgs false
namespace Go.Proofs.Ytboekafmplomhaa
open Go.RowKit

theorem make64 (w : World) : (Instr.makeSlice 33 (.int .i64 64) (.int .i64 64)).run Try.prog w = .ok (.slice (some ⟨w.heap.size, 0, none⟩) 64 64) (w.alloc (.cells (bools (List.replicate 64 false)).toArray 4)) := by
  have h : (Instr.makeSlice 33 (.int .i64 64) (.int .i64 64)).run Try.prog w = .ok (.slice (some ⟨w.heap.size, 0, none⟩) 64 64) (w.alloc (.cells (madeCells (Value.bool false).cells (64 * infoBool.size)) 4)) := make_row 33 4 infoBool (.bool false) Try.underlying33 infoBool_is infoBool_zero .i64 .i64 64 64 (Nat.le_refl _) (by rw [infoBool_bytes]; omega) (by omega) w
  rw [infoBool_size, Nat.mul_one] at h
  have e : madeCells (Value.bool false).cells 64 = (bools (List.replicate 64 false)).toArray := by kernel_rfl
  rw [e] at h
  exact h
theorem bits64 (w : World) : BitsAre (w.alloc (.cells (bools (List.replicate 64 false)).toArray 4)) (.slice (some ⟨w.heap.size, 0, none⟩) 64 64) (List.replicate 64 false) := by
  refine ⟨w.heap.size, 64, rfl, by simp, by simp, fun i b hi => ?_⟩
  have hl : (w.alloc (.cells (bools (List.replicate 64 false)).toArray 4)).heap[w.heap.size]? = some (.cells (bools (List.replicate 64 false)).toArray 4 (0, 0)) := World.heap_alloc_last w _
  simp only [World.cell?, hl]
  generalize List.replicate 64 false = O at *
  simp [bools, hi]
/-- The worlds of the drawn region. -/
structure SgI (Z : World) (O1 O2 : List Bool) (b : Nat → Bool) (w : World) (v1 v2 : Value) : Prop where
  lo : Below Z.heap.size Z w
  c : b 4 = true → BitsAre w v1 O1
  d : b 5 = true → BitsAre w v2 O2
theorem SgI.congr {Z w : World} {O1 O2 : List Bool} {b b' : Nat → Bool} {v1 v2 : Value} (h : SgI Z O1 O2 b w v1 v2) (h4 : b' 4 = b 4) (h5 : b' 5 = b 5) : SgI Z O1 O2 b' w v1 v2 :=
  ⟨h.lo, by rw [h4]; exact h.c, by rw [h5]; exact h.d⟩
theorem SgI.ext {Z w : World} {O1 O2 : List Bool} {b b' : Nat → Bool} {v1 v2 : Value} (h : SgI Z O1 O2 b w v1 v2) (h4 : b' 4 = b 4) (h5 : b' 5 = b 5) (m : Array Obj) (d : Nat) : SgI Z O1 O2 b' (w.ext m d) v1 v2 :=
  ⟨Below.ext_mk h.lo h.lo.size m d, by rw [h4]; exact fun e => (h.c e).below (Below.ext_mk (Below.refl _ _) (Nat.le_refl _) m d), by rw [h5]; exact fun e => (h.d e).below (Below.ext_mk (Below.refl _ _) (Nat.le_refl _) m d)⟩
theorem SgI.one {Z w w' : World} {O1 O2 : List Bool} {b b' : Nat → Bool} {v1 v2 x : Value} (h : SgI Z O1 O2 b w v1 v2) (h5 : b' 5 = false) (hx : BitsAre w' x O1) (hb : Below w.heap.size w w') : SgI Z O1 O2 b' w' x v2 :=
  ⟨h.lo.trans (hb.mono h.lo.size), fun _ => hx, fun e => by (rw [h5] at e; cases e)⟩
theorem SgI.two {Z w w' : World} {O1 O2 : List Bool} {b b' : Nat → Bool} {v1 v2 x : Value} (h : SgI Z O1 O2 b w v1 v2) (h4 : b 4 = true) (hx : BitsAre w' x O2) (hb : Below w.heap.size w w') : SgI Z O1 O2 b' w' v1 x :=
  ⟨h.lo.trans (hb.mono h.lo.size), fun _ => (h.c h4).below hb, fun _ => hx⟩
-- printed by gensupp.py
def sgAct (q : Nat) (x r : Int) (y0 y1 y2 y3 y4 y5 y6 y7 y8 y9 y10 y11 y12 y13 y14 y15 y16 y17 y18 y19 y20 y21 y22 y23 y24 y25 y26 y27 y28 y29 y30 y31 : Value) (b : Nat → Bool) (v1 v2 : Value) : Act :=
  ⟨#[y0, y1, y2, y3, y4, y5, gx (b 6) (v2) y6, y7, y8, y9, y10, y11, y12, gx (b 0) (.pointer (some ⟨q, 0, none⟩)) y13, gx (b 1) (.pointer (some ⟨q, 0, none⟩)) y14, gx (b 2) (.int .i64 x) y15, gx (b 3) (.int .i64 r) y16, gx (b 4) (v1) y17, gx (b 5) (v2) y18, y19, y20, y21, y22, y23, y24, y25, y26, y27, y28, y29, y30, y31], []⟩
def sgInv (Z : World) (q : Nat) (x r : Int) (O1 O2 : List Bool) (y0 y1 y2 y3 y4 y5 y6 y7 y8 y9 y10 y11 y12 y13 y14 y15 y16 y17 y18 y19 y20 y21 y22 y23 y24 y25 y26 y27 y28 y29 y30 y31 : Value) (L : Array Bool) (a : Act) (w : World) : Prop :=
  ∃ v1 v2, a = sgAct q x r y0 y1 y2 y3 y4 y5 y6 y7 y8 y9 y10 y11 y12 y13 y14 y15 y16 y17 y18 y19 y20 y21 y22 y23 y24 y25 y26 y27 y28 y29 y30 y31 (fun k => L.getD k false) v1 v2 ∧ SgI Z O1 O2 (fun k => L.getD k false) w v1 v2
theorem wp_supp {ops : Array Oper} {id : Nat} {Q : Exit → Act → World → Prop} {y0 y1 y2 y3 y4 y5 y6 y7 y8 y9 y10 y11 y12 y13 y14 y15 y16 y17 y18 y19 y20 y21 y22 y23 y24 y25 y26 y27 y28 y29 y30 y31 : Value} (Z : World) (q : Nat) (x r : Int) (O1 O2 : List Bool)
    (hm : Try.prog.follows .mixedOrders = true) (hlt : (List.range ops.size).all (fun i => (deps .any ops i).all (fun k => decide (k < i))) = true)
    (h0 : sgInv Z q x r O1 O2 y0 y1 y2 y3 y4 y5 y6 y7 y8 y9 y10 y11 y12 y13 y14 y15 y16 y17 y18 y19 y20 y21 y22 y23 y24 y25 y26 y27 y28 y29 y30 y31 (Array.replicate ops.size false) ⟨#[y0, y1, y2, y3, y4, y5, y6, y7, y8, y9, y10, y11, y12, y13, y14, y15, y16, y17, y18, y19, y20, y21, y22, y23, y24, y25, y26, y27, y28, y29, y30, y31], []⟩ Z.drew)
    (hfin : ∀ (L : Array Bool) (a : Act) (w : World), (∀ j, j < ops.size → L.getD j false = true) → sgInv Z q x r O1 O2 y0 y1 y2 y3 y4 y5 y6 y7 y8 y9 y10 y11 y12 y13 y14 y15 y16 y17 y18 y19 y20 y21 y22 y23 y24 y25 y26 y27 y28 y29 y30 y31 L a w → Q .normal a w)
    (hs' : InvSteps Try.prog ops (sgInv Z q x r O1 O2 y0 y1 y2 y3 y4 y5 y6 y7 y8 y9 y10 y11 y12 y13 y14 y15 y16 y17 y18 y19 y20 y21 y22 y23 y24 y25 y26 y27 y28 y29 y30 y31) 0 ops.toList) : (Code.region id ops true).wp Try.prog Q ⟨#[y0, y1, y2, y3, y4, y5, y6, y7, y8, y9, y10, y11, y12, y13, y14, y15, y16, y17, y18, y19, y20, y21, y22, y23, y24, y25, y26, y27, y28, y29, y30, y31], []⟩ Z :=
  wp_region_invs (sgInv Z q x r O1 O2 y0 y1 y2 y3 y4 y5 y6 y7 y8 y9 y10 y11 y12 y13 y14 y15 y16 y17 y18 y19 y20 y21 y22 y23 y24 y25 y26 y27 y28 y29 y30 y31) hm hlt h0 hfin hs'

def rsupV (S : Sto) (x : Int) : List Int := if S.full then [] else onL (hangL S 66 (List.replicate 64 false) (rightOf S x)) 64
set_option maxRecDepth 100000 in
set_option maxHeartbeats 16000000 in
theorem rsupport_any {w : World} {q : Nat} {F : List Nat} {S : Sto} (h : RIs w q F (rOf S)) (hW : Wf S) (x : Int) :
    Calls Try.prog 47 #[.pointer (some ⟨q, 0, none⟩), .int .i64 x] w
      (fun e w' => ∃ sv, e = .returned sv ∧ Rd w' 1 sv (ints (rsupV S x)) ∧ Below w.heap.size w w') := by
  have H := hid h
  obtain ⟨sa, cap', zq, c0, c1, c2, hm⟩ := h.cells
  unfold rsupV
  clear c0 c1
  cases hf : S.full
  case true =>
    have c2' : w.cell? ⟨q, 2, none⟩ = some (.bool true) := by rw [c2]; show some (Value.bool S.full) = _; rw [hf]
    rw [if_pos rfl]
    clear c2 h
    go_enter Try.func47, Try.ntmps47
    go_wp2_with fail
    go_returns
    exact ⟨_, rfl, (RowIs.rd (G := none) (e := 3) (n := 0) (xs := []) ⟨rfl, .inl ⟨rfl, rfl, rfl⟩⟩), by (repeat' (first | (with_reducible exact Below.refl _ _) | (with_reducible refine Below.ext_mk ?_ ?_ _ _) | (with_reducible refine Below.alloc ?_ ?_ _) | (with_reducible refine Below.drew ?_) | (with_reducible refine Below.setCell ?_ ?_ _) | go_size))⟩
  have c2' : w.cell? ⟨q, 2, none⟩ = some (.bool false) := by rw [c2]; show some (Value.bool S.full) = _; rw [hf]
  rw [if_neg (by simp)]
  have RX := hid (fun W (hb : Below w.heap.size w W) => rright_any (H.out.below hb) (wf_len hW) x)
  have g1 := topOf_ge hW (has_right (S := S) x)
  have hn : 64 - topOf S (rightOf S x) < (66 : Nat) := by omega
  rw [rright_sim] at RX
  obtain ⟨O0, hO0⟩ : ∃ O, O = List.replicate 64 false := ⟨_, rfl⟩
  have HG := hid (fun W (hb : Below w.heap.size w W) sv (hs : BitsAre W sv O0) => hangs_any 66 W q F S _ sv O0 (H.out.below hb) hW (has_right x) hn hs (by rw [hO0]; rfl))
  have LO := hid (show (hangL S 66 O0 (rightOf S x)).length = 64 by rw [hangL_length, hO0]; rfl)
  rw [← hO0]
  have HO0 := hid hO0
  generalize hr : rightOf S x = r at *
  generalize hO1 : hangL S 66 O0 r = O1 at *
  unfold HangsTo at HG
  have HH := hid hO1
  clear c2 h hr hO1 g1 hn hW hf hO0
  go_enter Try.func47, Try.ntmps47
  go_upto_region 4 with (fail)
  refine wp_gen (fun Z hZ => ?_)
  have hbZ : Below w.heap.size w Z := by rw [hZ]; (repeat' (first | (with_reducible exact Below.refl _ _) | (with_reducible refine Below.ext_mk ?_ ?_ _ _) | (with_reducible refine Below.alloc ?_ ?_ _) | (with_reducible refine Below.drew ?_) | (with_reducible refine Below.setCell ?_ ?_ _) | go_size))
  clear hZ
  have BB := hid hbZ
  clear hbZ
  refine wp_supp Z q x r O0 O1 (by kernel_rfl) (by kernel_rfl) ?_ ?_ ?_
  · refine ⟨undef, undef, ?_, ⟨Below.drew (Below.refl _ _), fun h => by simp at h, fun h => by simp at h⟩⟩
    unfold sgAct
    rfl
  · rintro L a Y hall ⟨v1, v2, rfl, hQ⟩
    have e0 := hall 0 (by decide)
    have e1 := hall 1 (by decide)
    have e2 := hall 2 (by decide)
    have e3 := hall 3 (by decide)
    have e4 := hall 4 (by decide)
    have e5 := hall 5 (by decide)
    have e6 := hall 6 (by decide)
    unfold sgAct
    simp only [e0, e1, e2, e3, e4, e5, e6, gx_true]
    have D := hQ.d e5
    have hbY : Below w.heap.size w Y := BB.out.trans (hQ.lo.mono BB.out.size)
    clear e0 e1 e2 e3 e4 e5 e6 hall hQ
    obtain ⟨g, c, rfl, zg, -, hcl⟩ := D
    rw [LO.out]
    have HCL := hid hcl
    have HBY := hid hbY
    clear hcl hbY
    go_wp2_with fail
    go_loopw [5, 7] (fun sl i wr => ∃ (j : Nat) (G : Option Nat), j ≤ 64 ∧ i = .int .i64 j ∧ RowIs wr sl G 3 1 (onL O1 j).length (ints (onL O1 j)) ∧ (∀ g, G = some g → Y.heap.size ≤ g) ∧ Below Y.heap.size Y wr) (fun _ i _ => 64 - (intOf i).toNat)
    case atStart => exact ⟨0, none, by omega, rfl, ⟨rfl, .inl ⟨rfl, rfl, rfl⟩⟩, fun g hg => (by cases hg), by (repeat' (first | (with_reducible exact Below.refl _ _) | (with_reducible refine Below.ext_mk ?_ ?_ _ _) | (with_reducible refine Below.alloc ?_ ?_ _) | (with_reducible refine Below.drew ?_) | (with_reducible refine Below.setCell ?_ ?_ _) | go_size))⟩
    case round =>
      obtain ⟨j, G, hj, rfl, hrow, hG, hb⟩ := hrel
      have hbs := hb.size
      by_cases hlt : j < 64
      · have hj1 : (j : Int) < 64 := by omega
        have hj0 : (0 : Int) ≤ (j : Int) := by omega
        have hO : onL O1 (j + 1) = if O1.getD j false then onL O1 j ++ [(j : Int)] else onL O1 j := rfl
        have hln := onL_length O1 j
        have HO := hid hO
        have zgw : g < wr.heap.size := Nat.lt_of_lt_of_le zg hbs
        have hjl : j < O1.length := by rw [LO.out]; exact hlt
        have kc : wr.cell? ⟨g, j, none⟩ = some (.bool (O1.getD j false)) := (hb.cell (p := ⟨g, j, none⟩) zg).trans (HCL.out j _ (by simp [hjl]))
        clear hjl
        clear hO
        have HROW := hid hrow
        have HGh := hid hG
        cases hb1 : O1.getD j false
        · rw [hb1] at kc HO
          clear hrow hG
          go_wp2
          go_roundw
          case rel =>
            refine ⟨j + 1, G, by omega, by go_num, ?_, HGh.out, hb⟩
            rw [HO.out, if_neg (by simp)]
            exact HROW.out
          case measure => simp [intOf]; omega
        · rw [hb1] at kc HO
          obtain ⟨v', w1, G', r1, r2, r3, r4⟩ := grow_int hrow hG hbs (by omega) (j : Int)
          have R1 := hid r1
          have R2 := hid r2
          have R4 := hid r4
          clear hrow hG r1 r2 r4
          go_upto_region 9 with (fail)
          refine wp_region_doc (fun F' hF => ?_)
          have HF := hid hF
          clear hF
          refine doc_val rfl (by first | (go_simp; done) | (go_simp; exact ⟨rfl, rfl⟩) | (go_simp; with_reducible rfl)) ?_
          simp only [Act.put, List.setIfInBounds_toArray, List.set_cons_zero, List.set_cons_succ]
          refine doc_val rfl (by first | (go_simp; done) | (go_simp; exact ⟨rfl, rfl⟩) | (go_simp; with_reducible rfl)) ?_
          simp only [Act.put, List.setIfInBounds_toArray, List.set_cons_zero, List.set_cons_succ]
          refine doc_val rfl (by first | (go_simp; done) | (go_simp; exact ⟨rfl, rfl⟩) | (go_simp; with_reducible rfl)) ?_
          simp only [Act.put, List.setIfInBounds_toArray, List.set_cons_zero, List.set_cons_succ]
          refine doc_val rfl (run_append_op _ _ _ _ _ _ _ _ _ R1.out) ?_
          simp only [Act.put, List.setIfInBounds_toArray, List.set_cons_zero, List.set_cons_succ]
          refine doc_val rfl (by first | (go_simp; done) | (go_simp; exact ⟨rfl, rfl⟩) | (go_simp; with_reducible rfl)) ?_
          simp only [Act.put, List.setIfInBounds_toArray, List.set_cons_zero, List.set_cons_succ]
          refine doc_end (HF.out _ _ ?_)
          clear HF F' R1
          go_wp2
          go_roundw
          case rel =>
            refine ⟨j + 1, some G', by omega, by go_num, ?_, fun g hg => by cases hg; exact r3, hb.trans R4.out⟩
            rw [HO.out, if_pos rfl]
            exact R2.out
          case measure => simp [intOf]; omega
      · obtain rfl : j = 64 := by omega
        go_wp2
        go_returns
        have hrd := RowIs.rd hrow
        refine ⟨_, rfl, ?_, HBY.out.trans (hb.mono HBY.out.size)⟩
        exact hrd
  refine ⟨fun L a w2 hn hI => ?_, ?_⟩
  · obtain ⟨v1, v2, rfl, hI⟩ := hI
    have hup := getD_up hn.2.1
    refine st_val (v := .pointer (some ⟨q, 0, none⟩)) (W1 := w2) rfl (by unfold sgAct; simp only [gx_true]; go_simp) ?_
    refine ⟨v1, v2, ?_, hI.congr (up_ne _ _ (by decide)) (up_ne _ _ (by decide))⟩
    unfold sgAct
    simp only [Act.put, List.setIfInBounds_toArray, List.set_cons_zero, List.set_cons_succ, hup, gx_true, up_ne 0 1 (by decide), up_ne 0 2 (by decide), up_ne 0 3 (by decide), up_ne 0 4 (by decide), up_ne 0 5 (by decide), up_ne 0 6 (by decide)]
  refine ⟨fun L a w2 hn hI => ?_, ?_⟩
  · obtain ⟨v1, v2, rfl, hI⟩ := hI
    have hup := getD_up hn.2.1
    refine st_val (v := .pointer (some ⟨q, 0, none⟩)) (W1 := w2) rfl (by unfold sgAct; simp only [gx_true]; go_simp) ?_
    refine ⟨v1, v2, ?_, hI.congr (up_ne _ _ (by decide)) (up_ne _ _ (by decide))⟩
    unfold sgAct
    simp only [Act.put, List.setIfInBounds_toArray, List.set_cons_zero, List.set_cons_succ, hup, gx_true, up_ne 1 0 (by decide), up_ne 1 2 (by decide), up_ne 1 3 (by decide), up_ne 1 4 (by decide), up_ne 1 5 (by decide), up_ne 1 6 (by decide)]
  refine ⟨fun L a w2 hn hI => ?_, ?_⟩
  · obtain ⟨v1, v2, rfl, hI⟩ := hI
    have hup := getD_up hn.2.1
    refine st_val (v := .int .i64 x) (W1 := w2) rfl (by unfold sgAct; simp only [gx_true]; go_simp) ?_
    refine ⟨v1, v2, ?_, hI.congr (up_ne _ _ (by decide)) (up_ne _ _ (by decide))⟩
    unfold sgAct
    simp only [Act.put, List.setIfInBounds_toArray, List.set_cons_zero, List.set_cons_succ, hup, gx_true, up_ne 2 0 (by decide), up_ne 2 1 (by decide), up_ne 2 3 (by decide), up_ne 2 4 (by decide), up_ne 2 5 (by decide), up_ne 2 6 (by decide)]
  refine ⟨fun L a w2 hn hI => ?_, ?_⟩
  · obtain ⟨v1, v2, rfl, hI⟩ := hI
    have hup := getD_up hn.2.1
    have d1 : L.getD 1 false = true := hn.2.2.1 1 (by decide +kernel)
    have d2 : L.getD 2 false = true := hn.2.2.1 2 (by decide +kernel)
    refine st_call (f := 107) (args := #[.pointer (some ⟨q, 0, none⟩), .int .i64 x]) (W1 := w2) rfl (by unfold sgAct; simp only [gx_true, d1, d2]; first | (go_simp; done) | (go_simp; exact ⟨rfl, rfl⟩) | (go_simp; with_reducible rfl)) ((RX.out w2 (BB.out.trans (hI.lo.mono BB.out.size))).mono ?_)
    rintro e' w3 ⟨rfl, m3, d3, rfl⟩
    refine ⟨_, rfl, v1, v2, ?_, hI.ext (up_ne _ _ (by decide)) (up_ne _ _ (by decide)) m3 d3⟩
    unfold sgAct
    simp only [Act.put, List.setIfInBounds_toArray, List.set_cons_zero, List.set_cons_succ, hup, gx_true, up_ne 3 0 (by decide), up_ne 3 1 (by decide), up_ne 3 2 (by decide), up_ne 3 4 (by decide), up_ne 3 5 (by decide), up_ne 3 6 (by decide)]
  refine ⟨fun L a w2 hn hI => ?_, ?_⟩
  · obtain ⟨v1, v2, rfl, hI⟩ := hI
    have hup := getD_up hn.2.1
    have f5 := not_upA hn.2.2.2 (i := 5) (k := 4) (by decide +kernel) hn.2.1
    obtain ⟨RW, hRW⟩ : ∃ R, R = (bools (List.replicate 64 false)).toArray := ⟨_, rfl⟩
    have MK := make64 w2
    have BT := bits64 w2
    rw [← hRW] at MK BT
    rw [← HO0.out] at BT
    clear hRW
    refine st_val (v := .slice (some ⟨w2.heap.size, 0, none⟩) 64 64) (W1 := w2.alloc (.cells RW 4)) rfl (by unfold sgAct; simp only [gx_true]; go_simp) ?_
    refine ⟨.slice (some ⟨w2.heap.size, 0, none⟩) 64 64, v2, ?_, hI.one ((up_ne _ _ (by decide)).trans f5) BT (by (repeat' (first | (with_reducible exact Below.refl _ _) | (with_reducible refine Below.ext_mk ?_ ?_ _ _) | (with_reducible refine Below.alloc ?_ ?_ _) | (with_reducible refine Below.drew ?_) | (with_reducible refine Below.setCell ?_ ?_ _) | go_size)))⟩
    unfold sgAct
    simp only [Act.put, List.setIfInBounds_toArray, List.set_cons_zero, List.set_cons_succ, hup, gx_true, up_ne 4 0 (by decide), up_ne 4 1 (by decide), up_ne 4 2 (by decide), up_ne 4 3 (by decide), up_ne 4 5 (by decide), up_ne 4 6 (by decide)]
  refine ⟨fun L a w2 hn hI => ?_, ?_⟩
  · obtain ⟨v1, v2, rfl, hI⟩ := hI
    have hup := getD_up hn.2.1
    have d0 : L.getD 0 false = true := hn.2.2.1 0 (by decide +kernel)
    have d3 : L.getD 3 false = true := hn.2.2.1 3 (by decide +kernel)
    have d4 : L.getD 4 false = true := hn.2.2.1 4 (by decide +kernel)
    have f6 := not_upA hn.2.2.2 (i := 6) (k := 5) (by decide +kernel) hn.2.1
    have CC := HG.out w2 (BB.out.trans (hI.lo.mono BB.out.size)) v1 (hI.c d4)
    refine st_call (f := 106) (args := #[.pointer (some ⟨q, 0, none⟩), .int .i64 r, v1]) (W1 := w2) rfl (by unfold sgAct; simp only [gx_true, d0, d3, d4]; first | (go_simp; done) | (go_simp; exact ⟨rfl, rfl⟩) | (go_simp; with_reducible rfl)) (CC.mono ?_)
    rintro e' w3 ⟨x', rfl, hx, hb3⟩
    refine ⟨_, rfl, v1, x', ?_, hI.two d4 hx hb3⟩
    unfold sgAct
    simp only [Act.put, List.setIfInBounds_toArray, List.set_cons_zero, List.set_cons_succ, hup, gx_true, f6, gx_false, up_ne 5 0 (by decide), up_ne 5 1 (by decide), up_ne 5 2 (by decide), up_ne 5 3 (by decide), up_ne 5 4 (by decide), up_ne 5 6 (by decide)]
  refine ⟨fun L a w2 hn hI => ?_, ?_⟩
  · obtain ⟨v1, v2, rfl, hI⟩ := hI
    have hup := getD_up hn.2.1
    have d5 : L.getD 5 false = true := hn.2.2.1 5 (by decide +kernel)
    refine st_val (v := v2) (W1 := w2) rfl (by unfold sgAct; simp only [gx_true, d5]; go_simp) ?_
    refine ⟨v1, v2, ?_, hI.congr (up_ne _ _ (by decide)) (up_ne _ _ (by decide))⟩
    unfold sgAct
    simp only [Act.put, List.setIfInBounds_toArray, List.set_cons_zero, List.set_cons_succ, hup, gx_true, up_ne 6 0 (by decide), up_ne 6 1 (by decide), up_ne 6 2 (by decide), up_ne 6 3 (by decide), up_ne 6 4 (by decide), up_ne 6 5 (by decide)]
  trivial
end Go.Proofs.Ytboekafmplomhaa
set_option linter.unusedVariables false
set_option linter.unusedSimpArgs false
namespace Go.Proofs.Ytboekafmplomhaa
open Go.RowKit

inductive Hung (S : Sto) (v : Nat) : Int → Prop
  | here {i : Nat} {m : Nd} : S.nodes[i]? = some m → m.1.toNat = v → Hung S v ((i : Int) + 2)
  | lo {i : Nat} {m : Nd} : S.nodes[i]? = some m → Hung S v m.2.1 → Hung S v ((i : Int) + 2)
  | hi {i : Nat} {m : Nd} : S.nodes[i]? = some m → Hung S v m.2.2 → Hung S v ((i : Int) + 2)
section
variable {S : Sto}
theorem Hung.node {v : Nat} {i : Nat} {m : Nd} (hm : S.nodes[i]? = some m) : Hung S v ((i : Int) + 2) ↔ m.1.toNat = v ∨ Hung S v m.2.1 ∨ Hung S v m.2.2 := by
  constructor
  · intro h
    generalize ha : (i : Int) + 2 = a at h
    cases h with
    | here h1 h2 => rename_i i' m'; obtain rfl : i = i' := (by omega); rw [hm] at h1; cases h1; exact .inl h2
    | lo h1 h2 => rename_i i' m'; obtain rfl : i = i' := (by omega); rw [hm] at h1; cases h1; exact .inr (.inl h2)
    | hi h1 h2 => rename_i i' m'; obtain rfl : i = i' := (by omega); rw [hm] at h1; cases h1; exact .inr (.inr h2)
  · rintro (h | h | h)
    · exact .here hm h
    · exact .lo hm h
    · exact .hi hm h
theorem Hung.low {v : Nat} {a : Int} (h : Hung S v a) : ¬ a < 2 := by
  cases h <;> omega
theorem getD_set_bit (O : List Bool) (k v : Nat) (hk : k < O.length) : (O.set k true).getD v false = true ↔ O.getD v false = true ∨ k = v := by
  rw [List.getD_eq_getElem?_getD, List.getD_eq_getElem?_getD, List.getElem?_set]
  by_cases e : k = v
  · subst e; simp [hk]
  · simp [e]
theorem hangL_hung (hW : Wf S) (v : Nat) : ∀ (n : Nat) (O : List Bool) (a : Int), O.length = 64 → S.has a → 64 - topOf S a < n → ((hangL S n O a).getD v false = true ↔ O.getD v false = true ∨ Hung S v a) := by
  intro n
  induction n with
  | zero => intro O a _ ha hn; have := topOf_le hW ha; omega
  | succ n ih =>
    intro O a hl ha hn
    unfold hangL
    by_cases h2 : a < 2
    · rw [if_pos h2]
      exact ⟨.inl, fun h => h.elim id (fun h => absurd h2 h.low)⟩
    · obtain ⟨i, m, rfl, hm⟩ := has_node ha h2
      have ht := topOf_node hm
      have hok := hW.node i m hm
      have hc := hW.child hm
      have t1 := hok.tlo
      have t2 := hok.thi
      have v0 := hok.v0
      have v64 := hok.v64
      rw [if_neg h2, nodeOf_is hm]
      have l1 : (O.set m.1.toNat true).length = 64 := by rw [List.length_set]; exact hl
      rw [ih _ m.2.2 (by rw [hangL_length]; exact l1) hc.2 (by omega), ih _ m.2.1 l1 hc.1 (by omega), getD_set_bit O _ v (by omega), Hung.node hm]
      constructor
      · rintro (((h | h) | h) | h)
        · exact .inl h
        · exact .inr (.inl h)
        · exact .inr (.inr (.inl h))
        · exact .inr (.inr (.inr h))
      · rintro (h | h | h | h)
        · exact .inl (.inl (.inl h))
        · exact .inl (.inl (.inr h))
        · exact .inl (.inr h)
        · exact .inr h
def Seen (K : List (Int × Int)) (a : Int) : Prop := 0 < (aget K a).getD 0
def Done (S : Sto) (O : List Bool) (a : Int) : Prop := ∀ v, Hung S v a → O.getD v false = true
theorem Seen.put {K : List (Int × Int)} {a b : Int} (h : Seen (aput K a 1) b) : b = a ∨ Seen K b := by
  unfold Seen at h
  rw [aget_aput] at h
  by_cases e : a = b
  · exact .inl e.symm
  · rw [if_neg e] at h; exact .inr h
structure SupOk (S : Sto) (K : List (Int × Int)) (O : List Bool) (a : Int) (R : List (Int × Int) × List Bool) : Prop where
  seen : ∀ b, Seen R.1 b → Seen K b ∨ b ≤ a
  done : ∀ b, Seen R.1 b → b ≤ a → Done S R.2 b
  self : Done S R.2 a
  more : ∀ v, O.getD v false = true → R.2.getD v false = true
  only : ∀ v, R.2.getD v false = true → O.getD v false = true ∨ Hung S v a
  len : R.2.length = 64
theorem supN_hung (hW : Wf S) : ∀ (n : Nat) (K : List (Int × Int)) (O : List Bool) (a : Int), O.length = 64 → S.has a → a < n → (∀ b, Seen K b → b ≤ a → Done S O b) → SupOk S K O a (supN S n K O a) := by
  intro n
  induction n with
  | zero => intro K O a _ ha hn; have := ha.1; omega
  | succ n ih =>
    intro K O a hl ha hn hd
    unfold supN
    by_cases hs : (atV S a).2 = false ∨ 0 < (aget K a).getD 0
    · rw [if_pos hs]
      refine ⟨fun b h => .inl h, hd, ?_, fun v h => h, fun v h => .inl h, hl⟩
      rcases hs with h | h
      · intro v hv
        exfalso
        obtain ⟨i, m, rfl, hm⟩ := has_node ha hv.low
        unfold atV at h
        rw [right_has ha, if_neg hv.low] at h
        cases h
      · exact hd a h (Int.le_refl _)
    · rw [if_neg hs]
      have hat : (atV S a).2 = true := by cases h : (atV S a).2 with
        | true => rfl
        | false => exact absurd (.inl h) hs
      obtain ⟨i, m, rfl, hm, e, _⟩ := atV_yes hat
      rw [e]
      have hok := hW.node i m hm
      have hc := hW.child hm
      have v0 := hok.v0
      have v64 := hok.v64
      have c1 := hok.lo
      have c2 := hok.hi
      have l1 : (O.set m.1.toNat true).length = 64 := by rw [List.length_set]; exact hl
      have m1 : ∀ v, O.getD v false = true → (O.set m.1.toNat true).getD v false = true := fun v h => (getD_set_bit O _ v (by omega)).2 (.inl h)
      have I1 := ih (aput K ((i : Int) + 2) 1) (O.set m.1.toNat true) m.2.1 l1 hc.1 (by omega) (fun b hb hle v hv => by
        rcases hb.put with rfl | hb
        · omega
        · exact m1 v (hd b hb (by omega) v hv))
      generalize supN S n (aput K ((i : Int) + 2) 1) (O.set m.1.toNat true) m.2.1 = R1 at I1 ⊢
      have I2 := ih R1.1 R1.2 m.2.2 I1.len hc.2 (by omega) (fun b hb hle v hv => by
        by_cases hlo : b ≤ m.2.1
        · exact I1.done b hb hlo v hv
        · rcases I1.seen b hb with hb | hb
          · rcases hb.put with rfl | hb
            · omega
            · exact I1.more v (m1 v (hd b hb (by omega) v hv))
          · exact absurd hb hlo)
      show SupOk S K O ((i : Int) + 2) (supN S n R1.1 R1.2 m.2.2)
      generalize supN S n R1.1 R1.2 m.2.2 = R2 at I2 ⊢
      have self : Done S R2.2 ((i : Int) + 2) := fun v hv => by
        rcases (Hung.node hm).1 hv with h | h | h
        · exact I2.more v (I1.more v ((getD_set_bit O _ v (by omega)).2 (.inr h)))
        · exact I2.more v (I1.self v h)
        · exact I2.self v h
      refine ⟨fun b hb => ?_, fun b hb hle v hv => ?_, self, fun v h => I2.more v (I1.more v (m1 v h)), fun v h => ?_, I2.len⟩
      · rcases I2.seen b hb with hb | hb
        · rcases I1.seen b hb with hb | hb
          · rcases hb.put with rfl | hb
            · exact .inr (Int.le_refl _)
            · exact .inl hb
          · exact .inr (by omega)
        · exact .inr (by omega)
      · by_cases hhi : b ≤ m.2.2
        · exact I2.done b hb hhi v hv
        · rcases I2.seen b hb with hb | hb
          · by_cases hlo : b ≤ m.2.1
            · exact I2.more v (I1.done b hb hlo v hv)
            · rcases I1.seen b hb with hb | hb
              · rcases hb.put with rfl | hb
                · exact self v hv
                · exact I2.more v (I1.more v (m1 v (hd b hb hle v hv)))
              · exact absurd hb hlo
          · exact absurd hb hhi
      · rcases I2.only v h with h | h
        · rcases I1.only v h with h | h
          · rcases (getD_set_bit O _ v (by omega)).1 h with h | h
            · exact .inl h
            · exact .inr (.here hm h)
          · exact .inr (.lo hm h)
        · exact .inr (.hi hm h)
theorem onL_congr {O O' : List Bool} (h : ∀ v, O.getD v false = true ↔ O'.getD v false = true) : ∀ j, onL O j = onL O' j
  | 0 => rfl
  | j + 1 => by
    have e : O.getD j false = O'.getD j false := by rw [Bool.eq_iff_iff]; exact h j
    unfold onL
    rw [e, onL_congr h j]
/-- The document's Support tells what the program's Support tells. -/
theorem rsup_same (hW : Wf S) (x : Int) : rsupV S x = supportV S x := by
  unfold rsupV supportV
  cases S.full with
  | true => rfl
  | false =>
    simp only [Bool.false_eq_true, if_false]
    apply onL_congr
    intro v
    have hr := has_right (S := S) x
    have ht := topOf_ge hW hr
    have z : ¬ (List.replicate 64 false).getD v false = true := by
      rw [List.getD_eq_getElem?_getD, List.getElem?_replicate]
      split <;> simp
    rw [hangL_hung hW v 66 _ _ (by simp) hr (by omega)]
    by_cases hx : rightOf S x = x
    · rw [hx] at hr ⊢
      have I := supN_hung hW (S.nodes.length + 2) [] (List.replicate 64 false) x (by simp) hr (by have := hr.2; omega) (fun b hb => by unfold Seen at hb; simp [aget] at hb)
      exact ⟨fun h => h.elim (fun h => absurd h z) (I.self v), I.only v⟩
    · have h0 : rightOf S x = 0 := by
        unfold rightOf at hx ⊢
        split at hx
        · rename_i h; rw [if_pos h]
        · exact absurd rfl hx
      have e : (supN S (S.nodes.length + 2) [] (List.replicate 64 false) x).2 = List.replicate 64 false := by
        unfold supN
        rw [if_pos (.inl (by unfold atV; rw [h0, if_pos (by omega)]))]
      rw [e, h0]
      exact ⟨fun h => h.elim id (fun h => absurd (by omega) h.low), .inl⟩
end
end Go.Proofs.Ytboekafmplomhaa
