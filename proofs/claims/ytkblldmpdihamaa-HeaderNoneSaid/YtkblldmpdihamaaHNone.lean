/-
  HeaderNone answers true: the walk.
-/
import Derived.Test.YtkblldmpdihamaaHNo
set_option linter.unusedVariables false
set_option linter.unusedSimpArgs false
namespace Go.Proofs.Ytkblldmpdihamaa
open Go.RowKit

theorem few8 : Few [8] := ⟨fun x hx => by simp at hx; omega, by decide⟩
theorem headAt_few (s1 : SL) (h : Int) : Few (headAt [(s1, [8])] h).2 := by
  unfold headAt
  by_cases h0 : h < 0
  · rw [if_pos h0]; exact ⟨fun x hx => by simp at hx, by decide⟩
  · rw [if_neg h0]
    cases hn : h.toNat with
    | zero => exact few8
    | succ k => exact ⟨fun x hx => by simp at hx, by simp⟩
abbrev kZero : PK := ⟨0, ⟨none, 0, 0⟩, ⟨none, 0, 0⟩, ⟨none, 0, 0⟩, ⟨none, 0, 0⟩, false, false, 0, false⟩
theorem hasB_zero (h : Int) : hasB kZero h = false := by
  unfold hasB
  by_cases h0 : 0 ≤ h
  · have : ¬ h < 0 := by omega
    simp [this]
  · simp [h0]
set_option maxRecDepth 100000 in
set_option maxHeartbeats 8000000 in
theorem headerNone_any (h f : Int) (n : BitVec 128) (w : World) : Calls Try.prog 6 #[.int .i64 h, .int .i64 f, nv n] w (Pure (.bool true) w) := by
  go_enter Try.func6, Try.ntmps6
  go_upto_region 3 with (fail)
  refine wp_gen (fun V hV => ?_)
  have hbV : Below w.heap.size w V := by rw [hV]; (repeat' (first | (with_reducible exact Below.refl _ _) | (with_reducible refine Below.ext_mk ?_ ?_ _ _) | (with_reducible refine Below.alloc ?_ ?_ _) | (with_reducible refine Below.drew ?_) | (with_reducible refine Below.setCell ?_ ?_ _) | go_size))
  have c0 : Blk V w.heap.size 45 [.int .u64 (hi n), .int .u64 (lo n)] := by
    rw [hV]; exact (Blk.new w 45 [.int .u64 (hi n), .int .u64 (lo n)]).below (by repeat (first | exact Below.refl _ _ | refine Below.alloc ?_ (by simp; try omega) _))
  have c1 : Blk V (w.heap.size + 1) 3 (ints [8]) := by
    have h := Blk.new (w.alloc (.cells #[.int .u64 (hi n), .int .u64 (lo n)] 45)) 3 (ints [8])
    simp only [World.size_alloc] at h
    rw [hV]; exact h.below (by repeat (first | exact Below.refl _ _ | refine Below.alloc ?_ (by simp; try omega) _))
  have c2 : Blk V (w.heap.size + 1 + 1) 23 [.slice (some ⟨w.heap.size + 1, 0, none⟩) 1 1] := by
    have h := Blk.new ((w.alloc (.cells #[.int .u64 (hi n), .int .u64 (lo n)] 45)).alloc (.cells #[.int .i64 8] 3)) 23 [.slice (some ⟨w.heap.size + 1, 0, none⟩) 1 1]
    simp only [World.size_alloc] at h
    rw [hV]; exact h.below (by repeat (first | exact Below.refl _ _ | refine Below.alloc ?_ (by simp; try omega) _))
  have c3 : Blk V (w.heap.size + 1 + 1 + 1) 33 [.slice (some ⟨w.heap.size + 1 + 1, 0, none⟩) 1 1, nilV, nilV, nilV, nilV, nilV, nilV, nilV, nilV, nilV, nilV, nilV] := by
    have h := Blk.new (((w.alloc (.cells #[.int .u64 (hi n), .int .u64 (lo n)] 45)).alloc (.cells #[.int .i64 8] 3)).alloc (.cells #[.slice (some ⟨w.heap.size + 1, 0, none⟩) 1 1] 23)) 33 [.slice (some ⟨w.heap.size + 1 + 1, 0, none⟩) 1 1, nilV, nilV, nilV, nilV, nilV, nilV, nilV, nilV, nilV, nilV, nilV]
    simp only [World.size_alloc] at h
    rw [hV]; exact h.below (by repeat (first | exact Below.refl _ _ | refine Below.alloc ?_ (by simp; try omega) _))
  have c4 : Blk V (w.heap.size + 1 + 1 + 1 + 1) 39 kZero.cs := by
    rw [hV]
    have h := Blk.new ((((w.alloc (.cells #[.int .u64 (hi n), .int .u64 (lo n)] 45)).alloc (.cells #[.int .i64 8] 3)).alloc (.cells #[.slice (some ⟨w.heap.size + 1, 0, none⟩) 1 1] 23)).alloc (.cells [.slice (some ⟨w.heap.size + 1 + 1, 0, none⟩) 1 1, nilV, nilV, nilV, nilV, nilV, nilV, nilV, nilV, nilV, nilV, nilV].toArray 33)) 39 kZero.cs
    simp only [World.size_alloc] at h
    exact h
  clear hV
  obtain ⟨p, hp⟩ : ∃ p : PG, p = ⟨⟨some ⟨w.heap.size + 1 + 1, 0, none⟩, 1, 1⟩, ⟨none, 0, 0⟩, ⟨none, 0, 0⟩, ⟨none, 0, 0⟩, ⟨none, 0, 0⟩, ⟨none, 0, 0⟩, ⟨none, 0, 0⟩, ⟨none, 0, 0⟩, ⟨none, 0, 0⟩, ⟨none, 0, 0⟩, ⟨none, 0, 0⟩, ⟨none, 0, 0⟩⟩ := ⟨_, rfl⟩
  have HD : HeadsAre V p.heads [(⟨some ⟨w.heap.size + 1, 0, none⟩, 1, 1⟩, [8])] := by
    rw [hp]; exact ⟨Blk.rdS c2 rfl (by omega), fun x hx => by simp at hx; subst hx; exact Blk.rdS c1 rfl (by omega)⟩
  have EI : EmitIn V p kZero [(⟨some ⟨w.heap.size + 1, 0, none⟩, 1, 1⟩, [8])] [] [] [] [] :=
    ⟨HD, by rw [hp]; exact rdNil, rdNil, ⟨rdNil, fun x hx => by simp at hx⟩, rdNil, fun x hx y hy => by simp at hx; subst hx; simp at hy; omega, fun x hx => by simp at hx; subst hx; exact (show ([8] : List Int).sum ≤ 1000 by decide), by decide, by decide⟩
  have FI : FitIn V p kZero [(⟨some ⟨w.heap.size + 1, 0, none⟩, 1, 1⟩, [8])] [] [] [] [] :=
    ⟨HD, by rw [hp]; exact rdNil, rdNil, ⟨rdNil, fun x hx => by simp at hx⟩, rdNil, fun x hx y hy => by simp at hx; subst hx; simp at hy; omega, fun y hy => by simp at hy⟩
  have hpv : p.v = .agg #[.slice (some ⟨w.heap.size + 1 + 1, 0, none⟩) 1 1, nilV, nilV, nilV, nilV, nilV, nilV, nilV, nilV, nilV, nilV, nilV] := by rw [hp]
  have cP : Blk V (w.heap.size + 1 + 1 + 1) 33 [p.heads.v, p.metas.v, p.steps.v, p.acts.v, p.tabs.v, p.control.v, p.emit.v, p.n0.v, p.n1.v, p.n2.v, p.n3.v, p.n4.v] := by rw [hp]; exact c3
  clear hp hpv
  obtain ⟨w4, hw4⟩ : ∃ x, x = w.heap.size + 1 + 1 + 1 + 1 := ⟨_, rfl⟩
  obtain ⟨w3, hw3⟩ : ∃ x, x = w.heap.size + 1 + 1 + 1 := ⟨_, rfl⟩
  rw [← hw4] at c4 ⊢
  rw [← hw3] at cP ⊢
  have HW := hid hw4
  have HW3 := hid hw3
  clear hw4 hw3 c1 c2 c3
  have z3 := cP.lt
  have z4 := c4.lt
  have z0 := c0.lt
  have GN : ∀ (W : World) (q : Option Addr) (hb : Bool) (h f : Int), (∀ W', Below W.heap.size W W' → Calls Try.prog 33 #[.pointer q, .int .i64 h] W' (Pure (.bool hb) W')) → hb = false →
      Calls Try.prog 17 #[.pointer q, .int .i64 h, .int .i64 f] W (Pure (.agg #[.int .u64 0, .int .u64 0]) W) := fun W q hb h f HA hno => by
    have := get_no (q := q) (hb := hb) (w := W) h f HA hno
    rwa [nv_zero] at this
  have GH := hid GN
  clear GN
  go_wp2_with fail
  have bS : Blk (V.alloc (.cells #[.pointer none, .pointer (some ⟨w4, 0, none⟩)] 48)) V.heap.size 48 [.pointer none, .pointer (some ⟨w4, 0, none⟩)] := Blk.new V _ _
  obtain ⟨V1, hV1⟩ : ∃ V1, V1 = V.alloc (.cells #[.pointer none, .pointer (some ⟨w4, 0, none⟩)] 48) := ⟨_, rfl⟩
  have hb1 : Below V.heap.size V V1 := by rw [hV1]; (repeat' (first | (with_reducible exact Below.refl _ _) | (with_reducible refine Below.ext_mk ?_ ?_ _ _) | (with_reducible refine Below.alloc ?_ ?_ _) | (with_reducible refine Below.drew ?_) | (with_reducible refine Below.setCell ?_ ?_ _) | go_size))
  have hz1 : V.heap.size < V1.heap.size := by rw [hV1]; simp
  rw [← hV1] at bS ⊢
  clear hV1
  have BS := hid bS
  have CP := hid cP
  have C4 := hid c4
  have C0 := hid c0
  clear bS cP c4 c0
  go_loopw [16] (fun i wr => ∃ j : Nat, j ≤ 2 ∧ i = .int .i64 j ∧ Below V1.heap.size V1 wr) (fun i _ => 2 - (intOf i).toNat)
  case atStart => exact ⟨0, by omega, rfl, Below.refl _ _⟩
  case round =>
    obtain ⟨j, hj, rfl, hb⟩ := hrel
    have hbr : Below V.heap.size V wr := hb1.trans (hb.mono hb1.size)
    by_cases hlt : j < 2
    · have hj1 : (j : Int) < 2 := by omega
      obtain ⟨q, hq, HA⟩ : ∃ q, wr.cell? ⟨V.heap.size, j, none⟩ = some (.pointer q) ∧ ∀ W, Below V.heap.size V W → Calls Try.prog 33 #[.pointer q, .int .i64 h] W (Pure (.bool false) W) := by
        have hc := (BS.out.below hb).cell j
        rcases (show j = 0 ∨ j = 1 by omega) with rfl | rfl
        · exact ⟨none, hc, fun W _ => has_nil h W⟩
        · refine ⟨some ⟨w4, 0, none⟩, hc, fun W hW => ?_⟩
          have := has_any (C4.out.below hW) h
          rwa [hasB_zero] at this
      have zs := hb.size
      have HH := hid HA
      clear HA
      go_upto_region 6 with (fail)
      refine wp_region_doc (fun F' hF => ?_)
      have HF := hid hF
      clear hF
      refine doc_val rfl (load_agg_op _ _ _ _ _ _ _ _ Try.underlying33 (prog_size _ rfl) rfl (CP.out.below hbr)) ?_
      simp only [Act.put, List.setIfInBounds_toArray, List.set_cons_zero, List.set_cons_succ]
      repeat (refine doc_val rfl (by first | (go_simp; done) | (go_simp; exact ⟨rfl, rfl⟩) | (go_simp; with_reducible rfl)) ?_; simp only [Act.put, List.setIfInBounds_toArray, List.set_cons_zero, List.set_cons_succ])
      refine doc_val rfl (load_agg_op _ _ _ _ _ _ _ _ Try.underlying45 (hnum_size _ _) rfl (C0.out.below hbr)) ?_
      simp only [Act.put, List.setIfInBounds_toArray, List.set_cons_zero, List.set_cons_succ]
      refine doc_call (f := 15) (args := #[p.v, .pointer q, .int .i64 h, .int .i64 f, nv n]) rfl (by first | (go_simp; done) | (go_simp; exact ⟨rfl, rfl⟩) | (go_simp; with_reducible rfl)) ((set_no h f n (fun W hW => HH.out W (hbr.trans (hW.mono hbr.size))) rfl).mono ?_)
      rintro e w' ⟨rfl, m1, d1, rfl⟩
      refine ⟨_, rfl, ?_⟩
      simp only [Act.put, List.setIfInBounds_toArray, List.set_cons_zero, List.set_cons_succ]
      refine doc_end (HF.out _ _ ?_)
      clear HF F'
      have hb2 : Below V.heap.size V (wr.ext m1 d1) := hbr.trans (Below.ext_mk (Below.refl _ _) (Nat.le_refl _) m1 d1 |>.mono hbr.size)
      go_upto_region 8 with (go_at_call 24; refine (valid_no h true (fun W hW => HH.out W (hb2.trans (hW.mono hb2.size))) rfl).mono ?_; rintro e w' ⟨rfl, m2, d2, rfl⟩)
      have hb3 : Below V.heap.size V (wr.ext (m1 ++ m2) d2) := hbr.trans (Below.ext_mk (Below.refl _ _) (Nat.le_refl _) _ _ |>.mono hbr.size)
      refine wp_region_doc (fun F' hF => ?_)
      have HF := hid hF
      clear hF
      refine doc_val rfl (load_agg_op _ _ _ _ _ _ _ _ Try.underlying33 (prog_size _ rfl) rfl (CP.out.below hb3)) ?_
      simp only [Act.put, List.setIfInBounds_toArray, List.set_cons_zero, List.set_cons_succ]
      repeat (refine doc_val rfl (by first | (go_simp; done) | (go_simp; exact ⟨rfl, rfl⟩) | (go_simp; with_reducible rfl)) ?_; simp only [Act.put, List.setIfInBounds_toArray, List.set_cons_zero, List.set_cons_succ])
      refine doc_call (f := 12) (args := #[p.v, .pointer q, .int .i64 h]) rfl (by first | (go_simp; done) | (go_simp; exact ⟨rfl, rfl⟩) | (go_simp; with_reducible rfl)) ((take_no (HD.below hb3) h (headAt_few _ h) (fun W hW => HH.out W (hb3.trans (hW.mono hb3.size))) rfl).mono ?_)
      rintro e w' ⟨rfl, m4, d4, rfl⟩
      refine ⟨_, rfl, ?_⟩
      simp only [Act.put, List.setIfInBounds_toArray, List.set_cons_zero, List.set_cons_succ]
      have hb4 : Below V.heap.size V ((wr.ext (m1 ++ m2) d2).ext m4 d4) := hb3.trans (Below.ext_mk (Below.refl _ _) (Nat.le_refl _) _ _ |>.mono hb3.size)
      repeat (refine doc_val rfl (by first | (go_simp; done) | (go_simp; exact ⟨rfl, rfl⟩) | (go_simp; with_reducible rfl)) ?_; simp only [Act.put, List.setIfInBounds_toArray, List.set_cons_zero, List.set_cons_succ])
      refine doc_call (f := 17) (args := #[.pointer q, .int .i64 h, .int .i64 f]) rfl (by first | (go_simp; done) | (go_simp; exact ⟨rfl, rfl⟩) | (go_simp; with_reducible rfl)) ((GH.out _ q false h f (fun W hW => HH.out W (hb4.trans (hW.mono hb4.size))) rfl).mono ?_)
      rintro e w' ⟨rfl, m5, d5, rfl⟩
      refine ⟨_, rfl, ?_⟩
      simp only [Act.put, List.setIfInBounds_toArray, List.set_cons_zero, List.set_cons_succ]
      repeat (refine doc_val rfl (by first | (go_simp; done) | (go_simp; exact ⟨rfl, rfl⟩) | (go_simp; with_reducible rfl)) ?_; simp only [Act.put, List.setIfInBounds_toArray, List.set_cons_zero, List.set_cons_succ])
      refine doc_end (HF.out _ _ ?_)
      clear HF F'
      go_wp2_with fail
      go_roundw
      case rel => exact ⟨j + 1, hlt, by go_num, by (repeat' (first | (with_reducible exact Below.refl _ _) | (with_reducible refine Below.ext_mk ?_ ?_ _ _) | (with_reducible refine Below.alloc ?_ ?_ _) | (with_reducible refine Below.drew ?_) | (with_reducible refine Below.setCell ?_ ?_ _) | go_size))⟩
      case measure => simp [intOf]; omega
    · obtain rfl : j = 2 := by omega
      go_upto_region 11 with (fail)
      refine wp_region_doc (fun F' hF => ?_)
      have HF := hid hF
      clear hF
      refine doc_val rfl (load_agg_op _ _ _ _ _ _ _ _ Try.underlying33 (prog_size _ rfl) rfl (CP.out.below hbr)) ?_
      simp only [Act.put, List.setIfInBounds_toArray, List.set_cons_zero, List.set_cons_succ]
      refine doc_val rfl (load_agg_op _ _ _ _ _ _ _ _ Try.underlying39 (pk_size _ rfl) rfl (C4.out.below hbr)) ?_
      simp only [Act.put, List.setIfInBounds_toArray, List.set_cons_zero, List.set_cons_succ]
      refine doc_call (f := 13) (args := #[p.v, kZero.v]) rfl (by first | (go_simp; done) | (go_simp; exact ⟨rfl, rfl⟩) | (go_simp; with_reducible rfl)) ((emit_any (EI.below hbr)).mono ?_)
      rintro e wa ⟨r, rfl, hr, hba⟩
      refine ⟨_, rfl, ?_⟩
      simp only [Act.put, List.setIfInBounds_toArray, List.set_cons_zero, List.set_cons_succ]
      have hr0 : r.n = 0 := by
        have h3 : ([] : List Value).length = r.n * 1 := hr.2.2.1
        simp at h3; exact h3.symm
      obtain ⟨ra, rn, rc⟩ := r
      simp only at hr0
      subst hr0
      have hbA : Below V.heap.size V wa := hbr.trans (hba.mono hbr.size)
      repeat (refine doc_val rfl (by first | (go_simp; done) | (go_simp; exact ⟨rfl, rfl⟩) | (go_simp; with_reducible rfl)) ?_; simp only [Act.put, List.setIfInBounds_toArray, List.set_cons_zero, List.set_cons_succ])
      refine doc_val rfl (load_agg_op _ _ _ _ _ _ _ _ Try.underlying33 (prog_size _ rfl) rfl (CP.out.below hbA)) ?_
      simp only [Act.put, List.setIfInBounds_toArray, List.set_cons_zero, List.set_cons_succ]
      refine doc_val rfl (load_agg_op _ _ _ _ _ _ _ _ Try.underlying39 (pk_size _ rfl) rfl (C4.out.below hbA)) ?_
      simp only [Act.put, List.setIfInBounds_toArray, List.set_cons_zero, List.set_cons_succ]
      refine doc_call (f := 9) (args := #[p.v, kZero.v]) rfl (by first | (go_simp; done) | (go_simp; exact ⟨rfl, rfl⟩) | (go_simp; with_reducible rfl)) ((hfits_any (FI.below hbA)).mono ?_)
      rintro e wc ⟨he, m6, d6, rfl⟩
      have he' : e = .returned (.bool false) := he
      subst he'
      refine ⟨_, rfl, ?_⟩
      simp only [Act.put, List.setIfInBounds_toArray, List.set_cons_zero, List.set_cons_succ]
      repeat (refine doc_val rfl (by first | (go_simp; done) | (go_simp; exact ⟨rfl, rfl⟩) | (go_simp; with_reducible rfl)) ?_; simp only [Act.put, List.setIfInBounds_toArray, List.set_cons_zero, List.set_cons_succ])
      refine doc_call rfl (by first | (go_simp; done) | (go_simp; exact ⟨rfl, rfl⟩) | (go_simp; with_reducible rfl)) ((known19 _).mono ?_)
      rintro e wd ⟨rfl, m7, d7, rfl⟩
      refine ⟨_, rfl, ?_⟩
      simp only [Act.put, List.setIfInBounds_toArray, List.set_cons_zero, List.set_cons_succ]
      repeat (refine doc_val rfl (by first | (go_simp; done) | (go_simp; exact ⟨rfl, rfl⟩) | (go_simp; with_reducible rfl)) ?_; simp only [Act.put, List.setIfInBounds_toArray, List.set_cons_zero, List.set_cons_succ])
      refine doc_end (HF.out _ _ ?_)
      clear HF F'
      have hbE : Below w.heap.size w ((wa.ext m6 d6).ext m7 d7) := by
        have h1 := hbV.trans (hbA.mono hbV.size)
        exact Below.ext_mk (Below.ext_mk h1 h1.size _ _) (by have := h1.size; simp; omega) _ _
      go_wp2
      go_returns
      rw [World.ext_ext] at hbE
      exact Pure.of rfl hbE
end Go.Proofs.Ytkblldmpdihamaa
