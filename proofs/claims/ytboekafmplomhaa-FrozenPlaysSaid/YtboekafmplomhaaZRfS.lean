/-
  The document's parts: the walk. (Its failing ends are printed by a program.)
-/
import Derived.Test.YtboekafmplomhaaZRfR
set_option linter.unusedVariables false
set_option linter.unusedSimpArgs false
namespace Go.Proofs.Ytboekafmplomhaa
open Go.RowKit

set_option maxRecDepth 100000 in
set_option maxHeartbeats 16000000 in
theorem parts_any {w : World} {sv : Value} {l : List Nat} (h : Rd w 1 sv (byts l)) (hl : ∀ y ∈ l, y < 256) (h3 : 3 ≤ l.length) (hk : l.length ≤ 8388608) :
    Calls Try.prog 131 #[sv] w (PartsPost w.heap.size w (rparts (l.drop 3))) := by
  obtain ⟨la, lc, rfl, hlc, hlm⟩ := h.lenB
  obtain ⟨R, hR⟩ : ∃ R, R = rparts (l.drop 3) := ⟨_, rfl⟩
  rw [← hR]
  have HR := hid hR
  have H := hid h
  have TK := hid (fun W (hb : Below w.heap.size w W) (p : Nat) (hp : p ≤ 9000000) => take_any (h.below hb) hl p hp (by omega))
  have HL := hid hl
  clear h hl hR
  have bR0 : Blk (w.alloc (.cells #[.slice none 0 0, .slice none 0 0, .slice none 0 0] 153)) w.heap.size 153 [.slice none 0 0, .slice none 0 0, .slice none 0 0] := Blk.new w _ [.slice none 0 0, .slice none 0 0, .slice none 0 0]
  obtain ⟨w1, hw1⟩ : ∃ w1, w1 = w.alloc (.cells #[.slice none 0 0, .slice none 0 0, .slice none 0 0] 153) := ⟨_, rfl⟩
  have hb1 : Below w.heap.size w w1 := by rw [hw1]; (repeat' (first | (with_reducible exact Below.refl _ _) | (with_reducible refine Below.ext_mk ?_ ?_ _ _) | (with_reducible refine Below.alloc ?_ ?_ _) | (with_reducible refine Below.drew ?_) | (with_reducible refine Below.setCell ?_ ?_ _) | go_size))
  rw [← hw1] at bR0
  have hs1 : w1.heap.size = w.heap.size + 1 := by rw [hw1]; simp
  obtain ⟨rb, hrb⟩ : ∃ b, b = w.heap.size := ⟨_, rfl⟩
  rw [← hrb] at bR0
  obtain ⟨w2, hw2⟩ : ∃ w2, w2 = w1.alloc (.cells #[.slice none 0 0, .slice none 0 0, .slice none 0 0] 153) := ⟨_, rfl⟩
  have bF0 : Blk w2 w1.heap.size 153 [.slice none 0 0, .slice none 0 0, .slice none 0 0] := by rw [hw2]; exact Blk.new w1 _ [.slice none 0 0, .slice none 0 0, .slice none 0 0]
  have hb2 : Below w.heap.size w w2 := by rw [hw2]; exact hb1.alloc hb1.size _
  have bR2 : Blk w2 rb 153 [.slice none 0 0, .slice none 0 0, .slice none 0 0] := bR0.below (by rw [hw2]; (repeat' (first | (with_reducible exact Below.refl _ _) | (with_reducible refine Below.ext_mk ?_ ?_ _ _) | (with_reducible refine Below.alloc ?_ ?_ _) | (with_reducible refine Below.drew ?_) | (with_reducible refine Below.setCell ?_ ?_ _) | go_size)))
  obtain ⟨fb, hfb⟩ : ∃ b, b = w1.heap.size := ⟨_, rfl⟩
  rw [← hfb] at bF0
  have hfr : fb ≠ rb := by omega
  have hfw : w.heap.size ≤ fb := by omega
  have hrw : w.heap.size ≤ rb := by omega
  have HB2 := hid hb2
  clear hb2
  go_enter Try.func131, Try.ntmps131
  go_upto_region 1 with (fail)
  rw [← hw1, ← hrb]
  clear hw1 hrb hs1
  refine wp_region_doc (fun F' hF => ?_)
  have HF := hid hF
  clear hF
  iterate 2 (refine doc_val rfl (by first | (go_simp; done) | (go_simp; exact ⟨rfl, rfl⟩) | (go_simp; with_reducible rfl)) ?_; simp only [Act.put, List.setIfInBounds_toArray, List.set_cons_zero, List.set_cons_succ])
  rw [← hw2, ← hfb]
  clear hw2 hfb
  refine doc_skip rfl (store_row_op (xs := [.slice none 0 0, .slice none 0 0, .slice none 0 0]) (ys := [.slice none 0 0, .slice none 0 0, .slice none 0 0]) _ _ _ _ _ _ _ _ _ (fr_size _ _ _) rfl rfl rfl rfl bF0) ?_
  simp only [Act.put, List.setIfInBounds_toArray, List.set_cons_zero, List.set_cons_succ]
  refine doc_end (HF.out _ _ ?_)
  clear HF F'
  obtain ⟨w3, hw3⟩ : ∃ w3, w3 = w2.setRow fb [.slice none 0 0, .slice none 0 0, .slice none 0 0].toArray := ⟨_, rfl⟩
  rw [← hw3]
  have hnil : ∀ (e : TypeId) (W : World) (size : Nat), RowIs W (.slice none 0 0) none e size 0 [] := fun e W size => ⟨by simp, .inl ⟨rfl, rfl, rfl⟩⟩
  have PW0 : PartsW w.heap.size fb rb w3 none 0 none 0 none 0 [] [] [] none none none :=
    { bF := by rw [hw3]; exact bF0.row _
      bR := bR2.keep (by rw [hw3]; exact heap_setRow_ne _ hfr)
      r1 := hnil _ _ _, r2 := hnil _ _ _, r3 := hnil _ _ _
      g1 := fun g hg => (by cases hg), g2 := fun g hg => (by cases hg), g3 := fun g hg => (by cases hg), g23 := fun g hg => (by cases hg) }
  have hb3 : Below w.heap.size w w3 := by rw [hw3]; exact Below.setRow HB2.out hfw _
  clear hw3 bF0 bR2 hnil HB2 hb1 bR0
  have TK3 := TK.out w3 hb3 3 (by omega)
  rw [show ((3 : Nat) : Int) = 3 from rfl] at TK3
  have TK3 := hid TK3
  have hlm2 : l.length ≤ 9000000 := by omega
  obtain ⟨T, hT⟩ : ∃ T, T = takeV l 3 := ⟨_, rfl⟩
  rw [← hT] at TK3
  have HT := hid hT
  clear hT
  obtain ⟨x0, y0⟩ := T
  go_upto_region 3 with ((with_reducible refine (TK3.out).mono ?_); rintro e w4 ⟨rfl, m1, d1, rfl⟩)
  obtain ⟨w4, hw4⟩ : ∃ w4, w4 = w3.ext m1 d1 := ⟨_, rfl⟩
  have hb4' : Below w3.heap.size w3 w4 := by rw [hw4]; (repeat' (first | (with_reducible exact Below.refl _ _) | (with_reducible refine Below.ext_mk ?_ ?_ _ _) | (with_reducible refine Below.alloc ?_ ?_ _) | (with_reducible refine Below.drew ?_) | (with_reducible refine Below.setCell ?_ ?_ _) | go_size))
  rw [← hw4]
  have PW := hid (PW0.below hb4')
  have HB := hid (hb3.trans (hb4'.mono hb3.size))
  clear hw4 hb4' hb3 PW0 TK3
  have hRR : R = match numU 4 0 0 (l.drop 3) with | none => none | some (m, l1) => if 8388608 ≤ m then none else rparts1 m [] l1 := HR.out
  cases hT3 : numU 4 0 0 (l.drop 3) with
  | none =>
    have e := HT.out
    rw [takeV_none hT3] at e
    cases e
    rw [hT3] at hRR
    have HRn : Hid (R = none) := hid hRR
    clear hT3 hRR
    go_upto_region 4 with (fail)
    refine wp_region_doc (fun Fz hF => ?_)
    have HF := hid hF
    clear hF
    refine doc_val rfl (load_struct_op _ _ _ _ _ _ _ _ Try.underlying153 (fr_size _ _ _) rfl PW.out.bF) ?_
    simp only [Act.put, List.setIfInBounds_toArray, List.set_cons_zero, List.set_cons_succ]
    refine doc_skip rfl (store_row_op (xs := [.slice none 0 0, .slice none 0 0, .slice none 0 0]) (ys := [.slice none 0 0, .slice none 0 0, .slice none 0 0]) _ _ _ _ _ _ _ _ _ (fr_size _ _ _) rfl rfl rfl rfl PW.out.bR) ?_
    simp only [Act.put, List.setIfInBounds_toArray, List.set_cons_zero, List.set_cons_succ]
    refine doc_val rfl (by first | (go_simp; done) | (go_simp; exact ⟨rfl, rfl⟩) | (go_simp; with_reducible rfl)) ?_
    simp only [Act.put, List.setIfInBounds_toArray, List.set_cons_zero, List.set_cons_succ]
    refine doc_end (HF.out _ _ ?_)
    clear HF Fz
    obtain ⟨f1, f2, -, -⟩ := PW.out.fin hfr HB.out hrw
    refine ‹∀ (a : Act) (w : World), Code.wp Try.prog Code.ret _ a w → _› _ _ ?_
    refine wp_ret ?_
    exact bodyPost_ret (fr_result2 rfl rfl f2) rfl ⟨_, _, _, _, _, _, _, _, _, _, rfl, f1, by rw [HRn.out]; rfl, fun P h => by rw [HRn.out] at h; cases h⟩
  | some z =>
    obtain ⟨m, l1⟩ := z
    obtain ⟨q0, e0, hq1, hq2, hq3⟩ := numU_drop hT3 (by omega)
    have e := HT.out
    rw [e0] at e
    cases e
    rw [hT3] at hRR
    simp only at hRR
    clear hT3 e0
    by_cases hm : 8388608 ≤ m
    · rw [if_pos hm] at hRR
      have HRn : Hid (R = none) := hid hRR
      have hm1 : ¬ (m : Int) < 0 := by omega
      have hm2 : (8388608 : Int) ≤ (m : Int) := by omega
      clear hRR
      go_upto_region 4 with (fail)
      refine wp_region_doc (fun Fz hF => ?_)
      have HF := hid hF
      clear hF
      refine doc_val rfl (load_struct_op _ _ _ _ _ _ _ _ Try.underlying153 (fr_size _ _ _) rfl PW.out.bF) ?_
      simp only [Act.put, List.setIfInBounds_toArray, List.set_cons_zero, List.set_cons_succ]
      refine doc_skip rfl (store_row_op (xs := [.slice none 0 0, .slice none 0 0, .slice none 0 0]) (ys := [.slice none 0 0, .slice none 0 0, .slice none 0 0]) _ _ _ _ _ _ _ _ _ (fr_size _ _ _) rfl rfl rfl rfl PW.out.bR) ?_
      simp only [Act.put, List.setIfInBounds_toArray, List.set_cons_zero, List.set_cons_succ]
      refine doc_val rfl (by first | (go_simp; done) | (go_simp; exact ⟨rfl, rfl⟩) | (go_simp; with_reducible rfl)) ?_
      simp only [Act.put, List.setIfInBounds_toArray, List.set_cons_zero, List.set_cons_succ]
      refine doc_end (HF.out _ _ ?_)
      clear HF Fz
      obtain ⟨f1, f2, -, -⟩ := PW.out.fin hfr HB.out hrw
      refine ‹∀ (a : Act) (w : World), Code.wp Try.prog Code.ret _ a w → _› _ _ ?_
      refine wp_ret ?_
      exact bodyPost_ret (fr_result2 rfl rfl f2) rfl ⟨_, _, _, _, _, _, _, _, _, _, rfl, f1, by rw [HRn.out]; rfl, fun P h => by rw [HRn.out] at h; cases h⟩
    · rw [if_neg hm, hq3] at hRR
      have hm1 : ¬ (m : Int) < 0 := by omega
      have hm2 : ¬ (8388608 : Int) ≤ (m : Int) := by omega
      have HR1 := hid hRR
      clear hRR hq3
      go_wp2_with fail
      go_loopw [6, 7] (fun pv iv wr => ∃ (p : Nat) (a1 : Option Addr) (c1 : Nat) (a2 : Option Addr) (c2 : Nat) (ns : List Nd) (old : List Int) (G1 G2 : Option Nat), pv = .int .i64 p ∧ iv = .int .i64 (ns.length : Nat) ∧ p ≤ l.length ∧ ns.length ≤ m ∧ old.length = ns.length ∧ InOk ns ∧ R = rparts1 (m - ns.length) ns (l.drop p) ∧ PartsW w.heap.size fb rb wr a1 c1 a2 c2 none 0 ns old [] G1 G2 none ∧ Below w.heap.size w wr) (fun _ iv _ => m - (intOf iv).toNat)
      case atStart => exact ⟨q0, _, _, _, _, [], [], _, _, rfl, rfl, by omega, by simp, rfl, inOk_nil, HR1.out, PW.out, HB.out⟩
      case round =>
        clear PW HB HR1
        obtain ⟨p, a1, c1, a2, c2, ns, old, G1, G2, rfl, rfl, hp, hnm, hol, hin, hRR, hPW, hB⟩ := hrel
        obtain ⟨k, hk0⟩ : ∃ k, k = ns.length := ⟨_, rfl⟩
        obtain ⟨ko, hko⟩ : ∃ k, k = old.length := ⟨_, rfl⟩
        have hk9 : k ≤ 8388608 := by omega
        have hko9 : old.length ≤ 8388608 := by omega
        have hns9 : ns.length ≤ 8388608 := by omega
        have PW := hid hPW
        have HB := hid hB
        have HIN := hid hin
        have HOL := hid hol
        by_cases hlt : ns.length < m
        · have hlt1 : (ns.length : Int) < (m : Int) := by omega
          obtain ⟨j, hj⟩ : ∃ j, m - ns.length = j + 1 := ⟨m - ns.length - 1, by omega⟩
          rw [hj] at hRR
          by_cases hpl : p < l.length
          · obtain ⟨b, off, rfl, hb0, cx⟩ := Rd.byteAt (H.out.below hB) hpl
            have hv := HL.out l[p] (List.getElem_mem _)
            rw [List.drop_eq_getElem_cons hpl, rparts1_more] at hRR
            generalize l[p] = v at *
            have hpl1 : ¬ (l.length : Int) ≤ (p : Int) := by omega
            have hpl2 : (p : Int) < (l.length : Int) := by omega
            have wv : IntKind.i64.wrap (v : Int) = (v : Int) := IntWalk.i64_in _ (by omega)
            have wp1 : IntKind.i64.wrap ((p : Int) + 1) = ((p + 1 : Nat) : Int) := by rw [IntWalk.i64_in _ (by omega)]; simp
            have HRR := hid hRR
            clear hRR hPW hB hin hol hk0 hko
            go_upto_region 11 with (fail)
            refine wp_gen (fun X hX => ?_)
            have hbX : Below wr.heap.size wr X := by rw [hX]; (repeat' (first | (with_reducible exact Below.refl _ _) | (with_reducible refine Below.ext_mk ?_ ?_ _ _) | (with_reducible refine Below.alloc ?_ ?_ _) | (with_reducible refine Below.drew ?_) | (with_reducible refine Below.setCell ?_ ?_ _) | go_size))
            have bN : Blk X wr.heap.size 39 [.int .i64 v, .int .i64 0, .int .i64 0] := by rw [hX]; exact World.heap_alloc_last wr _
            obtain ⟨nb, hnb⟩ : ∃ b, b = wr.heap.size := ⟨_, rfl⟩
            have hnw : wr.heap.size ≤ nb := by omega
            rw [← hnb] at bN ⊢
            clear hX hnb cx hb0
            have hbwX : Below w.heap.size w X := HB.out.trans (hbX.mono HB.out.size)
            have TKa := TK.out X hbwX (p + 1) (by omega)
            rw [show ((p + 1 : Nat) : Int) = (p : Int) + 1 by simp] at TKa
            have TKa := hid TKa
            obtain ⟨T1, hT1⟩ : ∃ T, T = takeV l (p + 1) := ⟨_, rfl⟩
            rw [← hT1] at TKa
            -- where the first number ends
            obtain ⟨q1, hq1e, hq1l⟩ : ∃ q1 : Nat, T1.2 = (q1 : Int) ∧ q1 ≤ l.length := by
              cases e : numU 4 0 0 (l.drop (p + 1)) with
              | none => exact ⟨p + 1, by rw [hT1, takeV_none e], by omega⟩
              | some z =>
                obtain ⟨q, h1, h2, h3, _⟩ := numU_drop (m := z.1) (r := z.2) e (by omega)
                exact ⟨q, by rw [hT1, h1], h3⟩
            have HT1 := hid hT1
            clear hT1
            obtain ⟨x1, y1⟩ := T1
            simp only at hq1e
            subst hq1e
            go_upto_region 12 with ((with_reducible refine (TKa.out).mono ?_); rintro e X1 ⟨rfl, m1, d1, rfl⟩)
            obtain ⟨X1, hX1⟩ : ∃ X1, X1 = X.ext m1 d1 := ⟨_, rfl⟩
            have hbX1 : Below wr.heap.size wr X1 := by rw [hX1]; exact Below.ext_mk hbX hbX.size _ _
            have bN1 : Blk X1 nb 39 [.int .i64 v, .int .i64 0, .int .i64 0] := by rw [hX1]; exact bN.ext _ _
            rw [← hX1]
            clear hX1 TKa bN hbX hbwX
            have TKb := hid (TK.out X1 (HB.out.trans (hbX1.mono HB.out.size)) q1 (by omega))
            obtain ⟨T2, hT2⟩ : ∃ T, T = takeV l q1 := ⟨_, rfl⟩
            rw [← hT2] at TKb
            obtain ⟨q2, hq2e, hq2l⟩ : ∃ q2 : Nat, T2.2 = (q2 : Int) ∧ q2 ≤ l.length := by
              cases e : numU 4 0 0 (l.drop q1) with
              | none => exact ⟨q1, by rw [hT2, takeV_none e], by omega⟩
              | some z =>
                obtain ⟨q, h1, h2, h3, _⟩ := numU_drop (m := z.1) (r := z.2) e (by omega)
                exact ⟨q, by rw [hT2, h1], h3⟩
            have HT2 := hid hT2
            clear hT2
            obtain ⟨x2, y2⟩ := T2
            simp only at hq2e
            subst hq2e
            go_upto_region 13 with ((with_reducible refine (TKb.out).mono ?_); rintro e X2 ⟨rfl, m2, d2, rfl⟩)
            obtain ⟨X2, hX2⟩ : ∃ X2, X2 = X1.ext m2 d2 := ⟨_, rfl⟩
            have hbX2 : Below wr.heap.size wr X2 := by rw [hX2]; exact Below.ext_mk hbX1 hbX1.size _ _
            have bN2 : Blk X2 nb 39 [.int .i64 v, .int .i64 0, .int .i64 0] := by rw [hX2]; exact bN1.ext _ _
            rw [← hX2]
            clear hX2 TKb bN1 hbX1
            have PW2 := hid (PW.out.below hbX2)
            have HBX2 := hid (HB.out.trans (hbX2.mono HB.out.size))
            have HbX2 := hid hbX2
            clear hbX2
            have w2' : IntKind.i64.wrap ((ns.length : Int) + 2) = (ns.length : Int) + 2 := IntWalk.i64_in _ (by omega)
            -- what the two numbers are
            have K1 : (numU 4 0 0 (l.drop (p + 1)) = none ∧ x1 = -1) ∨ ∃ (lo : Nat), numU 4 0 0 (l.drop (p + 1)) = some (lo, l.drop q1) ∧ x1 = (lo : Int) := by
              cases e : numU 4 0 0 (l.drop (p + 1)) with
              | none => refine .inl ⟨rfl, ?_⟩; have q := HT1.out; rw [takeV_none e] at q; exact (Prod.mk.inj q).1
              | some z =>
                obtain ⟨lo, l2⟩ := z
                obtain ⟨q, h1, h2, h3, h4⟩ := numU_drop e (by omega)
                have q' := HT1.out
                rw [h1] at q'
                obtain ⟨r1, r2⟩ := Prod.mk.inj q'
                refine .inr ⟨lo, ?_, r1⟩
                rw [h4, show q = q1 by omega]
            have K2 : (numU 4 0 0 (l.drop q1) = none ∧ x2 = -1) ∨ ∃ (hi : Nat), numU 4 0 0 (l.drop q1) = some (hi, l.drop q2) ∧ x2 = (hi : Int) := by
              cases e : numU 4 0 0 (l.drop q1) with
              | none => refine .inl ⟨rfl, ?_⟩; have q := HT2.out; rw [takeV_none e] at q; exact (Prod.mk.inj q).1
              | some z =>
                obtain ⟨hi, l2⟩ := z
                obtain ⟨q, h1, h2, h3, h4⟩ := numU_drop e (by omega)
                have q' := HT2.out
                rw [h1] at q'
                obtain ⟨r1, r2⟩ := Prod.mk.inj q'
                refine .inr ⟨hi, ?_, r1⟩
                rw [h4, show q = q2 by omega]
            have hR1 := HRR.out
            have cn := bN2.cell 0
            have zn := bN2.lt
            simp only [List.getElem?_cons_zero, List.getElem?_cons_succ] at cn
            rcases K1 with ⟨u1, rfl⟩ | ⟨lo, u1, rfl⟩
            · rw [u1] at hR1
              have HRn : Hid (R = none) := hid hR1
              clear u1 hR1 K2
              refine wp_region_doc (fun F hF => ?_)
              have HF := hid hF
              clear hF
              iterate 3 (refine doc_val rfl (by first | (go_simp; done) | (go_simp; exact ⟨rfl, rfl⟩) | (go_simp; with_reducible rfl)) ?_; simp only [Act.put, List.setIfInBounds_toArray, List.set_cons_zero, List.set_cons_succ])
              iterate 2 (refine doc_not rfl ?_; simp only [Act.put, List.setIfInBounds_toArray, List.set_cons_zero, List.set_cons_succ])
              iterate 2 (refine doc_val rfl (by first | (go_simp; done) | (go_simp; exact ⟨rfl, rfl⟩) | (go_simp; with_reducible rfl)) ?_; simp only [Act.put, List.setIfInBounds_toArray, List.set_cons_zero, List.set_cons_succ])
              iterate 4 (refine doc_not rfl ?_; simp only [Act.put, List.setIfInBounds_toArray, List.set_cons_zero, List.set_cons_succ])
              iterate 2 (refine doc_val rfl (by first | (go_simp; done) | (go_simp; exact ⟨rfl, rfl⟩) | (go_simp; with_reducible rfl)) ?_; simp only [Act.put, List.setIfInBounds_toArray, List.set_cons_zero, List.set_cons_succ])
              iterate 4 (refine doc_not rfl ?_; simp only [Act.put, List.setIfInBounds_toArray, List.set_cons_zero, List.set_cons_succ])
              iterate 2 (refine doc_val rfl (by first | (go_simp; done) | (go_simp; exact ⟨rfl, rfl⟩) | (go_simp; with_reducible rfl)) ?_; simp only [Act.put, List.setIfInBounds_toArray, List.set_cons_zero, List.set_cons_succ])
              iterate 3 (refine doc_not rfl ?_; simp only [Act.put, List.setIfInBounds_toArray, List.set_cons_zero, List.set_cons_succ])
              iterate 1 (refine doc_val rfl (by first | (go_simp; done) | (go_simp; exact ⟨rfl, rfl⟩) | (go_simp; with_reducible rfl)) ?_; simp only [Act.put, List.setIfInBounds_toArray, List.set_cons_zero, List.set_cons_succ])
              refine doc_end (HF.out _ _ ?_)
              clear HF F
              go_upto_region 14 with (fail)
              refine wp_region_doc (fun Fz hF => ?_)
              have HF := hid hF
              clear hF
              refine doc_val rfl (load_struct_op _ _ _ _ _ _ _ _ Try.underlying153 (fr_size _ _ _) rfl PW2.out.bF) ?_
              simp only [Act.put, List.setIfInBounds_toArray, List.set_cons_zero, List.set_cons_succ]
              refine doc_skip rfl (store_row_op (xs := [.slice none 0 0, .slice none 0 0, .slice none 0 0]) (ys := [.slice a1 ns.length c1, .slice a2 old.length c2, .slice none 0 0]) _ _ _ _ _ _ _ _ _ (fr_size _ _ _) rfl rfl rfl rfl PW2.out.bR) ?_
              simp only [Act.put, List.setIfInBounds_toArray, List.set_cons_zero, List.set_cons_succ]
              refine doc_val rfl (by first | (go_simp; done) | (go_simp; exact ⟨rfl, rfl⟩) | (go_simp; with_reducible rfl)) ?_
              simp only [Act.put, List.setIfInBounds_toArray, List.set_cons_zero, List.set_cons_succ]
              refine doc_end (HF.out _ _ ?_)
              clear HF Fz
              obtain ⟨f1, f2, -, -⟩ := PW2.out.fin hfr HBX2.out hrw
              refine ‹∀ (a : Act) (w : World), Code.wp Try.prog Code.ret _ a w → _› _ _ ?_
              refine wp_ret ?_
              exact bodyPost_ret (fr_result2 rfl rfl f2) rfl ⟨_, _, _, _, _, _, _, _, _, _, rfl, f1, by rw [HRn.out]; rfl, fun P h => by rw [HRn.out] at h; cases h⟩
            · rw [u1] at hR1
              simp only at hR1
              have lo0 : ¬ (lo : Int) < 0 := by omega
              rcases K2 with ⟨u2, rfl⟩ | ⟨hi, u2, rfl⟩
              · rw [u2] at hR1
                have HRn : Hid (R = none) := hid hR1
                clear u1 u2 hR1
                refine wp_region_doc (fun F hF => ?_)
                have HF := hid hF
                clear hF
                iterate 7 (refine doc_val rfl (by first | (go_simp; done) | (go_simp; exact ⟨rfl, rfl⟩) | (go_simp; with_reducible rfl)) ?_; simp only [Act.put, List.setIfInBounds_toArray, List.set_cons_zero, List.set_cons_succ])
                iterate 4 (refine doc_not rfl ?_; simp only [Act.put, List.setIfInBounds_toArray, List.set_cons_zero, List.set_cons_succ])
                iterate 2 (refine doc_val rfl (by first | (go_simp; done) | (go_simp; exact ⟨rfl, rfl⟩) | (go_simp; with_reducible rfl)) ?_; simp only [Act.put, List.setIfInBounds_toArray, List.set_cons_zero, List.set_cons_succ])
                iterate 4 (refine doc_not rfl ?_; simp only [Act.put, List.setIfInBounds_toArray, List.set_cons_zero, List.set_cons_succ])
                iterate 2 (refine doc_val rfl (by first | (go_simp; done) | (go_simp; exact ⟨rfl, rfl⟩) | (go_simp; with_reducible rfl)) ?_; simp only [Act.put, List.setIfInBounds_toArray, List.set_cons_zero, List.set_cons_succ])
                iterate 3 (refine doc_not rfl ?_; simp only [Act.put, List.setIfInBounds_toArray, List.set_cons_zero, List.set_cons_succ])
                iterate 1 (refine doc_val rfl (by first | (go_simp; done) | (go_simp; exact ⟨rfl, rfl⟩) | (go_simp; with_reducible rfl)) ?_; simp only [Act.put, List.setIfInBounds_toArray, List.set_cons_zero, List.set_cons_succ])
                refine doc_end (HF.out _ _ ?_)
                clear HF F
                go_upto_region 14 with (fail)
                refine wp_region_doc (fun Fz hF => ?_)
                have HF := hid hF
                clear hF
                refine doc_val rfl (load_struct_op _ _ _ _ _ _ _ _ Try.underlying153 (fr_size _ _ _) rfl PW2.out.bF) ?_
                simp only [Act.put, List.setIfInBounds_toArray, List.set_cons_zero, List.set_cons_succ]
                refine doc_skip rfl (store_row_op (xs := [.slice none 0 0, .slice none 0 0, .slice none 0 0]) (ys := [.slice a1 ns.length c1, .slice a2 old.length c2, .slice none 0 0]) _ _ _ _ _ _ _ _ _ (fr_size _ _ _) rfl rfl rfl rfl PW2.out.bR) ?_
                simp only [Act.put, List.setIfInBounds_toArray, List.set_cons_zero, List.set_cons_succ]
                refine doc_val rfl (by first | (go_simp; done) | (go_simp; exact ⟨rfl, rfl⟩) | (go_simp; with_reducible rfl)) ?_
                simp only [Act.put, List.setIfInBounds_toArray, List.set_cons_zero, List.set_cons_succ]
                refine doc_end (HF.out _ _ ?_)
                clear HF Fz
                obtain ⟨f1, f2, -, -⟩ := PW2.out.fin hfr HBX2.out hrw
                refine ‹∀ (a : Act) (w : World), Code.wp Try.prog Code.ret _ a w → _› _ _ ?_
                refine wp_ret ?_
                exact bodyPost_ret (fr_result2 rfl rfl f2) rfl ⟨_, _, _, _, _, _, _, _, _, _, rfl, f1, by rw [HRn.out]; rfl, fun P h => by rw [HRn.out] at h; cases h⟩
              · rw [u2] at hR1
                simp only at hR1
                have hi0 : ¬ (hi : Int) < 0 := by omega
                by_cases hc1 : ns.length + 2 ≤ lo
                · rw [if_pos (.inl hc1)] at hR1
                  have HRn : Hid (R = none) := hid hR1
                  have hc1' : (ns.length : Int) + 2 ≤ (lo : Int) := by omega
                  clear u1 u2 hR1
                  refine wp_region_doc (fun F hF => ?_)
                  have HF := hid hF
                  clear hF
                  iterate 13 (refine doc_val rfl (by first | (go_simp; done) | (go_simp; exact ⟨rfl, rfl⟩) | (go_simp; with_reducible rfl)) ?_; simp only [Act.put, List.setIfInBounds_toArray, List.set_cons_zero, List.set_cons_succ])
                  iterate 4 (refine doc_not rfl ?_; simp only [Act.put, List.setIfInBounds_toArray, List.set_cons_zero, List.set_cons_succ])
                  iterate 2 (refine doc_val rfl (by first | (go_simp; done) | (go_simp; exact ⟨rfl, rfl⟩) | (go_simp; with_reducible rfl)) ?_; simp only [Act.put, List.setIfInBounds_toArray, List.set_cons_zero, List.set_cons_succ])
                  iterate 3 (refine doc_not rfl ?_; simp only [Act.put, List.setIfInBounds_toArray, List.set_cons_zero, List.set_cons_succ])
                  iterate 1 (refine doc_val rfl (by first | (go_simp; done) | (go_simp; exact ⟨rfl, rfl⟩) | (go_simp; with_reducible rfl)) ?_; simp only [Act.put, List.setIfInBounds_toArray, List.set_cons_zero, List.set_cons_succ])
                  refine doc_end (HF.out _ _ ?_)
                  clear HF F
                  go_upto_region 14 with (fail)
                  refine wp_region_doc (fun Fz hF => ?_)
                  have HF := hid hF
                  clear hF
                  refine doc_val rfl (load_struct_op _ _ _ _ _ _ _ _ Try.underlying153 (fr_size _ _ _) rfl PW2.out.bF) ?_
                  simp only [Act.put, List.setIfInBounds_toArray, List.set_cons_zero, List.set_cons_succ]
                  refine doc_skip rfl (store_row_op (xs := [.slice none 0 0, .slice none 0 0, .slice none 0 0]) (ys := [.slice a1 ns.length c1, .slice a2 old.length c2, .slice none 0 0]) _ _ _ _ _ _ _ _ _ (fr_size _ _ _) rfl rfl rfl rfl PW2.out.bR) ?_
                  simp only [Act.put, List.setIfInBounds_toArray, List.set_cons_zero, List.set_cons_succ]
                  refine doc_val rfl (by first | (go_simp; done) | (go_simp; exact ⟨rfl, rfl⟩) | (go_simp; with_reducible rfl)) ?_
                  simp only [Act.put, List.setIfInBounds_toArray, List.set_cons_zero, List.set_cons_succ]
                  refine doc_end (HF.out _ _ ?_)
                  clear HF Fz
                  obtain ⟨f1, f2, -, -⟩ := PW2.out.fin hfr HBX2.out hrw
                  refine ‹∀ (a : Act) (w : World), Code.wp Try.prog Code.ret _ a w → _› _ _ ?_
                  refine wp_ret ?_
                  exact bodyPost_ret (fr_result2 rfl rfl f2) rfl ⟨_, _, _, _, _, _, _, _, _, _, rfl, f1, by rw [HRn.out]; rfl, fun P h => by rw [HRn.out] at h; cases h⟩
                · have hc1' : ¬ (ns.length : Int) + 2 ≤ (lo : Int) := by omega
                  by_cases hc2 : ns.length + 2 ≤ hi
                  · rw [if_pos (.inr (.inl hc2))] at hR1
                    have HRn : Hid (R = none) := hid hR1
                    have hc2' : (ns.length : Int) + 2 ≤ (hi : Int) := by omega
                    clear u1 u2 hR1
                    refine wp_region_doc (fun F hF => ?_)
                    have HF := hid hF
                    clear hF
                    iterate 19 (refine doc_val rfl (by first | (go_simp; done) | (go_simp; exact ⟨rfl, rfl⟩) | (go_simp; with_reducible rfl)) ?_; simp only [Act.put, List.setIfInBounds_toArray, List.set_cons_zero, List.set_cons_succ])
                    iterate 3 (refine doc_not rfl ?_; simp only [Act.put, List.setIfInBounds_toArray, List.set_cons_zero, List.set_cons_succ])
                    iterate 1 (refine doc_val rfl (by first | (go_simp; done) | (go_simp; exact ⟨rfl, rfl⟩) | (go_simp; with_reducible rfl)) ?_; simp only [Act.put, List.setIfInBounds_toArray, List.set_cons_zero, List.set_cons_succ])
                    refine doc_end (HF.out _ _ ?_)
                    clear HF F
                    go_upto_region 14 with (fail)
                    refine wp_region_doc (fun Fz hF => ?_)
                    have HF := hid hF
                    clear hF
                    refine doc_val rfl (load_struct_op _ _ _ _ _ _ _ _ Try.underlying153 (fr_size _ _ _) rfl PW2.out.bF) ?_
                    simp only [Act.put, List.setIfInBounds_toArray, List.set_cons_zero, List.set_cons_succ]
                    refine doc_skip rfl (store_row_op (xs := [.slice none 0 0, .slice none 0 0, .slice none 0 0]) (ys := [.slice a1 ns.length c1, .slice a2 old.length c2, .slice none 0 0]) _ _ _ _ _ _ _ _ _ (fr_size _ _ _) rfl rfl rfl rfl PW2.out.bR) ?_
                    simp only [Act.put, List.setIfInBounds_toArray, List.set_cons_zero, List.set_cons_succ]
                    refine doc_val rfl (by first | (go_simp; done) | (go_simp; exact ⟨rfl, rfl⟩) | (go_simp; with_reducible rfl)) ?_
                    simp only [Act.put, List.setIfInBounds_toArray, List.set_cons_zero, List.set_cons_succ]
                    refine doc_end (HF.out _ _ ?_)
                    clear HF Fz
                    obtain ⟨f1, f2, -, -⟩ := PW2.out.fin hfr HBX2.out hrw
                    refine ‹∀ (a : Act) (w : World), Code.wp Try.prog Code.ret _ a w → _› _ _ ?_
                    refine wp_ret ?_
                    exact bodyPost_ret (fr_result2 rfl rfl f2) rfl ⟨_, _, _, _, _, _, _, _, _, _, rfl, f1, by rw [HRn.out]; rfl, fun P h => by rw [HRn.out] at h; cases h⟩
                  · have hc2' : ¬ (ns.length : Int) + 2 ≤ (hi : Int) := by omega
                    by_cases hc3 : 63 < v
                    · rw [if_pos (.inr (.inr hc3))] at hR1
                      have HRn : Hid (R = none) := hid hR1
                      have hc3' : (63 : Int) < (v : Int) := by omega
                      clear u1 u2 hR1
                      refine wp_region_doc (fun F hF => ?_)
                      have HF := hid hF
                      clear hF
                      iterate 23 (refine doc_val rfl (by first | (go_simp; done) | (go_simp; exact ⟨rfl, rfl⟩) | (go_simp; with_reducible rfl)) ?_; simp only [Act.put, List.setIfInBounds_toArray, List.set_cons_zero, List.set_cons_succ])
                      refine doc_end (HF.out _ _ ?_)
                      clear HF F
                      go_upto_region 14 with (fail)
                      refine wp_region_doc (fun Fz hF => ?_)
                      have HF := hid hF
                      clear hF
                      refine doc_val rfl (load_struct_op _ _ _ _ _ _ _ _ Try.underlying153 (fr_size _ _ _) rfl PW2.out.bF) ?_
                      simp only [Act.put, List.setIfInBounds_toArray, List.set_cons_zero, List.set_cons_succ]
                      refine doc_skip rfl (store_row_op (xs := [.slice none 0 0, .slice none 0 0, .slice none 0 0]) (ys := [.slice a1 ns.length c1, .slice a2 old.length c2, .slice none 0 0]) _ _ _ _ _ _ _ _ _ (fr_size _ _ _) rfl rfl rfl rfl PW2.out.bR) ?_
                      simp only [Act.put, List.setIfInBounds_toArray, List.set_cons_zero, List.set_cons_succ]
                      refine doc_val rfl (by first | (go_simp; done) | (go_simp; exact ⟨rfl, rfl⟩) | (go_simp; with_reducible rfl)) ?_
                      simp only [Act.put, List.setIfInBounds_toArray, List.set_cons_zero, List.set_cons_succ]
                      refine doc_end (HF.out _ _ ?_)
                      clear HF Fz
                      obtain ⟨f1, f2, -, -⟩ := PW2.out.fin hfr HBX2.out hrw
                      refine ‹∀ (a : Act) (w : World), Code.wp Try.prog Code.ret _ a w → _› _ _ ?_
                      refine wp_ret ?_
                      exact bodyPost_ret (fr_result2 rfl rfl f2) rfl ⟨_, _, _, _, _, _, _, _, _, _, rfl, f1, by rw [HRn.out]; rfl, fun P h => by rw [HRn.out] at h; cases h⟩
                    · have hc3' : ¬ (63 : Int) < (v : Int) := by omega
                      rw [if_neg (by omega)] at hR1
                      have HRG := hid hR1
                      have fn1 := bN2.free 1
                      have fn2 := bN2.free 2
                      have cn1 := bN2.cell 1
                      have cn2 := bN2.cell 2
                      simp only [List.getElem?_cons_zero, List.getElem?_cons_succ] at cn1 cn2
                      clear u1 u2 hR1 HRR HT1 HT2
                      refine wp_region_doc (fun F hF => ?_)
                      have HF := hid hF
                      clear hF
                      iterate 23 (refine doc_val rfl (by first | (go_simp; done) | (go_simp; exact ⟨rfl, rfl⟩) | (go_simp; with_reducible rfl)) ?_; simp only [Act.put, List.setIfInBounds_toArray, List.set_cons_zero, List.set_cons_succ])
                      refine doc_end (HF.out _ _ ?_)
                      clear HF F
                      go_upto_region 17 with (fail)
                      refine wp_gen (fun Z hZ => ?_)
                      have hbZ : Below wr.heap.size wr Z := by rw [hZ]; exact (HbX2.out.setCell (p := ⟨nb, 1, none⟩) hnw _).setCell (p := ⟨nb, 2, none⟩) hnw _
                      have bNZ : Blk Z nb 39 [.int .i64 v, .int .i64 lo, .int .i64 hi] := by rw [hZ]; exact (bN2.set_ 1 _).set_ 2 _
                      clear hZ cn cn1 cn2 fn1 fn2 bN2 zn
                      have PWZ := PW.out.below hbZ
                      have HBZ := HB.out.trans (hbZ.mono HB.out.size)
                      obtain ⟨a1', c1n, W5, G1', p1, bF5, PW6, hb6⟩ := PWZ.node hfr hns9 HBZ.size hfw ((v : Int), (lo : Int), (hi : Int)) HBZ
                      obtain ⟨n6, hn6⟩ : ∃ n, n = (ns ++ [((v : Int), (lo : Int), (hi : Int))]).length := ⟨_, rfl⟩
                      rw [← hn6] at p1
                      have HN6 := hid hn6
                      have P1 := hid p1
                      have PWZ' := hid PWZ
                      have cfa := PWZ.bF.cell 0
                      have zfa := PWZ.bF.lt
                      have cfb := bF5.cell 0
                      have zfb := bF5.lt
                      have ffb := bF5.free 0
                      simp only [List.getElem?_cons_zero, List.getElem?_cons_succ] at cfa cfb
                      rw [← hn6] at hb6
                      obtain ⟨W6, hW6⟩ : ∃ W, W = W5.setCell ⟨fb, 0, none⟩ (.slice a1' n6 c1n) := ⟨_, rfl⟩
                      have PW6 := hid (show PartsW w.heap.size fb rb W6 a1' c1n a2 c2 none 0 (ns ++ [((v : Int), (lo : Int), (hi : Int))]) old [] G1' G2 none from by rw [hW6, HN6.out]; exact PW6)
                      rw [← hW6] at hb6
                      have HW6 := hid hW6
                      have HB6 := hid hb6
                      clear p1 hn6 hb6 hbZ HBZ PWZ bF5 hW6
                      refine wp_region_doc (fun Fz hF => ?_)
                      have HF := hid hF
                      clear hF
                      iterate 2 (refine doc_val rfl (by first | (go_simp; done) | (go_simp; exact ⟨rfl, rfl⟩) | (go_simp; with_reducible rfl)) ?_; simp only [Act.put, List.setIfInBounds_toArray, List.set_cons_zero, List.set_cons_succ])
                      refine doc_val rfl (load_struct_op _ _ _ _ _ _ _ _ Try.underlying39 (branchy_size _ _ _) rfl bNZ) ?_
                      simp only [Act.put, List.setIfInBounds_toArray, List.set_cons_zero, List.set_cons_succ]
                      refine doc_val rfl (by first | (go_simp; done) | (go_simp; exact ⟨rfl, rfl⟩) | (go_simp; with_reducible rfl)) ?_
                      simp only [Act.put, List.setIfInBounds_toArray, List.set_cons_zero, List.set_cons_succ]
                      refine doc_val rfl (run_append_op _ _ _ _ _ _ _ _ _ P1.out) ?_
                      simp only [Act.put, List.setIfInBounds_toArray, List.set_cons_zero, List.set_cons_succ]
                      refine doc_val rfl (by first | (go_simp; done) | (go_simp; exact ⟨rfl, rfl⟩) | (go_simp; with_reducible rfl)) ?_
                      simp only [Act.put, List.setIfInBounds_toArray, List.set_cons_zero, List.set_cons_succ]
                      refine doc_skip rfl (by first | (go_simp; done) | (go_simp; exact ⟨rfl, rfl⟩) | (go_simp; with_reducible rfl)) ?_
                      simp only [Act.put, List.setIfInBounds_toArray, List.set_cons_zero, List.set_cons_succ]
                      refine doc_end (HF.out _ _ ?_)
                      clear HF Fz cfa zfa cfb zfb ffb P1 PWZ' bNZ
                      rw [← HW6.out]
                      obtain ⟨a2', c2n, W7, G2', p2, bF7, PW8, hb8⟩ := PW6.out.old1 hfr hko9 HB6.out.size hfw ((ns.length : Int) + 2) HB6.out
                      obtain ⟨n8, hn8⟩ : ∃ n, n = (old ++ [(ns.length : Int) + 2]).length := ⟨_, rfl⟩
                      rw [← hn8] at p2
                      have HN8 := hid hn8
                      have P2 := hid p2
                      have cfa := PW6.out.bF.cell 1
                      have zfa := PW6.out.bF.lt
                      have cfb := bF7.cell 1
                      have zfb := bF7.lt
                      have ffb := bF7.free 1
                      simp only [List.getElem?_cons_zero, List.getElem?_cons_succ] at cfa cfb
                      rw [← hn8] at hb8
                      obtain ⟨W8, hW8⟩ : ∃ W, W = W7.setCell ⟨fb, 1, none⟩ (.slice a2' n8 c2n) := ⟨_, rfl⟩
                      have PW8 := hid (show PartsW w.heap.size fb rb W8 a1' c1n a2' c2n none 0 (ns ++ [((v : Int), (lo : Int), (hi : Int))]) (old ++ [(ns.length : Int) + 2]) [] G1' G2' none from by rw [hW8, HN8.out]; exact PW8)
                      rw [← hW8] at hb8
                      have HW8 := hid hW8
                      have HB8 := hid hb8
                      clear p2 hn8 hb8 bF7 hW8
                      go_upto_region 18 with (fail)
                      refine wp_region_doc (fun Fz hF => ?_)
                      have HF := hid hF
                      clear hF
                      iterate 5 (refine doc_val rfl (by first | (go_simp; done) | (go_simp; exact ⟨rfl, rfl⟩) | (go_simp; with_reducible rfl)) ?_; simp only [Act.put, List.setIfInBounds_toArray, List.set_cons_zero, List.set_cons_succ])
                      refine doc_val rfl (run_append_op _ _ _ _ _ _ _ _ _ P2.out) ?_
                      simp only [Act.put, List.setIfInBounds_toArray, List.set_cons_zero, List.set_cons_succ]
                      refine doc_val rfl (by first | (go_simp; done) | (go_simp; exact ⟨rfl, rfl⟩) | (go_simp; with_reducible rfl)) ?_
                      simp only [Act.put, List.setIfInBounds_toArray, List.set_cons_zero, List.set_cons_succ]
                      refine doc_skip rfl (by first | (go_simp; done) | (go_simp; exact ⟨rfl, rfl⟩) | (go_simp; with_reducible rfl)) ?_
                      simp only [Act.put, List.setIfInBounds_toArray, List.set_cons_zero, List.set_cons_succ]
                      refine doc_end (HF.out _ _ ?_)
                      clear HF Fz cfa zfa cfb zfb ffb P2
                      rw [← HW8.out]
                      have HFin := hid (And.intro (HIN.out.more (v := v) (lo := lo) (hi := hi) (by omega) (by omega) (by omega)) (And.intro (show R = rparts1 (m - (ns ++ [((v : Int), (lo : Int), (hi : Int))]).length) (ns ++ [((v : Int), (lo : Int), (hi : Int))]) (l.drop q2) from by rw [HRG.out]; congr 1; simp; omega) (And.intro PW8.out HB8.out)))
                      clear PW8 HB8 PW6 HB6 HRG
                      go_wp2_with fail
                      go_roundw
                      case rel => exact ⟨q2, a1', c1n, a2', c2n, ns ++ [((v : Int), (lo : Int), (hi : Int))], old ++ [(ns.length : Int) + 2], G1', G2', rfl, (by first | go_num | (simp; done) | (rw [List.length_append]; go_num) | (simp only [List.length_append, List.length_cons, List.length_nil]; go_num)), hq2l, (by rw [List.length_append]; exact hlt), (by rw [List.length_append, List.length_append, HOL.out]; rfl), HFin.out.1, HFin.out.2.1, HFin.out.2.2.1, HFin.out.2.2.2⟩
                      case measure => simp [intOf]; omega
          · have hpl1 : (l.length : Int) ≤ (p : Int) := by omega
            rw [List.drop_of_length_le (by omega), rparts1_nil] at hRR
            have HRn : Hid (R = none) := hid hRR
            clear hRR hPW hB hin hol hk0 hko
            go_upto_region 9 with (fail)
            refine wp_region_doc (fun Fz hF => ?_)
            have HF := hid hF
            clear hF
            refine doc_val rfl (load_struct_op _ _ _ _ _ _ _ _ Try.underlying153 (fr_size _ _ _) rfl PW.out.bF) ?_
            simp only [Act.put, List.setIfInBounds_toArray, List.set_cons_zero, List.set_cons_succ]
            refine doc_skip rfl (store_row_op (xs := [.slice none 0 0, .slice none 0 0, .slice none 0 0]) (ys := [.slice a1 ns.length c1, .slice a2 old.length c2, .slice none 0 0]) _ _ _ _ _ _ _ _ _ (fr_size _ _ _) rfl rfl rfl rfl PW.out.bR) ?_
            simp only [Act.put, List.setIfInBounds_toArray, List.set_cons_zero, List.set_cons_succ]
            refine doc_val rfl (by first | (go_simp; done) | (go_simp; exact ⟨rfl, rfl⟩) | (go_simp; with_reducible rfl)) ?_
            simp only [Act.put, List.setIfInBounds_toArray, List.set_cons_zero, List.set_cons_succ]
            refine doc_end (HF.out _ _ ?_)
            clear HF Fz
            obtain ⟨f1, f2, -, -⟩ := PW.out.fin hfr HB.out hrw
            refine ‹∀ (a : Act) (w : World), Code.wp Try.prog Code.ret _ a w → _› _ _ ?_
            refine wp_ret ?_
            exact bodyPost_ret (fr_result2 rfl rfl f2) rfl ⟨_, _, _, _, _, _, _, _, _, _, rfl, f1, by rw [HRn.out]; rfl, fun P h => by rw [HRn.out] at h; cases h⟩
        · have hlt1 : ¬ (ns.length : Int) < (m : Int) := by omega
          obtain rfl : m = ns.length := by omega
          rw [Nat.sub_self, rparts1_zero, rtail_eq] at hRR
          have hRR0 := hRR
          have hp9 : p ≤ 9000000 := by omega
          have TKc := TK.out wr hB p hp9
          obtain ⟨T1, hT1⟩ : ∃ T, T = takeV l p := ⟨_, rfl⟩
          rw [← hT1] at TKc
          obtain ⟨q1, hq1e, hq1l⟩ : ∃ q1 : Nat, T1.2 = (q1 : Int) ∧ q1 ≤ l.length := by
            cases e : numU 4 0 0 (l.drop p) with
            | none => exact ⟨p, by rw [hT1, takeV_none e], by omega⟩
            | some z =>
              obtain ⟨q, h1, h2, h3, _⟩ := numU_drop (m := z.1) (r := z.2) e (by omega)
              exact ⟨q, by rw [hT1, h1], h3⟩
          have TKc := hid TKc
          have HT1 := hid hT1
          clear hT1
          obtain ⟨x1, y1⟩ := T1
          simp only at hq1e
          subst hq1e
          have K1 : (numU 4 0 0 (l.drop p) = none ∧ x1 = -1) ∨ ∃ (lo : Nat), numU 4 0 0 (l.drop p) = some (lo, l.drop q1) ∧ x1 = (lo : Int) := by
            cases e : numU 4 0 0 (l.drop p) with
            | none => refine .inl ⟨rfl, ?_⟩; have q := HT1.out; rw [takeV_none e] at q; exact (Prod.mk.inj q).1
            | some z =>
              obtain ⟨lo, l2⟩ := z
              obtain ⟨q, h1, h2, h3, h4⟩ := numU_drop e (by omega)
              have q' := HT1.out
              rw [h1] at q'
              obtain ⟨r1, r2⟩ := Prod.mk.inj q'
              refine .inr ⟨lo, ?_, r1⟩
              rw [h4, show q = q1 by omega]
          have HK1 := hid K1
          have HRR := hid hRR
          clear hRR hRR0 hPW hB hin hol hk0 hko K1
          go_upto_region 21 with ((with_reducible refine (TKc.out).mono ?_); rintro e X1 ⟨rfl, m1, d1, rfl⟩)
          obtain ⟨X1, hX1⟩ : ∃ X1, X1 = wr.ext m1 d1 := ⟨_, rfl⟩
          have hbX1 : Below wr.heap.size wr X1 := by rw [hX1]; (repeat' (first | (with_reducible exact Below.refl _ _) | (with_reducible refine Below.ext_mk ?_ ?_ _ _) | (with_reducible refine Below.alloc ?_ ?_ _) | (with_reducible refine Below.drew ?_) | (with_reducible refine Below.setCell ?_ ?_ _) | go_size))
          rw [← hX1]
          have PW1 := hid (PW.out.below hbX1)
          have HB1 := hid (HB.out.trans (hbX1.mono HB.out.size))
          clear hX1 TKc hbX1
          have hR1 := HRR.out
          rcases HK1.out with ⟨u1, rfl⟩ | ⟨kk, u1, rfl⟩
          · rw [u1] at hR1
            have HRn : Hid (R = none) := hid hR1
            clear u1 hR1
            refine wp_region_doc (fun F hF => ?_)
            have HF := hid hF
            clear hF
            iterate 3 (refine doc_val rfl (by first | (go_simp; done) | (go_simp; exact ⟨rfl, rfl⟩) | (go_simp; with_reducible rfl)) ?_; simp only [Act.put, List.setIfInBounds_toArray, List.set_cons_zero, List.set_cons_succ])
            iterate 2 (refine doc_not rfl ?_; simp only [Act.put, List.setIfInBounds_toArray, List.set_cons_zero, List.set_cons_succ])
            iterate 1 (refine doc_val rfl (by first | (go_simp; done) | (go_simp; exact ⟨rfl, rfl⟩) | (go_simp; with_reducible rfl)) ?_; simp only [Act.put, List.setIfInBounds_toArray, List.set_cons_zero, List.set_cons_succ])
            refine doc_end (HF.out _ _ ?_)
            clear HF F
            go_upto_region 22 with (fail)
            refine wp_region_doc (fun Fz hF => ?_)
            have HF := hid hF
            clear hF
            refine doc_val rfl (load_struct_op _ _ _ _ _ _ _ _ Try.underlying153 (fr_size _ _ _) rfl PW1.out.bF) ?_
            simp only [Act.put, List.setIfInBounds_toArray, List.set_cons_zero, List.set_cons_succ]
            refine doc_skip rfl (store_row_op (xs := [.slice none 0 0, .slice none 0 0, .slice none 0 0]) (ys := [.slice a1 ns.length c1, .slice a2 old.length c2, .slice none 0 0]) _ _ _ _ _ _ _ _ _ (fr_size _ _ _) rfl rfl rfl rfl PW1.out.bR) ?_
            simp only [Act.put, List.setIfInBounds_toArray, List.set_cons_zero, List.set_cons_succ]
            refine doc_val rfl (by first | (go_simp; done) | (go_simp; exact ⟨rfl, rfl⟩) | (go_simp; with_reducible rfl)) ?_
            simp only [Act.put, List.setIfInBounds_toArray, List.set_cons_zero, List.set_cons_succ]
            refine doc_end (HF.out _ _ ?_)
            clear HF Fz
            obtain ⟨f1, f2, -, -⟩ := PW1.out.fin hfr HB1.out hrw
            refine ‹∀ (a : Act) (w : World), Code.wp Try.prog Code.ret _ a w → _› _ _ ?_
            refine wp_ret ?_
            exact bodyPost_ret (fr_result2 rfl rfl f2) rfl ⟨_, _, _, _, _, _, _, _, _, _, rfl, f1, by rw [HRn.out]; rfl, fun P h => by rw [HRn.out] at h; cases h⟩
          · rw [u1] at hR1
            simp only at hR1
            have kk0 : ¬ (kk : Int) < 0 := by omega
            by_cases hkk : 64 < kk
            · rw [if_pos hkk] at hR1
              have HRn : Hid (R = none) := hid hR1
              have hkk' : (64 : Int) < (kk : Int) := by omega
              clear u1 hR1
              refine wp_region_doc (fun F hF => ?_)
              have HF := hid hF
              clear hF
              iterate 6 (refine doc_val rfl (by first | (go_simp; done) | (go_simp; exact ⟨rfl, rfl⟩) | (go_simp; with_reducible rfl)) ?_; simp only [Act.put, List.setIfInBounds_toArray, List.set_cons_zero, List.set_cons_succ])
              refine doc_end (HF.out _ _ ?_)
              clear HF F
              go_upto_region 22 with (fail)
              refine wp_region_doc (fun Fz hF => ?_)
              have HF := hid hF
              clear hF
              refine doc_val rfl (load_struct_op _ _ _ _ _ _ _ _ Try.underlying153 (fr_size _ _ _) rfl PW1.out.bF) ?_
              simp only [Act.put, List.setIfInBounds_toArray, List.set_cons_zero, List.set_cons_succ]
              refine doc_skip rfl (store_row_op (xs := [.slice none 0 0, .slice none 0 0, .slice none 0 0]) (ys := [.slice a1 ns.length c1, .slice a2 old.length c2, .slice none 0 0]) _ _ _ _ _ _ _ _ _ (fr_size _ _ _) rfl rfl rfl rfl PW1.out.bR) ?_
              simp only [Act.put, List.setIfInBounds_toArray, List.set_cons_zero, List.set_cons_succ]
              refine doc_val rfl (by first | (go_simp; done) | (go_simp; exact ⟨rfl, rfl⟩) | (go_simp; with_reducible rfl)) ?_
              simp only [Act.put, List.setIfInBounds_toArray, List.set_cons_zero, List.set_cons_succ]
              refine doc_end (HF.out _ _ ?_)
              clear HF Fz
              obtain ⟨f1, f2, -, -⟩ := PW1.out.fin hfr HB1.out hrw
              refine ‹∀ (a : Act) (w : World), Code.wp Try.prog Code.ret _ a w → _› _ _ ?_
              refine wp_ret ?_
              exact bodyPost_ret (fr_result2 rfl rfl f2) rfl ⟨_, _, _, _, _, _, _, _, _, _, rfl, f1, by rw [HRn.out]; rfl, fun P h => by rw [HRn.out] at h; cases h⟩
            · rw [if_neg hkk] at hR1
              have hkk' : ¬ (64 : Int) < (kk : Int) := by omega
              have HR1 := hid hR1
              clear u1 hR1 HRR HT1 HK1
              go_wp2_with fail
              go_loopw [6, 15] (fun pv iv wr => ∃ (p : Nat) (a3 : Option Addr) (c3 : Nat) (rs : List Int) (G3 : Option Nat), pv = .int .i64 p ∧ iv = .int .i64 (rs.length : Nat) ∧ p ≤ l.length ∧ rs.length ≤ kk ∧ R = rparts2 ns (kk - rs.length) rs (l.drop p) ∧ PartsW w.heap.size fb rb wr a1 c1 a2 c2 a3 c3 ns old rs G1 G2 G3 ∧ Below w.heap.size w wr) (fun _ iv _ => kk - (intOf iv).toNat)
              case atStart => exact ⟨q1, _, _, [], _, rfl, rfl, hq1l, by simp, HR1.out, PW1.out, HB1.out⟩
              case round =>
                clear PW HB PW1 HB1 HR1
                obtain ⟨p, a3, c3, rs, G3, rfl, rfl, hp, hnk, hRR, hPW, hB⟩ := hrel
                have PW := hid hPW
                have HB := hid hB
                have hrs9 : rs.length ≤ 8388608 := by omega
                by_cases hlt : rs.length < kk
                · have hlt1 : (rs.length : Int) < (kk : Int) := by omega
                  obtain ⟨j, hj⟩ : ∃ j, kk - rs.length = j + 1 := ⟨kk - rs.length - 1, by omega⟩
                  rw [hj, rparts2_more] at hRR
                  have TKd := TK.out wr hB p (by omega)
                  obtain ⟨T1, hT1⟩ : ∃ T, T = takeV l p := ⟨_, rfl⟩
                  rw [← hT1] at TKd
                  obtain ⟨q3, hq1e, hq3l⟩ : ∃ q1 : Nat, T1.2 = (q1 : Int) ∧ q1 ≤ l.length := by
                    cases e : numU 4 0 0 (l.drop p) with
                    | none => exact ⟨p, by rw [hT1, takeV_none e], by omega⟩
                    | some z =>
                      obtain ⟨q, h1, h2, h3, _⟩ := numU_drop (m := z.1) (r := z.2) e (by omega)
                      exact ⟨q, by rw [hT1, h1], h3⟩
                  have TKd := hid TKd
                  have HT1 := hid hT1
                  clear hT1
                  obtain ⟨x1, y1⟩ := T1
                  simp only at hq1e
                  subst hq1e
                  have K1 : (numU 4 0 0 (l.drop p) = none ∧ x1 = -1) ∨ ∃ (lo : Nat), numU 4 0 0 (l.drop p) = some (lo, l.drop q3) ∧ x1 = (lo : Int) := by
                    cases e : numU 4 0 0 (l.drop p) with
                    | none => refine .inl ⟨rfl, ?_⟩; have q := HT1.out; rw [takeV_none e] at q; exact (Prod.mk.inj q).1
                    | some z =>
                      obtain ⟨lo, l2⟩ := z
                      obtain ⟨q, h1, h2, h3, h4⟩ := numU_drop e (by omega)
                      have q' := HT1.out
                      rw [h1] at q'
                      obtain ⟨r1, r2⟩ := Prod.mk.inj q'
                      refine .inr ⟨lo, ?_, r1⟩
                      rw [h4, show q = q3 by omega]
                  have HK1 := hid K1
                  have HRR := hid hRR
                  have w2' : IntKind.i64.wrap ((ns.length : Int) + 2) = (ns.length : Int) + 2 := IntWalk.i64_in _ (by omega)
                  clear hRR hPW hB K1
                  go_upto_region 28 with ((with_reducible refine (TKd.out).mono ?_); rintro e X1 ⟨rfl, m1, d1, rfl⟩)
                  obtain ⟨X1, hX1⟩ : ∃ X1, X1 = wr.ext m1 d1 := ⟨_, rfl⟩
                  have hbX1 : Below wr.heap.size wr X1 := by rw [hX1]; (repeat' (first | (with_reducible exact Below.refl _ _) | (with_reducible refine Below.ext_mk ?_ ?_ _ _) | (with_reducible refine Below.alloc ?_ ?_ _) | (with_reducible refine Below.drew ?_) | (with_reducible refine Below.setCell ?_ ?_ _) | go_size))
                  rw [← hX1]
                  have PW1 := hid (PW.out.below hbX1)
                  have HB1 := hid (HB.out.trans (hbX1.mono HB.out.size))
                  clear hX1 TKd hbX1
                  have hR1 := HRR.out
                  rcases HK1.out with ⟨u1, rfl⟩ | ⟨a, u1, rfl⟩
                  · rw [u1] at hR1
                    have HRn : Hid (R = none) := hid hR1
                    clear u1 hR1
                    refine wp_region_doc (fun F hF => ?_)
                    have HF := hid hF
                    clear hF
                    iterate 3 (refine doc_val rfl (by first | (go_simp; done) | (go_simp; exact ⟨rfl, rfl⟩) | (go_simp; with_reducible rfl)) ?_; simp only [Act.put, List.setIfInBounds_toArray, List.set_cons_zero, List.set_cons_succ])
                    iterate 4 (refine doc_not rfl ?_; simp only [Act.put, List.setIfInBounds_toArray, List.set_cons_zero, List.set_cons_succ])
                    iterate 1 (refine doc_val rfl (by first | (go_simp; done) | (go_simp; exact ⟨rfl, rfl⟩) | (go_simp; with_reducible rfl)) ?_; simp only [Act.put, List.setIfInBounds_toArray, List.set_cons_zero, List.set_cons_succ])
                    refine doc_end (HF.out _ _ ?_)
                    clear HF F
                    go_upto_region 29 with (fail)
                    refine wp_region_doc (fun Fz hF => ?_)
                    have HF := hid hF
                    clear hF
                    refine doc_val rfl (load_struct_op _ _ _ _ _ _ _ _ Try.underlying153 (fr_size _ _ _) rfl PW1.out.bF) ?_
                    simp only [Act.put, List.setIfInBounds_toArray, List.set_cons_zero, List.set_cons_succ]
                    refine doc_skip rfl (store_row_op (xs := [.slice none 0 0, .slice none 0 0, .slice none 0 0]) (ys := [.slice a1 ns.length c1, .slice a2 old.length c2, .slice a3 rs.length c3]) _ _ _ _ _ _ _ _ _ (fr_size _ _ _) rfl rfl rfl rfl PW1.out.bR) ?_
                    simp only [Act.put, List.setIfInBounds_toArray, List.set_cons_zero, List.set_cons_succ]
                    refine doc_val rfl (by first | (go_simp; done) | (go_simp; exact ⟨rfl, rfl⟩) | (go_simp; with_reducible rfl)) ?_
                    simp only [Act.put, List.setIfInBounds_toArray, List.set_cons_zero, List.set_cons_succ]
                    refine doc_end (HF.out _ _ ?_)
                    clear HF Fz
                    obtain ⟨f1, f2, -, -⟩ := PW1.out.fin hfr HB1.out hrw
                    refine ‹∀ (a : Act) (w : World), Code.wp Try.prog Code.ret _ a w → _› _ _ ?_
                    refine wp_ret ?_
                    exact bodyPost_ret (fr_result2 rfl rfl f2) rfl ⟨_, _, _, _, _, _, _, _, _, _, rfl, f1, by rw [HRn.out]; rfl, fun P h => by rw [HRn.out] at h; cases h⟩
                  · rw [u1] at hR1
                    simp only at hR1
                    have a0 : ¬ (a : Int) < 0 := by omega
                    by_cases hab : ns.length + 2 ≤ a
                    · rw [if_pos hab] at hR1
                      have HRn : Hid (R = none) := hid hR1
                      have hab' : (ns.length : Int) + 2 ≤ (a : Int) := by omega
                      clear u1 hR1
                      refine wp_region_doc (fun F hF => ?_)
                      have HF := hid hF
                      clear hF
                      iterate 8 (refine doc_val rfl (by first | (go_simp; done) | (go_simp; exact ⟨rfl, rfl⟩) | (go_simp; with_reducible rfl)) ?_; simp only [Act.put, List.setIfInBounds_toArray, List.set_cons_zero, List.set_cons_succ])
                      refine doc_end (HF.out _ _ ?_)
                      clear HF F
                      go_upto_region 29 with (fail)
                      refine wp_region_doc (fun Fz hF => ?_)
                      have HF := hid hF
                      clear hF
                      refine doc_val rfl (load_struct_op _ _ _ _ _ _ _ _ Try.underlying153 (fr_size _ _ _) rfl PW1.out.bF) ?_
                      simp only [Act.put, List.setIfInBounds_toArray, List.set_cons_zero, List.set_cons_succ]
                      refine doc_skip rfl (store_row_op (xs := [.slice none 0 0, .slice none 0 0, .slice none 0 0]) (ys := [.slice a1 ns.length c1, .slice a2 old.length c2, .slice a3 rs.length c3]) _ _ _ _ _ _ _ _ _ (fr_size _ _ _) rfl rfl rfl rfl PW1.out.bR) ?_
                      simp only [Act.put, List.setIfInBounds_toArray, List.set_cons_zero, List.set_cons_succ]
                      refine doc_val rfl (by first | (go_simp; done) | (go_simp; exact ⟨rfl, rfl⟩) | (go_simp; with_reducible rfl)) ?_
                      simp only [Act.put, List.setIfInBounds_toArray, List.set_cons_zero, List.set_cons_succ]
                      refine doc_end (HF.out _ _ ?_)
                      clear HF Fz
                      obtain ⟨f1, f2, -, -⟩ := PW1.out.fin hfr HB1.out hrw
                      refine ‹∀ (a : Act) (w : World), Code.wp Try.prog Code.ret _ a w → _› _ _ ?_
                      refine wp_ret ?_
                      exact bodyPost_ret (fr_result2 rfl rfl f2) rfl ⟨_, _, _, _, _, _, _, _, _, _, rfl, f1, by rw [HRn.out]; rfl, fun P h => by rw [HRn.out] at h; cases h⟩
                    · rw [if_neg hab] at hR1
                      have hab' : ¬ (ns.length : Int) + 2 ≤ (a : Int) := by omega
                      have HRG := hid hR1
                      obtain ⟨a3', c3n, W7, G3', p2, bF7, PW8, hb8⟩ := PW1.out.root hfr hrs9 HB1.out.size hfw (a : Int) HB1.out
                      obtain ⟨n8, hn8⟩ : ∃ n, n = (rs ++ [(a : Int)]).length := ⟨_, rfl⟩
                      rw [← hn8] at p2
                      have HN8 := hid hn8
                      have P2 := hid p2
                      have cfa := PW1.out.bF.cell 2
                      have zfa := PW1.out.bF.lt
                      have cfb := bF7.cell 2
                      have zfb := bF7.lt
                      have ffb := bF7.free 2
                      simp only [List.getElem?_cons_zero, List.getElem?_cons_succ] at cfa cfb
                      rw [← hn8] at hb8
                      obtain ⟨W8, hW8⟩ : ∃ W, W = W7.setCell ⟨fb, 2, none⟩ (.slice a3' n8 c3n) := ⟨_, rfl⟩
                      have PW8 := hid (show PartsW w.heap.size fb rb W8 a1 c1 a2 c2 a3' c3n ns old (rs ++ [(a : Int)]) G1 G2 G3' from by rw [hW8, HN8.out]; exact PW8)
                      rw [← hW8] at hb8
                      have HW8 := hid hW8
                      have HB8 := hid hb8
                      clear p2 hn8 hb8 bF7 hW8 u1 hR1
                      refine wp_region_doc (fun F hF => ?_)
                      have HF := hid hF
                      clear hF
                      iterate 8 (refine doc_val rfl (by first | (go_simp; done) | (go_simp; exact ⟨rfl, rfl⟩) | (go_simp; with_reducible rfl)) ?_; simp only [Act.put, List.setIfInBounds_toArray, List.set_cons_zero, List.set_cons_succ])
                      refine doc_end (HF.out _ _ ?_)
                      clear HF F
                      go_upto_region 30 with (fail)
                      refine wp_region_doc (fun Fz hF => ?_)
                      have HF := hid hF
                      clear hF
                      iterate 4 (refine doc_val rfl (by first | (go_simp; done) | (go_simp; exact ⟨rfl, rfl⟩) | (go_simp; with_reducible rfl)) ?_; simp only [Act.put, List.setIfInBounds_toArray, List.set_cons_zero, List.set_cons_succ])
                      refine doc_val rfl (run_append_op _ _ _ _ _ _ _ _ _ P2.out) ?_
                      simp only [Act.put, List.setIfInBounds_toArray, List.set_cons_zero, List.set_cons_succ]
                      refine doc_val rfl (by first | (go_simp; done) | (go_simp; exact ⟨rfl, rfl⟩) | (go_simp; with_reducible rfl)) ?_
                      simp only [Act.put, List.setIfInBounds_toArray, List.set_cons_zero, List.set_cons_succ]
                      refine doc_skip rfl (by first | (go_simp; done) | (go_simp; exact ⟨rfl, rfl⟩) | (go_simp; with_reducible rfl)) ?_
                      simp only [Act.put, List.setIfInBounds_toArray, List.set_cons_zero, List.set_cons_succ]
                      refine doc_end (HF.out _ _ ?_)
                      clear HF Fz cfa zfa cfb zfb ffb P2
                      rw [← HW8.out]
                      have HFin := hid (And.intro (show R = rparts2 ns (kk - (rs ++ [(a : Int)]).length) (rs ++ [(a : Int)]) (l.drop q3) from by rw [HRG.out]; congr 1; simp; omega) (And.intro PW8.out HB8.out))
                      clear PW8 HB8 HRG HRR HK1 HT1
                      go_wp2_with fail
                      go_roundw
                      case rel => exact ⟨q3, a3', c3n, rs ++ [(a : Int)], G3', rfl, (by first | go_num | (simp; done) | (rw [List.length_append]; go_num) | (simp only [List.length_append, List.length_cons, List.length_nil]; go_num)), hq3l, (by rw [List.length_append]; exact hlt), HFin.out.1, HFin.out.2.1, HFin.out.2.2⟩
                      case measure => simp [intOf]; omega
                · have hlt1 : ¬ (rs.length : Int) < (kk : Int) := by omega
                  have hkk0 : kk - rs.length = 0 := by omega
                  rw [hkk0, rparts2_zero] at hRR
                  obtain ⟨bb, hbb⟩ : ∃ b, b = ((p : Int) == (l.length : Int)) := ⟨_, rfl⟩
                  have hRb : bb = R.isSome ∧ ∀ P, R = some P → P = (ns, rs) := by
                    by_cases hpl : p = l.length
                    · rw [List.drop_of_length_le (by omega), if_pos rfl] at hRR
                      rw [hRR]
                      refine ⟨by rw [hbb]; simp [hpl], fun P h => by cases h; rfl⟩
                    · have hne : l.drop p ≠ [] := by
                        intro q
                        have := congrArg List.length q
                        simp at this
                        omega
                      rw [if_neg hne] at hRR
                      rw [hRR]
                      refine ⟨by rw [hbb]; exact beq_eq_false_iff_ne.2 (by omega), fun P h => by cases h⟩
                  have HRb := hid hRb
                  have hbe : ((p : Int) == (l.length : Int)) = bb := hbb.symm
                  clear hRR hPW hB hbb hRb
                  go_upto_region 32 with (fail)
                  refine wp_region_doc (fun Fz hF => ?_)
                  have HF := hid hF
                  clear hF
                  refine doc_val rfl (load_struct_op _ _ _ _ _ _ _ _ Try.underlying153 (fr_size _ _ _) rfl PW.out.bF) ?_
                  simp only [Act.put, List.setIfInBounds_toArray, List.set_cons_zero, List.set_cons_succ]
                  iterate 4 (refine doc_val rfl (by first | (go_simp; done) | (go_simp; exact ⟨rfl, rfl⟩) | (go_simp; with_reducible rfl)) ?_; simp only [Act.put, List.setIfInBounds_toArray, List.set_cons_zero, List.set_cons_succ])
                  refine doc_skip rfl (store_row_op (xs := [.slice none 0 0, .slice none 0 0, .slice none 0 0]) (ys := [.slice a1 ns.length c1, .slice a2 old.length c2, .slice a3 rs.length c3]) _ _ _ _ _ _ _ _ _ (fr_size _ _ _) rfl rfl rfl rfl PW.out.bR) ?_
                  simp only [Act.put, List.setIfInBounds_toArray, List.set_cons_zero, List.set_cons_succ]
                  refine doc_val rfl (by first | (go_simp; done) | (go_simp; exact ⟨rfl, rfl⟩) | (go_simp; with_reducible rfl)) ?_
                  simp only [Act.put, List.setIfInBounds_toArray, List.set_cons_zero, List.set_cons_succ]
                  refine doc_end (HF.out _ _ ?_)
                  clear HF Fz
                  obtain ⟨f1, f2, f3, f4, f5⟩ := PW.out.fin hfr HB.out hrw
                  have g1 := PW.out.g1
                  have g3 := PW.out.g3
                  refine ‹∀ (a : Act) (w : World), Code.wp Try.prog Code.ret _ a w → _› _ _ ?_
                  refine wp_ret ?_
                  exact bodyPost_ret (fr_result2 rfl rfl f2) rfl ⟨_, _, _, _, _, _, _, _, _, bb, rfl, f1, HRb.out.1, fun P h => by
                    have := HRb.out.2 P h
                    subst this
                    exact ⟨old, G1, f3, f4, g1, G3, f5, g3⟩⟩
end Go.Proofs.Ytboekafmplomhaa
