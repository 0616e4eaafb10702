/-
  FrozenBack: the walk.
-/
import Derived.Test.YtboekafmplomhaaZFzSpP
import Derived.Test.YtboekafmplomhaaZFzBkB
import Derived.Test.YtboekafmplomhaaZKnown33
import Derived.Test.YtboekafmplomhaaZQMeansC
set_option linter.unusedVariables false
set_option linter.unusedSimpArgs false
namespace Go.Proofs.Ytboekafmplomhaa
open Go.RowKit

set_option maxRecDepth 100000 in
set_option maxHeartbeats 16000000 in
theorem fback_any {w : World} {sv0 sv1 : Value} {l l2 : List Int} (hl0 : Rd w 1 sv0 (ints l)) (hI : ∀ x ∈ l, -9223372036854775808 ≤ x ∧ x ≤ 9223372036854775807) (hm0 : Rd w 1 sv1 (ints l2)) (hJ : ∀ x ∈ l2, -9223372036854775808 ≤ x ∧ x ≤ 9223372036854775807) :
    Calls Try.prog 14 #[sv0, sv1] w (Pure (.bool true) w) := by
  have MA := hid (made33_any (cap := 1048576) (by omega) (by omega) hl0 hI)
  have MB := hid (fun W (hb : Below w.heap.size w W) => made33_any (cap := 1048576) (by omega) (by omega) (hm0.below hb) hJ)
  clear hl0 hI hm0 hJ
  go_enter Try.func14, Try.ntmps14
  go_upto_region 2 with ((with_reducible refine (MA.out).mono ?_); clear MA; rintro e w1 ⟨p, F, sv, G, rfl, hH, hb1⟩)
  have MB1 := hid (MB.out w1 hb1)
  clear MB
  go_upto_region 5 with ((with_reducible refine (MB1.out).mono ?_); clear MB1; rintro e w2 ⟨p2, F2, sv2, G2, rfl, hT, hb2⟩)
  obtain ⟨MS, hal2⟩ := madeV_ok (cap := 1048576) (by omega) (by omega) l
  obtain ⟨MT, _⟩ := madeV_ok (cap := 1048576) (by omega) (by omega) l2
  have CS := madeV_cap' (cap := 1048576) (by omega) (by omega) l
  have CT := madeV_cap' (cap := 1048576) (by omega) (by omega) l2
  generalize (madeV 1048576 l).1 = S at *
  generalize (madeV 1048576 l).2 = all at *
  generalize (madeV 1048576 l2).1 = T at *
  generalize (madeV 1048576 l2).2 = allT at *
  have LS : Liv S 5120 := ⟨MS.wf, MS.sated, MS.below, CS, MS.count⟩
  have LT : Liv T 5120 := ⟨MT.wf, MT.sated, MT.below, CT, MT.count⟩
  have hG1 := RowIs.lt hH.row
  have hF1 := hH.sto.lt
  have hH2 := hH.below hb2
  obtain ⟨_, ⟨_, q, _⟩ | ⟨g, sc, cur, rfl, rfl, hcur⟩⟩ := id hH.row
  · omega
  obtain ⟨_, _, e0, hmx⟩ := RowIs.form hH.row
  have hmx2 : all.length ≤ 9223372036854775807 := by unfold maxLen at hmx; omega
  obtain ⟨k, hk⟩ : ∃ k, k = all.length - 10 := ⟨_, rfl⟩
  have wd : IntKind.i64.wrap ((all.length : Int) - 10) = (all.length : Int) - 10 := IntWalk.i64_in _ (by omega)
  have hmx3 : (if (10 : Int) < (all.length : Int) then (all.length : Int) - 10 else 0) = (k : Int) := by split <;> omega
  have hk0 : (0 : Int) ≤ (k : Int) := by omega
  have hk1 : (k : Int) ≤ (all.length : Int) := by omega
  have hk2 : k ≤ all.length := by omega
  obtain ⟨S', T', q, BO⟩ := back_ok LS LT (by omega) (by omega) (l := all.drop k) (fun a ha => MS.has a (List.mem_of_mem_drop ha)) (by simp; omega)
  obtain ⟨rn, hrn⟩ : ∃ n, n = (all.drop k).length := ⟨_, rfl⟩
  have rn0 : 0 < rn := by rw [hrn]; simp; omega
  have rnk : k + rn = all.length := by rw [hrn]; simp; omega
  have rn10 : rn ≤ 10 := by omega
  have RNK := hid rnk
  have HRN := hid hrn
  have HW2 := hid (ordS_wrt MS.wf (l := all.drop k) (by omega))
  have HSsc : all.length ≤ sc ∧ ¬ sc = k := by
    obtain ⟨_, ⟨_, q, _⟩ | ⟨g', sc', cur', q, _, _, q2, _⟩⟩ := hH.row
    · omega
    · injection q with _ _ q3
      omega
  obtain ⟨hsc1, hsc2⟩ := HSsc
  have hsc3 : (all.length : Int) ≤ (sc : Int) := by omega
  have BO := hid BO
  have HH := hid hH2
  have HT := hid hT
  have LS := hid LS
  have LT := hid LT
  have HF1 := hid hF1
  have HG1 := hid (And.intro (hG1 g rfl) (hH.rowFrom g rfl))
  have HFF := hid hH.from_
  have HB1 := hid hb1
  have HB2 := hid hb2
  clear hcur e0 hmx hk hrn rnk hH hT hH2 hF1 hG1 hb1 hb2 MS MT CS CT
  refine wp_region_doc (fun F' hF => ?_)
  have HF := hid hF
  clear hF
  iterate 5 (refine doc_val rfl (by first | (go_simp; done) | (go_simp; exact ⟨rfl, rfl⟩) | (go_simp; with_reducible rfl)) ?_; simp only [Act.put, List.setIfInBounds_toArray, List.set_cons_zero, List.set_cons_succ])
  iterate 2 (refine doc_val rfl (by first | (go_simp; done) | (go_simp; exact ⟨rfl, rfl⟩) | (go_simp; with_reducible rfl)) ?_; simp only [Act.put, List.setIfInBounds_toArray, List.set_cons_zero, List.set_cons_succ])
  refine doc_end (HF.out _ _ ?_)
  clear HF F' wd hmx3
  have e1 : all.length - k = rn := by have := RNK.out; omega
  rw [e1]
  clear e1
  have RR := hid (show Rd w2 1 (.slice (some ⟨g, k, none⟩) rn (sc - k)) (ints (all.drop k)) by
    have := Rd.dropI (RowIs.rd HH.out.row) hk2
    rwa [show all.length - k = rn by have := RNK.out; omega] at this)
  have WL := hid (write_live HH.out.sto LS.out.wf LS.out.sated RR.out (by rw [← HRN.out]; omega))
  obtain ⟨WB, hWB⟩ : ∃ B, B = writeB (ordS S (all.drop k)).1 (ordS S (all.drop k)).2 := ⟨_, rfl⟩
  have hby : ∀ y ∈ WB, y < 256 := by rw [hWB]; exact writeB_byte _ _
  have r1 := BO.out.own
  have r2 := BO.out.other
  have r3 := BO.out.again
  rw [← hWB] at WL r1 r2
  have HBY := hid hby
  have R1 := hid r1
  have R2 := hid r2
  have R3 := hid r3
  have HWB := hid hWB
  clear hby r1 r2 r3 hWB
  go_upto_region 7 with ((with_reducible refine (WL.out).mono ?_); clear WL; rintro e w3 ⟨v, rfl, ⟨Gb, hrb, hgb⟩, hb3⟩)
  have HS3 := HH.out.sto.below hb3
  have RD1 := read_live HS3 LS.out.wf LS.out.sated (RowIs.rd hrb) HBY.out
  rw [R1.out] at RD1
  have RD1 := hid RD1
  have HRB := hid hrb
  have HGB := hid hgb
  have HB3 := hid hb3
  clear hrb hgb hb3 HS3
  go_upto_region 8 with ((with_reducible refine (RD1.out).mono ?_); clear RD1; rintro e w4 ⟨svp, Gp, F', rfl, hrp, hgp, hS4, st4⟩)
  -- what turned: F alone, all of it older than w1
  have hF2 : ∀ x ∈ F2, w1.heap.size ≤ x ∧ x < w2.heap.size := fun x hx => ⟨HT.out.from_ x hx, HT.out.sto.lt x hx⟩
  have s12 := HB2.out.size
  have s23 := HB3.out.size
  have s34 := st4.size
  have hT4 : StoIs w4 p2 F2 T := (HT.out.sto.below HB3.out).keep (fun x hx => st4.block x (by have := hF2 x hx; omega) (fun hm => by have := HF1.out x hm; have := hF2 x hx; omega))
  have hrb4 := RowIs.keep HRB.out (w' := w4) (fun x hx => st4.block x (RowIs.lt HRB.out x hx) (fun hm => by have := HF1.out x hm; have := HGB.out x hx; omega))
  have hgF : g ∉ F := HG1.out.2.2
  have hRR4 := RowIs.keep (RowIs.keep HH.out.row (fun x hx => HB3.out.block x (RowIs.lt HH.out.row x hx))) (w' := w4) (fun x hx => by
    cases hx
    exact st4.block g (by have := HG1.out.1; omega) hgF)
  have hF' : ∀ x ∈ F', x < w1.heap.size ∨ (w3.heap.size ≤ x ∧ x < w4.heap.size) := fun x hx => by
    rcases st4.fresh x hx with h | h
    · exact .inl (HF1.out x h)
    · exact .inr h
  have RD2 := read_live hT4 LT.out.wf LT.out.sated (RowIs.rd hrb4) HBY.out
  rw [R2.out] at RD2
  have RD2 := hid RD2
  have HF2 := hid hF2
  have HF' := hid hF'
  have HS4 := hid hS4
  have ST4 := hid st4
  have HRP := hid hrp
  have HGP := hid hgp
  have HRB4 := hid hrb4
  have HRR4 := hid hRR4
  clear hF2 hF' hS4 st4 hT4 hrb4 hrp hgp hRR4
  go_upto_region 9 with ((with_reducible refine (RD2.out).mono ?_); clear RD2; rintro e w5 ⟨svq, Gq, F2', rfl, hrq, hgq, hT5, st5⟩)
  have s45 := st5.size
  have hql : q.length = rn := by rw [BO.out.len, ← HRN.out]
  rw [hql] at hrq
  obtain ⟨_, ⟨_, qz, _⟩ | ⟨gq, qc, qcur, rfl, rfl, -⟩⟩ := id hrq
  · omega
  have hS5 : StoIs w5 p F' S' := HS4.out.keep (fun x hx => st5.block x (HS4.out.lt x hx) (fun hm => by have := HF2.out x hm; have := HF'.out x hx; omega))
  have hrb5 := RowIs.keep HRB4.out (w' := w5) (fun x hx => st5.block x (RowIs.lt HRB4.out x hx) (fun hm => by have := HF2.out x hm; have := HGB.out x hx; omega))
  have hrp5 := RowIs.keep HRP.out (w' := w5) (fun x hx => st5.block x (RowIs.lt HRP.out x hx) (fun hm => by have := HF2.out x hm; have := (HGP.out x hx).1; omega))
  have hRR5 := RowIs.keep HRR4.out (w' := w5) (fun x hx => by
    cases hx
    exact st5.block g (RowIs.lt HRR4.out g rfl) (fun hm => by have := HF2.out g hm; have := HG1.out.1; omega))
  have WL2 := write_live hT5 BO.out.wfT BO.out.satT (RowIs.rd hrq) (by rw [BO.out.len, ← HRN.out]; omega)
  rw [R3.out, ← HWB.out] at WL2
  have WL2 := hid WL2
  have hb5 : Below w.heap.size w w5 := by
    have b3 : Below w.heap.size w w3 := HB1.out.trans ((HB2.out.mono HB1.out.size).trans (HB3.out.mono (by have := HB1.out.size; omega)))
    have b4 := b3.trans (ST4.out.below (fun x hx => HFF.out x hx) b3.size)
    exact b4.trans (st5.below (fun x hx => by have := HF2.out x hx; have := HB1.out.size; omega) b4.size)
  have HB5 := hid hb5
  have HS5 := hid hS5
  have HT5 := hid hT5
  have HRB5 := hid hrb5
  have HRP5 := hid hrp5
  have HRR5 := hid hRR5
  have HRQ := hid hrq
  clear hS5 hT5 hrb5 hrp5 hRR5 hrq hgq st5 hb5 s12 s23 s34 s45
  go_upto_region 10 with ((with_reducible refine (WL2.out).mono ?_); clear WL2; rintro e w6 ⟨vb, rfl, ⟨Gc, hrc, hgc⟩, hb6⟩)
  have EQ := equal_ints ((RowIs.rd HRP5.out).below hb6) (Rd.below (show Rd w5 1 (.slice (some ⟨g, k, none⟩) rn (sc - k)) (ints (all.drop k)) by
    have := Rd.dropI (RowIs.rd HRR5.out) hk2
    rwa [show all.length - k = rn by have := RNK.out; omega] at this) hb6)
  rw [decide_eq_true rfl] at EQ
  have C1 := (RowIs.rd HRB5.out).below hb6
  have C2 := RowIs.rd hrc
  have HQL := hid hql
  have HB6 := hid hb6
  clear hql hb6 hrc hgc
  refine wp_region_doc (fun Fz hF => ?_)
  have HF := hid hF
  clear hF
  iterate 17 (refine doc_val rfl (by first | (go_simp; done) | (go_simp; exact ⟨rfl, rfl⟩) | (go_simp; with_reducible rfl)) ?_; simp only [Act.put, List.setIfInBounds_toArray, List.set_cons_zero, List.set_cons_succ])
  refine doc_call rfl (by first | (go_simp; done) | (go_simp; exact ⟨rfl, rfl⟩) | (go_simp; with_reducible rfl)) (EQ.mono ?_)
  rintro _ _ ⟨rfl, m7, d7, rfl⟩
  refine ⟨_, rfl, ?_⟩
  simp only [Act.put, List.setIfInBounds_toArray, List.set_cons_zero, List.set_cons_succ]
  have hs1 := str_any (C1.below (show Below w6.heap.size w6 (w6.ext m7 d7) from by (repeat' (first | (with_reducible exact Below.refl _ _) | (with_reducible refine Below.ext_mk ?_ ?_ _ _) | (with_reducible refine Below.alloc ?_ ?_ _) | (with_reducible refine Below.drew ?_) | (with_reducible refine Below.setCell ?_ ?_ _) | go_size))))
  have hs2 := str_any (C2.below (show Below w6.heap.size w6 (w6.ext m7 d7) from by (repeat' (first | (with_reducible exact Below.refl _ _) | (with_reducible refine Below.ext_mk ?_ ?_ _ _) | (with_reducible refine Below.alloc ?_ ?_ _) | (with_reducible refine Below.drew ?_) | (with_reducible refine Below.setCell ?_ ?_ _) | go_size))))
  iterate 16 (refine doc_val rfl (by first | (go_simp; done) | (go_simp; exact ⟨rfl, rfl⟩) | (go_simp; with_reducible rfl)) ?_; simp only [Act.put, List.setIfInBounds_toArray, List.set_cons_zero, List.set_cons_succ])
  refine doc_end (HF.out _ _ ?_)
  clear HF C1 C2 EQ
  go_upto_region 12 with (fail)
  refine wp_gen (fun V hV => ?_)
  have hbV : Below w5.heap.size w5 V := by rw [hV]; exact Below.ext_mk HB6.out HB6.out.size _ _
  have HBV := hid hbV
  clear hV hbV
  have HSV := hid (HS5.out.below HBV.out)
  have HTV := hid (HT5.out.below HBV.out)
  have HOS := hid (fun W (hb : Below V.heap.size V W) (bs : List Bool) sv (hl : BitsAre W sv bs) d (hd : S'.has d) => (show Calls Try.prog 19 #[.pointer (some ⟨p, 0, none⟩), .int .i64 d, sv] W (Pure (.bool (ev S' (bitsB bs) d)) W) from by
    have := holds_call (HSV.out.below hb) BO.out.wfS d hl
    rwa [right_has hd] at this))
  have HOT := hid (fun W (hb : Below V.heap.size V W) (bs : List Bool) sv (hl : BitsAre W sv bs) d (hd : T'.has d) => (show Calls Try.prog 19 #[.pointer (some ⟨p2, 0, none⟩), .int .i64 d, sv] W (Pure (.bool (ev T' (bitsB bs) d)) W) from by
    have := holds_call (HTV.out.below hb) BO.out.wfT d hl
    rwa [right_has hd] at this))
  have bq := RowIs.keep HRQ.out (w' := V) (fun x hx => HBV.out.block x (RowIs.lt HRQ.out x hx))
  have br := RowIs.keep HRR5.out (w' := V) (fun x hx => HBV.out.block x (RowIs.lt HRR5.out x hx))
  have CR := hid (fun (i : Nat) (hi : i < rn) => (show ∃ a b : Int, V.cell? ⟨g, k + i, none⟩ = some (.int .i64 a) ∧ V.cell? ⟨gq, i, none⟩ = some (.int .i64 b) ∧ g < V.heap.size ∧ gq < V.heap.size ∧ S'.has a ∧ T'.has b ∧ (∀ β, ev S' β a = ev T' β b) from by
    have hia : k + i < all.length := by have := RNK.out; omega
    have hiq : i < q.length := by have := HQL.out; omega
    have ga : all[k + i]? = some all[k + i] := by simp [hia]
    have gb : q[i]? = some q[i] := by simp [hiq]
    obtain ⟨_, _, e1, e2, e3, e4⟩ := RowIs.one br (i := k + i) (u := .int .i64 all[k + i]) (by simp [ints, hia])
    obtain ⟨_, _, f1, f2, f3, f4⟩ := RowIs.one bq (i := i) (u := .int .i64 q[i]) (by simp [ints, hiq])
    cases e2
    cases f2
    obtain ⟨h1, h2, h3⟩ := BO.out.mean i all[k + i] q[i] (by rw [List.getElem?_drop]; exact ga) gb
    exact ⟨all[k + i], q[i], e4, f4, e3, f3, h1, h2, h3⟩))
  clear bq br
  have KN := hid (And.intro hk2 hsc2)
  go_wp2_with fail
  go_loopw [102] (fun iv wr => ∃ n : Nat, n ≤ 256 ∧ iv = .int .i64 n ∧ Below V.heap.size V wr) (fun iv _ => 256 - (intOf iv).toNat)
  case atStart => exact ⟨0, by omega, rfl, Below.refl _ _⟩
  case round =>
    obtain ⟨n, hn, rfl, hb⟩ := hrel
    by_cases hlt : n < 256
    · have hn1 : (n : Int) < 256 := by omega
      have hmk8 : ∀ w : World, (Instr.makeSlice 33 (.int .i64 8) (.int .i64 8)).run Try.prog w = .ok (.slice (some ⟨w.heap.size, 0, none⟩) 8 8) (w.alloc (.cells (madeCells (Value.bool false).cells (8 * infoBool.size)) 4)) := make_row 33 4 infoBool (.bool false) Try.underlying33 infoBool_is infoBool_zero .i64 .i64 8 8 (Nat.le_refl _) (by rw [infoBool_bytes]; omega) (by omega)
      rw [infoBool_size, Nat.mul_one] at hmk8
      go_upto_region 16 with (fail)
      refine wp_gen (fun X hX => ?_)
      have hbX : Below wr.heap.size wr X := by rw [hX]; (repeat' (first | (with_reducible exact Below.refl _ _) | (with_reducible refine Below.ext_mk ?_ ?_ _ _) | (with_reducible refine Below.alloc ?_ ?_ _) | (with_reducible refine Below.drew ?_) | (with_reducible refine Below.setCell ?_ ?_ _) | go_size))
      have hL : Arr X wr.heap.size 4 (bools (brow8 n 0)) := by
        rw [hX, brow8_start]
        exact Arr.made (z := .bool false) rfl
      have hb2 : Below V.heap.size V X := hb.trans (hbX.mono hb.size)
      have hge : V.heap.size ≤ wr.heap.size := hb.size
      obtain ⟨gb, hgb⟩ : ∃ g, g = wr.heap.size := ⟨_, rfl⟩
      rw [← hgb] at hL hge ⊢
      clear hX hgb hmk8 hb hbX
      go_wp2_with fail
      go_loopw [108] (fun iv wr => ∃ v : Nat, v ≤ 8 ∧ iv = .int .i64 v ∧ Arr wr gb 4 (bools (brow8 n v)) ∧ Below V.heap.size V wr) (fun iv _ => 8 - (intOf iv).toNat)
      case atStart => exact ⟨0, by omega, rfl, hL, hb2⟩
      case round =>
        obtain ⟨v, hv, rfl, hA, hb3⟩ := hrel
        by_cases hv8 : v < 8
        · have hv1 : (v : Int) < 8 := by omega
          have hv0 : (0 : Int) ≤ (v : Int) := by omega
          have hbit := bit256 ⟨n, hlt⟩ ⟨v, hv8⟩
          simp only at hbit
          have hc := hA.cell v
          rw [show (bools (brow8 n v))[v]? = some (.bool ((brow8 n v).getD v false)) by simp [bools, brow8, hv8]] at hc
          have hf := hA.free v
          have hz := hA.lt
          have AA := hid hA
          clear hA hL hb2
          go_wp2_with fail
          go_roundw
          case rel =>
            refine ⟨v + 1, by omega, by go_num, ?_, ?_⟩
            · rw [← brow8_set n v hv8]
              exact ((AA.out.set_ _ _)).below (by (repeat' (first | (with_reducible exact Below.refl _ _) | (with_reducible refine Below.ext_mk ?_ ?_ _ _) | (with_reducible refine Below.alloc ?_ ?_ _) | (with_reducible refine Below.drew ?_) | (with_reducible refine Below.setCell ?_ ?_ _) | go_size)))
            · exact (hb3.setCell hge _).trans (by (repeat' (first | (with_reducible exact Below.refl _ _) | (with_reducible refine Below.ext_mk ?_ ?_ _ _) | (with_reducible refine Below.alloc ?_ ?_ _) | (with_reducible refine Below.drew ?_) | (with_reducible refine Below.setCell ?_ ?_ _) | go_size)))
          case measure => simp [intOf]; omega
        · obtain rfl : v = 8 := by omega
          have hB8 : BitsAre wr (.slice (some ⟨gb, 0, none⟩) 8 8) (brow8 n 8) := by
            have := hA.bits (by rw [brow8_length]; omega)
            rwa [brow8_length] at this
          obtain ⟨l8, hl8⟩ : ∃ l8, l8 = brow8 n 8 := ⟨_, rfl⟩
          rw [← hl8] at hB8
          have HB8 := hid hB8
          clear hl8 hA hL hb2 hB8
          generalize wr = Z at *
          go_wp2_with fail
          go_loopw [122] (fun iv wz => ∃ i : Nat, i ≤ rn ∧ iv = .int .i64 i ∧ Below Z.heap.size Z wz) (fun iv _ => rn - (intOf iv).toNat)
          case atStart => exact ⟨0, by omega, rfl, Below.refl _ _⟩
          case round =>
            obtain ⟨i, hi, rfl, hb4⟩ := hrel
            by_cases hir : i < rn
            · obtain ⟨a, b, ca, cb, zg, zq, ha, hbb, hev⟩ := CR.out i hir
              have hbz : Below V.heap.size V wr := hb3.trans (hb4.mono hb3.size)
              have ca1 := (hbz.cell (p := ⟨g, k + i, none⟩) zg).trans ca
              have cb1 := (hbz.cell (p := ⟨gq, i, none⟩) zq).trans cb
              have zg1 := Nat.lt_of_lt_of_le zg hbz.size
              have zq1 := Nat.lt_of_lt_of_le zq hbz.size
              have hi1 : (i : Int) < (rn : Int) := by omega
              have hi0 : (0 : Int) ≤ (i : Int) := by omega
              have H1 := hid (fun W (hb : Below wr.heap.size wr W) => HOS.out W (hbz.trans (hb.mono hbz.size)) l8 _ ((HB8.out.below hb4).below hb) a ha)
              have H2 := hid (fun W (hb : Below wr.heap.size wr W) => HOT.out W (hbz.trans (hb.mono hbz.size)) l8 _ ((HB8.out.below hb4).below hb) b hbb)
              rw [← hev] at H2
              generalize ev S' (bitsB l8) a = tv at *
              have HBZ := hid hb4
              clear ca cb zg zq hev hbz hb4
              go_upto_region 24 with (fail)
              refine wp_region_ext (by kernel_rfl) (by kernel_rfl) (fun F hF => ?_)
              have HF := hid hF; clear hF
              repeat (first
                | (apply text_skip; (focus rfl); simp only [Act.put, List.setIfInBounds_toArray, List.set_cons_zero, List.set_cons_succ])
                | (apply text_val; (focus rfl); (focus (intro _ _; go_simp; with_reducible rfl)); simp only [Act.put, List.setIfInBounds_toArray, List.set_cons_zero, List.set_cons_succ])
                | (apply text_call; (focus rfl); (focus (intro _ _; go_simp; exact ⟨rfl, rfl⟩)); (focus (intro _ _; with_reducible (first | exact H1.out _ (by (repeat' (first | (with_reducible exact Below.refl _ _) | (with_reducible refine Below.ext_mk ?_ ?_ _ _) | (with_reducible refine Below.alloc ?_ ?_ _) | (with_reducible refine Below.drew ?_) | (with_reducible refine Below.setCell ?_ ?_ _) | go_size))) | exact H2.out _ (by (repeat' (first | (with_reducible exact Below.refl _ _) | (with_reducible refine Below.ext_mk ?_ ?_ _ _) | (with_reducible refine Below.alloc ?_ ?_ _) | (with_reducible refine Below.drew ?_) | (with_reducible refine Below.setCell ?_ ?_ _) | go_size)))))); simp only [Act.put, List.setIfInBounds_toArray, List.set_cons_zero, List.set_cons_succ])
                | (apply text_if; (focus (first | exact wanted_t rfl rfl | exact wanted_f rfl rfl | exact wanted_gt rfl rfl | exact wanted_gf rfl rfl)); (focus (intro hc _ _; (try simp only [Bool.and_eq_true, Bool.not_eq_true', Bool.true_and] at hc); go_simp; with_reducible rfl)); simp only [Act.put, List.setIfInBounds_toArray, List.set_cons_zero, List.set_cons_succ])
                | (apply text_if_call; (focus (first | exact wanted_t rfl rfl | exact wanted_f rfl rfl | exact wanted_gt rfl rfl | exact wanted_gf rfl rfl)); (focus (intro hc _ _; (try simp only [Bool.and_eq_true, Bool.not_eq_true', Bool.true_and] at hc); go_simp; exact ⟨rfl, rfl⟩)); (focus (intro hc _ _; with_reducible (first | exact H1.out _ (by (repeat' (first | (with_reducible exact Below.refl _ _) | (with_reducible refine Below.ext_mk ?_ ?_ _ _) | (with_reducible refine Below.alloc ?_ ?_ _) | (with_reducible refine Below.drew ?_) | (with_reducible refine Below.setCell ?_ ?_ _) | go_size))) | exact H2.out _ (by (repeat' (first | (with_reducible exact Below.refl _ _) | (with_reducible refine Below.ext_mk ?_ ?_ _ _) | (with_reducible refine Below.alloc ?_ ?_ _) | (with_reducible refine Below.drew ?_) | (with_reducible refine Below.setCell ?_ ?_ _) | go_size)))))); simp only [Act.put, List.setIfInBounds_toArray, List.set_cons_zero, List.set_cons_succ]))
              refine text_nil (HF.out _ (fun mx dx => ?_))
              clear HF F
              go_wp2_with fail
              go_roundw
              case rel => exact ⟨i + 1, by omega, by go_num, by have hz := HBZ.out; have hzs := hz.size; (repeat' (first | (with_reducible exact hz) | (with_reducible exact Below.refl _ _) | (with_reducible refine Below.ext_mk ?_ ?_ _ _) | (with_reducible refine Below.alloc ?_ ?_ _) | (with_reducible refine Below.drew ?_) | (with_reducible refine Below.setCell ?_ ?_ _) | go_size))⟩
              case measure => simp [intOf]; omega
            · obtain rfl : i = rn := by omega
              have HBZ := hid (hb3.trans (hb4.mono hb3.size))
              clear hb4 hb3
              go_wp2_with fail
              go_roundw
              case rel => exact ⟨n + 1, by omega, by go_num, HBZ.out⟩
              case measure => simp [intOf]; omega
    · obtain rfl : n = 256 := by omega
      have hbw : Below w.heap.size w V := HB5.out.trans (HBV.out.mono HB5.out.size)
      have HBW := hid (hbw.trans (hb.mono hbw.size))
      clear hbw hb
      go_upto_region 28 with (fail)
      refine wp_region_seq (fun F hF => ?_)
      have HF := hid hF; clear hF
      repeat (first
        | (apply text_skip; (focus rfl); simp only [Act.put, List.setIfInBounds_toArray, List.set_cons_zero, List.set_cons_succ])
        | (apply text_val; (focus rfl); (focus (intro _ _; go_simp; with_reducible rfl)); simp only [Act.put, List.setIfInBounds_toArray, List.set_cons_zero, List.set_cons_succ])
        | (apply text_call; (focus rfl); (focus (intro _ _; go_simp; exact ⟨rfl, rfl⟩)); (focus (intro _ _; with_reducible (exact known33 _))); simp only [Act.put, List.setIfInBounds_toArray, List.set_cons_zero, List.set_cons_succ])
        | (apply text_if; (focus (first | exact wanted_t rfl rfl | exact wanted_f rfl rfl | exact wanted_gt rfl rfl | exact wanted_gf rfl rfl)); (focus (intro hc _ _; (try simp only [Bool.and_eq_true, Bool.not_eq_true', Bool.true_and] at hc); go_simp; with_reducible rfl)); simp only [Act.put, List.setIfInBounds_toArray, List.set_cons_zero, List.set_cons_succ])
        | (apply text_if_call; (focus (first | exact wanted_t rfl rfl | exact wanted_f rfl rfl | exact wanted_gt rfl rfl | exact wanted_gf rfl rfl)); (focus (intro hc _ _; (try simp only [Bool.and_eq_true, Bool.not_eq_true', Bool.true_and] at hc); go_simp; exact ⟨rfl, rfl⟩)); (focus (intro hc _ _; with_reducible (exact known33 _))); simp only [Act.put, List.setIfInBounds_toArray, List.set_cons_zero, List.set_cons_succ]))
      refine text_nil (HF.out _ (fun mx dx => ?_))
      clear HF F
      go_wp2_with fail
      go_returns
      exact Pure.of rfl (Below.ext_mk HBW.out HBW.out.size _ _)
end Go.Proofs.Ytboekafmplomhaa
