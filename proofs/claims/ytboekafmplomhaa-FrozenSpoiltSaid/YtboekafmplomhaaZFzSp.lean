/-
  FrozenSpoilt: the walk.
-/
import Derived.Test.YtboekafmplomhaaZFzSpP
import Derived.Test.YtboekafmplomhaaZKnown33
import Derived.Test.YtboekafmplomhaaZQMeansC
set_option linter.unusedVariables false
set_option linter.unusedSimpArgs false
namespace Go.Proofs.Ytboekafmplomhaa
open Go.RowKit

set_option maxRecDepth 100000 in
theorem cloneB_any {w : World} {b off c : Nat} {l : List Nat} (h : Rd w 1 (.slice (some ⟨b, off, none⟩) l.length c) (byts l)) (h0 : 0 < l.length) (hk : l.length ≤ 10000000) :
    Calls Try.prog 72 #[.slice (some ⟨b, off, none⟩) l.length c] w
      (fun e w' => ∃ g c', e = .returned (.slice (some ⟨g, 0, none⟩) l.length c') ∧ RowIs w' (.slice (some ⟨g, 0, none⟩) l.length c') (some g) 5 1 l.length (byts l) ∧ w.heap.size ≤ g ∧ Below w.heap.size w w') := by
  have hrow : RowIs (w.alloc (.cells #[] 5)) (.slice (some ⟨w.heap.size, 0, none⟩) 0 0) (some w.heap.size) 5 1 0 [] :=
    ⟨by simp, .inr ⟨w.heap.size, 0, #[], rfl, rfl, World.heap_alloc_last w _, Nat.le_refl _, Nat.zero_le _, by simp, by simp⟩⟩
  have hbl : Below w.heap.size w (w.alloc (.cells #[] 5)) := by (repeat' (first | (with_reducible exact Below.refl _ _) | (with_reducible refine Below.ext_mk ?_ ?_ _ _) | (with_reducible refine Below.alloc ?_ ?_ _) | (with_reducible refine Below.drew ?_) | (with_reducible refine Below.setCell ?_ ?_ _) | go_size))
  obtain ⟨a', n', c', e1, hc1, hc2, hc3, h5⟩ := h
  cases e1
  obtain ⟨b', off', e1, hb1, hc⟩ := h5 h0
  cases e1
  obtain ⟨v', w1, G', r1, r2, r3, r4⟩ := append_row (P := Try.prog) 100 100 infoU8 (.int .u8 0) 1 Try.underlying100 infoU8_is infoU8_zero infoU8_size infoU8_bytes rfl (by omega) hrow
    ⟨b, off, none⟩ l.length c (byts l) (by rw [byts_length]; omega) (fun j u hu => by
      rw [show (⟨b, off, none⟩ : Addr).add j = ⟨b, off + j, none⟩ from Addr.add_lit ..]
      exact (hbl.cell (p := ⟨b, off + j, none⟩) hb1).trans (hc j u hu)) (by intro u hu; simp [byts] at hu; obtain ⟨x, _, rfl⟩ := hu; rfl) h0 (by unfold maxLen; omega) (by omega)
  have hfin : Below w.heap.size w w1 := hbl.grown r3 (by simp) (fun g hg => by cases hg; exact Nat.le_refl _)
  rw [Nat.zero_add, List.nil_append] at r2
  have hG : w.heap.size ≤ G' := by
    rcases r4 with e | ⟨e, _⟩
    · cases e; exact Nat.le_refl _
    · simp at e; omega
  obtain ⟨a', sc', rfl, _⟩ := r2.form
  obtain ⟨rfl, -⟩ := RowIs.addr3 r2
  have hnn : ∀ w, (binOp BinOp.eql 100 (.slice (some ⟨b, off, none⟩) l.length c) (.slice none 0 0)).run Try.prog w = .ok (.bool false) w := fun _ => by kernel_rfl
  have R1 := hid r1
  clear r1 r3 r4 hrow hbl hc h5
  go_enter Try.func72, Try.ntmps72
  go_upto_region 3 with (fail)
  refine wp_region_doc (fun F' hF => ?_)
  have HF := hid hF
  clear hF
  iterate 2 (refine doc_val rfl (by first | (go_simp; done) | (go_simp; exact ⟨rfl, rfl⟩) | (go_simp; with_reducible rfl)) ?_; simp only [Act.put, List.setIfInBounds_toArray, List.set_cons_zero, List.set_cons_succ])
  refine doc_val rfl (run_append_op _ _ _ _ _ _ _ _ _ R1.out) ?_
  simp only [Act.put, List.setIfInBounds_toArray, List.set_cons_zero, List.set_cons_succ]
  refine doc_val rfl (by first | (go_simp; done) | (go_simp; exact ⟨rfl, rfl⟩) | (go_simp; with_reducible rfl)) ?_
  simp only [Act.put, List.setIfInBounds_toArray, List.set_cons_zero, List.set_cons_succ]
  refine doc_end (HF.out _ _ ?_)
  clear HF F'
  go_wp2_with fail
  go_returns
  exact ⟨G', sc', rfl, r2, hG, hfin⟩
theorem u64_nat (x : Int) : ∃ A : Nat, IntKind.u64.wrap x = (A : Int) ∧ A < 18446744073709551616 := by
  rw [IntKind.wrap_u64]
  exact ⟨(x % 18446744073709551616).toNat, by omega, by omega⟩
theorem u64_rem (A n : Nat) (h0 : 0 < n) (hn : n ≤ 1000000) : ∃ k : Nat, k < n ∧ (A : Int).tmod (n : Int) = (k : Int) ∧ IntKind.u64.wrap ((A : Int).tmod (n : Int)) = (k : Int) ∧ IntKind.i64.wrap (k : Int) = (k : Int) := by
  have h1 : (A : Int).tmod (n : Int) = ((A % n : Nat) : Int) := by rw [Int.tmod_eq_emod_of_nonneg (by omega)]; rfl
  have h2 := Nat.mod_lt A h0
  refine ⟨A % n, h2, h1, ?_, IntWalk.i64_in _ (by omega)⟩
  rw [h1, IntKind.wrap_u64]
  omega
set_option maxRecDepth 100000 in
set_option maxHeartbeats 16000000 in
theorem spoilt_any {w : World} {sv0 : Value} {l : List Int} (hl0 : Rd w 1 sv0 (ints l)) (hI : ∀ x ∈ l, -9223372036854775808 ≤ x ∧ x ≤ 9223372036854775807) (at_ cut : Int) (ch : Nat) (hch : ch < 256) :
    Calls Try.prog 12 #[sv0, .int .i64 at_, .int .u8 (ch : Int), .int .i64 cut] w (Pure (.bool true) w) := by
  have MA := hid (made33_any (cap := 1048576) (by omega) (by omega) hl0 hI)
  clear hl0 hI
  go_enter Try.func12, Try.ntmps12
  go_upto_region 4 with ((with_reducible refine (MA.out).mono ?_); clear MA; rintro e w1 ⟨p, F, sv, G, rfl, hH, hb1⟩)
  obtain ⟨MO, hal2⟩ := madeV_ok (cap := 1048576) (by omega) (by omega) l
  generalize (madeV 1048576 l).1 = S at *
  generalize (madeV 1048576 l).2 = all at *
  obtain ⟨_, ⟨_, q, _⟩ | ⟨g, sc, cur, rfl, rfl, hcur⟩⟩ := id hH.row
  · omega
  have hn5 := (RowIs.form hH.row)
  obtain ⟨_, _, e0, hmx⟩ := hn5
  have hmx2 : all.length ≤ 9223372036854775807 := by unfold maxLen at hmx; omega
  obtain ⟨m, hm⟩ : ∃ m, m = all.length - 5 := ⟨_, rfl⟩
  have wd : IntKind.i64.wrap ((all.length : Int) - 5) = (all.length : Int) - 5 := IntWalk.i64_in _ (by omega)
  have hmx3 : (if (5 : Int) < (all.length : Int) then (all.length : Int) - 5 else 0) = (m : Int) := by split <;> omega
  have hm0 : (0 : Int) ≤ (m : Int) := by omega
  have hm1 : (m : Int) ≤ (all.length : Int) := by omega
  have hm2 : m ≤ all.length := by omega
  have HD := hid hm
  clear hcur e0 hmx hm
  have MO := hid MO
  have HH := hid hH
  clear hH
  refine wp_region_doc (fun F' hF => ?_)
  have HF := hid hF
  clear hF
  iterate 6 (refine doc_val rfl (by first | (go_simp; done) | (go_simp; exact ⟨rfl, rfl⟩) | (go_simp; with_reducible rfl)) ?_; simp only [Act.put, List.setIfInBounds_toArray, List.set_cons_zero, List.set_cons_succ])
  have hsc : all.length ≤ sc ∧ ¬ sc = m := by
    obtain ⟨_, ⟨_, q, _⟩ | ⟨g', sc', cur', q, _, _, q2, _⟩⟩ := HH.out.row
    · omega
    · injection q with _ _ q3
      have := HD.out
      omega
  obtain ⟨hsc1, hsc2⟩ := hsc
  have hsc3 : (all.length : Int) ≤ (sc : Int) := by omega
  refine doc_val rfl (by first | (go_simp; done) | (go_simp; exact ⟨rfl, rfl⟩) | (go_simp; with_reducible rfl)) ?_
  simp only [Act.put, List.setIfInBounds_toArray, List.set_cons_zero, List.set_cons_succ]
  have hroots : (all.drop m).length ≤ 5 := by have := HD.out; simp; omega
  have hWr := ordS_wrt MO.out.wf (l := all.drop m) (by omega)
  obtain ⟨b9, bmx⟩ := writeB_len hWr
  have hnl := ordS_len MO.out.wf (all.drop m)
  have hrl : (ordS S (all.drop m)).2.length = (all.drop m).length := by rw [(ordS_inv MO.out.wf (all.drop m)).2.2]; simp
  have hcnt := MO.out.count
  have WL := hid (write_live HH.out.sto MO.out.wf MO.out.sated (Rd.dropI (RowIs.rd HH.out.row) hm2) (by omega))
  obtain ⟨BD, hBD⟩ : ∃ B, B = bodyB (ordS S (all.drop m)).1 (ordS S (all.drop m)).2 := ⟨_, rfl⟩
  have hWB : writeB (ordS S (all.drop m)).1 (ordS S (all.drop m)).2 = sealB BD := by rw [hBD]; rfl
  rw [hWB] at WL b9 bmx
  obtain ⟨WB, hW⟩ : ∃ B, B = sealB BD := ⟨_, rfl⟩
  rw [← hW] at WL b9 bmx
  have hby : ∀ y ∈ BD, y < 256 := by rw [hBD]; exact bodyB_byte _ _
  have HWB := hid (And.intro (show ∀ y ∈ WB, y < 256 by rw [hW]; exact sealB_byte hby) (And.intro hby hW))
  obtain ⟨bn, hbn⟩ : ∃ n, n = WB.length := ⟨_, rfl⟩
  have HBN := hid hbn
  have bn9 : 9 ≤ bn := by omega
  have bnm : bn ≤ 40000 := by omega
  clear hWr hnl hrl hcnt hBD hWB hW hby b9 bmx hroots hbn
  refine doc_call rfl (by first | (go_simp; done) | (go_simp; exact ⟨rfl, rfl⟩) | (go_simp; with_reducible rfl)) ((WL.out).mono ?_)
  rintro _ w2 ⟨v, rfl, hown, hb2⟩
  refine ⟨_, rfl, ?_⟩
  simp only [Act.put, List.setIfInBounds_toArray, List.set_cons_zero, List.set_cons_succ]
  obtain ⟨Gb, hrb, hgb⟩ := hown
  rw [← HBN.out] at hrb
  obtain ⟨_, ⟨_, q, _⟩ | ⟨gb, cb, cur, rfl, rfl, -, hcb, -⟩⟩ := id hrb
  · omega
  iterate 5 (refine doc_val rfl (by first | (go_simp; done) | (go_simp; exact ⟨rfl, rfl⟩) | (go_simp; with_reducible rfl)) ?_; simp only [Act.put, List.setIfInBounds_toArray, List.set_cons_zero, List.set_cons_succ])
  refine doc_end (HF.out _ _ ?_)
  have HB2 := hid (hb1.trans (hb2.mono hb1.size))
  have HS2 := hid (HH.out.sto.below hb2)
  have HRB := hid hrb
  have HGB := hid (hgb gb rfl)
  clear HF F' WL hgb hrb hb2
  have bnn : ¬ (bn : Int) < 9 := by omega
  have CL := hid (cloneB_any (w := w2) (b := gb) (off := 0) (c := cb) (l := WB) (by rw [← HBN.out]; exact RowIs.rd HRB.out) (by have := HBN.out; omega) (by have := HBN.out; omega))
  rw [← HBN.out] at CL
  go_upto_region 8 with ((with_reducible refine (CL.out).mono ?_); clear CL; rintro e w3 ⟨gs, cs, rfl, hrs, hgs, hb3⟩)
  have HB3 := hid (HB2.out.trans (hb3.mono HB2.out.size))
  have HB3S := hid (HS2.out.below hb3)
  have HB3R := hid (RowIs.rd (RowIs.keep HRB.out (fun k hk => hb3.block k (RowIs.lt HRB.out k hk))))
  have HB3B := HB3
  have HB3F := hid HH.out.from_
  by_cases hc0 : ch = 0
  · have hc1 : ((ch : Int) != 0) = false := by rw [hc0]; rfl
    clear hrs hgs hb3 hc0
    have HCU := hid (u64_nat cut)
    obtain ⟨A, hA, -⟩ := HCU.out
    obtain ⟨k, k9, kt, kw, ki⟩ := u64_rem A 9 (by omega) (by omega)
    have RS := read_live HB3S.out MO.out.wf MO.out.sated (Rd.takeB (l := WB) (by rw [← HBN.out]; exact HB3R.out) (i := k) (c' := cb) (by rw [← HBN.out]; omega) (by omega)) (fun y hy => HWB.out.1 y (List.mem_of_mem_take hy))
    rw [read_short S (WB.take k) (by simp; omega)] at RS
    have RS := hid RS
    have kcb : (k : Int) ≤ (cb : Int) := by omega
    have kcb' : k ≤ cb := by omega
    have k0 : (0 : Int) ≤ (k : Int) := by omega
    rw [show ((9 : Nat) : Int) = 9 from rfl] at kt kw
    have RN := fun W => read_no (w := W) (q := none) (.inl rfl) (.slice (some ⟨gb, 0, none⟩) bn cb)
    have WN := fun W => write_no (w := W) (q := none) (.inl rfl) (.slice none 0 0)
    go_upto_region 14 with (fail)
    refine wp_region_doc (fun F' hF => ?_)
    have HF := hid hF
    clear hF
    iterate 4 (refine doc_val rfl (by first | (go_simp; done) | (go_simp; exact ⟨rfl, rfl⟩) | (go_simp; with_reducible rfl)) ?_; simp only [Act.put, List.setIfInBounds_toArray, List.set_cons_zero, List.set_cons_succ])
    refine doc_call rfl (by first | (go_simp; done) | (go_simp; exact ⟨rfl, rfl⟩) | (go_simp; with_reducible rfl)) ((RS.out).mono ?_)
    rintro _ w4 ⟨sv, Gs, Fs, rfl, hrs, -, hSs, sts⟩
    obtain ⟨sa, sc9, rfl, _⟩ := RowIs.form hrs
    refine ⟨_, rfl, ?_⟩
    simp only [Act.put, List.setIfInBounds_toArray, List.set_cons_zero, List.set_cons_succ]
    iterate 5 (refine doc_val rfl (by first | (go_simp; done) | (go_simp; exact ⟨rfl, rfl⟩) | (go_simp; with_reducible rfl)) ?_; simp only [Act.put, List.setIfInBounds_toArray, List.set_cons_zero, List.set_cons_succ])
    refine doc_end (HF.out _ _ ?_)
    have HBs := hid (HB3B.out.trans (sts.below (fun k hk => HB3F.out k hk) HB3B.out.size))
    clear HF F' RS hrs hSs sts
    go_upto_region 17 with (fail)
    refine wp_region_doc (fun F' hF => ?_)
    have HF := hid hF
    clear hF
    refine doc_val rfl (by first | (go_simp; done) | (go_simp; exact ⟨rfl, rfl⟩) | (go_simp; with_reducible rfl)) ?_
    simp only [Act.put, List.setIfInBounds_toArray, List.set_cons_zero, List.set_cons_succ]
    refine doc_call rfl (by first | (go_simp; done) | (go_simp; exact ⟨rfl, rfl⟩) | (go_simp; with_reducible rfl)) ((RN _).mono ?_)
    rintro _ _ ⟨rfl, m7, d7, rfl⟩
    refine ⟨_, rfl, ?_⟩
    simp only [Act.put, List.setIfInBounds_toArray, List.set_cons_zero, List.set_cons_succ]
    iterate 5 (refine doc_val rfl (by first | (go_simp; done) | (go_simp; exact ⟨rfl, rfl⟩) | (go_simp; with_reducible rfl)) ?_; simp only [Act.put, List.setIfInBounds_toArray, List.set_cons_zero, List.set_cons_succ])
    refine doc_end (HF.out _ _ ?_)
    clear HF F' RN
    go_upto_region 18 with (fail)
    refine wp_region_doc (fun F' hF => ?_)
    have HF := hid hF
    clear hF
    refine doc_call rfl (by first | (go_simp; done) | (go_simp; exact ⟨rfl, rfl⟩) | (go_simp; with_reducible rfl)) ((WN _).mono ?_)
    rintro _ _ ⟨rfl, m8, d8, rfl⟩
    refine ⟨_, rfl, ?_⟩
    simp only [Act.put, List.setIfInBounds_toArray, List.set_cons_zero, List.set_cons_succ]
    iterate 5 (refine doc_val rfl (by first | (go_simp; done) | (go_simp; exact ⟨rfl, rfl⟩) | (go_simp; with_reducible rfl)) ?_; simp only [Act.put, List.setIfInBounds_toArray, List.set_cons_zero, List.set_cons_succ])
    refine doc_end (HF.out _ _ ?_)
    clear HF F' WN
    go_upto_region 19 with (fail)
    refine wp_gen (fun Y hY => ?_)
    have hbY : Below w.heap.size w Y := by rw [hY]; exact Below.ext_mk HBs.out HBs.out.size _ _
    have HBY := hid hbY
    clear hY hbY
    refine wp_region_seq (fun F hF => ?_)
    have HF := hid hF; clear hF
    repeat (first
      | (apply text_skip; (focus rfl); simp only [Act.put, List.setIfInBounds_toArray, List.set_cons_zero, List.set_cons_succ])
      | (apply text_val; (focus rfl); (focus (intro _ _; go_simp; with_reducible rfl)); simp only [Act.put, List.setIfInBounds_toArray, List.set_cons_zero, List.set_cons_succ])
      | (apply text_call; (focus rfl); (focus (intro _ _; go_simp; exact ⟨rfl, rfl⟩)); (focus (intro _ _; with_reducible (exact known33 _))); simp only [Act.put, List.setIfInBounds_toArray, List.set_cons_zero, List.set_cons_succ])
      | (apply text_if; (focus (first | exact wanted_t rfl rfl | exact wanted_f rfl rfl | exact wanted_gt rfl rfl | exact wanted_gf rfl rfl)); (focus (intro hc _ _; (try simp only [Bool.and_eq_true, Bool.not_eq_true', Bool.true_and] at hc); go_simp; with_reducible rfl)); simp only [Act.put, List.setIfInBounds_toArray, List.set_cons_zero, List.set_cons_succ])
      | (apply text_if_call; (focus (first | exact wanted_t rfl rfl | exact wanted_f rfl rfl | exact wanted_gt rfl rfl | exact wanted_gf rfl rfl)); (focus (intro hc _ _; (try simp only [Bool.and_eq_true, Bool.not_eq_true', Bool.true_and] at hc); go_simp; exact ⟨rfl, rfl⟩)); (focus (intro hc _ _; with_reducible (exact known33 _))); simp only [Act.put, List.setIfInBounds_toArray, List.set_cons_zero, List.set_cons_succ]))
    refine text_nil (HF.out _ (fun mx dx => ?_))
    clear HF F
    go_wp2_with fail
    go_returns
    exact Pure.of rfl (Below.ext_mk HBY.out HBY.out.size _ _)
  · have hc1 : ((ch : Int) != 0) = true := by simp; omega
    have HCA := hid (u64_nat at_)
    obtain ⟨A, hA, -⟩ := HCA.out
    obtain ⟨k, kn, kt, kw, ki⟩ := u64_rem A bn (by omega) (by omega)
    have hz1 : ((bn : Int) == 0) = false := beq_eq_false_iff_ne.2 (by omega)
    have hz2 : ¬ (bn : Int) = 0 := by omega
    have wbn : IntKind.u64.wrap (bn : Int) = (bn : Int) := by rw [IntKind.wrap_u64]; omega
    have kl : (k : Int) < (bn : Int) := by omega
    have hkW : k < WB.length := by have := HBN.out; omega
    obtain ⟨y, hy⟩ : ∃ y, y = WB[k] := ⟨_, rfl⟩
    have hy256 : y < 256 := by rw [hy]; exact HWB.out.1 _ (List.getElem_mem _)
    obtain ⟨hxr, hx256⟩ := bits_xor_u8 y ch hy256 hch
    have hne : y ^^^ ch ≠ y := xor_ne y ch hc0
    obtain ⟨xx, hxx⟩ : ∃ x, x = y ^^^ ch := ⟨_, rfl⟩
    rw [← hxx] at hxr hx256 hne
    have cy : w3.cell? ⟨gs, k, none⟩ = some (.int .u8 (y : Nat)) := by
      obtain ⟨g', cap', e1, e2, e3, _⟩ := hrs.at kn (j := 0) (by omega)
      cases e2
      simp only [Nat.mul_one, Nat.add_zero] at e3
      rw [e3, hy]
      simp [byts, hkW]
    obtain ⟨hset, hfz⟩ := RowIs.setOne (i := k) (.int .u8 (xx : Nat)) hrs kn
    have eset : (byts WB).set k (.int .u8 (xx : Nat)) = byts (WB.set k xx) := by unfold byts; rw [List.map_set]
    rw [eset] at hset
    have zs : gs < w3.heap.size := RowIs.lt hrs gs rfl
    have hFgs : gs ∉ F := fun hm => by have := HS2.out.lt gs hm; omega
    obtain ⟨w5, hw5⟩ : ∃ w5, w5 = w3.setCell ⟨gs, k, none⟩ (.int .u8 (xx : Nat)) := ⟨_, rfl⟩
    rw [← hw5] at hset
    have S5 : StoIs w5 p F S := by rw [hw5]; exact HB3S.out.keep (fun q hq => Below.heap_setCell _ _ _ _ (fun e => hFgs (by have e' : q = gs := e; rw [← e']; exact hq)))
    have B5 : Below w.heap.size w w5 := by rw [hw5]; exact HB3.out.setCell (p := ⟨gs, k, none⟩) (Nat.le_trans HB2.out.size hgs) _
    have hgbs : gb ≠ gs := fun e => by have := RowIs.lt HRB.out gb rfl; omega
    have R5 := RowIs.keep (RowIs.keep HRB.out (fun q hq => hb3.block q (RowIs.lt HRB.out q hq))) (w' := w5) (fun q hq => by cases hq; rw [hw5]; exact Below.heap_setCell _ _ _ _ hgbs)
    obtain ⟨kk, hkk, hrsp⟩ := read_spoilt S (l := BD) HWB.out.2.1 (i := k) (x := xx) (by rw [← HWB.out.2.2]; exact hkW) hx256 (by simp only [← HWB.out.2.2]; rw [← hy]; exact hne) (by rw [← HWB.out.2.2, ← HBN.out]; exact bn9) (by rw [← HWB.out.2.2, ← HBN.out]; omega)
    rw [← HWB.out.2.2] at hrsp
    have RS := read_live S5 MO.out.wf MO.out.sated (l := WB.set k xx) (sv := .slice (some ⟨gs, 0, none⟩) bn cs) (RowIs.rd hset) (fun y hy => by
      rcases List.mem_or_eq_of_mem_set hy with h | rfl
      · exact HWB.out.1 y h
      · exact hx256)
    rw [hrsp] at RS
    have RS := hid RS
    have S5 := hid S5
    have B5 := hid B5
    have R5 := hid R5
    have HKK := hid hkk
    have HW5 := hid hw5
    clear hrs hgs hb3 hne hset eset hFgs hgbs hrsp hkk hy hxx HCA hw5
    go_upto_region 10 with (fail)
    rw [← HW5.out]
    go_upto_region 11 with ((with_reducible refine (RS.out).mono ?_); clear RS; rintro e w6 ⟨sv6, Gs6, F6, rfl, hrs6, -, hSs6, sts6⟩)
    obtain ⟨sa6, sc6, rfl, _⟩ := RowIs.form hrs6
    have hF6 : ∀ k ∈ F6, w.heap.size ≤ k := fun x hx => by
      rcases sts6.fresh x hx with h | h
      · exact HB3F.out x h
      · have := B5.out.size; omega
    have HB6B := hid (B5.out.trans (sts6.below (fun x hx => HB3F.out x hx) B5.out.size))
    have HB6F := hid hF6
    have HB6S := hid hSs6
    have HB6R := hid (RowIs.rd (RowIs.keep R5.out (fun x hx => sts6.block x (RowIs.lt R5.out x hx) (fun hm => by
      cases hx
      have h1 := HGB.out
      have h2 := HH.out.sto.lt gb hm
      omega))))
    clear hF6 hrs6 hSs6 sts6
    rcases HKK.out with rfl | rfl
    · clear kw kt ki kl kn hz1 hz2
      have HCU := hid (u64_nat cut)
      obtain ⟨A, hA, -⟩ := HCU.out
      obtain ⟨k, k9, kt, kw, ki⟩ := u64_rem A 9 (by omega) (by omega)
      have RS := read_live HB6S.out MO.out.wf MO.out.sated (Rd.takeB (l := WB) (by rw [← HBN.out]; exact HB6R.out) (i := k) (c' := cb) (by rw [← HBN.out]; omega) (by omega)) (fun y hy => HWB.out.1 y (List.mem_of_mem_take hy))
      rw [read_short S (WB.take k) (by simp; omega)] at RS
      have RS := hid RS
      have kcb : (k : Int) ≤ (cb : Int) := by omega
      have kcb' : k ≤ cb := by omega
      have k0 : (0 : Int) ≤ (k : Int) := by omega
      rw [show ((9 : Nat) : Int) = 9 from rfl] at kt kw
      have RN := fun W => read_no (w := W) (q := none) (.inl rfl) (.slice (some ⟨gb, 0, none⟩) bn cb)
      have WN := fun W => write_no (w := W) (q := none) (.inl rfl) (.slice none 0 0)
      go_upto_region 14 with (fail)
      refine wp_region_doc (fun F' hF => ?_)
      have HF := hid hF
      clear hF
      iterate 4 (refine doc_val rfl (by first | (go_simp; done) | (go_simp; exact ⟨rfl, rfl⟩) | (go_simp; with_reducible rfl)) ?_; simp only [Act.put, List.setIfInBounds_toArray, List.set_cons_zero, List.set_cons_succ])
      refine doc_call rfl (by first | (go_simp; done) | (go_simp; exact ⟨rfl, rfl⟩) | (go_simp; with_reducible rfl)) ((RS.out).mono ?_)
      rintro _ w7 ⟨sv, Gs, Fs, rfl, hrs, -, hSs, sts⟩
      obtain ⟨sa, sc9, rfl, _⟩ := RowIs.form hrs
      refine ⟨_, rfl, ?_⟩
      simp only [Act.put, List.setIfInBounds_toArray, List.set_cons_zero, List.set_cons_succ]
      iterate 5 (refine doc_val rfl (by first | (go_simp; done) | (go_simp; exact ⟨rfl, rfl⟩) | (go_simp; with_reducible rfl)) ?_; simp only [Act.put, List.setIfInBounds_toArray, List.set_cons_zero, List.set_cons_succ])
      refine doc_end (HF.out _ _ ?_)
      have HBs := hid (HB6B.out.trans (sts.below (fun k hk => HB6F.out k hk) HB6B.out.size))
      clear HF F' RS hrs hSs sts
      go_upto_region 17 with (fail)
      refine wp_region_doc (fun F' hF => ?_)
      have HF := hid hF
      clear hF
      refine doc_val rfl (by first | (go_simp; done) | (go_simp; exact ⟨rfl, rfl⟩) | (go_simp; with_reducible rfl)) ?_
      simp only [Act.put, List.setIfInBounds_toArray, List.set_cons_zero, List.set_cons_succ]
      refine doc_call rfl (by first | (go_simp; done) | (go_simp; exact ⟨rfl, rfl⟩) | (go_simp; with_reducible rfl)) ((RN _).mono ?_)
      rintro _ _ ⟨rfl, m7, d7, rfl⟩
      refine ⟨_, rfl, ?_⟩
      simp only [Act.put, List.setIfInBounds_toArray, List.set_cons_zero, List.set_cons_succ]
      iterate 5 (refine doc_val rfl (by first | (go_simp; done) | (go_simp; exact ⟨rfl, rfl⟩) | (go_simp; with_reducible rfl)) ?_; simp only [Act.put, List.setIfInBounds_toArray, List.set_cons_zero, List.set_cons_succ])
      refine doc_end (HF.out _ _ ?_)
      clear HF F' RN
      go_upto_region 18 with (fail)
      refine wp_region_doc (fun F' hF => ?_)
      have HF := hid hF
      clear hF
      refine doc_call rfl (by first | (go_simp; done) | (go_simp; exact ⟨rfl, rfl⟩) | (go_simp; with_reducible rfl)) ((WN _).mono ?_)
      rintro _ _ ⟨rfl, m8, d8, rfl⟩
      refine ⟨_, rfl, ?_⟩
      simp only [Act.put, List.setIfInBounds_toArray, List.set_cons_zero, List.set_cons_succ]
      iterate 5 (refine doc_val rfl (by first | (go_simp; done) | (go_simp; exact ⟨rfl, rfl⟩) | (go_simp; with_reducible rfl)) ?_; simp only [Act.put, List.setIfInBounds_toArray, List.set_cons_zero, List.set_cons_succ])
      refine doc_end (HF.out _ _ ?_)
      clear HF F' WN
      go_upto_region 19 with (fail)
      refine wp_gen (fun Y hY => ?_)
      have hbY : Below w.heap.size w Y := by rw [hY]; exact Below.ext_mk HBs.out HBs.out.size _ _
      have HBY := hid hbY
      clear hY hbY
      refine wp_region_seq (fun F hF => ?_)
      have HF := hid hF; clear hF
      repeat (first
        | (apply text_skip; (focus rfl); simp only [Act.put, List.setIfInBounds_toArray, List.set_cons_zero, List.set_cons_succ])
        | (apply text_val; (focus rfl); (focus (intro _ _; go_simp; with_reducible rfl)); simp only [Act.put, List.setIfInBounds_toArray, List.set_cons_zero, List.set_cons_succ])
        | (apply text_call; (focus rfl); (focus (intro _ _; go_simp; exact ⟨rfl, rfl⟩)); (focus (intro _ _; with_reducible (exact known33 _))); simp only [Act.put, List.setIfInBounds_toArray, List.set_cons_zero, List.set_cons_succ])
        | (apply text_if; (focus (first | exact wanted_t rfl rfl | exact wanted_f rfl rfl | exact wanted_gt rfl rfl | exact wanted_gf rfl rfl)); (focus (intro hc _ _; (try simp only [Bool.and_eq_true, Bool.not_eq_true', Bool.true_and] at hc); go_simp; with_reducible rfl)); simp only [Act.put, List.setIfInBounds_toArray, List.set_cons_zero, List.set_cons_succ])
        | (apply text_if_call; (focus (first | exact wanted_t rfl rfl | exact wanted_f rfl rfl | exact wanted_gt rfl rfl | exact wanted_gf rfl rfl)); (focus (intro hc _ _; (try simp only [Bool.and_eq_true, Bool.not_eq_true', Bool.true_and] at hc); go_simp; exact ⟨rfl, rfl⟩)); (focus (intro hc _ _; with_reducible (exact known33 _))); simp only [Act.put, List.setIfInBounds_toArray, List.set_cons_zero, List.set_cons_succ]))
      refine text_nil (HF.out _ (fun mx dx => ?_))
      clear HF F
      go_wp2_with fail
      go_returns
      exact Pure.of rfl (Below.ext_mk HBY.out HBY.out.size _ _)
    · clear kw kt ki kl kn hz1 hz2
      have HCU := hid (u64_nat cut)
      obtain ⟨A, hA, -⟩ := HCU.out
      obtain ⟨k, k9, kt, kw, ki⟩ := u64_rem A 9 (by omega) (by omega)
      have RS := read_live HB6S.out MO.out.wf MO.out.sated (Rd.takeB (l := WB) (by rw [← HBN.out]; exact HB6R.out) (i := k) (c' := cb) (by rw [← HBN.out]; omega) (by omega)) (fun y hy => HWB.out.1 y (List.mem_of_mem_take hy))
      rw [read_short S (WB.take k) (by simp; omega)] at RS
      have RS := hid RS
      have kcb : (k : Int) ≤ (cb : Int) := by omega
      have kcb' : k ≤ cb := by omega
      have k0 : (0 : Int) ≤ (k : Int) := by omega
      rw [show ((9 : Nat) : Int) = 9 from rfl] at kt kw
      have RN := fun W => read_no (w := W) (q := none) (.inl rfl) (.slice (some ⟨gb, 0, none⟩) bn cb)
      have WN := fun W => write_no (w := W) (q := none) (.inl rfl) (.slice none 0 0)
      go_upto_region 14 with (fail)
      refine wp_region_doc (fun F' hF => ?_)
      have HF := hid hF
      clear hF
      iterate 4 (refine doc_val rfl (by first | (go_simp; done) | (go_simp; exact ⟨rfl, rfl⟩) | (go_simp; with_reducible rfl)) ?_; simp only [Act.put, List.setIfInBounds_toArray, List.set_cons_zero, List.set_cons_succ])
      refine doc_call rfl (by first | (go_simp; done) | (go_simp; exact ⟨rfl, rfl⟩) | (go_simp; with_reducible rfl)) ((RS.out).mono ?_)
      rintro _ w7 ⟨sv, Gs, Fs, rfl, hrs, -, hSs, sts⟩
      obtain ⟨sa, sc9, rfl, _⟩ := RowIs.form hrs
      refine ⟨_, rfl, ?_⟩
      simp only [Act.put, List.setIfInBounds_toArray, List.set_cons_zero, List.set_cons_succ]
      iterate 5 (refine doc_val rfl (by first | (go_simp; done) | (go_simp; exact ⟨rfl, rfl⟩) | (go_simp; with_reducible rfl)) ?_; simp only [Act.put, List.setIfInBounds_toArray, List.set_cons_zero, List.set_cons_succ])
      refine doc_end (HF.out _ _ ?_)
      have HBs := hid (HB6B.out.trans (sts.below (fun k hk => HB6F.out k hk) HB6B.out.size))
      clear HF F' RS hrs hSs sts
      go_upto_region 17 with (fail)
      refine wp_region_doc (fun F' hF => ?_)
      have HF := hid hF
      clear hF
      refine doc_val rfl (by first | (go_simp; done) | (go_simp; exact ⟨rfl, rfl⟩) | (go_simp; with_reducible rfl)) ?_
      simp only [Act.put, List.setIfInBounds_toArray, List.set_cons_zero, List.set_cons_succ]
      refine doc_call rfl (by first | (go_simp; done) | (go_simp; exact ⟨rfl, rfl⟩) | (go_simp; with_reducible rfl)) ((RN _).mono ?_)
      rintro _ _ ⟨rfl, m7, d7, rfl⟩
      refine ⟨_, rfl, ?_⟩
      simp only [Act.put, List.setIfInBounds_toArray, List.set_cons_zero, List.set_cons_succ]
      iterate 5 (refine doc_val rfl (by first | (go_simp; done) | (go_simp; exact ⟨rfl, rfl⟩) | (go_simp; with_reducible rfl)) ?_; simp only [Act.put, List.setIfInBounds_toArray, List.set_cons_zero, List.set_cons_succ])
      refine doc_end (HF.out _ _ ?_)
      clear HF F' RN
      go_upto_region 18 with (fail)
      refine wp_region_doc (fun F' hF => ?_)
      have HF := hid hF
      clear hF
      refine doc_call rfl (by first | (go_simp; done) | (go_simp; exact ⟨rfl, rfl⟩) | (go_simp; with_reducible rfl)) ((WN _).mono ?_)
      rintro _ _ ⟨rfl, m8, d8, rfl⟩
      refine ⟨_, rfl, ?_⟩
      simp only [Act.put, List.setIfInBounds_toArray, List.set_cons_zero, List.set_cons_succ]
      iterate 5 (refine doc_val rfl (by first | (go_simp; done) | (go_simp; exact ⟨rfl, rfl⟩) | (go_simp; with_reducible rfl)) ?_; simp only [Act.put, List.setIfInBounds_toArray, List.set_cons_zero, List.set_cons_succ])
      refine doc_end (HF.out _ _ ?_)
      clear HF F' WN
      go_upto_region 19 with (fail)
      refine wp_gen (fun Y hY => ?_)
      have hbY : Below w.heap.size w Y := by rw [hY]; exact Below.ext_mk HBs.out HBs.out.size _ _
      have HBY := hid hbY
      clear hY hbY
      refine wp_region_seq (fun F hF => ?_)
      have HF := hid hF; clear hF
      repeat (first
        | (apply text_skip; (focus rfl); simp only [Act.put, List.setIfInBounds_toArray, List.set_cons_zero, List.set_cons_succ])
        | (apply text_val; (focus rfl); (focus (intro _ _; go_simp; with_reducible rfl)); simp only [Act.put, List.setIfInBounds_toArray, List.set_cons_zero, List.set_cons_succ])
        | (apply text_call; (focus rfl); (focus (intro _ _; go_simp; exact ⟨rfl, rfl⟩)); (focus (intro _ _; with_reducible (exact known33 _))); simp only [Act.put, List.setIfInBounds_toArray, List.set_cons_zero, List.set_cons_succ])
        | (apply text_if; (focus (first | exact wanted_t rfl rfl | exact wanted_f rfl rfl | exact wanted_gt rfl rfl | exact wanted_gf rfl rfl)); (focus (intro hc _ _; (try simp only [Bool.and_eq_true, Bool.not_eq_true', Bool.true_and] at hc); go_simp; with_reducible rfl)); simp only [Act.put, List.setIfInBounds_toArray, List.set_cons_zero, List.set_cons_succ])
        | (apply text_if_call; (focus (first | exact wanted_t rfl rfl | exact wanted_f rfl rfl | exact wanted_gt rfl rfl | exact wanted_gf rfl rfl)); (focus (intro hc _ _; (try simp only [Bool.and_eq_true, Bool.not_eq_true', Bool.true_and] at hc); go_simp; exact ⟨rfl, rfl⟩)); (focus (intro hc _ _; with_reducible (exact known33 _))); simp only [Act.put, List.setIfInBounds_toArray, List.set_cons_zero, List.set_cons_succ]))
      refine text_nil (HF.out _ (fun mx dx => ?_))
      clear HF F
      go_wp2_with fail
      go_returns
      exact Pure.of rfl (Below.ext_mk HBY.out HBY.out.size _ _)
end Go.Proofs.Ytboekafmplomhaa
