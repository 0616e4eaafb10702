/-
  Package frozen: Sum, number, sealed, sumRight.
-/
import Derived.Test.YtboekafmplomhaaZByt
import Derived.Test.YtboekafmplomhaaZFzP
set_option linter.unusedVariables false
set_option linter.unusedSimpArgs false
namespace Go.Proofs.Ytboekafmplomhaa
open Go.RowKit

theorem bits_xor_u32 (a b : Nat) (ha : a < 4294967296) (hb : b < 4294967296) : bits BinOp.xor .u32 (a : Int) (b : Int) = ((a ^^^ b : Nat) : Int) := by
  have ha' : a % 2 ^ 32 = a := Nat.mod_eq_of_lt ha
  have hb' : b % 2 ^ 32 = b := Nat.mod_eq_of_lt hb
  have hx : a ^^^ b < 2 ^ 32 := Nat.xor_lt_two_pow ha hb
  simp only [bits, BitVec.ofInt_natCast, BitVec.toNat_xor, BitVec.toNat_ofNat, show IntKind.u32.bits = 32 from rfl, ha', hb']
  exact IntWalk.u32_in _ (by omega)
theorem sum_any {w : World} {sv : Value} {l : List Nat} (h : Rd w 1 sv (byts l)) (hl : ∀ y ∈ l, y < 256) :
    Calls Try.prog 75 #[sv] w (fun e w' => e = .returned (.int .u32 (sumV l : Nat)) ∧ w' = w) := by
  obtain ⟨la, lc, rfl, hlc, hlm⟩ := h.lenB
  have H := hid h
  have HL := hid hl
  clear h hl
  unfold sumV
  obtain ⟨h0, hh0⟩ : ∃ h0 : Nat, h0 = 2166136261 := ⟨_, rfl⟩
  have hc0 : (2166136261 : Int) = ((h0 : Nat) : Int) := by omega
  have hl0 : h0 < 4294967296 := by omega
  rw [← hh0]
  have HC0 := hid hc0
  clear hh0 hc0
  go_enter Try.func75, Try.ntmps75
  go_wp2_with fail
  go_loopw [3, 8] (fun hv iv wr => ∃ j : Nat, j ≤ l.length ∧ iv = .int .i64 j ∧ hv = .int .u32 ((l.take j).foldl sumS h0 : Nat) ∧ wr = w) (fun _ iv _ => l.length - (intOf iv).toNat)
  case atStart => exact ⟨0, by omega, rfl, by rw [HC0.out]; rfl, rfl⟩
  case round =>
    obtain ⟨j, hj, rfl, rfl, rfl⟩ := hrel
    by_cases hlt : j < l.length
    · have hj1 : (j : Int) < (l.length : Int) := by omega
      obtain ⟨b, off, rfl, hb1, c⟩ := Rd.byteAt H.out hlt
      have hx := HL.out l[j] (List.getElem_mem _)
      have htk : (l.take (j + 1)).foldl sumS h0 = sumS ((l.take j).foldl sumS h0) l[j] := by
        rw [List.take_add_one, List.getElem?_eq_getElem hlt, List.foldl_append]
        simp only [Option.toList_some, List.foldl_cons, List.foldl_nil]
      have hhl := foldl_lt (l.take j) h0 hl0
      have HTK := hid htk
      clear htk
      generalize (l.take j).foldl sumS h0 = s at *
      generalize l[j] = x at *
      have wx : IntKind.u32.wrap (x : Int) = (x : Int) := IntWalk.u32_in _ (by omega)
      have bx := bits_xor_u32 s x hhl (by omega)
      have ee : ((s ^^^ x : Nat) : Int) * 16777619 % 4294967296 = ((sumS s x : Nat) : Int) := by rw [sumS_eq]; unfold sumC; omega
      have EE := hid ee
      clear ee
      go_wp2_with fail
      go_roundw
      case rel => exact ⟨j + 1, by omega, by go_num, by rw [HTK.out, ← EE.out], by first | rfl | trivial⟩
      case measure => simp [intOf]; omega
    · obtain rfl : j = l.length := by omega
      rw [List.take_length]
      go_wp2_with fail
      go_returns
      exact ⟨rfl, by first | rfl | trivial⟩

theorem or128 : ∀ x : Fin 256, bits BinOp.or .u8 ((x.val : Nat) : Int) 128 = ((x.val % 128 + 128 : Nat) : Int) := by decide +kernel
/-- What append tells of some bytes that lie in the next block. -/
noncomputable def appB (sv : Value) (m : List Nat) (w : World) : Value × World :=
  match (Builtin.append_ #[100, 100] 100 #[sv, .slice (some ⟨w.heap.size, 0, none⟩) m.length m.length]).run Try.prog (w.alloc (.cells (byts m).toArray 5)) with
  | .ok v w1 => (v, w1)
  | _ => (undef, w)
theorem appB_of {sv : Value} {m : List Nat} {w : World} {v : Value} {w1 : World} (h : (Builtin.append_ #[100, 100] 100 #[sv, .slice (some ⟨w.heap.size, 0, none⟩) m.length m.length]).run Try.prog (w.alloc (.cells (byts m).toArray 5)) = .ok v w1) : appB sv m w = (v, w1) := by
  unfold appB; rw [h]
theorem GrowB.app {B : Nat} {w : World} {sv : Value} {l : List Nat} (h : GrowB B w sv l) (hB : B ≤ w.heap.size) (hk : l.length ≤ 100000000) (m : List Nat) (hm : 0 < m.length) (hm2 : m.length ≤ 1000) :
    (Builtin.append_ #[100, 100] 100 #[sv, .slice (some ⟨w.heap.size, 0, none⟩) m.length m.length]).run Try.prog (w.alloc (.cells (byts m).toArray 5)) = .ok (appB sv m w).1 (appB sv m w).2 ∧
      OwnB B (appB sv m w).2 (appB sv m w).1 (l ++ m) ∧ Below B w (appB sv m w).2 ∧ GrewS w sv (appB sv m w).2 (appB sv m w).1 := by
  obtain ⟨v', w1, q1, q2, q3⟩ := h.grow hB hk m hm hm2
  rw [appB_of q1]
  exact ⟨q1, q2, q3⟩
/-- What number tells. -/
noncomputable def numX (n : Nat) (sv : Value) (w : World) : Value × World := if 127 < n then numX (n / 128) (appB sv [n % 128 + 128] w).1 (appB sv [n % 128 + 128] w).2 else appB sv [n] w
termination_by n
decreasing_by omega
theorem numX_small {n : Nat} (h : ¬ 127 < n) (sv : Value) (w : World) : numX n sv w = appB sv [n] w := by rw [numX, if_neg h]
theorem numX_big {n : Nat} (h : 127 < n) (sv : Value) (w : World) : numX n sv w = numX (n / 128) (appB sv [n % 128 + 128] w).1 (appB sv [n % 128 + 128] w).2 := by rw [numX, if_pos h]
theorem numX_own (n : Nat) : ∀ {B : Nat} {w : World} {sv : Value} {l : List Nat}, GrowB B w sv l → B ≤ w.heap.size → l.length + (numB n).length ≤ 100000000 → OwnB B (numX n sv w).2 (numX n sv w).1 (l ++ numB n) ∧ Below B w (numX n sv w).2 ∧ GrewS w sv (numX n sv w).2 (numX n sv w).1 := by
  induction n using Nat.strongRecOn with
  | ind n ih =>
    intro B w sv l h hB hk
    by_cases hb : 127 < n
    · rw [numX_big hb, numB_big hb]
      rw [numB_big hb, List.length_cons] at hk
      obtain ⟨_, q2, q3, q4⟩ := h.app hB (by omega) [n % 128 + 128] (by simp) (by simp)
      obtain ⟨r1, r2, r3⟩ := ih (n / 128) (by omega) (.inl q2) (Nat.le_trans hB q3.size) (by simp; omega)
      rw [List.append_assoc, List.singleton_append] at r1
      exact ⟨r1, q3.trans r2, q4.trans r3⟩
    · rw [numX_small hb, numB_small hb]
      rw [numB_small hb] at hk
      obtain ⟨_, q2, q3, q4⟩ := h.app hB (by simp at hk; omega) [n] (by simp) (by simp)
      exact ⟨q2, q3, q4⟩
set_option maxHeartbeats 4000000 in
theorem number_any {B : Nat} {w : World} {sv : Value} {l : List Nat} (h : GrowB B w sv l) (hB : B ≤ w.heap.size) (hlen : l.length ≤ 50000000) (n : Nat) (hn : n ≤ 9223372036854775807) :
    Calls Try.prog 143 #[sv, .int .i64 (n : Int)] w (fun e w' => e = .returned (numX n sv w).1 ∧ w' = (numX n sv w).2) := by
  have hnl : (numB n).length ≤ 9 := numB_len 9 n (by omega) (by omega)
  have H := hid h
  clear h
  go_enter Try.func143, Try.ntmps143
  go_wp2_with fail
  go_loopw [0, 1] (fun bv nv wr => ∃ (pre : List Nat) (m : Nat), nv = .int .i64 m ∧ m ≤ 9223372036854775807 ∧ GrowB B wr bv pre ∧ Below B w wr ∧ pre ++ numB m = l ++ numB n ∧ numX m bv wr = numX n sv w) (fun _ nv _ => (intOf nv).toNat)
  case atStart => exact ⟨l, n, rfl, hn, H.out, Below.refl _ _, rfl, rfl⟩
  case round =>
    obtain ⟨pre, m, rfl, hm, hO, hb, he, hx⟩ := hrel
    have hpl : pre.length ≤ l.length + 9 := by
      have := congrArg List.length he
      simp only [List.length_append] at this
      have := numB_pos m
      omega
    have HE := hid he
    have HX := hid hx
    clear hx
    have hBw : B ≤ wr.heap.size := Nat.le_trans hB hb.size
    have HO := hid hO
    have HB := hid hb
    obtain ⟨sa, sc, rfl⟩ := hO.form
    clear he hO hb
    by_cases hbig : 127 < m
    · have hb1 : (127 : Int) < (m : Int) := by omega
      obtain ⟨r, hr⟩ : ∃ r : Nat, r = m % 256 := ⟨_, rfl⟩
      obtain ⟨q, hq⟩ : ∃ q : Nat, q = m % 128 + 128 := ⟨_, rfl⟩
      obtain ⟨k, hk⟩ : ∃ k : Nat, k = m / 128 := ⟨_, rfl⟩
      obtain ⟨q1, q2, q3, -⟩ := HO.out.app hBw (by omega) [q] (by simp) (by simp)
      have w8 : IntKind.u8.wrap (m : Int) = (r : Int) := by rw [IntKind.wrap_u8]; omega
      have o8 : bits BinOp.or .u8 (r : Int) 128 = (q : Int) := by
        rw [or128 ⟨r, by omega⟩]
        have e : r % 128 + 128 = q := by omega
        show ((r % 128 + 128 : Nat) : Int) = (q : Int)
        rw [e]
      have s7 : (m : Int) / 128 = (k : Int) := by omega
      have HN : numB m = q :: numB k := by rw [numB_big hbig, ← hq, ← hk]
      have hxx := HX.out
      rw [numX_big hbig, ← hq, ← hk] at hxx
      have HM := hid (And.intro hm (And.intro hk (And.intro HN hbig)))
      generalize (appB (.slice sa pre.length sc) _ wr) = A at *
      obtain ⟨v', w1⟩ := A
      simp only at q1 q2 q3 hxx
      have HXX := hid hxx
      clear hxx
      have Q1 := hid q1
      have Q2 := hid (And.intro q2 q3)
      clear q1 q2 q3 hr hq hk hm HN hbig hpl hn hnl
      go_upto_region 3 with (fail)
      refine wp_region_doc (fun F' hF => ?_)
      have HF := hid hF
      clear hF
      iterate 5 (refine doc_val rfl (by first | (go_simp; done) | (go_simp; exact ⟨rfl, rfl⟩) | (go_simp; with_reducible rfl)) ?_; simp only [Act.put, List.setIfInBounds_toArray, List.set_cons_zero, List.set_cons_succ])
      refine doc_val rfl (run_append_op _ _ _ _ _ _ _ _ _ Q1.out) ?_
      simp only [Act.put, List.setIfInBounds_toArray, List.set_cons_zero, List.set_cons_succ]
      refine doc_val rfl (by first | (go_simp; done) | (go_simp; exact ⟨rfl, rfl⟩) | (go_simp; with_reducible rfl)) ?_
      simp only [Act.put, List.setIfInBounds_toArray, List.set_cons_zero, List.set_cons_succ]
      refine doc_end (HF.out _ _ ?_)
      clear HF F' Q1
      go_wp2_with fail
      go_roundw
      case rel =>
        refine ⟨pre ++ [q], k, by go_num, by have := HM.out.2.1; have := HM.out.1; omega, .inl Q2.out.1, HB.out.trans (Q2.out.2.mono (Nat.le_refl _)), ?_, HXX.out⟩
        rw [List.append_assoc, List.singleton_append, ← HM.out.2.2.1]
        exact HE.out
      case measure => have := HM.out; simp [intOf]; omega
    · have hb1 : ¬ (127 : Int) < (m : Int) := by omega
      obtain ⟨q1, q2, q3, -⟩ := HO.out.app hBw (by omega) [m] (by simp) (by simp)
      have w8 : IntKind.u8.wrap (m : Int) = (m : Int) := by rw [IntKind.wrap_u8]; omega
      have HN : numB m = [m] := numB_small hbig
      have hxx := HX.out
      rw [numX_small hbig] at hxx
      have HM := hid HN
      generalize (appB (.slice sa pre.length sc) _ wr) = A at *
      obtain ⟨v', w1⟩ := A
      simp only at q1 q2 q3 hxx
      have HXX := hid hxx
      clear hxx
      have Q1 := hid q1
      have Q2 := hid (And.intro q2 q3)
      clear q1 q2 q3 hm HN hbig hpl hn hnl
      go_upto_region 4 with (fail)
      refine wp_region_doc (fun F' hF => ?_)
      have HF := hid hF
      clear hF
      iterate 4 (refine doc_val rfl (by first | (go_simp; done) | (go_simp; exact ⟨rfl, rfl⟩) | (go_simp; with_reducible rfl)) ?_; simp only [Act.put, List.setIfInBounds_toArray, List.set_cons_zero, List.set_cons_succ])
      refine doc_val rfl (run_append_op _ _ _ _ _ _ _ _ _ Q1.out) ?_
      simp only [Act.put, List.setIfInBounds_toArray, List.set_cons_zero, List.set_cons_succ]
      refine doc_val rfl (by first | (go_simp; done) | (go_simp; exact ⟨rfl, rfl⟩) | (go_simp; with_reducible rfl)) ?_
      simp only [Act.put, List.setIfInBounds_toArray, List.set_cons_zero, List.set_cons_succ]
      refine doc_end (HF.out _ _ ?_)
      clear HF F' Q1
      go_wp2_with fail
      go_returns
      rw [← HXX.out]
      exact ⟨rfl, rfl⟩

set_option maxHeartbeats 4000000 in
theorem sealed_gen {w : World} {sv : Value} {l : List Nat} (h : Rd w 1 sv (byts l)) (hl : ∀ y ∈ l, y < 256) {v' : Value} {w1 : World}
    (hap : (Builtin.append_ #[100, 100] 100 #[sv, .slice (some ⟨w.heap.size, 0, none⟩) 4 4]).run Try.prog (w.alloc (.cells (byts (sum4 (sumV l))).toArray 5)) = .ok v' w1) :
    Calls Try.prog 144 #[sv] w (fun e w' => e = .returned v' ∧ w' = w1) := by
  have S := hid (sum_any h hl)
  obtain ⟨la, lc, rfl, _, _⟩ := h.lenB
  have hs := sumV_lt l
  have HAP := hid hap
  clear h hl hap
  generalize sumV l = s at *
  go_enter Try.func144, Try.ntmps144
  go_upto_region 2 with ((with_reducible refine (S.out).mono ?_); rintro e w9 ⟨rfl, hw9⟩; subst hw9)
  have q1 := HAP.out
  obtain ⟨c0, hc0⟩ : ∃ c : Nat, c = s / 16777216 := ⟨_, rfl⟩
  obtain ⟨c1, hc1⟩ : ∃ c : Nat, c = s / 65536 := ⟨_, rfl⟩
  obtain ⟨c2, hc2⟩ : ∃ c : Nat, c = s / 256 := ⟨_, rfl⟩
  obtain ⟨b0, hb0⟩ : ∃ c : Nat, c = c0 % 256 := ⟨_, rfl⟩
  obtain ⟨b1, hb1⟩ : ∃ c : Nat, c = c1 % 256 := ⟨_, rfl⟩
  obtain ⟨b2, hb2⟩ : ∃ c : Nat, c = c2 % 256 := ⟨_, rfl⟩
  obtain ⟨b3, hb3⟩ : ∃ c : Nat, c = s % 256 := ⟨_, rfl⟩
  have f0 : (s : Int) / 16777216 = (c0 : Int) := by omega
  have f1 : (s : Int) / 65536 = (c1 : Int) := by omega
  have f2 : (s : Int) / 256 = (c2 : Int) := by omega
  have g0 : IntKind.u8.wrap (c0 : Int) = (b0 : Int) := by rw [IntKind.wrap_u8]; omega
  have g1 : IntKind.u8.wrap (c1 : Int) = (b1 : Int) := by rw [IntKind.wrap_u8]; omega
  have g2 : IntKind.u8.wrap (c2 : Int) = (b2 : Int) := by rw [IntKind.wrap_u8]; omega
  have g3 : IntKind.u8.wrap (s : Int) = (b3 : Int) := by rw [IntKind.wrap_u8]; omega
  have h4 : sum4 s = [b0, b1, b2, b3] := by unfold sum4; rw [← hc0, ← hc1, ← hc2, ← hb0, ← hb1, ← hb2, ← hb3]
  rw [h4] at q1
  have Q1 := hid q1
  clear hc0 hc1 hc2 hb0 hb1 hb2 hb3 h4 q1 hs HAP S
  refine wp_region_doc (fun F' hF => ?_)
  have HF := hid hF
  clear hF
  iterate 13 (refine doc_val rfl (by first | (go_simp; done) | (go_simp; exact ⟨rfl, rfl⟩) | (go_simp; with_reducible rfl)) ?_; simp only [Act.put, List.setIfInBounds_toArray, List.set_cons_zero, List.set_cons_succ])
  refine doc_val rfl (run_append_op _ _ _ _ _ _ _ _ _ Q1.out) ?_
  simp only [Act.put, List.setIfInBounds_toArray, List.set_cons_zero, List.set_cons_succ]
  refine doc_val rfl (by first | (go_simp; done) | (go_simp; exact ⟨rfl, rfl⟩) | (go_simp; with_reducible rfl)) ?_
  simp only [Act.put, List.setIfInBounds_toArray, List.set_cons_zero, List.set_cons_succ]
  refine doc_end (HF.out _ _ ?_)
  clear HF F' Q1
  go_wp2_with fail
  go_returns
  exact ⟨rfl, rfl⟩
theorem GrowB.rd {B : Nat} {w : World} {sv : Value} {l : List Nat} (h : GrowB B w sv l) : Rd w 1 sv (byts l) := by
  rcases h with h | ⟨b, off, h1, h2, h3⟩
  · exact h.rd
  · exact h2
theorem sealed_own {B : Nat} {w : World} {sv : Value} {l : List Nat} (h : GrowB B w sv l) (hl : ∀ y ∈ l, y < 256) (hB : B ≤ w.heap.size) (hk : l.length ≤ 100000000) :
    ∃ v' w1, Calls Try.prog 144 #[sv] w (fun e w' => e = .returned v' ∧ w' = w1) ∧ OwnB B w1 v' (sealB l) ∧ Below B w w1 := by
  obtain ⟨q1, q2, q3, -⟩ := h.app hB hk (sum4 (sumV l)) (by simp [sum4]) (by simp [sum4])
  exact ⟨_, _, sealed_gen h.rd hl q1, q2, q3⟩
end Go.Proofs.Ytboekafmplomhaa
