/-
  The document's frozen bytes: Sum, number, Sealed.
-/
import Derived.Test.YtboekafmplomhaaZFzSpP
import Derived.Deep.Upon
import Derived.Test.YtboekafmplomhaaZRefStoW
import Derived.Test.YtboekafmplomhaaZFzBkA
set_option linter.unusedVariables false
set_option linter.unusedSimpArgs false
namespace Go.Proofs.Ytboekafmplomhaa
open Go.RowKit

/-- Append of a copy: the rows of some slice behind a new empty one. -/
theorem copy_row {w : World} {s2 : Value} {n : Nat} {xs : List Value} {t e : TypeId} {i : TypeInfo} {z : Value} {size bytes : Nat} (ht : Try.prog.underlying t = some (.slice e)) (hi : Try.prog.info? e = some i) (hz : i.zero = some z) (hsize : i.size = size) (hby : i.bytes = bytes)
    (hzs : z.cells.size = size) (hsz : 0 < size) (h : Rd w size s2 xs) (h1 : ∀ u ∈ xs, u.oneCell' = true) (hxl : xs.length = n * size) (hn : n ≤ 10000000) (hb : bytes ≤ 1000) :
    ∃ (v : Value) (w1 : World) (G : Nat), (Builtin.append_ #[t, t] t #[.slice (some ⟨w.heap.size, 0, none⟩) 0 0, s2]).run Try.prog (w.alloc (.cells #[] e)) = .ok v w1 ∧
      RowIs w1 v (some G) e size n xs ∧ Below w.heap.size w w1 ∧ w.heap.size ≤ G ∧ G < w1.heap.size := by
  have hrow : RowIs (w.alloc (.cells #[] e)) (.slice (some ⟨w.heap.size, 0, none⟩) 0 0) (some w.heap.size) e size 0 [] :=
    ⟨by simp, .inr ⟨w.heap.size, 0, #[], rfl, rfl, Blk.new w e [], Nat.le_refl _, Nat.zero_le _, by simp, by simp⟩⟩
  have hbl : Below w.heap.size w (w.alloc (.cells #[] e)) := by (repeat' (first | (with_reducible exact Below.refl _ _) | (with_reducible refine Below.ext_mk ?_ ?_ _ _) | (with_reducible refine Below.alloc ?_ ?_ _) | (with_reducible refine Below.drew ?_) | (with_reducible refine Below.setCell ?_ ?_ _) | go_size))
  obtain ⟨a, sn, sc, rfl, q1, q2, q3, q4⟩ := h
  have esn : sn = n := by rw [hxl] at q3; exact (Nat.eq_of_mul_eq_mul_right hsz q3).symm
  subst esn
  rcases Nat.eq_zero_or_pos sn with h0 | h0
  · subst h0
    have hx : xs = [] := List.length_eq_zero_iff.1 (by omega)
    subst hx
    refine ⟨_, _, w.heap.size, run_append_nothing (P := Try.prog) _ t t t e i ht hi _ 0 0 (Nat.le_refl _) _ ?_, hrow, hbl, Nat.le_refl _, by simp⟩
    cases a with
    | none => exact Src.ofNil _ ht sc
    | some a => exact Src.ofSlice _ ht a 0 sc [] (by simp) (fun j u hu => by simp at hu) (fun u hu => by simp at hu)
  · obtain ⟨b, off, ea, zb, hc⟩ := q4 h0
    subst ea
    have hbb : sn * bytes ≤ 10000000 * 1000 := Nat.mul_le_mul hn hb
    obtain ⟨v', w1, G', r1, r2, r3, r4⟩ := append_row (P := Try.prog) t t i z bytes ht hi hz hsize hby hzs hsz hrow ⟨b, off, none⟩ sn sc xs hxl (fun j u hu => by
      rw [show (⟨b, off, none⟩ : Addr).add j = ⟨b, off + j, none⟩ from Addr.add_lit ..]
      exact (hbl.cell (p := ⟨b, off + j, none⟩) zb).trans (hc j u hu)) h1 h0 (by unfold maxLen; omega) (by rw [Nat.zero_add]; omega)
    simp only [Nat.zero_add, List.nil_append] at r1 r2
    have hlt := r2.lt G' rfl
    have hB : Below w.heap.size w w1 := hbl.grown r3 (by simp) (fun g hg => by cases hg; exact Nat.le_refl _)
    refine ⟨v', w1, G', r1, r2, hB, ?_, hlt⟩
    rcases r4 with r4 | ⟨r4, _⟩
    · cases r4; exact Nat.le_refl _
    · simp at r4; omega
theorem byts_one (l : List Nat) : ∀ u ∈ byts l, u.oneCell' = true := by
  intro u hu
  simp [byts] at hu
  obtain ⟨x, _, rfl⟩ := hu
  rfl
/-- Bytes copied. -/
theorem copy_bytes {w : World} {s2 : Value} {l : List Nat} (h : Rd w 1 s2 (byts l)) (hl : l.length ≤ 10000000) :
    ∃ (v : Value) (w1 : World), (Builtin.append_ #[100, 100] 100 #[.slice (some ⟨w.heap.size, 0, none⟩) 0 0, s2]).run Try.prog (w.alloc (.cells #[] 5)) = .ok v w1 ∧ OwnB w.heap.size w1 v l ∧ Below w.heap.size w w1 := by
  obtain ⟨v, w1, G, r1, r2, r3, r4, _⟩ := copy_row (n := l.length) Try.underlying100 infoU8_is infoU8_zero infoU8_size infoU8_bytes rfl (by omega) h (byts_one l) (by rw [byts_length]; omega) hl (by omega)
  exact ⟨v, w1, r1, ⟨some G, r2, fun g hg => by cases hg; exact r4⟩, r3⟩
/-- Bytes of a literal. -/
theorem lit_own (w : World) (m : List Nat) (hm : m.length ≤ 1000) : OwnB w.heap.size (w.alloc (.cells (byts m).toArray 5)) (.slice (some ⟨w.heap.size, 0, none⟩) m.length m.length) m :=
  ⟨some w.heap.size, ⟨by rw [byts_length]; omega, .inr ⟨w.heap.size, m.length, (byts m).toArray, rfl, rfl, World.heap_alloc_last w _, Nat.le_refl _, by unfold maxLen; omega, by simp [byts_length], by simp; exact List.take_of_length_le (by simp [byts_length])⟩⟩, fun g hg => by cases hg; exact Nat.le_refl _⟩
/-- More bytes at the end: those of another slice. -/
theorem OwnB.cat {B : Nat} {w : World} {sv s2 : Value} {l m : List Nat} (h : OwnB B w sv l) (hB : B ≤ w.heap.size) (hk : l.length ≤ 100000000) (R : Rd w 1 s2 (byts m)) (hm : 0 < m.length) (hm2 : m.length ≤ 10000000) :
    ∃ v' w1, (Builtin.append_ #[100, 100] 100 #[sv, s2]).run Try.prog w = .ok v' w1 ∧ OwnB B w1 v' (l ++ m) ∧ Below B w w1 ∧ GrewS w sv w1 v' := by
  obtain ⟨G, h, hG⟩ := h
  have hbo := RowIs.blkOf h
  obtain ⟨a, sn, sc, rfl, q1, q2, q3, q4⟩ := R
  rw [byts_length] at q3
  obtain ⟨b, off, ea, zb, hc⟩ := q4 (by omega)
  subst ea
  obtain ⟨v', w1, G', r1, r2, r3, r4⟩ := append_row (P := Try.prog) 100 100 infoU8 (.int .u8 0) 1 Try.underlying100 infoU8_is infoU8_zero infoU8_size infoU8_bytes rfl (by omega) h
    ⟨b, off, none⟩ sn sc (byts m) (by rw [byts_length]; omega) (fun j u hu => by
      rw [show (⟨b, off, none⟩ : Addr).add j = ⟨b, off + j, none⟩ from Addr.add_lit ..]
      exact hc j u hu) (byts_one m) (by omega) (by unfold maxLen; omega) (by omega)
  have hbo' := RowIs.blkOf r2
  have hsz := r3.size
  have esn : sn = m.length := by omega
  refine ⟨v', w1, r1, ⟨some G', ?_, ?_⟩, ?_, ⟨by omega, fun k hk hn => ?_, fun k hk hn => ?_⟩⟩
  · rw [byts_append, List.length_append, ← esn]
    exact r2
  · intro g hg
    cases hg
    rcases r4 with e | ⟨e, _⟩
    · exact hG _ e
    · omega
  · exact (Below.refl _ _).grown r3 hB hG
  · rw [hbo] at hn
    exact r3.block k hk (fun e => hn e.symm)
  · rw [hbo] at hn
    rw [hbo']
    intro e
    cases e
    rcases r4 with e | ⟨e, _⟩
    · exact hn e
    · omega
theorem xor_low (s x : Nat) (hx : x < 256) : s - s % 256 + (s % 256 ^^^ x) = s ^^^ x := by
  have h1 : (s ^^^ x) / 2 ^ 8 = s / 2 ^ 8 := by rw [Nat.xor_div_two_pow, Nat.div_eq_of_lt hx, Nat.xor_zero]
  have h2 : (s ^^^ x) % 2 ^ 8 = s % 2 ^ 8 ^^^ x := by rw [Nat.xor_mod_two_pow, Nat.mod_eq_of_lt (show x < 2 ^ 8 by omega)]
  rw [show (2 : Nat) ^ 8 = 256 from rfl] at h1 h2
  omega

set_option maxHeartbeats 4000000 in
theorem rsum_any {w : World} {sv : Value} {l : List Nat} (h : Rd w 1 sv (byts l)) (hl : ∀ y ∈ l, y < 256) :
    Calls Try.prog 76 #[sv] w (fun e w' => e = .returned (.int .u32 (sumV l : Nat)) ∧ w' = w) := by
  obtain ⟨la, lc, rfl, hlc, hlm⟩ := h.lenB
  have H := hid h
  have HL := hid hl
  clear h hl
  unfold sumV
  obtain ⟨h0, hh0⟩ : ∃ h0 : Nat, h0 = 2166136261 := ⟨_, rfl⟩
  have hc0 : (2166136261 : Int) = ((h0 : Nat) : Int) := by omega
  have hl0 : h0 < 4294967296 := by omega
  rw [← hh0]
  have HC0 := hid hc0
  clear hh0 hc0
  go_enter Try.func76, Try.ntmps76
  go_wp2_with fail
  go_loopw [3, 4] (fun hv iv wr => ∃ j : Nat, j ≤ l.length ∧ iv = .int .i64 j ∧ hv = .int .u64 ((l.take j).foldl sumS h0 : Nat) ∧ wr = w) (fun _ iv _ => l.length - (intOf iv).toNat)
  case atStart => exact ⟨0, by omega, rfl, by rw [HC0.out]; rfl, rfl⟩
  case round =>
    obtain ⟨j, hj, rfl, rfl, rfl⟩ := hrel
    by_cases hlt : j < l.length
    · have hj1 : (j : Int) < (l.length : Int) := by omega
      obtain ⟨b, off, rfl, hb1, c⟩ := Rd.byteAt H.out hlt
      have hx := HL.out l[j] (List.getElem_mem _)
      have htk : (l.take (j + 1)).foldl sumS h0 = sumS ((l.take j).foldl sumS h0) l[j] := by
        rw [List.take_add_one, List.getElem?_eq_getElem hlt, List.foldl_append]
        simp only [Option.toList_some, List.foldl_cons, List.foldl_nil]
      have hhl := foldl_lt (l.take j) h0 hl0
      have HTK := hid htk
      clear htk
      generalize (l.take j).foldl sumS h0 = s at *
      generalize l[j] = x at *
      obtain ⟨lw, hlw⟩ : ∃ lw, lw = s % 256 := ⟨_, rfl⟩
      have hlw2 : lw < 256 := by omega
      have hlw3 : lw ≤ s := by omega
      have t1 : (s : Int).tmod 256 = (lw : Int) := by rw [Int.tmod_eq_emod_of_nonneg (by omega)]; omega
      have t2 : IntKind.u64.wrap (lw : Int) = (lw : Int) := by rw [IntKind.wrap_u64]; omega
      have t3 : IntKind.u8.wrap (lw : Int) = (lw : Int) := by rw [IntKind.wrap_u8]; omega
      obtain ⟨bx, hxr⟩ := bits_xor_u8 lw x hlw2 hx
      obtain ⟨y, hy⟩ : ∃ y, y = lw ^^^ x := ⟨_, rfl⟩
      rw [← hy] at bx hxr
      have t4 : IntKind.u64.wrap (y : Int) = (y : Int) := by rw [IntKind.wrap_u64]; omega
      obtain ⟨d, hd⟩ : ∃ d, d = s - lw := ⟨_, rfl⟩
      have t5 : IntKind.u64.wrap ((s : Int) - (lw : Int)) = (d : Int) := by rw [IntKind.wrap_u64]; omega
      obtain ⟨z, hz⟩ : ∃ z, z = d + y := ⟨_, rfl⟩
      have hzx : z = s ^^^ x := by rw [hz, hd, hy, hlw]; exact xor_low s x hx
      have t6 : IntKind.u64.wrap ((d : Int) + (y : Int)) = (z : Int) := by rw [IntKind.wrap_u64]; omega
      have hz2 : z < 4294967552 := by omega
      obtain ⟨u, hu⟩ : ∃ u, u = z * 16777619 := ⟨_, rfl⟩
      have t7 : IntKind.u64.wrap ((z : Int) * 16777619) = (u : Int) := by rw [IntKind.wrap_u64]; omega
      have t8 : (u : Int).tmod 4294967296 = ((sumS s x : Nat) : Int) := by rw [Int.tmod_eq_emod_of_nonneg (by omega), sumS_eq]; unfold sumC; rw [← hzx]; omega
      have hss := sumS_lt s x
      have t9 : IntKind.u64.wrap ((sumS s x : Nat) : Int) = ((sumS s x : Nat) : Int) := by rw [IntKind.wrap_u64]; omega
      generalize sumS s x = ss at *
      clear hlw hy hd hz hzx hu
      go_wp2_with fail
      go_roundw
      case rel => exact ⟨j + 1, by omega, by go_num, by rw [HTK.out], by first | rfl | trivial⟩
      case measure => simp [intOf]; omega
    · obtain rfl : j = l.length := by omega
      have hhl := foldl_lt l h0 hl0
      rw [List.take_length]
      obtain ⟨s, hs⟩ : ∃ s, s = l.foldl sumS h0 := ⟨_, rfl⟩
      rw [← hs] at hhl ⊢
      have HS := hid hs
      clear hs
      have t1 : IntKind.u32.wrap (s : Int) = (s : Int) := IntWalk.u32_in _ (by omega)
      go_wp2_with fail
      go_returns
      exact ⟨by rw [HS.out]; rfl, by first | rfl | trivial⟩

theorem numB_le (n : Nat) (h : n ≤ 9223372036854775807) : (numB n).length ≤ 9 := numB_len 9 n (by omega) (by omega)
set_option maxRecDepth 100000 in
set_option maxHeartbeats 2000000 in
theorem rnumber_any : ∀ (n : Nat) (w : World), n ≤ 9223372036854775807 →
    Calls Try.prog 150 #[.int .i64 n] w (fun e w' => ∃ v, e = .returned v ∧ OwnB w.heap.size w' v (numB n) ∧ Below w.heap.size w w') := by
  intro n
  induction n using Nat.strongRecOn with
  | _ n ih =>
    intro w hn
    by_cases h1 : n < 128
    · rw [numB_small (by omega)]
      have h2 : (n : Int) < 128 := by omega
      have t1 : IntKind.u8.wrap (n : Int) = (n : Int) := by rw [IntKind.wrap_u8]; omega
      have LO := hid (lit_own w [n] (by simp))
      clear ih
      go_enter Try.func150, Try.ntmps150
      go_wp2
      go_returns
      exact ⟨_, rfl, LO.out, by (repeat' (first | (with_reducible exact Below.refl _ _) | (with_reducible refine Below.ext_mk ?_ ?_ _ _) | (with_reducible refine Below.alloc ?_ ?_ _) | (with_reducible refine Below.drew ?_) | (with_reducible refine Below.setCell ?_ ?_ _) | go_size))⟩
    · obtain ⟨d, hd⟩ : ∃ d, d = n / 128 := ⟨_, rfl⟩
      obtain ⟨r, hr⟩ : ∃ r, r = n % 128 := ⟨_, rfl⟩
      have hnb : numB n = [r + 128] ++ numB d := by rw [numB_big (by omega), hd, hr]; rfl
      have h2 : ¬ (n : Int) < 128 := by omega
      have t0 : (n : Int).tmod 128 = (r : Int) := by rw [Int.tmod_eq_emod_of_nonneg (by omega)]; omega
      have t1 : IntKind.i64.wrap (r : Int) = (r : Int) := IntWalk.i64_in _ (by omega)
      have t2 : IntKind.i64.wrap (128 + (r : Int)) = ((r + 128 : Nat) : Int) := by rw [IntWalk.i64_in _ (by omega)]; omega
      have t3 : IntKind.u8.wrap ((r + 128 : Nat) : Int) = ((r + 128 : Nat) : Int) := by rw [IntKind.wrap_u8]; omega
      have t4 : (n : Int).tdiv 128 = (d : Int) := by rw [Int.tdiv_eq_ediv_of_nonneg (by omega)]; omega
      have t5 : IntKind.i64.wrap (d : Int) = (d : Int) := IntWalk.i64_in _ (by omega)
      obtain ⟨r1, hr1⟩ : ∃ r1, r1 = r + 128 := ⟨_, rfl⟩
      rw [← hr1] at t2 t3 hnb
      have IH := hid (ih d (by omega) (w.alloc (.cells #[.int .u8 (r1 : Nat)] 5)) (by omega))
      have LO : Hid (OwnB w.heap.size (w.alloc (.cells #[.int .u8 (r1 : Nat)] 5)) (.slice (some ⟨w.heap.size, 0, none⟩) 1 1) [r1]) := hid (lit_own w [r1] (by simp))
      have hnl := numB_le d (by omega)
      have hnp := numB_pos d
      rw [hnb]
      have HN := hid (And.intro hnl hnp)
      clear ih hd hr hnb hr1 hn h1 hnl hnp
      go_enter Try.func150, Try.ntmps150
      go_upto_region 3 with (fail)
      refine wp_region_doc (fun F' hF => ?_)
      have HF := hid hF
      clear hF
      iterate 7 (refine doc_val rfl (by first | (go_simp; done) | (go_simp; exact ⟨rfl, rfl⟩) | (go_simp; with_reducible rfl)) ?_; simp only [Act.put, List.setIfInBounds_toArray, List.set_cons_zero, List.set_cons_succ])
      refine doc_call rfl (by first | (go_simp; done) | (go_simp; exact ⟨rfl, rfl⟩) | (go_simp; with_reducible rfl)) ((IH.out).mono ?_)
      rintro _ w2 ⟨v, rfl, hO, hb⟩
      refine ⟨_, rfl, ?_⟩
      simp only [Act.put, List.setIfInBounds_toArray, List.set_cons_zero, List.set_cons_succ]
      have hb0 : Below w.heap.size w (w.alloc (.cells #[.int .u8 (r1 : Nat)] 5)) := by (repeat' (first | (with_reducible exact Below.refl _ _) | (with_reducible refine Below.ext_mk ?_ ?_ _ _) | (with_reducible refine Below.alloc ?_ ?_ _) | (with_reducible refine Below.drew ?_) | (with_reducible refine Below.setCell ?_ ?_ _) | go_size))
      obtain ⟨v', w3, q1, q2, q3, -⟩ := (LO.out.below hb).cat (Nat.le_trans hb0.size hb.size) (by simp) hO.rd HN.out.2 (by have := HN.out.1; omega)
      refine doc_val rfl (run_append_op _ _ _ _ _ _ _ _ _ q1) ?_
      simp only [Act.put, List.setIfInBounds_toArray, List.set_cons_zero, List.set_cons_succ]
      refine doc_val rfl (by first | (go_simp; done) | (go_simp; exact ⟨rfl, rfl⟩) | (go_simp; with_reducible rfl)) ?_
      simp only [Act.put, List.setIfInBounds_toArray, List.set_cons_zero, List.set_cons_succ]
      refine doc_end (HF.out _ _ ?_)
      have HR := hid (And.intro q2 (hb0.trans ((hb.mono hb0.size).trans q3)))
      clear HF F' q1 q2 q3 hO hb IH LO
      go_wp2_with fail
      go_returns
      exact ⟨_, rfl, HR.out⟩
set_option maxRecDepth 100000 in
set_option maxHeartbeats 4000000 in
theorem rsealed_any {w : World} {sv : Value} {l : List Nat} (h : Rd w 1 sv (byts l)) (hl : ∀ y ∈ l, y < 256) (hk : l.length ≤ 10000000) :
    Calls Try.prog 78 #[sv] w (fun e w' => ∃ v, e = .returned v ∧ OwnB w.heap.size w' v (sealB l) ∧ Below w.heap.size w w') := by
  have SU := hid (rsum_any h hl)
  have hs := sumV_lt l
  have hseal : sealB l = l ++ sum4 (sumV l) := rfl
  rw [hseal]
  obtain ⟨v1, w1, q1, q2, q3⟩ := copy_bytes h hk
  generalize sumV l = s at *
  obtain ⟨x1, hx1⟩ : ∃ x, x = s / 16777216 % 256 := ⟨_, rfl⟩
  obtain ⟨x2, hx2⟩ : ∃ x, x = s / 65536 % 256 := ⟨_, rfl⟩
  obtain ⟨x3, hx3⟩ : ∃ x, x = s / 256 % 256 := ⟨_, rfl⟩
  obtain ⟨x4, hx4⟩ : ∃ x, x = s % 256 := ⟨_, rfl⟩
  have e4 : sum4 s = [x1, x2, x3, x4] := by rw [hx1, hx2, hx3, hx4]; rfl
  rw [e4]
  obtain ⟨y2, hy2⟩ : ∃ y, y = s / 65536 := ⟨_, rfl⟩
  obtain ⟨y3, hy3⟩ : ∃ y, y = s / 256 := ⟨_, rfl⟩
  have a1 : (s : Int).tdiv 16777216 = (x1 : Int) := by rw [Int.tdiv_eq_ediv_of_nonneg (by omega)]; omega
  have a2 : (s : Int).tdiv 65536 = (y2 : Int) := by rw [Int.tdiv_eq_ediv_of_nonneg (by omega)]; omega
  have a3 : (s : Int).tdiv 256 = (y3 : Int) := by rw [Int.tdiv_eq_ediv_of_nonneg (by omega)]; omega
  have a1' : (s : Int) / 16777216 = (x1 : Int) := by omega
  have a2' : (s : Int) / 65536 = (y2 : Int) := by omega
  have a3' : (s : Int) / 256 = (y3 : Int) := by omega
  have b2 : (y2 : Int).tmod 256 = (x2 : Int) := by rw [Int.tmod_eq_emod_of_nonneg (by omega)]; omega
  have b3 : (y3 : Int).tmod 256 = (x3 : Int) := by rw [Int.tmod_eq_emod_of_nonneg (by omega)]; omega
  have b4 : (s : Int).tmod 256 = (x4 : Int) := by rw [Int.tmod_eq_emod_of_nonneg (by omega)]; omega
  have c1 : IntKind.u32.wrap (x1 : Int) = (x1 : Int) := IntWalk.u32_in _ (by omega)
  have c2 : IntKind.u32.wrap (x2 : Int) = (x2 : Int) := IntWalk.u32_in _ (by omega)
  have c3 : IntKind.u32.wrap (x3 : Int) = (x3 : Int) := IntWalk.u32_in _ (by omega)
  have c4 : IntKind.u32.wrap (x4 : Int) = (x4 : Int) := IntWalk.u32_in _ (by omega)
  have c5 : IntKind.u32.wrap (y2 : Int) = (y2 : Int) := IntWalk.u32_in _ (by omega)
  have c6 : IntKind.u32.wrap (y3 : Int) = (y3 : Int) := IntWalk.u32_in _ (by omega)
  have d1 : IntKind.u8.wrap (x1 : Int) = (x1 : Int) := by rw [IntKind.wrap_u8]; omega
  have d2 : IntKind.u8.wrap (x2 : Int) = (x2 : Int) := by rw [IntKind.wrap_u8]; omega
  have d3 : IntKind.u8.wrap (x3 : Int) = (x3 : Int) := by rw [IntKind.wrap_u8]; omega
  have d4 : IntKind.u8.wrap (x4 : Int) = (x4 : Int) := by rw [IntKind.wrap_u8]; omega
  obtain ⟨v2, w2, p1, p2, p3, -⟩ := q2.grow q3.size (by omega) [x1, x2, x3, x4] (by simp) (by simp)
  have HR := hid (And.intro p2 (q3.trans p3))
  have P1 : Hid ((Builtin.append_ #[100, 100] 100 #[v1, .slice (some ⟨w1.heap.size, 0, none⟩) 4 4]).run Try.prog (w1.alloc (.cells #[.int .u8 (x1 : Nat), .int .u8 (x2 : Nat), .int .u8 (x3 : Nat), .int .u8 (x4 : Nat)] 5)) = .ok v2 w2) := hid p1
  have Q1 := hid q1
  clear hx1 hx2 hx3 hx4 e4 hy2 hy3 h hl hseal q1 q2 q3 p1 p2 p3 hs
  go_enter Try.func78, Try.ntmps78
  go_upto_region 2 with ((with_reducible refine (SU.out).mono ?_); clear SU; rintro e _ ⟨rfl, rfl⟩)
  refine wp_region_doc (fun F' hF => ?_)
  have HF := hid hF
  clear hF
  iterate 2 (refine doc_val rfl (by first | (go_simp; done) | (go_simp; exact ⟨rfl, rfl⟩) | (go_simp; with_reducible rfl)) ?_; simp only [Act.put, List.setIfInBounds_toArray, List.set_cons_zero, List.set_cons_succ])
  refine doc_val rfl (run_append_op _ _ _ _ _ _ _ _ _ Q1.out) ?_
  simp only [Act.put, List.setIfInBounds_toArray, List.set_cons_zero, List.set_cons_succ]
  refine doc_val rfl (by first | (go_simp; done) | (go_simp; exact ⟨rfl, rfl⟩) | (go_simp; with_reducible rfl)) ?_
  simp only [Act.put, List.setIfInBounds_toArray, List.set_cons_zero, List.set_cons_succ]
  refine doc_end (HF.out _ _ ?_)
  clear HF F'
  go_upto_region 3 with (fail)
  refine wp_region_doc (fun F' hF => ?_)
  have HF := hid hF
  clear hF
  iterate 16 (refine doc_val rfl (by first | (go_simp; done) | (go_simp; exact ⟨rfl, rfl⟩) | (go_simp; with_reducible rfl)) ?_; simp only [Act.put, List.setIfInBounds_toArray, List.set_cons_zero, List.set_cons_succ])
  refine doc_val rfl (run_append_op _ _ _ _ _ _ _ _ _ P1.out) ?_
  simp only [Act.put, List.setIfInBounds_toArray, List.set_cons_zero, List.set_cons_succ]
  refine doc_val rfl (by first | (go_simp; done) | (go_simp; exact ⟨rfl, rfl⟩) | (go_simp; with_reducible rfl)) ?_
  simp only [Act.put, List.setIfInBounds_toArray, List.set_cons_zero, List.set_cons_succ]
  refine doc_end (HF.out _ _ ?_)
  clear HF F'
  go_wp2_with fail
  go_returns
  exact ⟨_, rfl, HR.out⟩
end Go.Proofs.Ytboekafmplomhaa
set_option linter.unusedVariables false
set_option linter.unusedSimpArgs false
namespace Go.Proofs.Ytboekafmplomhaa
open Go.RowKit

def findF : List Int → Int → Nat → Int
  | [], _, _ => -1
  | x :: r, a, k => if x = a then (k : Int) + 2 else findF r a (k + 1)
def findO (old : List Int) (a : Int) : Int := if a < 2 then a else findF old a 0
theorem findF_drop {old : List Int} {i : Nat} (h : i < old.length) (a : Int) : findF (old.drop i) a i = if old[i] = a then (i : Int) + 2 else findF (old.drop (i + 1)) a (i + 1) := by
  rw [List.drop_eq_getElem_cons h, findF]

/-- The document's frozen value: nodes, old numbers, roots. -/
def FrIs (w : World) (fv : Value) (ns : List Nd) (old rs : List Int) : Prop :=
  ∃ a1 c1 a2 c2 a3 c3, fv = .agg #[.slice a1 ns.length c1, .slice a2 old.length c2, .slice a3 rs.length c3] ∧ Rd w 3 (.slice a1 ns.length c1) (flat ns) ∧ Rd w 1 (.slice a2 old.length c2) (ints old) ∧ Rd w 1 (.slice a3 rs.length c3) (ints rs)
theorem FrIs.below {w w' : World} {fv : Value} {ns : List Nd} {old rs : List Int} (h : FrIs w fv ns old rs) (hb : Below w.heap.size w w') : FrIs w' fv ns old rs := by
  obtain ⟨a1, c1, a2, c2, a3, c3, e, h1, h2, h3⟩ := h
  exact ⟨a1, c1, a2, c2, a3, c3, e, h1.below hb, h2.below hb, h3.below hb⟩
theorem fr_size (x y z : Value) : (Try.prog.info? 153).map (·.size) = some [x, y, z].length := by
  have h : (Try.prog.info? 153).map (·.size) = some 3 := by kernel_rfl
  exact h

set_option maxHeartbeats 2000000 in
/-- The document's find: its box is laid, nothing else. -/
theorem find_any {w : World} {s1 s3 : Value} {a2 : Option Addr} {c2 : Nat} {old : List Int} (h1 : s1.oneCell' = true) (h3 : s3.oneCell' = true) (h : Rd w 1 (.slice a2 old.length c2) (ints old)) (hl : old.length ≤ 9000000000) (a : Int) :
    Calls Try.prog 152 #[.agg #[s1, .slice a2 old.length c2, s3], .int .i64 a] w (fun e w' => e = .returned (.int .i64 (findO old a)) ∧ w' = w.alloc (.cells #[s1, .slice a2 old.length c2, s3] 153)) := by
  obtain ⟨R, hR⟩ : ∃ R, R = findO old a := ⟨_, rfl⟩
  rw [← hR]
  have HR := hid hR
  clear hR
  by_cases h2 : a < 2
  · have e : R = a := by rw [HR.out]; unfold findO; rw [if_pos h2]
    subst e
    clear h
    go_enter Try.func152, Try.ntmps152
    go_wp2
    go_returns
    exact ⟨rfl, by first | rfl | trivial⟩
  · have e : R = findF old a 0 := by rw [HR.out]; unfold findO; rw [if_neg h2]
    have HE := hid e
    have H := hid h
    clear h e HR
    go_enter Try.func152, Try.ntmps152
    go_upto_region 3 with (fail)
    obtain ⟨V, hV⟩ : ∃ V, V = w.alloc (.cells #[s1, .slice a2 old.length c2, s3] 153) := ⟨_, rfl⟩
    have hbV : Below w.heap.size w V := by rw [hV]; (repeat' (first | (with_reducible exact Below.refl _ _) | (with_reducible refine Below.ext_mk ?_ ?_ _ _) | (with_reducible refine Below.alloc ?_ ?_ _) | (with_reducible refine Below.drew ?_) | (with_reducible refine Below.setCell ?_ ?_ _) | go_size))
    have bV : Blk V w.heap.size 153 [s1, .slice a2 old.length c2, s3] := by rw [hV]; exact World.heap_alloc_last w _
    have c0 := bV.cell 1
    simp only [List.getElem?_cons_zero, List.getElem?_cons_succ] at c0
    have z0 := bV.lt
    rw [← hV]
    have HV := hid hV
    have HRd := hid (H.out.below hbV)
    obtain ⟨fb, hfb⟩ : ∃ b, b = w.heap.size := ⟨_, rfl⟩
    rw [← hfb] at c0 z0 ⊢
    clear hV hbV bV hfb H
    go_wp2_with fail
    go_loopw [5] (fun iv wr => ∃ i : Nat, i ≤ old.length ∧ iv = .int .i64 i ∧ R = findF (old.drop i) a i ∧ wr = V) (fun iv _ => old.length - (intOf iv).toNat)
    case atStart => exact ⟨0, by omega, rfl, by rw [HE.out]; rfl, rfl⟩
    case round =>
      obtain ⟨i, hi, rfl, hRi, rfl⟩ := hrel
      by_cases hlt : i < old.length
      · have hi1 : (i : Int) < (old.length : Int) := by omega
        have hi0 : (0 : Int) ≤ (i : Int) := by omega
        obtain ⟨b, off, rfl, hb1, c⟩ := HRd.out.intAt hlt
        rw [findF_drop hlt] at hRi
        have HRi := hid hRi
        clear hRi
        by_cases he : old[i] = a
        · have e1 : R = (i : Int) + 2 := by rw [HRi.out, if_pos he]
          rw [he] at c
          have w2 : IntKind.i64.wrap ((i : Int) + 2) = (i : Int) + 2 := IntWalk.i64_in _ (by omega)
          have HE1 := hid e1
          clear he e1 HE HRi
          go_wp2_with fail
          go_returns
          exact ⟨by rw [HE1.out]; rfl, HV.out⟩
        · have e1 : R = findF (old.drop (i + 1)) a (i + 1) := by rw [HRi.out, if_neg he]
          have he2 : (old[i] == a) = false := beq_eq_false_iff_ne.2 he
          generalize old[i] = x at *
          have HE1 := hid e1
          clear e1 HE HRi
          go_wp2_with fail
          go_roundw
          case rel => exact ⟨i + 1, by omega, by go_num, HE1.out, by first | rfl | trivial⟩
          case measure => simp [intOf]; omega
      · obtain rfl : i = old.length := by omega
        have e1 : R = -1 := by rw [hRi, List.drop_length]; rfl
        have HE1 := hid e1
        clear hRi e1 HE
        go_wp2_with fail
        go_returns
        exact ⟨by rw [HE1.out]; rfl, HV.out⟩
end Go.Proofs.Ytboekafmplomhaa
set_option linter.unusedVariables false
set_option linter.unusedSimpArgs false
namespace Go.Proofs.Ytboekafmplomhaa
open Go.RowKit

def layN (R : RSt) : Nat → List Nd → List Int → Int → List Nd × List Int
  | 0, ns, old, _ => (ns, old)
  | n + 1, ns, old, a => if 0 ≤ findO old a then (ns, old) else
    ((layN R n (layN R n ns old (rnd R a).2.1).1 (layN R n ns old (rnd R a).2.1).2 (rnd R a).2.2).1 ++ [((rnd R a).1, findO (layN R n (layN R n ns old (rnd R a).2.1).1 (layN R n ns old (rnd R a).2.1).2 (rnd R a).2.2).2 (rnd R a).2.1, findO (layN R n (layN R n ns old (rnd R a).2.1).1 (layN R n ns old (rnd R a).2.1).2 (rnd R a).2.2).2 (rnd R a).2.2)],
     (layN R n (layN R n ns old (rnd R a).2.1).1 (layN R n ns old (rnd R a).2.1).2 (rnd R a).2.2).2 ++ [a])
theorem layN_len (R : RSt) : ∀ (n : Nat) (ns : List Nd) (old : List Int) (a : Int), ns.length ≤ (layN R n ns old a).1.length ∧ old.length ≤ (layN R n ns old a).2.length
  | 0, ns, old, a => ⟨Nat.le_refl _, Nat.le_refl _⟩
  | n + 1, ns, old, a => by
    rw [layN]
    split
    · exact ⟨Nat.le_refl _, Nat.le_refl _⟩
    · have h1 := layN_len R n ns old (rnd R a).2.1
      have h2 := layN_len R n (layN R n ns old (rnd R a).2.1).1 (layN R n ns old (rnd R a).2.1).2 (rnd R a).2.2
      simp only [List.length_append, List.length_cons, List.length_nil]
      omega
/-- Parts with lesser numbers. -/
def Lower (R : RSt) : Prop := ∀ (i : Nat) (n : Nd), R.L[i]? = some n → 0 ≤ n.2.1 ∧ n.2.1 < i + 2 ∧ 0 ≤ n.2.2 ∧ n.2.2 < i + 2
theorem ints_one (l : List Int) : ∀ u ∈ ints l, u.oneCell' = true := by
  intro u hu
  simp [ints] at hu
  obtain ⟨x, _, rfl⟩ := hu
  rfl
theorem flat_one : ∀ (l : List Nd), ∀ u ∈ flat l, u.oneCell' = true
  | [], u, hu => by simp [flat] at hu
  | n :: r, u, hu => by
    simp only [flat, List.mem_cons] at hu
    rcases hu with rfl | rfl | rfl | hu
    · rfl
    · rfl
    · rfl
    · exact flat_one r u hu

theorem fr_result {w : World} {fn : Func} {p : Tmp} {tmps : Array Value} {g : Nat} {e : TypeId} {x y z : Value} (h : fn.results = #[.cell p 153]) (hp : tmps.getD p undef = .pointer (some ⟨g, 0, none⟩)) (hg : Blk w g e [x, y, z]) :
    (results fn tmps).run Try.prog w = .ok (.agg #[x, y, z]) w :=
  results_cell_row (P := Try.prog) h _ _ _ _ _ _ _ hp hg Try.underlying153 rfl (by
    have h : (Try.prog.info? 153).map (·.size) = some 3 := by kernel_rfl
    exact h)
/-- A row of whole numbers lies in no block of slices. -/
theorem Rd.off {w w' : World} {size fb : Nat} {sv : Value} {xs ys : List Value} {e : TypeId} (h : Rd w size sv xs) (hsz : 0 < size) (hb : Blk w fb e ys) (hne : ∀ u ∈ xs, u ∉ ys) (hz : w.heap.size ≤ w'.heap.size) (hk : ∀ k, k < w.heap.size → k ≠ fb → w'.heap[k]? = w.heap[k]?) : Rd w' size sv xs := by
  obtain ⟨a, n, c, h1, h2, h3, h4, h5⟩ := h
  refine ⟨a, n, c, h1, h2, h3, h4, fun hn => ?_⟩
  obtain ⟨b, off, h6, h7, h8⟩ := h5 hn
  have hl : 0 < xs.length := by rw [h4]; exact Nat.mul_pos hn hsz
  have hne2 : b ≠ fb := fun q => by
    subst q
    have := h8 0 xs[0] (by simp [hl])
    rw [Nat.add_zero, hb.cell] at this
    exact hne _ (List.getElem_mem _) (List.mem_of_getElem? this)
  exact ⟨b, off, h6, Nat.lt_of_lt_of_le h7 hz, fun j u hu => (cell_of_heap (off + j) (hk b h7 hne2)).trans (h8 j u hu)⟩
def isInt : Value → Bool
  | .int _ _ => true
  | _ => false
theorem ints_int (l : List Int) : ∀ u ∈ ints l, isInt u = true := by
  intro u hu
  simp [ints] at hu
  obtain ⟨x, _, rfl⟩ := hu
  rfl
theorem flat_int : ∀ (l : List Nd), ∀ u ∈ flat l, isInt u = true
  | [], u, hu => by simp [flat] at hu
  | n :: r, u, hu => by
    simp only [flat, List.mem_cons] at hu
    rcases hu with rfl | rfl | rfl | hu
    · rfl
    · rfl
    · rfl
    · exact flat_int r u hu
theorem not_int {xs ys : List Value} (hx : ∀ u ∈ xs, isInt u = true) (hy : ∀ u ∈ ys, isInt u = false) : ∀ u ∈ xs, u ∉ ys := fun u h1 h2 => by
  have := hx u h1
  rw [hy u h2] at this
  cases this
theorem FrIs.off {w w' : World} {fv : Value} {ns : List Nd} {old rs : List Int} {fb : Nat} {e : TypeId} {ys : List Value} (h : FrIs w fv ns old rs) (hb : Blk w fb e ys) (hy : ∀ u ∈ ys, isInt u = false) (hz : w.heap.size ≤ w'.heap.size) (hk : ∀ k, k < w.heap.size → k ≠ fb → w'.heap[k]? = w.heap[k]?) : FrIs w' fv ns old rs := by
  obtain ⟨a1, c1, a2, c2, a3, c3, q, h1, h2, h3⟩ := h
  exact ⟨a1, c1, a2, c2, a3, c3, q, h1.off (by omega) hb (not_int (flat_int _) hy) hz hk, h2.off (by omega) hb (not_int (ints_int _) hy) hz hk, h3.off (by omega) hb (not_int (ints_int _) hy) hz hk⟩
theorem slices3 {x y z : Value} (hx : isInt x = false) (hy : isInt y = false) (hz : isInt z = false) : ∀ u ∈ [x, y, z], isInt u = false := by
  intro u hu
  simp only [List.mem_cons, List.not_mem_nil, or_false] at hu
  rcases hu with rfl | rfl | rfl <;> assumption
theorem RowIs.neBlk {w : World} {sv : Value} {g q : Nat} {e e' : TypeId} {s n : Nat} {xs ys : List Value} (h : RowIs w sv (some g) e s n xs) (h' : Blk w q e' ys) (he : e ≠ e') : g ≠ q := by
  rintro rfl
  obtain ⟨_, ⟨_, _, q⟩ | ⟨g', cap, cur, q1, q2, q3, _⟩⟩ := h
  · cases q
  · cases q2
    unfold Blk at h'
    rw [q3] at h'
    simp at h'
    exact he h'.2
theorem RIs.off {w w' : World} {q fb : Nat} {F : List Nat} {R : RSt} (h : RIs w q F R) (hf : fb ∉ F) (hz : w.heap.size ≤ w'.heap.size) (hk : ∀ k, k < w.heap.size → k ≠ fb → w'.heap[k]? = w.heap[k]?) : RIs w' q F R :=
  h.keep (fun k hk' => hk k (h.lt k hk') (fun e => hf (e ▸ hk')))

set_option maxRecDepth 100000 in
set_option maxHeartbeats 16000000 in
theorem rlay_any {R : RSt} (hL : Lower R) (hRl : R.L.length ≤ 1048576) {q : Nat} {F : List Nat} : ∀ (n : Nat) (w : World) (fv : Value) (ns : List Nd) (old rs : List Int) (a : Int), RIs w q F R → FrIs w fv ns old rs → 0 ≤ a → a < R.L.length + 2 → a.toNat < n →
    (layN R n ns old a).1.length ≤ 8388608 → (layN R n ns old a).2.length ≤ 8388608 →
    Calls Try.prog 151 #[.pointer (some ⟨q, 0, none⟩), fv, .int .i64 a] w (fun e w' => ∃ fv', e = .returned fv' ∧ FrIs w' fv' (layN R n ns old a).1 (layN R n ns old a).2 rs ∧ Below w.heap.size w w') := by
  intro n
  induction n with
  | zero => intro w fv ns old rs a _ _ _ _ h; omega
  | succ n ih =>
    intro w fv ns old rs a hR hF h0 ha hn hl1 hl2
    obtain ⟨a1, c1, a2, c2, a3, c3, rfl, f1, f2, f3⟩ := hF
    have hlen1 := layN_len R (n + 1) ns old a
    have hbV : Below w.heap.size w ((w.alloc (.cells #[.slice a1 ns.length c1, .slice a2 old.length c2, .slice a3 rs.length c3] 153)).alloc (.cells #[.slice none 0 0, .slice none 0 0, .slice none 0 0] 153)) := by (repeat' (first | (with_reducible exact Below.refl _ _) | (with_reducible refine Below.ext_mk ?_ ?_ _ _) | (with_reducible refine Below.alloc ?_ ?_ _) | (with_reducible refine Below.drew ?_) | (with_reducible refine Below.setCell ?_ ?_ _) | go_size))
    obtain ⟨V, hV⟩ : ∃ V, V = (w.alloc (.cells #[.slice a1 ns.length c1, .slice a2 old.length c2, .slice a3 rs.length c3] 153)).alloc (.cells #[.slice none 0 0, .slice none 0 0, .slice none 0 0] 153) := ⟨_, rfl⟩
    rw [← hV] at hbV
    have bF : Blk V w.heap.size 153 [.slice a1 ns.length c1, .slice a2 old.length c2, .slice a3 rs.length c3] := by
      rw [hV]; exact (Blk.new w _ [.slice a1 ns.length c1, .slice a2 old.length c2, .slice a3 rs.length c3]).keep (Below.heap_alloc _ _ _ (by simp))
    have bR : Blk V (w.heap.size + 1) 153 [.slice none 0 0, .slice none 0 0, .slice none 0 0] := by
      have h := Blk.new (w.alloc (.cells #[.slice a1 ns.length c1, .slice a2 old.length c2, .slice a3 rs.length c3] 153)) 153 [.slice none 0 0, .slice none 0 0, .slice none 0 0]
      rw [World.size_alloc] at h
      rw [hV]; exact h
    have FI := find_any (s1 := .slice a1 ns.length c1) (s3 := .slice a3 rs.length c3) rfl rfl (f2.below hbV) (by omega) a
    have hFr : FrIs V (.agg #[.slice a1 ns.length c1, .slice a2 old.length c2, .slice a3 rs.length c3]) ns old rs := ⟨a1, c1, a2, c2, a3, c3, rfl, f1.below hbV, f2.below hbV, f3.below hbV⟩
    have HR := hid (hR.below hbV)
    have HFr := hid hFr
    have HBV := hid hbV
    obtain ⟨fb, hfb⟩ : ∃ b, b = w.heap.size := ⟨_, rfl⟩
    obtain ⟨rb, hrb⟩ : ∃ b, b = w.heap.size + 1 := ⟨_, rfl⟩
    have hfr : fb ≠ rb := by omega
    have hfw : w.heap.size ≤ fb := by omega
    have hrw : w.heap.size ≤ rb := by omega
    rw [← hfb] at bF
    rw [← hrb] at bR
    by_cases hfound : 0 ≤ findO old a
    · have e1 : layN R (n + 1) ns old a = (ns, old) := by rw [layN, if_pos hfound]
      rw [e1]
      clear e1 hl1 hl2 hlen1 ih hR f1 f2 f3 hbV hFr
      generalize findO old a = k at *
      go_enter Try.func151, Try.ntmps151
      go_upto_region 1 with (fail)
      rw [← hV, ← hrb, ← hfb]
      clear hV hrb hfb
      refine wp_region_doc (fun F' hF => ?_)
      have HF := hid hF
      clear hF
      refine doc_val rfl (load_struct_op _ _ _ _ _ _ _ _ Try.underlying153 (fr_size _ _ _) rfl bF) ?_
      simp only [Act.put, List.setIfInBounds_toArray, List.set_cons_zero, List.set_cons_succ]
      refine doc_val rfl (by first | (go_simp; done) | (go_simp; exact ⟨rfl, rfl⟩) | (go_simp; with_reducible rfl)) ?_
      simp only [Act.put, List.setIfInBounds_toArray, List.set_cons_zero, List.set_cons_succ]
      refine doc_call rfl (by first | (go_simp; done) | (go_simp; exact ⟨rfl, rfl⟩) | (go_simp; with_reducible rfl)) (FI.mono ?_)
      rintro _ _ ⟨rfl, rfl⟩
      refine ⟨_, rfl, ?_⟩
      simp only [Act.put, List.setIfInBounds_toArray, List.set_cons_zero, List.set_cons_succ]
      refine doc_val rfl (by first | (go_simp; done) | (go_simp; exact ⟨rfl, rfl⟩) | (go_simp; with_reducible rfl)) ?_
      simp only [Act.put, List.setIfInBounds_toArray, List.set_cons_zero, List.set_cons_succ]
      refine doc_end (HF.out _ _ ?_)
      obtain ⟨w2, hw2⟩ : ∃ w2, w2 = V.alloc (.cells #[.slice a1 ns.length c1, .slice a2 old.length c2, .slice a3 rs.length c3] 153) := ⟨_, rfl⟩
      rw [← hw2]
      have hb2 : Below V.heap.size V w2 := by rw [hw2]; (repeat' (first | (with_reducible exact Below.refl _ _) | (with_reducible refine Below.ext_mk ?_ ?_ _ _) | (with_reducible refine Below.alloc ?_ ?_ _) | (with_reducible refine Below.drew ?_) | (with_reducible refine Below.setCell ?_ ?_ _) | go_size))
      have bF2 := bF.below hb2
      have bR2 := bR.below hb2
      have HB2 := hid hb2
      clear HF F' hw2 bF bR FI hb2
      go_upto_region 2 with (fail)
      refine wp_region_doc (fun F' hF => ?_)
      have HF := hid hF
      clear hF
      refine doc_val rfl (load_struct_op _ _ _ _ _ _ _ _ Try.underlying153 (fr_size _ _ _) rfl bF2) ?_
      simp only [Act.put, List.setIfInBounds_toArray, List.set_cons_zero, List.set_cons_succ]
      refine doc_skip rfl (store_row_op (xs := [.slice none 0 0, .slice none 0 0, .slice none 0 0]) (ys := [.slice a1 ns.length c1, .slice a2 old.length c2, .slice a3 rs.length c3]) _ _ _ _ _ _ _ _ _ (fr_size _ _ _) rfl rfl rfl rfl bR2) ?_
      simp only [Act.put, List.setIfInBounds_toArray, List.set_cons_zero, List.set_cons_succ]
      refine doc_end (HF.out _ _ ?_)
      clear HF F'
      have hb3 : Below V.heap.size V w2 := HB2.out
      have bR3 := bR2.row [.slice a1 ns.length c1, .slice a2 old.length c2, .slice a3 rs.length c3]
      have hfin : Below w.heap.size w (w2.setRow rb [.slice a1 ns.length c1, .slice a2 old.length c2, .slice a3 rs.length c3].toArray) := Below.setRow (HBV.out.trans (hb3.mono HBV.out.size)) hrw _
      have hFr3 := (HFr.out.below hb3).off (w' := w2.setRow rb [.slice a1 ns.length c1, .slice a2 old.length c2, .slice a3 rs.length c3].toArray) bR2 (slices3 rfl rfl rfl) (by simp [World.setRow]) (fun k _ hk => heap_setRow_ne _ (fun q => hk q.symm))
      go_wp2
      exact bodyPost_ret (fr_result rfl rfl bR3) rfl ⟨_, rfl, hFr3, hfin⟩
    · have ha2 : ¬ a < 2 := fun q => hfound (by unfold findO; rw [if_pos q]; exact h0)
      obtain ⟨i, hia⟩ : ∃ i : Nat, a = (i : Int) + 2 := ⟨(a - 2).toNat, by omega⟩
      have hiL : i < R.L.length := by omega
      obtain ⟨x, hx⟩ : ∃ x, R.L[i]? = some x := ⟨R.L[i], by simp [hiL]⟩
      have hrnd : rnd R a = x := by unfold rnd; rw [show (a - 2).toNat = i by omega, hx]; rfl
      have hlow := hL i x hx
      obtain ⟨x1, x2, x3⟩ := x
      simp only at hlow
      have e1 : layN R (n + 1) ns old a = ((layN R n (layN R n ns old x2).1 (layN R n ns old x2).2 x3).1 ++ [(x1, findO (layN R n (layN R n ns old x2).1 (layN R n ns old x2).2 x3).2 x2, findO (layN R n (layN R n ns old x2).1 (layN R n ns old x2).2 x3).2 x3)], (layN R n (layN R n ns old x2).1 (layN R n ns old x2).2 x3).2 ++ [a]) := by
        rw [layN, if_neg hfound, hrnd]
      rw [e1] at hl1 hl2 ⊢
      have m1 := layN_len R n ns old x2
      have m2 := layN_len R n (layN R n ns old x2).1 (layN R n ns old x2).2 x3
      simp only [List.length_append, List.length_cons, List.length_nil] at hl1 hl2
      have I1 := hid (fun W f (h1 : RIs W q F R) (h2 : FrIs W f ns old rs) => ih W f ns old rs x2 h1 h2 (by omega) (by omega) (by omega) (by omega) (by omega))
      have I2 := hid (fun W f (h1 : RIs W q F R) (h2 : FrIs W f (layN R n ns old x2).1 (layN R n ns old x2).2 rs) => ih W f _ _ rs x3 h1 h2 (by omega) (by omega) (by omega) (by omega) (by omega))
      generalize layN R n ns old x2 = P1 at *
      generalize layN R n P1.1 P1.2 x3 = P2 at *
      obtain ⟨p1, o1⟩ := P1
      obtain ⟨p2, o2⟩ := P2
      simp only at hl1 hl2 m1 m2 I1 I2
      have hqF := hR.lt
      have hfF : fb ∉ F := fun hm => by have := hqF fb hm; omega
      have hk1 : ¬ 0 ≤ findO old a := hfound
      have HX := hid hx
      have HI := hid hia
      have HL12 := hid (And.intro hl1 hl2)
      clear e1 hlen1 ih hR f1 f2 f3 hbV hFr hrnd hlow hia m1 m2 hx hqF hl1 hl2 ha2 hfound
      generalize findO old a = kk at *
      go_enter Try.func151, Try.ntmps151
      go_upto_region 1 with (fail)
      rw [← hV, ← hrb, ← hfb]
      have hwV : w.heap.size ≤ V.heap.size := HBV.out.size
      clear hV hrb hfb
      refine wp_region_doc (fun F' hF => ?_)
      have HF := hid hF
      clear hF
      refine doc_val rfl (load_struct_op _ _ _ _ _ _ _ _ Try.underlying153 (fr_size _ _ _) rfl bF) ?_
      simp only [Act.put, List.setIfInBounds_toArray, List.set_cons_zero, List.set_cons_succ]
      refine doc_val rfl (by first | (go_simp; done) | (go_simp; exact ⟨rfl, rfl⟩) | (go_simp; with_reducible rfl)) ?_
      simp only [Act.put, List.setIfInBounds_toArray, List.set_cons_zero, List.set_cons_succ]
      refine doc_call rfl (by first | (go_simp; done) | (go_simp; exact ⟨rfl, rfl⟩) | (go_simp; with_reducible rfl)) (FI.mono ?_)
      rintro _ _ ⟨rfl, rfl⟩
      refine ⟨_, rfl, ?_⟩
      simp only [Act.put, List.setIfInBounds_toArray, List.set_cons_zero, List.set_cons_succ]
      refine doc_val rfl (by first | (go_simp; done) | (go_simp; exact ⟨rfl, rfl⟩) | (go_simp; with_reducible rfl)) ?_
      simp only [Act.put, List.setIfInBounds_toArray, List.set_cons_zero, List.set_cons_succ]
      refine doc_end (HF.out _ _ ?_)
      obtain ⟨w2, hw2⟩ : ∃ w2, w2 = V.alloc (.cells #[.slice a1 ns.length c1, .slice a2 old.length c2, .slice a3 rs.length c3] 153) := ⟨_, rfl⟩
      rw [← hw2]
      have hb2 : Below V.heap.size V w2 := by rw [hw2]; (repeat' (first | (with_reducible exact Below.refl _ _) | (with_reducible refine Below.ext_mk ?_ ?_ _ _) | (with_reducible refine Below.alloc ?_ ?_ _) | (with_reducible refine Below.drew ?_) | (with_reducible refine Below.setCell ?_ ?_ _) | go_size))
      have bF2 := bF.below hb2
      have bR2 := bR.below hb2
      have HR2 := hid (HR.out.below hb2)
      have HFr2 := hid (HFr.out.below hb2)
      have HB2 := hid (HBV.out.trans (hb2.mono hwV))
      clear HF F' hw2 bF bR FI hb2 HR HFr
      obtain ⟨g, cap', zq, zg, k0, k1, k2, n0, n1, n2⟩ := HR2.out.node HX.out
      have wa : IntKind.i64.wrap (a - 2) = (i : Int) := by rw [IntWalk.i64_in _ (by have := HI.out; omega)]; have := HI.out; omega
      have hi1 : (i : Int) < (R.L.length : Int) := by omega
      have hi0 : (0 : Int) ≤ (i : Int) := by omega
      simp only at n0 n1 n2
      go_upto_region 4 with (fail)
      refine wp_gen (fun U hU => ?_)
      have hbU : Below w2.heap.size w2 U := by rw [hU]; (repeat' (first | (with_reducible exact Below.refl _ _) | (with_reducible refine Below.ext_mk ?_ ?_ _ _) | (with_reducible refine Below.alloc ?_ ?_ _) | (with_reducible refine Below.drew ?_) | (with_reducible refine Below.setCell ?_ ?_ _) | go_size))
      have bN : Blk U w2.heap.size 39 [.int .i64 x1, .int .i64 x2, .int .i64 x3] := by rw [hU]; exact World.heap_alloc_last w2 _
      obtain ⟨nb, hnb⟩ : ∃ b, b = w2.heap.size := ⟨_, rfl⟩
      have hnf : nb ≠ fb := by have := bF2.lt; omega
      have hnr : nb ≠ rb := by have := bR2.lt; omega
      have hnF : nb ∉ F := fun hm => by have := HR2.out.lt nb hm; omega
      rw [← hnb] at bN ⊢
      have bF3 := bF2.below hbU
      have bR3 := bR2.below hbU
      have HR3 := hid (HR2.out.below hbU)
      have HFr3 := hid (HFr2.out.below hbU)
      have HB3 := hid (HB2.out.trans (hbU.mono HB2.out.size))
      clear hU hbU bF2 bR2 HR2 HFr2 zq zg k0 k1 k2 n0 n1 n2 wa hi1 hi0 hnb
      -- the lo part
      refine wp_region_doc (fun F' hF => ?_)
      have HF := hid hF
      clear hF
      refine doc_val rfl (by first | (go_simp; done) | (go_simp; exact ⟨rfl, rfl⟩) | (go_simp; with_reducible rfl)) ?_
      simp only [Act.put, List.setIfInBounds_toArray, List.set_cons_zero, List.set_cons_succ]
      refine doc_val rfl (load_struct_op _ _ _ _ _ _ _ _ Try.underlying153 (fr_size _ _ _) rfl bF3) ?_
      simp only [Act.put, List.setIfInBounds_toArray, List.set_cons_zero, List.set_cons_succ]
      have cn := bN.cell 1
      have zn := bN.lt
      simp only [List.getElem?_cons_zero, List.getElem?_cons_succ] at cn
      iterate 2 (refine doc_val rfl (by first | (go_simp; done) | (go_simp; exact ⟨rfl, rfl⟩) | (go_simp; with_reducible rfl)) ?_; simp only [Act.put, List.setIfInBounds_toArray, List.set_cons_zero, List.set_cons_succ])
      clear cn zn
      refine doc_call rfl (by first | (go_simp; done) | (go_simp; exact ⟨rfl, rfl⟩) | (go_simp; with_reducible rfl)) ((I1.out U _ HR3.out HFr3.out).mono ?_)
      rintro _ w4 ⟨fv1, rfl, hfr4, hb4⟩
      refine ⟨_, rfl, ?_⟩
      simp only [Act.put, List.setIfInBounds_toArray, List.set_cons_zero, List.set_cons_succ]
      obtain ⟨a4, d4, a5, d5, a6, d6, rfl, r1, r2, r3⟩ := id hfr4
      have bF4 := bF3.below hb4
      have bR4 := bR3.below hb4
      have bN4 := bN.below hb4
      have hR4 := HR3.out.below hb4
      refine doc_skip rfl (store_row_op (xs := [.slice a1 ns.length c1, .slice a2 old.length c2, .slice a3 rs.length c3]) (ys := [.slice a4 p1.length d4, .slice a5 o1.length d5, .slice a6 rs.length d6]) _ _ _ _ _ _ _ _ _ (fr_size _ _ _) rfl rfl rfl rfl bF4) ?_
      simp only [Act.put, List.setIfInBounds_toArray, List.set_cons_zero, List.set_cons_succ]
      refine doc_end (HF.out _ _ ?_)
      obtain ⟨w5, hw5⟩ : ∃ w5, w5 = w4.setRow fb [.slice a4 p1.length d4, .slice a5 o1.length d5, .slice a6 rs.length d6].toArray := ⟨_, rfl⟩
      rw [← hw5]
      have hz5 : w4.heap.size ≤ w5.heap.size := by rw [hw5]; simp [World.setRow]
      have hk5 : ∀ k, k < w4.heap.size → k ≠ fb → w5.heap[k]? = w4.heap[k]? := fun k _ hk => by rw [hw5]; exact heap_setRow_ne _ (fun q => hk q.symm)
      have bF5 : Blk w5 fb 153 [.slice a4 p1.length d4, .slice a5 o1.length d5, .slice a6 rs.length d6] := by rw [hw5]; exact bF4.row _
      have bR5 := bR4.keep (hk5 rb bR4.lt (fun q => hfr q.symm))
      have bN5 := bN4.keep (hk5 nb bN4.lt hnf)
      have HR5 := hid (hR4.off hfF hz5 hk5)
      have HFr5 := hid (hfr4.off bF4 (slices3 rfl rfl rfl) hz5 hk5)
      have HB5 := hid (show Below w.heap.size w w5 from by rw [hw5]; exact Below.setRow (HB3.out.trans (hb4.mono HB3.out.size)) hfw _)
      clear HF F' bF3 bR3 bN HR3 HFr3 HB3 hfr4 hb4 r1 r2 r3 bF4 bR4 bN4 hR4 hw5 hz5 hk5
      go_upto_region 5 with (fail)
      refine wp_region_doc (fun F' hF => ?_)
      have HF := hid hF
      clear hF
      refine doc_val rfl (by first | (go_simp; done) | (go_simp; exact ⟨rfl, rfl⟩) | (go_simp; with_reducible rfl)) ?_
      simp only [Act.put, List.setIfInBounds_toArray, List.set_cons_zero, List.set_cons_succ]
      refine doc_val rfl (load_struct_op _ _ _ _ _ _ _ _ Try.underlying153 (fr_size _ _ _) rfl bF5) ?_
      simp only [Act.put, List.setIfInBounds_toArray, List.set_cons_zero, List.set_cons_succ]
      have cn := bN5.cell 2
      have zn := bN5.lt
      simp only [List.getElem?_cons_zero, List.getElem?_cons_succ] at cn
      iterate 2 (refine doc_val rfl (by first | (go_simp; done) | (go_simp; exact ⟨rfl, rfl⟩) | (go_simp; with_reducible rfl)) ?_; simp only [Act.put, List.setIfInBounds_toArray, List.set_cons_zero, List.set_cons_succ])
      clear cn zn
      refine doc_call rfl (by first | (go_simp; done) | (go_simp; exact ⟨rfl, rfl⟩) | (go_simp; with_reducible rfl)) ((I2.out w5 _ HR5.out HFr5.out).mono ?_)
      rintro _ w6 ⟨fv2, rfl, hfr6, hb6⟩
      refine ⟨_, rfl, ?_⟩
      simp only [Act.put, List.setIfInBounds_toArray, List.set_cons_zero, List.set_cons_succ]
      obtain ⟨s1, t1, s2, t2, s3, t3, rfl, r1, r2, r3⟩ := id hfr6
      have bF6 := bF5.below hb6
      have bR6 := bR5.below hb6
      have bN6 := bN5.below hb6
      refine doc_skip rfl (store_row_op (xs := [.slice a4 p1.length d4, .slice a5 o1.length d5, .slice a6 rs.length d6]) (ys := [.slice s1 p2.length t1, .slice s2 o2.length t2, .slice s3 rs.length t3]) _ _ _ _ _ _ _ _ _ (fr_size _ _ _) rfl rfl rfl rfl bF6) ?_
      simp only [Act.put, List.setIfInBounds_toArray, List.set_cons_zero, List.set_cons_succ]
      refine doc_end (HF.out _ _ ?_)
      obtain ⟨Y, hY⟩ : ∃ Y, Y = w6.setRow fb [.slice s1 p2.length t1, .slice s2 o2.length t2, .slice s3 rs.length t3].toArray := ⟨_, rfl⟩
      rw [← hY]
      have hz7 : w6.heap.size ≤ Y.heap.size := by rw [hY]; simp [World.setRow]
      have hk7 : ∀ k, k < w6.heap.size → k ≠ fb → Y.heap[k]? = w6.heap[k]? := fun k _ hk => by rw [hY]; exact heap_setRow_ne _ (fun q => hk q.symm)
      have bF7 : Blk Y fb 153 [.slice s1 p2.length t1, .slice s2 o2.length t2, .slice s3 rs.length t3] := by rw [hY]; exact bF6.row _
      have bR7 := bR6.keep (hk7 rb bR6.lt (fun q => hfr q.symm))
      have bN7 := bN6.keep (hk7 nb bN6.lt hnf)
      have q1 := r1.off (by omega) bF6 (not_int (flat_int _) (slices3 rfl rfl rfl)) hz7 hk7
      have q2 := r2.off (by omega) bF6 (not_int (ints_int _) (slices3 rfl rfl rfl)) hz7 hk7
      have q3 := r3.off (by omega) bF6 (not_int (ints_int _) (slices3 rfl rfl rfl)) hz7 hk7
      have HB7 := hid (show Below w.heap.size w Y from by rw [hY]; exact Below.setRow (HB5.out.trans (hb6.mono HB5.out.size)) hfw _)
      clear HF F' bF5 bR5 bN5 HR5 HFr5 HB5 hfr6 hb6 r1 r2 r3 bF6 bR6 bN6 hY hz7 hk7 I1 I2
      have hYfb := bF7.lt
      have hYrb := bR7.lt
      -- the new node's row
      obtain ⟨v2, W2, G2, u1, u2, u3, u4, u5⟩ := copy_row (w := Y.drew) (n := p2.length) Try.underlying43 info_is infoB_zero infoB_size infoB_bytes rfl (by omega) (q1.below (by (repeat' (first | (with_reducible exact Below.refl _ _) | (with_reducible refine Below.ext_mk ?_ ?_ _ _) | (with_reducible refine Below.alloc ?_ ?_ _) | (with_reducible refine Below.drew ?_) | (with_reducible refine Below.setCell ?_ ?_ _) | go_size)))) (flat_one _) (flat_length _) (by have := HL12.out.1; omega) (by omega)
      have bY2 : Below Y.heap.size Y W2 := (Below.drew (Below.refl _ _)).trans u3
      have fi2 := find_any (w := W2) (s1 := .slice s1 p2.length t1) (s3 := .slice s3 rs.length t3) rfl rfl (q2.below bY2) (by have := HL12.out.2; omega) x2
      have bY3 : Below Y.heap.size Y (W2.alloc (.cells #[.slice s1 p2.length t1, .slice s2 o2.length t2, .slice s3 rs.length t3] 153)) := bY2.alloc bY2.size _
      obtain ⟨W3, hW3⟩ : ∃ W3, W3 = W2.alloc (.cells #[.slice s1 p2.length t1, .slice s2 o2.length t2, .slice s3 rs.length t3] 153) := ⟨_, rfl⟩
      rw [← hW3] at fi2 bY3
      have fi3 := find_any (w := W3) (s1 := .slice s1 p2.length t1) (s3 := .slice s3 rs.length t3) rfl rfl (q2.below bY3) (by have := HL12.out.2; omega) x3
      have bY4 : Below Y.heap.size Y (W3.alloc (.cells #[.slice s1 p2.length t1, .slice s2 o2.length t2, .slice s3 rs.length t3] 153)) := bY3.alloc bY3.size _
      obtain ⟨W4, hW4⟩ : ∃ W4, W4 = W3.alloc (.cells #[.slice s1 p2.length t1, .slice s2 o2.length t2, .slice s3 rs.length t3] 153) := ⟨_, rfl⟩
      rw [← hW4] at fi3 bY4
      have hb24 : Below W2.heap.size W2 W4 := by rw [hW4, hW3]; (repeat' (first | (with_reducible exact Below.refl _ _) | (with_reducible refine Below.ext_mk ?_ ?_ _ _) | (with_reducible refine Below.alloc ?_ ?_ _) | (with_reducible refine Below.drew ?_) | (with_reducible refine Below.setCell ?_ ?_ _) | go_size))
      obtain ⟨v6, W6, G6, g1, g2, g3, g4⟩ := node_one (RowIs.keep u2 (fun g hg => hb24.block g (RowIs.lt u2 g hg))) (by have := HL12.out.1; omega) (x1, findO o2 x2, findO o2 x3)
      have hG2 : Y.heap.size ≤ G2 := u4
      have bY6 : Below Y.heap.size Y W6 := bY4.trans (g4.below (fun k hk => by simp at hk; omega) bY4.size)
      have hG6 : Y.heap.size ≤ G6 := by rcases g3 with e | e; · cases e; exact hG2
                                        · have := bY4.size; omega
      generalize hlo : findO o2 x2 = lo' at *
      generalize hhi : findO o2 x3 = hi' at *
      have HLO := hid hlo
      have HHI := hid hhi
      clear hlo hhi
      obtain ⟨sa6, sc6, hv6, _⟩ := RowIs.form g2
      subst hv6
      obtain ⟨l6, hl6⟩ : ∃ l, l = (p2 ++ [(x1, lo', hi')]).length := ⟨_, rfl⟩
      rw [← hl6] at g1
      obtain ⟨W5, hW5⟩ : ∃ W5, W5 = W4.alloc (.cells #[.int .i64 x1, .int .i64 lo', .int .i64 hi'] 39) := ⟨_, rfl⟩
      simp only at g1
      rw [← hW5] at g1
      have bY5 : Below Y.heap.size Y W5 := by rw [hW5]; exact bY4.alloc bY4.size _
      obtain ⟨W7, hW7⟩ : ∃ W7, W7 = W6.setCell ⟨fb, 0, none⟩ (.slice sa6 l6 sc6) := ⟨_, rfl⟩
      have bF8 : Blk W7 fb 153 [.slice sa6 l6 sc6, .slice s2 o2.length t2, .slice s3 rs.length t3] := by rw [hW7]; exact (bF7.below bY6).set_ 0 _
      have BS := hid (fun W (hb : Below Y.heap.size Y W) => And.intro (bF7.below hb) (bN7.below hb))
      have bN8 : Blk W7 nb 39 [.int .i64 x1, .int .i64 x2, .int .i64 x3] := by rw [hW7]; exact (bN7.below bY6).far (fun q => hnf q.symm) _ _
      have hc6 := (bF7.below bY6)
      have BN8 := hid bN8
      have FI2 := hid fi2
      have FI3 := hid fi3
      have U1 := hid u1
      have G1 := hid g1
      have BYS := hid (And.intro bY2 (And.intro bY3 (And.intro bY4 (And.intro bY5 bY6))))
      have HW := hid (And.intro hW3 (And.intro hW4 (And.intro hW5 hW7)))
      have HC6 := hid hc6
      have HL6a := hid hl6
      clear u1 g1 fi2 fi3 bN8 hc6 hW3 hW4 hW5 hW7 hl6
      go_upto_region 6 with (fail)
      refine wp_region_stage [0, 3, 9, 13, 15, 16, 18] (fun i W => (i < 7 → Blk W fb 153 [.slice s1 p2.length t1, .slice s2 o2.length t2, .slice s3 rs.length t3]) ∧ Blk W nb 39 [.int .i64 x1, .int .i64 x2, .int .i64 x3] ∧
          (i = 0 → W = Y.drew) ∧ (i = 1 → W = Y.drew.alloc (.cells #[] 39)) ∧ (i = 2 → W = W2) ∧ (i = 3 → W = W3) ∧ (i = 4 → W = W4) ∧ (i = 5 → W = W5) ∧ (i = 6 → W = W6) ∧ (i = 7 → W = W7))
        (by kernel_rfl) (by kernel_rfl) (by kernel_rfl) (by kernel_rfl) ⟨fun _ => (BS.out _ (Below.drew (Below.refl _ _))).1, (BS.out _ (Below.drew (Below.refl _ _))).2, fun _ => rfl, fun h => by omega, fun h => by omega, fun h => by omega, fun h => by omega, fun h => by omega, fun h => by omega, fun h => by omega⟩ (fun F' hF' => ?_)
      have HF := hid hF'
      clear hF'
      refine sg_turn 0 (v := .slice (some ⟨Y.heap.size, 0, none⟩) 0 0) rfl rfl (fun W hR => ⟨Y.drew.alloc (.cells #[] 39), by rw [hR.2.2.1 rfl]; clear hR; go_simp, fun _ => (BS.out _ ((Below.drew (Below.refl _ _)).alloc (Nat.le_refl _) _)).1, (BS.out _ ((Below.drew (Below.refl _ _)).alloc (Nat.le_refl _) _)).2, fun h => by omega, fun _ => rfl, fun h => by omega, fun h => by omega, fun h => by omega, fun h => by omega, fun h => by omega, fun h => by omega⟩) ?_
      simp only [Act.put, List.setIfInBounds_toArray, List.set_cons_zero, List.set_cons_succ]
      refine sg_any rfl rfl (fun _ => by go_simp; with_reducible rfl) ?_
      simp only [Act.put, List.setIfInBounds_toArray, List.set_cons_zero, List.set_cons_succ]
      refine sg_read 0 1 rfl (by decide +kernel) (by decide +kernel) rfl (fun ii w' l' u hR => by
        have e0 := (hR.1 (by omega)).cell 0
        have e3 := (hR.1 (by omega)).lt
        clear hR
        simp only [List.getElem?_cons_zero, List.getElem?_cons_succ] at e0
        go_simp; with_reducible rfl) ?_
      simp only [Act.put, List.setIfInBounds_toArray, List.set_cons_zero, List.set_cons_succ]
      refine sg_turn 1 (v := v2) rfl rfl (fun W hR => ⟨W2, by rw [hR.2.2.2.1 rfl]; clear hR; exact run_append_op _ _ _ _ _ _ _ _ _ U1.out, fun _ => (BS.out _ BYS.out.1).1, (BS.out _ BYS.out.1).2, fun h => by omega, fun h => by omega, fun _ => rfl, fun h => by omega, fun h => by omega, fun h => by omega, fun h => by omega, fun h => by omega⟩) ?_
      simp only [Act.put, List.setIfInBounds_toArray, List.set_cons_zero, List.set_cons_succ]
      refine sg_any rfl rfl (fun _ => by go_simp; with_reducible rfl) ?_
      simp only [Act.put, List.setIfInBounds_toArray, List.set_cons_zero, List.set_cons_succ]
      refine sg_read 0 4 rfl (by decide +kernel) (by decide +kernel) rfl (fun ii w' l' u hR => by
        have e0 := hR.2.1.cell 0
        have e3 := hR.2.1.lt
        clear hR
        simp only [List.getElem?_cons_zero, List.getElem?_cons_succ] at e0
        go_simp; with_reducible rfl) ?_
      simp only [Act.put, List.setIfInBounds_toArray, List.set_cons_zero, List.set_cons_succ]
      refine sg_read 0 2 rfl (by decide +kernel) (by decide +kernel) rfl (fun ii w' l' u hR => load_struct_op _ _ _ _ _ _ _ _ Try.underlying153 (fr_size _ _ _) rfl (hR.1 (by omega))) ?_
      simp only [Act.put, List.setIfInBounds_toArray, List.set_cons_zero, List.set_cons_succ]
      refine sg_any rfl rfl (fun _ => by go_simp; with_reducible rfl) ?_
      simp only [Act.put, List.setIfInBounds_toArray, List.set_cons_zero, List.set_cons_succ]
      refine sg_read 0 2 rfl (by decide +kernel) (by decide +kernel) rfl (fun ii w' l' u hR => by
        have e0 := hR.2.1.cell 1
        have e3 := hR.2.1.lt
        clear hR
        simp only [List.getElem?_cons_zero, List.getElem?_cons_succ] at e0
        go_simp; with_reducible rfl) ?_
      simp only [Act.put, List.setIfInBounds_toArray, List.set_cons_zero, List.set_cons_succ]
      refine sg_turn_call 2 (v := .int .i64 lo') (f := 152) (args := #[.agg #[.slice s1 p2.length t1, .slice s2 o2.length t2, .slice s3 rs.length t3], .int .i64 x2]) rfl rfl (fun _ => by first | (go_simp; done) | (go_simp; exact ⟨rfl, rfl⟩)) (fun W hR => by
        rw [hR.2.2.2.2.1 rfl]
        refine FI2.out.mono ?_
        rintro e w' ⟨rfl, hw'⟩
        subst hw'
        exact ⟨rfl, fun _ => (BS.out _ BYS.out.2.1).1, (BS.out _ BYS.out.2.1).2, fun h => by omega, fun h => by omega, fun h => by omega, fun _ => rfl, fun h => by omega, fun h => by omega, fun h => by omega, fun h => by omega⟩) ?_
      simp only [Act.put, List.setIfInBounds_toArray, List.set_cons_zero, List.set_cons_succ]
      refine sg_read 0 3 rfl (by decide +kernel) (by decide +kernel) rfl (fun ii w' l' u hR => load_struct_op _ _ _ _ _ _ _ _ Try.underlying153 (fr_size _ _ _) rfl (hR.1 (by omega))) ?_
      simp only [Act.put, List.setIfInBounds_toArray, List.set_cons_zero, List.set_cons_succ]
      refine sg_any rfl rfl (fun _ => by go_simp; with_reducible rfl) ?_
      simp only [Act.put, List.setIfInBounds_toArray, List.set_cons_zero, List.set_cons_succ]
      refine sg_read 0 3 rfl (by decide +kernel) (by decide +kernel) rfl (fun ii w' l' u hR => by
        have e0 := hR.2.1.cell 2
        have e3 := hR.2.1.lt
        clear hR
        simp only [List.getElem?_cons_zero, List.getElem?_cons_succ] at e0
        go_simp; with_reducible rfl) ?_
      simp only [Act.put, List.setIfInBounds_toArray, List.set_cons_zero, List.set_cons_succ]
      refine sg_turn_call 3 (v := .int .i64 hi') (f := 152) (args := #[.agg #[.slice s1 p2.length t1, .slice s2 o2.length t2, .slice s3 rs.length t3], .int .i64 x3]) rfl rfl (fun _ => by first | (go_simp; done) | (go_simp; exact ⟨rfl, rfl⟩)) (fun W hR => by
        rw [hR.2.2.2.2.2.1 rfl]
        refine FI3.out.mono ?_
        rintro e w' ⟨rfl, hw'⟩
        subst hw'
        exact ⟨rfl, fun _ => (BS.out _ BYS.out.2.2.1).1, (BS.out _ BYS.out.2.2.1).2, fun h => by omega, fun h => by omega, fun h => by omega, fun h => by omega, fun _ => rfl, fun h => by omega, fun h => by omega, fun h => by omega⟩) ?_
      simp only [Act.put, List.setIfInBounds_toArray, List.set_cons_zero, List.set_cons_succ]
      refine sg_any rfl rfl (fun _ => by go_simp; with_reducible rfl) ?_
      simp only [Act.put, List.setIfInBounds_toArray, List.set_cons_zero, List.set_cons_succ]
      refine sg_turn 4 (v := .slice (some ⟨W4.heap.size, 0, none⟩) 1 1) rfl rfl (fun W hR => ⟨W5, by rw [hR.2.2.2.2.2.2.1 rfl, HW.out.2.2.1]; clear hR; go_simp, fun _ => (BS.out _ BYS.out.2.2.2.1).1, (BS.out _ BYS.out.2.2.2.1).2, fun h => by omega, fun h => by omega, fun h => by omega, fun h => by omega, fun h => by omega, fun _ => rfl, fun h => by omega, fun h => by omega⟩) ?_
      simp only [Act.put, List.setIfInBounds_toArray, List.set_cons_zero, List.set_cons_succ]
      refine sg_turn 5 (v := .slice sa6 l6 sc6) rfl rfl (fun W hR => ⟨W6, by rw [hR.2.2.2.2.2.2.2.1 rfl]; clear hR; exact run_append_op _ _ _ _ _ _ _ _ _ G1.out, fun _ => (BS.out _ BYS.out.2.2.2.2).1, (BS.out _ BYS.out.2.2.2.2).2, fun h => by omega, fun h => by omega, fun h => by omega, fun h => by omega, fun h => by omega, fun h => by omega, fun _ => rfl, fun h => by omega⟩) ?_
      simp only [Act.put, List.setIfInBounds_toArray, List.set_cons_zero, List.set_cons_succ]
      refine sg_any rfl rfl (fun _ => by go_simp; with_reducible rfl) ?_
      simp only [Act.put, List.setIfInBounds_toArray, List.set_cons_zero, List.set_cons_succ]
      refine sg_do 6 rfl rfl (fun W hR => ⟨W7, by
        rw [hR.2.2.2.2.2.2.2.2.1 rfl, HW.out.2.2.2]
        clear hR
        have e0 := HC6.out.cell 0
        have e1 := HC6.out.lt
        have e2 := HC6.out.free 0
        simp only [List.getElem?_cons_zero, List.getElem?_cons_succ] at e0
        go_simp, fun h => by omega, BN8.out, fun h => by omega, fun h => by omega, fun h => by omega, fun h => by omega, fun h => by omega, fun h => by omega, fun h => by omega, fun _ => rfl⟩) ?_
      simp only [Act.put, List.setIfInBounds_toArray, List.set_cons_zero, List.set_cons_succ]
      refine sg_end (HF.out _ (fun w3 hR => ?_))
      obtain rfl := hR.2.2.2.2.2.2.2.2.2 rfl
      clear hR HF F' FI2 FI3 U1 G1 HC6 BS BN8
      have e7 := HW.out.2.2.2
      have hz67 : W6.heap.size ≤ w3.heap.size := by rw [e7]; simp [World.setCell]
      have hk67 : ∀ k, k < W6.heap.size → k ≠ fb → w3.heap[k]? = W6.heap[k]? := fun k _ hk => by rw [e7]; exact Below.heap_setCell _ _ _ _ hk
      have bY6 := BYS.out.2.2.2.2
      have bF6 := bF7.below bY6
      have hne3 := slices3 (x := .slice s1 p2.length t1) (y := .slice s2 o2.length t2) (z := .slice s3 rs.length t3) rfl rfl rfl
      have r2 := (q2.below bY6).off (by omega) bF6 (not_int (ints_int _) hne3) hz67 hk67
      have r3 := (q3.below bY6).off (by omega) bF6 (not_int (ints_int _) hne3) hz67 hk67
      have rw7 := RowIs.keep g2 (w' := w3) (fun g hg => hk67 g (RowIs.lt g2 g hg) (fun q => by cases hg; omega))
      have bR8 := (bR7.below bY6).keep (hk67 rb (bR7.below bY6).lt (fun q => hfr q.symm))
      have hB8 : Below w.heap.size w w3 := by rw [e7]; exact (HB7.out.trans (bY6.mono HB7.out.size)).setCell (p := ⟨fb, 0, none⟩) hfw _
      have hYz := bY6.size
      obtain ⟨v9, W9, G9, u1, u2, u3', u4', u5'⟩ := copy_row (w := w3) (n := o2.length) Try.underlying28 infoInt_is infoInt_zero infoInt_size infoInt_bytes rfl (by omega) r2 (ints_one _) (by simp [ints]) (by have := HL12.out.2; omega) (by omega)
      obtain ⟨v10, W10, G10, g1', g2', g3', g4'⟩ := int_one u2 (by have := HL12.out.2; omega) a
      have b9 : Below w3.heap.size w3 W10 := u3'.trans (g4'.below (fun k hk => by simp at hk; omega) u3'.size)
      have hG10 : w3.heap.size ≤ G10 := by
        rcases g3' with e | e
        · cases e; exact u4'
        · have := u3'.size; omega
      obtain ⟨sa10, sc10, hv10, _⟩ := RowIs.form g2'
      subst hv10
      obtain ⟨l10, hl10⟩ : ∃ l, l = (o2 ++ [a]).length := ⟨_, rfl⟩
      rw [← hl10] at g1'
      have bF9 := bF8.below b9
      have cf := bF8.cell 1
      have zf := bF8.lt
      simp only [List.getElem?_cons_zero, List.getElem?_cons_succ] at cf
      have zfb : fb < W10.heap.size := bF9.lt
      have cf9 := bF9.cell 1
      have ff9 := bF9.free 1
      simp only [List.getElem?_cons_zero, List.getElem?_cons_succ] at cf9
      have U1 := hid u1
      have G1 := hid g1'
      have HL10 := hid hl10
      clear u1 g1' e7 bF6 hl10
      go_upto_region 7 with (fail)
      refine wp_region_doc (fun F' hF => ?_)
      have HF := hid hF
      clear hF
      iterate 3 (refine doc_val rfl (by first | (go_simp; done) | (go_simp; exact ⟨rfl, rfl⟩) | (go_simp; with_reducible rfl)) ?_; simp only [Act.put, List.setIfInBounds_toArray, List.set_cons_zero, List.set_cons_succ])
      clear cf zf
      refine doc_val rfl (run_append_op _ _ _ _ _ _ _ _ _ U1.out) ?_
      simp only [Act.put, List.setIfInBounds_toArray, List.set_cons_zero, List.set_cons_succ]
      iterate 2 (refine doc_val rfl (by first | (go_simp; done) | (go_simp; exact ⟨rfl, rfl⟩) | (go_simp; with_reducible rfl)) ?_; simp only [Act.put, List.setIfInBounds_toArray, List.set_cons_zero, List.set_cons_succ])
      refine doc_val rfl (run_append_op _ _ _ _ _ _ _ _ _ G1.out) ?_
      simp only [Act.put, List.setIfInBounds_toArray, List.set_cons_zero, List.set_cons_succ]
      refine doc_val rfl (by first | (go_simp; done) | (go_simp; exact ⟨rfl, rfl⟩) | (go_simp; with_reducible rfl)) ?_
      simp only [Act.put, List.setIfInBounds_toArray, List.set_cons_zero, List.set_cons_succ]
      refine doc_skip rfl (by first | (go_simp; done) | (go_simp; exact ⟨rfl, rfl⟩) | (go_simp; with_reducible rfl)) ?_
      simp only [Act.put, List.setIfInBounds_toArray, List.set_cons_zero, List.set_cons_succ]
      refine doc_end (HF.out _ _ ?_)
      clear HF F' cf9 ff9 zfb U1 G1
      obtain ⟨W11, hW11⟩ : ∃ W, W = W10.setCell ⟨fb, 1, none⟩ (.slice sa10 l10 sc10) := ⟨_, rfl⟩
      rw [← hW11]
      have bF11 : Blk W11 fb 153 [.slice sa6 l6 sc6, .slice sa10 l10 sc10, .slice s3 rs.length t3] := by rw [hW11]; exact bF9.set_ 1 _
      have hz11 : W10.heap.size ≤ W11.heap.size := by rw [hW11]; simp [World.setCell]
      have hk11 : ∀ k, k < W10.heap.size → k ≠ fb → W11.heap[k]? = W10.heap[k]? := fun k _ hk => by rw [hW11]; exact Below.heap_setCell _ _ _ _ hk
      have bR11 := (bR8.below b9).keep (hk11 rb (bR8.below b9).lt (fun q => hfr q.symm))
      have z7 := bF8.lt
      have zr7 := bR8.lt
      have rw11 := RowIs.keep (RowIs.keep rw7 (w' := W10) (fun g hg => b9.block g (RowIs.lt rw7 g hg))) (w' := W11) (fun g hg => hk11 g (by have := RowIs.lt rw7 g hg; have := b9.size; omega) (fun q => by cases hg; omega))
      have rv11 := RowIs.keep g2' (w' := W11) (fun g hg => hk11 g (RowIs.lt g2' g hg) (fun q => by cases hg; omega))
      have r11 := (r3.below b9).off (by omega) bF9 (not_int (ints_int _) (slices3 rfl rfl rfl)) hz11 hk11
      have hB11 : Below w.heap.size w W11 := by rw [hW11]; exact (hB8.trans (b9.mono hB8.size)).setCell (p := ⟨fb, 1, none⟩) hfw _
      clear hW11
      go_upto_region 8 with (fail)
      refine wp_region_doc (fun F' hF => ?_)
      have HF := hid hF
      clear hF
      refine doc_val rfl (load_struct_op _ _ _ _ _ _ _ _ Try.underlying153 (fr_size _ _ _) rfl bF11) ?_
      simp only [Act.put, List.setIfInBounds_toArray, List.set_cons_zero, List.set_cons_succ]
      refine doc_skip rfl (store_row_op (xs := [.slice none 0 0, .slice none 0 0, .slice none 0 0]) (ys := [.slice sa6 l6 sc6, .slice sa10 l10 sc10, .slice s3 rs.length t3]) _ _ _ _ _ _ _ _ _ (fr_size _ _ _) rfl rfl rfl rfl bR11) ?_
      simp only [Act.put, List.setIfInBounds_toArray, List.set_cons_zero, List.set_cons_succ]
      refine doc_end (HF.out _ _ ?_)
      clear HF F'
      have bR12 := bR11.row [.slice sa6 l6 sc6, .slice sa10 l10 sc10, .slice s3 rs.length t3]
      have hz12 : W11.heap.size ≤ (W11.setRow rb [.slice sa6 l6 sc6, .slice sa10 l10 sc10, .slice s3 rs.length t3].toArray).heap.size := by simp [World.setRow]
      have hk12 : ∀ k, k < W11.heap.size → k ≠ rb → (W11.setRow rb [.slice sa6 l6 sc6, .slice sa10 l10 sc10, .slice s3 rs.length t3].toArray).heap[k]? = W11.heap[k]? := fun k _ hk => heap_setRow_ne _ (fun q => hk q.symm)
      have f1 := (RowIs.rd rw11).off (by omega) bR11 (not_int (flat_int _) (slices3 rfl rfl rfl)) hz12 hk12
      have f2 := (RowIs.rd rv11).off (by omega) bR11 (not_int (ints_int _) (slices3 rfl rfl rfl)) hz12 hk12
      have f3 := r11.off (by omega) bR11 (not_int (ints_int _) (slices3 rfl rfl rfl)) hz12 hk12
      have hfin : Below w.heap.size w (W11.setRow rb [.slice sa6 l6 sc6, .slice sa10 l10 sc10, .slice s3 rs.length t3].toArray) := Below.setRow hB11 hrw _
      have HL6 := HL6a
      have qlo := HLO.out
      have qhi := HHI.out
      subst qlo qhi
      go_wp2
      refine bodyPost_ret (fr_result rfl rfl bR12) rfl ⟨_, rfl, ⟨sa6, sc6, sa10, sc10, s3, t3, ?_, f1, f2, f3⟩, hfin⟩
      rw [HL6.out, HL10.out]
end Go.Proofs.Ytboekafmplomhaa
set_option linter.unusedVariables false
set_option linter.unusedSimpArgs false
namespace Go.Proofs.Ytboekafmplomhaa
open Go.RowKit

/-- One more root. -/
def rordS (R : RSt) (N : Nat) (s : List Nd × List Int × List Int) (x : Int) : List Nd × List Int × List Int :=
  ((layN R N s.1 s.2.1 (rright R x)).1, (layN R N s.1 s.2.1 (rright R x)).2, s.2.2 ++ [findO (layN R N s.1 s.2.1 (rright R x)).2 (rright R x)])
def rordV (R : RSt) (N : Nat) (l : List Int) : List Nd × List Int × List Int := l.foldl (rordS R N) ([], [], [])
theorem rordV_snoc (R : RSt) (N : Nat) (l : List Int) (x : Int) : rordV R N (l ++ [x]) = rordS R N (rordV R N l) x := by unfold rordV; rw [List.foldl_append]; rfl
theorem rordV_mono (R : RSt) (N : Nat) : ∀ (l : List Int) (s : List Nd × List Int × List Int), s.1.length ≤ (l.foldl (rordS R N) s).1.length ∧ s.2.1.length ≤ (l.foldl (rordS R N) s).2.1.length ∧ (l.foldl (rordS R N) s).2.2.length = s.2.2.length + l.length
  | [], s => ⟨Nat.le_refl _, Nat.le_refl _, rfl⟩
  | x :: l, s => by
    rw [List.foldl_cons]
    obtain ⟨h1, h2, h3⟩ := rordV_mono R N l (rordS R N s x)
    have h4 := layN_len R N s.1 s.2.1 (rright R x)
    unfold rordS at h1 h2 h3 ⊢
    simp only [List.length_append, List.length_cons, List.length_nil] at h1 h2 h3 ⊢
    omega
theorem rordV_take (R : RSt) (N : Nat) (l : List Int) (j : Nat) : (rordV R N (l.take j)).1.length ≤ (rordV R N l).1.length ∧ (rordV R N (l.take j)).2.1.length ≤ (rordV R N l).2.1.length := by
  have h := rordV_mono R N (l.drop j) (rordV R N (l.take j))
  unfold rordV at h ⊢
  rw [← List.foldl_append, List.take_append_drop] at h
  exact ⟨h.1, h.2.1⟩
theorem rright_in (R : RSt) (x : Int) : 0 ≤ rright R x ∧ rright R x < R.L.length + 2 := by unfold rright; split <;> omega

set_option maxRecDepth 100000 in
set_option maxHeartbeats 16000000 in
theorem rorder_any {R : RSt} (hL : Lower R) (hRl : R.L.length ≤ 1048576) {q : Nat} {F : List Nat} {w : World} (hR : RIs w q F R) {sv : Value} {l : List Int} (hl : Rd w 1 sv (ints l)) (hl1 : l.length ≤ 1000)
    (hn : (rordV R (R.L.length + 2) l).1.length ≤ 8388608) (ho : (rordV R (R.L.length + 2) l).2.1.length ≤ 8388608) :
    Calls Try.prog 130 #[.pointer (some ⟨q, 0, none⟩), sv] w (fun e w' => ∃ fv, e = .returned fv ∧ FrIs w' fv (rordV R (R.L.length + 2) l).1 (rordV R (R.L.length + 2) l).2.1 (rordV R (R.L.length + 2) l).2.2 ∧ Below w.heap.size w w') := by
  obtain ⟨la, lc, rfl, hlc, hlm⟩ := hl.len
  have H := hid hl
  have HR := hid hR
  have HN := hid (And.intro hn ho)
  have HLA := fun W f ns old rs (a : Int) (h1 : RIs W q F R) (h2 : FrIs W f ns old rs) (h3 : 0 ≤ a) (h4 : a < R.L.length + 2) (h5) (h6) => rlay_any hL hRl (R.L.length + 2) W f ns old rs a h1 h2 h3 h4 (by omega) h5 h6
  have HLA := hid HLA
  clear hl hR hn ho hL
  have bR0 : Blk (w.alloc (.cells #[.slice none 0 0, .slice none 0 0, .slice none 0 0] 153)) w.heap.size 153 [.slice none 0 0, .slice none 0 0, .slice none 0 0] := Blk.new w _ [.slice none 0 0, .slice none 0 0, .slice none 0 0]
  obtain ⟨w1, hw1⟩ : ∃ w1, w1 = w.alloc (.cells #[.slice none 0 0, .slice none 0 0, .slice none 0 0] 153) := ⟨_, rfl⟩
  have hb1 : Below w.heap.size w w1 := by rw [hw1]; (repeat' (first | (with_reducible exact Below.refl _ _) | (with_reducible refine Below.ext_mk ?_ ?_ _ _) | (with_reducible refine Below.alloc ?_ ?_ _) | (with_reducible refine Below.drew ?_) | (with_reducible refine Below.setCell ?_ ?_ _) | go_size))
  rw [← hw1] at bR0
  have hs1 : w1.heap.size = w.heap.size + 1 := by rw [hw1]; simp
  obtain ⟨rb, hrb⟩ : ∃ b, b = w.heap.size := ⟨_, rfl⟩
  rw [← hrb] at bR0
  obtain ⟨w2, hw2⟩ : ∃ w2, w2 = w1.alloc (.cells #[.slice none 0 0, .slice none 0 0, .slice none 0 0] 153) := ⟨_, rfl⟩
  have bF0 : Blk w2 w1.heap.size 153 [.slice none 0 0, .slice none 0 0, .slice none 0 0] := by rw [hw2]; exact Blk.new w1 _ [.slice none 0 0, .slice none 0 0, .slice none 0 0]
  have hb2 : Below w.heap.size w w2 := by rw [hw2]; exact hb1.alloc hb1.size _
  have bR2 : Blk w2 rb 153 [.slice none 0 0, .slice none 0 0, .slice none 0 0] := bR0.below (by rw [hw2]; (repeat' (first | (with_reducible exact Below.refl _ _) | (with_reducible refine Below.ext_mk ?_ ?_ _ _) | (with_reducible refine Below.alloc ?_ ?_ _) | (with_reducible refine Below.drew ?_) | (with_reducible refine Below.setCell ?_ ?_ _) | go_size)))
  obtain ⟨fb, hfb⟩ : ∃ b, b = w1.heap.size := ⟨_, rfl⟩
  rw [← hfb] at bF0
  have hfr : fb ≠ rb := by omega
  have hfw : w.heap.size ≤ fb := by omega
  have hrw : w.heap.size ≤ rb := by omega
  have HB2 := hid hb2
  clear hb2
  go_enter Try.func130, Try.ntmps130
  go_upto_region 1 with (fail)
  rw [← hw1, ← hrb]
  clear hw1 hrb hs1
  refine wp_region_doc (fun F' hF => ?_)
  have HF := hid hF
  clear hF
  iterate 2 (refine doc_val rfl (by first | (go_simp; done) | (go_simp; exact ⟨rfl, rfl⟩) | (go_simp; with_reducible rfl)) ?_; simp only [Act.put, List.setIfInBounds_toArray, List.set_cons_zero, List.set_cons_succ])
  rw [← hw2, ← hfb]
  clear hw2 hfb
  refine doc_skip rfl (store_row_op (xs := [.slice none 0 0, .slice none 0 0, .slice none 0 0]) (ys := [.slice none 0 0, .slice none 0 0, .slice none 0 0]) _ _ _ _ _ _ _ _ _ (fr_size _ _ _) rfl rfl rfl rfl bF0) ?_
  simp only [Act.put, List.setIfInBounds_toArray, List.set_cons_zero, List.set_cons_succ]
  refine doc_end (HF.out _ _ ?_)
  clear HF F'
  obtain ⟨w3, hw3⟩ : ∃ w3, w3 = w2.setRow fb [.slice none 0 0, .slice none 0 0, .slice none 0 0].toArray := ⟨_, rfl⟩
  rw [← hw3]
  have bF3 : Blk w3 fb 153 [.slice none 0 0, .slice none 0 0, .slice none 0 0] := by rw [hw3]; exact bF0.row _
  have bR3 : Blk w3 rb 153 [.slice none 0 0, .slice none 0 0, .slice none 0 0] := bR2.keep (by rw [hw3]; exact heap_setRow_ne _ hfr)
  have hb3 : Below w.heap.size w w3 := by rw [hw3]; exact Below.setRow HB2.out hfw _
  have hnil : ∀ (W : World) (size : Nat), Rd W size (.slice none 0 0) [] := fun W size => ⟨none, 0, 0, rfl, Nat.le_refl _, by omega, by simp, fun h => by omega⟩
  have hfr0 : FrIs w3 (.agg #[.slice none 0 0, .slice none 0 0, .slice none 0 0]) [] [] [] := ⟨none, 0, none, 0, none, 0, rfl, hnil _ _, hnil _ _, hnil _ _⟩
  clear hw3 bF0 bR2 hnil HB2 hb1 bR0
  go_wp2_with fail
  go_loopw [6] (fun iv wr => ∃ (j : Nat) (x y z : Value), j ≤ l.length ∧ iv = .int .i64 j ∧ Blk wr fb 153 [x, y, z] ∧ Blk wr rb 153 [.slice none 0 0, .slice none 0 0, .slice none 0 0] ∧ FrIs wr (.agg #[x, y, z]) (rordV R (R.L.length + 2) (l.take j)).1 (rordV R (R.L.length + 2) (l.take j)).2.1 (rordV R (R.L.length + 2) (l.take j)).2.2 ∧ Below w.heap.size w wr) (fun iv _ => l.length - (intOf iv).toNat)
  case atStart => exact ⟨0, _, _, _, by omega, rfl, bF3, bR3, hfr0, hb3⟩
  case round =>
    obtain ⟨j, x, y, z, hj, rfl, bF, bR, hfr1, hb⟩ := hrel
    by_cases hlt : j < l.length
    · have htk : l.take (j + 1) = l.take j ++ [l[j]] := by rw [List.take_add_one, List.getElem?_eq_getElem hlt]; rfl
      have hst : rordV R (R.L.length + 2) (l.take (j + 1)) = rordS R (R.L.length + 2) (rordV R (R.L.length + 2) (l.take j)) l[j] := by rw [htk, rordV_snoc]
      have hmj := rordV_take R (R.L.length + 2) l (j + 1)
      have hrl : (rordV R (R.L.length + 2) (l.take j)).2.2.length = j := by
        have := (rordV_mono R (R.L.length + 2) (l.take j) ([], [], [])).2.2
        unfold rordV
        rw [this]; simp; omega
      obtain ⟨b, off, rfl, hb1, c⟩ := (H.out.below hb).intAt hlt
      have hri := rright_in R l[j]
      have RI := rright_any (HR.out.below hb) hRl l[j]
      have hj1 : (j : Int) < (l.length : Int) := by omega
      have hj0 : (0 : Int) ≤ (j : Int) := by omega
      generalize rordV R (R.L.length + 2) (l.take j) = P at *
      generalize l[j] = xx at *
      obtain ⟨ns, old, rs⟩ := P
      unfold rordS at hst
      simp only at hst hrl hfr1
      have IL := fun W f (h1 : RIs W q F R) (h2 : FrIs W f ns old rs) => HLA.out W f ns old rs (rright R xx) h1 h2 hri.1 hri.2
      generalize rright R xx = a at *
      generalize layN R (R.L.length + 2) ns old a = Q at *
      obtain ⟨p2, o2⟩ := Q
      rw [hst] at hmj
      simp only at hmj IL hst
      have hp2 : p2.length ≤ 8388608 := by have := HN.out.1; omega
      have ho2 : o2.length ≤ 8388608 := by have := HN.out.2; omega
      have IL := hid (fun W f h1 h2 => IL W f h1 h2 hp2 ho2)
      have HST := hid hst
      have hrs : rs.length ≤ 1000 := by omega
      clear hrl
      have HB := hid hb
      have HFr := hid hfr1
      clear hst hmj htk hri hb hfr1
      go_upto_region 6 with ((with_reducible refine RI.mono ?_); rintro e w4 ⟨rfl, m1, d1, rfl⟩)
      have hbx : Below wr.heap.size wr (wr.ext m1 d1) := by (repeat' (first | (with_reducible exact Below.refl _ _) | (with_reducible refine Below.ext_mk ?_ ?_ _ _) | (with_reducible refine Below.alloc ?_ ?_ _) | (with_reducible refine Below.drew ?_) | (with_reducible refine Below.setCell ?_ ?_ _) | go_size))
      obtain ⟨w4, hw4⟩ : ∃ w4, w4 = wr.ext m1 d1 := ⟨_, rfl⟩
      rw [← hw4] at hbx ⊢
      clear hw4 RI c hb1
      have bF4 := bF.below hbx
      have bR4 := bR.below hbx
      have HFr4 := hid (HFr.out.below hbx)
      have HB4 := hid (HB.out.trans (hbx.mono HB.out.size))
      have hfF : fb ∉ F := fun hm => by have := HR.out.lt fb hm; omega
      obtain ⟨e1, f1, e2, f2, e3, f3, efv, -, -, -⟩ := id HFr.out
      simp only [Value.agg.injEq, Array.mk.injEq, List.cons.injEq, and_true] at efv
      obtain ⟨rfl, rfl, rfl⟩ := efv
      clear hbx bF bR
      refine wp_region_doc (fun F' hF => ?_)
      have HF := hid hF
      clear hF
      refine doc_val rfl (by first | (go_simp; done) | (go_simp; exact ⟨rfl, rfl⟩) | (go_simp; with_reducible rfl)) ?_
      simp only [Act.put, List.setIfInBounds_toArray, List.set_cons_zero, List.set_cons_succ]
      refine doc_val rfl (load_struct_op _ _ _ _ _ _ _ _ Try.underlying153 (fr_size _ _ _) rfl bF4) ?_
      simp only [Act.put, List.setIfInBounds_toArray, List.set_cons_zero, List.set_cons_succ]
      refine doc_val rfl (by first | (go_simp; done) | (go_simp; exact ⟨rfl, rfl⟩) | (go_simp; with_reducible rfl)) ?_
      simp only [Act.put, List.setIfInBounds_toArray, List.set_cons_zero, List.set_cons_succ]
      refine doc_call rfl (by first | (go_simp; done) | (go_simp; exact ⟨rfl, rfl⟩) | (go_simp; with_reducible rfl)) ((IL.out w4 _ (HR.out.below HB4.out) HFr4.out).mono ?_)
      rintro _ w6 ⟨fv2, rfl, hfr6, hb6⟩
      refine ⟨_, rfl, ?_⟩
      simp only [Act.put, List.setIfInBounds_toArray, List.set_cons_zero, List.set_cons_succ]
      obtain ⟨s1, t1, s2, t2, s3, t3, rfl, r1, r2, r3⟩ := id hfr6
      have bF6 := bF4.below hb6
      have bR6 := bR4.below hb6
      refine doc_skip rfl (store_row_op (xs := [.slice e1 ns.length f1, .slice e2 old.length f2, .slice e3 rs.length f3]) (ys := [.slice s1 p2.length t1, .slice s2 o2.length t2, .slice s3 rs.length t3]) _ _ _ _ _ _ _ _ _ (fr_size _ _ _) rfl rfl rfl rfl bF6) ?_
      simp only [Act.put, List.setIfInBounds_toArray, List.set_cons_zero, List.set_cons_succ]
      refine doc_end (HF.out _ _ ?_)
      obtain ⟨Y, hY⟩ : ∃ Y, Y = w6.setRow fb [.slice s1 p2.length t1, .slice s2 o2.length t2, .slice s3 rs.length t3].toArray := ⟨_, rfl⟩
      rw [← hY]
      have hz7 : w6.heap.size ≤ Y.heap.size := by rw [hY]; simp [World.setRow]
      have hk7 : ∀ k, k < w6.heap.size → k ≠ fb → Y.heap[k]? = w6.heap[k]? := fun k _ hk => by rw [hY]; exact heap_setRow_ne _ (fun q => hk q.symm)
      have bF7 : Blk Y fb 153 [.slice s1 p2.length t1, .slice s2 o2.length t2, .slice s3 rs.length t3] := by rw [hY]; exact bF6.row _
      have bR7 := bR6.keep (hk7 rb bR6.lt (fun q => hfr q.symm))
      have q1 := r1.off (by omega) bF6 (not_int (flat_int _) (slices3 rfl rfl rfl)) hz7 hk7
      have q2 := r2.off (by omega) bF6 (not_int (ints_int _) (slices3 rfl rfl rfl)) hz7 hk7
      have q3 := r3.off (by omega) bF6 (not_int (ints_int _) (slices3 rfl rfl rfl)) hz7 hk7
      have HB7 := hid (show Below w.heap.size w Y from by rw [hY]; exact Below.setRow (HB4.out.trans (hb6.mono HB4.out.size)) hfw _)
      clear HF F' bF4 bR4 HFr4 HB4 hfr6 hb6 r1 r2 r3 bF6 bR6 hY hz7 hk7 IL
      -- one more root
      obtain ⟨v2, W2, G2, u1, u2, u3, u4, u5⟩ := copy_row (w := Y.drew) (n := rs.length) Try.underlying28 infoInt_is infoInt_zero infoInt_size infoInt_bytes rfl (by omega) (q3.below (by (repeat' (first | (with_reducible exact Below.refl _ _) | (with_reducible refine Below.ext_mk ?_ ?_ _ _) | (with_reducible refine Below.alloc ?_ ?_ _) | (with_reducible refine Below.drew ?_) | (with_reducible refine Below.setCell ?_ ?_ _) | go_size)))) (ints_one _) (by simp [ints]) (by omega) (by omega)
      have bY2 : Below Y.heap.size Y W2 := (Below.drew (Below.refl _ _)).trans u3
      have fi2 := find_any (w := W2) (s1 := .slice s1 p2.length t1) (s3 := .slice s3 rs.length t3) rfl rfl (q2.below bY2) (by omega) a
      have bY3 : Below Y.heap.size Y (W2.alloc (.cells #[.slice s1 p2.length t1, .slice s2 o2.length t2, .slice s3 rs.length t3] 153)) := bY2.alloc bY2.size _
      obtain ⟨W3, hW3⟩ : ∃ W3, W3 = W2.alloc (.cells #[.slice s1 p2.length t1, .slice s2 o2.length t2, .slice s3 rs.length t3] 153) := ⟨_, rfl⟩
      rw [← hW3] at fi2 bY3
      have hb23 : Below W2.heap.size W2 W3 := by rw [hW3]; (repeat' (first | (with_reducible exact Below.refl _ _) | (with_reducible refine Below.ext_mk ?_ ?_ _ _) | (with_reducible refine Below.alloc ?_ ?_ _) | (with_reducible refine Below.drew ?_) | (with_reducible refine Below.setCell ?_ ?_ _) | go_size))
      obtain ⟨k, hk⟩ : ∃ k, k = findO o2 a := ⟨_, rfl⟩
      rw [← hk] at fi2 HST
      obtain ⟨v6, W6, G6, g1, g2, g3, g4⟩ := int_one (RowIs.keep u2 (fun g hg => hb23.block g (RowIs.lt u2 g hg))) (by omega) k
      have hG2 : Y.heap.size ≤ G2 := u4
      have bY6 : Below Y.heap.size Y W6 := bY3.trans (g4.below (fun k hk => by simp at hk; omega) bY3.size)
      have hG6 : Y.heap.size ≤ G6 := by
        rcases g3 with e | e
        · cases e; exact hG2
        · have := bY3.size; omega
      obtain ⟨sa6, sc6, hv6, _⟩ := RowIs.form g2
      subst hv6
      obtain ⟨l6, hl6⟩ : ∃ l, l = (rs ++ [k]).length := ⟨_, rfl⟩
      rw [← hl6] at g1
      obtain ⟨W5, hW5⟩ : ∃ W5, W5 = W3.alloc (.cells #[.int .i64 k] 3) := ⟨_, rfl⟩
      rw [← hW5] at g1
      have bY5 : Below Y.heap.size Y W5 := by rw [hW5]; exact bY3.alloc bY3.size _
      obtain ⟨W7, hW7⟩ : ∃ W7, W7 = W6.setCell ⟨fb, 2, none⟩ (.slice sa6 l6 sc6) := ⟨_, rfl⟩
      have bF8 : Blk W7 fb 153 [.slice s1 p2.length t1, .slice s2 o2.length t2, .slice sa6 l6 sc6] := by rw [hW7]; exact (bF7.below bY6).set_ 2 _
      have BS := hid (fun W (hb : Below Y.heap.size Y W) => (bF7.below hb))
      have hc6 := (bF7.below bY6)
      have FI2 := hid fi2
      have U1 := hid u1
      have G1 := hid g1
      have BYS := hid (And.intro bY2 (And.intro bY3 (And.intro bY5 bY6)))
      have HW := hid (And.intro hW3 (And.intro hW5 hW7))
      have HC6 := hid hc6
      have HL6 := hid hl6
      clear u1 g1 fi2 hc6 hW3 hW5 hW7 hl6 hk
      go_upto_region 7 with (fail)
      refine wp_region_stage [0, 3, 6, 7, 8, 10] (fun i W => (i < 6 → Blk W fb 153 [.slice s1 p2.length t1, .slice s2 o2.length t2, .slice s3 rs.length t3]) ∧
          (i = 0 → W = Y.drew) ∧ (i = 1 → W = Y.drew.alloc (.cells #[] 3)) ∧ (i = 2 → W = W2) ∧ (i = 3 → W = W3) ∧ (i = 4 → W = W5) ∧ (i = 5 → W = W6) ∧ (i = 6 → W = W7))
        (by kernel_rfl) (by kernel_rfl) (by kernel_rfl) (by kernel_rfl) ⟨fun _ => BS.out _ (Below.drew (Below.refl _ _)), fun _ => rfl, fun h => by omega, fun h => by omega, fun h => by omega, fun h => by omega, fun h => by omega, fun h => by omega⟩ (fun F' hF' => ?_)
      have HF := hid hF'
      clear hF'
      refine sg_turn 0 (v := .slice (some ⟨Y.heap.size, 0, none⟩) 0 0) rfl rfl (fun W hR => ⟨Y.drew.alloc (.cells #[] 3), by rw [hR.2.1 rfl]; clear hR; go_simp, fun _ => BS.out _ ((Below.drew (Below.refl _ _)).alloc (Nat.le_refl _) _), fun h => by omega, fun _ => rfl, fun h => by omega, fun h => by omega, fun h => by omega, fun h => by omega, fun h => by omega⟩) ?_
      simp only [Act.put, List.setIfInBounds_toArray, List.set_cons_zero, List.set_cons_succ]
      refine sg_any rfl rfl (fun _ => by go_simp; with_reducible rfl) ?_
      simp only [Act.put, List.setIfInBounds_toArray, List.set_cons_zero, List.set_cons_succ]
      refine sg_read 0 1 rfl (by decide +kernel) (by decide +kernel) rfl (fun ii w' l' u hR => by
        have e0 := (hR.1 (by omega)).cell 2
        have e3 := (hR.1 (by omega)).lt
        clear hR
        simp only [List.getElem?_cons_zero, List.getElem?_cons_succ] at e0
        go_simp; with_reducible rfl) ?_
      simp only [Act.put, List.setIfInBounds_toArray, List.set_cons_zero, List.set_cons_succ]
      refine sg_turn 1 (v := v2) rfl rfl (fun W hR => ⟨W2, by rw [hR.2.2.1 rfl]; clear hR; exact run_append_op _ _ _ _ _ _ _ _ _ U1.out, fun _ => BS.out _ BYS.out.1, fun h => by omega, fun h => by omega, fun _ => rfl, fun h => by omega, fun h => by omega, fun h => by omega, fun h => by omega⟩) ?_
      simp only [Act.put, List.setIfInBounds_toArray, List.set_cons_zero, List.set_cons_succ]
      refine sg_read 0 2 rfl (by decide +kernel) (by decide +kernel) rfl (fun ii w' l' u hR => load_struct_op _ _ _ _ _ _ _ _ Try.underlying153 (fr_size _ _ _) rfl (hR.1 (by omega))) ?_
      simp only [Act.put, List.setIfInBounds_toArray, List.set_cons_zero, List.set_cons_succ]
      refine sg_any rfl rfl (fun _ => by go_simp; with_reducible rfl) ?_
      simp only [Act.put, List.setIfInBounds_toArray, List.set_cons_zero, List.set_cons_succ]
      refine sg_turn_call 2 (v := .int .i64 k) (f := 152) (args := #[.agg #[.slice s1 p2.length t1, .slice s2 o2.length t2, .slice s3 rs.length t3], .int .i64 a]) rfl rfl (fun _ => by first | (go_simp; done) | (go_simp; exact ⟨rfl, rfl⟩)) (fun W hR => by
        rw [hR.2.2.2.1 rfl]
        refine FI2.out.mono ?_
        rintro e w' ⟨rfl, hw'⟩
        subst hw'
        exact ⟨rfl, fun _ => BS.out _ BYS.out.2.1, fun h => by omega, fun h => by omega, fun h => by omega, fun _ => rfl, fun h => by omega, fun h => by omega, fun h => by omega⟩) ?_
      simp only [Act.put, List.setIfInBounds_toArray, List.set_cons_zero, List.set_cons_succ]
      refine sg_turn 3 (v := .slice (some ⟨W3.heap.size, 0, none⟩) 1 1) rfl rfl (fun W hR => ⟨W5, by rw [hR.2.2.2.2.1 rfl, HW.out.2.1]; clear hR; go_simp, fun _ => BS.out _ BYS.out.2.2.1, fun h => by omega, fun h => by omega, fun h => by omega, fun h => by omega, fun _ => rfl, fun h => by omega, fun h => by omega⟩) ?_
      simp only [Act.put, List.setIfInBounds_toArray, List.set_cons_zero, List.set_cons_succ]
      refine sg_turn 4 (v := .slice sa6 l6 sc6) rfl rfl (fun W hR => ⟨W6, by rw [hR.2.2.2.2.2.1 rfl]; clear hR; exact run_append_op _ _ _ _ _ _ _ _ _ G1.out, fun _ => BS.out _ BYS.out.2.2.2, fun h => by omega, fun h => by omega, fun h => by omega, fun h => by omega, fun h => by omega, fun _ => rfl, fun h => by omega⟩) ?_
      simp only [Act.put, List.setIfInBounds_toArray, List.set_cons_zero, List.set_cons_succ]
      refine sg_any rfl rfl (fun _ => by go_simp; with_reducible rfl) ?_
      simp only [Act.put, List.setIfInBounds_toArray, List.set_cons_zero, List.set_cons_succ]
      refine sg_do 5 rfl rfl (fun W hR => ⟨W7, by
        rw [hR.2.2.2.2.2.2.1 rfl, HW.out.2.2]
        clear hR
        have e0 := HC6.out.cell 2
        have e1 := HC6.out.lt
        have e2 := HC6.out.free 2
        simp only [List.getElem?_cons_zero, List.getElem?_cons_succ] at e0
        go_simp, fun h => by omega, fun h => by omega, fun h => by omega, fun h => by omega, fun h => by omega, fun h => by omega, fun h => by omega, fun _ => rfl⟩) ?_
      simp only [Act.put, List.setIfInBounds_toArray, List.set_cons_zero, List.set_cons_succ]
      refine sg_end (HF.out _ (fun w3 hR => ?_))
      obtain rfl := hR.2.2.2.2.2.2.2 rfl
      clear hR HF F' FI2 U1 G1 HC6 BS
      have e7 := HW.out.2.2
      have hz67 : W6.heap.size ≤ w3.heap.size := by rw [e7]; simp [World.setCell]
      have hk67 : ∀ k, k < W6.heap.size → k ≠ fb → w3.heap[k]? = W6.heap[k]? := fun k _ hk => by rw [e7]; exact Below.heap_setCell _ _ _ _ hk
      have bF6 := bF7.below bY6
      have hYfb := bF7.lt
      have hne3 := slices3 (x := .slice s1 p2.length t1) (y := .slice s2 o2.length t2) (z := .slice s3 rs.length t3) rfl rfl rfl
      have r1 := (q1.below bY6).off (by omega) bF6 (not_int (flat_int _) hne3) hz67 hk67
      have r2 := (q2.below bY6).off (by omega) bF6 (not_int (ints_int _) hne3) hz67 hk67
      have rw7 := RowIs.keep g2 (w' := w3) (fun g hg => hk67 g (RowIs.lt g2 g hg) (fun q => by cases hg; omega))
      have bR8 := (bR7.below bY6).keep (hk67 rb (bR7.below bY6).lt (fun q => hfr q.symm))
      have hB8 : Below w.heap.size w w3 := by rw [e7]; exact (HB7.out.trans (bY6.mono HB7.out.size)).setCell (p := ⟨fb, 2, none⟩) hfw _
      have hfin : FrIs w3 (.agg #[.slice s1 p2.length t1, .slice s2 o2.length t2, .slice sa6 l6 sc6]) p2 o2 (rs ++ [k]) := ⟨s1, t1, s2, t2, sa6, sc6, by rw [HL6.out], r1, r2, RowIs.rd rw7⟩
      have HFin := hid (And.intro bF8 (And.intro bR8 (And.intro hfin hB8)))
      clear e7 hz67 hk67 bF6 hne3 r1 r2 rw7 bR8 hB8 hfin bF8 g2 g3 g4 u2 u3 u4 u5 bY2 bY3 bY5 bY6 q1 q2 q3 bF7 bR7 hb23
      go_wp2_with fail
      go_roundw
      case rel =>
        refine ⟨j + 1, _, _, _, by omega, by go_num, HFin.out.1, HFin.out.2.1, ?_, HFin.out.2.2.2⟩
        rw [HST.out]
        exact HFin.out.2.2.1
      case measure => simp [intOf]; omega
    · obtain rfl : j = l.length := by omega
      rw [List.take_length] at hfr1
      obtain ⟨e1, f1, e2, f2, e3, f3, efv, -, -, -⟩ := id hfr1
      simp only [Value.agg.injEq, Array.mk.injEq, List.cons.injEq, and_true] at efv
      obtain ⟨rfl, rfl, rfl⟩ := efv
      have HFr := hid hfr1
      have HB := hid hb
      clear hfr1 hb
      go_upto_region 8 with (fail)
      refine wp_region_doc (fun F' hF => ?_)
      have HF := hid hF
      clear hF
      refine doc_val rfl (load_struct_op _ _ _ _ _ _ _ _ Try.underlying153 (fr_size _ _ _) rfl bF) ?_
      simp only [Act.put, List.setIfInBounds_toArray, List.set_cons_zero, List.set_cons_succ]
      refine doc_skip rfl (store_row_op (xs := [.slice none 0 0, .slice none 0 0, .slice none 0 0]) (ys := [.slice e1 (rordV R (R.L.length + 2) l).1.length f1, .slice e2 (rordV R (R.L.length + 2) l).2.1.length f2, .slice e3 (rordV R (R.L.length + 2) l).2.2.length f3]) _ _ _ _ _ _ _ _ _ (fr_size _ _ _) rfl rfl rfl rfl bR) ?_
      simp only [Act.put, List.setIfInBounds_toArray, List.set_cons_zero, List.set_cons_succ]
      refine doc_end (HF.out _ _ ?_)
      clear HF F'
      have bR12 := bR.row [.slice e1 (rordV R (R.L.length + 2) l).1.length f1, .slice e2 (rordV R (R.L.length + 2) l).2.1.length f2, .slice e3 (rordV R (R.L.length + 2) l).2.2.length f3]
      have hfin : Below w.heap.size w (wr.setRow rb [.slice e1 (rordV R (R.L.length + 2) l).1.length f1, .slice e2 (rordV R (R.L.length + 2) l).2.1.length f2, .slice e3 (rordV R (R.L.length + 2) l).2.2.length f3].toArray) := Below.setRow HB.out hrw _
      have hFr3 := HFr.out.off (w' := wr.setRow rb [.slice e1 (rordV R (R.L.length + 2) l).1.length f1, .slice e2 (rordV R (R.L.length + 2) l).2.1.length f2, .slice e3 (rordV R (R.L.length + 2) l).2.2.length f3].toArray) bR (slices3 rfl rfl rfl) (by simp [World.setRow]) (fun k _ hk => heap_setRow_ne _ (fun q => hk q.symm))
      go_wp2
      exact bodyPost_ret (fr_result rfl rfl bR12) rfl ⟨_, rfl, hFr3, hfin⟩
end Go.Proofs.Ytboekafmplomhaa
set_option linter.unusedVariables false
set_option linter.unusedSimpArgs false
namespace Go.Proofs.Ytboekafmplomhaa
open Go.RowKit

theorem Rd.intCell {w : World} {a : Option Addr} {cap : Nat} {l : List Int} (h : Rd w 1 (.slice a l.length cap) (ints l)) {i : Nat} {x : Int} (hx : l[i]? = some x) :
    ∃ b off, a = some ⟨b, off, none⟩ ∧ b < w.heap.size ∧ w.cell? ⟨b, off + i, none⟩ = some (.int .i64 x) := by
  obtain ⟨hi, e⟩ := List.getElem?_eq_some_iff.1 hx
  obtain ⟨b, off, q1, q2, q3⟩ := h.intAt hi
  rw [e] at q3
  exact ⟨b, off, q1, q2, q3⟩
set_option maxRecDepth 100000 in
set_option maxHeartbeats 16000000 in
theorem rbytes_any {w : World} {fv : Value} {ns : List Nd} {old rs : List Int} (hF : FrIs w fv ns old rs) (hW : Wrt ns rs) :
    Calls Try.prog 129 #[fv] w (fun e w' => ∃ v, e = .returned v ∧ OwnB w.heap.size w' v (writeB ns rs) ∧ Below w.heap.size w w') := by
  obtain ⟨a1, c1, a2, c2, a3, c3, rfl, h1, h2, h3⟩ := hF
  obtain ⟨q1, q2, q3, q4⟩ := id hW
  obtain ⟨V, hV⟩ : ∃ V, V = w.alloc (.cells #[.slice a1 ns.length c1, .slice a2 old.length c2, .slice a3 rs.length c3] 153) := ⟨_, rfl⟩
  have hbV : Below w.heap.size w V := by rw [hV]; (repeat' (first | (with_reducible exact Below.refl _ _) | (with_reducible refine Below.ext_mk ?_ ?_ _ _) | (with_reducible refine Below.alloc ?_ ?_ _) | (with_reducible refine Below.drew ?_) | (with_reducible refine Below.setCell ?_ ?_ _) | go_size))
  have bF : Blk V w.heap.size 153 [.slice a1 ns.length c1, .slice a2 old.length c2, .slice a3 rs.length c3] := by rw [hV]; exact Blk.new w _ [.slice a1 ns.length c1, .slice a2 old.length c2, .slice a3 rs.length c3]
  obtain ⟨fb, hfb⟩ : ∃ b, b = w.heap.size := ⟨_, rfl⟩
  rw [← hfb] at bF
  have HF0 := hid (fun W (hb : Below V.heap.size V W) => (show W.cell? ⟨fb, 0, none⟩ = some (.slice a1 ns.length c1) ∧ W.cell? ⟨fb, 2, none⟩ = some (.slice a3 rs.length c3) ∧ fb < W.heap.size from ⟨(bF.below hb).cell 0, (bF.below hb).cell 2, (bF.below hb).lt⟩))
  have H1 := hid (h1.below hbV)
  have H3 := hid (h3.below hbV)
  have HBV := hid hbV
  have Q3 := hid q3
  have Q4 := hid q4
  have L0 := hid (fun j => nodesB_len (ns := ns.take j) (fun x hx => q3 x (List.mem_of_mem_take hx)))
  have L1 := hid (fun j => rootsB_len (rs := rs.take j) (fun x hx => q4 x (List.mem_of_mem_take hx)))
  have l3 := numB_len 3 ns.length (by omega) (by omega)
  have l4 := numB_len 3 rs.length (by omega) (by omega)
  have hnl : ns.length ≤ 9223372036854775807 := by omega
  have LL := hid (And.intro l3 l4)
  clear h1 h2 h3 q3 q4 hbV bF hW l3 l4
  go_enter Try.func129, Try.ntmps129
  go_upto_region 1 with (fail)
  rw [← hV, ← hfb]
  clear hV hfb
  have LO : OwnB V.heap.size (V.alloc (.cells #[.int .u8 81, .int .u8 66, .int .u8 1] 5)) (.slice (some ⟨V.heap.size, 0, none⟩) 3 3) headB := lit_own V headB (by decide)
  have hbl : Below V.heap.size V (V.alloc (.cells #[.int .u8 81, .int .u8 66, .int .u8 1] 5)) := by (repeat' (first | (with_reducible exact Below.refl _ _) | (with_reducible refine Below.ext_mk ?_ ?_ _ _) | (with_reducible refine Below.alloc ?_ ?_ _) | (with_reducible refine Below.drew ?_) | (with_reducible refine Below.setCell ?_ ?_ _) | go_size))
  obtain ⟨X, hX⟩ : ∃ X, X = V.alloc (.cells #[.int .u8 81, .int .u8 66, .int .u8 1] 5) := ⟨_, rfl⟩
  refine wp_region_doc (fun F' hF => ?_)
  have HF := hid hF
  clear hF
  refine doc_val rfl (by first | (go_simp; done) | (go_simp; exact ⟨rfl, rfl⟩) | (go_simp; with_reducible rfl)) ?_
  simp only [Act.put, List.setIfInBounds_toArray, List.set_cons_zero, List.set_cons_succ]
  rw [← hX] at LO hbl ⊢
  clear hX
  obtain ⟨k0, k2, zf⟩ := HF0.out X hbl
  iterate 3 (refine doc_val rfl (by first | (go_simp; done) | (go_simp; exact ⟨rfl, rfl⟩) | (go_simp; with_reducible rfl)) ?_; simp only [Act.put, List.setIfInBounds_toArray, List.set_cons_zero, List.set_cons_succ])
  refine doc_call rfl (by first | (go_simp; done) | (go_simp; exact ⟨rfl, rfl⟩) | (go_simp; with_reducible rfl)) ((rnumber_any ns.length X (by omega)).mono ?_)
  rintro _ w1 ⟨v1, rfl, how1, hbw1⟩
  refine ⟨_, rfl, ?_⟩
  simp only [Act.put, List.setIfInBounds_toArray, List.set_cons_zero, List.set_cons_succ]
  obtain ⟨v2, w2, p1, p2, p3, -⟩ := (LO.below hbw1).cat (Nat.le_trans hbl.size hbw1.size) (by decide) how1.rd (numB_pos _) (by have := LL.out.1; omega)
  refine doc_val rfl (run_append_op _ _ _ _ _ _ _ _ _ p1) ?_
  simp only [Act.put, List.setIfInBounds_toArray, List.set_cons_zero, List.set_cons_succ]
  refine doc_val rfl (by first | (go_simp; done) | (go_simp; exact ⟨rfl, rfl⟩) | (go_simp; with_reducible rfl)) ?_
  simp only [Act.put, List.setIfInBounds_toArray, List.set_cons_zero, List.set_cons_succ]
  refine doc_end (HF.out _ _ ?_)
  have hb2 : Below V.heap.size V w2 := (hbl.trans (hbw1.mono hbl.size)).trans p3
  clear HF F' k0 k2 zf p1 p3 LO hbl how1 hbw1
  go_wp2_with fail
  go_loopw [3, 4] (fun bv iv wr => ∃ j : Nat, j ≤ ns.length ∧ iv = .int .i64 j ∧ OwnB V.heap.size wr bv (headB ++ numB ns.length ++ (ns.take j).flatMap nodeB) ∧ Below V.heap.size V wr) (fun _ iv _ => ns.length - (intOf iv).toNat)
  case atStart => exact ⟨0, by omega, rfl, by simpa using p2, hb2⟩
  case round =>
    clear p2 hb2
    obtain ⟨j, hj, rfl, hO, hb⟩ := hrel
    obtain ⟨k0, k2, zf⟩ := HF0.out wr hb
    by_cases hlt : j < ns.length
    · have hj1 : (j : Int) < (ns.length : Int) := by omega
      have hj0 : (0 : Int) ≤ (j : Int) := by omega
      have hx := List.getElem?_eq_getElem hlt
      obtain ⟨r1, r2, r3, r4, r5, r6⟩ := Q3.out ns[j] (List.getElem_mem _)
      have TK := hid (take_node ns j _ hx)
      obtain ⟨b, off, rfl, zb0, -⟩ := H1.out.nodeAt hx
      have HG := hid (fun W (hb : Below V.heap.size V W) => (show W.cell? ⟨fb, 0, none⟩ = some (.slice (some ⟨b, off, none⟩) ns.length c1) ∧ fb < W.heap.size ∧ b < W.heap.size ∧ W.cell? ⟨b, off + j * 3, none⟩ = some (.int .i64 ns[j].1) ∧ W.cell? ⟨b, off + j * 3 + 1, none⟩ = some (.int .i64 ns[j].2.1) ∧ W.cell? ⟨b, off + j * 3 + 2, none⟩ = some (.int .i64 ns[j].2.2) from by
        obtain ⟨b', off', e, g1, g2, g3, g4⟩ := (H1.out.below hb).nodeAt hx
        cases e
        exact ⟨(HF0.out W hb).1, (HF0.out W hb).2.2, g1, g2, g3, g4⟩))
      generalize ns[j] = x at *
      obtain ⟨x1, x2, x3⟩ := x
      simp only at r1 r2 r3 r4 r5 r6 HG
      obtain ⟨v, rfl⟩ : ∃ v : Nat, x1 = v := ⟨x1.toNat, by omega⟩
      obtain ⟨lo, rfl⟩ : ∃ v : Nat, x2 = v := ⟨x2.toNat, by omega⟩
      obtain ⟨hi, rfl⟩ : ∃ v : Nat, x3 = v := ⟨x3.toNat, by omega⟩
      have hnb : nodeB ((v : Int), (lo : Int), (hi : Int)) = [v] ++ (numB lo ++ numB hi) := by simp [nodeB, Nat.mod_eq_of_lt (show v < 256 by omega)]
      have hpl : (headB ++ numB ns.length ++ (ns.take j).flatMap nodeB).length ≤ 20000000 := by
        have := L0.out j
        have := LL.out.1
        simp only [List.length_append, List.length_take] at *
        have : headB.length = 3 := rfl
        omega
      obtain ⟨pre, hpre⟩ : ∃ pre, pre = headB ++ numB ns.length ++ (ns.take j).flatMap nodeB := ⟨_, rfl⟩
      rw [← hpre] at hO hpl
      rw [hnb] at TK
      have HP := hid hpre
      obtain ⟨sa, sc, rfl⟩ := hO.form
      have w8 : IntKind.u8.wrap (v : Int) = (v : Int) := by rw [IntKind.wrap_u8]; omega
      have lv := numB_len 3 lo (by omega) (by omega)
      have lh := numB_len 3 hi (by omega) (by omega)
      have hwr := hb.size
      obtain ⟨v1, w1, p1, p2, p3, -⟩ := hO.grow hwr (by omega) [v] (by simp) (by simp)
      have p1 : (Builtin.append_ #[100, 100] 100 #[.slice sa pre.length sc, .slice (some ⟨wr.heap.size, 0, none⟩) 1 1]).run Try.prog (wr.alloc (.cells #[.int .u8 (v : Nat)] 5)) = .ok v1 w1 := p1
      obtain ⟨pl, hpl1⟩ : ∃ n, n = pre.length := ⟨_, rfl⟩
      rw [← hpl1] at p1 hpl ⊢
      have HPL := hid hpl1
      have hb1 : Below V.heap.size V w1 := hb.trans p3
      obtain ⟨g0, g1, g2, g3, g4, g5⟩ := HG.out wr hb
      clear hx hnb hpre zb0 k2 k0 zf hO hpl1
      go_upto_region 5 with (fail)
      refine wp_region_doc (fun F' hF => ?_)
      have HF := hid hF
      clear hF
      iterate 9 (refine doc_val rfl (by first | (go_simp; done) | (go_simp; exact ⟨rfl, rfl⟩) | (go_simp; with_reducible rfl)) ?_; simp only [Act.put, List.setIfInBounds_toArray, List.set_cons_zero, List.set_cons_succ])
      refine doc_val rfl (run_append_op _ _ _ _ _ _ _ _ _ p1) ?_
      simp only [Act.put, List.setIfInBounds_toArray, List.set_cons_zero, List.set_cons_succ]
      refine doc_val rfl (by first | (go_simp; done) | (go_simp; exact ⟨rfl, rfl⟩) | (go_simp; with_reducible rfl)) ?_
      simp only [Act.put, List.setIfInBounds_toArray, List.set_cons_zero, List.set_cons_succ]
      refine doc_end (HF.out _ _ ?_)
      clear HF F' p1 g0 g1 g2 g3 g4 g5 w8
      have hl1 : (pre ++ [v]).length ≤ 30000000 := by have := HPL.out; simp; omega
      obtain ⟨g0, g1, g2, g3, g4, g5⟩ := HG.out w1 hb1
      go_upto_region 6 with (fail)
      refine wp_region_doc (fun F' hF => ?_)
      have HF := hid hF
      clear hF
      iterate 7 (refine doc_val rfl (by first | (go_simp; done) | (go_simp; exact ⟨rfl, rfl⟩) | (go_simp; with_reducible rfl)) ?_; simp only [Act.put, List.setIfInBounds_toArray, List.set_cons_zero, List.set_cons_succ])
      refine doc_call rfl (by first | (go_simp; done) | (go_simp; exact ⟨rfl, rfl⟩) | (go_simp; with_reducible rfl)) ((rnumber_any lo w1 (by omega)).mono ?_)
      rintro _ w2 ⟨v2, rfl, how2, hbw2⟩
      refine ⟨_, rfl, ?_⟩
      simp only [Act.put, List.setIfInBounds_toArray, List.set_cons_zero, List.set_cons_succ]
      obtain ⟨v3, w3, t1, t2, t3, -⟩ := (p2.below hbw2).cat (Nat.le_trans hb1.size hbw2.size) (by omega) how2.rd (numB_pos _) (by omega)
      refine doc_val rfl (run_append_op _ _ _ _ _ _ _ _ _ t1) ?_
      simp only [Act.put, List.setIfInBounds_toArray, List.set_cons_zero, List.set_cons_succ]
      refine doc_val rfl (by first | (go_simp; done) | (go_simp; exact ⟨rfl, rfl⟩) | (go_simp; with_reducible rfl)) ?_
      simp only [Act.put, List.setIfInBounds_toArray, List.set_cons_zero, List.set_cons_succ]
      refine doc_end (HF.out _ _ ?_)
      have hb3 : Below V.heap.size V w3 := (hb1.trans (hbw2.mono hb1.size)).trans t3
      have hl2 : (pre ++ [v] ++ numB lo).length ≤ 40000000 := by rw [List.length_append]; omega
      clear HF F' t1 t3 g0 g1 g2 g3 g4 g5 how2 hbw2 p2 p3
      obtain ⟨g0, g1, g2, g3, g4, g5⟩ := HG.out w3 hb3
      go_upto_region 7 with (fail)
      refine wp_region_doc (fun F' hF => ?_)
      have HF := hid hF
      clear hF
      iterate 7 (refine doc_val rfl (by first | (go_simp; done) | (go_simp; exact ⟨rfl, rfl⟩) | (go_simp; with_reducible rfl)) ?_; simp only [Act.put, List.setIfInBounds_toArray, List.set_cons_zero, List.set_cons_succ])
      refine doc_call rfl (by first | (go_simp; done) | (go_simp; exact ⟨rfl, rfl⟩) | (go_simp; with_reducible rfl)) ((rnumber_any hi w3 (by omega)).mono ?_)
      rintro _ w4 ⟨v4, rfl, how4, hbw4⟩
      refine ⟨_, rfl, ?_⟩
      simp only [Act.put, List.setIfInBounds_toArray, List.set_cons_zero, List.set_cons_succ]
      obtain ⟨v5, w5, s1, s2, s3, -⟩ := (t2.below hbw4).cat (Nat.le_trans hb3.size hbw4.size) (by omega) how4.rd (numB_pos _) (by omega)
      refine doc_val rfl (run_append_op _ _ _ _ _ _ _ _ _ s1) ?_
      simp only [Act.put, List.setIfInBounds_toArray, List.set_cons_zero, List.set_cons_succ]
      refine doc_val rfl (by first | (go_simp; done) | (go_simp; exact ⟨rfl, rfl⟩) | (go_simp; with_reducible rfl)) ?_
      simp only [Act.put, List.setIfInBounds_toArray, List.set_cons_zero, List.set_cons_succ]
      refine doc_end (HF.out _ _ ?_)
      have hb5 : Below V.heap.size V w5 := (hb3.trans (hbw4.mono hb3.size)).trans s3
      clear HF F' s1 s3 g0 g1 g2 g3 g4 g5 how4 hbw4 t2 hb3 hb1 hb
      have HR := hid (And.intro s2 hb5)
      clear s2 hb5
      go_wp2_with fail
      go_roundw
      case rel =>
        refine ⟨j + 1, by omega, by go_num, ?_, HR.out.2⟩
        have e := HR.out.1
        rw [HP.out] at e
        rw [TK.out]
        simpa [List.append_assoc] using e
      case measure => simp [intOf]; omega
    · obtain rfl : j = ns.length := by omega
      rw [List.take_length] at hO
      have hpl : (headB ++ numB ns.length ++ ns.flatMap nodeB).length ≤ 20000000 := by
        have := L0.out ns.length
        rw [List.take_length] at this
        have := LL.out.1
        simp only [List.length_append] at *
        have : headB.length = 3 := rfl
        omega
      obtain ⟨pre, hpre⟩ : ∃ pre, pre = headB ++ numB ns.length ++ ns.flatMap nodeB := ⟨_, rfl⟩
      rw [← hpre] at hO hpl
      have HP := hid hpre
      obtain ⟨sa, sc, rfl⟩ := hO.form
      obtain ⟨pl, hpl1⟩ : ∃ n, n = pre.length := ⟨_, rfl⟩
      rw [← hpl1] at hpl ⊢
      have HPL := hid hpl1
      have hrl : rs.length ≤ 9223372036854775807 := by omega
      have hpq : pre.length ≤ 20000000 := by omega
      clear hpre hpl1
      go_upto_region 8 with (fail)
      refine wp_region_doc (fun F' hF => ?_)
      have HF := hid hF
      clear hF
      iterate 4 (refine doc_val rfl (by first | (go_simp; done) | (go_simp; exact ⟨rfl, rfl⟩) | (go_simp; with_reducible rfl)) ?_; simp only [Act.put, List.setIfInBounds_toArray, List.set_cons_zero, List.set_cons_succ])
      refine doc_call rfl (by first | (go_simp; done) | (go_simp; exact ⟨rfl, rfl⟩) | (go_simp; with_reducible rfl)) ((rnumber_any rs.length wr (by omega)).mono ?_)
      rintro _ w1 ⟨v1, rfl, how1, hbw1⟩
      refine ⟨_, rfl, ?_⟩
      simp only [Act.put, List.setIfInBounds_toArray, List.set_cons_zero, List.set_cons_succ]
      obtain ⟨v2, w2, p1, p2, p3, -⟩ := (hO.below hbw1).cat (Nat.le_trans hb.size hbw1.size) (by omega) how1.rd (numB_pos _) (by have := LL.out.2; omega)
      rw [← HPL.out] at p1
      refine doc_val rfl (run_append_op _ _ _ _ _ _ _ _ _ p1) ?_
      simp only [Act.put, List.setIfInBounds_toArray, List.set_cons_zero, List.set_cons_succ]
      refine doc_val rfl (by first | (go_simp; done) | (go_simp; exact ⟨rfl, rfl⟩) | (go_simp; with_reducible rfl)) ?_
      simp only [Act.put, List.setIfInBounds_toArray, List.set_cons_zero, List.set_cons_succ]
      refine doc_end (HF.out _ _ ?_)
      have hb2 : Below V.heap.size V w2 := (hb.trans (hbw1.mono hb.size)).trans p3
      have hl2 : (pre ++ numB rs.length).length ≤ 25000000 := by have := LL.out.2; rw [List.length_append]; omega
      obtain ⟨mid, hmid⟩ : ∃ mid, mid = pre ++ numB rs.length := ⟨_, rfl⟩
      rw [← hmid] at p2 hl2
      have HM := hid hmid
      clear HF F' k0 k2 zf p1 p3 how1 hbw1 hO hb hmid hpl
      go_wp2_with fail
      go_loopw [3, 5] (fun bv iv wr => ∃ j : Nat, j ≤ rs.length ∧ iv = .int .i64 j ∧ OwnB V.heap.size wr bv (mid ++ (rs.take j).flatMap (fun a => numB a.toNat)) ∧ Below V.heap.size V wr) (fun _ iv _ => rs.length - (intOf iv).toNat)
      case atStart => exact ⟨0, by omega, rfl, by simpa using p2, hb2⟩
      case round =>
        clear p2 hb2
        obtain ⟨j, hj, rfl, hO, hb⟩ := hrel
        obtain ⟨k0, k2, zf⟩ := HF0.out wr hb
        by_cases hlt : j < rs.length
        · have hj1 : (j : Int) < (rs.length : Int) := by omega
          have hj0 : (0 : Int) ≤ (j : Int) := by omega
          have hx := List.getElem?_eq_getElem hlt
          obtain ⟨r1, r2⟩ := Q4.out rs[j] (List.getElem_mem _)
          have TK := hid (take_root rs j _ hx)
          obtain ⟨b, off, rfl, zb0, g1⟩ := (H3.out.below hb).intCell hx
          generalize rs[j] = x at *
          obtain ⟨v, rfl⟩ : ∃ v : Nat, x = v := ⟨x.toNat, by omega⟩
          rw [Int.toNat_natCast] at TK
          have hpl : (mid ++ (rs.take j).flatMap (fun a => numB a.toNat)).length ≤ 30000000 := by
            have := L1.out j
            simp only [List.length_append, List.length_take] at *
            omega
          obtain ⟨pr2, hpre⟩ : ∃ pr2, pr2 = mid ++ (rs.take j).flatMap (fun a => numB a.toNat) := ⟨_, rfl⟩
          rw [← hpre] at hO hpl
          have HP2 := hid hpre
          obtain ⟨sa, sc, rfl⟩ := hO.form
          have lv := numB_len 3 v (by omega) (by omega)
          obtain ⟨pl2, hpl2⟩ : ∃ n, n = pr2.length := ⟨_, rfl⟩
          rw [← hpl2] at hpl ⊢
          have hpq : pr2.length ≤ 30000000 := by omega
          have HPL2 := hid hpl2
          clear hx hpre hpl2
          go_upto_region 12 with (fail)
          refine wp_region_doc (fun F' hF => ?_)
          have HF := hid hF
          clear hF
          iterate 6 (refine doc_val rfl (by first | (go_simp; done) | (go_simp; exact ⟨rfl, rfl⟩) | (go_simp; with_reducible rfl)) ?_; simp only [Act.put, List.setIfInBounds_toArray, List.set_cons_zero, List.set_cons_succ])
          refine doc_call rfl (by first | (go_simp; done) | (go_simp; exact ⟨rfl, rfl⟩) | (go_simp; with_reducible rfl)) ((rnumber_any v wr (by omega)).mono ?_)
          rintro _ w2 ⟨v2, rfl, how2, hbw2⟩
          refine ⟨_, rfl, ?_⟩
          simp only [Act.put, List.setIfInBounds_toArray, List.set_cons_zero, List.set_cons_succ]
          obtain ⟨v3, w3, t1, t2, t3, -⟩ := (hO.below hbw2).cat (Nat.le_trans hb.size hbw2.size) (by omega) how2.rd (numB_pos _) (by omega)
          rw [← HPL2.out] at t1
          refine doc_val rfl (run_append_op _ _ _ _ _ _ _ _ _ t1) ?_
          simp only [Act.put, List.setIfInBounds_toArray, List.set_cons_zero, List.set_cons_succ]
          refine doc_val rfl (by first | (go_simp; done) | (go_simp; exact ⟨rfl, rfl⟩) | (go_simp; with_reducible rfl)) ?_
          simp only [Act.put, List.setIfInBounds_toArray, List.set_cons_zero, List.set_cons_succ]
          refine doc_end (HF.out _ _ ?_)
          have HR := hid (And.intro t2 ((hb.trans (hbw2.mono hb.size)).trans t3))
          clear HF F' t1 t2 t3 how2 hbw2 k0 k2 zf g1 hO hb
          go_wp2_with fail
          go_roundw
          case rel =>
            refine ⟨j + 1, by omega, by go_num, ?_, HR.out.2⟩
            have e := HR.out.1
            rw [HP2.out] at e
            rw [TK.out]
            simpa [List.append_assoc] using e
          case measure => simp [intOf]; omega
        · obtain rfl : j = rs.length := by omega
          rw [List.take_length] at hO
          have hpl : (mid ++ rs.flatMap (fun a => numB a.toNat)).length ≤ 10000000 := by
            have a1 := L1.out rs.length
            rw [List.take_length] at a1
            have a2 := L0.out ns.length
            rw [List.take_length] at a2
            have a3 := LL.out
            rw [HM.out, HP.out]
            simp only [List.length_append] at *
            have : headB.length = 3 := rfl
            omega
          have hbody : mid ++ rs.flatMap (fun a => numB a.toNat) = bodyB ns rs := by rw [HM.out, HP.out]; rfl
          rw [hbody] at hO hpl
          have SE := hid (rsealed_any hO.rd (bodyB_byte ns rs) hpl)
          have HB := hid hb
          clear hO hb hbody hpl
          go_upto_region 13 with (fail)
          refine wp_region_doc (fun F' hF => ?_)
          have HF := hid hF
          clear hF
          refine doc_val rfl (by first | (go_simp; done) | (go_simp; exact ⟨rfl, rfl⟩) | (go_simp; with_reducible rfl)) ?_
          simp only [Act.put, List.setIfInBounds_toArray, List.set_cons_zero, List.set_cons_succ]
          refine doc_call rfl (by first | (go_simp; done) | (go_simp; exact ⟨rfl, rfl⟩) | (go_simp; with_reducible rfl)) ((SE.out).mono ?_)
          rintro _ w5 ⟨v5, rfl, ho, hb5⟩
          refine ⟨_, rfl, ?_⟩
          simp only [Act.put, List.setIfInBounds_toArray, List.set_cons_zero, List.set_cons_succ]
          refine doc_val rfl (by first | (go_simp; done) | (go_simp; exact ⟨rfl, rfl⟩) | (go_simp; with_reducible rfl)) ?_
          simp only [Act.put, List.setIfInBounds_toArray, List.set_cons_zero, List.set_cons_succ]
          refine doc_end (HF.out _ _ ?_)
          have HR := hid (And.intro (show OwnB w.heap.size w5 v5 (writeB ns rs) from ho.mono (Nat.le_trans HBV.out.size HB.out.size)) (HBV.out.trans (((HB.out.trans (hb5.mono HB.out.size))).mono HBV.out.size)))
          clear HF F' ho hb5 SE
          go_wp2_with fail
          go_returns
          exact ⟨_, rfl, HR.out⟩

set_option maxHeartbeats 2000000 in
/-- The document's Write: more than 64 are refused. -/
theorem rwrite_over {w : World} {q : Option Addr} {a : Option Addr} {n c : Nat} (h64 : 64 < n) : Calls Try.prog 77 #[.pointer q, .slice a n c] w (Pure (.tuple #[.slice none 0 0, .int .i64 5]) w) := by
  have h : (64 : Int) < (n : Int) := by omega
  go_enter Try.func77, Try.ntmps77
  go_wp2
  go_returns
  exact Pure.of rfl (by (repeat' (first | (with_reducible exact Below.refl _ _) | (with_reducible refine Below.ext_mk ?_ ?_ _ _) | (with_reducible refine Below.alloc ?_ ?_ _) | (with_reducible refine Below.drew ?_) | (with_reducible refine Below.setCell ?_ ?_ _) | go_size)))
set_option maxHeartbeats 2000000 in
theorem rwrite_any {R : RSt} (hL : Lower R) (hRl : R.L.length ≤ 1048576) {q : Nat} {F : List Nat} {w : World} (hR : RIs w q F R) {sv : Value} {l : List Int} (hl : Rd w 1 sv (ints l)) (h64 : l.length ≤ 64)
    (ho : (rordV R (R.L.length + 2) l).2.1.length ≤ 8388608) (hW : Wrt (rordV R (R.L.length + 2) l).1 (rordV R (R.L.length + 2) l).2.2) :
    Calls Try.prog 77 #[.pointer (some ⟨q, 0, none⟩), sv] w (fun e w' => ∃ v, e = .returned (.tuple #[v, .int .i64 0]) ∧ OwnB w.heap.size w' v (writeB (rordV R (R.L.length + 2) l).1 (rordV R (R.L.length + 2) l).2.2) ∧ Below w.heap.size w w') := by
  obtain ⟨la, lc, rfl, hlc, hlm⟩ := hl.len
  have O := hid (rorder_any hL hRl hR hl (by omega) (by have := hW.1; omega) ho)
  have HB := hid (fun W f (h : FrIs W f (rordV R (R.L.length + 2) l).1 (rordV R (R.L.length + 2) l).2.1 (rordV R (R.L.length + 2) l).2.2) => rbytes_any h hW)
  have h : ¬ (64 : Int) < (l.length : Int) := by omega
  clear hl hL hR ho hW
  go_enter Try.func77, Try.ntmps77
  go_upto_region 3 with (fail)
  refine wp_region_doc (fun F' hF => ?_)
  have HF := hid hF
  clear hF
  iterate 2 (refine doc_val rfl (by first | (go_simp; done) | (go_simp; exact ⟨rfl, rfl⟩) | (go_simp; with_reducible rfl)) ?_; simp only [Act.put, List.setIfInBounds_toArray, List.set_cons_zero, List.set_cons_succ])
  refine doc_call rfl (by first | (go_simp; done) | (go_simp; exact ⟨rfl, rfl⟩) | (go_simp; with_reducible rfl)) ((O.out).mono ?_)
  rintro _ w2 ⟨fv, rfl, hfr, hb2⟩
  refine ⟨_, rfl, ?_⟩
  simp only [Act.put, List.setIfInBounds_toArray, List.set_cons_zero, List.set_cons_succ]
  refine doc_call rfl (by first | (go_simp; done) | (go_simp; exact ⟨rfl, rfl⟩) | (go_simp; with_reducible rfl)) ((HB.out _ _ hfr).mono ?_)
  rintro _ w3 ⟨v, rfl, ho, hb3⟩
  refine ⟨_, rfl, ?_⟩
  simp only [Act.put, List.setIfInBounds_toArray, List.set_cons_zero, List.set_cons_succ]
  iterate 2 (refine doc_val rfl (by first | (go_simp; done) | (go_simp; exact ⟨rfl, rfl⟩) | (go_simp; with_reducible rfl)) ?_; simp only [Act.put, List.setIfInBounds_toArray, List.set_cons_zero, List.set_cons_succ])
  refine doc_end (HF.out _ _ ?_)
  have HR := hid (And.intro (ho.mono hb2.size) (hb2.trans (hb3.mono hb2.size)))
  clear HF F' hfr hb2 ho hb3 O HB
  go_wp2_with fail
  go_returns
  exact ⟨_, rfl, HR.out⟩
end Go.Proofs.Ytboekafmplomhaa
