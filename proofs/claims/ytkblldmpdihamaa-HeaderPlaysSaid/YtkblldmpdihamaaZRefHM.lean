/-
  The document's headers (quillonref19): widths, how many bits a header has, numbers.
-/
import Derived.Test.YtkblldmpdihamaaZRefN2
import Derived.Test.YtkblldmpdihamaaZHeadB
import Derived.Test.YtkblldmpdihamaaZV2
set_option linter.unusedVariables false
set_option linter.unusedSimpArgs false
namespace Go.Proofs.Ytkblldmpdihamaa
open Go.RowKit

theorem bt_and (x y : BitVec 128) (i : Nat) : bt (x &&& y) i = (bt x i && bt y i) := by unfold bt; exact BitVec.getLsbD_and
theorem ones_all : (340282366920938463463374607431768211455#128 : BitVec 128) = BitVec.allOnes 128 := by decide
theorem bt_mask (k : Int) {i : Nat} (hi : i < 128) : bt (maskOf k) i = decide ((i : Int) < k) := by
  unfold maskOf bt
  split
  · simp; omega
  · rw [ones_all, BitVec.getLsbD_ushiftRight, BitVec.getLsbD_allOnes]
    by_cases h : (i : Int) < k
    · simp only [h, decide_true, decide_eq_true_eq]; omega
    · simp only [h, decide_false, decide_eq_false_iff_not]; omega
theorem bt_zero (i : Nat) : bt 0#128 i = false := by unfold bt; simp
theorem nOf_cut (n : BitVec 128) (k : Int) : nOf (cutF n k) = n &&& maskOf k := bt_ext fun i h => by rw [bt_nOf _ h, bt_and, bt_mask k h]; rfl
theorem rfits_fits (n : BitVec 128) (k : Int) : rfits n k = fits n k := by unfold rfits fits; rw [nOf_cut]

/-- A width that may be. -/
def wokB (x : Int) : Bool := decide (1 ≤ x) && decide (x ≤ 128)
set_option maxRecDepth 100000 in
theorem rwidths_any {w : World} {s : SL} {ws : List Int} (S : RdS w 1 s (ints ws)) : Calls Try.prog 25 #[s.v] w (Pure (.bool (ws.all wokB)) w) := by
  have hsn := S.int
  have hsm := S.2.1
  have HS := hid S
  clear S
  obtain ⟨sa, sn, sc⟩ := s
  simp only at hsn hsm
  subst hsn
  go_enter Try.func25, Try.ntmps25
  go_wp2_with fail
  go_loopw [3] (fun i wr => ∃ j : Nat, j ≤ ws.length ∧ i = .int .i64 j ∧ (ws.take j).all wokB = true ∧ Below w.heap.size w wr) (fun i _ => ws.length - (intOf i).toNat)
  case atStart => exact ⟨0, by omega, rfl, rfl, by (repeat' (first | (with_reducible exact Below.refl _ _) | (with_reducible refine Below.ext_mk ?_ ?_ _ _) | (with_reducible refine Below.alloc ?_ ?_ _) | (with_reducible refine Below.drew ?_) | (with_reducible refine Below.setCell ?_ ?_ _) | go_size))⟩
  case round =>
    obtain ⟨j, hj, rfl, hall, hb⟩ := hrel
    have hbs := hb.size
    by_cases hlt : j < ws.length
    · have hj1 : (j : Int) < (ws.length : Int) := by omega
      obtain ⟨b, off, e1, zb, c0⟩ := RdS.intAt HS.out hlt
      simp only at e1
      subst e1
      have d0 := (hb.cell (p := ⟨b, off + j, none⟩) zb).trans c0
      have zb' : b < wr.heap.size := by omega
      have hnext : (ws.take (j + 1)).all wokB = wokB ws[j] := by
        rw [List.take_succ_eq_append_getElem hlt, List.all_append, hall]; simp
      have hno : wokB ws[j] = false → ws.all wokB = false := fun h => by
        rw [Bool.eq_false_iff]
        intro ha
        rw [List.all_eq_true] at ha
        rw [ha _ (List.getElem_mem hlt)] at h
        cases h
      have HN := hid hnext
      have HO := hid hno
      clear c0 hnext hno
      generalize ws[j] = x at *
      by_cases k1 : x < 1
      · have HW : Hid (wokB x = false) := hid (by unfold wokB; simp; omega)
        go_wp2_with fail
        go_returns
        exact Pure.of (by rw [HO.out HW.out]; rfl) hb
      · by_cases k2 : 128 < x
        · have HW : Hid (wokB x = false) := hid (by unfold wokB; simp; omega)
          go_wp2_with fail
          go_returns
          exact Pure.of (by rw [HO.out HW.out]; rfl) hb
        · have HW : Hid (wokB x = true) := hid (by unfold wokB; simp; omega)
          go_wp2_with fail
          go_roundw
          case rel => exact ⟨j + 1, hlt, by go_num, by rw [HN.out, HW.out], hb⟩
          case measure => simp [intOf]; omega
    · obtain rfl : j = ws.length := by omega
      rw [List.take_length] at hall
      have HA := hid hall
      go_wp2_with fail
      go_returns
      exact Pure.of (by rw [HA.out]; rfl) hb

/-- Whether all numbers fit. -/
def rfitsL : List (BitVec 128) → List Int → Bool
  | [], ws => decide (ws.length = 0)
  | _ :: _, [] => false
  | n :: r, x :: ws => rfits n x && rfitsL r ws
theorem rfitsL_step {ns : List (BitVec 128)} {ws : List Int} {j : Nat} (h1 : j < ns.length) (h2 : j < ws.length) :
    rfitsL (ns.drop j) (ws.drop j) = (rfits ns[j] ws[j] && rfitsL (ns.drop (j + 1)) (ws.drop (j + 1))) := by
  rw [List.drop_eq_getElem_cons h1, List.drop_eq_getElem_cons h2, rfitsL]
theorem rfitsL_len : ∀ (ns : List (BitVec 128)) (ws : List Int), ns.length ≠ ws.length → rfitsL ns ws = false
  | [], ws, h => by simp [rfitsL] at h ⊢; intro e; exact h (by rw [e]; rfl)
  | _ :: _, [], _ => rfl
  | n :: r, x :: ws, h => by rw [rfitsL, rfitsL_len r ws (by simpa using h), Bool.and_false]
set_option maxRecDepth 100000 in
theorem rnumbers_any {w : World} {s t : SL} {ns : List (BitVec 128)} {ws : List Int} (S : RdS w 2 s (nums ns)) (T : RdS w 1 t (ints ws)) :
    Calls Try.prog 30 #[s.v, t.v] w (Pure (.bool (rfitsL ns ws)) w) := by
  have hsn : s.n = ns.length := by have := S.2.2.1; rw [nums_length] at this; omega
  have htn := T.int
  have hsm := S.2.1
  have htm := T.2.1
  have HS := hid S
  have HT := hid T
  clear S T
  obtain ⟨sa, sn, sc⟩ := s
  obtain ⟨ta, tn, tc⟩ := t
  simp only at hsn htn hsm htm
  subst hsn htn
  by_cases hlen : ns.length = ws.length
  · have hl1 : ((ns.length : Int) != (ws.length : Int)) = false := by simp [hlen]
    have HLen := hid hlen
    clear hlen
    go_enter Try.func30, Try.ntmps30
    go_wp2_with fail
    go_loopw [5] (fun i wr => ∃ j : Nat, j ≤ ns.length ∧ i = .int .i64 j ∧ rfitsL ns ws = rfitsL (ns.drop j) (ws.drop j) ∧ Below w.heap.size w wr) (fun i _ => ns.length - (intOf i).toNat)
    case atStart => exact ⟨0, by omega, rfl, rfl, by (repeat' (first | (with_reducible exact Below.refl _ _) | (with_reducible refine Below.ext_mk ?_ ?_ _ _) | (with_reducible refine Below.alloc ?_ ?_ _) | (with_reducible refine Below.drew ?_) | (with_reducible refine Below.setCell ?_ ?_ _) | go_size))⟩
    case round =>
      obtain ⟨j, hj, rfl, hfit, hb⟩ := hrel
      have hbs := hb.size
      have HFit := hid hfit
      clear hfit
      by_cases hlt : j < ns.length
      · have hj1 : (j : Int) < (ns.length : Int) := by omega
        have hw : j < ws.length := by have := HLen.out; omega
        have hj2 : (j : Int) < (ws.length : Int) := by omega
        obtain ⟨b, off, e1, zb, _, c0, c1⟩ := HS.out.num (i := j) (n := ns[j]) (by simp [hlt])
        simp only at e1
        subst e1
        have d0 := (hb.cell (p := ⟨b, off + j * 2, none⟩) zb).trans c0
        have d1 := (hb.cell (p := ⟨b, off + j * 2 + 1, none⟩) zb).trans c1
        have zb' : b < wr.heap.size := by omega
        clear c0 c1
        have hst := hid (rfitsL_step hlt hw)
        obtain ⟨b2, off2, e2, zb2, c2⟩ := RdS.intAt HT.out hw
        simp only at e2
        subst e2
        have d2 := (hb.cell (p := ⟨b2, off2 + j, none⟩) zb2).trans c2
        have zb2' : b2 < wr.heap.size := by omega
        have FT := hid (fun W => rfits_any ns[j] ws[j] W)
        generalize ns[j] = n at *
        generalize ws[j] = x at *
        clear c2
        generalize rfits n x = fb at *
        cases fb
        · go_upto_region 6 with (fail)
          refine wp_region_ext (by kernel_rfl) (by kernel_rfl) (fun F hF => ?_)
          have HF := hid hF; clear hF
          repeat (first
            | (apply text_skip; (focus rfl); simp only [Act.put, List.setIfInBounds_toArray, List.set_cons_zero, List.set_cons_succ])
            | (apply text_val; (focus rfl); (focus (intro _ _; go_simp; with_reducible rfl)); simp only [Act.put, List.setIfInBounds_toArray, List.set_cons_zero, List.set_cons_succ])
            | (apply text_call; (focus rfl); (focus (intro _ _; go_simp; exact ⟨rfl, rfl⟩)); (focus (intro _ _; with_reducible (exact FT.out _))); simp only [Act.put, List.setIfInBounds_toArray, List.set_cons_zero, List.set_cons_succ])
            | (apply text_if; (focus (first | exact wanted_t rfl rfl | exact wanted_f rfl rfl | exact wanted_gt rfl rfl | exact wanted_gf rfl rfl)); (focus (intro hc _ _; (try simp only [Bool.and_eq_true, Bool.not_eq_true', Bool.true_and] at hc); go_simp; with_reducible rfl)); simp only [Act.put, List.setIfInBounds_toArray, List.set_cons_zero, List.set_cons_succ])
            | (apply text_if_call; (focus (first | exact wanted_t rfl rfl | exact wanted_f rfl rfl | exact wanted_gt rfl rfl | exact wanted_gf rfl rfl)); (focus (intro hc _ _; (try simp only [Bool.and_eq_true, Bool.not_eq_true', Bool.true_and] at hc); go_simp; exact ⟨rfl, rfl⟩)); (focus (intro hc _ _; with_reducible (exact FT.out _))); simp only [Act.put, List.setIfInBounds_toArray, List.set_cons_zero, List.set_cons_succ]))
          refine text_nil (HF.out _ (fun mx dx => ?_))
          clear HF F
          go_wp2_with fail
          go_returns
          exact Pure.of (by rw [HFit.out, hst.out]; rfl) (Below.ext_mk hb hbs _ _)
        · go_upto_region 6 with (fail)
          refine wp_region_ext (by kernel_rfl) (by kernel_rfl) (fun F hF => ?_)
          have HF := hid hF; clear hF
          repeat (first
            | (apply text_skip; (focus rfl); simp only [Act.put, List.setIfInBounds_toArray, List.set_cons_zero, List.set_cons_succ])
            | (apply text_val; (focus rfl); (focus (intro _ _; go_simp; with_reducible rfl)); simp only [Act.put, List.setIfInBounds_toArray, List.set_cons_zero, List.set_cons_succ])
            | (apply text_call; (focus rfl); (focus (intro _ _; go_simp; exact ⟨rfl, rfl⟩)); (focus (intro _ _; with_reducible (exact FT.out _))); simp only [Act.put, List.setIfInBounds_toArray, List.set_cons_zero, List.set_cons_succ])
            | (apply text_if; (focus (first | exact wanted_t rfl rfl | exact wanted_f rfl rfl | exact wanted_gt rfl rfl | exact wanted_gf rfl rfl)); (focus (intro hc _ _; (try simp only [Bool.and_eq_true, Bool.not_eq_true', Bool.true_and] at hc); go_simp; with_reducible rfl)); simp only [Act.put, List.setIfInBounds_toArray, List.set_cons_zero, List.set_cons_succ])
            | (apply text_if_call; (focus (first | exact wanted_t rfl rfl | exact wanted_f rfl rfl | exact wanted_gt rfl rfl | exact wanted_gf rfl rfl)); (focus (intro hc _ _; (try simp only [Bool.and_eq_true, Bool.not_eq_true', Bool.true_and] at hc); go_simp; exact ⟨rfl, rfl⟩)); (focus (intro hc _ _; with_reducible (exact FT.out _))); simp only [Act.put, List.setIfInBounds_toArray, List.set_cons_zero, List.set_cons_succ]))
          refine text_nil (HF.out _ (fun mx dx => ?_))
          clear HF F
          go_wp2_with fail
          go_roundw
          case rel => exact ⟨j + 1, hlt, by go_num, by rw [HFit.out, hst.out]; simp, Below.ext_mk hb hbs _ _⟩
          case measure => simp [intOf]; omega
      · obtain rfl : j = ns.length := by omega
        have HE : Hid (rfitsL ns ws = true) := hid (by
          rw [HFit.out, List.drop_length, List.drop_eq_nil_of_le (by have := HLen.out; omega)]; rfl)
        go_wp2_with fail
        go_returns
        exact Pure.of (by rw [HE.out]; rfl) hb
  · have hl1 : ((ns.length : Int) != (ws.length : Int)) = true := by simp; omega
    have HE := hid (rfitsL_len ns ws hlen)
    clear hlen
    go_enter Try.func30, Try.ntmps30
    go_wp2_with fail
    go_returns
    exact Pure.of (by rw [HE.out]; rfl) (by (repeat' (first | (with_reducible exact Below.refl _ _) | (with_reducible refine Below.ext_mk ?_ ?_ _ _) | (with_reducible refine Below.alloc ?_ ?_ _) | (with_reducible refine Below.drew ?_) | (with_reducible refine Below.setCell ?_ ?_ _) | go_size)))
end Go.Proofs.Ytkblldmpdihamaa
set_option linter.unusedVariables false
set_option linter.unusedSimpArgs false
namespace Go.Proofs.Ytkblldmpdihamaa
open Go.RowKit

def cmp0 (a : BitVec 128) : Int := if a = 0#128 then 0 else 1
set_option maxRecDepth 100000 in
theorem rcmp0_any (x : BitVec 128) (w : World) : Calls Try.prog 31 #[nv x, nv 0#128] w (Pure (.int .i64 (cmp0 x)) w) := by
  have hz := (zero_of_info (P := Try.prog) row_info).1
  obtain ⟨y, hy⟩ : ∃ y, y = 0#128 := ⟨_, rfl⟩
  rw [← hy]
  have HY := hid hy
  clear hy
  go_enter Try.func31, Try.ntmps31
  go_upto_region 1 with (fail)
  refine wp_gen (fun V hV => ?_)
  have hbV : Below w.heap.size w V := by rw [hV]; (repeat' (first | (with_reducible exact Below.refl _ _) | (with_reducible refine Below.ext_mk ?_ ?_ _ _) | (with_reducible refine Below.alloc ?_ ?_ _) | (with_reducible refine Below.drew ?_) | (with_reducible refine Below.setCell ?_ ?_ _) | go_size))
  have bx : Blk V w.heap.size 45 [.int .u64 (hi x), .int .u64 (lo x)] := by
    rw [hV]; exact ((Blk.new w 45 [.int .u64 (hi x), .int .u64 (lo x)]).below (Below.alloc (Below.refl _ _) (Nat.le_refl _) _))
  have bY : Blk V (w.heap.size + 1) 45 [.int .u64 (hi y), .int .u64 (lo y)] := by
    rw [hV]
    have h := (Blk.new (w.alloc (.cells #[.int .u64 (hi x), .int .u64 (lo x)] 45)) 45 [.int .u64 (hi y), .int .u64 (lo y)])
    simpa using h
  clear hV
  have c0 := bx.cell 0
  have c1 := bx.cell 1
  have d0 := bY.cell 0
  have d1 := bY.cell 1
  simp only [List.getElem?_cons_zero, List.getElem?_cons_succ] at c0 c1 d0 d1
  have zx := bx.lt
  have zy := bY.lt
  refine wp_region_makes 6 [4, 5] (fun _ v w => ∃ b, v = .pointer (some ⟨b, 0, none⟩) ∧ Blk w b 86 (rowL fun _ => false)) (by kernel_rfl) (by kernel_rfl) (by kernel_rfl) (by kernel_rfl) (by kernel_rfl) (by kernel_rfl) (by kernel_rfl)
    (fun _ v w m d ⟨b, h1, h2⟩ => ⟨b, h1, h2.ext m d⟩) (fun F hF => ?_)
  simp only [List.take_succ_cons, List.take_zero, List.drop_succ_cons, List.drop_zero] at hF ⊢
  have HF := hid hF
  clear hF
  repeat (first
    | (apply tm_val; (focus rfl); (focus rfl); (focus (intro _ _; go_simp; with_reducible rfl)); simp only [Act.put, List.setIfInBounds_toArray, List.set_cons_zero, List.set_cons_succ])
    | (apply tm_call; (focus rfl); (focus rfl); (focus (intro _ _; go_simp; exact ⟨rfl, rfl⟩)); (focus (intro _ _; with_reducible (exact rbits_any _ _))); simp only [Act.put, List.setIfInBounds_toArray, List.set_cons_zero, List.set_cons_succ])
    | (apply tm_make; (focus rfl); (focus rfl); (focus (exact (fun m d => ⟨_, _, (by first | (go_simp; done) | (go_simp; exact ⟨rfl, rfl⟩) | (go_simp; with_reducible rfl)), Below.to_ext (Below.alloc (Below.refl _ _) (Nat.le_refl _) _), ⟨_, rfl, by have h := Blk.new (V.ext m d) 86 (rowL fun _ => false); rw [World.size_ext] at h; exact h⟩, by simp [blkOf], by simp [blkOf]⟩)))))
  refine tm_nil (HF.out _ (fun us m d hG hD => ?_))
  clear HF F
  obtain ⟨⟨b5, e5, k5⟩, l5⟩ := hG 4 (by simp)
  obtain ⟨⟨b6, e6, k6⟩, l6⟩ := hG 5 (by simp)
  have hne := hD 4 (by simp) 5 (by simp) (by omega)
  have hb56 : b5 ≠ b6 := by rw [e5, e6] at hne; simpa [blkOf] using hne
  have l5' : V.heap.size ≤ b5 := by rw [e5] at l5; simpa [blkOf] using l5
  have l6' : V.heap.size ≤ b6 := by rw [e6] at l6; simpa [blkOf] using l6
  simp only [setAll, List.getElem?_toArray, List.getElem?_cons_succ, List.getElem?_cons_zero, Option.bind_some, e5, e6]
  simp only [Act.put, List.setIfInBounds_toArray, List.set_cons_zero, List.set_cons_succ]
  clear hG hD hne l5 l6 e5 e6
  refine wp_list_docs (fun F hF => ?_)
  have HF := hid hF
  clear hF
  refine doc_skip rfl (store_row_op (xs := rowL fun _ => false) (ys := rowL (bt x)) _ _ _ _ _ _ _ _ _ (row_size _) (by rw [rowL_length, rowL_length]) (rowL_one _) rfl rfl k5) ?_
  simp only [Act.put, List.setIfInBounds_toArray, List.set_cons_zero, List.set_cons_succ]
  refine doc_skip rfl (store_row_op (xs := rowL fun _ => false) (ys := rowL (bt y)) _ _ _ _ _ _ _ _ _ (row_size _) (by rw [rowL_length, rowL_length]) (rowL_one _) rfl rfl (k6.farRow hb56 _)) ?_
  simp only [Act.put, List.setIfInBounds_toArray, List.set_cons_zero, List.set_cons_succ]
  refine doc_end (HF.out _ _ ?_)
  clear HF F
  go_upto_region 2 with (fail)
  refine wp_gen (fun U hU => ?_)
  have hbU : Below w.heap.size w U := by
    rw [hU]; exact Below.setRow (Below.setRow (Below.ext_mk hbV hbV.size _ _) (by omega) _) (by omega) _
  have bU : Blk U b5 86 (rowL (bt x)) := by rw [hU]; exact (k5.row _).farRow (fun e => hb56 e.symm) _
  have bU2 : Blk U b6 86 (rowL (bt y)) := by rw [hU]; exact (k6.farRow hb56 _).row _
  clear hU hbV bx bY c0 c1 d0 d1 zx zy k5 k6 l5' l6'
  go_wp2_with fail
  go_loopw [7] (fun i wr => ∃ m : Nat, m ≤ 128 ∧ i = .int .i64 ((m : Int) - 1) ∧ wr = U ∧ ∀ k, m ≤ k → k < 128 → bt x k = false) (fun i _ => (intOf i + 1).toNat)
  case atStart => exact ⟨128, by omega, rfl, rfl, fun k h1 h2 => by omega⟩
  case round =>
    obtain ⟨m, hm, rfl, rfl, hno⟩ := hrel
    have HNO := hid hno
    clear hno
    cases m with
    | zero =>
      have HE : Hid (cmp0 x = 0) := hid (if_pos (bt_ext fun i hi => by rw [HNO.out i (by omega) hi, bt_zero]))
      go_wp2_with fail
      go_returns
      exact Pure.of (by rw [HE.out]; rfl) hbU
    | succ j =>
      have hj : j < 128 := by omega
      have hj1 : (j : Int) < 128 := by omega
      have hj0 : (0 : Int) ≤ (j : Int) := by omega
      rw [show ((j + 1 : Nat) : Int) - 1 = (j : Int) by omega]
      have c := bU.cell j
      rw [rowL_at _ hj] at c
      have c' := bU2.cell j
      rw [rowL_at _ hj, HY.out, bt_zero] at c'
      have z := bU.lt
      have z' := bU2.lt
      cases hb : bt x j
      · rw [hb] at c
        have HB := hid hb
        clear hb
        go_wp2_with fail
        go_roundw
        case rel =>
          refine ⟨j, by omega, by go_num, by trivial, fun k h1 h2 => ?_⟩
          rcases Nat.eq_or_lt_of_le h1 with e | e
          · rw [← e]; exact HB.out
          · exact HNO.out k e h2
        case measure => first | (simp [intOf]; done) | (simp [intOf]; omega)
      · rw [hb] at c
        have HE : Hid (cmp0 x = 1) := hid (if_neg (fun e => by rw [e, bt_zero] at hb; cases hb))
        clear hb
        go_wp2_with fail
        go_returns
        exact Pure.of (by rw [HE.out]; rfl) hbU
end Go.Proofs.Ytkblldmpdihamaa
set_option linter.unusedVariables false
set_option linter.unusedSimpArgs false
namespace Go.Proofs.Ytkblldmpdihamaa
open Go.RowKit

set_option maxRecDepth 100000 in
theorem rbits19_any {p : PG} {hs : List (SL × List Int)} {w : World} (H : HeadsAre w p.heads hs) (h : Int) (hF : Few (headAt hs h).2) :
    Calls Try.prog 26 #[p.v, .int .i64 h] w (Pure (.int .i64 (headAt hs h).2.sum) w) := by
  have hhl := H.len
  have hhm := H.row.2.1
  obtain ⟨⟨pa, pn, pc⟩, pm, s2, s3, s4, s5, em, n0, n1, n2, n3, n4⟩ := p
  simp only at hhl hhm
  subst hhl
  by_cases hin : 0 ≤ h ∧ h < (hs.length : Int)
  · obtain ⟨h0, h1⟩ := hin
    obtain ⟨k, rfl⟩ : ∃ k : Nat, h = (k : Int) := ⟨h.toNat, by omega⟩
    have hk : k < hs.length := by omega
    obtain ⟨pb, po, ep, zp, _, cp⟩ := H.row.one (i := k) (u := hs[k].1.v) (by simp [hk])
    simp only at ep
    subst ep
    have hA : headAt hs (k : Int) = hs[k] := by unfold headAt; rw [if_neg (by omega)]; simp [hk]
    rw [hA] at hF ⊢
    have A := H.each hs[k] (List.getElem_mem _)
    have hl := A.int
    have hm := A.2.1
    have HA := hid A
    clear A H hA
    generalize hs[k] = x at *
    obtain ⟨⟨sa, n, c⟩, ws⟩ := x
    simp only [SL.v_mk] at hl hF hm cp ⊢
    subst hl
    go_enter Try.func26, Try.ntmps26
    go_wp2_with fail
    go_loopw [5, 6] (fun y i wr => ∃ j : Nat, j ≤ ws.length ∧ y = .int .i64 (ws.take j).sum ∧ i = .int .i64 j ∧ wr.cell? ⟨w.heap.size, 0, none⟩ = some (.slice (some ⟨pb, po, none⟩) hs.length pc) ∧ w.heap.size < wr.heap.size ∧ Below w.heap.size w wr) (fun _ i _ => ws.length - (intOf i).toNat)
    case atStart => exact ⟨0, by omega, by simp, rfl, by go_simp, by simp, by (repeat' (first | (with_reducible exact Below.refl _ _) | (with_reducible refine Below.ext_mk ?_ ?_ _ _) | (with_reducible refine Below.alloc ?_ ?_ _) | (with_reducible refine Below.drew ?_) | (with_reducible refine Below.setCell ?_ ?_ _) | go_size))⟩
    case round =>
      obtain ⟨j, hj, rfl, rfl, hc0, hz, hb⟩ := hrel
      have hbs := hb.size
      have sm := sum_mono hF.pos j
      have s0 := hF.sum
      have vp := (hb.cell (p := ⟨pb, po + k, none⟩) zp).trans cp
      have zp' : pb < wr.heap.size := by omega
      by_cases hlt : j < ws.length
      · have hj1 : (j : Int) < (ws.length : Int) := by omega
        obtain ⟨b, off, e1, zb, c0⟩ := RdS.intAt HA.out hlt
        simp only at e1
        subst e1
        have d0 := (hb.cell (p := ⟨b, off + j, none⟩) zb).trans c0
        have zb' : b < wr.heap.size := by omega
        have hsn := sum_snoc ws hlt
        have sm1 := sum_mono hF.pos (j + 1)
        have HSN := hid hsn
        rw [hsn] at sm1
        clear hsn c0
        generalize ws[j] = x at *
        generalize (ws.take j).sum = S at *
        have hw : IntKind.i64.wrap (S + x) = S + x := IntWalk.i64_in _ (by omega)
        go_wp2_with fail
        go_roundw
        case rel => exact ⟨j + 1, hlt, by rw [HSN.out], by go_num, hc0, hz, hb⟩
        case measure => simp [intOf]; omega
      · obtain rfl : j = ws.length := by omega
        go_wp2_with fail
        go_returns
        exact Pure.of (by rw [List.take_length]; rfl) hb
  · have hA : headAt hs h = (slNil, []) := by
      unfold headAt
      by_cases h0 : h < 0
      · rw [if_pos h0]
      · rw [if_neg h0, List.getElem?_eq_none (by omega)]; rfl
    rw [hA]
    clear hF H hA
    by_cases h0 : 0 ≤ h
    · have h1 : ¬ h < (hs.length : Int) := by omega
      go_enter Try.func26, Try.ntmps26
      go_wp2_with fail
      go_returns
      exact Pure.of rfl (by (repeat' (first | (with_reducible exact Below.refl _ _) | (with_reducible refine Below.ext_mk ?_ ?_ _ _) | (with_reducible refine Below.alloc ?_ ?_ _) | (with_reducible refine Below.drew ?_) | (with_reducible refine Below.setCell ?_ ?_ _) | go_size)))
    · go_enter Try.func26, Try.ntmps26
      go_wp2_with fail
      go_returns
      exact Pure.of rfl (by (repeat' (first | (with_reducible exact Below.refl _ _) | (with_reducible refine Below.ext_mk ?_ ?_ _ _) | (with_reducible refine Below.alloc ?_ ?_ _) | (with_reducible refine Below.drew ?_) | (with_reducible refine Below.setCell ?_ ?_ _) | go_size)))
end Go.Proofs.Ytkblldmpdihamaa
