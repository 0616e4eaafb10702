/-
  The document's headers (quillonref19): how many bits a header has; what programs may be.
-/
import Derived.Test.YtkblldmpdihamaaRefHC
set_option linter.unusedVariables false
set_option linter.unusedSimpArgs false
namespace Go.Proofs.Ytkblldmpdihamaa
open Go.RowKit

set_option maxRecDepth 100000 in
theorem rbits19_any {p : PG} {hs : List (SL × List Int)} {w : World} (H : HeadsAre w p.heads hs) (h : Int) (hF : Few (headAt hs h).2) :
    Calls Try.prog 26 #[p.v, .int .i64 h] w (Pure (.int .i64 (headAt hs h).2.sum) w) := by
  have hhl := H.len
  have hhm := H.row.2.1
  obtain ⟨⟨pa, pn, pc⟩, pm, s2, s3, s4, s5, em, n0, n1, n2, n3, n4⟩ := p
  simp only at hhl hhm
  subst hhl
  by_cases hin : 0 ≤ h ∧ h < (hs.length : Int)
  · obtain ⟨h0, h1⟩ := hin
    obtain ⟨k, rfl⟩ : ∃ k : Nat, h = (k : Int) := ⟨h.toNat, by omega⟩
    have hk : k < hs.length := by omega
    obtain ⟨pb, po, ep, zp, _, cp⟩ := H.row.one (i := k) (u := hs[k].1.v) (by simp [hk])
    simp only at ep
    subst ep
    have hA : headAt hs (k : Int) = hs[k] := by unfold headAt; rw [if_neg (by omega)]; simp [hk]
    rw [hA] at hF ⊢
    have A := H.each hs[k] (List.getElem_mem _)
    have hl := A.int
    have hm := A.2.1
    have HA := hid A
    clear A H hA
    generalize hs[k] = x at *
    obtain ⟨⟨sa, n, c⟩, ws⟩ := x
    simp only [SL.v_mk] at hl hF hm cp ⊢
    subst hl
    go_enter Try.func26, Try.ntmps26
    go_wp2_with fail
    go_loopw [5, 6] (fun y i wr => ∃ j : Nat, j ≤ ws.length ∧ y = .int .i64 (ws.take j).sum ∧ i = .int .i64 j ∧ wr.cell? ⟨w.heap.size, 0, none⟩ = some (.slice (some ⟨pb, po, none⟩) hs.length pc) ∧ w.heap.size < wr.heap.size ∧ Below w.heap.size w wr) (fun _ i _ => ws.length - (intOf i).toNat)
    case atStart => exact ⟨0, by omega, by simp, rfl, by go_simp, by simp, by (repeat' (first | (with_reducible exact Below.refl _ _) | (with_reducible refine Below.ext_mk ?_ ?_ _ _) | (with_reducible refine Below.alloc ?_ ?_ _) | (with_reducible refine Below.drew ?_) | (with_reducible refine Below.setCell ?_ ?_ _) | go_size))⟩
    case round =>
      obtain ⟨j, hj, rfl, rfl, hc0, hz, hb⟩ := hrel
      have hbs := hb.size
      have sm := sum_mono hF.pos j
      have s0 := hF.sum
      have vp := (hb.cell (p := ⟨pb, po + k, none⟩) zp).trans cp
      have zp' : pb < wr.heap.size := by omega
      by_cases hlt : j < ws.length
      · have hj1 : (j : Int) < (ws.length : Int) := by omega
        obtain ⟨b, off, e1, zb, c0⟩ := RdS.intAt HA.out hlt
        simp only at e1
        subst e1
        have d0 := (hb.cell (p := ⟨b, off + j, none⟩) zb).trans c0
        have zb' : b < wr.heap.size := by omega
        have hsn := sum_snoc ws hlt
        have sm1 := sum_mono hF.pos (j + 1)
        have HSN := hid hsn
        rw [hsn] at sm1
        clear hsn c0
        generalize ws[j] = x at *
        generalize (ws.take j).sum = S at *
        have hw : IntKind.i64.wrap (S + x) = S + x := IntWalk.i64_in _ (by omega)
        go_wp2_with fail
        go_roundw
        case rel => exact ⟨j + 1, hlt, by rw [HSN.out], by go_num, hc0, hz, hb⟩
        case measure => simp [intOf]; omega
      · obtain rfl : j = ws.length := by omega
        go_wp2_with fail
        go_returns
        exact Pure.of (by rw [List.take_length]; rfl) hb
  · have hA : headAt hs h = (slNil, []) := by
      unfold headAt
      by_cases h0 : h < 0
      · rw [if_pos h0]
      · rw [if_neg h0, List.getElem?_eq_none (by omega)]; rfl
    rw [hA]
    clear hF H hA
    by_cases h0 : 0 ≤ h
    · have h1 : ¬ h < (hs.length : Int) := by omega
      go_enter Try.func26, Try.ntmps26
      go_wp2_with fail
      go_returns
      exact Pure.of rfl (by (repeat' (first | (with_reducible exact Below.refl _ _) | (with_reducible refine Below.ext_mk ?_ ?_ _ _) | (with_reducible refine Below.alloc ?_ ?_ _) | (with_reducible refine Below.drew ?_) | (with_reducible refine Below.setCell ?_ ?_ _) | go_size)))
    · go_enter Try.func26, Try.ntmps26
      go_wp2_with fail
      go_returns
      exact Pure.of rfl (by (repeat' (first | (with_reducible exact Below.refl _ _) | (with_reducible refine Below.ext_mk ?_ ?_ _ _) | (with_reducible refine Below.alloc ?_ ?_ _) | (with_reducible refine Below.drew ?_) | (with_reducible refine Below.setCell ?_ ?_ _) | go_size)))
end Go.Proofs.Ytkblldmpdihamaa
