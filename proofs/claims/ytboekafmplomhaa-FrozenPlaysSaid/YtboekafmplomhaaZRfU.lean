/-
  The document's right: the walk.
-/
import Derived.Test.YtboekafmplomhaaZRfR
set_option linter.unusedVariables false
set_option linter.unusedSimpArgs false
namespace Go.Proofs.Ytboekafmplomhaa
open Go.RowKit

theorem eq_node_op (a : Act) (dst : Option Tmp) (t : TypeId) (x y : Operand) (pos : String) (after : Array Edge) (guard : Option (Nat × Bool)) (o : TypeId) {n m : Nd} (hx : a.eval x = kv n) (hy : a.eval y = kv m) (w : World) :
    (execOp a.eval { dst, op := .binOp .eql 39 x y o, type := t, pos, after, guard }).run Try.prog w = .ok (.value (.bool (decide (n = m)))) w := by
  have h1 : (eqGuard .eql 39 x y (kv n) (kv m)).run Try.prog w = .ok () w := by
    unfold eqGuard
    have hp : (program).run Try.prog w = .ok Try.prog w := rfl
    simp [go_sem, hp, guard_node]
  have h2 : (binOp .eql 39 (kv n) (kv m)).run Try.prog w = .ok (.bool (decide (n = m))) w := by
    have h := key_node.eq n m w
    simp [binOp, go_sem, h]
  unfold execOp
  simp only [hx, hy, Sem.run_bind, Sem.run_pure, Result.andThen_ok, h1, h2]
theorem all_take {ns : List Nd} {p : Nd → Bool} {i : Nat} (hi : i < ns.length) (h : (ns.take i).all p = true) (hx : p ns[i] = true) : (ns.take (i + 1)).all p = true := by
  rw [List.take_add_one, List.getElem?_eq_getElem hi, List.all_append, h]
  simpa using hx
theorem nodup_take {ns : List Nd} {i : Nat} (hi : i < ns.length) (h : (ns.take i).Nodup) (hx : ns[i] ∉ ns.take i) : (ns.take (i + 1)).Nodup := by
  rw [List.take_add_one, List.getElem?_eq_getElem hi]
  simp only [Option.toList_some]
  rw [List.nodup_append]
  refine ⟨h, by simp, fun a ha b hb => ?_⟩
  simp only [List.mem_cons, List.not_mem_nil, or_false] at hb
  subst hb
  intro e
  subst e
  exact hx ha
theorem right_bad {ns : List Nd} {i : Nat} (hi : i < ns.length) (h : nodeR ns ns[i] = false) : rightV ns = false := by
  unfold rightV
  rw [Bool.and_eq_false_iff]
  left
  rw [List.all_eq_false]
  exact ⟨ns[i], List.getElem_mem _, by rw [h]; simp⟩
theorem right_dup {ns : List Nd} {i : Nat} (hi : i < ns.length) (h : ns[i] ∈ ns.take i) : rightV ns = false := by
  unfold rightV
  rw [Bool.and_eq_false_iff]
  right
  exact decide_eq_false (not_nodup hi h)
set_option maxRecDepth 100000 in
set_option maxHeartbeats 16000000 in
theorem rright2_any {w : World} {sv : Value} {ns : List Nd} (h : Rd w 3 sv (flat ns)) (hin : InOk ns) (hk9 : ns.length ≤ 8388608) :
    Calls Try.prog 132 #[sv] w (Pure (.bool (rightV ns)) w) := by
  obtain ⟨la, lc, rfl, hlc, hlm⟩ := h.lenN
  obtain ⟨R, hR⟩ : ∃ R, R = rightV ns := ⟨_, rfl⟩
  rw [← hR]
  have HR := hid hR
  have H := hid h
  have HIN := hid hin
  clear h hR hin
  go_enter Try.func132, Try.ntmps132
  go_wp2_with fail
  go_loopw [3] (fun iv wr => ∃ i : Nat, i ≤ ns.length ∧ iv = .int .i64 i ∧ (ns.take i).all (nodeR ns) = true ∧ (ns.take i).Nodup ∧ Below w.heap.size w wr) (fun iv _ => ns.length - (intOf iv).toNat)
  case atStart => exact ⟨0, by omega, rfl, by simp, by simp, Below.refl _ _⟩
  case round =>
    obtain ⟨i, hil, rfl, hal, hnd, hb⟩ := hrel
    have HAL := hid (And.intro hal hnd)
    by_cases hi : i < ns.length
    · have hi1 : (i : Int) < (ns.length : Int) := by omega
      have hi0 : (0 : Int) ≤ (i : Int) := by omega
      have hx := List.getElem?_eq_getElem hi
      obtain ⟨v0, v64, lo0, lob, hi0', hib⟩ := HIN.out.ok i ns[i] hx
      obtain ⟨b, off, rfl, zb0, n0, n1, n2⟩ := (H.out.below hb).nodeAt hx
      obtain ⟨x, hxe⟩ : ∃ x, x = ns[i] := ⟨_, rfl⟩
      have HXI : Hid (ns[i] = x) := hid hxe.symm
      rw [← hxe] at v0 v64 lo0 lob hi0' hib n0 n1 n2
      clear hxe hx
      obtain ⟨x1, x2, x3⟩ := x
      simp only at v0 v64 lo0 lob hi0' hib n0 n1 n2
      have HB := hid hb
      clear hal hnd
      go_upto_region 5 with (fail)
      refine wp_gen (fun X hX => ?_)
      have hbX : Below wr.heap.size wr X := by rw [hX]; (repeat' (first | (with_reducible exact Below.refl _ _) | (with_reducible refine Below.ext_mk ?_ ?_ _ _) | (with_reducible refine Below.alloc ?_ ?_ _) | (with_reducible refine Below.drew ?_) | (with_reducible refine Below.setCell ?_ ?_ _) | go_size))
      have bN : Blk X wr.heap.size 39 [.int .i64 x1, .int .i64 x2, .int .i64 x3] := by rw [hX]; exact World.heap_alloc_last wr _
      have HBX := hid (HB.out.trans (hbX.mono HB.out.size))
      obtain ⟨nb, hnb⟩ : ∃ b, b = wr.heap.size := ⟨_, rfl⟩
      rw [← hnb] at bN ⊢
      clear hX hnb hbX zb0 n0 n1 n2 hb HB
      have c0 := bN.cell 0
      have c1 := bN.cell 1
      have c2 := bN.cell 2
      have zn := bN.lt
      simp only [List.getElem?_cons_zero, List.getElem?_cons_succ] at c0 c1 c2
      -- the parts' variables
      have part : ∀ a : Int, 0 ≤ a → a < (i : Int) + 2 → 1 < a → ∃ (j : Nat) (va : Int), a - 2 = (j : Int) ∧ j < ns.length ∧ topR ns a.toNat = va ∧ X.cell? ⟨b, off + j * 3, none⟩ = some (.int .i64 va) ∧ b < X.heap.size := fun a h0 h1 h2 => by
        have hj : (a - 2).toNat < ns.length := by omega
        obtain ⟨b', off', e', zb', y0, _, _⟩ := (H.out.below HBX.out).nodeAt (List.getElem?_eq_getElem hj)
        cases e'
        refine ⟨(a - 2).toNat, ns[(a - 2).toNat].1, by omega, hj, ?_, y0, zb'⟩
        unfold topR
        rw [if_neg (by omega), show a.toNat - 2 = (a - 2).toNat by omega, List.getElem?_eq_getElem hj]
        rfl
      have top1 : ∀ a : Int, 0 ≤ a → ¬ 1 < a → topR ns a.toNat = 64 := fun a h0 h1 => by unfold topR; rw [if_pos (by omega)]
      have hbad : ∀ P : Prop, (P → nodeR ns (x1, x2, x3) = false) → P → Hid (R = false) := fun P hp h => hid (by rw [HR.out]; exact right_bad hi (by rw [HXI.out]; exact hp h))
      have hok : x2 ≠ x3 → x1 < topR ns x2.toNat → x1 < topR ns x3.toNat → Hid (nodeR ns (x1, x2, x3) = true) := fun h1 h2 h3 => hid (by unfold nodeR; simp [h1, h2, h3])
      by_cases q1 : x2 = x3
      · have HRn := hbad (x2 = x3) (fun h => by unfold nodeR; simp [h]) q1
        subst q1
        have q1' : (x2 == x2) = true := by simp
        clear part top1 hbad hok
        refine wp_region_ext (by kernel_rfl) (by kernel_rfl) (fun F hF => ?_)
        have HF := hid hF; clear hF
        repeat (first
          | (apply text_skip; (focus rfl); simp only [Act.put, List.setIfInBounds_toArray, List.set_cons_zero, List.set_cons_succ])
          | (apply text_val; (focus rfl); (focus (intro _ _; exact load_struct_op _ _ _ _ _ _ _ _ Try.underlying39 (branchy_size _ _ _) rfl (bN.ext _ _))); simp only [Act.put, List.setIfInBounds_toArray, List.set_cons_zero, List.set_cons_succ])
          | (apply text_if; (focus (first | exact wanted_t rfl rfl | exact wanted_f rfl rfl | exact wanted_gt rfl rfl | exact wanted_gf rfl rfl)); (focus (intro hc _ _; exact load_struct_op _ _ _ _ _ _ _ _ Try.underlying39 (branchy_size _ _ _) rfl (bN.ext _ _))); simp only [Act.put, List.setIfInBounds_toArray, List.set_cons_zero, List.set_cons_succ])
          | (apply text_val; (focus rfl); (focus (intro _ _; go_simp; with_reducible rfl)); simp only [Act.put, List.setIfInBounds_toArray, List.set_cons_zero, List.set_cons_succ])
          | (apply text_if; (focus (first | exact wanted_t rfl rfl | exact wanted_f rfl rfl | exact wanted_gt rfl rfl | exact wanted_gf rfl rfl)); (focus (intro hc _ _; (try simp only [Bool.and_eq_true, Bool.not_eq_true', Bool.true_and] at hc); go_simp; with_reducible rfl)); simp only [Act.put, List.setIfInBounds_toArray, List.set_cons_zero, List.set_cons_succ]))
        refine text_nil (HF.out _ (fun mx dx => ?_))
        clear HF F
        go_wp2_with fail
        go_returns
        exact Pure.of (by rw [HRn.out]; rfl) (by have h := HBX.out; have hs := h.size; (repeat' (first | (with_reducible exact h) | (with_reducible exact Below.refl _ _) | (with_reducible refine Below.ext_mk ?_ ?_ _ _) | (with_reducible refine Below.alloc ?_ ?_ _) | (with_reducible refine Below.drew ?_) | (with_reducible refine Below.setCell ?_ ?_ _) | go_size)))
      · have q1' : (x2 == x3) = false := beq_eq_false_iff_ne.2 q1
        by_cases q2 : 1 < x2
        · obtain ⟨j, va, ja, jl, jt, jc, jz⟩ := part x2 lo0 lob q2
          have wj : IntKind.i64.wrap (x2 - 2) = (j : Int) := by rw [IntWalk.i64_in _ (by omega)]; exact ja
          have jl1 : (j : Int) < (ns.length : Int) := by omega
          by_cases q3 : va ≤ x1
          · have HRn := hbad (va ≤ x1) (fun h => by unfold nodeR; simp only [jt]; simp; intro _; omega) q3
            clear part top1 hbad hok ja jt
            refine wp_region_ext (by kernel_rfl) (by kernel_rfl) (fun F hF => ?_)
            have HF := hid hF; clear hF
            repeat (first
              | (apply text_skip; (focus rfl); simp only [Act.put, List.setIfInBounds_toArray, List.set_cons_zero, List.set_cons_succ])
              | (apply text_val; (focus rfl); (focus (intro _ _; exact load_struct_op _ _ _ _ _ _ _ _ Try.underlying39 (branchy_size _ _ _) rfl (bN.ext _ _))); simp only [Act.put, List.setIfInBounds_toArray, List.set_cons_zero, List.set_cons_succ])
              | (apply text_if; (focus (first | exact wanted_t rfl rfl | exact wanted_f rfl rfl | exact wanted_gt rfl rfl | exact wanted_gf rfl rfl)); (focus (intro hc _ _; exact load_struct_op _ _ _ _ _ _ _ _ Try.underlying39 (branchy_size _ _ _) rfl (bN.ext _ _))); simp only [Act.put, List.setIfInBounds_toArray, List.set_cons_zero, List.set_cons_succ])
              | (apply text_val; (focus rfl); (focus (intro _ _; go_simp; with_reducible rfl)); simp only [Act.put, List.setIfInBounds_toArray, List.set_cons_zero, List.set_cons_succ])
              | (apply text_if; (focus (first | exact wanted_t rfl rfl | exact wanted_f rfl rfl | exact wanted_gt rfl rfl | exact wanted_gf rfl rfl)); (focus (intro hc _ _; (try simp only [Bool.and_eq_true, Bool.not_eq_true', Bool.true_and] at hc); go_simp; with_reducible rfl)); simp only [Act.put, List.setIfInBounds_toArray, List.set_cons_zero, List.set_cons_succ]))
            refine text_nil (HF.out _ (fun mx dx => ?_))
            clear HF F
            go_wp2_with fail
            go_returns
            exact Pure.of (by rw [HRn.out]; rfl) (by have h := HBX.out; have hs := h.size; (repeat' (first | (with_reducible exact h) | (with_reducible exact Below.refl _ _) | (with_reducible refine Below.ext_mk ?_ ?_ _ _) | (with_reducible refine Below.alloc ?_ ?_ _) | (with_reducible refine Below.drew ?_) | (with_reducible refine Below.setCell ?_ ?_ _) | go_size)))
          · by_cases q4 : 1 < x3
            · obtain ⟨j', va', ja', jl', jt', jc', jz'⟩ := part x3 hi0' hib q4
              have wj' : IntKind.i64.wrap (x3 - 2) = (j' : Int) := by rw [IntWalk.i64_in _ (by omega)]; exact ja'
              have jl1' : (j' : Int) < (ns.length : Int) := by omega
              by_cases q5 : va' ≤ x1
              · have HRn := hbad (va' ≤ x1) (fun h => by unfold nodeR; simp only [jt']; simp; intro _ _; omega) q5
                clear part top1 hbad hok ja jt ja' jt'
                refine wp_region_ext (by kernel_rfl) (by kernel_rfl) (fun F hF => ?_)
                have HF := hid hF; clear hF
                repeat (first
                  | (apply text_skip; (focus rfl); simp only [Act.put, List.setIfInBounds_toArray, List.set_cons_zero, List.set_cons_succ])
                  | (apply text_val; (focus rfl); (focus (intro _ _; exact load_struct_op _ _ _ _ _ _ _ _ Try.underlying39 (branchy_size _ _ _) rfl (bN.ext _ _))); simp only [Act.put, List.setIfInBounds_toArray, List.set_cons_zero, List.set_cons_succ])
                  | (apply text_if; (focus (first | exact wanted_t rfl rfl | exact wanted_f rfl rfl | exact wanted_gt rfl rfl | exact wanted_gf rfl rfl)); (focus (intro hc _ _; exact load_struct_op _ _ _ _ _ _ _ _ Try.underlying39 (branchy_size _ _ _) rfl (bN.ext _ _))); simp only [Act.put, List.setIfInBounds_toArray, List.set_cons_zero, List.set_cons_succ])
                  | (apply text_val; (focus rfl); (focus (intro _ _; go_simp; with_reducible rfl)); simp only [Act.put, List.setIfInBounds_toArray, List.set_cons_zero, List.set_cons_succ])
                  | (apply text_if; (focus (first | exact wanted_t rfl rfl | exact wanted_f rfl rfl | exact wanted_gt rfl rfl | exact wanted_gf rfl rfl)); (focus (intro hc _ _; (try simp only [Bool.and_eq_true, Bool.not_eq_true', Bool.true_and] at hc); go_simp; with_reducible rfl)); simp only [Act.put, List.setIfInBounds_toArray, List.set_cons_zero, List.set_cons_succ]))
                refine text_nil (HF.out _ (fun mx dx => ?_))
                clear HF F
                go_wp2_with fail
                go_returns
                exact Pure.of (by rw [HRn.out]; rfl) (by have h := HBX.out; have hs := h.size; (repeat' (first | (with_reducible exact h) | (with_reducible exact Below.refl _ _) | (with_reducible refine Below.ext_mk ?_ ?_ _ _) | (with_reducible refine Below.alloc ?_ ?_ _) | (with_reducible refine Below.drew ?_) | (with_reducible refine Below.setCell ?_ ?_ _) | go_size)))
              · have HND := hok q1 (by omega) (by omega)
                clear part top1 hbad hok ja jt ja' jt'
                refine wp_region_ext (by kernel_rfl) (by kernel_rfl) (fun F hF => ?_)
                have HF := hid hF; clear hF
                repeat (first
                  | (apply text_skip; (focus rfl); simp only [Act.put, List.setIfInBounds_toArray, List.set_cons_zero, List.set_cons_succ])
                  | (apply text_val; (focus rfl); (focus (intro _ _; exact load_struct_op _ _ _ _ _ _ _ _ Try.underlying39 (branchy_size _ _ _) rfl (bN.ext _ _))); simp only [Act.put, List.setIfInBounds_toArray, List.set_cons_zero, List.set_cons_succ])
                  | (apply text_if; (focus (first | exact wanted_t rfl rfl | exact wanted_f rfl rfl | exact wanted_gt rfl rfl | exact wanted_gf rfl rfl)); (focus (intro hc _ _; exact load_struct_op _ _ _ _ _ _ _ _ Try.underlying39 (branchy_size _ _ _) rfl (bN.ext _ _))); simp only [Act.put, List.setIfInBounds_toArray, List.set_cons_zero, List.set_cons_succ])
                  | (apply text_val; (focus rfl); (focus (intro _ _; go_simp; with_reducible rfl)); simp only [Act.put, List.setIfInBounds_toArray, List.set_cons_zero, List.set_cons_succ])
                  | (apply text_if; (focus (first | exact wanted_t rfl rfl | exact wanted_f rfl rfl | exact wanted_gt rfl rfl | exact wanted_gf rfl rfl)); (focus (intro hc _ _; (try simp only [Bool.and_eq_true, Bool.not_eq_true', Bool.true_and] at hc); go_simp; with_reducible rfl)); simp only [Act.put, List.setIfInBounds_toArray, List.set_cons_zero, List.set_cons_succ]))
                refine text_nil (HF.out _ (fun mx dx => ?_))
                clear HF F
                have hXx : Below X.heap.size X (X.ext mx dx) := by (repeat' (first | (with_reducible exact Below.refl _ _) | (with_reducible refine Below.ext_mk ?_ ?_ _ _) | (with_reducible refine Below.alloc ?_ ?_ _) | (with_reducible refine Below.drew ?_) | (with_reducible refine Below.setCell ?_ ?_ _) | go_size))
                have BXx := hid hXx
                clear hXx
                go_wp2_with fail
                go_loopw [5] (fun kv wz => ∃ k : Nat, k ≤ i ∧ kv = .int .i64 k ∧ (x1, x2, x3) ∉ ns.take k ∧ Below X.heap.size X wz) (fun kv _ => i - (intOf kv).toNat)
                case atStart => exact ⟨0, by omega, rfl, by simp, BXx.out⟩
                case round =>
                  obtain ⟨k, hk, rfl, hnin, hbz⟩ := hrel
                  have HBz := hid (HBX.out.trans (hbz.mono HBX.out.size))
                  by_cases hki : k < i
                  · have hki1 : (k : Int) < (i : Int) := by omega
                    have hk0 : (0 : Int) ≤ (k : Int) := by omega
                    have hkl : k < ns.length := by omega
                    have hkl1 : (k : Int) < (ns.length : Int) := by omega
                    have hy := List.getElem?_eq_getElem hkl
                    obtain ⟨b', off', e', zb', y0, y1, y2⟩ := (H.out.below HBz.out).nodeAt hy
                    cases e'
                    have bNz := bN.below hbz
                    have htk : ns.take (k + 1) = ns.take k ++ [ns[k]] := by rw [List.take_add_one, hy]; rfl
                    have hmem : ns[k] ∈ ns.take i := List.mem_take_iff_getElem.2 ⟨k, by omega, rfl⟩
                    generalize ns[k] = yy at *
                    obtain ⟨u1, u2, u3⟩ := yy
                    simp only at y0 y1 y2
                    have NQ := fun (a : Act) (dst : Option Tmp) (t : TypeId) (o1 o2 : Operand) (pos : String) (after : Array Edge) (guard : Option (Nat × Bool)) (o : TypeId) (hx : a.eval o1 = kv (u1, u2, u3)) (hy : a.eval o2 = kv (x1, x2, x3)) (w : World) => eq_node_op a dst t o1 o2 pos after guard o hx hy w
                    by_cases hxy : (u1, u2, u3) = (x1, x2, x3)
                    · rw [decide_eq_true hxy] at NQ
                      have HRn : Hid (R = false) := hid (by rw [HR.out]; exact right_dup hi (by rw [HXI.out, ← hxy]; exact hmem))
                      clear hxy hmem htk hnin hy
                      go_upto_region 10 with (fail)
                      refine wp_region_ext (by kernel_rfl) (by kernel_rfl) (fun F hF => ?_)
                      have HF := hid hF; clear hF
                      repeat (first
                        | (apply text_skip; (focus rfl); simp only [Act.put, List.setIfInBounds_toArray, List.set_cons_zero, List.set_cons_succ])
                        | (apply text_val; (focus rfl); (focus (intro _ _; exact load_struct_op _ _ _ _ _ _ _ _ Try.underlying39 (branchy_size _ _ _) rfl (bNz.ext _ _))); simp only [Act.put, List.setIfInBounds_toArray, List.set_cons_zero, List.set_cons_succ])
                        | (apply text_val; (focus rfl); (focus (intro _ _; exact NQ _ _ _ _ _ _ _ _ _ rfl rfl _)); simp only [Act.put, List.setIfInBounds_toArray, List.set_cons_zero, List.set_cons_succ])
                        | (apply text_if; (focus (first | exact wanted_t rfl rfl | exact wanted_f rfl rfl | exact wanted_gt rfl rfl | exact wanted_gf rfl rfl)); (focus (intro hc _ _; exact load_struct_op _ _ _ _ _ _ _ _ Try.underlying39 (branchy_size _ _ _) rfl (bNz.ext _ _))); simp only [Act.put, List.setIfInBounds_toArray, List.set_cons_zero, List.set_cons_succ])
                        | (apply text_if; (focus (first | exact wanted_t rfl rfl | exact wanted_f rfl rfl | exact wanted_gt rfl rfl | exact wanted_gf rfl rfl)); (focus (intro hc _ _; exact NQ _ _ _ _ _ _ _ _ _ rfl rfl _)); simp only [Act.put, List.setIfInBounds_toArray, List.set_cons_zero, List.set_cons_succ])
                        | (apply text_val; (focus rfl); (focus (intro _ _; go_simp; with_reducible rfl)); simp only [Act.put, List.setIfInBounds_toArray, List.set_cons_zero, List.set_cons_succ])
                        | (apply text_if; (focus (first | exact wanted_t rfl rfl | exact wanted_f rfl rfl | exact wanted_gt rfl rfl | exact wanted_gf rfl rfl)); (focus (intro hc _ _; (try simp only [Bool.and_eq_true, Bool.not_eq_true', Bool.true_and] at hc); go_simp; with_reducible rfl)); simp only [Act.put, List.setIfInBounds_toArray, List.set_cons_zero, List.set_cons_succ]))
                      refine text_nil (HF.out _ (fun mx dx => ?_))
                      clear HF F
                      clear NQ
                      go_wp2_with fail
                      go_returns
                      exact Pure.of (by rw [HRn.out]; rfl) (by have h := HBz.out; have hs := h.size; (repeat' (first | (with_reducible exact h) | (with_reducible exact Below.refl _ _) | (with_reducible refine Below.ext_mk ?_ ?_ _ _) | (with_reducible refine Below.alloc ?_ ?_ _) | (with_reducible refine Below.drew ?_) | (with_reducible refine Below.setCell ?_ ?_ _) | go_size)))
                    · rw [decide_eq_false hxy] at NQ
                      have HN : Hid ((x1, x2, x3) ∉ ns.take (k + 1)) := hid (by
                        rw [htk]
                        simp only [List.mem_append, List.mem_cons, List.not_mem_nil, or_false, not_or]
                        exact ⟨hnin, fun e => hxy e.symm⟩)
                      have HBk := hid hbz
                      clear hxy hmem htk hnin hy
                      go_upto_region 10 with (fail)
                      refine wp_region_ext (by kernel_rfl) (by kernel_rfl) (fun F hF => ?_)
                      have HF := hid hF; clear hF
                      repeat (first
                        | (apply text_skip; (focus rfl); simp only [Act.put, List.setIfInBounds_toArray, List.set_cons_zero, List.set_cons_succ])
                        | (apply text_val; (focus rfl); (focus (intro _ _; exact load_struct_op _ _ _ _ _ _ _ _ Try.underlying39 (branchy_size _ _ _) rfl (bNz.ext _ _))); simp only [Act.put, List.setIfInBounds_toArray, List.set_cons_zero, List.set_cons_succ])
                        | (apply text_val; (focus rfl); (focus (intro _ _; exact NQ _ _ _ _ _ _ _ _ _ rfl rfl _)); simp only [Act.put, List.setIfInBounds_toArray, List.set_cons_zero, List.set_cons_succ])
                        | (apply text_if; (focus (first | exact wanted_t rfl rfl | exact wanted_f rfl rfl | exact wanted_gt rfl rfl | exact wanted_gf rfl rfl)); (focus (intro hc _ _; exact load_struct_op _ _ _ _ _ _ _ _ Try.underlying39 (branchy_size _ _ _) rfl (bNz.ext _ _))); simp only [Act.put, List.setIfInBounds_toArray, List.set_cons_zero, List.set_cons_succ])
                        | (apply text_if; (focus (first | exact wanted_t rfl rfl | exact wanted_f rfl rfl | exact wanted_gt rfl rfl | exact wanted_gf rfl rfl)); (focus (intro hc _ _; exact NQ _ _ _ _ _ _ _ _ _ rfl rfl _)); simp only [Act.put, List.setIfInBounds_toArray, List.set_cons_zero, List.set_cons_succ])
                        | (apply text_val; (focus rfl); (focus (intro _ _; go_simp; with_reducible rfl)); simp only [Act.put, List.setIfInBounds_toArray, List.set_cons_zero, List.set_cons_succ])
                        | (apply text_if; (focus (first | exact wanted_t rfl rfl | exact wanted_f rfl rfl | exact wanted_gt rfl rfl | exact wanted_gf rfl rfl)); (focus (intro hc _ _; (try simp only [Bool.and_eq_true, Bool.not_eq_true', Bool.true_and] at hc); go_simp; with_reducible rfl)); simp only [Act.put, List.setIfInBounds_toArray, List.set_cons_zero, List.set_cons_succ]))
                      refine text_nil (HF.out _ (fun mx dx => ?_))
                      clear HF F
                      clear NQ
                      go_wp2_with fail
                      go_roundw
                      case rel => exact ⟨k + 1, by omega, by go_num, HN.out, by have h := HBk.out; have hs := h.size; (repeat' (first | (with_reducible exact h) | (with_reducible exact Below.refl _ _) | (with_reducible refine Below.ext_mk ?_ ?_ _ _) | (with_reducible refine Below.alloc ?_ ?_ _) | (with_reducible refine Below.drew ?_) | (with_reducible refine Below.setCell ?_ ?_ _) | go_size))⟩
                      case measure => simp [intOf]; omega
                  · obtain rfl : k = i := by omega
                    have HFin := hid (And.intro (all_take hi HAL.out.1 (by rw [HXI.out]; exact HND.out)) (nodup_take hi HAL.out.2 (by rw [HXI.out]; exact hnin)))
                    clear hnin hbz
                    go_wp2_with fail
                    go_roundw
                    case rel => exact ⟨k + 1, by omega, by go_num, HFin.out.1, HFin.out.2, HBz.out⟩
                    case measure => simp [intOf]; omega
            · have HND := hok q1 (by omega) (by rw [top1 x3 hi0' q4]; omega)
              clear part top1 hbad hok ja jt
              refine wp_region_ext (by kernel_rfl) (by kernel_rfl) (fun F hF => ?_)
              have HF := hid hF; clear hF
              repeat (first
                | (apply text_skip; (focus rfl); simp only [Act.put, List.setIfInBounds_toArray, List.set_cons_zero, List.set_cons_succ])
                | (apply text_val; (focus rfl); (focus (intro _ _; exact load_struct_op _ _ _ _ _ _ _ _ Try.underlying39 (branchy_size _ _ _) rfl (bN.ext _ _))); simp only [Act.put, List.setIfInBounds_toArray, List.set_cons_zero, List.set_cons_succ])
                | (apply text_if; (focus (first | exact wanted_t rfl rfl | exact wanted_f rfl rfl | exact wanted_gt rfl rfl | exact wanted_gf rfl rfl)); (focus (intro hc _ _; exact load_struct_op _ _ _ _ _ _ _ _ Try.underlying39 (branchy_size _ _ _) rfl (bN.ext _ _))); simp only [Act.put, List.setIfInBounds_toArray, List.set_cons_zero, List.set_cons_succ])
                | (apply text_val; (focus rfl); (focus (intro _ _; go_simp; with_reducible rfl)); simp only [Act.put, List.setIfInBounds_toArray, List.set_cons_zero, List.set_cons_succ])
                | (apply text_if; (focus (first | exact wanted_t rfl rfl | exact wanted_f rfl rfl | exact wanted_gt rfl rfl | exact wanted_gf rfl rfl)); (focus (intro hc _ _; (try simp only [Bool.and_eq_true, Bool.not_eq_true', Bool.true_and] at hc); go_simp; with_reducible rfl)); simp only [Act.put, List.setIfInBounds_toArray, List.set_cons_zero, List.set_cons_succ]))
              refine text_nil (HF.out _ (fun mx dx => ?_))
              clear HF F
              have hXx : Below X.heap.size X (X.ext mx dx) := by (repeat' (first | (with_reducible exact Below.refl _ _) | (with_reducible refine Below.ext_mk ?_ ?_ _ _) | (with_reducible refine Below.alloc ?_ ?_ _) | (with_reducible refine Below.drew ?_) | (with_reducible refine Below.setCell ?_ ?_ _) | go_size))
              have BXx := hid hXx
              clear hXx
              go_wp2_with fail
              go_loopw [5] (fun kv wz => ∃ k : Nat, k ≤ i ∧ kv = .int .i64 k ∧ (x1, x2, x3) ∉ ns.take k ∧ Below X.heap.size X wz) (fun kv _ => i - (intOf kv).toNat)
              case atStart => exact ⟨0, by omega, rfl, by simp, BXx.out⟩
              case round =>
                obtain ⟨k, hk, rfl, hnin, hbz⟩ := hrel
                have HBz := hid (HBX.out.trans (hbz.mono HBX.out.size))
                by_cases hki : k < i
                · have hki1 : (k : Int) < (i : Int) := by omega
                  have hk0 : (0 : Int) ≤ (k : Int) := by omega
                  have hkl : k < ns.length := by omega
                  have hkl1 : (k : Int) < (ns.length : Int) := by omega
                  have hy := List.getElem?_eq_getElem hkl
                  obtain ⟨b', off', e', zb', y0, y1, y2⟩ := (H.out.below HBz.out).nodeAt hy
                  cases e'
                  have bNz := bN.below hbz
                  have htk : ns.take (k + 1) = ns.take k ++ [ns[k]] := by rw [List.take_add_one, hy]; rfl
                  have hmem : ns[k] ∈ ns.take i := List.mem_take_iff_getElem.2 ⟨k, by omega, rfl⟩
                  generalize ns[k] = yy at *
                  obtain ⟨u1, u2, u3⟩ := yy
                  simp only at y0 y1 y2
                  have NQ := fun (a : Act) (dst : Option Tmp) (t : TypeId) (o1 o2 : Operand) (pos : String) (after : Array Edge) (guard : Option (Nat × Bool)) (o : TypeId) (hx : a.eval o1 = kv (u1, u2, u3)) (hy : a.eval o2 = kv (x1, x2, x3)) (w : World) => eq_node_op a dst t o1 o2 pos after guard o hx hy w
                  by_cases hxy : (u1, u2, u3) = (x1, x2, x3)
                  · rw [decide_eq_true hxy] at NQ
                    have HRn : Hid (R = false) := hid (by rw [HR.out]; exact right_dup hi (by rw [HXI.out, ← hxy]; exact hmem))
                    clear hxy hmem htk hnin hy
                    go_upto_region 10 with (fail)
                    refine wp_region_ext (by kernel_rfl) (by kernel_rfl) (fun F hF => ?_)
                    have HF := hid hF; clear hF
                    repeat (first
                      | (apply text_skip; (focus rfl); simp only [Act.put, List.setIfInBounds_toArray, List.set_cons_zero, List.set_cons_succ])
                      | (apply text_val; (focus rfl); (focus (intro _ _; exact load_struct_op _ _ _ _ _ _ _ _ Try.underlying39 (branchy_size _ _ _) rfl (bNz.ext _ _))); simp only [Act.put, List.setIfInBounds_toArray, List.set_cons_zero, List.set_cons_succ])
                      | (apply text_val; (focus rfl); (focus (intro _ _; exact NQ _ _ _ _ _ _ _ _ _ rfl rfl _)); simp only [Act.put, List.setIfInBounds_toArray, List.set_cons_zero, List.set_cons_succ])
                      | (apply text_if; (focus (first | exact wanted_t rfl rfl | exact wanted_f rfl rfl | exact wanted_gt rfl rfl | exact wanted_gf rfl rfl)); (focus (intro hc _ _; exact load_struct_op _ _ _ _ _ _ _ _ Try.underlying39 (branchy_size _ _ _) rfl (bNz.ext _ _))); simp only [Act.put, List.setIfInBounds_toArray, List.set_cons_zero, List.set_cons_succ])
                      | (apply text_if; (focus (first | exact wanted_t rfl rfl | exact wanted_f rfl rfl | exact wanted_gt rfl rfl | exact wanted_gf rfl rfl)); (focus (intro hc _ _; exact NQ _ _ _ _ _ _ _ _ _ rfl rfl _)); simp only [Act.put, List.setIfInBounds_toArray, List.set_cons_zero, List.set_cons_succ])
                      | (apply text_val; (focus rfl); (focus (intro _ _; go_simp; with_reducible rfl)); simp only [Act.put, List.setIfInBounds_toArray, List.set_cons_zero, List.set_cons_succ])
                      | (apply text_if; (focus (first | exact wanted_t rfl rfl | exact wanted_f rfl rfl | exact wanted_gt rfl rfl | exact wanted_gf rfl rfl)); (focus (intro hc _ _; (try simp only [Bool.and_eq_true, Bool.not_eq_true', Bool.true_and] at hc); go_simp; with_reducible rfl)); simp only [Act.put, List.setIfInBounds_toArray, List.set_cons_zero, List.set_cons_succ]))
                    refine text_nil (HF.out _ (fun mx dx => ?_))
                    clear HF F
                    clear NQ
                    go_wp2_with fail
                    go_returns
                    exact Pure.of (by rw [HRn.out]; rfl) (by have h := HBz.out; have hs := h.size; (repeat' (first | (with_reducible exact h) | (with_reducible exact Below.refl _ _) | (with_reducible refine Below.ext_mk ?_ ?_ _ _) | (with_reducible refine Below.alloc ?_ ?_ _) | (with_reducible refine Below.drew ?_) | (with_reducible refine Below.setCell ?_ ?_ _) | go_size)))
                  · rw [decide_eq_false hxy] at NQ
                    have HN : Hid ((x1, x2, x3) ∉ ns.take (k + 1)) := hid (by
                      rw [htk]
                      simp only [List.mem_append, List.mem_cons, List.not_mem_nil, or_false, not_or]
                      exact ⟨hnin, fun e => hxy e.symm⟩)
                    have HBk := hid hbz
                    clear hxy hmem htk hnin hy
                    go_upto_region 10 with (fail)
                    refine wp_region_ext (by kernel_rfl) (by kernel_rfl) (fun F hF => ?_)
                    have HF := hid hF; clear hF
                    repeat (first
                      | (apply text_skip; (focus rfl); simp only [Act.put, List.setIfInBounds_toArray, List.set_cons_zero, List.set_cons_succ])
                      | (apply text_val; (focus rfl); (focus (intro _ _; exact load_struct_op _ _ _ _ _ _ _ _ Try.underlying39 (branchy_size _ _ _) rfl (bNz.ext _ _))); simp only [Act.put, List.setIfInBounds_toArray, List.set_cons_zero, List.set_cons_succ])
                      | (apply text_val; (focus rfl); (focus (intro _ _; exact NQ _ _ _ _ _ _ _ _ _ rfl rfl _)); simp only [Act.put, List.setIfInBounds_toArray, List.set_cons_zero, List.set_cons_succ])
                      | (apply text_if; (focus (first | exact wanted_t rfl rfl | exact wanted_f rfl rfl | exact wanted_gt rfl rfl | exact wanted_gf rfl rfl)); (focus (intro hc _ _; exact load_struct_op _ _ _ _ _ _ _ _ Try.underlying39 (branchy_size _ _ _) rfl (bNz.ext _ _))); simp only [Act.put, List.setIfInBounds_toArray, List.set_cons_zero, List.set_cons_succ])
                      | (apply text_if; (focus (first | exact wanted_t rfl rfl | exact wanted_f rfl rfl | exact wanted_gt rfl rfl | exact wanted_gf rfl rfl)); (focus (intro hc _ _; exact NQ _ _ _ _ _ _ _ _ _ rfl rfl _)); simp only [Act.put, List.setIfInBounds_toArray, List.set_cons_zero, List.set_cons_succ])
                      | (apply text_val; (focus rfl); (focus (intro _ _; go_simp; with_reducible rfl)); simp only [Act.put, List.setIfInBounds_toArray, List.set_cons_zero, List.set_cons_succ])
                      | (apply text_if; (focus (first | exact wanted_t rfl rfl | exact wanted_f rfl rfl | exact wanted_gt rfl rfl | exact wanted_gf rfl rfl)); (focus (intro hc _ _; (try simp only [Bool.and_eq_true, Bool.not_eq_true', Bool.true_and] at hc); go_simp; with_reducible rfl)); simp only [Act.put, List.setIfInBounds_toArray, List.set_cons_zero, List.set_cons_succ]))
                    refine text_nil (HF.out _ (fun mx dx => ?_))
                    clear HF F
                    clear NQ
                    go_wp2_with fail
                    go_roundw
                    case rel => exact ⟨k + 1, by omega, by go_num, HN.out, by have h := HBk.out; have hs := h.size; (repeat' (first | (with_reducible exact h) | (with_reducible exact Below.refl _ _) | (with_reducible refine Below.ext_mk ?_ ?_ _ _) | (with_reducible refine Below.alloc ?_ ?_ _) | (with_reducible refine Below.drew ?_) | (with_reducible refine Below.setCell ?_ ?_ _) | go_size))⟩
                    case measure => simp [intOf]; omega
                · obtain rfl : k = i := by omega
                  have HFin := hid (And.intro (all_take hi HAL.out.1 (by rw [HXI.out]; exact HND.out)) (nodup_take hi HAL.out.2 (by rw [HXI.out]; exact hnin)))
                  clear hnin hbz
                  go_wp2_with fail
                  go_roundw
                  case rel => exact ⟨k + 1, by omega, by go_num, HFin.out.1, HFin.out.2, HBz.out⟩
                  case measure => simp [intOf]; omega
        · by_cases q4 : 1 < x3
          · obtain ⟨j', va', ja', jl', jt', jc', jz'⟩ := part x3 hi0' hib q4
            have wj' : IntKind.i64.wrap (x3 - 2) = (j' : Int) := by rw [IntWalk.i64_in _ (by omega)]; exact ja'
            have jl1' : (j' : Int) < (ns.length : Int) := by omega
            by_cases q5 : va' ≤ x1
            · have HRn := hbad (va' ≤ x1) (fun h => by unfold nodeR; simp only [jt']; simp; intro _ _; omega) q5
              clear part top1 hbad hok ja' jt'
              refine wp_region_ext (by kernel_rfl) (by kernel_rfl) (fun F hF => ?_)
              have HF := hid hF; clear hF
              repeat (first
                | (apply text_skip; (focus rfl); simp only [Act.put, List.setIfInBounds_toArray, List.set_cons_zero, List.set_cons_succ])
                | (apply text_val; (focus rfl); (focus (intro _ _; exact load_struct_op _ _ _ _ _ _ _ _ Try.underlying39 (branchy_size _ _ _) rfl (bN.ext _ _))); simp only [Act.put, List.setIfInBounds_toArray, List.set_cons_zero, List.set_cons_succ])
                | (apply text_if; (focus (first | exact wanted_t rfl rfl | exact wanted_f rfl rfl | exact wanted_gt rfl rfl | exact wanted_gf rfl rfl)); (focus (intro hc _ _; exact load_struct_op _ _ _ _ _ _ _ _ Try.underlying39 (branchy_size _ _ _) rfl (bN.ext _ _))); simp only [Act.put, List.setIfInBounds_toArray, List.set_cons_zero, List.set_cons_succ])
                | (apply text_val; (focus rfl); (focus (intro _ _; go_simp; with_reducible rfl)); simp only [Act.put, List.setIfInBounds_toArray, List.set_cons_zero, List.set_cons_succ])
                | (apply text_if; (focus (first | exact wanted_t rfl rfl | exact wanted_f rfl rfl | exact wanted_gt rfl rfl | exact wanted_gf rfl rfl)); (focus (intro hc _ _; (try simp only [Bool.and_eq_true, Bool.not_eq_true', Bool.true_and] at hc); go_simp; with_reducible rfl)); simp only [Act.put, List.setIfInBounds_toArray, List.set_cons_zero, List.set_cons_succ]))
              refine text_nil (HF.out _ (fun mx dx => ?_))
              clear HF F
              go_wp2_with fail
              go_returns
              exact Pure.of (by rw [HRn.out]; rfl) (by have h := HBX.out; have hs := h.size; (repeat' (first | (with_reducible exact h) | (with_reducible exact Below.refl _ _) | (with_reducible refine Below.ext_mk ?_ ?_ _ _) | (with_reducible refine Below.alloc ?_ ?_ _) | (with_reducible refine Below.drew ?_) | (with_reducible refine Below.setCell ?_ ?_ _) | go_size)))
            · have HND := hok q1 (by rw [top1 x2 lo0 q2]; omega) (by omega)
              clear part top1 hbad hok ja' jt'
              refine wp_region_ext (by kernel_rfl) (by kernel_rfl) (fun F hF => ?_)
              have HF := hid hF; clear hF
              repeat (first
                | (apply text_skip; (focus rfl); simp only [Act.put, List.setIfInBounds_toArray, List.set_cons_zero, List.set_cons_succ])
                | (apply text_val; (focus rfl); (focus (intro _ _; exact load_struct_op _ _ _ _ _ _ _ _ Try.underlying39 (branchy_size _ _ _) rfl (bN.ext _ _))); simp only [Act.put, List.setIfInBounds_toArray, List.set_cons_zero, List.set_cons_succ])
                | (apply text_if; (focus (first | exact wanted_t rfl rfl | exact wanted_f rfl rfl | exact wanted_gt rfl rfl | exact wanted_gf rfl rfl)); (focus (intro hc _ _; exact load_struct_op _ _ _ _ _ _ _ _ Try.underlying39 (branchy_size _ _ _) rfl (bN.ext _ _))); simp only [Act.put, List.setIfInBounds_toArray, List.set_cons_zero, List.set_cons_succ])
                | (apply text_val; (focus rfl); (focus (intro _ _; go_simp; with_reducible rfl)); simp only [Act.put, List.setIfInBounds_toArray, List.set_cons_zero, List.set_cons_succ])
                | (apply text_if; (focus (first | exact wanted_t rfl rfl | exact wanted_f rfl rfl | exact wanted_gt rfl rfl | exact wanted_gf rfl rfl)); (focus (intro hc _ _; (try simp only [Bool.and_eq_true, Bool.not_eq_true', Bool.true_and] at hc); go_simp; with_reducible rfl)); simp only [Act.put, List.setIfInBounds_toArray, List.set_cons_zero, List.set_cons_succ]))
              refine text_nil (HF.out _ (fun mx dx => ?_))
              clear HF F
              have hXx : Below X.heap.size X (X.ext mx dx) := by (repeat' (first | (with_reducible exact Below.refl _ _) | (with_reducible refine Below.ext_mk ?_ ?_ _ _) | (with_reducible refine Below.alloc ?_ ?_ _) | (with_reducible refine Below.drew ?_) | (with_reducible refine Below.setCell ?_ ?_ _) | go_size))
              have BXx := hid hXx
              clear hXx
              go_wp2_with fail
              go_loopw [5] (fun kv wz => ∃ k : Nat, k ≤ i ∧ kv = .int .i64 k ∧ (x1, x2, x3) ∉ ns.take k ∧ Below X.heap.size X wz) (fun kv _ => i - (intOf kv).toNat)
              case atStart => exact ⟨0, by omega, rfl, by simp, BXx.out⟩
              case round =>
                obtain ⟨k, hk, rfl, hnin, hbz⟩ := hrel
                have HBz := hid (HBX.out.trans (hbz.mono HBX.out.size))
                by_cases hki : k < i
                · have hki1 : (k : Int) < (i : Int) := by omega
                  have hk0 : (0 : Int) ≤ (k : Int) := by omega
                  have hkl : k < ns.length := by omega
                  have hkl1 : (k : Int) < (ns.length : Int) := by omega
                  have hy := List.getElem?_eq_getElem hkl
                  obtain ⟨b', off', e', zb', y0, y1, y2⟩ := (H.out.below HBz.out).nodeAt hy
                  cases e'
                  have bNz := bN.below hbz
                  have htk : ns.take (k + 1) = ns.take k ++ [ns[k]] := by rw [List.take_add_one, hy]; rfl
                  have hmem : ns[k] ∈ ns.take i := List.mem_take_iff_getElem.2 ⟨k, by omega, rfl⟩
                  generalize ns[k] = yy at *
                  obtain ⟨u1, u2, u3⟩ := yy
                  simp only at y0 y1 y2
                  have NQ := fun (a : Act) (dst : Option Tmp) (t : TypeId) (o1 o2 : Operand) (pos : String) (after : Array Edge) (guard : Option (Nat × Bool)) (o : TypeId) (hx : a.eval o1 = kv (u1, u2, u3)) (hy : a.eval o2 = kv (x1, x2, x3)) (w : World) => eq_node_op a dst t o1 o2 pos after guard o hx hy w
                  by_cases hxy : (u1, u2, u3) = (x1, x2, x3)
                  · rw [decide_eq_true hxy] at NQ
                    have HRn : Hid (R = false) := hid (by rw [HR.out]; exact right_dup hi (by rw [HXI.out, ← hxy]; exact hmem))
                    clear hxy hmem htk hnin hy
                    go_upto_region 10 with (fail)
                    refine wp_region_ext (by kernel_rfl) (by kernel_rfl) (fun F hF => ?_)
                    have HF := hid hF; clear hF
                    repeat (first
                      | (apply text_skip; (focus rfl); simp only [Act.put, List.setIfInBounds_toArray, List.set_cons_zero, List.set_cons_succ])
                      | (apply text_val; (focus rfl); (focus (intro _ _; exact load_struct_op _ _ _ _ _ _ _ _ Try.underlying39 (branchy_size _ _ _) rfl (bNz.ext _ _))); simp only [Act.put, List.setIfInBounds_toArray, List.set_cons_zero, List.set_cons_succ])
                      | (apply text_val; (focus rfl); (focus (intro _ _; exact NQ _ _ _ _ _ _ _ _ _ rfl rfl _)); simp only [Act.put, List.setIfInBounds_toArray, List.set_cons_zero, List.set_cons_succ])
                      | (apply text_if; (focus (first | exact wanted_t rfl rfl | exact wanted_f rfl rfl | exact wanted_gt rfl rfl | exact wanted_gf rfl rfl)); (focus (intro hc _ _; exact load_struct_op _ _ _ _ _ _ _ _ Try.underlying39 (branchy_size _ _ _) rfl (bNz.ext _ _))); simp only [Act.put, List.setIfInBounds_toArray, List.set_cons_zero, List.set_cons_succ])
                      | (apply text_if; (focus (first | exact wanted_t rfl rfl | exact wanted_f rfl rfl | exact wanted_gt rfl rfl | exact wanted_gf rfl rfl)); (focus (intro hc _ _; exact NQ _ _ _ _ _ _ _ _ _ rfl rfl _)); simp only [Act.put, List.setIfInBounds_toArray, List.set_cons_zero, List.set_cons_succ])
                      | (apply text_val; (focus rfl); (focus (intro _ _; go_simp; with_reducible rfl)); simp only [Act.put, List.setIfInBounds_toArray, List.set_cons_zero, List.set_cons_succ])
                      | (apply text_if; (focus (first | exact wanted_t rfl rfl | exact wanted_f rfl rfl | exact wanted_gt rfl rfl | exact wanted_gf rfl rfl)); (focus (intro hc _ _; (try simp only [Bool.and_eq_true, Bool.not_eq_true', Bool.true_and] at hc); go_simp; with_reducible rfl)); simp only [Act.put, List.setIfInBounds_toArray, List.set_cons_zero, List.set_cons_succ]))
                    refine text_nil (HF.out _ (fun mx dx => ?_))
                    clear HF F
                    clear NQ
                    go_wp2_with fail
                    go_returns
                    exact Pure.of (by rw [HRn.out]; rfl) (by have h := HBz.out; have hs := h.size; (repeat' (first | (with_reducible exact h) | (with_reducible exact Below.refl _ _) | (with_reducible refine Below.ext_mk ?_ ?_ _ _) | (with_reducible refine Below.alloc ?_ ?_ _) | (with_reducible refine Below.drew ?_) | (with_reducible refine Below.setCell ?_ ?_ _) | go_size)))
                  · rw [decide_eq_false hxy] at NQ
                    have HN : Hid ((x1, x2, x3) ∉ ns.take (k + 1)) := hid (by
                      rw [htk]
                      simp only [List.mem_append, List.mem_cons, List.not_mem_nil, or_false, not_or]
                      exact ⟨hnin, fun e => hxy e.symm⟩)
                    have HBk := hid hbz
                    clear hxy hmem htk hnin hy
                    go_upto_region 10 with (fail)
                    refine wp_region_ext (by kernel_rfl) (by kernel_rfl) (fun F hF => ?_)
                    have HF := hid hF; clear hF
                    repeat (first
                      | (apply text_skip; (focus rfl); simp only [Act.put, List.setIfInBounds_toArray, List.set_cons_zero, List.set_cons_succ])
                      | (apply text_val; (focus rfl); (focus (intro _ _; exact load_struct_op _ _ _ _ _ _ _ _ Try.underlying39 (branchy_size _ _ _) rfl (bNz.ext _ _))); simp only [Act.put, List.setIfInBounds_toArray, List.set_cons_zero, List.set_cons_succ])
                      | (apply text_val; (focus rfl); (focus (intro _ _; exact NQ _ _ _ _ _ _ _ _ _ rfl rfl _)); simp only [Act.put, List.setIfInBounds_toArray, List.set_cons_zero, List.set_cons_succ])
                      | (apply text_if; (focus (first | exact wanted_t rfl rfl | exact wanted_f rfl rfl | exact wanted_gt rfl rfl | exact wanted_gf rfl rfl)); (focus (intro hc _ _; exact load_struct_op _ _ _ _ _ _ _ _ Try.underlying39 (branchy_size _ _ _) rfl (bNz.ext _ _))); simp only [Act.put, List.setIfInBounds_toArray, List.set_cons_zero, List.set_cons_succ])
                      | (apply text_if; (focus (first | exact wanted_t rfl rfl | exact wanted_f rfl rfl | exact wanted_gt rfl rfl | exact wanted_gf rfl rfl)); (focus (intro hc _ _; exact NQ _ _ _ _ _ _ _ _ _ rfl rfl _)); simp only [Act.put, List.setIfInBounds_toArray, List.set_cons_zero, List.set_cons_succ])
                      | (apply text_val; (focus rfl); (focus (intro _ _; go_simp; with_reducible rfl)); simp only [Act.put, List.setIfInBounds_toArray, List.set_cons_zero, List.set_cons_succ])
                      | (apply text_if; (focus (first | exact wanted_t rfl rfl | exact wanted_f rfl rfl | exact wanted_gt rfl rfl | exact wanted_gf rfl rfl)); (focus (intro hc _ _; (try simp only [Bool.and_eq_true, Bool.not_eq_true', Bool.true_and] at hc); go_simp; with_reducible rfl)); simp only [Act.put, List.setIfInBounds_toArray, List.set_cons_zero, List.set_cons_succ]))
                    refine text_nil (HF.out _ (fun mx dx => ?_))
                    clear HF F
                    clear NQ
                    go_wp2_with fail
                    go_roundw
                    case rel => exact ⟨k + 1, by omega, by go_num, HN.out, by have h := HBk.out; have hs := h.size; (repeat' (first | (with_reducible exact h) | (with_reducible exact Below.refl _ _) | (with_reducible refine Below.ext_mk ?_ ?_ _ _) | (with_reducible refine Below.alloc ?_ ?_ _) | (with_reducible refine Below.drew ?_) | (with_reducible refine Below.setCell ?_ ?_ _) | go_size))⟩
                    case measure => simp [intOf]; omega
                · obtain rfl : k = i := by omega
                  have HFin := hid (And.intro (all_take hi HAL.out.1 (by rw [HXI.out]; exact HND.out)) (nodup_take hi HAL.out.2 (by rw [HXI.out]; exact hnin)))
                  clear hnin hbz
                  go_wp2_with fail
                  go_roundw
                  case rel => exact ⟨k + 1, by omega, by go_num, HFin.out.1, HFin.out.2, HBz.out⟩
                  case measure => simp [intOf]; omega
          · have HND := hok q1 (by rw [top1 x2 lo0 q2]; omega) (by rw [top1 x3 hi0' q4]; omega)
            clear part top1 hbad hok
            refine wp_region_ext (by kernel_rfl) (by kernel_rfl) (fun F hF => ?_)
            have HF := hid hF; clear hF
            repeat (first
              | (apply text_skip; (focus rfl); simp only [Act.put, List.setIfInBounds_toArray, List.set_cons_zero, List.set_cons_succ])
              | (apply text_val; (focus rfl); (focus (intro _ _; exact load_struct_op _ _ _ _ _ _ _ _ Try.underlying39 (branchy_size _ _ _) rfl (bN.ext _ _))); simp only [Act.put, List.setIfInBounds_toArray, List.set_cons_zero, List.set_cons_succ])
              | (apply text_if; (focus (first | exact wanted_t rfl rfl | exact wanted_f rfl rfl | exact wanted_gt rfl rfl | exact wanted_gf rfl rfl)); (focus (intro hc _ _; exact load_struct_op _ _ _ _ _ _ _ _ Try.underlying39 (branchy_size _ _ _) rfl (bN.ext _ _))); simp only [Act.put, List.setIfInBounds_toArray, List.set_cons_zero, List.set_cons_succ])
              | (apply text_val; (focus rfl); (focus (intro _ _; go_simp; with_reducible rfl)); simp only [Act.put, List.setIfInBounds_toArray, List.set_cons_zero, List.set_cons_succ])
              | (apply text_if; (focus (first | exact wanted_t rfl rfl | exact wanted_f rfl rfl | exact wanted_gt rfl rfl | exact wanted_gf rfl rfl)); (focus (intro hc _ _; (try simp only [Bool.and_eq_true, Bool.not_eq_true', Bool.true_and] at hc); go_simp; with_reducible rfl)); simp only [Act.put, List.setIfInBounds_toArray, List.set_cons_zero, List.set_cons_succ]))
            refine text_nil (HF.out _ (fun mx dx => ?_))
            clear HF F
            have hXx : Below X.heap.size X (X.ext mx dx) := by (repeat' (first | (with_reducible exact Below.refl _ _) | (with_reducible refine Below.ext_mk ?_ ?_ _ _) | (with_reducible refine Below.alloc ?_ ?_ _) | (with_reducible refine Below.drew ?_) | (with_reducible refine Below.setCell ?_ ?_ _) | go_size))
            have BXx := hid hXx
            clear hXx
            go_wp2_with fail
            go_loopw [5] (fun kv wz => ∃ k : Nat, k ≤ i ∧ kv = .int .i64 k ∧ (x1, x2, x3) ∉ ns.take k ∧ Below X.heap.size X wz) (fun kv _ => i - (intOf kv).toNat)
            case atStart => exact ⟨0, by omega, rfl, by simp, BXx.out⟩
            case round =>
              obtain ⟨k, hk, rfl, hnin, hbz⟩ := hrel
              have HBz := hid (HBX.out.trans (hbz.mono HBX.out.size))
              by_cases hki : k < i
              · have hki1 : (k : Int) < (i : Int) := by omega
                have hk0 : (0 : Int) ≤ (k : Int) := by omega
                have hkl : k < ns.length := by omega
                have hkl1 : (k : Int) < (ns.length : Int) := by omega
                have hy := List.getElem?_eq_getElem hkl
                obtain ⟨b', off', e', zb', y0, y1, y2⟩ := (H.out.below HBz.out).nodeAt hy
                cases e'
                have bNz := bN.below hbz
                have htk : ns.take (k + 1) = ns.take k ++ [ns[k]] := by rw [List.take_add_one, hy]; rfl
                have hmem : ns[k] ∈ ns.take i := List.mem_take_iff_getElem.2 ⟨k, by omega, rfl⟩
                generalize ns[k] = yy at *
                obtain ⟨u1, u2, u3⟩ := yy
                simp only at y0 y1 y2
                have NQ := fun (a : Act) (dst : Option Tmp) (t : TypeId) (o1 o2 : Operand) (pos : String) (after : Array Edge) (guard : Option (Nat × Bool)) (o : TypeId) (hx : a.eval o1 = kv (u1, u2, u3)) (hy : a.eval o2 = kv (x1, x2, x3)) (w : World) => eq_node_op a dst t o1 o2 pos after guard o hx hy w
                by_cases hxy : (u1, u2, u3) = (x1, x2, x3)
                · rw [decide_eq_true hxy] at NQ
                  have HRn : Hid (R = false) := hid (by rw [HR.out]; exact right_dup hi (by rw [HXI.out, ← hxy]; exact hmem))
                  clear hxy hmem htk hnin hy
                  go_upto_region 10 with (fail)
                  refine wp_region_ext (by kernel_rfl) (by kernel_rfl) (fun F hF => ?_)
                  have HF := hid hF; clear hF
                  repeat (first
                    | (apply text_skip; (focus rfl); simp only [Act.put, List.setIfInBounds_toArray, List.set_cons_zero, List.set_cons_succ])
                    | (apply text_val; (focus rfl); (focus (intro _ _; exact load_struct_op _ _ _ _ _ _ _ _ Try.underlying39 (branchy_size _ _ _) rfl (bNz.ext _ _))); simp only [Act.put, List.setIfInBounds_toArray, List.set_cons_zero, List.set_cons_succ])
                    | (apply text_val; (focus rfl); (focus (intro _ _; exact NQ _ _ _ _ _ _ _ _ _ rfl rfl _)); simp only [Act.put, List.setIfInBounds_toArray, List.set_cons_zero, List.set_cons_succ])
                    | (apply text_if; (focus (first | exact wanted_t rfl rfl | exact wanted_f rfl rfl | exact wanted_gt rfl rfl | exact wanted_gf rfl rfl)); (focus (intro hc _ _; exact load_struct_op _ _ _ _ _ _ _ _ Try.underlying39 (branchy_size _ _ _) rfl (bNz.ext _ _))); simp only [Act.put, List.setIfInBounds_toArray, List.set_cons_zero, List.set_cons_succ])
                    | (apply text_if; (focus (first | exact wanted_t rfl rfl | exact wanted_f rfl rfl | exact wanted_gt rfl rfl | exact wanted_gf rfl rfl)); (focus (intro hc _ _; exact NQ _ _ _ _ _ _ _ _ _ rfl rfl _)); simp only [Act.put, List.setIfInBounds_toArray, List.set_cons_zero, List.set_cons_succ])
                    | (apply text_val; (focus rfl); (focus (intro _ _; go_simp; with_reducible rfl)); simp only [Act.put, List.setIfInBounds_toArray, List.set_cons_zero, List.set_cons_succ])
                    | (apply text_if; (focus (first | exact wanted_t rfl rfl | exact wanted_f rfl rfl | exact wanted_gt rfl rfl | exact wanted_gf rfl rfl)); (focus (intro hc _ _; (try simp only [Bool.and_eq_true, Bool.not_eq_true', Bool.true_and] at hc); go_simp; with_reducible rfl)); simp only [Act.put, List.setIfInBounds_toArray, List.set_cons_zero, List.set_cons_succ]))
                  refine text_nil (HF.out _ (fun mx dx => ?_))
                  clear HF F
                  clear NQ
                  go_wp2_with fail
                  go_returns
                  exact Pure.of (by rw [HRn.out]; rfl) (by have h := HBz.out; have hs := h.size; (repeat' (first | (with_reducible exact h) | (with_reducible exact Below.refl _ _) | (with_reducible refine Below.ext_mk ?_ ?_ _ _) | (with_reducible refine Below.alloc ?_ ?_ _) | (with_reducible refine Below.drew ?_) | (with_reducible refine Below.setCell ?_ ?_ _) | go_size)))
                · rw [decide_eq_false hxy] at NQ
                  have HN : Hid ((x1, x2, x3) ∉ ns.take (k + 1)) := hid (by
                    rw [htk]
                    simp only [List.mem_append, List.mem_cons, List.not_mem_nil, or_false, not_or]
                    exact ⟨hnin, fun e => hxy e.symm⟩)
                  have HBk := hid hbz
                  clear hxy hmem htk hnin hy
                  go_upto_region 10 with (fail)
                  refine wp_region_ext (by kernel_rfl) (by kernel_rfl) (fun F hF => ?_)
                  have HF := hid hF; clear hF
                  repeat (first
                    | (apply text_skip; (focus rfl); simp only [Act.put, List.setIfInBounds_toArray, List.set_cons_zero, List.set_cons_succ])
                    | (apply text_val; (focus rfl); (focus (intro _ _; exact load_struct_op _ _ _ _ _ _ _ _ Try.underlying39 (branchy_size _ _ _) rfl (bNz.ext _ _))); simp only [Act.put, List.setIfInBounds_toArray, List.set_cons_zero, List.set_cons_succ])
                    | (apply text_val; (focus rfl); (focus (intro _ _; exact NQ _ _ _ _ _ _ _ _ _ rfl rfl _)); simp only [Act.put, List.setIfInBounds_toArray, List.set_cons_zero, List.set_cons_succ])
                    | (apply text_if; (focus (first | exact wanted_t rfl rfl | exact wanted_f rfl rfl | exact wanted_gt rfl rfl | exact wanted_gf rfl rfl)); (focus (intro hc _ _; exact load_struct_op _ _ _ _ _ _ _ _ Try.underlying39 (branchy_size _ _ _) rfl (bNz.ext _ _))); simp only [Act.put, List.setIfInBounds_toArray, List.set_cons_zero, List.set_cons_succ])
                    | (apply text_if; (focus (first | exact wanted_t rfl rfl | exact wanted_f rfl rfl | exact wanted_gt rfl rfl | exact wanted_gf rfl rfl)); (focus (intro hc _ _; exact NQ _ _ _ _ _ _ _ _ _ rfl rfl _)); simp only [Act.put, List.setIfInBounds_toArray, List.set_cons_zero, List.set_cons_succ])
                    | (apply text_val; (focus rfl); (focus (intro _ _; go_simp; with_reducible rfl)); simp only [Act.put, List.setIfInBounds_toArray, List.set_cons_zero, List.set_cons_succ])
                    | (apply text_if; (focus (first | exact wanted_t rfl rfl | exact wanted_f rfl rfl | exact wanted_gt rfl rfl | exact wanted_gf rfl rfl)); (focus (intro hc _ _; (try simp only [Bool.and_eq_true, Bool.not_eq_true', Bool.true_and] at hc); go_simp; with_reducible rfl)); simp only [Act.put, List.setIfInBounds_toArray, List.set_cons_zero, List.set_cons_succ]))
                  refine text_nil (HF.out _ (fun mx dx => ?_))
                  clear HF F
                  clear NQ
                  go_wp2_with fail
                  go_roundw
                  case rel => exact ⟨k + 1, by omega, by go_num, HN.out, by have h := HBk.out; have hs := h.size; (repeat' (first | (with_reducible exact h) | (with_reducible exact Below.refl _ _) | (with_reducible refine Below.ext_mk ?_ ?_ _ _) | (with_reducible refine Below.alloc ?_ ?_ _) | (with_reducible refine Below.drew ?_) | (with_reducible refine Below.setCell ?_ ?_ _) | go_size))⟩
                  case measure => simp [intOf]; omega
              · obtain rfl : k = i := by omega
                have HFin := hid (And.intro (all_take hi HAL.out.1 (by rw [HXI.out]; exact HND.out)) (nodup_take hi HAL.out.2 (by rw [HXI.out]; exact hnin)))
                clear hnin hbz
                go_wp2_with fail
                go_roundw
                case rel => exact ⟨k + 1, by omega, by go_num, HFin.out.1, HFin.out.2, HBz.out⟩
                case measure => simp [intOf]; omega
    · obtain rfl : i = ns.length := by omega
      rw [List.take_length] at hal hnd
      have e : R = true := by rw [HR.out]; unfold rightV; rw [hal, decide_eq_true hnd]; rfl
      have HE := hid e
      have HB := hid hb
      clear e hal hnd hb HAL
      go_wp2_with fail
      go_returns
      exact Pure.of (by rw [HE.out]; rfl) (by have h := HB.out; have hs := h.size; (repeat' (first | (with_reducible exact h) | (with_reducible exact Below.refl _ _) | (with_reducible refine Below.ext_mk ?_ ?_ _ _) | (with_reducible refine Below.alloc ?_ ?_ _) | (with_reducible refine Below.drew ?_) | (with_reducible refine Below.setCell ?_ ?_ _) | go_size)))
end Go.Proofs.Ytboekafmplomhaa
