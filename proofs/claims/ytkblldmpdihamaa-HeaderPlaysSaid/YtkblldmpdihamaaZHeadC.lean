/-
  Package header: Get; numbers that are stored whole.
-/
import Derived.Test.YtkblldmpdihamaaZHeadB
import Derived.Test.YtkblldmpdihamaaZDoC
set_option linter.unusedVariables false
set_option linter.unusedSimpArgs false
namespace Go.Proofs.Ytkblldmpdihamaa
open Go.RowKit

theorem hnum_size (x y : Value) : (Try.prog.info? 45).map (·.size) = some [x, y].length := by
  have h : (Try.prog.info? 45).map (·.size) = some 2 := by kernel_rfl
  exact h
theorem hstore_num {w : World} (a : Act) (dst : Option Tmp) (t : TypeId) (x y : Operand) (pos : String) (after : Array Edge) (guard : Option (Nat × Bool)) {g : Nat} {e : TypeId} {u v u' v' : Int}
    (hx : a.eval x = .pointer (some ⟨g, 0, none⟩)) (hy : a.eval y = .agg #[.int .u64 u', .int .u64 v']) (hg : Blk w g e [.int .u64 u, .int .u64 v]) :
    (execOp a.eval { dst, op := .store 45 x y, type := t, pos, after, guard }).run Try.prog w = .ok .skip (w.setRow g [.int .u64 u', .int .u64 v'].toArray) :=
  store_row_op (xs := [.int .u64 u, .int .u64 v]) (ys := [.int .u64 u', .int .u64 v']) a dst _ t x y pos after guard (hnum_size _ _) rfl rfl hx hy hg
theorem hnum_result {w : World} {fn : Func} {p : Tmp} {tmps : Array Value} {g : Nat} {e : TypeId} {u v : Int} (h : fn.results = #[.cell p 45]) (hp : tmps.getD p undef = .pointer (some ⟨g, 0, none⟩)) (hg : Blk w g e [.int .u64 u, .int .u64 v]) :
    (results fn tmps).run Try.prog w = .ok (.agg #[.int .u64 u, .int .u64 v]) w :=
  results_cell_row (P := Try.prog) h _ _ _ _ _ _ _ hp hg Try.underlying45 rfl (by
    have h : (Try.prog.info? 45).map (·.size) = some 2 := by kernel_rfl
    exact h)

/-- Rows of numbers. -/
structure FieldsAre (w : World) (s : SL) (fs : List (SL × List (BitVec 128))) : Prop where
  row : RdS w 1 s (fs.map fun x => x.1.v)
  each : ∀ x ∈ fs, RdS w 2 x.1 (nums x.2)
theorem FieldsAre.below {w w' : World} {s : SL} {fs : List (SL × List (BitVec 128))} (h : FieldsAre w s fs) (hb : Below w.heap.size w w') : FieldsAre w' s fs :=
  ⟨h.row.below hb, fun x hx => (h.each x hx).below hb⟩
theorem FieldsAre.len {w : World} {s : SL} {fs : List (SL × List (BitVec 128))} (h : FieldsAre w s fs) : s.n = fs.length := by have := h.row.2.2.1; simp at this; omega

set_option maxRecDepth 100000 in
theorem get_ok {k : PK} {b : Nat} {w : World} {fs : List (SL × List (BitVec 128))} {va : List Bool} (B : Blk w b 39 k.cs) (V : RdS w 1 k.valid (bools va)) (Fs : FieldsAre w k.fields fs)
    {h f : Nat} {x : SL × List (BitVec 128)} {n : BitVec 128} (hv : va[h]? = some true) (hx : fs[h]? = some x) (hn : x.2[f]? = some n) :
    Calls Try.prog 17 #[.pointer (some ⟨b, 0, none⟩), .int .i64 h, .int .i64 f] w (Pure (nv n) w) := by
  have HA := hid (fun W (hb : Below w.heap.size w W) => has_any (B.below hb) (h : Int))
  obtain ⟨vb, vo, ev, zv, hvl, cv⟩ := V.one (i := h) (u := .bool true) (by simp [bools, hv])
  obtain ⟨rb, ro, er, zr, hrl, cr⟩ := Fs.row.one (i := h) (u := x.1.v) (by simp [hx])
  obtain ⟨nb, no, en, zn, hnl, cn0, cn1⟩ := (Fs.each x (List.mem_of_getElem? hx)).num hn
  have hvb : hasB k h = true := by unfold hasB; simp; omega
  rw [hvb] at HA
  have c2 := B.cell 2
  have c3 := B.cell 3
  simp only [List.getElem?_cons_zero, List.getElem?_cons_succ] at c2 c3
  have zb := B.lt
  obtain ⟨⟨xa, xn, xc⟩, xl⟩ := x
  obtain ⟨port, rest, ⟨va', vn, vc⟩, ⟨fa, fn, fc⟩, metas, dr, se, eg, ac⟩ := k
  simp only [SL.v_mk] at ev er en hvl hrl hnl cr c2 c3 HA
  subst ev er en
  have k1 : (h : Int) < (vn : Int) := by omega
  have k2 : (h : Int) < (fn : Int) := by omega
  have k3 : (f : Int) < (xn : Int) := by omega
  have k4 : ¬ (f : Int) < 0 := by omega
  have k5 : ¬ (xn : Int) ≤ (f : Int) := by omega
  clear hv hx hn V Fs B hvb
  go_enter Try.func17, Try.ntmps17
  go_upto_region 1 with (fail)
  have bn := Blk.new w 45 [.int .u64 0, .int .u64 0]
  refine wp_region_seq (fun F hF => ?_)
  have HF := hid hF; clear hF
  repeat (first
    | (apply text_skip; (focus rfl); simp only [Act.put, List.setIfInBounds_toArray, List.set_cons_zero, List.set_cons_succ])
    | (apply text_val; (focus rfl); (focus (intro _ _; go_simp; with_reducible rfl)); simp only [Act.put, List.setIfInBounds_toArray, List.set_cons_zero, List.set_cons_succ])
    | (apply text_call; (focus rfl); (focus (intro _ _; go_simp; exact ⟨rfl, rfl⟩)); (focus (intro _ _; with_reducible (exact HA.out _ (by (repeat' (first | (with_reducible exact Below.refl _ _) | (with_reducible refine Below.ext_mk ?_ ?_ _ _) | (with_reducible refine Below.alloc ?_ ?_ _) | (with_reducible refine Below.drew ?_) | (with_reducible refine Below.setCell ?_ ?_ _) | go_size)))))); simp only [Act.put, List.setIfInBounds_toArray, List.set_cons_zero, List.set_cons_succ])
    | (apply text_if; (focus (first | exact wanted_t rfl rfl | exact wanted_f rfl rfl | exact wanted_gt rfl rfl | exact wanted_gf rfl rfl)); (focus (intro hc _ _; (try simp only [Bool.and_eq_true, Bool.not_eq_true', Bool.true_and] at hc); go_simp; with_reducible rfl)); simp only [Act.put, List.setIfInBounds_toArray, List.set_cons_zero, List.set_cons_succ])
    | (apply text_if_call; (focus (first | exact wanted_t rfl rfl | exact wanted_f rfl rfl | exact wanted_gt rfl rfl | exact wanted_gf rfl rfl)); (focus (intro hc _ _; (try simp only [Bool.and_eq_true, Bool.not_eq_true', Bool.true_and] at hc); go_simp; exact ⟨rfl, rfl⟩)); (focus (intro hc _ _; with_reducible (exact HA.out _ (by (repeat' (first | (with_reducible exact Below.refl _ _) | (with_reducible refine Below.ext_mk ?_ ?_ _ _) | (with_reducible refine Below.alloc ?_ ?_ _) | (with_reducible refine Below.drew ?_) | (with_reducible refine Below.setCell ?_ ?_ _) | go_size)))))); simp only [Act.put, List.setIfInBounds_toArray, List.set_cons_zero, List.set_cons_succ]))
  refine text_nil (HF.out _ (fun mx dx => ?_))
  clear HF F
  go_upto_region 6 with (fail)
  refine wp_gen (fun U hU => ?_)
  have hbU : Below w.heap.size w U := by rw [hU]; (repeat' (first | (with_reducible exact Below.refl _ _) | (with_reducible refine Below.ext_mk ?_ ?_ _ _) | (with_reducible refine Below.alloc ?_ ?_ _) | (with_reducible refine Below.drew ?_) | (with_reducible refine Below.setCell ?_ ?_ _) | go_size))
  have bU : Blk U w.heap.size 45 [.int .u64 0, .int .u64 0] := by rw [hU]; exact bn.below (by (repeat' (first | (with_reducible exact Below.refl _ _) | (with_reducible refine Below.ext_mk ?_ ?_ _ _) | (with_reducible refine Below.alloc ?_ ?_ _) | (with_reducible refine Below.drew ?_) | (with_reducible refine Below.setCell ?_ ?_ _) | go_size)))
  clear hU bn HA
  have d3 := (hbU.cell (p := ⟨b, 3, none⟩) zb).trans c3
  have dr' := (hbU.cell (p := ⟨rb, ro + h, none⟩) zr).trans cr
  have d0 := (hbU.cell (p := ⟨nb, no + f * 2, none⟩) zn).trans cn0
  have d1 := (hbU.cell (p := ⟨nb, no + f * 2 + 1, none⟩) zn).trans cn1
  have hs := hbU.size
  have z1 : b < U.heap.size := by omega
  have z2 : rb < U.heap.size := by omega
  have z3 : nb < U.heap.size := by omega
  refine wp_region_doc (fun F' hF => ?_)
  have HF := hid hF
  clear hF
  repeat (refine doc_val rfl (by first | (go_simp; done) | (go_simp; exact ⟨rfl, rfl⟩) | (go_simp; with_reducible rfl)) ?_; simp only [Act.put, List.setIfInBounds_toArray, List.set_cons_zero, List.set_cons_succ])
  refine doc_skip rfl (hstore_num _ _ _ _ _ _ _ _ rfl rfl bU) ?_
  simp only [Act.put, List.setIfInBounds_toArray, List.set_cons_zero, List.set_cons_succ]
  refine doc_end (HF.out _ _ ?_)
  clear HF F'
  have b2 := bU.row [.int .u64 (hi n), .int .u64 (lo n)]
  go_wp2
  exact bodyPost_ret (hnum_result rfl rfl b2) rfl ⟨rfl, Below.to_ext (Below.setRow hbU (Nat.le_refl _) _)⟩

/-- Get, where there is no such field. -/
theorem get_no {q : Option Addr} {hb : Bool} {w : World} (h f : Int) (HA : ∀ W, Below w.heap.size w W → Calls Try.prog 33 #[.pointer q, .int .i64 h] W (Pure (.bool hb) W)) (hno : hb = false) :
    Calls Try.prog 17 #[.pointer q, .int .i64 h, .int .i64 f] w (Pure (nv 0#128) w) := by
  subst hno
  have bn := Blk.new w 45 [.int .u64 0, .int .u64 0]
  go_enter Try.func17, Try.ntmps17
  go_upto_region 1 with (fail)
  refine wp_region_seq (fun F hF => ?_)
  have HF := hid hF; clear hF
  repeat (first
    | (apply text_skip; (focus rfl); simp only [Act.put, List.setIfInBounds_toArray, List.set_cons_zero, List.set_cons_succ])
    | (apply text_val; (focus rfl); (focus (intro _ _; go_simp; with_reducible rfl)); simp only [Act.put, List.setIfInBounds_toArray, List.set_cons_zero, List.set_cons_succ])
    | (apply text_call; (focus rfl); (focus (intro _ _; go_simp; exact ⟨rfl, rfl⟩)); (focus (intro _ _; with_reducible (exact HA _ (by (repeat' (first | (with_reducible exact Below.refl _ _) | (with_reducible refine Below.ext_mk ?_ ?_ _ _) | (with_reducible refine Below.alloc ?_ ?_ _) | (with_reducible refine Below.drew ?_) | (with_reducible refine Below.setCell ?_ ?_ _) | go_size)))))); simp only [Act.put, List.setIfInBounds_toArray, List.set_cons_zero, List.set_cons_succ])
    | (apply text_if; (focus (first | exact wanted_t rfl rfl | exact wanted_f rfl rfl | exact wanted_gt rfl rfl | exact wanted_gf rfl rfl)); (focus (intro hc _ _; (try simp only [Bool.and_eq_true, Bool.not_eq_true', Bool.true_and] at hc); go_simp; with_reducible rfl)); simp only [Act.put, List.setIfInBounds_toArray, List.set_cons_zero, List.set_cons_succ])
    | (apply text_if_call; (focus (first | exact wanted_t rfl rfl | exact wanted_f rfl rfl | exact wanted_gt rfl rfl | exact wanted_gf rfl rfl)); (focus (intro hc _ _; (try simp only [Bool.and_eq_true, Bool.not_eq_true', Bool.true_and] at hc); go_simp; exact ⟨rfl, rfl⟩)); (focus (intro hc _ _; with_reducible (exact HA _ (by (repeat' (first | (with_reducible exact Below.refl _ _) | (with_reducible refine Below.ext_mk ?_ ?_ _ _) | (with_reducible refine Below.alloc ?_ ?_ _) | (with_reducible refine Below.drew ?_) | (with_reducible refine Below.setCell ?_ ?_ _) | go_size)))))); simp only [Act.put, List.setIfInBounds_toArray, List.set_cons_zero, List.set_cons_succ]))
  refine text_nil (HF.out _ (fun mx dx => ?_))
  clear HF F
  go_upto_region 2 with (fail)
  refine wp_gen (fun U hU => ?_)
  have hbU : Below w.heap.size w U := by rw [hU]; (repeat' (first | (with_reducible exact Below.refl _ _) | (with_reducible refine Below.ext_mk ?_ ?_ _ _) | (with_reducible refine Below.alloc ?_ ?_ _) | (with_reducible refine Below.drew ?_) | (with_reducible refine Below.setCell ?_ ?_ _) | go_size))
  have bU : Blk U w.heap.size 45 [.int .u64 0, .int .u64 0] := by rw [hU]; exact bn.below (by (repeat' (first | (with_reducible exact Below.refl _ _) | (with_reducible refine Below.ext_mk ?_ ?_ _ _) | (with_reducible refine Below.alloc ?_ ?_ _) | (with_reducible refine Below.drew ?_) | (with_reducible refine Below.setCell ?_ ?_ _) | go_size)))
  clear hU bn
  refine wp_region_doc (fun F' hF => ?_)
  have HF := hid hF
  clear hF
  repeat (refine doc_val rfl (by first | (go_simp; done) | (go_simp; exact ⟨rfl, rfl⟩) | (go_simp; with_reducible rfl)) ?_; simp only [Act.put, List.setIfInBounds_toArray, List.set_cons_zero, List.set_cons_succ])
  refine doc_skip rfl (hstore_num (u' := 0) (v' := 0) _ _ _ _ _ _ _ _ rfl rfl bU) ?_
  simp only [Act.put, List.setIfInBounds_toArray, List.set_cons_zero, List.set_cons_succ]
  refine doc_end (HF.out _ _ ?_)
  clear HF F'
  have b2 := bU.row [.int .u64 0, .int .u64 0]
  go_wp2
  exact bodyPost_ret (hnum_result rfl rfl b2) rfl ⟨rfl, Below.to_ext (Below.setRow hbU (Nat.le_refl _) _)⟩
end Go.Proofs.Ytkblldmpdihamaa
