/-
  Package quant: Support over a live store.
-/
import Derived.Test.YtboekafmplomhaaZSup
import Derived.Test.YtboekafmplomhaaZMeansR
set_option linter.unusedVariables false
set_option linter.unusedSimpArgs false
namespace Go.Proofs.Ytboekafmplomhaa
open Go.RowKit

@[go_sem] theorem run_store_func {P : Program} {w : World} {a : Addr} {fn : Fn} {x y : Array Value} {m : Mode} : (store a (.func fn x y) m).run P w = stored P w a (.func fn x y) m := run_store P w a _ m rfl
theorem on_info : (Try.prog.info? 127).map (fun i => (i.zero, i.size)) = some (some (.agg (bools (List.replicate 64 false)).toArray), 64) := by kernel_rfl
theorem on_size (O : List Bool) (h : O.length = 64) : (Try.prog.info? 127).map (·.size) = some (bools O).length := by rw [bools_length, h]; exact (zero_of_info on_info).2
theorem on_arr : Try.prog.underlying 127 = some (.array 64 4) := by kernel_rfl
theorem on_one (O : List Bool) : (bools O).all (·.oneCell') = true := by simp [bools, Value.oneCell']

theorem index_on (O : List Bool) (h : O.length = 64) {j : Nat} (hj : j < 64) (w : World) :
    (Instr.index 127 (.agg (bools O).toArray) (.int .i64 (j : Int))).run Try.prog w = .ok (.bool (O.getD j false)) w := by
  have h1 : (0 : Int) ≤ (j : Int) ∧ (j : Int) < ((64 : Nat) : Int) := by omega
  have h2 : (bools O)[j]? = some (.bool (O.getD j false)) := by simp [bools, show j < O.length by omega]
  have h3 : (bools O).length = 64 := by rw [bools_length, h]
  simp [Instr.index, run_underlying on_arr, asIntOf, h1, h2, h3, go_sem]
  intro q; omega
/-- The variables that are on, below j. -/
def onL (O : List Bool) : Nat → List Int
  | 0 => []
  | j + 1 => if O.getD j false then onL O j ++ [(j : Int)] else onL O j
theorem onL_length (O : List Bool) : ∀ j, (onL O j).length ≤ j
  | 0 => by simp [onL]
  | j + 1 => by have := onL_length O j; unfold onL; split <;> simp <;> omega

/-- One more number at a row's end. -/
theorem grow_int {B : Nat} {w : World} {sv : Value} {G : Option Nat} {all : List Int} (h : RowIs w sv G 3 1 all.length (ints all)) (hG : ∀ g, G = some g → B ≤ g) (hB : B ≤ w.heap.size) (hk : all.length ≤ 1000) (x : Int) :
    ∃ v' w1 G', (Builtin.append_ #[28, 28] 28 #[sv, .slice (some ⟨w.heap.size, 0, none⟩) 1 1]).run Try.prog (w.alloc (.cells #[.int .i64 x] 3)) = .ok v' w1 ∧
      RowIs w1 v' (some G') 3 1 (all ++ [x]).length (ints (all ++ [x])) ∧ B ≤ G' ∧ Below B w w1 := by
  have litn : (w.alloc (.cells #[.int .i64 x] 3)).heap[w.heap.size]? = some (.cells #[.int .i64 x] 3 (0, 0)) := World.heap_alloc_last w _
  have rowL : RowIs (w.alloc (.cells #[.int .i64 x] 3)) sv G 3 1 all.length (ints all) := RowIs.keep h (fun g hg => Below.heap_alloc _ _ _ (RowIs.lt h g hg))
  obtain ⟨v', w1, G', r1, r2, r3, r4⟩ := append_row (P := Try.prog) 28 28 infoInt (.int .i64 0) 8 Try.underlying28 infoInt_is infoInt_zero infoInt_size infoInt_bytes rfl (by omega) rowL
    ⟨w.heap.size, 0, none⟩ 1 1 [.int .i64 x] rfl (fun j u hu => by
      rcases j with _ | j
      · simp at hu; subst hu
        show (w.alloc (.cells #[.int .i64 x] 3)).cell? ⟨w.heap.size, 0, none⟩ = _
        simp only [World.cell?]
        rw [litn]; rfl
      · simp at hu) (by simp [Value.oneCell']) (by omega) (by unfold maxLen; omega) (by omega)
  refine ⟨v', w1, G', r1, ?_, ?_, ?_⟩
  · have e1 : ints (all ++ [x]) = ints all ++ [.int .i64 x] := by simp [ints]
    rw [e1, List.length_append]
    exact r2
  · rcases r4 with e | ⟨e, _⟩
    · exact hG _ e
    · simp at e; omega
  · exact ((Below.refl _ _).alloc hB _).grown r3 (by simp; omega) hG

def supportV (S : Sto) (x : Int) : List Int := if S.full then [] else onL (supN S (S.nodes.length + 2) [] (List.replicate 64 false) x).2 64

set_option maxRecDepth 100000 in
set_option maxHeartbeats 4000000 in
theorem support_live {w : World} {p : Nat} {F : List Nat} {S : Sto} (h : StoIs w p F S) (hW : Wf S) (hf : S.full = false) (x : Int) :
    Calls Try.prog 43 #[.pointer (some ⟨p, 0, none⟩), .int .i64 x] w
      (fun e w' => ∃ sv, e = .returned sv ∧ Rd w' 1 sv (ints (onL (supN S (S.nodes.length + 2) [] (List.replicate 64 false) x).2 64)) ∧ Below w.heap.size w w') := by
  have hmf : ∀ (fn : Fn) (first cap : Array Value) (w : World), (Instr.makeFunc fn first cap).run Try.prog w = .ok (.func fn first cap) w := fun _ _ _ _ => rfl
  have hmm := @run_makeMap Try.prog
  have hz := (zero_of_info (P := Try.prog) on_info).1
  obtain ⟨O0, hO0⟩ : ∃ O, O = List.replicate 64 false := ⟨_, rfl⟩
  have l0 : O0.length = 64 := by rw [hO0]; rfl
  rw [← hO0] at hz ⊢
  clear hO0
  have hc : S.cap ≠ 0 := by have := hW.cap2; omega
  have FU := fun W (hb : Below w.heap.size w W) => full_any (h.below hb) hc
  rw [hf] at FU
  have H := hid h
  have hlt := h.lt
  clear h
  go_enter Try.func43, Try.ntmps43
  go_upto_region 3 with (go_at_call 22; refine (FU _ (by (repeat' (first | (with_reducible exact Below.refl _ _) | (with_reducible refine Below.ext_mk ?_ ?_ _ _) | (with_reducible refine Below.alloc ?_ ?_ _) | (with_reducible refine Below.drew ?_) | (with_reducible refine Below.setCell ?_ ?_ _) | go_size)))).mono ?_; rintro e w' ⟨rfl, m1, d1, rfl⟩)
  refine wp_gen (fun V hV => ?_)
  have hbV : Below w.heap.size w V := by rw [hV]; ((repeat' (first | (with_reducible exact Below.refl _ _) | (with_reducible refine Below.ext_mk ?_ ?_ _ _) | (with_reducible refine Below.alloc ?_ ?_ _) | (with_reducible refine Below.drew ?_) | (with_reducible refine Below.setCell ?_ ?_ _) | go_size)))
  have zV0 : w.heap.size < V.heap.size := by rw [hV]; first | (simp; done) | (simp; omega)
  have cV0_0 : V.cell? ⟨w.heap.size, 0, none⟩ = some (.pointer (some ⟨p, 0, none⟩)) := by rw [hV]; first | (go_simp; done) | (rw [World.cell?_alloc_past _ _ _ (by first | (simp; done) | (simp; omega))]; go_simp)
  clear hV
  have HV := H.out.below hbV
  have hVF : ∀ k ∈ F, k < V.heap.size := HV.lt
  refine wp_region_doc (fun F' hF => ?_)
  have HF := hid hF
  clear hF
  repeat (refine doc_val rfl (by first | (go_simp; done) | (go_simp; exact ⟨rfl, rfl⟩) | (go_simp; with_reducible rfl)) ?_; simp only [Act.put, List.setIfInBounds_toArray, List.set_cons_zero, List.set_cons_succ])
  refine doc_skip rfl (by first | (go_simp; done) | (go_simp; exact ⟨rfl, rfl⟩) | (go_simp; with_reducible rfl)) ?_
  simp only [Act.put, List.setIfInBounds_toArray, List.set_cons_zero, List.set_cons_succ]
  have bn := Blk.new ((V.alloc (.map #[] 0)).alloc (.cells #[.map (some V.heap.size)] 115)) 127 (bools O0)
  rw [show ((V.alloc (.map #[] 0)).alloc (.cells #[.map (some V.heap.size)] 115)).heap.size = V.heap.size + 1 + 1 by simp] at bn
  refine doc_skip rfl (store_row_op (xs := bools O0) (ys := bools O0) _ _ _ _ _ _ _ _ _ (on_size _ l0) rfl (on_one _) rfl rfl bn) ?_
  simp only [Act.put, List.setIfInBounds_toArray, List.set_cons_zero, List.set_cons_succ]
  refine doc_end (HF.out _ _ ?_)
  clear HF F'
  go_upto_region 4 with (fail)
  refine wp_gen (fun U hU => ?_)
  have bU : Blk U (V.heap.size + 1 + 1) 127 (bools O0) := by rw [hU]; exact bn.row _
  have hbU : Below V.heap.size V U := by
    rw [hU]; exact Below.setRow (by (repeat' (first | (with_reducible exact Below.refl _ _) | (with_reducible refine Below.ext_mk ?_ ?_ _ _) | (with_reducible refine Below.alloc ?_ ?_ _) | (with_reducible refine Below.drew ?_) | (with_reducible refine Below.setCell ?_ ?_ _) | go_size))) (by omega) _
  have mU : MapIs ki U V.heap.size [] := by
    have q : MapIs ki (V.alloc (.map #[] 0)) V.heap.size [] := ⟨#[], 0, World.heap_alloc_last V _, rfl⟩
    have hb1 : Below (V.alloc (.map #[] 0)).heap.size (V.alloc (.map #[] 0)) U := by rw [hU]; exact Below.setRow (by (repeat' (first | (with_reducible exact Below.refl _ _) | (with_reducible refine Below.ext_mk ?_ ?_ _ _) | (with_reducible refine Below.alloc ?_ ?_ _) | (with_reducible refine Below.drew ?_) | (with_reducible refine Below.setCell ?_ ?_ _) | go_size))) (by simp) _
    exact MapIs.keep q (hb1.block _ (MapIs.lt q))
  have cU : U.cell? ⟨V.heap.size + 1, 0, none⟩ = some (.map (some V.heap.size)) := by
    have hb2 : Below ((V.alloc (.map #[] 0)).alloc (.cells #[.map (some V.heap.size)] 115)).heap.size ((V.alloc (.map #[] 0)).alloc (.cells #[.map (some V.heap.size)] 115)) U := by rw [hU]; exact Below.setRow (by (repeat' (first | (with_reducible exact Below.refl _ _) | (with_reducible refine Below.ext_mk ?_ ?_ _ _) | (with_reducible refine Below.alloc ?_ ?_ _) | (with_reducible refine Below.drew ?_) | (with_reducible refine Below.setCell ?_ ?_ _) | go_size))) (by simp) _
    have q : ((V.alloc (.map #[] 0)).alloc (.cells #[.map (some V.heap.size)] 115)).cell? ⟨V.heap.size + 1, 0, none⟩ = some (.map (some V.heap.size)) := by
      simp
    exact (cell_of_heap 0 (hb2.block _ (by simp))).trans q
  have zU : V.heap.size + 1 + 1 < U.heap.size := by rw [hU]; simp
  clear hU bn
  go_upto_region 6 with (fail)
  refine wp_gen (fun X hX => ?_)
  have hbX : Below U.heap.size U X := by rw [hX]; (repeat' (first | (with_reducible exact Below.refl _ _) | (with_reducible refine Below.ext_mk ?_ ?_ _ _) | (with_reducible refine Below.alloc ?_ ?_ _) | (with_reducible refine Below.drew ?_) | (with_reducible refine Below.setCell ?_ ?_ _) | go_size))
  have cX : X.cell? ⟨U.heap.size, 0, none⟩ = some (.func (.func 101) #[] #[.pointer (some ⟨w.heap.size, 0, none⟩), .pointer (some ⟨V.heap.size + 1, 0, none⟩), .pointer (some ⟨V.heap.size + 1 + 1, 0, none⟩), .pointer (some ⟨U.heap.size, 0, none⟩)]) := by
    rw [hX]; go_simp
  have zX : U.heap.size < X.heap.size := by rw [hX]; simp
  clear hX
  have hbVX : Below V.heap.size V X := hbU.trans (hbX.mono hbU.size)
  have hwV := hbV.size
  have SX : SupW X p V.heap.size (V.heap.size + 1 + 1) w.heap.size (V.heap.size + 1) U.heap.size F S [] O0 :=
    { sto := HV.below hbVX, map := MapIs.keep mU (hbX.block _ (by omega)), blk := bU.below hbX, len := l0
      fm := fun hm => Nat.lt_irrefl _ (hVF _ hm), fb := fun hm => by have := hVF _ hm; omega, ne := by omega
      z0 := by omega, z1 := by omega, z3 := zX
      m0 := by omega, m1 := by omega, m3 := by omega, b0 := by omega, b1 := by omega, b3 := by omega
      c0 := (cell_of_heap 0 (hbVX.block _ zV0)).trans cV0_0
      c1 := (cell_of_heap 0 (hbX.block _ (by omega))).trans cU
      c3 := cX }
  have hb0 : Below w.heap.size w X := hbV.trans (hbVX.mono hbV.size)
  have wlt : w.heap.size ≤ V.heap.size := hwV
  have wkb : w.heap.size ≤ V.heap.size + 1 + 1 := by omega
  generalize V.heap.size + 1 + 1 = kb at *
  generalize V.heap.size + 1 = i1 at *
  generalize V.heap.size = km at *
  generalize U.heap.size = i3 at *
  have HI := sup_any hW p km kb w.heap.size i1 i3 F (S.nodes.length + 2) X [] O0 x SX (by have := has_right (S := S) x; unfold Sto.has at this; omega)
  generalize hR : supN S (S.nodes.length + 2) [] O0 x = R at *
  have HR := hid hR
  clear hR
  obtain ⟨K1, O1⟩ := R
  have Hkm := hid wlt
  clear mU bU cU SX H hz hmm hmf hlt FU hbX hbVX hbU hbV cV0_0 zV0 zU HV hVF
  go_upto_region 7 with ((with_reducible refine HI.mono ?_); rintro e Y ⟨rfl, SY, stY⟩)
  refine wp_region_doc (fun F' hF => ?_)
  have HF := hid hF
  clear hF
  refine doc_val rfl (load_row_op _ _ _ _ _ _ _ _ on_arr (on_size O1 SY.len) rfl SY.blk) ?_
  simp only [Act.put, List.setIfInBounds_toArray, List.set_cons_zero, List.set_cons_succ]
  refine doc_val rfl (by first | (go_simp; done) | (go_simp; exact ⟨rfl, rfl⟩) | (go_simp; with_reducible rfl)) ?_
  simp only [Act.put, List.setIfInBounds_toArray, List.set_cons_zero, List.set_cons_succ]
  refine doc_end (HF.out _ _ ?_)
  clear HF F'
  have hbY : Below w.heap.size w Y := hb0.trans (stY.below (fun k hk => by simp at hk; rcases hk with rfl | rfl <;> omega) hb0.size)
  have l1 := SY.len
  clear SY stY HI hb0 cX zX
  go_wp2_with fail
  go_loopw [4, 19] (fun sl i wr => ∃ (j : Nat) (G : Option Nat), j ≤ 64 ∧ i = .int .i64 j ∧ RowIs wr sl G 3 1 (onL O1 j).length (ints (onL O1 j)) ∧ (∀ g, G = some g → w.heap.size ≤ g) ∧ Below w.heap.size w wr) (fun _ i _ => 64 - (intOf i).toNat)
  case atStart => exact ⟨0, none, by omega, rfl, ⟨rfl, .inl ⟨rfl, rfl, rfl⟩⟩, fun g hg => (by cases hg), hbY⟩
  case round =>
    obtain ⟨j, G, hj, rfl, hrow, hG, hb⟩ := hrel
    have hbs := hb.size
    by_cases hlt : j < 64
    · have hj1 : (j : Int) < 64 := by omega
      have hj0 : (0 : Int) ≤ (j : Int) := by omega
      have hO : onL O1 (j + 1) = if O1.getD j false then onL O1 j ++ [(j : Int)] else onL O1 j := rfl
      have hln := onL_length O1 j
      have HO := hid hO
      clear hO
      have hix := fun w => index_on O1 l1 hlt w
      cases hb1 : O1.getD j false
      · rw [hb1] at hix HO
        go_wp2
        go_roundw
        case rel =>
          refine ⟨j + 1, G, by omega, by go_num, ?_, hG, hb⟩
          rw [HO.out, if_neg (by simp)]
          exact hrow
        case measure => simp [intOf]; omega
      · rw [hb1] at hix HO
        obtain ⟨v', w1, G', r1, r2, r3, r4⟩ := grow_int hrow hG hbs (by omega) (j : Int)
        go_upto_region 11 with (fail)
        refine wp_region_doc (fun F' hF => ?_)
        have HF := hid hF
        clear hF
        refine doc_val rfl (by first | (go_simp; done) | (go_simp; exact ⟨rfl, rfl⟩) | (go_simp; with_reducible rfl)) ?_
        simp only [Act.put, List.setIfInBounds_toArray, List.set_cons_zero, List.set_cons_succ]
        refine doc_val rfl (by first | (go_simp; done) | (go_simp; exact ⟨rfl, rfl⟩) | (go_simp; with_reducible rfl)) ?_
        simp only [Act.put, List.setIfInBounds_toArray, List.set_cons_zero, List.set_cons_succ]
        refine doc_val rfl (by first | (go_simp; done) | (go_simp; exact ⟨rfl, rfl⟩) | (go_simp; with_reducible rfl)) ?_
        simp only [Act.put, List.setIfInBounds_toArray, List.set_cons_zero, List.set_cons_succ]
        refine doc_val rfl (run_append_op _ _ _ _ _ _ _ _ _ r1) ?_
        simp only [Act.put, List.setIfInBounds_toArray, List.set_cons_zero, List.set_cons_succ]
        refine doc_val rfl (by first | (go_simp; done) | (go_simp; exact ⟨rfl, rfl⟩) | (go_simp; with_reducible rfl)) ?_
        simp only [Act.put, List.setIfInBounds_toArray, List.set_cons_zero, List.set_cons_succ]
        refine doc_end (HF.out _ _ ?_)
        clear HF F'
        go_wp2
        go_roundw
        case rel =>
          refine ⟨j + 1, some G', by omega, by go_num, ?_, fun g hg => by cases hg; exact r3, hb.trans r4⟩
          rw [HO.out, if_pos rfl]
          exact r2
        case measure => simp [intOf]; omega
    · obtain rfl : j = 64 := by omega
      go_wp2
      go_returns
      have hrd := RowIs.rd hrow
      refine ⟨_, rfl, ?_, hb⟩
      rw [HR.out]
      exact hrd
end Go.Proofs.Ytboekafmplomhaa
