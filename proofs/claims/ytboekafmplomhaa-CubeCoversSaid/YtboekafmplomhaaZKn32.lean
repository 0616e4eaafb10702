/-
  The library's strings.Builder: a byte written, the string told.
-/
import Derived.Test.YtboekafmplomhaaZCuA
import Derived.Test.YtboekafmplomhaaZCuP
import Derived.Lib.Builder
import Derived.Lib.UnsafeStr
import Derived.Laws.Externs
import Derived.Test.YtboekafmplomhaaZCuD
import Derived.Test.YtboekafmplomhaaZCuH
set_option linter.unusedVariables false
set_option linter.unusedSimpArgs false
namespace Go.Proofs.Ytboekafmplomhaa
open Go.RowKit

theorem infoBy_some : (Try.prog.info? 5).isSome = true := by kernel_rfl
noncomputable def infoBy : TypeInfo := (Try.prog.info? 5).get infoBy_some
theorem infoBy_is : Try.prog.info? 5 = some infoBy := (Option.some_get _).symm
theorem infoBy_zero : infoBy.zero = some (.int .u8 0) := by kernel_rfl
theorem infoBy_size : infoBy.size = 1 := by kernel_rfl
theorem infoBy_bytes : infoBy.bytes = 1 := by kernel_rfl
theorem infoBd_some : (Try.prog.info? 137).isSome = true := by kernel_rfl
noncomputable def infoBd : TypeInfo := (Try.prog.info? 137).get infoBd_some
theorem infoBd_is : Try.prog.info? 137 = some infoBd := (Option.some_get _).symm
theorem infoBd_size : infoBd.size = 2 := by kernel_rfl
theorem liesBd : liesAt Try.prog Try.prog.depth 137 (2 / Try.prog.cellsOf 137) 0 137 1 = true := by kernel_rfl

/-- A builder, the bytes that it holds. -/
structure BldIs (w : World) (bb : Nat) (ad : Option Addr) (sv : Value) (G : Option Nat) (l : List UInt8) : Prop where
  b : Blk w bb 137 [.pointer ad, sv]
  row : RowIs w sv G 5 1 l.length (Lib.byteCells l)
  ok : ad = none ∨ ad = some ⟨bb, 0, none⟩

set_option maxRecDepth 100000 in
theorem check_used {w : World} {bb : Nat} (h0 : w.cell? ⟨bb, 0, none⟩ = some (.pointer (some ⟨bb, 0, none⟩))) :
    Calls Try.prog 142 #[.pointer (some ⟨bb, 0, none⟩)] w (fun e w' => e = .returned (.tuple #[]) ∧ w' = w) := by
  go_enter Try.func142, Try.ntmps142
  go_wp2
  rw [Lib.run_neq_ptr_same w _ Try.underlying135 infoBd_is]
  go_wp2
  go_end0
  exact ⟨rfl, rfl⟩

set_option maxRecDepth 100000 in
theorem check_fresh {w : World} {bb : Nat} {sv : Value} (h : Blk w bb 137 [.pointer none, sv]) :
    Calls Try.prog 142 #[.pointer (some ⟨bb, 0, none⟩)] w (fun e w' => e = .returned (.tuple #[]) ∧ w' = w.setCell ⟨bb, 0, none⟩ (.pointer (some ⟨bb, 0, none⟩))) := by
  have h0 := h.cell 0
  have hf := h.free 0
  have hz := h.lt
  have hsh : w.shape? bb = some (137, 2) := by unfold Blk at h; simp [World.shape?, h]
  simp only [List.getElem?_cons_zero] at h0
  go_enter Try.func142, Try.ntmps142
  go_wp2
  rw [Lib.run_to_unsafe w ⟨bb, 0, none⟩ Try.underlying135 Try.underlying171 infoBd_is (by rw [infoBd_size]; decide) hsh (Nat.zero_lt_succ 1)]
  simp only [Result.andThen]
  rw [Oper.upon_value]
  go_wp2
  rw [run_callFunc_extern Try.func156 (by kernel_rfl) (by kernel_rfl) (by kernel_rfl) (e := Extern.AbiNoEscape.same) (by kernel_rfl)]
  rw [Lib.run_noEscape]
  simp only [Result.andThen]
  rw [Oper.upon_value]
  go_wp2
  rw [Lib.run_from_unsafe w ⟨bb, 0, none⟩ Try.underlying171 Try.underlying135 infoBd_is hsh liesBd]
  simp only [Result.andThen]
  rw [Oper.upon_value]
  go_wp2
  go_end0
  exact ⟨rfl, rfl⟩

theorem byteCells_snoc (l : List UInt8) (x : UInt8) : Lib.byteCells (l ++ [x]) = Lib.byteCells l ++ [.int .u8 x.toNat] := by simp [Lib.byteCells]

/-- One more byte in a row of our own. -/
theorem by_one {w : World} {sv : Value} {G : Option Nat} {l : List UInt8} (h : RowIs w sv G 5 1 l.length (Lib.byteCells l)) (hk : l.length ≤ 10000) (x : UInt8) :
    ∃ (v' : Value) (G' : Nat) (w1 : World), (Builtin.append_ #[100, 100] 100 #[sv, .slice (some ⟨w.heap.size, 0, none⟩) 1 1]).run Try.prog (w.alloc (.cells #[.int .u8 x.toNat] 5)) = .ok v' w1 ∧
      RowIs w1 v' (some G') 5 1 (l ++ [x]).length (Lib.byteCells (l ++ [x])) ∧ (G = some G' ∨ (w.heap.size ≤ G' ∧ G' < w1.heap.size)) ∧ (∀ k, k < w.heap.size → G ≠ some k → w1.heap[k]? = w.heap[k]?) ∧
      w1.os = w.os ∧ w1.tape = w.tape ∧ w1.output = w.output ∧ w.heap.size ≤ w1.heap.size := by
  have lit : (w.alloc (.cells #[.int .u8 x.toNat] 5)).heap[w.heap.size]? = some (.cells #[.int .u8 x.toNat] 5 (0, 0)) := World.heap_alloc_last w _
  have row : RowIs (w.alloc (.cells #[.int .u8 x.toNat] 5)) sv G 5 1 l.length (Lib.byteCells l) := RowIs.keep h (fun g' hg => Below.heap_alloc _ _ _ (RowIs.lt h g' hg))
  obtain ⟨v', w1, G', r1, r2, r3, r4⟩ := append_row (P := Try.prog) 100 100 infoBy (.int .u8 0) 1 Try.underlying100 infoBy_is infoBy_zero infoBy_size infoBy_bytes rfl (by omega) row
    ⟨w.heap.size, 0, none⟩ 1 1 [.int .u8 x.toNat] rfl (fun j u hu => by
      rcases j with _ | j
      · simp at hu; subst hu
        show (w.alloc (.cells #[.int .u8 x.toNat] 5)).cell? ⟨w.heap.size, 0, none⟩ = _
        simp only [World.cell?]
        rw [lit]; rfl
      · simp at hu) (by simp [Value.oneCell']) (by omega) (by unfold maxLen; omega) (by omega)
  have e2 : (l ++ [x]).length = l.length + 1 := by simp
  rw [← byteCells_snoc, ← e2] at r2
  refine ⟨v', G', w1, r1, r2, ?_, fun k hk hn => ?_, r3.os, r3.tape, r3.output, by have := r3.size; simp at this; omega⟩
  · rcases r4 with e | ⟨e, e'⟩
    · exact .inl e
    · simp at e; exact .inr ⟨by omega, e'⟩
  · exact (r3.block k (by simp; omega) (fun e => hn e.symm)).trans (Below.heap_alloc _ _ _ hk)

theorem BldIs.gne {w : World} {bb : Nat} {ad : Option Addr} {sv : Value} {G : Option Nat} {l : List UInt8} (h : BldIs w bb ad sv G l) : G ≠ some bb := fun e => by
  obtain ⟨-, ⟨-, -, h2⟩ | ⟨g', cap, cur, -, h2, h3, -⟩⟩ := h.row
  · rw [e] at h2; cases h2
  · rw [e] at h2; cases h2
    have h4 := h.b
    unfold Blk at h4; rw [h4] at h3; cases h3
theorem check_any {w : World} {bb : Nat} {ad : Option Addr} {sv : Value} {G : Option Nat} {l : List UInt8} (h : BldIs w bb ad sv G l) :
    Calls Try.prog 142 #[.pointer (some ⟨bb, 0, none⟩)] w (fun e w' => e = .returned (.tuple #[]) ∧ BldIs w' bb (some ⟨bb, 0, none⟩) sv G l ∧ StoStep w w' [bb] [bb]) := by
  rcases h.ok with rfl | rfl
  · refine (check_fresh h.b).mono ?_
    rintro e w' ⟨rfl, rfl⟩
    exact ⟨rfl, ⟨h.b.set_ 0 _, h.row.keep (fun g hg => Below.heap_setCell _ _ _ _ (fun e => h.gne (by rw [hg]; exact congrArg some e))), .inr rfl⟩, StoStep.set (by simp) 0 _⟩
  · refine (check_used (h.b.cell 0)).mono ?_
    rintro e w' ⟨rfl, rfl⟩
    exact ⟨rfl, h, StoStep.refl _ _⟩

set_option maxHeartbeats 1000000 in
theorem writeByte_any {w : World} {bb : Nat} {ad : Option Addr} {sv : Value} {G : Option Nat} {l : List UInt8} (h : BldIs w bb ad sv G l) (hk : l.length ≤ 10000) (x : UInt8) :
    Calls Try.prog 121 #[.pointer (some ⟨bb, 0, none⟩), .int .u8 x.toNat] w (fun e w' => e = .returned .nilIface ∧ ∃ sv' G', BldIs w' bb (some ⟨bb, 0, none⟩) sv' (some G') (l ++ [x]) ∧ StoStep w w' (bb :: G.toList) [bb, G']) := by
  have K := check_any h
  clear h
  go_enter Try.func121, Try.ntmps121
  go_upto_region 2 with (go_at_call 142; refine K.mono ?_; rintro e w1 ⟨rfl, h1, st1⟩)
  obtain ⟨v', G', w2, r1, r2, r3, r4, ro, rt, rp, rz⟩ := by_one h1.row hk x
  obtain ⟨va, vc, rfl, -⟩ := r2.form
  have hg1 := h1.gne
  have b2 := h1.b.keep (r4 bb h1.b.lt hg1)
  have c1 := h1.b.cell 1
  have z1 := h1.b.lt
  have c2 := b2.cell 1
  have f2 := b2.free 1
  have z2 := b2.lt
  simp only [List.getElem?_cons_zero, List.getElem?_cons_succ] at c1 c2
  have gb : G' ≠ bb := by
    rcases r3 with e | e
    · exact fun e' => hg1 (by rw [e, e'])
    · omega
  have BN : BldIs (w2.setCell ⟨bb, 1, none⟩ (.slice va (l ++ [x]).length vc)) bb (some ⟨bb, 0, none⟩) (.slice va (l ++ [x]).length vc) (some G') (l ++ [x]) :=
    ⟨b2.set_ 1 _, r2.keep (fun g hg => by cases hg; exact Below.heap_setCell _ _ _ _ gb), .inr rfl⟩
  have SN : StoStep w (w2.setCell ⟨bb, 1, none⟩ (.slice va (l ++ [x]).length vc)) (bb :: G.toList) [bb, G'] := by
    have s1 : StoStep w1 w2 (bb :: G.toList) [bb, G'] := ⟨ro, rt, rp, rz, fun k h1 h2 => r4 k h1 (fun e => h2 (by rw [e]; simp)), fun k hk => by
      simp only [List.mem_cons, List.not_mem_nil, or_false] at hk
      rcases hk with rfl | rfl
      · exact .inl (by simp)
      · rcases r3 with e | e
        · exact .inl (by rw [e]; simp)
        · exact .inr e⟩
    have s0 : StoStep w w1 (bb :: G.toList) (bb :: G.toList) := ⟨st1.os, st1.tape, st1.output, st1.size, fun k h1 h2 => st1.block k h1 (fun hm => h2 (by simp only [List.mem_singleton] at hm; simp [hm])), fun k hk => .inl hk⟩
    exact (s0.trans s1).trans (StoStep.set (by simp) 1 _)
  have BH := hid BN
  have SH := hid SN
  clear BN SN r2 r3 r4 ro rt rp rz h1 st1 b2
  refine wp_region_doc (fun F' hF => ?_)
  have HF := hid hF
  clear hF
  iterate 7 (refine doc_val rfl (by first | (go_simp; done) | (go_simp; exact ⟨rfl, rfl⟩) | (go_simp; with_reducible rfl)) ?_; simp only [Act.put, List.setIfInBounds_toArray, List.set_cons_zero, List.set_cons_succ])
  refine doc_val rfl (run_append_op _ _ _ _ _ _ _ _ _ r1) ?_
  simp only [Act.put, List.setIfInBounds_toArray, List.set_cons_zero, List.set_cons_succ]
  iterate 2 (refine doc_val rfl (by first | (go_simp; done) | (go_simp; exact ⟨rfl, rfl⟩) | (go_simp; with_reducible rfl)) ?_; simp only [Act.put, List.setIfInBounds_toArray, List.set_cons_zero, List.set_cons_succ])
  refine doc_skip rfl (by first | (go_simp; done) | (go_simp; exact ⟨rfl, rfl⟩) | (go_simp; with_reducible rfl)) ?_
  simp only [Act.put, List.setIfInBounds_toArray, List.set_cons_zero, List.set_cons_succ]
  refine doc_end (HF.out _ _ ?_)
  clear HF F'
  go_wp2
  go_returns
  have bn := BH.out
  have sn := SH.out
  simp only [List.length_append, List.length_cons, List.length_nil, Nat.zero_add] at bn sn
  exact ⟨rfl, _, G', bn, sn⟩

set_option maxHeartbeats 1000000 in
theorem string_any {w : World} {bb : Nat} {ad : Option Addr} {sv : Value} {G : Option Nat} {l : List UInt8} (h : BldIs w bb ad sv G l) {B : Nat} (hBb : B ≤ bb) (hB : ∀ g, G = some g → B ≤ g) (hw : B ≤ w.heap.size) (hn : G = none ↔ l = []) :
    Calls Try.prog 122 #[.pointer (some ⟨bb, 0, none⟩)] w (fun e w' => e = .returned (.string ⟨l.toArray⟩) ∧ Below B w w') := by
  have c1 := h.b.cell 1
  have z1 := h.b.lt
  simp only [List.getElem?_cons_zero, List.getElem?_cons_succ] at c1
  obtain ⟨-, ⟨rfl, h2, rfl⟩ | ⟨g, cap, cur, rfl, rfl, h3, h4, h5, h6, h7⟩⟩ := h.row
  · have hl : l = [] := hn.1 rfl
    subst hl
    have hSD : ∀ W : World, (Builtin.unsafeSliceData_ #[100] 166 #[.slice none 0 0]).run Try.prog W = .ok (.pointer none) W := fun W => rfl
    have hUS : ∀ W : World, (Builtin.unsafeString_ #[166, 3] 9 #[.pointer none, .int .i64 0]).run Try.prog W = .ok (.string .empty) W := fun W => Lib.run_unsafeString_none W _ _ _ _
    go_enter Try.func122, Try.ntmps122
    go_upto_region 1 with (fail)
    refine wp_region_tail 10 (by kernel_rfl) (by kernel_rfl) (by kernel_rfl) (by kernel_rfl) (by kernel_rfl) (fun F hF => ?_)
    simp only [List.take_succ_cons, List.take_zero, List.drop_succ_cons, List.drop_zero] at hF ⊢
    have HF := hid hF; clear hF
    repeat (first
      | (apply text_skip; (focus rfl); simp only [Act.put, List.setIfInBounds_toArray, List.set_cons_zero, List.set_cons_succ])
      | (apply text_val; (focus rfl); (focus (intro _ _; go_simp; with_reducible rfl)); simp only [Act.put, List.setIfInBounds_toArray, List.set_cons_zero, List.set_cons_succ])
      | (apply text_if; (focus (first | exact wanted_t rfl rfl | exact wanted_f rfl rfl | exact wanted_gt rfl rfl | exact wanted_gf rfl rfl)); (focus (intro hc _ _; (try simp only [Bool.and_eq_true, Bool.not_eq_true', Bool.true_and] at hc); go_simp; with_reducible rfl)); simp only [Act.put, List.setIfInBounds_toArray, List.set_cons_zero, List.set_cons_succ]))
    refine text_nil (HF.out _ (fun mx dx => ?_))
    clear HF F
    go_wp2
    go_returns
    exact ⟨rfl, by (repeat' (first | (with_reducible exact Below.refl _ _) | (with_reducible refine Below.ext_mk ?_ ?_ _ _) | (with_reducible refine Below.alloc ?_ ?_ _) | (with_reducible refine Below.drew ?_) | (with_reducible refine Below.setCell ?_ ?_ _) | go_size))⟩
  · have hl : l ≠ [] := fun e => by cases hn.2 e
    have hl0 : l.length ≠ 0 := by simpa using hl
    have hSD : ∀ W : World, (Builtin.unsafeSliceData_ #[100] 166 #[.slice (some ⟨g, 0, none⟩) l.length cap]).run Try.prog W = .ok (.pointer (some ⟨g, 0, none⟩)) W := fun W => Lib.run_unsafeSliceData_row _ _ _ _ _ _ (by omega)
    have hUS : ∀ (m : Array Obj) (d : Nat), (Builtin.unsafeString_ #[166, 3] 9 #[.pointer (some ⟨g, 0, none⟩), .int .i64 l.length]).run Try.prog (w.ext m d) = .ok (.string ⟨l.toArray⟩) ((w.ext m d).freeze ⟨g, 0, none⟩ l.length) := fun m d => by
      have hgl : g < w.heap.size := (Array.getElem?_eq_some_iff.1 h3).1
      have h3' : (w.ext m d).heap[g]? = some (.cells cur 5 (0, 0)) := (World.heap_ext _ _ _ hgl).trans h3
      refine Lib.run_unsafeString_row (w.ext m d) 166 3 9 5 Try.underlying166 (by kernel_rfl) g cur.size (by simp [World.shape?, h3']) l hl (by omega) (by unfold maxLen at h5; omega) ?_
      intro j x hx
      have hj : (⟨g, 0, none⟩ : Addr).add j = ⟨g, j, none⟩ := by unfold Addr.add; by_cases e : j = 0 <;> simp [e]
      rw [hj]
      have hjl : j < l.length := (List.getElem?_eq_some_iff.1 hx).1
      have h8 : (Lib.byteCells l)[j]? = some (.int .u8 x.toNat) := by simp [Lib.byteCells, hx]
      rw [← h7, List.getElem?_take_of_lt (by omega)] at h8
      simp only [World.cell?, h3']
      simpa using h8
    clear h3 h4 h5 h6 h7 hn hl hl0 h
    go_enter Try.func122, Try.ntmps122
    go_upto_region 1 with (fail)
    refine wp_region_tail 10 (by kernel_rfl) (by kernel_rfl) (by kernel_rfl) (by kernel_rfl) (by kernel_rfl) (fun F hF => ?_)
    simp only [List.take_succ_cons, List.take_zero, List.drop_succ_cons, List.drop_zero] at hF ⊢
    have HF := hid hF; clear hF
    repeat (first
      | (apply text_skip; (focus rfl); simp only [Act.put, List.setIfInBounds_toArray, List.set_cons_zero, List.set_cons_succ])
      | (apply text_val; (focus rfl); (focus (intro _ _; go_simp; with_reducible rfl)); simp only [Act.put, List.setIfInBounds_toArray, List.set_cons_zero, List.set_cons_succ])
      | (apply text_if; (focus (first | exact wanted_t rfl rfl | exact wanted_f rfl rfl | exact wanted_gt rfl rfl | exact wanted_gf rfl rfl)); (focus (intro hc _ _; (try simp only [Bool.and_eq_true, Bool.not_eq_true', Bool.true_and] at hc); go_simp; with_reducible rfl)); simp only [Act.put, List.setIfInBounds_toArray, List.set_cons_zero, List.set_cons_succ]))
    refine text_nil (HF.out _ (fun mx dx => ?_))
    clear HF F
    go_wp2
    go_returns
    exact ⟨rfl, Lib.below_freeze (by (repeat' (first | (with_reducible exact Below.refl _ _) | (with_reducible refine Below.ext_mk ?_ ?_ _ _) | (with_reducible refine Below.alloc ?_ ?_ _) | (with_reducible refine Below.drew ?_) | (with_reducible refine Below.setCell ?_ ?_ _) | go_size))) (p := ⟨g, 0, none⟩) (hB g rfl) _⟩
end Go.Proofs.Ytboekafmplomhaa
set_option linter.unusedVariables false
set_option linter.unusedSimpArgs false
namespace Go.Proofs.Ytboekafmplomhaa
open Go.RowKit

def charL (c : Cu) (v : Nat) : UInt8 := if Nat.testBit c.1 v then (if Nat.testBit c.2 v then 49 else 48) else 42
def cntV (n : Int) : Nat := (max 0 (min n 64)).toNat
def textV (c : Cu) (n : Int) : List UInt8 := if mayC c then (List.range (cntV n)).map (charL c) else []

theorem range_snoc {α : Type} (f : Nat → α) (k : Nat) : (List.range (k + 1)).map f = (List.range k).map f ++ [f k] := by
  rw [List.range_succ]; simp

set_option maxHeartbeats 4000000 in
theorem ctext_any {c : Cu} (hc : CuOk c) (n : Int) (w : World) : Calls Try.prog 68 #[cv c, .int .i64 n] w (Pure (.string ⟨(textV c n).toArray⟩) w) := by
  have M := cmay_any hc
  go_enter Try.func68, Try.ntmps68
  go_upto_region 1 with (fail)
  refine wp_gen (fun V hV => ?_)
  have hbV : Below w.heap.size w V := by rw [hV]; (repeat' (first | (with_reducible exact Below.refl _ _) | (with_reducible refine Below.ext_mk ?_ ?_ _ _) | (with_reducible refine Below.alloc ?_ ?_ _) | (with_reducible refine Below.drew ?_) | (with_reducible refine Below.setCell ?_ ?_ _) | go_size))
  have bV : Blk V w.heap.size 85 [.int .u64 c.1, .int .u64 c.2] := by rw [hV]; exact Blk.new w 85 [.int .u64 c.1, .int .u64 c.2]
  have zV0 := bV.lt
  have cV0_0 := bV.cell 0
  have cV0_1 := bV.cell 1
  have fV0_0 := bV.free 0
  have fV0_1 := bV.free 1
  simp only [List.getElem?_cons_zero, List.getElem?_cons_succ] at cV0_0 cV0_1
  clear hV
  by_cases hm : mayC c = true
  · rw [hm] at M
    have bz : Blk V w.heap.size 85 [.int .u64 c.1, .int .u64 c.2] := bV
    have hT : textV c n = (List.range (cntV n)).map (charL c) := by unfold textV; rw [if_pos hm]
    have HT := hid hT
    clear hT hm
    go_upto_region 4 with (go_at_call 58; refine (M _).mono ?_; rintro e w' ⟨rfl, m1, d1, rfl⟩)
    refine wp_gen (fun X hX => ?_)
    have hbX : Below w.heap.size w X := by rw [hX]; (repeat' (first | (with_reducible exact hbV) | (with_reducible exact Below.refl _ _) | (with_reducible refine Below.ext_mk ?_ ?_ _ _) | (with_reducible refine Below.alloc ?_ ?_ _) | (with_reducible refine Below.drew ?_) | (with_reducible refine Below.setCell ?_ ?_ _) | go_size))
    have zX : w.heap.size + 1 ≤ X.heap.size := by rw [hX]; simp; omega
    obtain ⟨bb, hbb⟩ : ∃ bb, bb = V.heap.size + m1.size := ⟨_, rfl⟩
    have hB0 : BldIs X bb none (.slice none 0 0) none [] := by
      refine ⟨?_, ⟨rfl, .inl ⟨rfl, rfl, rfl⟩⟩, .inl rfl⟩
      rw [hX, hbb]
      have := Blk.new (V.ext m1 d1) 137 [.pointer none, .slice none 0 0]
      simpa using this
    have bzX : Blk X w.heap.size 85 [.int .u64 c.1, .int .u64 c.2] := by
      rw [hX]; exact bz.below (by (repeat' (first | (with_reducible exact Below.refl _ _) | (with_reducible refine Below.ext_mk ?_ ?_ _ _) | (with_reducible refine Below.alloc ?_ ?_ _) | (with_reducible refine Below.drew ?_) | (with_reducible refine Below.setCell ?_ ?_ _) | go_size)))
    have hbw : w.heap.size < bb := by omega
    rw [← hbb]
    clear hbb
    have hX0 : True := trivial
    clear hX bz cV0_0 cV0_1 fV0_0 fV0_1 M
    by_cases h64 : 64 < n
    · have h0 : 0 < n := by omega
      go_wp2
      go_loopw [13] (fun i wr => ∃ (k : Nat) (ad : Option Addr) (sv : Value) (G : Option Nat), k ≤ 64 ∧ i = .int .i64 k ∧ BldIs wr bb ad sv G ((List.range k).map (charL c)) ∧ Below w.heap.size w wr ∧ (∀ g, G = some g → w.heap.size ≤ g) ∧ (G = none ↔ k = 0) ∧ Blk wr w.heap.size 85 [.int .u64 c.1, .int .u64 c.2]) (fun i _ => 64 - (intOf i).toNat)
      case atStart => exact ⟨0, none, _, none, by omega, rfl, hB0, hbX, fun g hg => (by cases hg), by simp, bzX⟩
      case round =>
        obtain ⟨k, ad, sv, G, hk, rfl, hB, hbe, hg, hgn, hC⟩ := hrel
        have hbs := hbe.size
        by_cases hlt : k < 64
        · have hk1 : (k : Int) < 64 := by omega
          have hk0 : (0 : Int) ≤ (k : Int) := by omega
          have hgc : G ≠ some w.heap.size := fun e => by
            obtain ⟨-, ⟨-, -, h2⟩ | ⟨g', cap, cur, -, h2, h3, -⟩⟩ := hB.row
            · rw [e] at h2; cases h2
            · rw [e] at h2; cases h2
              unfold Blk at hC; rw [hC] at h3; cases h3
          have c0 := hC.cell 0
          have c1 := hC.cell 1
          have zc := hC.lt
          simp only [List.getElem?_cons_zero, List.getElem?_cons_succ] at c0 c1
          have g1 := bit_and hc.1 (show k < 64 by omega)
          have g2 := bit_and hc.2 (show k < 64 by omega)
          have hle : ((List.range k).map (charL c)).length ≤ 10000 := by simp; omega
          have W1 := writeByte_any hB hle (charL c k)
          clear hgn hX0
          by_cases t1 : Nat.testBit c.1 k = true
          · rw [if_pos t1] at g1
            by_cases t2 : Nat.testBit c.2 k = true
            · rw [if_pos t2] at g2
              have e : ((charL c k).toNat : Int) = 49 := by unfold charL; rw [if_pos t1, if_pos t2]; rfl
              rw [e] at W1
              clear t1 t2 e
              go_wp2_with (go_at_call 121; refine W1.mono ?_; rintro e w2 ⟨rfl, sv', G', hB2, st2⟩)
              have hbl := hB2.b.lt
              go_roundw
              case rel =>
                refine ⟨k + 1, _, sv', some G', by omega, by go_num, by rw [range_snoc]; exact hB2, ?_, ?_, ?_, ?_⟩
                · exact hbe.trans (st2.below (fun q hq => by
                    simp only [List.mem_cons] at hq
                    rcases hq with rfl | hq
                    · omega
                    · exact hg q (by simpa using hq)) hbs)
                · rintro g' hg'
                  cases hg'
                  rcases st2.fresh G' (by simp) with h5 | h5
                  · simp only [List.mem_cons] at h5
                    rcases h5 with h5 | h5
                    · omega
                    · exact hg G' (by simpa using h5)
                  · omega
                · simp
                · exact hC.keep (st2.block _ hC.lt (fun hm => by
                    simp only [List.mem_cons] at hm
                    rcases hm with h5 | h5
                    · omega
                    · exact hgc (by simpa using h5)))
              case measure => first | (simp [intOf]; done) | (simp [intOf]; omega)
            · rw [if_neg t2] at g2
              have e : ((charL c k).toNat : Int) = 48 := by unfold charL; rw [if_pos t1, if_neg t2]; rfl
              rw [e] at W1
              clear t1 t2 e
              go_wp2_with (go_at_call 121; refine W1.mono ?_; rintro e w2 ⟨rfl, sv', G', hB2, st2⟩)
              have hbl := hB2.b.lt
              go_roundw
              case rel =>
                refine ⟨k + 1, _, sv', some G', by omega, by go_num, by rw [range_snoc]; exact hB2, ?_, ?_, ?_, ?_⟩
                · exact hbe.trans (st2.below (fun q hq => by
                    simp only [List.mem_cons] at hq
                    rcases hq with rfl | hq
                    · omega
                    · exact hg q (by simpa using hq)) hbs)
                · rintro g' hg'
                  cases hg'
                  rcases st2.fresh G' (by simp) with h5 | h5
                  · simp only [List.mem_cons] at h5
                    rcases h5 with h5 | h5
                    · omega
                    · exact hg G' (by simpa using h5)
                  · omega
                · simp
                · exact hC.keep (st2.block _ hC.lt (fun hm => by
                    simp only [List.mem_cons] at hm
                    rcases hm with h5 | h5
                    · omega
                    · exact hgc (by simpa using h5)))
              case measure => first | (simp [intOf]; done) | (simp [intOf]; omega)
          · rw [if_neg t1] at g1
            have e : ((charL c k).toNat : Int) = 42 := by unfold charL; rw [if_neg t1]; rfl
            rw [e] at W1
            clear t1 e
            go_wp2_with (go_at_call 121; refine W1.mono ?_; rintro e w2 ⟨rfl, sv', G', hB2, st2⟩)
            have hbl := hB2.b.lt
            go_roundw
            case rel =>
              refine ⟨k + 1, _, sv', some G', by omega, by go_num, by rw [range_snoc]; exact hB2, ?_, ?_, ?_, ?_⟩
              · exact hbe.trans (st2.below (fun q hq => by
                  simp only [List.mem_cons] at hq
                  rcases hq with rfl | hq
                  · omega
                  · exact hg q (by simpa using hq)) hbs)
              · rintro g' hg'
                cases hg'
                rcases st2.fresh G' (by simp) with h5 | h5
                · simp only [List.mem_cons] at h5
                  rcases h5 with h5 | h5
                  · omega
                  · exact hg G' (by simpa using h5)
                · omega
              · simp
              · exact hC.keep (st2.block _ hC.lt (fun hm => by
                  simp only [List.mem_cons] at hm
                  rcases hm with h5 | h5
                  · omega
                  · exact hgc (by simpa using h5)))
            case measure => first | (simp [intOf]; done) | (simp [intOf]; omega)
        · have hk1 : ¬ (k : Int) < 64 := by omega
          have ek : k = cntV n := by unfold cntV; omega
          have ST := string_any hB (B := w.heap.size) (by omega) hg hbs (by rw [hgn]; simp)
          rw [ek] at ST
          clear hX0 ek
          go_wp2_with (go_at_call 122; refine ST.mono ?_; rintro e w2 ⟨rfl, hb2⟩)
          go_returns
          exact Pure.of (by rw [HT.out]; rfl) (hbe.trans hb2)
    · by_cases h0 : n ≤ 0
      · go_wp2
        go_loopw [13] (fun i wr => ∃ (k : Nat) (ad : Option Addr) (sv : Value) (G : Option Nat), k ≤ 0 ∧ i = .int .i64 k ∧ BldIs wr bb ad sv G ((List.range k).map (charL c)) ∧ Below w.heap.size w wr ∧ (∀ g, G = some g → w.heap.size ≤ g) ∧ (G = none ↔ k = 0) ∧ Blk wr w.heap.size 85 [.int .u64 c.1, .int .u64 c.2]) (fun i _ => 0 - (intOf i).toNat)
        case atStart => exact ⟨0, none, _, none, by omega, rfl, hB0, hbX, fun g hg => (by cases hg), by simp, bzX⟩
        case round =>
          obtain ⟨k, ad, sv, G, hk, rfl, hB, hbe, hg, hgn, hC⟩ := hrel
          have hbs := hbe.size
          have hk1 : ¬ (k : Int) < 0 := by omega
          have ek : k = cntV n := by unfold cntV; omega
          have ST := string_any hB (B := w.heap.size) (by omega) hg hbs (by rw [hgn]; simp)
          rw [ek] at ST
          clear hX0 ek
          go_wp2_with (go_at_call 122; refine ST.mono ?_; rintro e w2 ⟨rfl, hb2⟩)
          go_returns
          exact Pure.of (by rw [HT.out]; rfl) (hbe.trans hb2)
      · obtain ⟨m, rfl⟩ : ∃ m : Nat, n = (m : Int) := ⟨n.toNat, by omega⟩
        go_wp2
        go_loopw [13] (fun i wr => ∃ (k : Nat) (ad : Option Addr) (sv : Value) (G : Option Nat), k ≤ m ∧ i = .int .i64 k ∧ BldIs wr bb ad sv G ((List.range k).map (charL c)) ∧ Below w.heap.size w wr ∧ (∀ g, G = some g → w.heap.size ≤ g) ∧ (G = none ↔ k = 0) ∧ Blk wr w.heap.size 85 [.int .u64 c.1, .int .u64 c.2]) (fun i _ => m - (intOf i).toNat)
        case atStart => exact ⟨0, none, _, none, by omega, rfl, hB0, hbX, fun g hg => (by cases hg), by simp, bzX⟩
        case round =>
          obtain ⟨k, ad, sv, G, hk, rfl, hB, hbe, hg, hgn, hC⟩ := hrel
          have hbs := hbe.size
          by_cases hlt : k < m
          · have hk1 : (k : Int) < m := by omega
            have hk0 : (0 : Int) ≤ (k : Int) := by omega
            have hgc : G ≠ some w.heap.size := fun e => by
              obtain ⟨-, ⟨-, -, h2⟩ | ⟨g', cap, cur, -, h2, h3, -⟩⟩ := hB.row
              · rw [e] at h2; cases h2
              · rw [e] at h2; cases h2
                unfold Blk at hC; rw [hC] at h3; cases h3
            have c0 := hC.cell 0
            have c1 := hC.cell 1
            have zc := hC.lt
            simp only [List.getElem?_cons_zero, List.getElem?_cons_succ] at c0 c1
            have g1 := bit_and hc.1 (show k < 64 by omega)
            have g2 := bit_and hc.2 (show k < 64 by omega)
            have hle : ((List.range k).map (charL c)).length ≤ 10000 := by simp; omega
            have W1 := writeByte_any hB hle (charL c k)
            clear hgn hX0
            by_cases t1 : Nat.testBit c.1 k = true
            · rw [if_pos t1] at g1
              by_cases t2 : Nat.testBit c.2 k = true
              · rw [if_pos t2] at g2
                have e : ((charL c k).toNat : Int) = 49 := by unfold charL; rw [if_pos t1, if_pos t2]; rfl
                rw [e] at W1
                clear t1 t2 e
                go_wp2_with (go_at_call 121; refine W1.mono ?_; rintro e w2 ⟨rfl, sv', G', hB2, st2⟩)
                have hbl := hB2.b.lt
                go_roundw
                case rel =>
                  refine ⟨k + 1, _, sv', some G', by omega, by go_num, by rw [range_snoc]; exact hB2, ?_, ?_, ?_, ?_⟩
                  · exact hbe.trans (st2.below (fun q hq => by
                      simp only [List.mem_cons] at hq
                      rcases hq with rfl | hq
                      · omega
                      · exact hg q (by simpa using hq)) hbs)
                  · rintro g' hg'
                    cases hg'
                    rcases st2.fresh G' (by simp) with h5 | h5
                    · simp only [List.mem_cons] at h5
                      rcases h5 with h5 | h5
                      · omega
                      · exact hg G' (by simpa using h5)
                    · omega
                  · simp
                  · exact hC.keep (st2.block _ hC.lt (fun hm => by
                      simp only [List.mem_cons] at hm
                      rcases hm with h5 | h5
                      · omega
                      · exact hgc (by simpa using h5)))
                case measure => first | (simp [intOf]; done) | (simp [intOf]; omega)
              · rw [if_neg t2] at g2
                have e : ((charL c k).toNat : Int) = 48 := by unfold charL; rw [if_pos t1, if_neg t2]; rfl
                rw [e] at W1
                clear t1 t2 e
                go_wp2_with (go_at_call 121; refine W1.mono ?_; rintro e w2 ⟨rfl, sv', G', hB2, st2⟩)
                have hbl := hB2.b.lt
                go_roundw
                case rel =>
                  refine ⟨k + 1, _, sv', some G', by omega, by go_num, by rw [range_snoc]; exact hB2, ?_, ?_, ?_, ?_⟩
                  · exact hbe.trans (st2.below (fun q hq => by
                      simp only [List.mem_cons] at hq
                      rcases hq with rfl | hq
                      · omega
                      · exact hg q (by simpa using hq)) hbs)
                  · rintro g' hg'
                    cases hg'
                    rcases st2.fresh G' (by simp) with h5 | h5
                    · simp only [List.mem_cons] at h5
                      rcases h5 with h5 | h5
                      · omega
                      · exact hg G' (by simpa using h5)
                    · omega
                  · simp
                  · exact hC.keep (st2.block _ hC.lt (fun hm => by
                      simp only [List.mem_cons] at hm
                      rcases hm with h5 | h5
                      · omega
                      · exact hgc (by simpa using h5)))
                case measure => first | (simp [intOf]; done) | (simp [intOf]; omega)
            · rw [if_neg t1] at g1
              have e : ((charL c k).toNat : Int) = 42 := by unfold charL; rw [if_neg t1]; rfl
              rw [e] at W1
              clear t1 e
              go_wp2_with (go_at_call 121; refine W1.mono ?_; rintro e w2 ⟨rfl, sv', G', hB2, st2⟩)
              have hbl := hB2.b.lt
              go_roundw
              case rel =>
                refine ⟨k + 1, _, sv', some G', by omega, by go_num, by rw [range_snoc]; exact hB2, ?_, ?_, ?_, ?_⟩
                · exact hbe.trans (st2.below (fun q hq => by
                    simp only [List.mem_cons] at hq
                    rcases hq with rfl | hq
                    · omega
                    · exact hg q (by simpa using hq)) hbs)
                · rintro g' hg'
                  cases hg'
                  rcases st2.fresh G' (by simp) with h5 | h5
                  · simp only [List.mem_cons] at h5
                    rcases h5 with h5 | h5
                    · omega
                    · exact hg G' (by simpa using h5)
                  · omega
                · simp
                · exact hC.keep (st2.block _ hC.lt (fun hm => by
                    simp only [List.mem_cons] at hm
                    rcases hm with h5 | h5
                    · omega
                    · exact hgc (by simpa using h5)))
              case measure => first | (simp [intOf]; done) | (simp [intOf]; omega)
          · have hk1 : ¬ (k : Int) < m := by omega
            have ek : k = cntV (m : Int) := by unfold cntV; omega
            have ST := string_any hB (B := w.heap.size) (by omega) hg hbs (by rw [hgn]; simp)
            rw [ek] at ST
            clear hX0 ek
            go_wp2_with (go_at_call 122; refine ST.mono ?_; rintro e w2 ⟨rfl, hb2⟩)
            go_returns
            exact Pure.of (by rw [HT.out]; rfl) (hbe.trans hb2)
  · have hm' : mayC c = false := by simpa using hm
    rw [hm'] at M
    go_wp2_with (go_at_call 58; refine (M _).mono ?_; rintro e w' ⟨rfl, m1, d1, rfl⟩)
    go_returns
    exact Pure.of (by unfold textV; rw [if_neg hm]; rfl) (by (repeat' (first | (with_reducible exact hbV) | (with_reducible exact Below.refl _ _) | (with_reducible refine Below.ext_mk ?_ ?_ _ _) | (with_reducible refine Below.alloc ?_ ?_ _) | (with_reducible refine Below.drew ?_) | (with_reducible refine Below.setCell ?_ ?_ _) | go_size)))
end Go.Proofs.Ytboekafmplomhaa
set_option linter.unusedVariables false
set_option linter.unusedSimpArgs false
namespace Go.Proofs.Ytboekafmplomhaa
open Go.RowKit

def kO : Sto × Int := orV qB.1 2 3
theorem kO_gs : Gs kO.1 := orV_gs ⟨qB_ok.wf, qB_ok.sated⟩ _ _
theorem kO_is : kO.2 = 4 := by decide +kernel
theorem kO_paths : pathsV kO.1 4 9 = ([(3, 2), (1, 1)], true) := by decide +kernel
theorem kO_cover : (coverV kO.1 4 9).2 = ([(2, 2), (1, 1)], true) := by decide +kernel
theorem kT1 : textV (3, 2) 2 = [48, 49] := by decide +kernel
theorem kT2 : textV (1, 1) 2 = [49, 42] := by decide +kernel
theorem kT3 : textV (2, 2) 2 = [42, 49] := by decide +kernel

section
variable {w : World} {p : Nat} {F : List Nat}
theorem kx_a (h : StoIs w p F (newS 20)) : Calls Try.prog 24 #[.pointer (some ⟨p, 0, none⟩), .int .i64 0] w (fun e w' => e = .returned (.int .i64 2) ∧ Turned w p F qA.1 w') := by
  have M := var_call h (newS_wf (by omega) (by omega)) 0
  unfold Tells at M
  rw [show (varV (newS 20) 0).2 = 2 from qA_is] at M
  exact M
theorem kx_b (h : StoIs w p F qA.1) : Calls Try.prog 24 #[.pointer (some ⟨p, 0, none⟩), .int .i64 1] w (fun e w' => e = .returned (.int .i64 3) ∧ Turned w p F qB.1 w') := by
  have M := var_call h qA_ok.wf 1
  unfold Tells at M
  rw [show (varV qA.1 1).2 = 3 from qB_is] at M
  exact M
theorem kx_o (h : StoIs w p F qB.1) : Calls Try.prog 28 #[.pointer (some ⟨p, 0, none⟩), .int .i64 2, .int .i64 3] w (fun e w' => e = .returned (.int .i64 4) ∧ Turned w p F kO.1 w') := by
  have M := or_call h qB_ok.wf 2 3
  unfold Tells at M
  rw [show (orV qB.1 2 3).2 = 4 from kO_is] at M
  exact M
theorem kx_p (h : StoIs w p F kO.1) : Calls Try.prog 54 #[.pointer (some ⟨p, 0, none⟩), .int .i64 4, .int .i64 9] w (fun e w' => ∃ sv G, e = .returned (.tuple #[sv, .bool true]) ∧
    RowIs w' sv G 85 2 2 (cus [(3, 2), (1, 1)]) ∧ (∀ g, G = some g → w.heap.size ≤ g) ∧ Below w.heap.size w w') := by
  have M := cpaths_live h kO_gs.1 4 9
  rw [kO_paths] at M
  exact M
theorem kx_c (h : StoIs w p F kO.1) : Calls Try.prog 55 #[.pointer (some ⟨p, 0, none⟩), .int .i64 4, .int .i64 9] w (fun e w' => ∃ sv G F', e = .returned (.tuple #[sv, .bool true]) ∧
    RowIs w' sv G 85 2 2 (cus [(2, 2), (1, 1)]) ∧ StoStep w w' F F') := by
  refine (ccover_live h kO_gs 4 9).mono ?_
  rintro e w' ⟨sv, G, F', h1, h2, h3, h4, h5, h6⟩
  rw [kO_cover] at h1 h2
  exact ⟨sv, G, F', h1, h2, h6⟩
end
theorem kx_t1 (w : World) : Calls Try.prog 68 #[.agg #[.int .u64 3, .int .u64 2], .int .i64 2] w (Pure (.string ⟨#[48, 49]⟩) w) := by
  have M := ctext_any (c := (3, 2)) ⟨by decide, by decide⟩ 2 w
  rw [kT1] at M
  exact M
theorem kx_t2 (w : World) : Calls Try.prog 68 #[.agg #[.int .u64 1, .int .u64 1], .int .i64 2] w (Pure (.string ⟨#[49, 42]⟩) w) := by
  have M := ctext_any (c := (1, 1)) ⟨by decide, by decide⟩ 2 w
  rw [kT2] at M
  exact M
theorem kx_t3 (w : World) : Calls Try.prog 68 #[.agg #[.int .u64 2, .int .u64 2], .int .i64 2] w (Pure (.string ⟨#[42, 49]⟩) w) := by
  have M := ctext_any (c := (2, 2)) ⟨by decide, by decide⟩ 2 w
  rw [kT3] at M
  exact M
/-- A row of two cubes. -/
theorem two_cubes {w : World} {sv : Value} {G : Option Nat} {a b : Cu} (h : RowIs w sv G 85 2 2 (cus [a, b])) :
    ∃ g cap, sv = .slice (some ⟨g, 0, none⟩) 2 cap ∧ G = some g ∧ g < w.heap.size ∧ w.cell? ⟨g, 0, none⟩ = some (.int .u64 a.1) ∧ w.cell? ⟨g, 1, none⟩ = some (.int .u64 a.2) ∧ w.cell? ⟨g, 2, none⟩ = some (.int .u64 b.1) ∧ w.cell? ⟨g, 3, none⟩ = some (.int .u64 b.2) := by
  obtain ⟨g, cap, e1, rfl, c0, -⟩ := h.at (i := 0) (j := 0) (by omega) (by omega)
  obtain ⟨g1, cap1, -, e2, c1, -⟩ := h.at (i := 0) (j := 1) (by omega) (by omega)
  obtain ⟨g2, cap2, -, e3, c2, -⟩ := h.at (i := 1) (j := 0) (by omega) (by omega)
  obtain ⟨g3, cap3, -, e4, c3, -⟩ := h.at (i := 1) (j := 1) (by omega) (by omega)
  cases e2; cases e3; cases e4
  exact ⟨g, cap, e1, rfl, h.lt g rfl, c0, c1, c2, c3⟩

set_option maxHeartbeats 8000000 in
set_option maxRecDepth 4000 in
theorem known32 (w : World) : Calls Try.prog 60 #[] w (Pure (.bool true) w) := by
  go_enter Try.func60, Try.ntmps60
  go_upto_region 7 with (first
    | ((with_reducible refine (new_call 20 (by omega) (by omega) _).mono ?_); rintro e w1 ⟨p, F, rfl, hS, hb, hF⟩)
    | ((with_reducible refine (kx_a hS).mono ?_); rintro e w2 ⟨rfl, F1, hS1, st1⟩)
    | ((with_reducible refine (kx_b hS1).mono ?_); rintro e w3 ⟨rfl, F2, hS2, st2⟩)
    | ((with_reducible refine (kx_o hS2).mono ?_); rintro e w4 ⟨rfl, F3, hS3, st3⟩)
    | ((with_reducible refine (kx_p hS3).mono ?_); rintro e w5 ⟨sv1, G1, rfl, r1, g1, b5⟩; have hS5 := hS3.below b5)
    | ((with_reducible refine (kx_c hS5).mono ?_); rintro e w6 ⟨sv2, G2, F6, rfl, r2, st6⟩))
  have r1' := r1.keep (fun g hg => st6.block g (r1.lt g hg) (fun hm => by have := g1 g hg; have := hS3.lt g hm; omega))
  obtain ⟨g, cap, rfl, -, zg, c0, c1, c2, c3⟩ := two_cubes r1'
  obtain ⟨g', cap', rfl, -, zg', d0, d1, d2, d3⟩ := two_cubes r2
  have stA := st1.trans (st2.trans st3)
  have hB := hb.trans ((stA.trans ((StoStep.of_below b5).trans st6)).below hF hb.size)
  have hsB := hB.size
  have t1 := kx_t1
  have t2 := kx_t2
  have t3 := kx_t3
  clear r1 r1' r2 st1 st2 st3 st6 stA hS hS1 hS2 hS3 hS5 hb hF b5 g1
  refine wp_region_doc (fun F' hF => ?_)
  have HF := hid hF
  clear hF
  iterate 13 (refine doc_val rfl (by first | (go_simp; done) | (go_simp; exact ⟨rfl, rfl⟩) | (go_simp; with_reducible rfl)) ?_; simp only [Act.put, List.setIfInBounds_toArray, List.set_cons_zero, List.set_cons_succ])
  refine doc_call rfl (by first | (go_simp; done) | (go_simp; exact ⟨rfl, rfl⟩) | (go_simp; with_reducible rfl)) ((t1 _).mono ?_)
  rintro e W1 ⟨rfl, m1, d1', rfl⟩
  refine ⟨_, rfl, ?_⟩
  simp only [Act.put, List.setIfInBounds_toArray, List.set_cons_zero, List.set_cons_succ]
  iterate 6 (refine doc_val rfl (by first | (go_simp; done) | (go_simp; exact ⟨rfl, rfl⟩) | (go_simp; with_reducible rfl)) ?_; simp only [Act.put, List.setIfInBounds_toArray, List.set_cons_zero, List.set_cons_succ])
  refine doc_call rfl (by first | (go_simp; done) | (go_simp; exact ⟨rfl, rfl⟩) | (go_simp; with_reducible rfl)) ((t2 _).mono ?_)
  rintro e W1 ⟨rfl, m2, d2', rfl⟩
  refine ⟨_, rfl, ?_⟩
  simp only [Act.put, List.setIfInBounds_toArray, List.set_cons_zero, List.set_cons_succ]
  iterate 11 (refine doc_val rfl (by first | (go_simp; done) | (go_simp; exact ⟨rfl, rfl⟩) | (go_simp; with_reducible rfl)) ?_; simp only [Act.put, List.setIfInBounds_toArray, List.set_cons_zero, List.set_cons_succ])
  refine doc_call rfl (by first | (go_simp; done) | (go_simp; exact ⟨rfl, rfl⟩) | (go_simp; with_reducible rfl)) ((t3 _).mono ?_)
  rintro e W1 ⟨rfl, m3, d3', rfl⟩
  refine ⟨_, rfl, ?_⟩
  simp only [Act.put, List.setIfInBounds_toArray, List.set_cons_zero, List.set_cons_succ]
  iterate 6 (refine doc_val rfl (by first | (go_simp; done) | (go_simp; exact ⟨rfl, rfl⟩) | (go_simp; with_reducible rfl)) ?_; simp only [Act.put, List.setIfInBounds_toArray, List.set_cons_zero, List.set_cons_succ])
  refine doc_call rfl (by first | (go_simp; done) | (go_simp; exact ⟨rfl, rfl⟩) | (go_simp; with_reducible rfl)) ((t2 _).mono ?_)
  rintro e W1 ⟨rfl, m4, d4', rfl⟩
  refine ⟨_, rfl, ?_⟩
  simp only [Act.put, List.setIfInBounds_toArray, List.set_cons_zero, List.set_cons_succ]
  iterate 3 (refine doc_val rfl (by first | (go_simp; done) | (go_simp; exact ⟨rfl, rfl⟩) | (go_simp; with_reducible rfl)) ?_; simp only [Act.put, List.setIfInBounds_toArray, List.set_cons_zero, List.set_cons_succ])
  refine doc_end (HF.out _ _ ?_)
  clear HF F'
  go_wp2
  go_returns
  exact Pure.of rfl (by (repeat' (first | (with_reducible exact hB) | (with_reducible exact Below.refl _ _) | (with_reducible refine Below.ext_mk ?_ ?_ _ _) | (with_reducible refine Below.alloc ?_ ?_ _) | (with_reducible refine Below.drew ?_) | (with_reducible refine Below.setCell ?_ ?_ _) | go_size)))
end Go.Proofs.Ytboekafmplomhaa
