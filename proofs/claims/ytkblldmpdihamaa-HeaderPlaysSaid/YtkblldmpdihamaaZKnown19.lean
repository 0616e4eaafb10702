/-
  The document's example of layer 19: the walk.
-/
import Derived.Test.YtkblldmpdihamaaZKnown19P
import Derived.Test.YtkblldmpdihamaaZStrH
set_option linter.unusedVariables false
set_option linter.unusedSimpArgs false
namespace Go.Proofs.Ytkblldmpdihamaa
open Go.RowKit

theorem prog_size (ys : List Value) (h : ys.length = 12) : (Try.prog.info? 33).map (·.size) = some ys.length := by
  have h' : (Try.prog.info? 33).map (·.size) = some 12 := by kernel_rfl
  rw [h]; exact h'
/-- A block of just these cells reads. -/
theorem Blk.rdS {w : World} {g n size : Nat} {e : TypeId} {xs : List Value} (h : Blk w g e xs) (hl : xs.length = n * size) (hn : n ≤ 1000000) : RdS w size ⟨some ⟨g, 0, none⟩, n, n⟩ xs :=
  ⟨Nat.le_refl _, by simp only; omega, hl, fun _ => ⟨g, 0, rfl, h.lt, fun j u hu => by rw [Nat.zero_add, h.cell]; exact hu⟩⟩
/-- A struct is loaded whole. -/
theorem load_agg_op {w : World} (a : Act) (dst : Option Tmp) (ty t : TypeId) (x : Operand) (pos : String) (after : Array Edge) (guard : Option (Nat × Bool)) {g : Nat} {e : TypeId} {xs : List Value} {fs : _}
    (hu : Try.prog.underlying ty = some (.struct fs)) (hi : (Try.prog.info? ty).map (·.size) = some xs.length) (hx : a.eval x = .pointer (some ⟨g, 0, none⟩)) (hg : Blk w g e xs) :
    (execOp a.eval { dst, op := .load ty x, type := t, pos, after, guard }).run Try.prog w = .ok (.value (.agg xs.toArray)) w := by
  have h := run_loadVar_row (P := Try.prog) w g e ty xs.toArray (0, 0) _ hg hu rfl (by simpa using hi)
  unfold execOp
  simp only [hx, Instr.loadAt, Instr.sureAddr, Sem.run_bind, Sem.run_pure, Result.andThen_ok, h]
abbrev nilV : Value := .slice none 0 0
/-- The slots of the page's example in its last statement, when some operations have come up. -/
def k19Act (p : PG) (k : PK) (r2 : SL) (qb kb t4 t5 : Nat) (x6 x7 x8 x9 x10 x11 x12 x13 x14 x15 x16 : Value) (b : Nat → Bool) (r : SL) : Act :=
  ⟨#[.bool (b 34), .pointer (some ⟨qb, 0, none⟩), .pointer (some ⟨kb, 0, none⟩), .bool true, .pointer (some ⟨t4, 0, none⟩), .pointer (some ⟨t5, 0, none⟩), x6, x7, x8, x9, x10, x11, x12, x13, x14, x15, x16,
    gd (b 0) (.bool true), gd (b 1) (.bool true), gd (b 2) ((nv (ofN 1))), gd (b 3) ((nv (ofN 1))), gd (b 4) (.bool true), gd (b 5) (.bool true), gd (b 6) (.bool true), gd (b 7) ((nv (ofN 2748))), gd (b 8) ((nv (ofN 2748))), gd (b 9) (.bool true), gd (b 10) (.bool true), gd (b 11) (.bool true), gd (b 12) (.pointer (some ⟨kb, 1, none⟩)), gd (b 13) (r2.v), gd (b 14) (.string (strOf [222])), gd (b 15) (.bool true), gd (b 16) (.bool true), gd (b 17) (.bool true), gd (b 18) (p.v), gd (b 19) (k.v), gd (b 20) (r.v), gd (b 21) (.string (strOf [26, 188, 222])), gd (b 22) (.bool true), gd (b 23) (.bool true), gd (b 24) (.bool true), gd (b 25) (p.v), gd (b 26) (.int .i64 2), gd (b 27) (.bool true), gd (b 28) (.bool true), gd (b 29) (.bool true), gd (b 30) (p.v), gd (b 31) (k.v), gd (b 32) (.bool true), gd (b 33) (.bool true)], []⟩
-- k19Act end
def k19I (Z : World) (p : PG) (k : PK) (r2 : SL) (qb kb t4 t5 : Nat) (x6 x7 x8 x9 x10 x11 x12 x13 x14 x15 x16 : Value) (L : Array Bool) (a : Act) (w : World) : Prop :=
  ∃ r, a = k19Act p k r2 qb kb t4 t5 x6 x7 x8 x9 x10 x11 x12 x13 x14 x15 x16 (fun k => L.getD k false) r ∧ Below Z.heap.size Z w ∧ (L.getD 20 false = true → RdS w 1 r (byts [26, 188, 222]))
set_option maxRecDepth 100000 in
set_option maxHeartbeats 8000000 in
theorem known19 (w : World) : Calls Try.prog 8 #[] w (Pure (.bool true) w) := by
  go_enter Try.func8, Try.ntmps8
  go_upto_region 1 with (fail)
  refine wp_region_doc (fun F' hF => ?_)
  have HF := hid hF
  clear hF
  repeat (refine doc_val rfl (by first | (go_simp; done) | (go_simp; exact ⟨rfl, rfl⟩) | (go_simp; with_reducible rfl)) ?_; simp only [Act.put, List.setIfInBounds_toArray, List.set_cons_zero, List.set_cons_succ])
  have bP := Blk.new (((w.alloc (.cells #[.int .i64 4, .int .i64 12] 3)).alloc (.cells #[.slice (some ⟨w.heap.size, 0, none⟩) 2 2] 23)).alloc (.cells #[.int .i64 0] 3)) 33 [nilV, nilV, nilV, nilV, nilV, nilV, nilV, nilV, nilV, nilV, nilV, nilV]
  simp only [World.size_alloc] at bP
  refine doc_skip rfl (store_row_op (xs := [nilV, nilV, nilV, nilV, nilV, nilV, nilV, nilV, nilV, nilV, nilV, nilV]) (ys := [.slice (some ⟨w.heap.size + 1, 0, none⟩) 1 1, nilV, nilV, nilV, nilV, nilV, .slice (some ⟨w.heap.size + 1 + 1, 0, none⟩) 1 1, nilV, nilV, nilV, nilV, nilV]) _ _ _ _ _ _ _ _ _ (prog_size _ rfl) rfl (by simp [Value.oneCell']) rfl rfl bP) ?_
  simp only [Act.put, List.setIfInBounds_toArray, List.set_cons_zero, List.set_cons_succ]
  refine doc_end (HF.out _ _ ?_)
  clear HF F'
  go_upto_region 2 with (fail)
  refine wp_gen (fun V hV => ?_)
  have hbV : Below w.heap.size w V := by
    rw [hV]
    refine Below.setRow ?_ (by omega) _
    repeat (refine Below.alloc ?_ (by simp; try omega) _)
    exact Below.refl _ _
  have bA : Blk V w.heap.size 3 (ints [4, 12]) := by
    rw [hV]; exact ((Blk.new w 3 (ints [4, 12])).below (by repeat (first | exact Below.refl _ _ | refine Below.alloc ?_ (by simp; try omega) _))).farRow (by omega) _
  have bB : Blk V (w.heap.size + 1) 23 [.slice (some ⟨w.heap.size, 0, none⟩) 2 2] := by
    have h := Blk.new (w.alloc (.cells #[.int .i64 4, .int .i64 12] 3)) 23 [.slice (some ⟨w.heap.size, 0, none⟩) 2 2]
    simp only [World.size_alloc] at h
    rw [hV]; exact (h.below (by repeat (first | exact Below.refl _ _ | refine Below.alloc ?_ (by simp; try omega) _))).farRow (by omega) _
  have bC : Blk V (w.heap.size + 1 + 1) 3 (ints [0]) := by
    have h := Blk.new ((w.alloc (.cells #[.int .i64 4, .int .i64 12] 3)).alloc (.cells #[.slice (some ⟨w.heap.size, 0, none⟩) 2 2] 23)) 3 (ints [0])
    simp only [World.size_alloc] at h
    rw [hV]; exact (h.below (by repeat (first | exact Below.refl _ _ | refine Below.alloc ?_ (by simp; try omega) _))).farRow (by omega) _
  have bQ : Blk V (w.heap.size + 1 + 1 + 1) 33 [.slice (some ⟨w.heap.size + 1, 0, none⟩) 1 1, nilV, nilV, nilV, nilV, nilV, .slice (some ⟨w.heap.size + 1 + 1, 0, none⟩) 1 1, nilV, nilV, nilV, nilV, nilV] := by
    rw [hV]; exact bP.row _
  clear hV bP
  have HD : HeadsAre V ⟨some ⟨w.heap.size + 1, 0, none⟩, 1, 1⟩ [(⟨some ⟨w.heap.size, 0, none⟩, 2, 2⟩, [4, 12])] :=
    ⟨Blk.rdS bB rfl (by omega), fun x hx => by simp at hx; subst hx; exact Blk.rdS bA rfl (by omega)⟩
  obtain ⟨p, hp⟩ : ∃ p : PG, p = ⟨⟨some ⟨w.heap.size + 1, 0, none⟩, 1, 1⟩, ⟨none, 0, 0⟩, ⟨none, 0, 0⟩, ⟨none, 0, 0⟩, ⟨none, 0, 0⟩, ⟨none, 0, 0⟩, ⟨some ⟨w.heap.size + 1 + 1, 0, none⟩, 1, 1⟩, ⟨none, 0, 0⟩, ⟨none, 0, 0⟩, ⟨none, 0, 0⟩, ⟨none, 0, 0⟩, ⟨none, 0, 0⟩⟩ := ⟨_, rfl⟩
  -- the second region: a packet is made
  refine wp_region_doc (fun F' hF => ?_)
  have HF := hid hF
  clear hF
  refine doc_val rfl (load_agg_op _ _ _ _ _ _ _ _ Try.underlying33 (prog_size _ rfl) rfl bQ) ?_
  simp only [Act.put, List.setIfInBounds_toArray, List.set_cons_zero, List.set_cons_succ]
  refine doc_val rfl (by first | (go_simp; done) | (go_simp; exact ⟨rfl, rfl⟩) | (go_simp; with_reducible rfl)) ?_
  simp only [Act.put, List.setIfInBounds_toArray, List.set_cons_zero, List.set_cons_succ]
  have bI : Blk (V.alloc (.cells #[.int .u8 26, .int .u8 188, .int .u8 222] 5)) V.heap.size 5 (byts [26, 188, 222]) := Blk.new V 5 (byts [26, 188, 222])
  have hb1 : Below V.heap.size V (V.alloc (.cells #[.int .u8 26, .int .u8 188, .int .u8 222] 5)) := by (repeat' (first | (with_reducible exact Below.refl _ _) | (with_reducible refine Below.ext_mk ?_ ?_ _ _) | (with_reducible refine Below.alloc ?_ ?_ _) | (with_reducible refine Below.drew ?_) | (with_reducible refine Below.setCell ?_ ?_ _) | go_size))
  have NI : NewIn (V.alloc (.cells #[.int .u8 26, .int .u8 188, .int .u8 222] 5)) p ⟨some ⟨V.heap.size, 0, none⟩, 3, 3⟩ [(⟨some ⟨w.heap.size, 0, none⟩, 2, 2⟩, [4, 12])] 0 [26, 188, 222] :=
    ⟨by rw [hp]; exact HD.below hb1, by rw [hp], Blk.rdS bI rfl (by omega), by decide, by simp, by omega, fun x hx => by simp at hx; subst hx; simp⟩
  have NA : Calls Try.prog 11 #[p.v, .int .i64 3, .slice (some ⟨V.heap.size, 0, none⟩) 3 3] (V.alloc (.cells #[.int .u8 26, .int .u8 188, .int .u8 222] 5)) (NewOut (V.alloc (.cells #[.int .u8 26, .int .u8 188, .int .u8 222] 5)) 3 [26, 188, 222] [2] 0) := new_any (3 : Int) NI
  refine doc_call (f := 11) (args := #[p.v, .int .i64 3, .slice (some ⟨V.heap.size, 0, none⟩) 3 3]) rfl (by rw [hp]; first | (go_simp; done) | (go_simp; exact ⟨rfl, rfl⟩) | (go_simp; with_reducible rfl)) (NA.mono ?_)
  rintro e W2 ⟨r, fv, vb, mb, G, gs, he, nB, nR, nF, nV, nM, nVM, nRV, nVg, nGV, nRg, nbV, nbM, nL, nRow, nEach, nNd, nG, nMg, nLt⟩
  have he' : e = .returned (PK.mk 3 r ⟨some ⟨vb, 0, none⟩, 1, 1⟩ fv ⟨some ⟨mb, 0, none⟩, 0, 0⟩ false false 0 false).v := he
  clear he
  subst he'
  obtain ⟨g, rfl⟩ : ∃ g, gs = [g] := List.length_eq_one_iff.1 nL
  refine ⟨_, rfl, ?_⟩
  simp only [Act.put, List.setIfInBounds_toArray, List.set_cons_zero, List.set_cons_succ]
  have hsV : V.heap.size + 1 ≤ W2.heap.size := by have := nB.size; simpa using this
  have hB2 : Below V.heap.size V W2 := hb1.trans (nB.mono (by simp))
  refine doc_val rfl (by first | (go_simp; done) | (go_simp; exact ⟨rfl, rfl⟩) | (go_simp; with_reducible rfl)) ?_
  simp only [Act.put, List.setIfInBounds_toArray, List.set_cons_zero, List.set_cons_succ]
  have bZ := Blk.new W2 39 zeroCs
  refine doc_skip rfl (store_row_op (xs := zeroCs) (ys := (PK.mk 3 r ⟨some ⟨vb, 0, none⟩, 1, 1⟩ fv ⟨some ⟨mb, 0, none⟩, 0, 0⟩ false false 0 false).cs) _ _ _ _ _ _ _ _ _ (pk_size _ rfl) rfl (by simp [Value.oneCell']) rfl rfl bZ) ?_
  simp only [Act.put, List.setIfInBounds_toArray, List.set_cons_zero, List.set_cons_succ]
  refine doc_end (HF.out _ _ ?_)
  clear HF F'
  go_upto_region 3 with (fail)
  refine wp_gen (fun X hX => ?_)
  have hbX : Below W2.heap.size W2 X := by rw [hX]; exact Below.setRow (by (repeat' (first | (with_reducible exact Below.refl _ _) | (with_reducible refine Below.ext_mk ?_ ?_ _ _) | (with_reducible refine Below.alloc ?_ ?_ _) | (with_reducible refine Below.drew ?_) | (with_reducible refine Below.setCell ?_ ?_ _) | go_size))) (by simp) _
  have bK : Blk X W2.heap.size 39 (PK.mk 3 r ⟨some ⟨vb, 0, none⟩, 1, 1⟩ fv ⟨some ⟨mb, 0, none⟩, 0, 0⟩ false false 0 false).cs := by rw [hX]; exact bZ.row _
  have zX : W2.heap.size < X.heap.size := bK.lt
  clear hX bZ NA NI bI
  obtain ⟨fvR, fvN, fvA⟩ := RowIs.rdS nRow
  have ng := nEach 0 g rfl
  have hvz : vb < W2.heap.size := nbV.lt
  have hgz : g < W2.heap.size := ng.2.lt
  have hg1 : V.heap.size + 1 ≤ g := by have := ng.1; simpa using this
  have hv1 : V.heap.size + 1 ≤ vb := by simpa using nV
  have hw3 : w.heap.size + 1 + 1 + 1 < V.heap.size := bQ.lt
  have T : TakeIn X p [(⟨some ⟨w.heap.size, 0, none⟩, 2, 2⟩, [4, 12])] (PK.mk 3 r ⟨some ⟨vb, 0, none⟩, 1, 1⟩ fv ⟨some ⟨mb, 0, none⟩, 0, 0⟩ false false 0 false) W2.heap.size vb g 0 [26, 188, 222] [false] [(⟨some ⟨g, 0, none⟩, 2, 2⟩, [0#128, 0#128])] [0#128, 0#128] := by
    refine ⟨by rw [hp]; exact (HD.below hB2).below hbX, k19_few, (show ([4, 12] : List Int).sum % 8 = 0 by decide), bK, nR.below hbX, by decide, (show ([4, 12] : List Int).sum / 8 ≤ (([26, 188, 222] : List Nat).length : Int) by decide), (show 1 ≤ ([4, 12] : List Int).sum / 8 by decide), by decide, rfl, nbV.below hbX, rfl, fvR.below hbX, rfl, ng.2.below hbX, rfl, by omega, by omega, fun e => nVg (by simp [e]), ?_, ?_, ?_, by omega⟩
    · intro q off e hm
      have e' : q = w.heap.size := by
        have : (⟨w.heap.size, 0, none⟩ : Addr) = ⟨q, off, none⟩ := Option.some.inj e
        injection this with e1; exact e1.symm
      simp at hm
      omega
    · intro q off e hm
      simp only [List.mem_cons, List.not_mem_nil, or_false] at hm
      rcases hm with h | h | h
      · exact rd_lt nR (by decide) (Nat.le_refl _) q off e (by simp [h])
      · exact nRV q off e (by simp [h])
      · exact nRg q off e (by simp [h])
    · intro q off e hm
      have hG := fvA q off e
      simp only [List.mem_cons, List.not_mem_nil, or_false] at hm
      rcases hm with h | h | h
      · have := RowIs.lt nRow q hG; omega
      · exact nGV (by rw [hG, h])
      · exact (nG q hG).2 (by simp [h])
  -- the third region: the header is taken
  have bQX : Blk X (w.heap.size + 1 + 1 + 1) 33 [.slice (some ⟨w.heap.size + 1, 0, none⟩) 1 1, nilV, nilV, nilV, nilV, nilV, .slice (some ⟨w.heap.size + 1 + 1, 0, none⟩) 1 1, nilV, nilV, nilV, nilV, nilV] := (bQ.below hB2).below hbX
  refine wp_region_doc (fun F' hF => ?_)
  have HF := hid hF
  clear hF
  refine doc_val rfl (load_agg_op _ _ _ _ _ _ _ _ Try.underlying33 (prog_size _ rfl) rfl bQX) ?_
  simp only [Act.put, List.setIfInBounds_toArray, List.set_cons_zero, List.set_cons_succ]
  refine doc_call (f := 12) (args := #[p.v, .pointer (some ⟨W2.heap.size, 0, none⟩), .int .i64 ((0 : Nat) : Int)]) rfl (by rw [hp]; first | (go_simp; done) | (go_simp; exact ⟨rfl, rfl⟩) | (go_simp; with_reducible rfl)) ((take_ok T).mono ?_)
  rintro e Y ⟨rfl, tT, tV, tG, r2, tB, tR, tF, tL⟩
  refine ⟨_, rfl, ?_⟩
  simp only [Act.put, List.setIfInBounds_toArray, List.set_cons_zero, List.set_cons_succ]
  refine doc_val rfl (by first | (go_simp; done) | (go_simp; exact ⟨rfl, rfl⟩) | (go_simp; with_reducible rfl)) ?_
  simp only [Act.put, List.setIfInBounds_toArray, List.set_cons_zero, List.set_cons_succ]
  refine doc_end (HF.out _ _ ?_)
  clear HF F'
  have tG' : Blk Y g 45 (nums [ofN 1, ofN 2748]) := by rw [← k19_take]; exact tG
  have tR' : RdS Y 1 r2 (byts [222]) := tR
  clear tG tR T
  have FA : FieldsAre Y fv [(⟨some ⟨g, 0, none⟩, 2, 2⟩, [ofN 1, ofN 2748])] := by
    refine ⟨tT.rd (fvR.below hbX) ?_, fun x hx => ?_⟩
    · intro q off e hm
      have hG := fvA q off e
      simp only [List.mem_cons, List.not_mem_nil, or_false] at hm
      rcases hm with h | h | h
      · have := RowIs.lt nRow q hG; omega
      · exact nGV (by rw [hG, h])
      · exact (nG q hG).2 (by simp [h])
    · simp at hx; subst hx; exact Blk.rdS tG' rfl (by omega)
  have VA : RdS Y 1 ⟨some ⟨vb, 0, none⟩, 1, 1⟩ (bools [true]) := Blk.rdS tV rfl (by omega)
  have bQY := tT.blk bQX (by simp; omega)
  go_upto_region 4 with (fail)
  refine wp_region_doc (fun F' hF => ?_)
  have HF := hid hF
  clear hF
  refine doc_call (f := 17) (args := #[.pointer (some ⟨W2.heap.size, 0, none⟩), .int .i64 ((0 : Nat) : Int), .int .i64 ((0 : Nat) : Int)]) rfl (by first | (go_simp; done) | (go_simp; exact ⟨rfl, rfl⟩) | (go_simp; with_reducible rfl)) ((get_ok (va := [true]) tB VA FA (h := 0) (f := 0) rfl rfl rfl).mono ?_)
  rintro e Y1 ⟨rfl, m1, d1, rfl⟩
  refine ⟨_, rfl, ?_⟩
  simp only [Act.put, List.setIfInBounds_toArray, List.set_cons_zero, List.set_cons_succ]
  refine doc_call (f := 17) (args := #[.pointer (some ⟨W2.heap.size, 0, none⟩), .int .i64 ((0 : Nat) : Int), .int .i64 ((1 : Nat) : Int)]) rfl (by first | (go_simp; done) | (go_simp; exact ⟨rfl, rfl⟩) | (go_simp; with_reducible rfl)) ((get_ok (va := [true]) (tB.below (by (repeat' (first | (with_reducible exact Below.refl _ _) | (with_reducible refine Below.ext_mk ?_ ?_ _ _) | (with_reducible refine Below.alloc ?_ ?_ _) | (with_reducible refine Below.drew ?_) | (with_reducible refine Below.setCell ?_ ?_ _) | go_size)))) (VA.below (by (repeat' (first | (with_reducible exact Below.refl _ _) | (with_reducible refine Below.ext_mk ?_ ?_ _ _) | (with_reducible refine Below.alloc ?_ ?_ _) | (with_reducible refine Below.drew ?_) | (with_reducible refine Below.setCell ?_ ?_ _) | go_size)))) (FA.below (by (repeat' (first | (with_reducible exact Below.refl _ _) | (with_reducible refine Below.ext_mk ?_ ?_ _ _) | (with_reducible refine Below.alloc ?_ ?_ _) | (with_reducible refine Below.drew ?_) | (with_reducible refine Below.setCell ?_ ?_ _) | go_size)))) (h := 0) (f := 1) rfl rfl rfl).mono ?_)
  rintro e Y2 ⟨rfl, m2, d2, rfl⟩
  refine ⟨_, rfl, ?_⟩
  simp only [Act.put, List.setIfInBounds_toArray, List.set_cons_zero, List.set_cons_succ]
  have hbY : Below Y.heap.size Y ((Y.ext m1 d1).ext m2 d2) := by (repeat' (first | (with_reducible exact Below.refl _ _) | (with_reducible refine Below.ext_mk ?_ ?_ _ _) | (with_reducible refine Below.alloc ?_ ?_ _) | (with_reducible refine Below.drew ?_) | (with_reducible refine Below.setCell ?_ ?_ _) | go_size))
  generalize (Y.ext m1 d1).ext m2 d2 = Y2 at *
  refine doc_val rfl (by first | (go_simp; done) | (go_simp; exact ⟨rfl, rfl⟩) | (go_simp; with_reducible rfl)) ?_
  simp only [Act.put, List.setIfInBounds_toArray, List.set_cons_zero, List.set_cons_succ]
  refine doc_val rfl (by first | (go_simp; done) | (go_simp; exact ⟨rfl, rfl⟩) | (go_simp; with_reducible rfl)) ?_
  simp only [Act.put, List.setIfInBounds_toArray, List.set_cons_zero, List.set_cons_succ]
  have b4 := Blk.new Y2 45 [.int .u64 0, .int .u64 0]
  have b5 := Blk.new (Y2.alloc (.cells #[.int .u64 0, .int .u64 0] 45)) 45 [.int .u64 0, .int .u64 0]
  simp only [World.size_alloc] at b5
  refine doc_skip rfl (hstore_num (u := 0) (v := 0) (u' := hi (ofN 1)) (v' := lo (ofN 1)) _ _ _ _ _ _ _ _ rfl rfl (b4.below (by (repeat' (first | (with_reducible exact Below.refl _ _) | (with_reducible refine Below.ext_mk ?_ ?_ _ _) | (with_reducible refine Below.alloc ?_ ?_ _) | (with_reducible refine Below.drew ?_) | (with_reducible refine Below.setCell ?_ ?_ _) | go_size))))) ?_
  simp only [Act.put, List.setIfInBounds_toArray, List.set_cons_zero, List.set_cons_succ]
  refine doc_skip rfl (hstore_num (u := 0) (v := 0) (u' := hi (ofN 2748)) (v' := lo (ofN 2748)) _ _ _ _ _ _ _ _ rfl rfl (b5.farRow (by omega) _)) ?_
  simp only [Act.put, List.setIfInBounds_toArray, List.set_cons_zero, List.set_cons_succ]
  refine doc_end (HF.out _ _ ?_)
  clear HF F'
  have n4 := ((b4.below (Below.alloc (Below.refl _ _) (by simp) (.cells [Value.int .u64 0, .int .u64 0].toArray 45))).row [.int .u64 (hi (ofN 1)), .int .u64 (lo (ofN 1))]).farRow (b := Y2.heap.size + 1) (by omega) [Value.int .u64 (hi (ofN 2748)), .int .u64 (lo (ofN 2748))].toArray
  have n5 := (b5.farRow (b := Y2.heap.size) (by omega) [Value.int .u64 (hi (ofN 1)), .int .u64 (lo (ofN 1))].toArray).row [.int .u64 (hi (ofN 2748)), .int .u64 (lo (ofN 2748))]
  go_upto_region 5 with (fail)
  refine wp_gen (fun Z hZ => ?_)
  have hbZ : Below Y2.heap.size Y2 Z := by
    rw [hZ]
    refine Below.setRow (Below.setRow ?_ (by omega) _) (by omega) _
    repeat (refine Below.alloc ?_ (by simp; try omega) _)
    exact Below.refl _ _
  have n4' : Blk Z Y2.heap.size 45 [.int .u64 (hi (ofN 1)), .int .u64 (lo (ofN 1))] := by rw [hZ]; exact n4
  have n5' : Blk Z (Y2.heap.size + 1) 45 [.int .u64 (hi (ofN 2748)), .int .u64 (lo (ofN 2748))] := by rw [hZ]; exact n5
  have hYZ : Below Y.heap.size Y Z := hbY.trans (hbZ.mono hbY.size)
  have HDY : HeadsAre Y p.heads [(⟨some ⟨w.heap.size, 0, none⟩, 2, 2⟩, [4, 12])] := by
    rw [hp]
    exact ⟨Blk.rdS (tT.blk ((bB.below hB2).below hbX) (by simp; omega)) rfl (by omega), fun x hx => by simp at hx; subst hx; exact Blk.rdS (tT.blk ((bA.below hB2).below hbX) (by simp; omega)) rfl (by omega)⟩
  have EMY : RdS Y 1 p.emit (ints [0]) := by rw [hp]; exact Blk.rdS (tT.blk ((bC.below hB2).below hbX) (by simp; omega)) rfl (by omega)
  have MEY : RdS Y 1 p.metas (ints []) := by rw [hp]; exact rdNil
  have mbx : RdS Y 2 ⟨some ⟨mb, 0, none⟩, 0, 0⟩ (nums []) := ⟨Nat.le_refl _, by simp, by simp [nums], fun h => by simp at h⟩
  obtain ⟨k, hk⟩ : ∃ k : PK, k = ⟨3, r2, ⟨some ⟨vb, 0, none⟩, 1, 1⟩, fv, ⟨some ⟨mb, 0, none⟩, 0, 0⟩, false, false, 0, false⟩ := ⟨_, rfl⟩
  have bK1 : Blk Z W2.heap.size 39 k.cs := by rw [hk]; exact tB.below hYZ
  have bQ' : Blk Z (w.heap.size + 1 + 1 + 1) 33 [p.heads.v, p.metas.v, p.steps.v, p.acts.v, p.tabs.v, p.control.v, p.emit.v, p.n0.v, p.n1.v, p.n2.v, p.n3.v, p.n4.v] := by rw [hp]; exact bQY.below hYZ
  have EI : EmitIn Z p k [(⟨some ⟨w.heap.size, 0, none⟩, 2, 2⟩, [4, 12])] [0] [true] [(⟨some ⟨g, 0, none⟩, 2, 2⟩, [ofN 1, ofN 2748])] [222] :=
    ⟨HDY.below hYZ, EMY.below hYZ, by rw [hk]; exact VA.below hYZ, by rw [hk]; exact FA.below hYZ, by rw [hk]; exact tR'.below hYZ, fun x hx y hy => by simp at hx; subst hx; simp at hy; omega, fun x hx => by simp at hx; subst hx; exact (show ([4, 12] : List Int).sum ≤ 1000 by decide), by decide, by decide⟩
  have FI : FitIn Z p k [(⟨some ⟨w.heap.size, 0, none⟩, 2, 2⟩, [4, 12])] [] [true] [(⟨some ⟨g, 0, none⟩, 2, 2⟩, [ofN 1, ofN 2748])] [] :=
    ⟨HDY.below hYZ, MEY.below hYZ, by rw [hk]; exact VA.below hYZ, by rw [hk]; exact FA.below hYZ, by rw [hk]; exact mbx.below hYZ, fun x hx y hy => by simp at hx; subst hx; simp at hy; omega, fun y hy => by simp at hy⟩
  have HD' := HDY.below hYZ
  have tRZ := tR'.below hYZ
  have hkr : k.rest = r2 := by rw [hk]
  have hwZ : Below w.heap.size w Z := by
    have h1 : Below w.heap.size w X := hbV.trans ((hB2.mono (by omega)).trans (hbX.mono (by omega)))
    exact h1.trans ((tT.below (B := w.heap.size) (fun q hq => by simp at hq; omega) (by have := hbX.size; omega)).trans (hYZ.mono (by have := hbX.size; have := tT.size; omega)))
  clear hZ n4 n5 b4 b5
  obtain ⟨x6, hx6⟩ : ∃ x, x = Value.slice (some ⟨w.heap.size, 0, none⟩) 2 2 := ⟨_, rfl⟩
  obtain ⟨x7, hx7⟩ : ∃ x, x = Value.slice (some ⟨w.heap.size + 1, 0, none⟩) 1 1 := ⟨_, rfl⟩
  obtain ⟨x8, hx8⟩ : ∃ x, x = Value.slice (some ⟨w.heap.size + 1 + 1, 0, none⟩) 1 1 := ⟨_, rfl⟩
  obtain ⟨x9, hx9⟩ : ∃ x, x = p.v := ⟨_, rfl⟩
  obtain ⟨x10, hx10⟩ : ∃ x, x = p.v := ⟨_, rfl⟩
  obtain ⟨x11, hx11⟩ : ∃ x, x = Value.slice (some ⟨V.heap.size, 0, none⟩) 3 3 := ⟨_, rfl⟩
  obtain ⟨x12, hx12⟩ : ∃ x, x = (PK.mk 3 r ⟨some ⟨vb, 0, none⟩, 1, 1⟩ fv ⟨some ⟨mb, 0, none⟩, 0, 0⟩ false false 0 false).v := ⟨_, rfl⟩
  obtain ⟨x13, hx13⟩ : ∃ x, x = p.v := ⟨_, rfl⟩
  obtain ⟨x14, hx14⟩ : ∃ x, x = Value.bool true := ⟨_, rfl⟩
  obtain ⟨x15, hx15⟩ : ∃ x, x = nv (ofN 1) := ⟨_, rfl⟩
  obtain ⟨x16, hx16⟩ : ∃ x, x = nv (ofN 2748) := ⟨_, rfl⟩
  obtain ⟨qb, hqb⟩ : ∃ q, q = w.heap.size + 1 + 1 + 1 := ⟨_, rfl⟩
  obtain ⟨kb, hkb⟩ : ∃ q, q = W2.heap.size := ⟨_, rfl⟩
  obtain ⟨t4, ht4⟩ : ∃ q, q = Y2.heap.size := ⟨_, rfl⟩
  obtain ⟨t5, ht5⟩ : ∃ q, q = Y2.heap.size + 1 := ⟨_, rfl⟩
  rw [← hqb] at bQ'
  rw [← hkb] at bK1
  rw [← ht4] at n4'
  rw [← ht5] at n5'
  refine wp_region_invs (k19I Z p k r2 qb kb t4 t5 x6 x7 x8 x9 x10 x11 x12 x13 x14 x15 x16) (by kernel_rfl) (by kernel_rfl) ?_ ?_ ?_
  · refine ⟨slNil, ?_, Below.drew (Below.refl _ _), fun h => by simp at h⟩
    rw [hqb, hkb, ht4, ht5, hx6, hx7, hx8, hx9, hx10, hx11, hx12, hx13, hx14, hx15, hx16, hp]
    rfl
  · rintro L a Z' hall ⟨r', rfl, hB, hR⟩
    have h34 := hall 34 (by decide)
    unfold k19Act
    simp only [h34]
    go_wp2
    go_returns
    exact Pure.of rfl (hwZ.trans (hB.mono hwZ.size))
  clear hqb hkb ht4 ht5 hx6 hx7 hx8 hx9 hx10 hx11 hx12 hx13 hx14 hx15 hx16
  clear hp hk
  have hE : ∀ {w1 : World} {r1 : SL}, RdS w1 1 r1 (byts ((layAll ([], 0) (emT [(⟨some ⟨w.heap.size, 0, none⟩, 2, 2⟩, [4, 12])] [true] [(⟨some ⟨g, 0, none⟩, 2, 2⟩, [ofN 1, ofN 2748])] [0] [(0 : Int)].length)).1 ++ [222])) → RdS w1 1 r1 (byts [26, 188, 222]) := fun h => by
    have e := k19_emit ⟨some ⟨w.heap.size, 0, none⟩, 2, 2⟩ ⟨some ⟨g, 0, none⟩, 2, 2⟩
    rw [show [(0 : Int)].length = 1 from rfl, e] at h
    exact h
  have e26 : (headAt [((⟨some ⟨w.heap.size, 0, none⟩, 2, 2⟩ : SL), ([4, 12] : List Int))] 0).2.sum / 8 = 2 := show ([4, 12] : List Int).sum / 8 = 2 by decide
  have e32 := k19_fits ⟨some ⟨w.heap.size, 0, none⟩, 2, 2⟩ ⟨some ⟨g, 0, none⟩, 2, 2⟩
  -- GENERATED by genk19.py
  refine ⟨fun L a w hn hI => ?_, ?_⟩
  · obtain ⟨r, rfl, hB, hR⟩ := hI
    have hup := getD_up hn.2.1
    refine st_val (v := .bool true) (W1 := w) rfl (by unfold k19Act; simp only [gd_true]; go_simp) ?_
    refine ⟨r, ?_, hB, fun h20 => hR (by rwa [up_ne 0 20 (by decide)] at h20)⟩
    unfold k19Act
    simp only [Act.put, List.setIfInBounds_toArray, List.set_cons_zero, List.set_cons_succ, hup, gd_true, up_ne 0 1 (by decide), up_ne 0 2 (by decide), up_ne 0 3 (by decide), up_ne 0 4 (by decide), up_ne 0 5 (by decide), up_ne 0 6 (by decide), up_ne 0 7 (by decide), up_ne 0 8 (by decide), up_ne 0 9 (by decide), up_ne 0 10 (by decide), up_ne 0 11 (by decide), up_ne 0 12 (by decide), up_ne 0 13 (by decide), up_ne 0 14 (by decide), up_ne 0 15 (by decide), up_ne 0 16 (by decide), up_ne 0 17 (by decide), up_ne 0 18 (by decide), up_ne 0 19 (by decide), up_ne 0 20 (by decide), up_ne 0 21 (by decide), up_ne 0 22 (by decide), up_ne 0 23 (by decide), up_ne 0 24 (by decide), up_ne 0 25 (by decide), up_ne 0 26 (by decide), up_ne 0 27 (by decide), up_ne 0 28 (by decide), up_ne 0 29 (by decide), up_ne 0 30 (by decide), up_ne 0 31 (by decide), up_ne 0 32 (by decide), up_ne 0 33 (by decide), up_ne 0 34 (by decide)]
  refine ⟨fun L a w hn hI => ?_, ?_⟩
  · obtain ⟨r, rfl, hB, hR⟩ := hI
    have hup := getD_up hn.2.1
    have d0 : L.getD 0 false = true := hn.2.2.1 0 (by decide +kernel)
    refine st_val (v := .bool true) (W1 := w) rfl (by unfold k19Act; simp only [gd_true, d0]; go_simp) ?_
    refine ⟨r, ?_, hB, fun h20 => hR (by rwa [up_ne 1 20 (by decide)] at h20)⟩
    unfold k19Act
    simp only [Act.put, List.setIfInBounds_toArray, List.set_cons_zero, List.set_cons_succ, hup, gd_true, up_ne 1 0 (by decide), up_ne 1 2 (by decide), up_ne 1 3 (by decide), up_ne 1 4 (by decide), up_ne 1 5 (by decide), up_ne 1 6 (by decide), up_ne 1 7 (by decide), up_ne 1 8 (by decide), up_ne 1 9 (by decide), up_ne 1 10 (by decide), up_ne 1 11 (by decide), up_ne 1 12 (by decide), up_ne 1 13 (by decide), up_ne 1 14 (by decide), up_ne 1 15 (by decide), up_ne 1 16 (by decide), up_ne 1 17 (by decide), up_ne 1 18 (by decide), up_ne 1 19 (by decide), up_ne 1 20 (by decide), up_ne 1 21 (by decide), up_ne 1 22 (by decide), up_ne 1 23 (by decide), up_ne 1 24 (by decide), up_ne 1 25 (by decide), up_ne 1 26 (by decide), up_ne 1 27 (by decide), up_ne 1 28 (by decide), up_ne 1 29 (by decide), up_ne 1 30 (by decide), up_ne 1 31 (by decide), up_ne 1 32 (by decide), up_ne 1 33 (by decide), up_ne 1 34 (by decide)]
  refine ⟨fun L a w hn hI => ?_, ?_⟩
  · obtain ⟨r, rfl, hB, hR⟩ := hI
    have hup := getD_up hn.2.1
    have d1 : L.getD 1 false = true := hn.2.2.1 1 (by decide +kernel)
    refine st_val (v := (nv (ofN 1))) (W1 := w) (wanted_t (x := true) rfl (by unfold k19Act; simp only [gd_true, d1]; rfl)) (by unfold k19Act; simp only [gd_true, d1]; exact load_agg_op _ _ _ _ _ _ _ _ Try.underlying45 (hnum_size _ _) rfl (n4'.below hB)) ?_
    refine ⟨r, ?_, hB, fun h20 => hR (by rwa [up_ne 2 20 (by decide)] at h20)⟩
    unfold k19Act
    simp only [Act.put, List.setIfInBounds_toArray, List.set_cons_zero, List.set_cons_succ, hup, gd_true, up_ne 2 0 (by decide), up_ne 2 1 (by decide), up_ne 2 3 (by decide), up_ne 2 4 (by decide), up_ne 2 5 (by decide), up_ne 2 6 (by decide), up_ne 2 7 (by decide), up_ne 2 8 (by decide), up_ne 2 9 (by decide), up_ne 2 10 (by decide), up_ne 2 11 (by decide), up_ne 2 12 (by decide), up_ne 2 13 (by decide), up_ne 2 14 (by decide), up_ne 2 15 (by decide), up_ne 2 16 (by decide), up_ne 2 17 (by decide), up_ne 2 18 (by decide), up_ne 2 19 (by decide), up_ne 2 20 (by decide), up_ne 2 21 (by decide), up_ne 2 22 (by decide), up_ne 2 23 (by decide), up_ne 2 24 (by decide), up_ne 2 25 (by decide), up_ne 2 26 (by decide), up_ne 2 27 (by decide), up_ne 2 28 (by decide), up_ne 2 29 (by decide), up_ne 2 30 (by decide), up_ne 2 31 (by decide), up_ne 2 32 (by decide), up_ne 2 33 (by decide), up_ne 2 34 (by decide)]
  refine ⟨fun L a w hn hI => ?_, ?_⟩
  · obtain ⟨r, rfl, hB, hR⟩ := hI
    have hup := getD_up hn.2.1
    have d1 : L.getD 1 false = true := hn.2.2.1 1 (by decide +kernel)
    refine st_call (f := 27) (args := #[.int .u64 ((1 : Nat) : Int)]) (W1 := w) (wanted_t (x := true) rfl (by unfold k19Act; simp only [gd_true, d1]; rfl)) (by unfold k19Act; simp only [gd_true, d1]; first | (go_simp; done) | (go_simp; exact ⟨rfl, rfl⟩) | (go_simp; with_reducible rfl)) ((rof_any 1 (by decide) w).mono ?_)
    rintro e w2 ⟨rfl, m2, d2, rfl⟩
    refine ⟨_, rfl, r, ?_, Below.ext_mk hB hB.size m2 d2, fun h20 => (hR (by rwa [up_ne 3 20 (by decide)] at h20)).below (Below.ext_mk (Below.refl _ _) (Nat.le_refl _) m2 d2)⟩
    unfold k19Act
    simp only [Act.put, List.setIfInBounds_toArray, List.set_cons_zero, List.set_cons_succ, hup, gd_true, up_ne 3 0 (by decide), up_ne 3 1 (by decide), up_ne 3 2 (by decide), up_ne 3 4 (by decide), up_ne 3 5 (by decide), up_ne 3 6 (by decide), up_ne 3 7 (by decide), up_ne 3 8 (by decide), up_ne 3 9 (by decide), up_ne 3 10 (by decide), up_ne 3 11 (by decide), up_ne 3 12 (by decide), up_ne 3 13 (by decide), up_ne 3 14 (by decide), up_ne 3 15 (by decide), up_ne 3 16 (by decide), up_ne 3 17 (by decide), up_ne 3 18 (by decide), up_ne 3 19 (by decide), up_ne 3 20 (by decide), up_ne 3 21 (by decide), up_ne 3 22 (by decide), up_ne 3 23 (by decide), up_ne 3 24 (by decide), up_ne 3 25 (by decide), up_ne 3 26 (by decide), up_ne 3 27 (by decide), up_ne 3 28 (by decide), up_ne 3 29 (by decide), up_ne 3 30 (by decide), up_ne 3 31 (by decide), up_ne 3 32 (by decide), up_ne 3 33 (by decide), up_ne 3 34 (by decide)]
  refine ⟨fun L a w hn hI => ?_, ?_⟩
  · obtain ⟨r, rfl, hB, hR⟩ := hI
    have hup := getD_up hn.2.1
    have d2 : L.getD 2 false = true := hn.2.2.1 2 (by decide +kernel)
    have d3 : L.getD 3 false = true := hn.2.2.1 3 (by decide +kernel)
    have d1 : L.getD 1 false = true := hn.2.2.1 1 (by decide +kernel)
    refine st_val (v := .bool true) (W1 := w) (wanted_t (x := true) rfl (by unfold k19Act; simp only [gd_true, d2, d3, d1]; rfl)) (by unfold k19Act; simp only [gd_true, d2, d3, d1]; first | (go_simp; done) | (go_simp; kernel_rfl)) ?_
    refine ⟨r, ?_, hB, fun h20 => hR (by rwa [up_ne 4 20 (by decide)] at h20)⟩
    unfold k19Act
    simp only [Act.put, List.setIfInBounds_toArray, List.set_cons_zero, List.set_cons_succ, hup, gd_true, up_ne 4 0 (by decide), up_ne 4 1 (by decide), up_ne 4 2 (by decide), up_ne 4 3 (by decide), up_ne 4 5 (by decide), up_ne 4 6 (by decide), up_ne 4 7 (by decide), up_ne 4 8 (by decide), up_ne 4 9 (by decide), up_ne 4 10 (by decide), up_ne 4 11 (by decide), up_ne 4 12 (by decide), up_ne 4 13 (by decide), up_ne 4 14 (by decide), up_ne 4 15 (by decide), up_ne 4 16 (by decide), up_ne 4 17 (by decide), up_ne 4 18 (by decide), up_ne 4 19 (by decide), up_ne 4 20 (by decide), up_ne 4 21 (by decide), up_ne 4 22 (by decide), up_ne 4 23 (by decide), up_ne 4 24 (by decide), up_ne 4 25 (by decide), up_ne 4 26 (by decide), up_ne 4 27 (by decide), up_ne 4 28 (by decide), up_ne 4 29 (by decide), up_ne 4 30 (by decide), up_ne 4 31 (by decide), up_ne 4 32 (by decide), up_ne 4 33 (by decide), up_ne 4 34 (by decide)]
  refine ⟨fun L a w hn hI => ?_, ?_⟩
  · obtain ⟨r, rfl, hB, hR⟩ := hI
    have hup := getD_up hn.2.1
    have d1 : L.getD 1 false = true := hn.2.2.1 1 (by decide +kernel)
    have d4 : L.getD 4 false = true := hn.2.2.1 4 (by decide +kernel)
    refine st_val (v := .bool true) (W1 := w) rfl (by unfold k19Act; simp only [gd_true, d1, d4]; go_simp) ?_
    refine ⟨r, ?_, hB, fun h20 => hR (by rwa [up_ne 5 20 (by decide)] at h20)⟩
    unfold k19Act
    simp only [Act.put, List.setIfInBounds_toArray, List.set_cons_zero, List.set_cons_succ, hup, gd_true, up_ne 5 0 (by decide), up_ne 5 1 (by decide), up_ne 5 2 (by decide), up_ne 5 3 (by decide), up_ne 5 4 (by decide), up_ne 5 6 (by decide), up_ne 5 7 (by decide), up_ne 5 8 (by decide), up_ne 5 9 (by decide), up_ne 5 10 (by decide), up_ne 5 11 (by decide), up_ne 5 12 (by decide), up_ne 5 13 (by decide), up_ne 5 14 (by decide), up_ne 5 15 (by decide), up_ne 5 16 (by decide), up_ne 5 17 (by decide), up_ne 5 18 (by decide), up_ne 5 19 (by decide), up_ne 5 20 (by decide), up_ne 5 21 (by decide), up_ne 5 22 (by decide), up_ne 5 23 (by decide), up_ne 5 24 (by decide), up_ne 5 25 (by decide), up_ne 5 26 (by decide), up_ne 5 27 (by decide), up_ne 5 28 (by decide), up_ne 5 29 (by decide), up_ne 5 30 (by decide), up_ne 5 31 (by decide), up_ne 5 32 (by decide), up_ne 5 33 (by decide), up_ne 5 34 (by decide)]
  refine ⟨fun L a w hn hI => ?_, ?_⟩
  · obtain ⟨r, rfl, hB, hR⟩ := hI
    have hup := getD_up hn.2.1
    have d5 : L.getD 5 false = true := hn.2.2.1 5 (by decide +kernel)
    refine st_val (v := .bool true) (W1 := w) rfl (by unfold k19Act; simp only [gd_true, d5]; go_simp) ?_
    refine ⟨r, ?_, hB, fun h20 => hR (by rwa [up_ne 6 20 (by decide)] at h20)⟩
    unfold k19Act
    simp only [Act.put, List.setIfInBounds_toArray, List.set_cons_zero, List.set_cons_succ, hup, gd_true, up_ne 6 0 (by decide), up_ne 6 1 (by decide), up_ne 6 2 (by decide), up_ne 6 3 (by decide), up_ne 6 4 (by decide), up_ne 6 5 (by decide), up_ne 6 7 (by decide), up_ne 6 8 (by decide), up_ne 6 9 (by decide), up_ne 6 10 (by decide), up_ne 6 11 (by decide), up_ne 6 12 (by decide), up_ne 6 13 (by decide), up_ne 6 14 (by decide), up_ne 6 15 (by decide), up_ne 6 16 (by decide), up_ne 6 17 (by decide), up_ne 6 18 (by decide), up_ne 6 19 (by decide), up_ne 6 20 (by decide), up_ne 6 21 (by decide), up_ne 6 22 (by decide), up_ne 6 23 (by decide), up_ne 6 24 (by decide), up_ne 6 25 (by decide), up_ne 6 26 (by decide), up_ne 6 27 (by decide), up_ne 6 28 (by decide), up_ne 6 29 (by decide), up_ne 6 30 (by decide), up_ne 6 31 (by decide), up_ne 6 32 (by decide), up_ne 6 33 (by decide), up_ne 6 34 (by decide)]
  refine ⟨fun L a w hn hI => ?_, ?_⟩
  · obtain ⟨r, rfl, hB, hR⟩ := hI
    have hup := getD_up hn.2.1
    have d6 : L.getD 6 false = true := hn.2.2.1 6 (by decide +kernel)
    refine st_val (v := (nv (ofN 2748))) (W1 := w) (wanted_t (x := true) rfl (by unfold k19Act; simp only [gd_true, d6]; rfl)) (by unfold k19Act; simp only [gd_true, d6]; exact load_agg_op _ _ _ _ _ _ _ _ Try.underlying45 (hnum_size _ _) rfl (n5'.below hB)) ?_
    refine ⟨r, ?_, hB, fun h20 => hR (by rwa [up_ne 7 20 (by decide)] at h20)⟩
    unfold k19Act
    simp only [Act.put, List.setIfInBounds_toArray, List.set_cons_zero, List.set_cons_succ, hup, gd_true, up_ne 7 0 (by decide), up_ne 7 1 (by decide), up_ne 7 2 (by decide), up_ne 7 3 (by decide), up_ne 7 4 (by decide), up_ne 7 5 (by decide), up_ne 7 6 (by decide), up_ne 7 8 (by decide), up_ne 7 9 (by decide), up_ne 7 10 (by decide), up_ne 7 11 (by decide), up_ne 7 12 (by decide), up_ne 7 13 (by decide), up_ne 7 14 (by decide), up_ne 7 15 (by decide), up_ne 7 16 (by decide), up_ne 7 17 (by decide), up_ne 7 18 (by decide), up_ne 7 19 (by decide), up_ne 7 20 (by decide), up_ne 7 21 (by decide), up_ne 7 22 (by decide), up_ne 7 23 (by decide), up_ne 7 24 (by decide), up_ne 7 25 (by decide), up_ne 7 26 (by decide), up_ne 7 27 (by decide), up_ne 7 28 (by decide), up_ne 7 29 (by decide), up_ne 7 30 (by decide), up_ne 7 31 (by decide), up_ne 7 32 (by decide), up_ne 7 33 (by decide), up_ne 7 34 (by decide)]
  refine ⟨fun L a w hn hI => ?_, ?_⟩
  · obtain ⟨r, rfl, hB, hR⟩ := hI
    have hup := getD_up hn.2.1
    have d6 : L.getD 6 false = true := hn.2.2.1 6 (by decide +kernel)
    refine st_call (f := 27) (args := #[.int .u64 ((2748 : Nat) : Int)]) (W1 := w) (wanted_t (x := true) rfl (by unfold k19Act; simp only [gd_true, d6]; rfl)) (by unfold k19Act; simp only [gd_true, d6]; first | (go_simp; done) | (go_simp; exact ⟨rfl, rfl⟩) | (go_simp; with_reducible rfl)) ((rof_any 2748 (by decide) w).mono ?_)
    rintro e w2 ⟨rfl, m2, d2, rfl⟩
    refine ⟨_, rfl, r, ?_, Below.ext_mk hB hB.size m2 d2, fun h20 => (hR (by rwa [up_ne 8 20 (by decide)] at h20)).below (Below.ext_mk (Below.refl _ _) (Nat.le_refl _) m2 d2)⟩
    unfold k19Act
    simp only [Act.put, List.setIfInBounds_toArray, List.set_cons_zero, List.set_cons_succ, hup, gd_true, up_ne 8 0 (by decide), up_ne 8 1 (by decide), up_ne 8 2 (by decide), up_ne 8 3 (by decide), up_ne 8 4 (by decide), up_ne 8 5 (by decide), up_ne 8 6 (by decide), up_ne 8 7 (by decide), up_ne 8 9 (by decide), up_ne 8 10 (by decide), up_ne 8 11 (by decide), up_ne 8 12 (by decide), up_ne 8 13 (by decide), up_ne 8 14 (by decide), up_ne 8 15 (by decide), up_ne 8 16 (by decide), up_ne 8 17 (by decide), up_ne 8 18 (by decide), up_ne 8 19 (by decide), up_ne 8 20 (by decide), up_ne 8 21 (by decide), up_ne 8 22 (by decide), up_ne 8 23 (by decide), up_ne 8 24 (by decide), up_ne 8 25 (by decide), up_ne 8 26 (by decide), up_ne 8 27 (by decide), up_ne 8 28 (by decide), up_ne 8 29 (by decide), up_ne 8 30 (by decide), up_ne 8 31 (by decide), up_ne 8 32 (by decide), up_ne 8 33 (by decide), up_ne 8 34 (by decide)]
  refine ⟨fun L a w hn hI => ?_, ?_⟩
  · obtain ⟨r, rfl, hB, hR⟩ := hI
    have hup := getD_up hn.2.1
    have d7 : L.getD 7 false = true := hn.2.2.1 7 (by decide +kernel)
    have d8 : L.getD 8 false = true := hn.2.2.1 8 (by decide +kernel)
    have d6 : L.getD 6 false = true := hn.2.2.1 6 (by decide +kernel)
    refine st_val (v := .bool true) (W1 := w) (wanted_t (x := true) rfl (by unfold k19Act; simp only [gd_true, d7, d8, d6]; rfl)) (by unfold k19Act; simp only [gd_true, d7, d8, d6]; first | (go_simp; done) | (go_simp; kernel_rfl)) ?_
    refine ⟨r, ?_, hB, fun h20 => hR (by rwa [up_ne 9 20 (by decide)] at h20)⟩
    unfold k19Act
    simp only [Act.put, List.setIfInBounds_toArray, List.set_cons_zero, List.set_cons_succ, hup, gd_true, up_ne 9 0 (by decide), up_ne 9 1 (by decide), up_ne 9 2 (by decide), up_ne 9 3 (by decide), up_ne 9 4 (by decide), up_ne 9 5 (by decide), up_ne 9 6 (by decide), up_ne 9 7 (by decide), up_ne 9 8 (by decide), up_ne 9 10 (by decide), up_ne 9 11 (by decide), up_ne 9 12 (by decide), up_ne 9 13 (by decide), up_ne 9 14 (by decide), up_ne 9 15 (by decide), up_ne 9 16 (by decide), up_ne 9 17 (by decide), up_ne 9 18 (by decide), up_ne 9 19 (by decide), up_ne 9 20 (by decide), up_ne 9 21 (by decide), up_ne 9 22 (by decide), up_ne 9 23 (by decide), up_ne 9 24 (by decide), up_ne 9 25 (by decide), up_ne 9 26 (by decide), up_ne 9 27 (by decide), up_ne 9 28 (by decide), up_ne 9 29 (by decide), up_ne 9 30 (by decide), up_ne 9 31 (by decide), up_ne 9 32 (by decide), up_ne 9 33 (by decide), up_ne 9 34 (by decide)]
  refine ⟨fun L a w hn hI => ?_, ?_⟩
  · obtain ⟨r, rfl, hB, hR⟩ := hI
    have hup := getD_up hn.2.1
    have d6 : L.getD 6 false = true := hn.2.2.1 6 (by decide +kernel)
    have d9 : L.getD 9 false = true := hn.2.2.1 9 (by decide +kernel)
    refine st_val (v := .bool true) (W1 := w) rfl (by unfold k19Act; simp only [gd_true, d6, d9]; go_simp) ?_
    refine ⟨r, ?_, hB, fun h20 => hR (by rwa [up_ne 10 20 (by decide)] at h20)⟩
    unfold k19Act
    simp only [Act.put, List.setIfInBounds_toArray, List.set_cons_zero, List.set_cons_succ, hup, gd_true, up_ne 10 0 (by decide), up_ne 10 1 (by decide), up_ne 10 2 (by decide), up_ne 10 3 (by decide), up_ne 10 4 (by decide), up_ne 10 5 (by decide), up_ne 10 6 (by decide), up_ne 10 7 (by decide), up_ne 10 8 (by decide), up_ne 10 9 (by decide), up_ne 10 11 (by decide), up_ne 10 12 (by decide), up_ne 10 13 (by decide), up_ne 10 14 (by decide), up_ne 10 15 (by decide), up_ne 10 16 (by decide), up_ne 10 17 (by decide), up_ne 10 18 (by decide), up_ne 10 19 (by decide), up_ne 10 20 (by decide), up_ne 10 21 (by decide), up_ne 10 22 (by decide), up_ne 10 23 (by decide), up_ne 10 24 (by decide), up_ne 10 25 (by decide), up_ne 10 26 (by decide), up_ne 10 27 (by decide), up_ne 10 28 (by decide), up_ne 10 29 (by decide), up_ne 10 30 (by decide), up_ne 10 31 (by decide), up_ne 10 32 (by decide), up_ne 10 33 (by decide), up_ne 10 34 (by decide)]
  refine ⟨fun L a w hn hI => ?_, ?_⟩
  · obtain ⟨r, rfl, hB, hR⟩ := hI
    have hup := getD_up hn.2.1
    have d10 : L.getD 10 false = true := hn.2.2.1 10 (by decide +kernel)
    refine st_val (v := .bool true) (W1 := w) rfl (by unfold k19Act; simp only [gd_true, d10]; go_simp) ?_
    refine ⟨r, ?_, hB, fun h20 => hR (by rwa [up_ne 11 20 (by decide)] at h20)⟩
    unfold k19Act
    simp only [Act.put, List.setIfInBounds_toArray, List.set_cons_zero, List.set_cons_succ, hup, gd_true, up_ne 11 0 (by decide), up_ne 11 1 (by decide), up_ne 11 2 (by decide), up_ne 11 3 (by decide), up_ne 11 4 (by decide), up_ne 11 5 (by decide), up_ne 11 6 (by decide), up_ne 11 7 (by decide), up_ne 11 8 (by decide), up_ne 11 9 (by decide), up_ne 11 10 (by decide), up_ne 11 12 (by decide), up_ne 11 13 (by decide), up_ne 11 14 (by decide), up_ne 11 15 (by decide), up_ne 11 16 (by decide), up_ne 11 17 (by decide), up_ne 11 18 (by decide), up_ne 11 19 (by decide), up_ne 11 20 (by decide), up_ne 11 21 (by decide), up_ne 11 22 (by decide), up_ne 11 23 (by decide), up_ne 11 24 (by decide), up_ne 11 25 (by decide), up_ne 11 26 (by decide), up_ne 11 27 (by decide), up_ne 11 28 (by decide), up_ne 11 29 (by decide), up_ne 11 30 (by decide), up_ne 11 31 (by decide), up_ne 11 32 (by decide), up_ne 11 33 (by decide), up_ne 11 34 (by decide)]
  refine ⟨fun L a w hn hI => ?_, ?_⟩
  · obtain ⟨r, rfl, hB, hR⟩ := hI
    have hup := getD_up hn.2.1
    have d11 : L.getD 11 false = true := hn.2.2.1 11 (by decide +kernel)
    refine st_val (v := .pointer (some ⟨kb, 1, none⟩)) (W1 := w) (wanted_t (x := true) rfl (by unfold k19Act; simp only [gd_true, d11]; rfl)) (by unfold k19Act; simp only [gd_true, d11]; go_simp) ?_
    refine ⟨r, ?_, hB, fun h20 => hR (by rwa [up_ne 12 20 (by decide)] at h20)⟩
    unfold k19Act
    simp only [Act.put, List.setIfInBounds_toArray, List.set_cons_zero, List.set_cons_succ, hup, gd_true, up_ne 12 0 (by decide), up_ne 12 1 (by decide), up_ne 12 2 (by decide), up_ne 12 3 (by decide), up_ne 12 4 (by decide), up_ne 12 5 (by decide), up_ne 12 6 (by decide), up_ne 12 7 (by decide), up_ne 12 8 (by decide), up_ne 12 9 (by decide), up_ne 12 10 (by decide), up_ne 12 11 (by decide), up_ne 12 13 (by decide), up_ne 12 14 (by decide), up_ne 12 15 (by decide), up_ne 12 16 (by decide), up_ne 12 17 (by decide), up_ne 12 18 (by decide), up_ne 12 19 (by decide), up_ne 12 20 (by decide), up_ne 12 21 (by decide), up_ne 12 22 (by decide), up_ne 12 23 (by decide), up_ne 12 24 (by decide), up_ne 12 25 (by decide), up_ne 12 26 (by decide), up_ne 12 27 (by decide), up_ne 12 28 (by decide), up_ne 12 29 (by decide), up_ne 12 30 (by decide), up_ne 12 31 (by decide), up_ne 12 32 (by decide), up_ne 12 33 (by decide), up_ne 12 34 (by decide)]
  refine ⟨fun L a w hn hI => ?_, ?_⟩
  · obtain ⟨r, rfl, hB, hR⟩ := hI
    have hup := getD_up hn.2.1
    have d12 : L.getD 12 false = true := hn.2.2.1 12 (by decide +kernel)
    have d11 : L.getD 11 false = true := hn.2.2.1 11 (by decide +kernel)
    have c1 := (bK1.below hB).cell 1
    simp only [List.getElem?_cons_zero, List.getElem?_cons_succ] at c1
    have zk := (bK1.below hB).lt
    rw [hkr] at c1
    refine st_val (v := r2.v) (W1 := w) (wanted_t (x := true) rfl (by unfold k19Act; simp only [gd_true, d12, d11]; rfl)) (by unfold k19Act; simp only [gd_true, d12, d11]; go_simp) ?_
    refine ⟨r, ?_, hB, fun h20 => hR (by rwa [up_ne 13 20 (by decide)] at h20)⟩
    unfold k19Act
    simp only [Act.put, List.setIfInBounds_toArray, List.set_cons_zero, List.set_cons_succ, hup, gd_true, up_ne 13 0 (by decide), up_ne 13 1 (by decide), up_ne 13 2 (by decide), up_ne 13 3 (by decide), up_ne 13 4 (by decide), up_ne 13 5 (by decide), up_ne 13 6 (by decide), up_ne 13 7 (by decide), up_ne 13 8 (by decide), up_ne 13 9 (by decide), up_ne 13 10 (by decide), up_ne 13 11 (by decide), up_ne 13 12 (by decide), up_ne 13 14 (by decide), up_ne 13 15 (by decide), up_ne 13 16 (by decide), up_ne 13 17 (by decide), up_ne 13 18 (by decide), up_ne 13 19 (by decide), up_ne 13 20 (by decide), up_ne 13 21 (by decide), up_ne 13 22 (by decide), up_ne 13 23 (by decide), up_ne 13 24 (by decide), up_ne 13 25 (by decide), up_ne 13 26 (by decide), up_ne 13 27 (by decide), up_ne 13 28 (by decide), up_ne 13 29 (by decide), up_ne 13 30 (by decide), up_ne 13 31 (by decide), up_ne 13 32 (by decide), up_ne 13 33 (by decide), up_ne 13 34 (by decide)]
  refine ⟨fun L a w hn hI => ?_, ?_⟩
  · obtain ⟨r, rfl, hB, hR⟩ := hI
    have hup := getD_up hn.2.1
    have d13 : L.getD 13 false = true := hn.2.2.1 13 (by decide +kernel)
    have d11 : L.getD 11 false = true := hn.2.2.1 11 (by decide +kernel)
    have hs := str_any (tRZ.below hB)
    refine st_val (v := .string (strOf [222])) (W1 := w) (wanted_t (x := true) rfl (by unfold k19Act; simp only [gd_true, d13, d11]; rfl)) (by unfold k19Act; simp only [gd_true, d13, d11]; go_simp) ?_
    refine ⟨r, ?_, hB, fun h20 => hR (by rwa [up_ne 14 20 (by decide)] at h20)⟩
    unfold k19Act
    simp only [Act.put, List.setIfInBounds_toArray, List.set_cons_zero, List.set_cons_succ, hup, gd_true, up_ne 14 0 (by decide), up_ne 14 1 (by decide), up_ne 14 2 (by decide), up_ne 14 3 (by decide), up_ne 14 4 (by decide), up_ne 14 5 (by decide), up_ne 14 6 (by decide), up_ne 14 7 (by decide), up_ne 14 8 (by decide), up_ne 14 9 (by decide), up_ne 14 10 (by decide), up_ne 14 11 (by decide), up_ne 14 12 (by decide), up_ne 14 13 (by decide), up_ne 14 15 (by decide), up_ne 14 16 (by decide), up_ne 14 17 (by decide), up_ne 14 18 (by decide), up_ne 14 19 (by decide), up_ne 14 20 (by decide), up_ne 14 21 (by decide), up_ne 14 22 (by decide), up_ne 14 23 (by decide), up_ne 14 24 (by decide), up_ne 14 25 (by decide), up_ne 14 26 (by decide), up_ne 14 27 (by decide), up_ne 14 28 (by decide), up_ne 14 29 (by decide), up_ne 14 30 (by decide), up_ne 14 31 (by decide), up_ne 14 32 (by decide), up_ne 14 33 (by decide), up_ne 14 34 (by decide)]
  refine ⟨fun L a w hn hI => ?_, ?_⟩
  · obtain ⟨r, rfl, hB, hR⟩ := hI
    have hup := getD_up hn.2.1
    have d14 : L.getD 14 false = true := hn.2.2.1 14 (by decide +kernel)
    have d11 : L.getD 11 false = true := hn.2.2.1 11 (by decide +kernel)
    refine st_val (v := .bool true) (W1 := w) (wanted_t (x := true) rfl (by unfold k19Act; simp only [gd_true, d14, d11]; rfl)) (by unfold k19Act; simp only [gd_true, d14, d11]; first | (go_simp; done) | (go_simp; kernel_rfl)) ?_
    refine ⟨r, ?_, hB, fun h20 => hR (by rwa [up_ne 15 20 (by decide)] at h20)⟩
    unfold k19Act
    simp only [Act.put, List.setIfInBounds_toArray, List.set_cons_zero, List.set_cons_succ, hup, gd_true, up_ne 15 0 (by decide), up_ne 15 1 (by decide), up_ne 15 2 (by decide), up_ne 15 3 (by decide), up_ne 15 4 (by decide), up_ne 15 5 (by decide), up_ne 15 6 (by decide), up_ne 15 7 (by decide), up_ne 15 8 (by decide), up_ne 15 9 (by decide), up_ne 15 10 (by decide), up_ne 15 11 (by decide), up_ne 15 12 (by decide), up_ne 15 13 (by decide), up_ne 15 14 (by decide), up_ne 15 16 (by decide), up_ne 15 17 (by decide), up_ne 15 18 (by decide), up_ne 15 19 (by decide), up_ne 15 20 (by decide), up_ne 15 21 (by decide), up_ne 15 22 (by decide), up_ne 15 23 (by decide), up_ne 15 24 (by decide), up_ne 15 25 (by decide), up_ne 15 26 (by decide), up_ne 15 27 (by decide), up_ne 15 28 (by decide), up_ne 15 29 (by decide), up_ne 15 30 (by decide), up_ne 15 31 (by decide), up_ne 15 32 (by decide), up_ne 15 33 (by decide), up_ne 15 34 (by decide)]
  refine ⟨fun L a w hn hI => ?_, ?_⟩
  · obtain ⟨r, rfl, hB, hR⟩ := hI
    have hup := getD_up hn.2.1
    have d11 : L.getD 11 false = true := hn.2.2.1 11 (by decide +kernel)
    have d15 : L.getD 15 false = true := hn.2.2.1 15 (by decide +kernel)
    refine st_val (v := .bool true) (W1 := w) rfl (by unfold k19Act; simp only [gd_true, d11, d15]; go_simp) ?_
    refine ⟨r, ?_, hB, fun h20 => hR (by rwa [up_ne 16 20 (by decide)] at h20)⟩
    unfold k19Act
    simp only [Act.put, List.setIfInBounds_toArray, List.set_cons_zero, List.set_cons_succ, hup, gd_true, up_ne 16 0 (by decide), up_ne 16 1 (by decide), up_ne 16 2 (by decide), up_ne 16 3 (by decide), up_ne 16 4 (by decide), up_ne 16 5 (by decide), up_ne 16 6 (by decide), up_ne 16 7 (by decide), up_ne 16 8 (by decide), up_ne 16 9 (by decide), up_ne 16 10 (by decide), up_ne 16 11 (by decide), up_ne 16 12 (by decide), up_ne 16 13 (by decide), up_ne 16 14 (by decide), up_ne 16 15 (by decide), up_ne 16 17 (by decide), up_ne 16 18 (by decide), up_ne 16 19 (by decide), up_ne 16 20 (by decide), up_ne 16 21 (by decide), up_ne 16 22 (by decide), up_ne 16 23 (by decide), up_ne 16 24 (by decide), up_ne 16 25 (by decide), up_ne 16 26 (by decide), up_ne 16 27 (by decide), up_ne 16 28 (by decide), up_ne 16 29 (by decide), up_ne 16 30 (by decide), up_ne 16 31 (by decide), up_ne 16 32 (by decide), up_ne 16 33 (by decide), up_ne 16 34 (by decide)]
  refine ⟨fun L a w hn hI => ?_, ?_⟩
  · obtain ⟨r, rfl, hB, hR⟩ := hI
    have hup := getD_up hn.2.1
    have d16 : L.getD 16 false = true := hn.2.2.1 16 (by decide +kernel)
    refine st_val (v := .bool true) (W1 := w) rfl (by unfold k19Act; simp only [gd_true, d16]; go_simp) ?_
    refine ⟨r, ?_, hB, fun h20 => hR (by rwa [up_ne 17 20 (by decide)] at h20)⟩
    unfold k19Act
    simp only [Act.put, List.setIfInBounds_toArray, List.set_cons_zero, List.set_cons_succ, hup, gd_true, up_ne 17 0 (by decide), up_ne 17 1 (by decide), up_ne 17 2 (by decide), up_ne 17 3 (by decide), up_ne 17 4 (by decide), up_ne 17 5 (by decide), up_ne 17 6 (by decide), up_ne 17 7 (by decide), up_ne 17 8 (by decide), up_ne 17 9 (by decide), up_ne 17 10 (by decide), up_ne 17 11 (by decide), up_ne 17 12 (by decide), up_ne 17 13 (by decide), up_ne 17 14 (by decide), up_ne 17 15 (by decide), up_ne 17 16 (by decide), up_ne 17 18 (by decide), up_ne 17 19 (by decide), up_ne 17 20 (by decide), up_ne 17 21 (by decide), up_ne 17 22 (by decide), up_ne 17 23 (by decide), up_ne 17 24 (by decide), up_ne 17 25 (by decide), up_ne 17 26 (by decide), up_ne 17 27 (by decide), up_ne 17 28 (by decide), up_ne 17 29 (by decide), up_ne 17 30 (by decide), up_ne 17 31 (by decide), up_ne 17 32 (by decide), up_ne 17 33 (by decide), up_ne 17 34 (by decide)]
  refine ⟨fun L a w hn hI => ?_, ?_⟩
  · obtain ⟨r, rfl, hB, hR⟩ := hI
    have hup := getD_up hn.2.1
    have d17 : L.getD 17 false = true := hn.2.2.1 17 (by decide +kernel)
    refine st_val (v := p.v) (W1 := w) (wanted_t (x := true) rfl (by unfold k19Act; simp only [gd_true, d17]; rfl)) (by unfold k19Act; simp only [gd_true, d17]; exact load_agg_op _ _ _ _ _ _ _ _ Try.underlying33 (prog_size _ rfl) rfl (bQ'.below hB)) ?_
    refine ⟨r, ?_, hB, fun h20 => hR (by rwa [up_ne 18 20 (by decide)] at h20)⟩
    unfold k19Act
    simp only [Act.put, List.setIfInBounds_toArray, List.set_cons_zero, List.set_cons_succ, hup, gd_true, up_ne 18 0 (by decide), up_ne 18 1 (by decide), up_ne 18 2 (by decide), up_ne 18 3 (by decide), up_ne 18 4 (by decide), up_ne 18 5 (by decide), up_ne 18 6 (by decide), up_ne 18 7 (by decide), up_ne 18 8 (by decide), up_ne 18 9 (by decide), up_ne 18 10 (by decide), up_ne 18 11 (by decide), up_ne 18 12 (by decide), up_ne 18 13 (by decide), up_ne 18 14 (by decide), up_ne 18 15 (by decide), up_ne 18 16 (by decide), up_ne 18 17 (by decide), up_ne 18 19 (by decide), up_ne 18 20 (by decide), up_ne 18 21 (by decide), up_ne 18 22 (by decide), up_ne 18 23 (by decide), up_ne 18 24 (by decide), up_ne 18 25 (by decide), up_ne 18 26 (by decide), up_ne 18 27 (by decide), up_ne 18 28 (by decide), up_ne 18 29 (by decide), up_ne 18 30 (by decide), up_ne 18 31 (by decide), up_ne 18 32 (by decide), up_ne 18 33 (by decide), up_ne 18 34 (by decide)]
  refine ⟨fun L a w hn hI => ?_, ?_⟩
  · obtain ⟨r, rfl, hB, hR⟩ := hI
    have hup := getD_up hn.2.1
    have d17 : L.getD 17 false = true := hn.2.2.1 17 (by decide +kernel)
    refine st_val (v := k.v) (W1 := w) (wanted_t (x := true) rfl (by unfold k19Act; simp only [gd_true, d17]; rfl)) (by unfold k19Act; simp only [gd_true, d17]; exact load_agg_op _ _ _ _ _ _ _ _ Try.underlying39 (pk_size _ rfl) rfl (bK1.below hB)) ?_
    refine ⟨r, ?_, hB, fun h20 => hR (by rwa [up_ne 19 20 (by decide)] at h20)⟩
    unfold k19Act
    simp only [Act.put, List.setIfInBounds_toArray, List.set_cons_zero, List.set_cons_succ, hup, gd_true, up_ne 19 0 (by decide), up_ne 19 1 (by decide), up_ne 19 2 (by decide), up_ne 19 3 (by decide), up_ne 19 4 (by decide), up_ne 19 5 (by decide), up_ne 19 6 (by decide), up_ne 19 7 (by decide), up_ne 19 8 (by decide), up_ne 19 9 (by decide), up_ne 19 10 (by decide), up_ne 19 11 (by decide), up_ne 19 12 (by decide), up_ne 19 13 (by decide), up_ne 19 14 (by decide), up_ne 19 15 (by decide), up_ne 19 16 (by decide), up_ne 19 17 (by decide), up_ne 19 18 (by decide), up_ne 19 20 (by decide), up_ne 19 21 (by decide), up_ne 19 22 (by decide), up_ne 19 23 (by decide), up_ne 19 24 (by decide), up_ne 19 25 (by decide), up_ne 19 26 (by decide), up_ne 19 27 (by decide), up_ne 19 28 (by decide), up_ne 19 29 (by decide), up_ne 19 30 (by decide), up_ne 19 31 (by decide), up_ne 19 32 (by decide), up_ne 19 33 (by decide), up_ne 19 34 (by decide)]
  refine ⟨fun L a w hn hI => ?_, ?_⟩
  · obtain ⟨r, rfl, hB, hR⟩ := hI
    have hup := getD_up hn.2.1
    have d18 : L.getD 18 false = true := hn.2.2.1 18 (by decide +kernel)
    have d19 : L.getD 19 false = true := hn.2.2.1 19 (by decide +kernel)
    have d17 : L.getD 17 false = true := hn.2.2.1 17 (by decide +kernel)
    refine st_call (f := 13) (args := #[p.v, k.v]) (W1 := w) (wanted_t (x := true) rfl (by unfold k19Act; simp only [gd_true, d18, d19, d17]; rfl)) (by unfold k19Act; simp only [gd_true, d18, d19, d17]; first | (go_simp; done) | (go_simp; exact ⟨rfl, rfl⟩) | (go_simp; with_reducible rfl)) ((emit_any (EI.below hB)).mono ?_)
    rintro e w2 ⟨r', rfl, q1, q2⟩
    have f21 := not_up hn.2.2.2 (i := 21) (k := 20) (by decide +kernel) hn.2.1
    refine ⟨_, rfl, r', ?_, hB.trans (q2.mono hB.size), fun _ => hE q1⟩
    unfold k19Act
    simp only [Act.put, List.setIfInBounds_toArray, List.set_cons_zero, List.set_cons_succ, hup, gd_true, up_ne 20 0 (by decide), up_ne 20 1 (by decide), up_ne 20 2 (by decide), up_ne 20 3 (by decide), up_ne 20 4 (by decide), up_ne 20 5 (by decide), up_ne 20 6 (by decide), up_ne 20 7 (by decide), up_ne 20 8 (by decide), up_ne 20 9 (by decide), up_ne 20 10 (by decide), up_ne 20 11 (by decide), up_ne 20 12 (by decide), up_ne 20 13 (by decide), up_ne 20 14 (by decide), up_ne 20 15 (by decide), up_ne 20 16 (by decide), up_ne 20 17 (by decide), up_ne 20 18 (by decide), up_ne 20 19 (by decide), up_ne 20 21 (by decide), up_ne 20 22 (by decide), up_ne 20 23 (by decide), up_ne 20 24 (by decide), up_ne 20 25 (by decide), up_ne 20 26 (by decide), up_ne 20 27 (by decide), up_ne 20 28 (by decide), up_ne 20 29 (by decide), up_ne 20 30 (by decide), up_ne 20 31 (by decide), up_ne 20 32 (by decide), up_ne 20 33 (by decide), up_ne 20 34 (by decide)]
  refine ⟨fun L a w hn hI => ?_, ?_⟩
  · obtain ⟨r, rfl, hB, hR⟩ := hI
    have hup := getD_up hn.2.1
    have d20 : L.getD 20 false = true := hn.2.2.1 20 (by decide +kernel)
    have d17 : L.getD 17 false = true := hn.2.2.1 17 (by decide +kernel)
    have hs := str_any (hR d20)
    refine st_val (v := .string (strOf [26, 188, 222])) (W1 := w) (wanted_t (x := true) rfl (by unfold k19Act; simp only [gd_true, d20, d17]; rfl)) (by unfold k19Act; simp only [gd_true, d20, d17]; go_simp) ?_
    refine ⟨r, ?_, hB, fun h20 => hR (by rwa [up_ne 21 20 (by decide)] at h20)⟩
    unfold k19Act
    simp only [Act.put, List.setIfInBounds_toArray, List.set_cons_zero, List.set_cons_succ, hup, gd_true, up_ne 21 0 (by decide), up_ne 21 1 (by decide), up_ne 21 2 (by decide), up_ne 21 3 (by decide), up_ne 21 4 (by decide), up_ne 21 5 (by decide), up_ne 21 6 (by decide), up_ne 21 7 (by decide), up_ne 21 8 (by decide), up_ne 21 9 (by decide), up_ne 21 10 (by decide), up_ne 21 11 (by decide), up_ne 21 12 (by decide), up_ne 21 13 (by decide), up_ne 21 14 (by decide), up_ne 21 15 (by decide), up_ne 21 16 (by decide), up_ne 21 17 (by decide), up_ne 21 18 (by decide), up_ne 21 19 (by decide), up_ne 21 20 (by decide), up_ne 21 22 (by decide), up_ne 21 23 (by decide), up_ne 21 24 (by decide), up_ne 21 25 (by decide), up_ne 21 26 (by decide), up_ne 21 27 (by decide), up_ne 21 28 (by decide), up_ne 21 29 (by decide), up_ne 21 30 (by decide), up_ne 21 31 (by decide), up_ne 21 32 (by decide), up_ne 21 33 (by decide), up_ne 21 34 (by decide)]
  refine ⟨fun L a w hn hI => ?_, ?_⟩
  · obtain ⟨r, rfl, hB, hR⟩ := hI
    have hup := getD_up hn.2.1
    have d21 : L.getD 21 false = true := hn.2.2.1 21 (by decide +kernel)
    have d17 : L.getD 17 false = true := hn.2.2.1 17 (by decide +kernel)
    refine st_val (v := .bool true) (W1 := w) (wanted_t (x := true) rfl (by unfold k19Act; simp only [gd_true, d21, d17]; rfl)) (by unfold k19Act; simp only [gd_true, d21, d17]; first | (go_simp; done) | (go_simp; kernel_rfl)) ?_
    refine ⟨r, ?_, hB, fun h20 => hR (by rwa [up_ne 22 20 (by decide)] at h20)⟩
    unfold k19Act
    simp only [Act.put, List.setIfInBounds_toArray, List.set_cons_zero, List.set_cons_succ, hup, gd_true, up_ne 22 0 (by decide), up_ne 22 1 (by decide), up_ne 22 2 (by decide), up_ne 22 3 (by decide), up_ne 22 4 (by decide), up_ne 22 5 (by decide), up_ne 22 6 (by decide), up_ne 22 7 (by decide), up_ne 22 8 (by decide), up_ne 22 9 (by decide), up_ne 22 10 (by decide), up_ne 22 11 (by decide), up_ne 22 12 (by decide), up_ne 22 13 (by decide), up_ne 22 14 (by decide), up_ne 22 15 (by decide), up_ne 22 16 (by decide), up_ne 22 17 (by decide), up_ne 22 18 (by decide), up_ne 22 19 (by decide), up_ne 22 20 (by decide), up_ne 22 21 (by decide), up_ne 22 23 (by decide), up_ne 22 24 (by decide), up_ne 22 25 (by decide), up_ne 22 26 (by decide), up_ne 22 27 (by decide), up_ne 22 28 (by decide), up_ne 22 29 (by decide), up_ne 22 30 (by decide), up_ne 22 31 (by decide), up_ne 22 32 (by decide), up_ne 22 33 (by decide), up_ne 22 34 (by decide)]
  refine ⟨fun L a w hn hI => ?_, ?_⟩
  · obtain ⟨r, rfl, hB, hR⟩ := hI
    have hup := getD_up hn.2.1
    have d17 : L.getD 17 false = true := hn.2.2.1 17 (by decide +kernel)
    have d22 : L.getD 22 false = true := hn.2.2.1 22 (by decide +kernel)
    refine st_val (v := .bool true) (W1 := w) rfl (by unfold k19Act; simp only [gd_true, d17, d22]; go_simp) ?_
    refine ⟨r, ?_, hB, fun h20 => hR (by rwa [up_ne 23 20 (by decide)] at h20)⟩
    unfold k19Act
    simp only [Act.put, List.setIfInBounds_toArray, List.set_cons_zero, List.set_cons_succ, hup, gd_true, up_ne 23 0 (by decide), up_ne 23 1 (by decide), up_ne 23 2 (by decide), up_ne 23 3 (by decide), up_ne 23 4 (by decide), up_ne 23 5 (by decide), up_ne 23 6 (by decide), up_ne 23 7 (by decide), up_ne 23 8 (by decide), up_ne 23 9 (by decide), up_ne 23 10 (by decide), up_ne 23 11 (by decide), up_ne 23 12 (by decide), up_ne 23 13 (by decide), up_ne 23 14 (by decide), up_ne 23 15 (by decide), up_ne 23 16 (by decide), up_ne 23 17 (by decide), up_ne 23 18 (by decide), up_ne 23 19 (by decide), up_ne 23 20 (by decide), up_ne 23 21 (by decide), up_ne 23 22 (by decide), up_ne 23 24 (by decide), up_ne 23 25 (by decide), up_ne 23 26 (by decide), up_ne 23 27 (by decide), up_ne 23 28 (by decide), up_ne 23 29 (by decide), up_ne 23 30 (by decide), up_ne 23 31 (by decide), up_ne 23 32 (by decide), up_ne 23 33 (by decide), up_ne 23 34 (by decide)]
  refine ⟨fun L a w hn hI => ?_, ?_⟩
  · obtain ⟨r, rfl, hB, hR⟩ := hI
    have hup := getD_up hn.2.1
    have d23 : L.getD 23 false = true := hn.2.2.1 23 (by decide +kernel)
    refine st_val (v := .bool true) (W1 := w) rfl (by unfold k19Act; simp only [gd_true, d23]; go_simp) ?_
    refine ⟨r, ?_, hB, fun h20 => hR (by rwa [up_ne 24 20 (by decide)] at h20)⟩
    unfold k19Act
    simp only [Act.put, List.setIfInBounds_toArray, List.set_cons_zero, List.set_cons_succ, hup, gd_true, up_ne 24 0 (by decide), up_ne 24 1 (by decide), up_ne 24 2 (by decide), up_ne 24 3 (by decide), up_ne 24 4 (by decide), up_ne 24 5 (by decide), up_ne 24 6 (by decide), up_ne 24 7 (by decide), up_ne 24 8 (by decide), up_ne 24 9 (by decide), up_ne 24 10 (by decide), up_ne 24 11 (by decide), up_ne 24 12 (by decide), up_ne 24 13 (by decide), up_ne 24 14 (by decide), up_ne 24 15 (by decide), up_ne 24 16 (by decide), up_ne 24 17 (by decide), up_ne 24 18 (by decide), up_ne 24 19 (by decide), up_ne 24 20 (by decide), up_ne 24 21 (by decide), up_ne 24 22 (by decide), up_ne 24 23 (by decide), up_ne 24 25 (by decide), up_ne 24 26 (by decide), up_ne 24 27 (by decide), up_ne 24 28 (by decide), up_ne 24 29 (by decide), up_ne 24 30 (by decide), up_ne 24 31 (by decide), up_ne 24 32 (by decide), up_ne 24 33 (by decide), up_ne 24 34 (by decide)]
  refine ⟨fun L a w hn hI => ?_, ?_⟩
  · obtain ⟨r, rfl, hB, hR⟩ := hI
    have hup := getD_up hn.2.1
    have d24 : L.getD 24 false = true := hn.2.2.1 24 (by decide +kernel)
    refine st_val (v := p.v) (W1 := w) (wanted_t (x := true) rfl (by unfold k19Act; simp only [gd_true, d24]; rfl)) (by unfold k19Act; simp only [gd_true, d24]; exact load_agg_op _ _ _ _ _ _ _ _ Try.underlying33 (prog_size _ rfl) rfl (bQ'.below hB)) ?_
    refine ⟨r, ?_, hB, fun h20 => hR (by rwa [up_ne 25 20 (by decide)] at h20)⟩
    unfold k19Act
    simp only [Act.put, List.setIfInBounds_toArray, List.set_cons_zero, List.set_cons_succ, hup, gd_true, up_ne 25 0 (by decide), up_ne 25 1 (by decide), up_ne 25 2 (by decide), up_ne 25 3 (by decide), up_ne 25 4 (by decide), up_ne 25 5 (by decide), up_ne 25 6 (by decide), up_ne 25 7 (by decide), up_ne 25 8 (by decide), up_ne 25 9 (by decide), up_ne 25 10 (by decide), up_ne 25 11 (by decide), up_ne 25 12 (by decide), up_ne 25 13 (by decide), up_ne 25 14 (by decide), up_ne 25 15 (by decide), up_ne 25 16 (by decide), up_ne 25 17 (by decide), up_ne 25 18 (by decide), up_ne 25 19 (by decide), up_ne 25 20 (by decide), up_ne 25 21 (by decide), up_ne 25 22 (by decide), up_ne 25 23 (by decide), up_ne 25 24 (by decide), up_ne 25 26 (by decide), up_ne 25 27 (by decide), up_ne 25 28 (by decide), up_ne 25 29 (by decide), up_ne 25 30 (by decide), up_ne 25 31 (by decide), up_ne 25 32 (by decide), up_ne 25 33 (by decide), up_ne 25 34 (by decide)]
  refine ⟨fun L a w hn hI => ?_, ?_⟩
  · obtain ⟨r, rfl, hB, hR⟩ := hI
    have hup := getD_up hn.2.1
    have d25 : L.getD 25 false = true := hn.2.2.1 25 (by decide +kernel)
    have d24 : L.getD 24 false = true := hn.2.2.1 24 (by decide +kernel)
    refine st_call (f := 21) (args := #[p.v, .int .i64 0]) (W1 := w) (wanted_t (x := true) rfl (by unfold k19Act; simp only [gd_true, d25, d24]; rfl)) (by unfold k19Act; simp only [gd_true, d25, d24]; first | (go_simp; done) | (go_simp; exact ⟨rfl, rfl⟩) | (go_simp; with_reducible rfl)) ((size_any (HD'.below hB) 0 k19_few).mono ?_)
    rintro e w2 ⟨he, m2, d2, rfl⟩
    rw [e26] at he
    subst he
    refine ⟨_, rfl, r, ?_, Below.ext_mk hB hB.size m2 d2, fun h20 => (hR (by rwa [up_ne 26 20 (by decide)] at h20)).below (Below.ext_mk (Below.refl _ _) (Nat.le_refl _) m2 d2)⟩
    unfold k19Act
    simp only [Act.put, List.setIfInBounds_toArray, List.set_cons_zero, List.set_cons_succ, hup, gd_true, up_ne 26 0 (by decide), up_ne 26 1 (by decide), up_ne 26 2 (by decide), up_ne 26 3 (by decide), up_ne 26 4 (by decide), up_ne 26 5 (by decide), up_ne 26 6 (by decide), up_ne 26 7 (by decide), up_ne 26 8 (by decide), up_ne 26 9 (by decide), up_ne 26 10 (by decide), up_ne 26 11 (by decide), up_ne 26 12 (by decide), up_ne 26 13 (by decide), up_ne 26 14 (by decide), up_ne 26 15 (by decide), up_ne 26 16 (by decide), up_ne 26 17 (by decide), up_ne 26 18 (by decide), up_ne 26 19 (by decide), up_ne 26 20 (by decide), up_ne 26 21 (by decide), up_ne 26 22 (by decide), up_ne 26 23 (by decide), up_ne 26 24 (by decide), up_ne 26 25 (by decide), up_ne 26 27 (by decide), up_ne 26 28 (by decide), up_ne 26 29 (by decide), up_ne 26 30 (by decide), up_ne 26 31 (by decide), up_ne 26 32 (by decide), up_ne 26 33 (by decide), up_ne 26 34 (by decide)]
  refine ⟨fun L a w hn hI => ?_, ?_⟩
  · obtain ⟨r, rfl, hB, hR⟩ := hI
    have hup := getD_up hn.2.1
    have d26 : L.getD 26 false = true := hn.2.2.1 26 (by decide +kernel)
    have d24 : L.getD 24 false = true := hn.2.2.1 24 (by decide +kernel)
    refine st_val (v := .bool true) (W1 := w) (wanted_t (x := true) rfl (by unfold k19Act; simp only [gd_true, d26, d24]; rfl)) (by unfold k19Act; simp only [gd_true, d26, d24]; go_simp) ?_
    refine ⟨r, ?_, hB, fun h20 => hR (by rwa [up_ne 27 20 (by decide)] at h20)⟩
    unfold k19Act
    simp only [Act.put, List.setIfInBounds_toArray, List.set_cons_zero, List.set_cons_succ, hup, gd_true, up_ne 27 0 (by decide), up_ne 27 1 (by decide), up_ne 27 2 (by decide), up_ne 27 3 (by decide), up_ne 27 4 (by decide), up_ne 27 5 (by decide), up_ne 27 6 (by decide), up_ne 27 7 (by decide), up_ne 27 8 (by decide), up_ne 27 9 (by decide), up_ne 27 10 (by decide), up_ne 27 11 (by decide), up_ne 27 12 (by decide), up_ne 27 13 (by decide), up_ne 27 14 (by decide), up_ne 27 15 (by decide), up_ne 27 16 (by decide), up_ne 27 17 (by decide), up_ne 27 18 (by decide), up_ne 27 19 (by decide), up_ne 27 20 (by decide), up_ne 27 21 (by decide), up_ne 27 22 (by decide), up_ne 27 23 (by decide), up_ne 27 24 (by decide), up_ne 27 25 (by decide), up_ne 27 26 (by decide), up_ne 27 28 (by decide), up_ne 27 29 (by decide), up_ne 27 30 (by decide), up_ne 27 31 (by decide), up_ne 27 32 (by decide), up_ne 27 33 (by decide), up_ne 27 34 (by decide)]
  refine ⟨fun L a w hn hI => ?_, ?_⟩
  · obtain ⟨r, rfl, hB, hR⟩ := hI
    have hup := getD_up hn.2.1
    have d24 : L.getD 24 false = true := hn.2.2.1 24 (by decide +kernel)
    have d27 : L.getD 27 false = true := hn.2.2.1 27 (by decide +kernel)
    refine st_val (v := .bool true) (W1 := w) rfl (by unfold k19Act; simp only [gd_true, d24, d27]; go_simp) ?_
    refine ⟨r, ?_, hB, fun h20 => hR (by rwa [up_ne 28 20 (by decide)] at h20)⟩
    unfold k19Act
    simp only [Act.put, List.setIfInBounds_toArray, List.set_cons_zero, List.set_cons_succ, hup, gd_true, up_ne 28 0 (by decide), up_ne 28 1 (by decide), up_ne 28 2 (by decide), up_ne 28 3 (by decide), up_ne 28 4 (by decide), up_ne 28 5 (by decide), up_ne 28 6 (by decide), up_ne 28 7 (by decide), up_ne 28 8 (by decide), up_ne 28 9 (by decide), up_ne 28 10 (by decide), up_ne 28 11 (by decide), up_ne 28 12 (by decide), up_ne 28 13 (by decide), up_ne 28 14 (by decide), up_ne 28 15 (by decide), up_ne 28 16 (by decide), up_ne 28 17 (by decide), up_ne 28 18 (by decide), up_ne 28 19 (by decide), up_ne 28 20 (by decide), up_ne 28 21 (by decide), up_ne 28 22 (by decide), up_ne 28 23 (by decide), up_ne 28 24 (by decide), up_ne 28 25 (by decide), up_ne 28 26 (by decide), up_ne 28 27 (by decide), up_ne 28 29 (by decide), up_ne 28 30 (by decide), up_ne 28 31 (by decide), up_ne 28 32 (by decide), up_ne 28 33 (by decide), up_ne 28 34 (by decide)]
  refine ⟨fun L a w hn hI => ?_, ?_⟩
  · obtain ⟨r, rfl, hB, hR⟩ := hI
    have hup := getD_up hn.2.1
    have d28 : L.getD 28 false = true := hn.2.2.1 28 (by decide +kernel)
    refine st_val (v := .bool true) (W1 := w) rfl (by unfold k19Act; simp only [gd_true, d28]; go_simp) ?_
    refine ⟨r, ?_, hB, fun h20 => hR (by rwa [up_ne 29 20 (by decide)] at h20)⟩
    unfold k19Act
    simp only [Act.put, List.setIfInBounds_toArray, List.set_cons_zero, List.set_cons_succ, hup, gd_true, up_ne 29 0 (by decide), up_ne 29 1 (by decide), up_ne 29 2 (by decide), up_ne 29 3 (by decide), up_ne 29 4 (by decide), up_ne 29 5 (by decide), up_ne 29 6 (by decide), up_ne 29 7 (by decide), up_ne 29 8 (by decide), up_ne 29 9 (by decide), up_ne 29 10 (by decide), up_ne 29 11 (by decide), up_ne 29 12 (by decide), up_ne 29 13 (by decide), up_ne 29 14 (by decide), up_ne 29 15 (by decide), up_ne 29 16 (by decide), up_ne 29 17 (by decide), up_ne 29 18 (by decide), up_ne 29 19 (by decide), up_ne 29 20 (by decide), up_ne 29 21 (by decide), up_ne 29 22 (by decide), up_ne 29 23 (by decide), up_ne 29 24 (by decide), up_ne 29 25 (by decide), up_ne 29 26 (by decide), up_ne 29 27 (by decide), up_ne 29 28 (by decide), up_ne 29 30 (by decide), up_ne 29 31 (by decide), up_ne 29 32 (by decide), up_ne 29 33 (by decide), up_ne 29 34 (by decide)]
  refine ⟨fun L a w hn hI => ?_, ?_⟩
  · obtain ⟨r, rfl, hB, hR⟩ := hI
    have hup := getD_up hn.2.1
    have d29 : L.getD 29 false = true := hn.2.2.1 29 (by decide +kernel)
    refine st_val (v := p.v) (W1 := w) (wanted_t (x := true) rfl (by unfold k19Act; simp only [gd_true, d29]; rfl)) (by unfold k19Act; simp only [gd_true, d29]; exact load_agg_op _ _ _ _ _ _ _ _ Try.underlying33 (prog_size _ rfl) rfl (bQ'.below hB)) ?_
    refine ⟨r, ?_, hB, fun h20 => hR (by rwa [up_ne 30 20 (by decide)] at h20)⟩
    unfold k19Act
    simp only [Act.put, List.setIfInBounds_toArray, List.set_cons_zero, List.set_cons_succ, hup, gd_true, up_ne 30 0 (by decide), up_ne 30 1 (by decide), up_ne 30 2 (by decide), up_ne 30 3 (by decide), up_ne 30 4 (by decide), up_ne 30 5 (by decide), up_ne 30 6 (by decide), up_ne 30 7 (by decide), up_ne 30 8 (by decide), up_ne 30 9 (by decide), up_ne 30 10 (by decide), up_ne 30 11 (by decide), up_ne 30 12 (by decide), up_ne 30 13 (by decide), up_ne 30 14 (by decide), up_ne 30 15 (by decide), up_ne 30 16 (by decide), up_ne 30 17 (by decide), up_ne 30 18 (by decide), up_ne 30 19 (by decide), up_ne 30 20 (by decide), up_ne 30 21 (by decide), up_ne 30 22 (by decide), up_ne 30 23 (by decide), up_ne 30 24 (by decide), up_ne 30 25 (by decide), up_ne 30 26 (by decide), up_ne 30 27 (by decide), up_ne 30 28 (by decide), up_ne 30 29 (by decide), up_ne 30 31 (by decide), up_ne 30 32 (by decide), up_ne 30 33 (by decide), up_ne 30 34 (by decide)]
  refine ⟨fun L a w hn hI => ?_, ?_⟩
  · obtain ⟨r, rfl, hB, hR⟩ := hI
    have hup := getD_up hn.2.1
    have d29 : L.getD 29 false = true := hn.2.2.1 29 (by decide +kernel)
    refine st_val (v := k.v) (W1 := w) (wanted_t (x := true) rfl (by unfold k19Act; simp only [gd_true, d29]; rfl)) (by unfold k19Act; simp only [gd_true, d29]; exact load_agg_op _ _ _ _ _ _ _ _ Try.underlying39 (pk_size _ rfl) rfl (bK1.below hB)) ?_
    refine ⟨r, ?_, hB, fun h20 => hR (by rwa [up_ne 31 20 (by decide)] at h20)⟩
    unfold k19Act
    simp only [Act.put, List.setIfInBounds_toArray, List.set_cons_zero, List.set_cons_succ, hup, gd_true, up_ne 31 0 (by decide), up_ne 31 1 (by decide), up_ne 31 2 (by decide), up_ne 31 3 (by decide), up_ne 31 4 (by decide), up_ne 31 5 (by decide), up_ne 31 6 (by decide), up_ne 31 7 (by decide), up_ne 31 8 (by decide), up_ne 31 9 (by decide), up_ne 31 10 (by decide), up_ne 31 11 (by decide), up_ne 31 12 (by decide), up_ne 31 13 (by decide), up_ne 31 14 (by decide), up_ne 31 15 (by decide), up_ne 31 16 (by decide), up_ne 31 17 (by decide), up_ne 31 18 (by decide), up_ne 31 19 (by decide), up_ne 31 20 (by decide), up_ne 31 21 (by decide), up_ne 31 22 (by decide), up_ne 31 23 (by decide), up_ne 31 24 (by decide), up_ne 31 25 (by decide), up_ne 31 26 (by decide), up_ne 31 27 (by decide), up_ne 31 28 (by decide), up_ne 31 29 (by decide), up_ne 31 30 (by decide), up_ne 31 32 (by decide), up_ne 31 33 (by decide), up_ne 31 34 (by decide)]
  refine ⟨fun L a w hn hI => ?_, ?_⟩
  · obtain ⟨r, rfl, hB, hR⟩ := hI
    have hup := getD_up hn.2.1
    have d30 : L.getD 30 false = true := hn.2.2.1 30 (by decide +kernel)
    have d31 : L.getD 31 false = true := hn.2.2.1 31 (by decide +kernel)
    have d29 : L.getD 29 false = true := hn.2.2.1 29 (by decide +kernel)
    refine st_call (f := 9) (args := #[p.v, k.v]) (W1 := w) (wanted_t (x := true) rfl (by unfold k19Act; simp only [gd_true, d30, d31, d29]; rfl)) (by unfold k19Act; simp only [gd_true, d30, d31, d29]; first | (go_simp; done) | (go_simp; exact ⟨rfl, rfl⟩) | (go_simp; with_reducible rfl)) ((hfits_any (FI.below hB)).mono ?_)
    rintro e w2 ⟨he, m2, d2, rfl⟩
    rw [e32] at he
    subst he
    refine ⟨_, rfl, r, ?_, Below.ext_mk hB hB.size m2 d2, fun h20 => (hR (by rwa [up_ne 32 20 (by decide)] at h20)).below (Below.ext_mk (Below.refl _ _) (Nat.le_refl _) m2 d2)⟩
    unfold k19Act
    simp only [Act.put, List.setIfInBounds_toArray, List.set_cons_zero, List.set_cons_succ, hup, gd_true, up_ne 32 0 (by decide), up_ne 32 1 (by decide), up_ne 32 2 (by decide), up_ne 32 3 (by decide), up_ne 32 4 (by decide), up_ne 32 5 (by decide), up_ne 32 6 (by decide), up_ne 32 7 (by decide), up_ne 32 8 (by decide), up_ne 32 9 (by decide), up_ne 32 10 (by decide), up_ne 32 11 (by decide), up_ne 32 12 (by decide), up_ne 32 13 (by decide), up_ne 32 14 (by decide), up_ne 32 15 (by decide), up_ne 32 16 (by decide), up_ne 32 17 (by decide), up_ne 32 18 (by decide), up_ne 32 19 (by decide), up_ne 32 20 (by decide), up_ne 32 21 (by decide), up_ne 32 22 (by decide), up_ne 32 23 (by decide), up_ne 32 24 (by decide), up_ne 32 25 (by decide), up_ne 32 26 (by decide), up_ne 32 27 (by decide), up_ne 32 28 (by decide), up_ne 32 29 (by decide), up_ne 32 30 (by decide), up_ne 32 31 (by decide), up_ne 32 33 (by decide), up_ne 32 34 (by decide)]
  refine ⟨fun L a w hn hI => ?_, ?_⟩
  · obtain ⟨r, rfl, hB, hR⟩ := hI
    have hup := getD_up hn.2.1
    have d29 : L.getD 29 false = true := hn.2.2.1 29 (by decide +kernel)
    have d32 : L.getD 32 false = true := hn.2.2.1 32 (by decide +kernel)
    refine st_val (v := .bool true) (W1 := w) rfl (by unfold k19Act; simp only [gd_true, d29, d32]; go_simp) ?_
    refine ⟨r, ?_, hB, fun h20 => hR (by rwa [up_ne 33 20 (by decide)] at h20)⟩
    unfold k19Act
    simp only [Act.put, List.setIfInBounds_toArray, List.set_cons_zero, List.set_cons_succ, hup, gd_true, up_ne 33 0 (by decide), up_ne 33 1 (by decide), up_ne 33 2 (by decide), up_ne 33 3 (by decide), up_ne 33 4 (by decide), up_ne 33 5 (by decide), up_ne 33 6 (by decide), up_ne 33 7 (by decide), up_ne 33 8 (by decide), up_ne 33 9 (by decide), up_ne 33 10 (by decide), up_ne 33 11 (by decide), up_ne 33 12 (by decide), up_ne 33 13 (by decide), up_ne 33 14 (by decide), up_ne 33 15 (by decide), up_ne 33 16 (by decide), up_ne 33 17 (by decide), up_ne 33 18 (by decide), up_ne 33 19 (by decide), up_ne 33 20 (by decide), up_ne 33 21 (by decide), up_ne 33 22 (by decide), up_ne 33 23 (by decide), up_ne 33 24 (by decide), up_ne 33 25 (by decide), up_ne 33 26 (by decide), up_ne 33 27 (by decide), up_ne 33 28 (by decide), up_ne 33 29 (by decide), up_ne 33 30 (by decide), up_ne 33 31 (by decide), up_ne 33 32 (by decide), up_ne 33 34 (by decide)]
  refine ⟨fun L a w hn hI => ?_, ?_⟩
  · obtain ⟨r, rfl, hB, hR⟩ := hI
    have hup := getD_up hn.2.1
    have d33 : L.getD 33 false = true := hn.2.2.1 33 (by decide +kernel)
    refine st_val (v := .bool true) (W1 := w) rfl (by unfold k19Act; simp only [gd_true, d33]; go_simp) ?_
    refine ⟨r, ?_, hB, fun h20 => hR (by rwa [up_ne 34 20 (by decide)] at h20)⟩
    unfold k19Act
    simp only [Act.put, List.setIfInBounds_toArray, List.set_cons_zero, List.set_cons_succ, hup, gd_true, up_ne 34 0 (by decide), up_ne 34 1 (by decide), up_ne 34 2 (by decide), up_ne 34 3 (by decide), up_ne 34 4 (by decide), up_ne 34 5 (by decide), up_ne 34 6 (by decide), up_ne 34 7 (by decide), up_ne 34 8 (by decide), up_ne 34 9 (by decide), up_ne 34 10 (by decide), up_ne 34 11 (by decide), up_ne 34 12 (by decide), up_ne 34 13 (by decide), up_ne 34 14 (by decide), up_ne 34 15 (by decide), up_ne 34 16 (by decide), up_ne 34 17 (by decide), up_ne 34 18 (by decide), up_ne 34 19 (by decide), up_ne 34 20 (by decide), up_ne 34 21 (by decide), up_ne 34 22 (by decide), up_ne 34 23 (by decide), up_ne 34 24 (by decide), up_ne 34 25 (by decide), up_ne 34 26 (by decide), up_ne 34 27 (by decide), up_ne 34 28 (by decide), up_ne 34 29 (by decide), up_ne 34 30 (by decide), up_ne 34 31 (by decide), up_ne 34 32 (by decide), up_ne 34 33 (by decide)]
  trivial
end Go.Proofs.Ytkblldmpdihamaa
