/-
  Package quant: the walk that Support makes, over a live store.
-/
import Derived.Test.YtboekafmplomhaaZQuantL
import Derived.Test.YtboekafmplomhaaZArr
import Derived.Test.YtboekafmplomhaaZAny
import Derived.Test.YtboekafmplomhaaZLund
set_option linter.unusedVariables false
set_option linter.unusedSimpArgs false
namespace Go.Proofs.Ytboekafmplomhaa
open Go.RowKit

/-- What the walk has seen, and what it hangs on. -/
def supN (S : Sto) : Nat → List (Int × Int) → List Bool → Int → List (Int × Int) × List Bool
  | 0, K, O, _ => (K, O)
  | n + 1, K, O, a =>
    if (atV S a).2 = false ∨ 0 < (aget K a).getD 0 then (K, O) else
    supN S n (supN S n (aput K a 1) (O.set (atV S a).1.1.toNat true) (atV S a).1.2.1).1 (supN S n (aput K a 1) (O.set (atV S a).1.1.toNat true) (atV S a).1.2.1).2 (atV S a).1.2.2

structure SupW (w : World) (p km kb i0 i1 i3 : Nat) (F : List Nat) (S : Sto) (K : List (Int × Int)) (O : List Bool) : Prop where
  sto : StoIs w p F S
  map : MapIs ki w km K
  blk : Blk w kb 127 (bools O)
  len : O.length = 64
  fm : km ∉ F
  fb : kb ∉ F
  ne : km ≠ kb
  z0 : i0 < w.heap.size
  z1 : i1 < w.heap.size
  z3 : i3 < w.heap.size
  m0 : i0 ≠ km
  m1 : i1 ≠ km
  m3 : i3 ≠ km
  b0 : i0 ≠ kb
  b1 : i1 ≠ kb
  b3 : i3 ≠ kb
  c0 : w.cell? ⟨i0, 0, none⟩ = some (.pointer (some ⟨p, 0, none⟩))
  c1 : w.cell? ⟨i1, 0, none⟩ = some (.map (some km))
  c3 : w.cell? ⟨i3, 0, none⟩ = some (.func (.func 101) #[] #[.pointer (some ⟨i0, 0, none⟩), .pointer (some ⟨i1, 0, none⟩), .pointer (some ⟨kb, 0, none⟩), .pointer (some ⟨i3, 0, none⟩)])

section
variable {w w' : World} {p km kb i0 i1 i3 : Nat} {F : List Nat} {S : Sto} {K K' : List (Int × Int)} {O O' : List Bool}
theorem SupW.step (h : SupW w p km kb i0 i1 i3 F S K O) (st : StoStep w w' [km, kb] [km, kb]) (hm : MapIs ki w' km K') (hb : Blk w' kb 127 (bools O')) (hl : O'.length = 64) : SupW w' p km kb i0 i1 i3 F S K' O' :=
  have hk : ∀ k, k < w.heap.size → k ≠ km → k ≠ kb → w'.heap[k]? = w.heap[k]? := fun k h1 h2 h3 => st.block k h1 (by simp [h2, h3])
  { sto := h.sto.keep (fun k hk' => hk k (h.sto.lt k hk') (fun e => h.fm (e ▸ hk')) (fun e => h.fb (e ▸ hk')))
    map := hm, blk := hb, len := hl, fm := h.fm, fb := h.fb, ne := h.ne
    z0 := Nat.lt_of_lt_of_le h.z0 st.size, z1 := Nat.lt_of_lt_of_le h.z1 st.size, z3 := Nat.lt_of_lt_of_le h.z3 st.size
    m0 := h.m0, m1 := h.m1, m3 := h.m3, b0 := h.b0, b1 := h.b1, b3 := h.b3
    c0 := (cell_of_heap 0 (hk _ h.z0 h.m0 h.b0)).trans h.c0
    c1 := (cell_of_heap 0 (hk _ h.z1 h.m1 h.b1)).trans h.c1
    c3 := (cell_of_heap 0 (hk _ h.z3 h.m3 h.b3)).trans h.c3 }
theorem SupW.below (h : SupW w p km kb i0 i1 i3 F S K O) (hb : Below w.heap.size w w') : SupW w' p km kb i0 i1 i3 F S K O :=
  h.step (StoStep.of_below hb) (MapIs.keep h.map (hb.block _ (MapIs.lt h.map))) (h.blk.below hb) h.len
theorem SupW.put (h : SupW w p km kb i0 i1 i3 F S K O) (o : Obj) (hm : MapIs ki (w.putObj km o) km K') (v : Nat) :
    SupW ((w.putObj km o).setCell ⟨kb, v, none⟩ (.bool true)) p km kb i0 i1 i3 F S K' (O.set v true) ∧ StoStep w ((w.putObj km o).setCell ⟨kb, v, none⟩ (.bool true)) [km, kb] [km, kb] := by
  have s1 : StoStep w (w.putObj km o) [km, kb] [km, kb] := StoStep.put (by simp) o
  have s2 : StoStep (w.putObj km o) ((w.putObj km o).setCell ⟨kb, v, none⟩ (.bool true)) [km, kb] [km, kb] :=
    ⟨rfl, rfl, rfl, by simp [World.setCell], fun k hk hn => Below.heap_setCell _ _ _ _ (fun e => hn (by simp at e; simp [e])), fun k hk => .inl hk⟩
  refine ⟨h.step (s1.trans s2) (MapIs.keep hm (Below.heap_setCell _ _ _ _ (fun e => h.ne e))) ?_ (by simp [h.len]), s1.trans s2⟩
  have hb : Blk (w.putObj km o) kb 127 (bools O) := h.blk.keep (World.heap_putObj_ne _ _ (fun e => h.ne e.symm))
  have := hb.set_ v (.bool true)
  rw [show bools (O.set v true) = (bools O).set v (.bool true) by simp [bools, List.map_set]]
  exact this
end

theorem atV_yes {S : Sto} {x : Int} (h : (atV S x).2 = true) : ∃ (i : Nat) (n : Nd), x = (i : Int) + 2 ∧ S.nodes[i]? = some n ∧ atV S x = (n, true) ∧ rightOf S x = x := by
  unfold atV at h
  by_cases h2 : rightOf S x < 2
  · rw [if_pos h2] at h; cases h
  · obtain ⟨e1, e2, e3⟩ := rightOf_two h2
    obtain ⟨i, rfl⟩ : ∃ i : Nat, x = (i : Int) + 2 := ⟨(x - 2).toNat, by omega⟩
    have hi : i < S.nodes.length := by omega
    refine ⟨i, S.nodes[i], rfl, by simp [hi], ?_, e1⟩
    unfold atV
    rw [if_neg h2, show ((i : Int) + 2 - 2).toNat = i by omega]
    simp [hi]

theorem branchy_size (x y z : Value) : (Try.prog.info? 39).map (·.size) = some [x, y, z].length := by
  have h : (Try.prog.info? 39).map (·.size) = some 3 := by kernel_rfl
  exact h

set_option maxHeartbeats 4000000 in
theorem sup_no {S : Sto} (hW : Wf S) {p km kb i0 i1 i3 : Nat} {F : List Nat} {w : World} {K : List (Int × Int)} {O : List Bool} {a : Int} (h : SupW w p km kb i0 i1 i3 F S K O) (hno : (atV S a).2 = false ∨ 0 < (aget K a).getD 0) :
    Calls Try.prog 101 #[.int .i64 a, .pointer (some ⟨i0, 0, none⟩), .pointer (some ⟨i1, 0, none⟩), .pointer (some ⟨kb, 0, none⟩), .pointer (some ⟨i3, 0, none⟩)] w (Pure (.tuple #[]) w) := by
  have A := hid (at_call h.sto hW a)
  have H := hid h
  have z0 := h.z0
  have c0 := h.c0
  clear h
  generalize (atV S a).1.1 = x1 at *
  generalize (atV S a).1.2.1 = x2 at *
  generalize (atV S a).1.2.2 = x3 at *
  cases ha : (atV S a).2 with
  | false =>
    rw [ha] at A
    clear hno ha
    go_enter Try.func101, Try.ntmps101
    go_upto_region 0 with (fail)
    refine wp_region_doc (fun F' hF => ?_)
    have HF := hid hF
    clear hF
    repeat (refine doc_val rfl (by first | (go_simp; done) | (go_simp; exact ⟨rfl, rfl⟩) | (go_simp; with_reducible rfl)) ?_; simp only [Act.put, List.setIfInBounds_toArray, List.set_cons_zero, List.set_cons_succ])
    refine doc_call rfl (by first | (go_simp; done) | (go_simp; exact ⟨rfl, rfl⟩) | (go_simp; with_reducible rfl)) ((A.out).mono ?_)
    rintro e w1 ⟨rfl, m1, d1, rfl⟩
    refine ⟨_, rfl, ?_⟩
    simp only [Act.put, List.setIfInBounds_toArray, List.set_cons_zero, List.set_cons_succ]
    repeat (refine doc_val rfl (by first | (go_simp; done) | (go_simp; exact ⟨rfl, rfl⟩) | (go_simp; with_reducible rfl)) ?_; simp only [Act.put, List.setIfInBounds_toArray, List.set_cons_zero, List.set_cons_succ])
    refine doc_skip rfl (store_row_op (xs := [.int .i64 0, .int .i64 0, .int .i64 0]) (ys := [.int .i64 x1, .int .i64 x2, .int .i64 x3]) _ _ _ _ _ _ _ _ _ (branchy_size _ _ _) rfl rfl rfl rfl (by have h := Blk.new (w.ext m1 d1) 39 [.int .i64 0, .int .i64 0, .int .i64 0]; rw [World.size_ext] at h; exact h)) ?_
    simp only [Act.put, List.setIfInBounds_toArray, List.set_cons_zero, List.set_cons_succ]
    repeat (refine doc_val rfl (by first | (go_simp; done) | (go_simp; exact ⟨rfl, rfl⟩) | (go_simp; with_reducible rfl)) ?_; simp only [Act.put, List.setIfInBounds_toArray, List.set_cons_zero, List.set_cons_succ])
    refine doc_end (HF.out _ _ ?_)
    clear HF F'
    go_upto_region 1 with (fail)
    refine wp_gen (fun U hU => ?_)
    have hbU : Below w.heap.size w U := by
      rw [hU]; exact Below.setRow (Below.alloc (Below.ext_mk (Below.refl _ _) (Nat.le_refl _) _ _) (by first | (simp; done) | (simp; omega)) _) (by omega) _
    have bU : Blk U (w.heap.size + m1.size) 39 [.int .i64 x1, .int .i64 x2, .int .i64 x3] := by
      rw [hU]
      have h := Blk.new (w.ext m1 d1) 39 [.int .i64 0, .int .i64 0, .int .i64 0]
      rw [World.size_ext] at h
      exact h.row _
    have hB : w.heap.size ≤ w.heap.size + m1.size := by omega
    generalize w.heap.size + m1.size = B at *
    clear hU
    have H1 := H.out.below hbU
    have z1 := H1.z1
    have z3 := H1.z3
    have c1 := H1.c1
    have c3 := H1.c3
    go_wp2_with fail
    go_returns
    exact Pure.of rfl (by first | exact hbU | exact Below.ext_mk hbU hbU.size _ _)
  | true =>
    rw [ha] at A hno
    have hk : 0 < (aget K a).getD 0 := by simpa using hno
    clear hno ha
    go_enter Try.func101, Try.ntmps101
    go_upto_region 0 with (fail)
    refine wp_region_doc (fun F' hF => ?_)
    have HF := hid hF
    clear hF
    repeat (refine doc_val rfl (by first | (go_simp; done) | (go_simp; exact ⟨rfl, rfl⟩) | (go_simp; with_reducible rfl)) ?_; simp only [Act.put, List.setIfInBounds_toArray, List.set_cons_zero, List.set_cons_succ])
    refine doc_call rfl (by first | (go_simp; done) | (go_simp; exact ⟨rfl, rfl⟩) | (go_simp; with_reducible rfl)) ((A.out).mono ?_)
    rintro e w1 ⟨rfl, m1, d1, rfl⟩
    refine ⟨_, rfl, ?_⟩
    simp only [Act.put, List.setIfInBounds_toArray, List.set_cons_zero, List.set_cons_succ]
    repeat (refine doc_val rfl (by first | (go_simp; done) | (go_simp; exact ⟨rfl, rfl⟩) | (go_simp; with_reducible rfl)) ?_; simp only [Act.put, List.setIfInBounds_toArray, List.set_cons_zero, List.set_cons_succ])
    refine doc_skip rfl (store_row_op (xs := [.int .i64 0, .int .i64 0, .int .i64 0]) (ys := [.int .i64 x1, .int .i64 x2, .int .i64 x3]) _ _ _ _ _ _ _ _ _ (branchy_size _ _ _) rfl rfl rfl rfl (by have h := Blk.new (w.ext m1 d1) 39 [.int .i64 0, .int .i64 0, .int .i64 0]; rw [World.size_ext] at h; exact h)) ?_
    simp only [Act.put, List.setIfInBounds_toArray, List.set_cons_zero, List.set_cons_succ]
    repeat (refine doc_val rfl (by first | (go_simp; done) | (go_simp; exact ⟨rfl, rfl⟩) | (go_simp; with_reducible rfl)) ?_; simp only [Act.put, List.setIfInBounds_toArray, List.set_cons_zero, List.set_cons_succ])
    refine doc_end (HF.out _ _ ?_)
    clear HF F'
    go_upto_region 1 with (fail)
    refine wp_gen (fun U hU => ?_)
    have hbU : Below w.heap.size w U := by
      rw [hU]; exact Below.setRow (Below.alloc (Below.ext_mk (Below.refl _ _) (Nat.le_refl _) _ _) (by first | (simp; done) | (simp; omega)) _) (by omega) _
    have bU : Blk U (w.heap.size + m1.size) 39 [.int .i64 x1, .int .i64 x2, .int .i64 x3] := by
      rw [hU]
      have h := Blk.new (w.ext m1 d1) 39 [.int .i64 0, .int .i64 0, .int .i64 0]
      rw [World.size_ext] at h
      exact h.row _
    have hB : w.heap.size ≤ w.heap.size + m1.size := by omega
    generalize w.heap.size + m1.size = B at *
    clear hU
    have H1 := H.out.below hbU
    have z1 := H1.z1
    have z3 := H1.z3
    have c1 := H1.c1
    have c3 := H1.c3
    have hlook := fun m d => lookup_run (w := U.ext m d) key_int Try.underlying115 (zero_int _) (MapIs.ext H1.map m d) a false
    simp only [Bool.false_eq_true, if_false] at hlook
    generalize (aget K a).getD 0 = kk at *
    refine wp_region_seq (fun F hF => ?_)
    have HF := hid hF; clear hF
    repeat (first
      | (apply text_skip; (focus rfl); simp only [Act.put, List.setIfInBounds_toArray, List.set_cons_zero, List.set_cons_succ])
      | (apply text_val; (focus rfl); (focus (intro _ _; go_simp; with_reducible rfl)); simp only [Act.put, List.setIfInBounds_toArray, List.set_cons_zero, List.set_cons_succ])
      | (apply text_if; (focus (first | exact wanted_t rfl rfl | exact wanted_f rfl rfl | exact wanted_gt rfl rfl | exact wanted_gf rfl rfl)); (focus (intro hc _ _; (try simp only [Bool.and_eq_true, Bool.not_eq_true', Bool.true_and] at hc); go_simp; with_reducible rfl)); simp only [Act.put, List.setIfInBounds_toArray, List.set_cons_zero, List.set_cons_succ]))
    refine text_nil (HF.out _ (fun mx dx => ?_))
    clear HF F
    go_wp2_with fail
    go_returns
    exact Pure.of rfl (by first | exact hbU | exact Below.ext_mk hbU hbU.size _ _)

set_option maxHeartbeats 8000000 in
theorem sup_any {S : Sto} (hW : Wf S) (p km kb i0 i1 i3 : Nat) (F : List Nat) : ∀ (n : Nat) (w : World) (K : List (Int × Int)) (O : List Bool) (a : Int), SupW w p km kb i0 i1 i3 F S K O → (rightOf S a).toNat < n →
    Calls Try.prog 101 #[.int .i64 a, .pointer (some ⟨i0, 0, none⟩), .pointer (some ⟨i1, 0, none⟩), .pointer (some ⟨kb, 0, none⟩), .pointer (some ⟨i3, 0, none⟩)] w
      (fun e w' => e = .returned (.tuple #[]) ∧ SupW w' p km kb i0 i1 i3 F S (supN S n K O a).1 (supN S n K O a).2 ∧ StoStep w w' [km, kb] [km, kb]) := by
  intro n
  induction n with
  | zero => intro w K O a _ hn; omega
  | succ n ih =>
    intro w K O a h hn
    by_cases hno : (atV S a).2 = false ∨ 0 < (aget K a).getD 0
    · refine (sup_no hW h hno).mono ?_
      rintro e w' ⟨rfl, m, d, rfl⟩
      unfold supN
      rw [if_pos hno]
      have hb : Below w.heap.size w (w.ext m d) := Below.ext_mk (Below.refl _ _) (Nat.le_refl _) _ _
      exact ⟨rfl, h.below hb, StoStep.of_below hb⟩
    · have hs : supN S (n + 1) K O a = supN S n (supN S n (aput K a 1) (O.set (atV S a).1.1.toNat true) (atV S a).1.2.1).1 (supN S n (aput K a 1) (O.set (atV S a).1.1.toNat true) (atV S a).1.2.1).2 (atV S a).1.2.2 := by
        rw [supN, if_neg hno]
      rw [hs]
      clear hs
      have hy : (atV S a).2 = true := by
        cases hq : (atV S a).2 with
        | true => rfl
        | false => exact (hno (.inl hq)).elim
      have hk : ¬ 0 < (aget K a).getD 0 := fun q => hno (.inr q)
      obtain ⟨i, nd, ha, hnd, hat, hr⟩ := atV_yes hy
      have A := hid (at_call h.sto hW a)
      have H := hid h
      have z0 := h.z0
      have c0 := h.c0
      have hch := hW.child hnd
      have hok := hW.node i nd hnd
      have lt1 : (rightOf S nd.2.1).toNat < n := by rw [right_has hch.1]; have := hok.lo; rw [hr, ha] at hn; have := hok.lo0; omega
      have lt2 : (rightOf S nd.2.2).toNat < n := by rw [right_has hch.2]; have := hok.hi; rw [hr, ha] at hn; have := hok.hi0; omega
      have v0 := hok.v0
      have v64 := hok.v64
      rw [hat] at A ⊢
      clear hat hno hy h hnd hok hch ha hr hn
      obtain ⟨x1, x2, x3⟩ := nd
      simp only at A lt1 lt2 v0 v64 ⊢
      obtain ⟨v, rfl⟩ : ∃ v : Nat, x1 = (v : Int) := ⟨x1.toNat, by omega⟩
      have hv : v < 64 := by omega
      have v1 : (v : Int) < 64 := by omega
      rw [show ((v : Int)).toNat = v by omega]
      go_enter Try.func101, Try.ntmps101
      go_upto_region 0 with (fail)
      refine wp_region_doc (fun F' hF => ?_)
      have HF := hid hF
      clear hF
      repeat (refine doc_val rfl (by first | (go_simp; done) | (go_simp; exact ⟨rfl, rfl⟩) | (go_simp; with_reducible rfl)) ?_; simp only [Act.put, List.setIfInBounds_toArray, List.set_cons_zero, List.set_cons_succ])
      refine doc_call rfl (by first | (go_simp; done) | (go_simp; exact ⟨rfl, rfl⟩) | (go_simp; with_reducible rfl)) ((A.out).mono ?_)
      rintro e w1 ⟨rfl, m1, d1, rfl⟩
      refine ⟨_, rfl, ?_⟩
      simp only [Act.put, List.setIfInBounds_toArray, List.set_cons_zero, List.set_cons_succ]
      repeat (refine doc_val rfl (by first | (go_simp; done) | (go_simp; exact ⟨rfl, rfl⟩) | (go_simp; with_reducible rfl)) ?_; simp only [Act.put, List.setIfInBounds_toArray, List.set_cons_zero, List.set_cons_succ])
      refine doc_skip rfl (store_row_op (xs := [.int .i64 0, .int .i64 0, .int .i64 0]) (ys := [.int .i64 (v : Int), .int .i64 x2, .int .i64 x3]) _ _ _ _ _ _ _ _ _ (branchy_size _ _ _) rfl rfl rfl rfl (by have h := Blk.new (w.ext m1 d1) 39 [.int .i64 0, .int .i64 0, .int .i64 0]; rw [World.size_ext] at h; exact h)) ?_
      simp only [Act.put, List.setIfInBounds_toArray, List.set_cons_zero, List.set_cons_succ]
      repeat (refine doc_val rfl (by first | (go_simp; done) | (go_simp; exact ⟨rfl, rfl⟩) | (go_simp; with_reducible rfl)) ?_; simp only [Act.put, List.setIfInBounds_toArray, List.set_cons_zero, List.set_cons_succ])
      refine doc_end (HF.out _ _ ?_)
      clear HF F'
      go_upto_region 1 with (fail)
      refine wp_gen (fun U hU => ?_)
      have hbU : Below w.heap.size w U := by
        rw [hU]; exact Below.setRow (Below.alloc (Below.ext_mk (Below.refl _ _) (Nat.le_refl _) _ _) (by first | (simp; done) | (simp; omega)) _) (by omega) _
      have bU : Blk U (w.heap.size + m1.size) 39 [.int .i64 (v : Int), .int .i64 x2, .int .i64 x3] := by
        rw [hU]
        have h := Blk.new (w.ext m1 d1) 39 [.int .i64 0, .int .i64 0, .int .i64 0]
        rw [World.size_ext] at h
        exact h.row _
      have hB : w.heap.size ≤ w.heap.size + m1.size := by omega
      generalize w.heap.size + m1.size = B at *
      clear hU
      have H1 := H.out.below hbU
      have z1 := H1.z1
      have z3 := H1.z3
      have c1 := H1.c1
      have c3 := H1.c3
      have hlook := fun m d => lookup_run (w := U.ext m d) key_int Try.underlying115 (zero_int _) (MapIs.ext H1.map m d) a false
      simp only [Bool.false_eq_true, if_false] at hlook
      generalize (aget K a).getD 0 = kk at *
      refine wp_region_seq (fun F hF => ?_)
      have HF := hid hF; clear hF
      repeat (first
        | (apply text_skip; (focus rfl); simp only [Act.put, List.setIfInBounds_toArray, List.set_cons_zero, List.set_cons_succ])
        | (apply text_val; (focus rfl); (focus (intro _ _; go_simp; with_reducible rfl)); simp only [Act.put, List.setIfInBounds_toArray, List.set_cons_zero, List.set_cons_succ])
        | (apply text_if; (focus (first | exact wanted_t rfl rfl | exact wanted_f rfl rfl | exact wanted_gt rfl rfl | exact wanted_gf rfl rfl)); (focus (intro hc _ _; (try simp only [Bool.and_eq_true, Bool.not_eq_true', Bool.true_and] at hc); go_simp; with_reducible rfl)); simp only [Act.put, List.setIfInBounds_toArray, List.set_cons_zero, List.set_cons_succ]))
      refine text_nil (HF.out _ (fun mx dx => ?_))
      clear HF F
      go_upto_region 2 with (fail)
      refine wp_gen (fun X hX => ?_)
      have hbX : Below U.heap.size U X := by rw [hX]; (repeat' (first | (with_reducible exact Below.refl _ _) | (with_reducible refine Below.ext_mk ?_ ?_ _ _) | (with_reducible refine Below.alloc ?_ ?_ _) | (with_reducible refine Below.drew ?_) | (with_reducible refine Below.setCell ?_ ?_ _) | go_size))
      clear hX
      refine wp_region_any (by kernel_rfl) ?_
      change wpAny _ _ _ _ _ _ _ (World.drew X)
      have hbY : Below U.heap.size U (World.drew X) := Below.drew hbX
      generalize World.drew X = Y at hbY ⊢
      clear hbX X hlook
      have H2 := H1.below hbY
      have bY := bU.below hbY
      have hBm : B ≠ km := fun e => by have := MapIs.lt H.out.map; omega
      have hBb : B ≠ kb := fun e => by have := H.out.blk.lt; omega
      obtain ⟨o, u1, u2⟩ := update_run (t := 115) key_int Try.underlying115 H2.map a 1
      have y0 := bY.cell 0
      have y0' : (Y.putObj km o).cell? ⟨B, 0, none⟩ = some (.int .i64 (v : Int)) := (cell_of_heap 0 (World.heap_putObj_ne _ _ hBm)).trans y0
      simp only [List.getElem?_cons_zero] at y0
      have y1 := H2.c1
      have zY := H2.z1
      have zB := bY.lt
      have zk := H2.blk.lt
      have zf : (Y.putObj km o).frozen? ⟨kb, v, none⟩ = false := (H2.blk.keep (World.heap_putObj_ne _ _ (fun e => H2.ne e.symm))).free v
      have zc : (Y.putObj km o).cell? ⟨kb, v, none⟩ = some (.bool (O.getD v false)) := by
        rw [(H2.blk.keep (World.heap_putObj_ne _ _ (fun e => H2.ne e.symm))).cell v]
        simp [bools, show v < O.length by rw [H2.len]; exact hv]
      obtain ⟨H3, st3⟩ := H2.put o u2 v
      have hHP := hid (And.intro H3 st3)
      clear H3 st3 u2
      have hv0 : (0 : Int) ≤ (v : Int) := by omega
      refine any_take 1 (v := .int .i64 a) rfl (by kernel_rfl) (by kernel_rfl) (by kernel_rfl) (fun _ _ _ h => h) (Or.inl ⟨by rfl, fun _ => by go_simp⟩) ?_
      simp only [Act.put, List.setIfInBounds_toArray, List.set_cons_zero, List.set_cons_succ]
      refine any_take 2 (v := .pointer (some ⟨B, 0, none⟩)) rfl (by kernel_rfl) (by kernel_rfl) (by kernel_rfl) (fun _ _ _ h => h) (Or.inl ⟨by rfl, fun _ => by go_simp⟩) ?_
      simp only [Act.put, List.setIfInBounds_toArray, List.set_cons_zero, List.set_cons_succ]
      refine any_two 0 3 (by kernel_rfl) rfl rfl (st_val rfl (by first | (go_simp; done) | (go_simp; exact ⟨rfl, rfl⟩) | (go_simp; with_reducible rfl)) ?_) (st_val rfl (by first | (go_simp; done) | (go_simp; exact ⟨rfl, rfl⟩) | (go_simp; with_reducible rfl)) ?_)
      · simp only [Act.put, List.setIfInBounds_toArray, List.set_cons_zero, List.set_cons_succ]
        refine any_two 3 4 (by kernel_rfl) rfl rfl (st_val rfl (by first | (go_simp; done) | (go_simp; exact ⟨rfl, rfl⟩) | (go_simp; with_reducible rfl)) ?_) (st_skip rfl (by first | (go_simp; done) | (go_simp; exact ⟨rfl, rfl⟩) | (go_simp; with_reducible rfl)) ?_)
        · simp only [Act.put, List.setIfInBounds_toArray, List.set_cons_zero, List.set_cons_succ]
          refine any_one 4 (by kernel_rfl) rfl (st_skip rfl (by first | (go_simp; done) | (go_simp; exact ⟨rfl, rfl⟩) | (go_simp; with_reducible rfl)) ?_)
          simp only [Act.put, List.setIfInBounds_toArray, List.set_cons_zero, List.set_cons_succ]
          refine any_one 5 (by kernel_rfl) rfl (st_val rfl (by first | (go_simp; done) | (go_simp; exact ⟨rfl, rfl⟩) | (go_simp; with_reducible rfl)) ?_)
          simp only [Act.put, List.setIfInBounds_toArray, List.set_cons_zero, List.set_cons_succ]
          refine any_one 6 (by kernel_rfl) rfl (st_skip rfl (by first | (go_simp; done) | (go_simp; exact ⟨rfl, rfl⟩) | (go_simp; with_reducible rfl)) ?_)
          simp only [Act.put, List.setIfInBounds_toArray, List.set_cons_zero, List.set_cons_succ]
          refine wpAny_done (by kernel_rfl) ?_ _
          go_upto_region 3 with (fail)
          refine wp_gen (fun Z hZ => ?_)
          obtain ⟨H3, st3⟩ := hHP.out
          rw [← hZ] at H3 st3
          have bZ := bY.keep (st3.block B zB (by simp [hBm, hBb]))
          have I1 := ih Z _ _ x2 H3 lt1
          have I2 := fun W K O h => ih W K O x3 h lt2
          have w3 := H3.c3
          have zz3 := H3.z3
          have e1 := bZ.cell 1
          have e2 := bZ.cell 2
          simp only [List.getElem?_cons_zero, List.getElem?_cons_succ] at e1 e2
          have zB' := bZ.lt
          clear hZ hHP ih u1 y0 y0' y1 zf zc z0 c0 z1 z3 c1 c3
          go_upto_region 4 with ((with_reducible refine I1.mono ?_); rintro e w1 ⟨rfl, H4, st4⟩)
          have b4 := bZ.keep (st4.block B zB' (by simp [hBm, hBb]))
          have g3 := H4.c3
          have gz3 := H4.z3
          have g2 := b4.cell 2
          simp only [List.getElem?_cons_zero, List.getElem?_cons_succ] at g2
          have gB := b4.lt
          clear I1 w3 zz3 e1 e2 zB' bZ
          go_wp2_with ((with_reducible refine (I2 _ _ _ H4 ).mono ?_); rintro e w2 ⟨rfl, H5, st5⟩)
          go_returns
          exact ⟨rfl, H5, (StoStep.of_below hbU).trans ((StoStep.of_below hbY).trans (st3.trans (st4.trans st5)))⟩
        · simp only [Act.put, List.setIfInBounds_toArray, List.set_cons_zero, List.set_cons_succ]
          refine any_one 3 (by kernel_rfl) rfl (st_val rfl (by first | (go_simp; done) | (go_simp; exact ⟨rfl, rfl⟩) | (go_simp; with_reducible rfl)) ?_)
          simp only [Act.put, List.setIfInBounds_toArray, List.set_cons_zero, List.set_cons_succ]
          refine any_one 5 (by kernel_rfl) rfl (st_val rfl (by first | (go_simp; done) | (go_simp; exact ⟨rfl, rfl⟩) | (go_simp; with_reducible rfl)) ?_)
          simp only [Act.put, List.setIfInBounds_toArray, List.set_cons_zero, List.set_cons_succ]
          refine any_one 6 (by kernel_rfl) rfl (st_skip rfl (by first | (go_simp; done) | (go_simp; exact ⟨rfl, rfl⟩) | (go_simp; with_reducible rfl)) ?_)
          simp only [Act.put, List.setIfInBounds_toArray, List.set_cons_zero, List.set_cons_succ]
          refine wpAny_done (by kernel_rfl) ?_ _
          go_upto_region 3 with (fail)
          refine wp_gen (fun Z hZ => ?_)
          obtain ⟨H3, st3⟩ := hHP.out
          rw [← hZ] at H3 st3
          have bZ := bY.keep (st3.block B zB (by simp [hBm, hBb]))
          have I1 := ih Z _ _ x2 H3 lt1
          have I2 := fun W K O h => ih W K O x3 h lt2
          have w3 := H3.c3
          have zz3 := H3.z3
          have e1 := bZ.cell 1
          have e2 := bZ.cell 2
          simp only [List.getElem?_cons_zero, List.getElem?_cons_succ] at e1 e2
          have zB' := bZ.lt
          clear hZ hHP ih u1 y0 y0' y1 zf zc z0 c0 z1 z3 c1 c3
          go_upto_region 4 with ((with_reducible refine I1.mono ?_); rintro e w1 ⟨rfl, H4, st4⟩)
          have b4 := bZ.keep (st4.block B zB' (by simp [hBm, hBb]))
          have g3 := H4.c3
          have gz3 := H4.z3
          have g2 := b4.cell 2
          simp only [List.getElem?_cons_zero, List.getElem?_cons_succ] at g2
          have gB := b4.lt
          clear I1 w3 zz3 e1 e2 zB' bZ
          go_wp2_with ((with_reducible refine (I2 _ _ _ H4 ).mono ?_); rintro e w2 ⟨rfl, H5, st5⟩)
          go_returns
          exact ⟨rfl, H5, (StoStep.of_below hbU).trans ((StoStep.of_below hbY).trans (st3.trans (st4.trans st5)))⟩
      · simp only [Act.put, List.setIfInBounds_toArray, List.set_cons_zero, List.set_cons_succ]
        refine any_one 0 (by kernel_rfl) rfl (st_val rfl (by first | (go_simp; done) | (go_simp; exact ⟨rfl, rfl⟩) | (go_simp; with_reducible rfl)) ?_)
        simp only [Act.put, List.setIfInBounds_toArray, List.set_cons_zero, List.set_cons_succ]
        refine any_one 4 (by kernel_rfl) rfl (st_skip rfl (by first | (go_simp; done) | (go_simp; exact ⟨rfl, rfl⟩) | (go_simp; with_reducible rfl)) ?_)
        simp only [Act.put, List.setIfInBounds_toArray, List.set_cons_zero, List.set_cons_succ]
        refine any_one 5 (by kernel_rfl) rfl (st_val rfl (by first | (go_simp; done) | (go_simp; exact ⟨rfl, rfl⟩) | (go_simp; with_reducible rfl)) ?_)
        simp only [Act.put, List.setIfInBounds_toArray, List.set_cons_zero, List.set_cons_succ]
        refine any_one 6 (by kernel_rfl) rfl (st_skip rfl (by first | (go_simp; done) | (go_simp; exact ⟨rfl, rfl⟩) | (go_simp; with_reducible rfl)) ?_)
        simp only [Act.put, List.setIfInBounds_toArray, List.set_cons_zero, List.set_cons_succ]
        refine wpAny_done (by kernel_rfl) ?_ _
        go_upto_region 3 with (fail)
        refine wp_gen (fun Z hZ => ?_)
        obtain ⟨H3, st3⟩ := hHP.out
        rw [← hZ] at H3 st3
        have bZ := bY.keep (st3.block B zB (by simp [hBm, hBb]))
        have I1 := ih Z _ _ x2 H3 lt1
        have I2 := fun W K O h => ih W K O x3 h lt2
        have w3 := H3.c3
        have zz3 := H3.z3
        have e1 := bZ.cell 1
        have e2 := bZ.cell 2
        simp only [List.getElem?_cons_zero, List.getElem?_cons_succ] at e1 e2
        have zB' := bZ.lt
        clear hZ hHP ih u1 y0 y0' y1 zf zc z0 c0 z1 z3 c1 c3
        go_upto_region 4 with ((with_reducible refine I1.mono ?_); rintro e w1 ⟨rfl, H4, st4⟩)
        have b4 := bZ.keep (st4.block B zB' (by simp [hBm, hBb]))
        have g3 := H4.c3
        have gz3 := H4.z3
        have g2 := b4.cell 2
        simp only [List.getElem?_cons_zero, List.getElem?_cons_succ] at g2
        have gB := b4.lt
        clear I1 w3 zz3 e1 e2 zB' bZ
        go_wp2_with ((with_reducible refine (I2 _ _ _ H4 ).mono ?_); rintro e w2 ⟨rfl, H5, st5⟩)
        go_returns
        exact ⟨rfl, H5, (StoStep.of_below hbU).trans ((StoStep.of_below hbY).trans (st3.trans (st4.trans st5)))⟩
end Go.Proofs.Ytboekafmplomhaa
