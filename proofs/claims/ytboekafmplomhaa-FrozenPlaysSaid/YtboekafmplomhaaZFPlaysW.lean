/-
  FrozenPlays: Clone, and what lies beside the two stores.
-/
import Derived.Test.YtboekafmplomhaaZRfF
import Derived.Test.YtboekafmplomhaaZRefTwins
import Derived.Test.YtboekafmplomhaaZKnown33
set_option linter.unusedVariables false
set_option linter.unusedSimpArgs false
namespace Go.Proofs.Ytboekafmplomhaa
open Go.RowKit

/-- Behind w0, whose blocks both leave alone. -/
structure Two (w0 w : World) (p q : Nat) (F G : List Nat) (S T : Sto) : Prop where
  sto : StoIs w p F S
  ref : RIs w q G (rOf T)
  dis : ∀ k ∈ F, k ∉ G
  base : Below w0.heap.size w0 w
  loF : ∀ k ∈ F, w0.heap.size ≤ k
  loG : ∀ k ∈ G, w0.heap.size ≤ k
section
variable {w0 w w' : World} {p q : Nat} {F G F' G' : List Nat} {S T S' T' : Sto}
theorem StoStep.wideR (h : StoStep w w' F F') (G : List Nat) : StoStep w w' (F ++ G) (F' ++ G) :=
  ⟨h.os, h.tape, h.output, h.size, fun k h1 h2 => h.block k h1 (fun hm => h2 (List.mem_append.2 (.inl hm))), fun k hk => by
    rcases List.mem_append.1 hk with hk | hk
    · exact (h.fresh k hk).imp (fun h' => List.mem_append.2 (.inl h')) id
    · exact .inl (List.mem_append.2 (.inr hk))⟩
theorem StoStep.wideL (h : StoStep w w' F F') (G : List Nat) : StoStep w w' (G ++ F) (G ++ F') :=
  ⟨h.os, h.tape, h.output, h.size, fun k h1 h2 => h.block k h1 (fun hm => h2 (List.mem_append.2 (.inr hm))), fun k hk => by
    rcases List.mem_append.1 hk with hk | hk
    · exact .inl (List.mem_append.2 (.inl hk))
    · exact (h.fresh k hk).imp (fun h' => List.mem_append.2 (.inr h')) id⟩
theorem Two.below (h : Two w0 w p q F G S T) (hb : Below w.heap.size w w') : Two w0 w' p q F G S T := ⟨h.sto.below hb, h.ref.below hb, h.dis, h.base.trans (hb.mono h.base.size), h.loF, h.loG⟩
def TwoTo (w0 w : World) (p q : Nat) (F G : List Nat) (S T : Sto) (w' : World) : Prop := ∃ F' G', Two w0 w' p q F' G' S T ∧ StoStep w w' (F ++ G) (F' ++ G')
end
def Gd (S : Sto) : Prop := Wf S ∧ Sated S
set_option maxRecDepth 100000 in
/-- Clone of any bytes. -/
theorem cloneE_any {w : World} {sv : Value} {l : List Nat} (h : Rd w 1 sv (byts l)) (hk : l.length ≤ 10000000) :
    Calls Try.prog 72 #[sv] w (fun e w' => ∃ v, e = .returned v ∧ OwnB w.heap.size w' v l ∧ Below w.heap.size w w') := by
  obtain ⟨la, lc, rfl, hlc, hlm⟩ := h.lenB
  cases la with
  | none =>
    have h0 : l = [] := by
      obtain ⟨a', n', c', e1, _, _, _, h5⟩ := h
      cases e1
      rcases Nat.eq_zero_or_pos l.length with q | q
      · exact List.length_eq_zero_iff.1 q
      · obtain ⟨b, off, e, _⟩ := h5 q
        cases e
    subst h0
    have hnn : ∀ w, (binOp BinOp.eql 100 (.slice none 0 lc) (.slice none 0 0)).run Try.prog w = .ok (.bool true) w := fun _ => by kernel_rfl
    clear h
    go_enter Try.func72, Try.ntmps72
    go_wp2
    go_returns
    exact ⟨_, rfl, ⟨none, ⟨rfl, .inl ⟨rfl, rfl, rfl⟩⟩, fun g hg => by cases hg⟩, by (repeat' (first | (with_reducible exact Below.refl _ _) | (with_reducible refine Below.ext_mk ?_ ?_ _ _) | (with_reducible refine Below.alloc ?_ ?_ _) | (with_reducible refine Below.drew ?_) | (with_reducible refine Below.setCell ?_ ?_ _) | go_size))⟩
  | some a =>
    obtain ⟨v', w1, r1, r2, r3⟩ := copy_bytes h hk
    have hnn : ∀ w, (binOp BinOp.eql 100 (.slice (some a) l.length lc) (.slice none 0 0)).run Try.prog w = .ok (.bool false) w := fun _ => by kernel_rfl
    have R1 := hid r1
    have R2 := hid (And.intro r2 r3)
    clear r1 r2 r3 h
    go_enter Try.func72, Try.ntmps72
    go_upto_region 3 with (fail)
    refine wp_region_doc (fun F' hF => ?_)
    have HF := hid hF
    clear hF
    iterate 2 (refine doc_val rfl (by first | (go_simp; done) | (go_simp; exact ⟨rfl, rfl⟩) | (go_simp; with_reducible rfl)) ?_; simp only [Act.put, List.setIfInBounds_toArray, List.set_cons_zero, List.set_cons_succ])
    refine doc_val rfl (run_append_op _ _ _ _ _ _ _ _ _ R1.out) ?_
    simp only [Act.put, List.setIfInBounds_toArray, List.set_cons_zero, List.set_cons_succ]
    refine doc_val rfl (by first | (go_simp; done) | (go_simp; exact ⟨rfl, rfl⟩) | (go_simp; with_reducible rfl)) ?_
    simp only [Act.put, List.setIfInBounds_toArray, List.set_cons_zero, List.set_cons_succ]
    refine doc_end (HF.out _ _ ?_)
    clear HF F'
    go_wp2_with fail
    go_returns
    exact ⟨_, rfl, R2.out⟩
/-- The slice lies in none of these blocks. -/
def Away (sv : Value) (F : List Nat) : Prop := ∀ a n cap b off, 0 < n → sv = .slice a n cap → a = some ⟨b, off, none⟩ → b ∉ F
theorem Away.old {w : World} {sv : Value} {xs : List Value} {F : List Nat} (hl : Rd w 1 sv xs) (hF : ∀ k ∈ F, w.heap.size ≤ k) : Away sv F := by
  obtain ⟨a, n, cap, h1, h2, h3, h4, h5⟩ := hl
  intro a' n' cap' b off hn e1 e2 hm
  rw [h1] at e1
  cases e1
  obtain ⟨b', off', e3, e4, _⟩ := h5 hn
  rw [e2] at e3
  cases e3
  have := hF b hm
  omega
theorem Away.own {B : Nat} {w : World} {sv : Value} {l : List Nat} {F : List Nat} (h : OwnB B w sv l) (hF : ∀ k ∈ F, k < B) : Away sv F := by
  obtain ⟨G, h, hG⟩ := h
  intro a n cap b off hn e1 e2 hm
  subst e1
  subst e2
  have hb := hF b hm
  obtain ⟨_, ⟨h1, _, _⟩ | ⟨g, c, cur, h1, h2, _⟩⟩ := h
  · cases h1
  · cases h1
    have := hG _ h2
    omega
theorem rd_step {w w' : World} {sv : Value} {xs : List Value} {F F' : List Nat} (h : Rd w 1 sv xs) (ha : Away sv F) (st : StoStep w w' F F') : Rd w' 1 sv xs := by
  obtain ⟨a, n, cap, h1, h2, h3, h4, h5⟩ := h
  refine ⟨a, n, cap, h1, h2, h3, h4, fun hn => ?_⟩
  obtain ⟨b, off, e, hb, hc⟩ := h5 hn
  have hm := ha a n cap b off hn h1 e
  exact ⟨b, off, e, Nat.lt_of_lt_of_le hb st.size, fun j u hu => (cell_of_heap (off + j) (st.block b hb hm)).trans (hc j u hu)⟩
section
variable {w0 w w' : World} {p q : Nat} {F G F' G' : List Nat} {S T S' T' : Sto}
theorem Two.progX (h : Two w0 w p q F G S T) (h1 : StoIs w' p F' S') (st : StoStep w w' F F') : Two w0 w' p q F' G S' T ∧ StoStep w w' (F ++ G) (F' ++ G) := by
  refine ⟨⟨h1, h.ref.keep (fun k hk => st.block k (h.ref.lt k hk) (fun hm => h.dis k hm hk)), fun k hk hg => ?_, h.base.trans (st.below h.loF h.base.size), st.low h.loF h.base.size, h.loG⟩, st.wideR G⟩
  exact st.keeps (h.ref.lt k hg) (fun hm => h.dis k hm hg) hk
theorem Two.docX (h : Two w0 w p q F G S T) (h1 : RIs w' q G' (rOf T')) (st : StoStep w w' G G') : Two w0 w' p q F G' S T' ∧ StoStep w w' (F ++ G) (F ++ G') := by
  refine ⟨⟨h.sto.keep (fun k hk => st.block k (h.sto.lt k hk) (h.dis k hk)), h1, fun k hk hg => ?_, h.base.trans (st.below h.loG h.base.size), h.loF, st.low h.loG h.base.size⟩, st.wideL F⟩
  exact st.keeps (h.sto.lt k hk) (h.dis k hk) hg
end
end Go.Proofs.Ytboekafmplomhaa
set_option linter.unusedVariables false
set_option linter.unusedSimpArgs false
namespace Go.Proofs.Ytboekafmplomhaa
open Go.RowKit

theorem loadN_good : ∀ (ns : List Nd) (S : Sto) (made : List Int), Gd S → Gd (loadN S made ns).1
  | [], S, made, h => h
  | x :: r, S, made, h => loadN_good r _ _ (makeN_good h.1 h.2 made x)
theorem readV_good {S : Sto} (h : Gd S) (l : List Nat) : Gd (readV S l).1 := by
  unfold readV
  split
  · exact h
  split
  · exact h
  split
  · exact h
  split
  · exact h
  unfold readB
  split
  · exact h
  split
  · exact h
  split
  · exact loadN_good _ _ _ h
  · exact loadN_good _ _ _ h
/-- Both Writes tell the same. -/
theorem writes_any {S : Sto} (hG : Gd S) (hn : S.nodes.length ≤ 5120) {l : List Int} (hl : l.length ≤ 70) :
    ∃ (kk : Int) (WB : List Nat), (∀ y ∈ WB, y < 256) ∧ WB.length ≤ 100000 ∧
      (∀ (W : World) (p : Nat) (F : List Nat) (sv : Value), StoIs W p F S → Rd W 1 sv (ints l) → Calls Try.prog 71 #[.pointer (some ⟨p, 0, none⟩), sv] W (fun e w' => ∃ v, e = .returned (.tuple #[v, .int .i64 kk]) ∧ OwnB W.heap.size w' v WB ∧ Below W.heap.size W w')) ∧
      (∀ (W : World) (q : Nat) (F : List Nat) (sv : Value), RIs W q F (rOf S) → Rd W 1 sv (ints l) → Calls Try.prog 77 #[.pointer (some ⟨q, 0, none⟩), sv] W (fun e w' => ∃ v, e = .returned (.tuple #[v, .int .i64 kk]) ∧ OwnB W.heap.size w' v WB ∧ Below W.heap.size W w')) := by
  by_cases h64 : l.length ≤ 64
  · have hWr := ordS_wrt hG.1 (l := l) (by omega)
    have ho := ord_doc hG.1 l
    have hol := ordS_len hG.1 l
    refine ⟨0, writeB (ordS S l).1 (ordS S l).2, writeB_byte _ _, ?_, fun W p F sv h hl => write_live h hG.1 hG.2 hl h64, fun W q F sv h hl => ?_⟩
    · obtain ⟨q1, q2, q3, q4⟩ := hWr
      have h1 := nodesB_len q3
      have h2 := rootsB_len q4
      have h3 := numB_len 9 (ordS S l).1.length (by omega) (by omega)
      have h4 := numB_len 9 (ordS S l).2.length (by omega) (by omega)
      unfold writeB
      rw [sealB_length]
      unfold bodyB
      simp only [List.length_append]
      have : headB.length = 3 := rfl
      omega
    · have h := rwrite_any (lower_sto hG.1) (wf_len hG.1) h hl h64 (by rw [ho.2.1]; omega) (by rw [ho.1, ho.2.2]; exact hWr)
      rw [ho.1, ho.2.2] at h
      exact h
  · refine ⟨5, [], fun y hy => by simp at hy, by simp, fun W p F sv h hl => ?_, fun W q F sv h hl => ?_⟩
    · obtain ⟨a, c, rfl, -, -⟩ := hl.len
      refine (write_over h hG.1 hG.2 (by omega)).mono ?_
      rintro e w' ⟨rfl, m, d, rfl⟩
      exact ⟨_, rfl, ⟨none, ⟨rfl, .inl ⟨rfl, rfl, rfl⟩⟩, fun g hg => by cases hg⟩, Below.ext_mk (Below.refl _ _) (Nat.le_refl _) m d⟩
    · obtain ⟨a, c, rfl, -, -⟩ := hl.len
      refine (rwrite_over (by omega)).mono ?_
      rintro e w' ⟨rfl, m, d, rfl⟩
      exact ⟨_, rfl, ⟨none, ⟨rfl, .inl ⟨rfl, rfl, rfl⟩⟩, fun g hg => by cases hg⟩, Below.ext_mk (Below.refl _ _) (Nat.le_refl _) m d⟩
set_option maxRecDepth 100000 in
set_option maxHeartbeats 16000000 in
theorem frozenPlays_any {w : World} {sv0 sv1 sv2 : Value} {l roots : List Int} {b : List Nat} (hl0 : Rd w 1 sv0 (ints l)) (hI : ∀ x ∈ l, -9223372036854775808 ≤ x ∧ x ≤ 9223372036854775807) (hr0 : Rd w 1 sv1 (ints roots)) (hb0 : Rd w 1 sv2 (byts b)) (hbb : ∀ y ∈ b, y < 256) (cap : Int) :
    Calls Try.prog 13 #[.int .i64 cap, sv0, sv1, sv2] w (Pure (.bool true) w) := by
  have KN := fun W => known33 W
  obtain ⟨la, lc, rfl, hlc, hlm⟩ := hl0.len
  obtain ⟨ra, rc, rfl, hrc, hrm⟩ := hr0.len
  obtain ⟨ba, bc, rfl, hbc, hbm⟩ := hb0.lenB
  by_cases h1 : cap < 2
  · clear hl0 hI hr0 hb0 hbb
    go_enter Try.func13, Try.ntmps13
    go_upto_region 1 with (fail)
    refine wp_region_doc (fun F hF => ?_)
    have HF := hid hF
    clear hF
    repeat (first
      | (refine doc_not rfl ?_; simp only [Act.put, List.setIfInBounds_toArray, List.set_cons_zero, List.set_cons_succ])
      | (refine doc_val rfl (by first | (go_simp; done) | (go_simp; exact ⟨rfl, rfl⟩) | (go_simp; with_reducible rfl)) ?_; simp only [Act.put, List.setIfInBounds_toArray, List.set_cons_zero, List.set_cons_succ]))
    refine doc_end (HF.out _ _ ?_)
    clear HF F
    go_wp2_with ((with_reducible refine (KN _).mono ?_); rintro e W ⟨rfl, m1, d1, rfl⟩)
    go_returns
    exact Pure.of rfl (by (repeat' (first | (with_reducible exact Below.refl _ _) | (with_reducible refine Below.ext_mk ?_ ?_ _ _) | (with_reducible refine Below.alloc ?_ ?_ _) | (with_reducible refine Below.drew ?_) | (with_reducible refine Below.setCell ?_ ?_ _) | go_size)))
  by_cases h2 : 400 < cap
  · clear hl0 hI hr0 hb0 hbb
    go_enter Try.func13, Try.ntmps13
    go_upto_region 1 with (fail)
    refine wp_region_doc (fun F hF => ?_)
    have HF := hid hF
    clear hF
    repeat (first
      | (refine doc_not rfl ?_; simp only [Act.put, List.setIfInBounds_toArray, List.set_cons_zero, List.set_cons_succ])
      | (refine doc_val rfl (by first | (go_simp; done) | (go_simp; exact ⟨rfl, rfl⟩) | (go_simp; with_reducible rfl)) ?_; simp only [Act.put, List.setIfInBounds_toArray, List.set_cons_zero, List.set_cons_succ]))
    refine doc_end (HF.out _ _ ?_)
    clear HF F
    go_wp2_with ((with_reducible refine (KN _).mono ?_); rintro e W ⟨rfl, m1, d1, rfl⟩)
    go_returns
    exact Pure.of rfl (by (repeat' (first | (with_reducible exact Below.refl _ _) | (with_reducible refine Below.ext_mk ?_ ?_ _ _) | (with_reducible refine Below.alloc ?_ ?_ _) | (with_reducible refine Below.drew ?_) | (with_reducible refine Below.setCell ?_ ?_ _) | go_size)))
  by_cases h3 : (70 : Int) < (roots.length : Int)
  · clear hl0 hI hr0 hb0 hbb
    go_enter Try.func13, Try.ntmps13
    go_upto_region 1 with (fail)
    refine wp_region_doc (fun F hF => ?_)
    have HF := hid hF
    clear hF
    repeat (first
      | (refine doc_not rfl ?_; simp only [Act.put, List.setIfInBounds_toArray, List.set_cons_zero, List.set_cons_succ])
      | (refine doc_val rfl (by first | (go_simp; done) | (go_simp; exact ⟨rfl, rfl⟩) | (go_simp; with_reducible rfl)) ?_; simp only [Act.put, List.setIfInBounds_toArray, List.set_cons_zero, List.set_cons_succ]))
    refine doc_end (HF.out _ _ ?_)
    clear HF F
    go_wp2_with ((with_reducible refine (KN _).mono ?_); rintro e W ⟨rfl, m1, d1, rfl⟩)
    go_returns
    exact Pure.of rfl (by (repeat' (first | (with_reducible exact Below.refl _ _) | (with_reducible refine Below.ext_mk ?_ ?_ _ _) | (with_reducible refine Below.alloc ?_ ?_ _) | (with_reducible refine Below.drew ?_) | (with_reducible refine Below.setCell ?_ ?_ _) | go_size)))
  by_cases h4 : (2000 : Int) < (b.length : Int)
  · clear hl0 hI hr0 hb0 hbb
    go_enter Try.func13, Try.ntmps13
    go_upto_region 1 with (fail)
    refine wp_region_doc (fun F hF => ?_)
    have HF := hid hF
    clear hF
    repeat (first
      | (refine doc_not rfl ?_; simp only [Act.put, List.setIfInBounds_toArray, List.set_cons_zero, List.set_cons_succ])
      | (refine doc_val rfl (by first | (go_simp; done) | (go_simp; exact ⟨rfl, rfl⟩) | (go_simp; with_reducible rfl)) ?_; simp only [Act.put, List.setIfInBounds_toArray, List.set_cons_zero, List.set_cons_succ]))
    refine doc_end (HF.out _ _ ?_)
    clear HF F
    go_wp2_with ((with_reducible refine (KN _).mono ?_); rintro e W ⟨rfl, m1, d1, rfl⟩)
    go_returns
    exact Pure.of rfl (by (repeat' (first | (with_reducible exact Below.refl _ _) | (with_reducible refine Below.ext_mk ?_ ?_ _ _) | (with_reducible refine Below.alloc ?_ ?_ _) | (with_reducible refine Below.drew ?_) | (with_reducible refine Below.setCell ?_ ?_ _) | go_size)))
  have MA := made33_any (cap := cap) (by omega) (by omega) hl0 hI
  obtain ⟨MO, ML⟩ := madeV_ok (cap := cap) (by omega) (by omega) l
  have MN := hid (made_new (cap := cap) (by omega) (by omega))
  have HMV := hid (show madeL 20 (newS cap) [0, 1] l = madeV cap l from rfl)
  unfold MadeAt33 at MA
  have HL := hid hl0
  have HI := hid hI
  have HR := hid hr0
  have HBY := hid (And.intro hb0 hbb)
  generalize madeV cap l = R0 at *
  obtain ⟨S0, all⟩ := R0
  simp only at MO ML
  have hcnt : S0.nodes.length ≤ 5120 := by have := MO.count; omega
  obtain ⟨kk, WB, wb1, wb2, WP, WD⟩ := writes_any (S := S0) ⟨MO.wf, MO.sated⟩ hcnt (l := roots) (by omega)
  have WP := hid WP
  have WD := hid WD
  have HWB := hid (And.intro wb1 wb2)
  have hbl : b.length ≤ 2000 := by omega
  clear hl0 hI hr0 hb0 hbb hcnt wb1 wb2
  go_enter Try.func13, Try.ntmps13
  go_upto_region 1 with (fail)
  refine wp_region_doc (fun F hF => ?_)
  have HF := hid hF
  clear hF
  repeat (first
    | (refine doc_not rfl ?_; simp only [Act.put, List.setIfInBounds_toArray, List.set_cons_zero, List.set_cons_succ])
    | (refine doc_val rfl (by first | (go_simp; done) | (go_simp; exact ⟨rfl, rfl⟩) | (go_simp; with_reducible rfl)) ?_; simp only [Act.put, List.setIfInBounds_toArray, List.set_cons_zero, List.set_cons_succ]))
  refine doc_end (HF.out _ _ ?_)
  clear HF F
  go_upto_region 7 with (go_at_call 70; refine MA.mono ?_; rintro e w1 ⟨p, F, sv, G, rfl, hH, hb1⟩; obtain ⟨sa, sc, rfl, _⟩ := RowIs.form hH.row)
  refine wp_gen (fun V hV => ?_)
  have hws := hb1.size
  have hbV1 : Below w1.heap.size w1 V := by rw [hV]; (repeat' (first | (with_reducible exact Below.refl _ _) | (with_reducible refine Below.ext_mk ?_ ?_ _ _) | (with_reducible refine Below.alloc ?_ ?_ _) | (with_reducible refine Below.drew ?_) | (with_reducible refine Below.setCell ?_ ?_ _) | go_size))
  have hq : V.heap[w1.heap.size]? = some (.cells #[.int .i64 cap, .slice none 0 0, .bool false] 72 (0, 0)) := by rw [hV]; exact World.heap_alloc_last w1 _
  clear hV
  have R0 : RIs V w1.heap.size [w1.heap.size] (rOf (newS cap)) := ⟨.slice none 0 0, none, hq, ⟨rfl, .inl ⟨rfl, rfl, rfl⟩⟩, rfl, by simp [newS, rOf]⟩
  have hbV : Below w.heap.size w V := hb1.trans (hbV1.mono hws)
  have TW := twins_any R0 MN.out (HL.out.below hbV) HI.out (fun a n c b off hn e1 e2 => by
    simp only [List.mem_singleton]
    intro e3
    obtain ⟨a', n', c', f1, f2, f3, f4, f5⟩ := HL.out
    rw [f1] at e1
    cases e1
    obtain ⟨b', off', g1, g2, _⟩ := f5 hn
    rw [g1] at e2
    cases e2
    omega)
  rw [HMV.out] at TW
  unfold TwinsAt at TW
  have zq : w1.heap.size < V.heap.size := (Array.getElem?_eq_some_iff.1 hq).1
  have rowV : RowIs V (.slice sa all.length sc) G 3 1 all.length (ints all) := RowIs.keep hH.row (fun g hg => hbV1.block g (RowIs.lt hH.row g hg))
  have stoV : StoIs V p F S0 := hH.sto.below hbV1
  have ltF : ∀ k ∈ F, k < w1.heap.size := hH.sto.lt
  have ltG : ∀ g, G = some g → g < w1.heap.size := RowIs.lt hH.row
  have loF := hH.from_
  have gdS : Gd S0 := ⟨MO.wf, MO.sated⟩
  clear hq R0
  obtain ⟨q, hqq⟩ : ∃ q, q = w1.heap.size := ⟨_, rfl⟩
  rw [← hqq] at TW ⊢
  have HQ := hid hqq
  have HRV := hid rowV
  have HSV := hid stoV
  have HLT := hid ltF
  have HLG := hid ltG
  have HLO := hid loF
  have HBV := hid hbV
  clear rowV stoV ltF ltG loF hbV hH hbV1 hb1 hqq
  refine wp_region_doc (fun F' hF => ?_)
  have HF := hid hF
  clear hF
  iterate 3 (refine doc_val rfl (by first | (go_simp; done) | (go_simp; exact ⟨rfl, rfl⟩) | (go_simp; with_reducible rfl)) ?_; simp only [Act.put, List.setIfInBounds_toArray, List.set_cons_zero, List.set_cons_succ])
  refine doc_call rfl (by first | (go_simp; done) | (go_simp; exact ⟨rfl, rfl⟩) | (go_simp; with_reducible rfl)) (TW.mono ?_)
  rintro _ w2 ⟨G2, g2, sc2, rfl, hR2, hrow2, hg2, hgF2, st2⟩
  refine ⟨_, rfl, ?_⟩
  simp only [Act.put, List.setIfInBounds_toArray, List.set_cons_zero, List.set_cons_succ]
  simp only at hR2 hrow2
  have nq : ∀ k, k < w1.heap.size → k ∉ [q] := fun k hk hm => by
    have := HQ.out
    rw [List.mem_singleton] at hm
    omega
  have hrw : RowIs w2 (.slice sa all.length sc) G 3 1 all.length (ints all) := RowIs.keep HRV.out (fun g hg => st2.block g (by have := HLG.out g hg; omega) (nq g (HLG.out g hg)))
  have EQ := equal_ints (RowIs.rd hrw) (RowIs.rd hrow2)
  rw [decide_eq_true rfl] at EQ
  refine doc_call rfl (by first | (go_simp; done) | (go_simp; exact ⟨rfl, rfl⟩) | (go_simp; with_reducible rfl)) (EQ.mono ?_)
  rintro _ _ ⟨rfl, m3, d3, rfl⟩
  refine ⟨_, rfl, ?_⟩
  simp only [Act.put, List.setIfInBounds_toArray, List.set_cons_zero, List.set_cons_succ]
  have hbw : Below w.heap.size w V := HBV.out
  have hq2 : ∀ k ∈ [q], w.heap.size ≤ k := fun k hk => by
    rw [List.mem_singleton] at hk
    have := HQ.out
    omega
  have hbw2 : Below w.heap.size w w2 := hbw.trans (st2.below hq2 hbw.size)
  have two2 : Two w w2 p q F G2 S0 S0 := by
    refine ⟨HSV.out.keep (fun k hk => st2.block k (by have := HLT.out k hk; omega) (nq k (HLT.out k hk))), hR2, fun k hk => st2.keeps (by have := HLT.out k hk; omega) (nq k (HLT.out k hk)), hbw2, HLO.out, st2.low hq2 hbw.size⟩
  have bx : Below w2.heap.size w2 (w2.ext m3 d3) := Below.ext_mk (Below.refl _ _) (Nat.le_refl _) m3 d3
  have rdb := HBY.out.1.below (hbw2.trans (bx.mono hbw2.size))
  have SU1 := sum_any rdb HBY.out.2
  have SU2 := rsum_any rdb HBY.out.2
  iterate 3 (refine doc_val rfl (by first | (go_simp; done) | (go_simp; exact ⟨rfl, rfl⟩) | (go_simp; with_reducible rfl)) ?_; simp only [Act.put, List.setIfInBounds_toArray, List.set_cons_zero, List.set_cons_succ])
  refine doc_call rfl (by first | (go_simp; done) | (go_simp; exact ⟨rfl, rfl⟩) | (go_simp; with_reducible rfl)) (SU1.mono ?_)
  rintro _ _ ⟨rfl, rfl⟩
  refine ⟨_, rfl, ?_⟩
  simp only [Act.put, List.setIfInBounds_toArray, List.set_cons_zero, List.set_cons_succ]
  iterate 1 (refine doc_val rfl (by first | (go_simp; done) | (go_simp; exact ⟨rfl, rfl⟩) | (go_simp; with_reducible rfl)) ?_; simp only [Act.put, List.setIfInBounds_toArray, List.set_cons_zero, List.set_cons_succ])
  refine doc_call rfl (by first | (go_simp; done) | (go_simp; exact ⟨rfl, rfl⟩) | (go_simp; with_reducible rfl)) (SU2.mono ?_)
  rintro _ _ ⟨rfl, rfl⟩
  refine ⟨_, rfl, ?_⟩
  simp only [Act.put, List.setIfInBounds_toArray, List.set_cons_zero, List.set_cons_succ]
  iterate 2 (refine doc_val rfl (by first | (go_simp; done) | (go_simp; exact ⟨rfl, rfl⟩) | (go_simp; with_reducible rfl)) ?_; simp only [Act.put, List.setIfInBounds_toArray, List.set_cons_zero, List.set_cons_succ])
  refine doc_end (HF.out _ _ ?_)
  clear HF F' EQ SU1 SU2 rdb
  have HTW := hid (two2.below bx)
  generalize w2.ext m3 d3 = X at *
  clear two2 hrw hR2 hrow2 hg2 hgF2 st2 nq bx hbw TW hbw2 hq2
  have WPX := hid (WP.out X p F (.slice ra roots.length rc) HTW.out.sto (HR.out.below HTW.out.base))
  go_upto_region 10 with ((with_reducible refine (WPX.out).mono ?_); clear WPX; rintro e w3 ⟨v3, rfl, ho3, hb3⟩; obtain ⟨a3, c3, rfl⟩ := ho3.form)
  have HT3 := hid (HTW.out.below hb3)
  have WDX := hid (WD.out w3 q G2 (.slice ra roots.length rc) HT3.out.ref (HR.out.below HT3.out.base))
  have HO3 := hid ho3
  clear ho3 hb3
  go_upto_region 11 with ((with_reducible refine (WDX.out).mono ?_); clear WDX; rintro e w4 ⟨v4, rfl, ho4, hb4⟩; obtain ⟨a4, c4, rfl⟩ := ho4.form)
  have HT4 := hid (HT3.out.below hb4)
  have s3 := str_any (HO3.out.rd.below hb4)
  have s4 := str_any ho4.rd
  obtain ⟨ts, hts⟩ : ∃ t, t = strOf WB := ⟨_, rfl⟩
  rw [← hts] at s3 s4
  have hst : (ts.toList == ts.toList) = true := beq_self_eq_true _
  have HO4 := hid ho4
  clear ho4 hb4 hts
  go_upto_region 13 with (fail)
  clear s3 s4 hst
  have SE := hid (rsealed_any (HBY.out.1.below HT4.out.base) HBY.out.2 (by omega))
  obtain ⟨SB, hSB⟩ : ∃ s, s = sealB b := ⟨_, rfl⟩
  rw [← hSB] at SE
  have HSB := hid hSB
  clear hSB
  go_wp2_with ((with_reducible refine (SE.out).mono ?_); clear SE; rintro e w5 ⟨v5, rfl, ho5, hb5⟩; obtain ⟨a5, c5, rfl⟩ := ho5.form)
  refine wp_gen (fun Y hY => ?_)
  have hbY : Below w5.heap.size w5 Y := by rw [hY]; (repeat' (first | (with_reducible exact Below.refl _ _) | (with_reducible refine Below.ext_mk ?_ ?_ _ _) | (with_reducible refine Below.alloc ?_ ?_ _) | (with_reducible refine Below.drew ?_) | (with_reducible refine Below.setCell ?_ ?_ _) | go_size))
  have bY : Blk Y w5.heap.size 100 [.slice ba b.length bc, .slice a5 SB.length c5, .slice a4 WB.length c4] := by rw [hY]; exact Blk.new w5 _ [.slice ba b.length bc, .slice a5 SB.length c5, .slice a4 WB.length c4]
  obtain ⟨kb, hkb⟩ : ∃ b, b = w5.heap.size := ⟨_, rfl⟩
  rw [← hkb] at bY ⊢
  have hT5 := HT4.out.below hb5
  have hTY := hT5.below hbY
  have hFG4 : ∀ k ∈ F ++ G2, k < w4.heap.size := fun k hk => (List.mem_append.1 hk).elim (HT4.out.sto.lt k) (HT4.out.ref.lt k)
  have hFG3 : ∀ k ∈ F ++ G2, k < w3.heap.size := fun k hk => (List.mem_append.1 hk).elim (HT3.out.sto.lt k) (HT3.out.ref.lt k)
  have hFGw : ∀ k ∈ F ++ G2, w.heap.size ≤ k := fun k hk => (List.mem_append.1 hk).elim (hTY.loF k) (hTY.loG k)
  have hkn : kb ∉ F ++ G2 := fun hm => by have := hFG4 kb hm; have := hb5.size; omega
  have hsb : SB.length = b.length + 4 := by rw [HSB.out, sealB_length]
  have CR := hid (fun (n : Nat) (hn : n < 3) => (show ∃ (c : Value) (Lc : List Nat), Y.cell? ⟨kb, n, none⟩ = some c ∧ Rd Y 1 c (byts Lc) ∧ Away c (F ++ G2) ∧ (∀ y ∈ Lc, y < 256) ∧ Lc.length ≤ 100000 from by
    rcases (show n = 0 ∨ n = 1 ∨ n = 2 by omega) with rfl | rfl | rfl
    · exact ⟨_, b, bY.cell 0, HBY.out.1.below hTY.base, Away.old HBY.out.1 hFGw, HBY.out.2, by omega⟩
    · exact ⟨_, SB, bY.cell 1, ho5.rd.below hbY, Away.own ho5 hFG4, by rw [HSB.out]; exact sealB_byte HBY.out.2, by omega⟩
    · exact ⟨_, WB, bY.cell 2, (HO4.out.rd.below hb5).below hbY, Away.own HO4.out hFG3, HWB.out.1, HWB.out.2⟩))
  have HTY := hid hTY
  have KB := hid (And.intro bY.lt hkn)
  clear hY hbY bY hkb hT5 hTY hFG4 hFG3 hFGw hkn hsb ho5 hb5 HT3 HT4 HTW HO3 HO4 WP WD
  go_loopw [92] (fun iv wr => ∃ (n : Nat) (S : Sto), n ≤ 3 ∧ iv = .int .i64 n ∧ Gd S ∧ TwoTo w Y p q F G2 S S wr) (fun iv _ => 3 - (intOf iv).toNat)
  case atStart => exact ⟨0, S0, by omega, rfl, gdS, ⟨F, G2, HTY.out, StoStep.refl _ _⟩⟩
  case round =>
    obtain ⟨n, S, hn, rfl, hG, F1, G1, t1, st1⟩ := hrel
    by_cases hlt : n < 3
    · have hn1 : (n : Int) < 3 := by omega
      have hn0 : (0 : Int) ≤ (n : Int) := by omega
      obtain ⟨c, Lc, hc, hR, hA, hby, hln⟩ := CR.out n hlt
      obtain ⟨ca, cc, rfl, -, -⟩ := hR.lenB
      have kc : wr.cell? ⟨kb, n, none⟩ = some (.slice ca Lc.length cc) := (cell_of_heap n (st1.block kb KB.out.1 KB.out.2)).trans hc
      have kz : kb < wr.heap.size := Nat.lt_of_lt_of_le KB.out.1 st1.size
      have CL := hid (cloneE_any (rd_step hR hA st1) (by omega))
      have HC := hid (And.intro hR (And.intro hA (And.intro hby hln)))
      have HG := hid hG
      have T1 := hid t1
      have ST1 := hid st1
      clear hc hR hA hby hG t1 st1
      go_upto_region 17 with ((with_reducible refine (CL.out).mono ?_); clear CL; rintro e w2 ⟨v, rfl, ho, hb⟩; obtain ⟨va, vc, rfl⟩ := ho.form)
      have hT2 := T1.out.below hb
      have RP := hid (read_live hT2.sto HG.out.1 HG.out.2 ho.rd HC.out.2.2.1)
      obtain ⟨R, hRR⟩ : ∃ R, R = readV S Lc := ⟨_, rfl⟩
      rw [← hRR] at RP
      have HRR := hid hRR
      have HO := hid ho
      have T2 := hid hT2
      have HB2 := hid hb
      clear hT2 ho hb hRR kc kz
      go_upto_region 18 with ((with_reducible refine (RP.out).mono ?_); clear RP; rintro e w3 ⟨s6, G6, F6, rfl, hr6, hg6, hS6, st6⟩; obtain ⟨a6, c6, rfl, _⟩ := RowIs.form hr6)
      obtain ⟨hT3, sw3⟩ := T2.out.progX hS6 st6
      have stY3 := (ST1.out.trans (StoStep.of_below HB2.out)).trans sw3
      have RD := hid (rread_any hT3.ref HG.out.1 HG.out.2 (rd_step HC.out.1 HC.out.2.1 stY3) HC.out.2.2.1 HC.out.2.2.2)
      rw [← HRR.out] at RD
      have HR6 := hid hr6
      have HG6 := hid hg6
      have T3 := hid hT3
      have SW3 := hid sw3
      have STY3 := hid stY3
      clear hr6 hg6 hS6 st6 hT3 sw3 stY3
      go_upto_region 19 with ((with_reducible refine (RD.out).mono ?_); clear RD; rintro e w4 ⟨s7, G7, G8, rfl, hr7, hg7, hS7, st7⟩; obtain ⟨a7, c7, rfl, _⟩ := RowIs.form hr7)
      obtain ⟨hT4, sw4⟩ := T3.out.docX hS7 st7
      have stW4 := SW3.out.trans sw4
      have stY4 := STY3.out.trans sw4
      have rd6 : RowIs w4 (.slice a6 R.2.1.length c6) G6 3 1 R.2.1.length (ints R.2.1) := RowIs.keep HR6.out (fun k hk => st7.block k (RowIs.lt HR6.out k hk) (fun hm => by
        have h1 := (HG6.out k hk).1
        have h2 := T2.out.ref.lt k hm
        omega))
      have hAo : Away (.slice va Lc.length vc) (F1 ++ G1) := Away.own HO.out (fun k hk => (List.mem_append.1 hk).elim (T1.out.sto.lt k) (T1.out.ref.lt k))
      have rv := rd_step HO.out.rd hAo stW4
      have rc4 := rd_step HC.out.1 HC.out.2.1 stY4
      obtain ⟨ts, hts⟩ : ∃ t, t = strOf Lc := ⟨_, rfl⟩
      have hs1 : ∀ m d, (convert 100 9 (.slice va Lc.length vc)).run Try.prog (w4.ext m d) = .ok (.string ts) (w4.ext m d) := fun m d => by
        rw [hts]
        exact str_any (rv.below (Below.ext_mk (Below.refl _ _) (Nat.le_refl _) m d))
      have hs2 : ∀ m d, (convert 100 9 (.slice ca Lc.length cc)).run Try.prog (w4.ext m d) = .ok (.string ts) (w4.ext m d) := fun m d => by
        rw [hts]
        exact str_any (rc4.below (Below.ext_mk (Below.refl _ _) (Nat.le_refl _) m d))
      have hst : (ts.toList == ts.toList) = true := beq_self_eq_true _
      have EQ := hid (fun W (hb : Below w4.heap.size w4 W) => (show Calls Try.prog 45 #[.slice a6 R.2.1.length c6, .slice a7 R.2.1.length c7] W (Pure (.bool true) W) from by
        have h := equal_ints ((RowIs.rd rd6).below hb) ((RowIs.rd hr7).below hb)
        rwa [decide_eq_true rfl] at h))
      have hgR : Gd R.1 := by rw [HRR.out]; exact readV_good HG.out Lc
      have hcap : R.1.cap ≠ 0 := by have := hgR.1.cap2; omega
      obtain ⟨aq, cq, zq3, k0, k1, k2, k3⟩ := hT4.ref.cells
      have hL : (rOf R.1).L.length = R.1.nodes.length := rfl
      have hfl : (rOf R.1).full = R.1.full := rfl
      rw [hL] at k1 k3
      rw [hfl] at k2
      have FU := hid (fun W (hb : Below w4.heap.size w4 W) => full_any (hT4.sto.below hb) hcap)
      have LE := hid (fun W (hb : Below w4.heap.size w4 W) => len_any (hT4.sto.below hb) hcap)
      have HT4 := hid hT4
      have STY4 := hid stY4
      have HGR := hid hgR
      clear hT4 sw4 stW4 stY4 rd6 hAo rv rc4 hts hgR hcap hL hfl hr7 hg7 hS7 st7 k0 KN
      obtain ⟨fu, hfu⟩ : ∃ f, f = R.1.full := ⟨_, rfl⟩
      obtain ⟨ln, hln⟩ : ∃ n, n = R.1.nodes.length := ⟨_, rfl⟩
      rw [← hfu] at k2 FU
      rw [← hln] at k1 k3 LE
      clear hfu hln
      refine wp_region_ext (by kernel_rfl) (by kernel_rfl) (fun F hF => ?_)
      have HF := hid hF; clear hF
      repeat (first
        | (apply text_skip; (focus rfl); simp only [Act.put, List.setIfInBounds_toArray, List.set_cons_zero, List.set_cons_succ])
        | (apply text_val; (focus rfl); (focus (intro _ _; go_simp; with_reducible rfl)); simp only [Act.put, List.setIfInBounds_toArray, List.set_cons_zero, List.set_cons_succ])
        | (apply text_call; (focus rfl); (focus (intro _ _; go_simp; exact ⟨rfl, rfl⟩)); (focus (intro _ _; with_reducible (first | exact EQ.out _ (by (repeat' (first | (with_reducible exact Below.refl _ _) | (with_reducible refine Below.ext_mk ?_ ?_ _ _) | (with_reducible refine Below.alloc ?_ ?_ _) | (with_reducible refine Below.drew ?_) | (with_reducible refine Below.setCell ?_ ?_ _) | go_size))) | exact FU.out _ (by (repeat' (first | (with_reducible exact Below.refl _ _) | (with_reducible refine Below.ext_mk ?_ ?_ _ _) | (with_reducible refine Below.alloc ?_ ?_ _) | (with_reducible refine Below.drew ?_) | (with_reducible refine Below.setCell ?_ ?_ _) | go_size))) | exact LE.out _ (by (repeat' (first | (with_reducible exact Below.refl _ _) | (with_reducible refine Below.ext_mk ?_ ?_ _ _) | (with_reducible refine Below.alloc ?_ ?_ _) | (with_reducible refine Below.drew ?_) | (with_reducible refine Below.setCell ?_ ?_ _) | go_size)))))); simp only [Act.put, List.setIfInBounds_toArray, List.set_cons_zero, List.set_cons_succ])
        | (apply text_if; (focus (first | exact wanted_t rfl rfl | exact wanted_f rfl rfl | exact wanted_gt rfl rfl | exact wanted_gf rfl rfl)); (focus (intro hc _ _; (try simp only [Bool.and_eq_true, Bool.not_eq_true', Bool.true_and] at hc); go_simp; with_reducible rfl)); simp only [Act.put, List.setIfInBounds_toArray, List.set_cons_zero, List.set_cons_succ])
        | (apply text_if_call; (focus (first | exact wanted_t rfl rfl | exact wanted_f rfl rfl | exact wanted_gt rfl rfl | exact wanted_gf rfl rfl)); (focus (intro hc _ _; (try simp only [Bool.and_eq_true, Bool.not_eq_true', Bool.true_and] at hc); go_simp; exact ⟨rfl, rfl⟩)); (focus (intro hc _ _; with_reducible (first | exact EQ.out _ (by (repeat' (first | (with_reducible exact Below.refl _ _) | (with_reducible refine Below.ext_mk ?_ ?_ _ _) | (with_reducible refine Below.alloc ?_ ?_ _) | (with_reducible refine Below.drew ?_) | (with_reducible refine Below.setCell ?_ ?_ _) | go_size))) | exact FU.out _ (by (repeat' (first | (with_reducible exact Below.refl _ _) | (with_reducible refine Below.ext_mk ?_ ?_ _ _) | (with_reducible refine Below.alloc ?_ ?_ _) | (with_reducible refine Below.drew ?_) | (with_reducible refine Below.setCell ?_ ?_ _) | go_size))) | exact LE.out _ (by (repeat' (first | (with_reducible exact Below.refl _ _) | (with_reducible refine Below.ext_mk ?_ ?_ _ _) | (with_reducible refine Below.alloc ?_ ?_ _) | (with_reducible refine Below.drew ?_) | (with_reducible refine Below.setCell ?_ ?_ _) | go_size)))))); simp only [Act.put, List.setIfInBounds_toArray, List.set_cons_zero, List.set_cons_succ]))
      refine text_nil (HF.out _ (fun mx dx => ?_))
      clear HF F
      have bx : Below w4.heap.size w4 (w4.ext mx dx) := Below.ext_mk (Below.refl _ _) (Nat.le_refl _) mx dx
      have HTX := hid (HT4.out.below bx)
      have STX := hid (STY4.out.trans (StoStep.of_below bx))
      clear bx hs1 hs2 hst EQ FU LE k1 k2 k3
      generalize w4.ext mx dx = X4 at *
      go_wp2_with fail
      go_roundw
      case rel => exact ⟨n + 1, R.1, by omega, by go_num, HGR.out, ⟨F6, G8, HTX.out, STX.out⟩⟩
      case measure => simp [intOf]; omega
    · obtain rfl : n = 3 := by omega
      have HB := hid t1.base
      clear st1 t1
      go_wp2_with ((with_reducible refine (KN _).mono ?_); rintro e W ⟨rfl, m1, d1, rfl⟩)
      go_wp2
      go_returns
      exact Pure.of rfl (Below.ext_mk HB.out HB.out.size _ _)
end Go.Proofs.Ytboekafmplomhaa
