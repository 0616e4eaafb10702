/-
  A region that draws its order and turns the world by a chain of operations, each waiting for the one ahead of it; the others read, or call what only reads, at whichever stages they may come up. Walked once, in the order of the text.
-/
import Derived.Test.YtidnhnfmbebeaaaZR
set_option linter.unusedVariables false
set_option linter.unusedSimpArgs false
namespace Go
open Go.RowKit

section
variable {P : Program} {ops : Array Oper} {Q : Exit → Act → World → Prop} {F : Act → Prop} {o : Oper} {r : List Oper} {a : Act} {v : Value} {zs : List Nat} {k : Nat} {R : Nat → World → Prop}

/-- What one operation does: it gives v, and a world of S. -/
def Act1 (P : Program) (o : Oper) (a : Act) (w : World) (v : Value) (S : World → Prop) : Prop :=
  match (execOp a.eval o).run P w with
    | .ok (.value u) w' => u = v ∧ S w'
    | .ok .skip w' => undef = v ∧ S w'
    | .ok (.enter f args) w' => Calls P f args w' (fun e w'' => e = .returned v ∧ S w'')
    | _ => False
def stageLo (ops : Array Oper) (zs : List Nat) (k : Nat) : Nat := (zs.filter (fun z => anc ops k z)).length
def stageHi (ops : Array Oper) (zs : List Nat) (k : Nat) : Nat := (zs.takeWhile (fun z => !anc ops z k)).length

def StageWalk (P : Program) (ops : Array Oper) (zs : List Nat) (R : Nat → World → Prop) (F : Act → Prop) : Nat → List Oper → Act → Prop
  | _, [], a => F a
  | k, o :: r, a =>
    (k ∉ zs ∧ ∃ v, Region.wanted o (yielded ops a.tmps) = true ∧ (∀ i w, stageLo ops zs k ≤ i → i ≤ stageHi ops zs k → R i w → Act1 P o a w v (R i)) ∧ StageWalk P ops zs R F (k + 1) r (a.put o.dst v)) ∨
    (k ∉ zs ∧ Region.wanted o (yielded ops a.tmps) = false ∧ StageWalk P ops zs R F (k + 1) r (a.put o.dst undef)) ∨
    (∃ j v, zs[j]? = some k ∧ Region.wanted o (yielded ops a.tmps) = true ∧ (∀ w, R j w → Act1 P o a w v (R (j + 1))) ∧ StageWalk P ops zs R F (k + 1) r (a.put o.dst v))

theorem up_of {L : Array Bool} {z y : Nat} (hd : Down .any ops L) (hz : L.getD z false = true) (ha : anc ops z y = true) : L.getD y false = true :=
  below_listed hd z _ (hd z hz) y (by simpa [anc] using ha)
theorem up_now {L : Array Bool} {z y : Nat} (hn : Now .any ops z L) (ha : anc ops z y = true) : L.getD y false = true :=
  below_listed hn.2.2.2 z _ hn.2.2.1 y (by simpa [anc] using ha)
theorem cnt_set_other (L : Array Bool) {x : Nat} (hx : x ∉ zs) : cnt zs (L.setIfInBounds x true) = cnt zs L := by
  unfold cnt; congr 1
  apply List.filter_congr
  intro y hy
  rw [getD_set_ne false (fun e => hx (by rw [e]; exact hy))]
theorem chain_anc (hc : chainOk ops zs = true) {p1 p2 p3 : List Nat} {y z : Nat} (hz : zs = p1 ++ y :: (p2 ++ z :: p3)) : anc ops z y = true ∧ z ≠ y := by
  simp only [chainOk, List.all_eq_true, List.mem_range] at hc
  have := hc (p1.length + 1 + p2.length) (by rw [hz]; simp; omega) p1.length (by omega)
  have e1 : zs[p1.length + 1 + p2.length]? = some z := by
    rw [hz, List.getElem?_append_right (by omega)]
    rw [show p1.length + 1 + p2.length - p1.length = p2.length + 1 by omega, List.getElem?_cons_succ, List.getElem?_append_right (by omega)]
    simp
  have e2 : zs[p1.length]? = some y := by rw [hz, List.getElem?_append_right (by omega)]; simp
  rw [e1, e2] at this
  simp only [Bool.and_eq_true, bne_iff_ne, decide_eq_true_eq] at this
  exact ⟨this.1.1, this.1.2⟩
theorem cnt_at (hc : chainOk ops zs = true) {L : Array Bool} {x : Nat} {pre suf : List Nat} (hzs : zs = pre ++ x :: suf) (hL : Now .any ops x L) :
    cnt zs L = pre.length ∧ cnt zs (L.setIfInBounds x true) = pre.length + 1 := by
  have hpre : ∀ y ∈ pre, L.getD y false = true ∧ x ≠ y := fun y hy => by
    obtain ⟨s1, s2, rfl⟩ := List.append_of_mem hy
    have := chain_anc hc (p1 := s1) (p2 := s2) (p3 := suf) (y := y) (z := x) (by rw [hzs]; simp)
    exact ⟨up_now hL this.1, this.2⟩
  have hsuf : ∀ y ∈ suf, L.getD y false = false ∧ y ≠ x := fun y hy => by
    obtain ⟨s1, s2, rfl⟩ := List.append_of_mem hy
    have := chain_anc hc (p1 := pre) (p2 := s1) (p3 := s2) (y := x) (z := y) hzs
    refine ⟨?_, this.2⟩
    cases hc' : L.getD y false with
    | false => rfl
    | true =>
      exfalso
      have h1 := up_of hL.2.2.2 hc' this.1
      rw [getD_false_of hL.2.1] at h1; cases h1
  have hlt : x < L.size := by
    have h2 := hL.2.1
    rcases Nat.lt_or_ge x L.size with h' | h'
    · exact h'
    · simp [Array.getElem?_eq_none h'] at h2
  constructor
  · rw [hzs]
    exact cnt_prefix pre (x :: suf) (fun y hy => (hpre y hy).1) (fun y hy => by
      rcases List.mem_cons.1 hy with rfl | hy
      · exact getD_false_of hL.2.1
      · exact (hsuf y hy).1)
  · rw [hzs, show pre ++ x :: suf = (pre ++ [x]) ++ suf by simp]
    rw [cnt_prefix (pre ++ [x]) suf ?_ ?_]
    · simp
    · intro y hy
      rcases List.mem_append.1 hy with h' | h'
      · exact getD_set_true (hpre y h').1
      · simp at h'; subst h'; simp [hlt]
    · intro y hy
      rw [getD_set_ne false (fun e => (hsuf y hy).2 e.symm)]; exact (hsuf y hy).1

theorem stage_lo {L : Array Bool} {x : Nat} (hL : Now .any ops x L) : stageLo ops zs x ≤ cnt zs L := by
  unfold stageLo cnt
  rw [← List.countP_eq_length_filter, ← List.countP_eq_length_filter]
  exact List.countP_mono_left (fun z _ hz => up_now hL hz)
theorem take_split (p : Nat → Bool) : ∀ (l : List Nat), l.takeWhile p = l ∨ ∃ z suf, l = l.takeWhile p ++ z :: suf ∧ p z = false
  | [] => .inl rfl
  | z :: l => by
    by_cases h : p z = true
    · rcases take_split p l with e | ⟨y, suf, e, hy⟩
      · exact .inl (by rw [List.takeWhile_cons, if_pos h, e])
      · exact .inr ⟨y, suf, by rw [List.takeWhile_cons, if_pos h, List.cons_append, ← e], hy⟩
    · refine .inr ⟨z, l, by rw [List.takeWhile_cons, if_neg h]; rfl, by simpa using h⟩
theorem stage_hi (hc : chainOk ops zs = true) {L : Array Bool} {x : Nat} (hL : Now .any ops x L) : cnt zs L ≤ stageHi ops zs x := by
  unfold stageHi
  rcases take_split (fun z => !anc ops z x) zs with e | ⟨z, suf, e, hz⟩
  · rw [e]; unfold cnt; exact List.length_filter_le _ _
  · generalize hp : zs.takeWhile (fun z => !anc ops z x) = pre at *
    have ha : anc ops z x = true := by simpa using hz
    have hzl : L.getD z false = false := by
      cases hc' : L.getD z false with
      | false => rfl
      | true =>
        exfalso
        have h1 := up_of hL.2.2.2 hc' ha
        rw [getD_false_of hL.2.1] at h1; cases h1
    have hnil : (z :: suf).filter (fun z => L.getD z false) = [] := List.filter_eq_nil_iff.2 (by
      intro y hy
      rcases List.mem_cons.1 hy with rfl | hy
      · rw [hzl]; simp
      · obtain ⟨s1, s2, hs⟩ := List.append_of_mem hy
        have h1 := chain_anc hc (p1 := pre) (p2 := s1) (p3 := s2) (y := z) (z := y) (by rw [e, hs])
        cases hc' : L.getD y false with
        | false => simp
        | true =>
          exfalso
          have h2 := up_of hL.2.2.2 hc' h1.1
          rw [hzl] at h2; cases h2)
    have e2 : cnt zs L = (pre.filter (fun z => L.getD z false)).length := by
      unfold cnt
      rw [e, List.filter_append, hnil, List.append_nil]
    rw [e2]
    exact List.length_filter_le _ _

theorem stage_list (hc : chainOk ops zs = true) : ∀ (os : List Oper) (k : Nat) (a : Act), StageWalk P ops zs R F k os a →
    ∃ l : List Ent, l.map (·.i) = List.range' k os.length ∧ l.map (·.o) = os ∧ Chain P .any ops (fun L w => R (cnt zs L) w) l a ∧ F (puts l a)
  | [], k, a, h => ⟨[], rfl, rfl, trivial, h⟩
  | o :: r, k, a, h => by
    rcases h with ⟨hk, v, hg, hv, h⟩ | ⟨hk, hg, h⟩ | ⟨j, v, hj, hg, hv, h⟩
    · obtain ⟨l, h1, h2, h3, h4⟩ := stage_list hc r (k + 1) _ h
      refine ⟨⟨k, o, v⟩ :: l, by simp [h1, List.range'_succ], by simp [h2], ⟨.inl ⟨hg, fun L w hL hS => ?_⟩, h3⟩, h4⟩
      have := hv (cnt zs L) w (stage_lo hL) (stage_hi hc hL) hS
      show Act1 P o a w v (R (cnt zs (L.setIfInBounds k true)))
      rw [cnt_set_other L hk]
      exact this
    · obtain ⟨l, h1, h2, h3, h4⟩ := stage_list hc r (k + 1) _ h
      refine ⟨⟨k, o, undef⟩ :: l, by simp [h1, List.range'_succ], by simp [h2], ⟨.inr ⟨hg, rfl, fun L w hL hS => ?_⟩, h3⟩, h4⟩
      show R (cnt zs (L.setIfInBounds k true)) w
      rw [cnt_set_other L hk]
      exact hS
    · obtain ⟨l, h1, h2, h3, h4⟩ := stage_list hc r (k + 1) _ h
      refine ⟨⟨k, o, v⟩ :: l, by simp [h1, List.range'_succ], by simp [h2], ⟨.inl ⟨hg, fun L w hL hS => ?_⟩, h3⟩, h4⟩
      obtain ⟨hjl, hjk⟩ := List.getElem?_eq_some_iff.1 hj
      have hzs : zs = zs.take j ++ k :: zs.drop (j + 1) := by
        conv => lhs; rw [← List.take_append_drop j zs]
        rw [List.drop_eq_getElem_cons hjl, hjk]
      obtain ⟨c1, c2⟩ := cnt_at hc hzs hL
      have hlen : (zs.take j).length = j := by simp; omega
      rw [hlen] at c1 c2
      have hS' : R (cnt zs L) w := hS
      rw [c1] at hS'
      show Act1 P o a w v (R (cnt zs (L.setIfInBounds k true)))
      rw [c2]
      exact hv w hS'

theorem wp_region_stage {id : Nat} {W : World} (zs : List Nat) (R : Nat → World → Prop) (hm : P.follows .mixedOrders = true) (hok : textOk .any ops = true) (hc : chainOk ops zs = true) (hin : zs.all (fun z => decide (z < ops.size)) = true)
    (h0 : R 0 W.drew) (h : ∀ F : Act → Prop, (∀ a', (∀ w', R zs.length w' → Q .normal a' w') → F a') → StageWalk P ops zs R F 0 ops.toList a) : (Code.region id ops true).wp P Q a W := by
  obtain ⟨l, h1, h2, h3, h4⟩ := stage_list hc ops.toList 0 a (h (fun a' => ∀ w', R zs.length w' → Q .normal a' w') (fun _ h => h))
  have hz0 : cnt zs (Array.replicate ops.size false) = 0 := by
    have := cnt_prefix (L := Array.replicate ops.size false) [] zs (by simp) (fun y hy => by
      rcases Nat.lt_or_ge y ops.size with h' | h'
      · simp [h']
      · simp [h'])
    simpa using this
  refine wp_region_chain (S := fun L w => R (cnt zs L) w) hm hok (by rw [hz0]; exact h0) l (by simpa using h1) h2 h3 ?_
  intro L w' hsz hall hS
  have : cnt zs L = zs.length := by
    have := cnt_prefix (L := L) zs [] (fun y hy => hall y (by
      have := List.all_eq_true.1 hin y hy
      simpa using this)) (by simp)
    simpa using this
  rw [this] at hS
  exact h4 w' hS

section
variable {lo hi : Nat}
theorem sg_any (hk : zs.contains k = false) (hg : Region.wanted o (yielded ops a.tmps) = true) (h : ∀ w, (execOp a.eval o).run P w = .ok (.value v) w)
    (c : StageWalk P ops zs R F (k + 1) r (a.put o.dst v)) : StageWalk P ops zs R F k (o :: r) a :=
  .inl ⟨by simpa using hk, v, hg, fun i w _ _ hS => by unfold Act1; rw [h w]; exact ⟨rfl, hS⟩, c⟩
theorem sg_read (lo hi : Nat) (hk : zs.contains k = false) (h1 : stageLo ops zs k = lo) (h2 : stageHi ops zs k = hi) (hg : Region.wanted o (yielded ops a.tmps) = true)
    (h : ∀ i w, lo ≤ i → i ≤ hi → R i w → (execOp a.eval o).run P w = .ok (.value v) w)
    (c : StageWalk P ops zs R F (k + 1) r (a.put o.dst v)) : StageWalk P ops zs R F k (o :: r) a :=
  .inl ⟨by simpa using hk, v, hg, fun i w l u hS => by unfold Act1; rw [h i w (h1 ▸ l) (h2 ▸ u) hS]; exact ⟨rfl, hS⟩, c⟩
theorem sg_call (lo hi : Nat) (hk : zs.contains k = false) (h1 : stageLo ops zs k = lo) (h2 : stageHi ops zs k = hi) (hg : Region.wanted o (yielded ops a.tmps) = true) {f : FuncId} {args : Array Value}
    (h : ∀ w, (execOp a.eval o).run P w = .ok (.enter f args) w) (hc : ∀ i w, lo ≤ i → i ≤ hi → R i w → Calls P f args w (fun e w' => e = .returned v ∧ R i w'))
    (c : StageWalk P ops zs R F (k + 1) r (a.put o.dst v)) : StageWalk P ops zs R F k (o :: r) a :=
  .inl ⟨by simpa using hk, v, hg, fun i w l u hS => by unfold Act1; rw [h w]; exact hc i w (h1 ▸ l) (h2 ▸ u) hS, c⟩
theorem sg_skip (hk : zs.contains k = false) (hg : Region.wanted o (yielded ops a.tmps) = false)
    (c : StageWalk P ops zs R F (k + 1) r (a.put o.dst undef)) : StageWalk P ops zs R F k (o :: r) a := .inr (.inl ⟨by simpa using hk, hg, c⟩)
theorem sg_turn (j : Nat) (hk : zs[j]? = some k) (hg : Region.wanted o (yielded ops a.tmps) = true) (h : ∀ w, R j w → ∃ w', (execOp a.eval o).run P w = .ok (.value v) w' ∧ R (j + 1) w')
    (c : StageWalk P ops zs R F (k + 1) r (a.put o.dst v)) : StageWalk P ops zs R F k (o :: r) a :=
  .inr (.inr ⟨j, v, hk, hg, fun w hS => by obtain ⟨w', e, h'⟩ := h w hS; unfold Act1; rw [e]; exact ⟨rfl, h'⟩, c⟩)
theorem sg_do (j : Nat) (hk : zs[j]? = some k) (hg : Region.wanted o (yielded ops a.tmps) = true) (h : ∀ w, R j w → ∃ w', (execOp a.eval o).run P w = .ok .skip w' ∧ R (j + 1) w')
    (c : StageWalk P ops zs R F (k + 1) r (a.put o.dst undef)) : StageWalk P ops zs R F k (o :: r) a :=
  .inr (.inr ⟨j, undef, hk, hg, fun w hS => by obtain ⟨w', e, h'⟩ := h w hS; unfold Act1; rw [e]; exact ⟨rfl, h'⟩, c⟩)
theorem sg_turn_call (j : Nat) (hk : zs[j]? = some k) (hg : Region.wanted o (yielded ops a.tmps) = true) {f : FuncId} {args : Array Value} (h : ∀ w, (execOp a.eval o).run P w = .ok (.enter f args) w)
    (hc : ∀ w, R j w → Calls P f args w (fun e w' => e = .returned v ∧ R (j + 1) w'))
    (c : StageWalk P ops zs R F (k + 1) r (a.put o.dst v)) : StageWalk P ops zs R F k (o :: r) a :=
  .inr (.inr ⟨j, v, hk, hg, fun w hS => by unfold Act1; rw [h w]; exact hc w hS, c⟩)
theorem sg_end (c : F a) : StageWalk P ops zs R F k [] a := c
end
end
end Go
