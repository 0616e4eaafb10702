/-
  A region that draws its order and turns the world by a chain of operations, each waiting for the one ahead of it (a literal's array made, append, the store): walked once, in the order of the text.
-/
import Derived.Test.YtidnhnfmbebeaaaZT
set_option linter.unusedVariables false
set_option linter.unusedSimpArgs false
namespace Go
open Go.RowKit

section
variable {P : Program} {ops : Array Oper} {Q : Exit → Act → World → Prop} {W W1 : World} {F : Act → World → Prop} {o : Oper} {r : List Oper} {a : Act} {v : Value} {zs rest : List Nat} {k J : Nat}

/-- Number k is waited for by number z. -/
def anc (ops : Array Oper) (z k : Nat) : Bool := (below .any ops z (deps .any ops z)).contains k

/-- The walk in the text's order: 'rest' are the chain's numbers still to come; the world turns at these alone. -/
def ChainWalk (P : Program) (ops : Array Oper) (zs : List Nat) (J : Nat) (F : Act → World → Prop) : (rest : List Nat) → (k : Nat) → World → List Oper → Act → Prop
  | rest, _, w, [], a => rest = [] ∧ F a w
  | rest, k, w, o :: r, a =>
    (k ∉ zs ∧ ∃ v, Region.wanted o (yielded ops a.tmps) = true ∧ (∀ w', (execOp a.eval o).run P w' = .ok (.value v) w') ∧ ChainWalk P ops zs J F rest (k + 1) w r (a.put o.dst v)) ∨
    (k ∉ zs ∧ rest = zs ∧ (∃ z, zs[J]? = some z ∧ anc ops z k = true) ∧ ∃ v, Region.wanted o (yielded ops a.tmps) = true ∧ (∀ m d, (execOp a.eval o).run P (w.ext m d) = .ok (.value v) (w.ext m d)) ∧ ChainWalk P ops zs J F rest (k + 1) w r (a.put o.dst v)) ∨
    (k ∉ zs ∧ Region.wanted o (yielded ops a.tmps) = false ∧ ChainWalk P ops zs J F rest (k + 1) w r (a.put o.dst undef)) ∨
    (∃ rest' v w1, rest = k :: rest' ∧ (zs.length - (rest'.length + 1) < J → Ext w w1) ∧ Region.wanted o (yielded ops a.tmps) = true ∧ ((execOp a.eval o).run P w = .ok (.value v) w1 ∨ ((execOp a.eval o).run P w = .ok .skip w1 ∧ v = undef)) ∧ ChainWalk P ops zs J F rest' (k + 1) w1 r (a.put o.dst v))

theorem chain_any {W : World} (hk : (zs.contains k) = false) (hg : Region.wanted o (yielded ops a.tmps) = true) (h : ∀ w', (execOp a.eval o).run P w' = .ok (.value v) w')
    (c : ChainWalk P ops zs J F rest (k + 1) W r (a.put o.dst v)) : ChainWalk P ops zs J F rest k W (o :: r) a := .inl ⟨by simpa using hk, v, hg, h, c⟩
theorem chain_read {z : Nat} (hk : (zs.contains k) = false) (hz : zs[J]? = some z) (ha : anc ops z k = true) (hg : Region.wanted o (yielded ops a.tmps) = true) (h : ∀ m d, (execOp a.eval o).run P (W.ext m d) = .ok (.value v) (W.ext m d))
    (c : ChainWalk P ops zs J F zs (k + 1) W r (a.put o.dst v)) : ChainWalk P ops zs J F zs k W (o :: r) a := .inr (.inl ⟨by simpa using hk, rfl, ⟨z, hz, ha⟩, v, hg, h, c⟩)
theorem chain_skip (hk : (zs.contains k) = false) (hg : Region.wanted o (yielded ops a.tmps) = false)
    (c : ChainWalk P ops zs J F rest (k + 1) W r (a.put o.dst undef)) : ChainWalk P ops zs J F rest k W (o :: r) a := .inr (.inr (.inl ⟨by simpa using hk, hg, c⟩))
theorem chain_turn (he : zs.length - (rest.length + 1) < J → Ext W W1) (hg : Region.wanted o (yielded ops a.tmps) = true) (h : (execOp a.eval o).run P W = .ok (.value v) W1)
    (c : ChainWalk P ops zs J F rest (k + 1) W1 r (a.put o.dst v)) : ChainWalk P ops zs J F (k :: rest) k W (o :: r) a := .inr (.inr (.inr ⟨_, v, W1, rfl, he, hg, .inl h, c⟩))
theorem chain_do (he : zs.length - (rest.length + 1) < J → Ext W W1) (hg : Region.wanted o (yielded ops a.tmps) = true) (h : (execOp a.eval o).run P W = .ok .skip W1)
    (c : ChainWalk P ops zs J F rest (k + 1) W1 r (a.put o.dst undef)) : ChainWalk P ops zs J F (k :: rest) k W (o :: r) a := .inr (.inr (.inr ⟨_, undef, W1, rfl, he, hg, .inr ⟨h, rfl⟩, c⟩))
theorem chain_end (c : F a W) : ChainWalk P ops zs J F [] k W [] a := ⟨rfl, c⟩

/-- How many of the chain have come up. -/
def cnt (zs : List Nat) (L : Array Bool) : Nat := (zs.filter (fun z => L.getD z false)).length
theorem cnt_prefix {L : Array Bool} : ∀ (pre suf : List Nat), (∀ z ∈ pre, L.getD z false = true) → (∀ z ∈ suf, L.getD z false = false) → cnt (pre ++ suf) L = pre.length
  | [], suf, _, h => by
    unfold cnt
    rw [List.nil_append, List.filter_eq_nil_iff.2 (fun z hz => by rw [h z hz]; simp)]
  | z :: pre, suf, h, h' => by
    have := cnt_prefix pre suf (fun y hy => h y (List.mem_cons_of_mem _ hy)) h'
    unfold cnt at *
    rw [List.cons_append, List.filter_cons, if_pos (h z (List.mem_cons_self ..)), List.length_cons, this]; simp

/-- What each entry does, in the chain's worlds. -/
def Does (P : Program) (ops : Array Oper) (zs : List Nat) (J : Nat) (ws : Nat → World) (x : Ent) (a : Act) : Prop :=
  (x.i ∉ zs ∧ Region.wanted x.o (yielded ops a.tmps) = true ∧ ∀ w', (execOp a.eval x.o).run P w' = .ok (.value x.v) w') ∨
  (x.i ∉ zs ∧ (∃ z, zs[J]? = some z ∧ anc ops z x.i = true) ∧ Region.wanted x.o (yielded ops a.tmps) = true ∧ ∀ m d, (execOp a.eval x.o).run P ((ws 0).ext m d) = .ok (.value x.v) ((ws 0).ext m d)) ∨
  (x.i ∉ zs ∧ Region.wanted x.o (yielded ops a.tmps) = false ∧ x.v = undef) ∨
  (∃ pre suf, zs = pre ++ x.i :: suf ∧ Region.wanted x.o (yielded ops a.tmps) = true ∧ ((execOp a.eval x.o).run P (ws pre.length) = .ok (.value x.v) (ws (pre.length + 1)) ∨ ((execOp a.eval x.o).run P (ws pre.length) = .ok .skip (ws (pre.length + 1)) ∧ x.v = undef)))
def DoesAll (P : Program) (ops : Array Oper) (zs : List Nat) (J : Nat) (ws : Nat → World) : List Ent → Act → Prop
  | [], _ => True
  | x :: r, a => Does P ops zs J ws x a ∧ DoesAll P ops zs J ws r (a.put x.o.dst x.v)

theorem chain_list : ∀ (os : List Oper) (k : Nat) (pre rest : List Nat) (w w0 : World) (old : Nat → World) (a : Act), zs = pre ++ rest → old 0 = w0 → old pre.length = w → (∀ i, i < pre.length → i < J → Ext (old i) (old (i + 1))) → ChainWalk P ops zs J F rest k w os a →
    ∃ (l : List Ent) (ws : Nat → World), l.map (·.i) = List.range' k os.length ∧ l.map (·.o) = os ∧ (∀ i, i ≤ pre.length → ws i = old i) ∧ (∀ i, i < zs.length → i < J → Ext (ws i) (ws (i + 1))) ∧ DoesAll P ops zs J ws l a ∧ F (puts l a) (ws zs.length)
  | [], k, pre, rest, w, w0, old, a, hz, h0, hw, hE, ⟨hr, hF⟩ => by
    subst hr
    rw [List.append_nil] at hz
    subst hz
    exact ⟨[], old, by simp, rfl, fun _ _ => rfl, hE, trivial, by rw [hw]; exact hF⟩
  | o :: r, k, pre, rest, w, w0, old, a, hz, h0, hw, hE, h => by
    rcases h with ⟨hk, v, hg, hv, h⟩ | ⟨hk, hrz, hanc, v, hg, hv, h⟩ | ⟨hk, hg, h⟩ | ⟨rest', v, w1, hr, he, hg, hv, h⟩
    · obtain ⟨l, ws, h1, h2, h3, h6, h4, h5⟩ := chain_list r (k + 1) pre rest w w0 old _ hz h0 hw hE h
      exact ⟨⟨k, o, v⟩ :: l, ws, by simp [h1, List.range'_succ], by simp [h2], h3, h6, ⟨.inl ⟨hk, hg, hv⟩, h4⟩, h5⟩
    · obtain ⟨l, ws, h1, h2, h3, h6, h4, h5⟩ := chain_list r (k + 1) pre rest w w0 old _ hz h0 hw hE h
      have hpre : pre = [] := by
        have := congrArg List.length hz
        rw [hrz] at this
        simp at this
        exact this
      subst hpre
      have e0 : ws 0 = w := by rw [h3 0 (Nat.le_refl _)]; exact hw
      exact ⟨⟨k, o, v⟩ :: l, ws, by simp [h1, List.range'_succ], by simp [h2], h3, h6, ⟨.inr (.inl ⟨hk, hanc, hg, by rw [e0]; exact hv⟩), h4⟩, h5⟩
    · obtain ⟨l, ws, h1, h2, h3, h6, h4, h5⟩ := chain_list r (k + 1) pre rest w w0 old _ hz h0 hw hE h
      exact ⟨⟨k, o, undef⟩ :: l, ws, by simp [h1, List.range'_succ], by simp [h2], h3, h6, ⟨.inr (.inr (.inl ⟨hk, hg, rfl⟩)), h4⟩, h5⟩
    · subst hr
      have hE' : ∀ i, i < (pre ++ [k]).length → i < J → Ext (if i = pre.length + 1 then w1 else old i) (if i + 1 = pre.length + 1 then w1 else old (i + 1)) := fun i hi hJ => by
        simp at hi
        rw [if_neg (by omega)]
        by_cases e : i = pre.length
        · subst e
          rw [if_pos rfl, hw]
          refine he ?_
          rw [hz]; simp; omega
        · rw [if_neg (by omega)]; exact hE i (by omega) hJ
      obtain ⟨l, ws, h1, h2, h3, h6, h4, h5⟩ := chain_list r (k + 1) (pre ++ [k]) rest' w1 w0 (fun i => if i = pre.length + 1 then w1 else old i) _ (by rw [hz]; simp) (by rw [if_neg (by omega)]; exact h0) (by simp) hE' h
      have e1 : ws pre.length = w := by rw [h3 _ (by simp), if_neg (by omega)]; exact hw
      have e2 : ws (pre.length + 1) = w1 := by rw [h3 _ (by simp), if_pos rfl]
      refine ⟨⟨k, o, v⟩ :: l, ws, by simp [h1, List.range'_succ], by simp [h2], fun i hi => by rw [h3 i (by simp; omega), if_neg (by omega)], h6, ⟨.inr (.inr (.inr ⟨pre, rest', hz, hg, ?_⟩)), h4⟩, h5⟩
      rw [e1, e2]; exact hv

/-- Each of the chain waits for all of it that stand ahead. -/
def chainOk (ops : Array Oper) (zs : List Nat) : Bool :=
  (List.range zs.length).all fun j => (List.range j).all fun i => match zs[j]?, zs[i]? with | some z, some y => anc ops z y && z != y && decide (z < ops.size) | _, _ => true

theorem getD_false_of {L : Array Bool} {i : Nat} (h : L.getD i true = false) : L.getD i false = false := by
  rcases Nat.lt_or_ge i L.size with h' | h'
  · simp [h'] at h ⊢; exact h
  · simp [Array.getElem?_eq_none h']

theorem gives_of_does {ws : Nat → World} (hc : chainOk ops zs = true) (hext : ∀ i, i ≤ J → i ≤ zs.length → Ext (ws 0) (ws i)) {x : Ent} {a : Act} (h : Does P ops zs J ws x a) :
    Gives P .any ops (fun L w => w = ws (cnt zs L)) x a := by
  have hanc : ∀ (p1 p2 p3 : List Nat) (y z : Nat), zs = p1 ++ y :: (p2 ++ z :: p3) → anc ops z y = true ∧ z ≠ y := fun p1 p2 p3 y z hz => by
    simp only [chainOk, List.all_eq_true, List.mem_range] at hc
    have := hc (p1.length + 1 + p2.length) (by rw [hz]; simp; omega) p1.length (by omega)
    have e1 : zs[p1.length + 1 + p2.length]? = some z := by
      rw [hz, List.getElem?_append_right (by omega)]
      rw [show p1.length + 1 + p2.length - p1.length = p2.length + 1 by omega, List.getElem?_cons_succ, List.getElem?_append_right (by omega)]
      simp
    have e2 : zs[p1.length]? = some y := by rw [hz, List.getElem?_append_right (by omega)]; simp
    rw [e1, e2] at this
    simp only [Bool.and_eq_true, bne_iff_ne, decide_eq_true_eq] at this
    exact ⟨this.1.1, this.1.2⟩
  -- what is waited for by one that has come up has come up
  have hup : ∀ (L : Array Bool) (z y : Nat), Down .any ops L → L.getD z false = true → anc ops z y = true → L.getD y false = true := fun L z y hd hz ha =>
    below_listed hd z _ (hd z hz) y (by simpa [anc] using ha)
  have hupNow : ∀ (L : Array Bool) (z y : Nat), Now .any ops z L → anc ops z y = true → L.getD y false = true := fun L z y hn ha =>
    below_listed hn.2.2.2 z _ hn.2.2.1 y (by simpa [anc] using ha)
  rcases h with ⟨hx, hg, hv⟩ | ⟨hx, ⟨z, hz, ha⟩, hg, hv⟩ | ⟨hx, hg, hu⟩ | ⟨pre, suf, hzs, hg, hv⟩
  · refine .inl ⟨hg, fun L w hL hS => ?_⟩
    rw [hv w]
    refine ⟨rfl, ?_⟩
    show w = ws (cnt zs (L.setIfInBounds x.i true))
    have : cnt zs (L.setIfInBounds x.i true) = cnt zs L := by
      unfold cnt; congr 1
      apply List.filter_congr
      intro y hy
      rw [getD_set_ne false (fun e => hx (by rw [e]; exact hy))]
    rw [this]; exact hS
  · refine .inl ⟨hg, fun L w hL hS => ?_⟩
    have hJ : J < zs.length := by
      rcases Nat.lt_or_ge J zs.length with h' | h'
      · exact h'
      · rw [List.getElem?_eq_none h'] at hz; cases hz
    have hsplit : zs = zs.take J ++ z :: zs.drop (J + 1) := by
      have h0 : zs[J] = z := (List.getElem?_eq_some_iff.1 hz).2
      conv => lhs; rw [← List.take_append_drop J zs]
      rw [List.drop_eq_getElem_cons hJ, h0]
    have hzl : L.getD z false = false := by
      cases hc' : L.getD z false with
      | false => rfl
      | true =>
        exfalso
        have h1 := hup L z x.i hL.2.2.2 hc' ha
        rw [getD_false_of hL.2.1] at h1; cases h1
    have hle : cnt zs L ≤ J := by
      unfold cnt
      have hnil : (z :: zs.drop (J + 1)).filter (fun z => L.getD z false) = [] := List.filter_eq_nil_iff.2 ?_
      · rw [hsplit, List.filter_append, List.length_append, hnil]
        have := List.length_filter_le (fun z => L.getD z false) (zs.take J)
        simp at this ⊢
        omega
      · intro y hy
        rcases List.mem_cons.1 hy with rfl | hy
        · rw [hzl]; simp
        · obtain ⟨s1, s2, hs⟩ := List.append_of_mem hy
          have h1 := hanc (zs.take J) s1 s2 z y (by rw [← hs]; exact hsplit)
          cases hc' : L.getD y false with
          | false => simp
          | true =>
            exfalso
            have h2 := hup L y z hL.2.2.2 hc' h1.1
            rw [hzl] at h2; cases h2
    have hS' : w = ws (cnt zs L) := hS
    obtain ⟨m, d, hw⟩ := hext (cnt zs L) hle (by unfold cnt; exact List.length_filter_le _ _)
    rw [← hS'] at hw
    rw [hw, hv m d]
    refine ⟨rfl, ?_⟩
    show (ws 0).ext m d = ws (cnt zs (L.setIfInBounds x.i true))
    have : cnt zs (L.setIfInBounds x.i true) = cnt zs L := by
      unfold cnt; congr 1
      apply List.filter_congr
      intro y hy
      rw [getD_set_ne false (fun e => hx (by rw [e]; exact hy))]
    rw [this, ← hw]; exact hS'
  · refine .inr ⟨hg, hu, fun L w hL hS => ?_⟩
    show w = ws (cnt zs (L.setIfInBounds x.i true))
    have : cnt zs (L.setIfInBounds x.i true) = cnt zs L := by
      unfold cnt; congr 1
      apply List.filter_congr
      intro y hy
      rw [getD_set_ne false (fun e => hx (by rw [e]; exact hy))]
    rw [this]; exact hS
  · refine .inl ⟨hg, fun L w hL hS => ?_⟩
    have hpre : ∀ y ∈ pre, L.getD y false = true ∧ x.i ≠ y := fun y hy => by
      obtain ⟨s1, s2, rfl⟩ := List.append_of_mem hy
      have := hanc s1 s2 suf y x.i (by rw [hzs]; simp)
      exact ⟨hupNow L x.i y hL this.1, this.2⟩
    have hsuf : ∀ y ∈ suf, L.getD y false = false ∧ y ≠ x.i := fun y hy => by
      obtain ⟨s1, s2, rfl⟩ := List.append_of_mem hy
      have := hanc pre s1 s2 x.i y hzs
      refine ⟨?_, this.2⟩
      cases hc' : L.getD y false with
      | false => rfl
      | true =>
        exfalso
        have h1 := hup L y x.i hL.2.2.2 hc' this.1
        rw [getD_false_of hL.2.1] at h1; cases h1
    have hc1 : cnt zs L = pre.length := by
      rw [hzs]
      exact cnt_prefix pre (x.i :: suf) (fun y hy => (hpre y hy).1) (fun y hy => by
        rcases List.mem_cons.1 hy with rfl | hy
        · exact getD_false_of hL.2.1
        · exact (hsuf y hy).1)
    have hlt : x.i < L.size := by
      have h2 := hL.2.1
      rcases Nat.lt_or_ge x.i L.size with h' | h'
      · exact h'
      · simp [Array.getElem?_eq_none h'] at h2
    have hc2 : cnt zs (L.setIfInBounds x.i true) = pre.length + 1 := by
      rw [hzs, show pre ++ x.i :: suf = (pre ++ [x.i]) ++ suf by simp]
      rw [cnt_prefix (pre ++ [x.i]) suf ?_ ?_]
      · simp
      · intro y hy
        rcases List.mem_append.1 hy with h' | h'
        · exact getD_set_true (hpre y h').1
        · simp at h'; subst h'; simp [hlt]
      · intro y hy
        rw [getD_set_ne false (fun e => (hsuf y hy).2 e.symm)]; exact (hsuf y hy).1
    have hS' : w = ws (cnt zs L) := hS
    rw [hc1] at hS'
    subst hS'
    rcases hv with hv | ⟨hv, hu⟩
    · rw [hv]; exact ⟨rfl, congrArg ws hc2.symm⟩
    · rw [hv]; exact ⟨hu.symm, congrArg ws hc2.symm⟩

theorem wp_region_chained {id : Nat} (zs : List Nat) (J : Nat) (hm : P.follows .mixedOrders = true) (hok : textOk .any ops = true) (hc : chainOk ops zs = true) (hin : zs.all (fun z => decide (z < ops.size)) = true)
    (h : ∀ F : Act → World → Prop, (∀ a' w', Q .normal a' w' → F a' w') → ChainWalk P ops zs J F zs 0 W.drew ops.toList a) : (Code.region id ops true).wp P Q a W := by
  obtain ⟨l, ws, h1, h2, h3, h6, h4, h5⟩ := chain_list ops.toList 0 [] zs W.drew W.drew (fun _ => W.drew) a rfl rfl rfl (fun i hi _ => by simp at hi) (h (fun a' w' => Q .normal a' w') (fun _ _ h => h))
  have hext : ∀ i, i ≤ J → i ≤ zs.length → Ext (ws 0) (ws i) := by
    intro i
    induction i with
    | zero => intro _ _; exact Ext.refl _
    | succ i ih =>
      intro h1 h2
      obtain ⟨m, d, e⟩ := h6 i (by simp; omega) (by omega)
      rw [e]; exact (ih (by omega) (by omega)).ext m d
  have hch : ∀ (l : List Ent) (a : Act), DoesAll P ops zs J ws l a → Chain P .any ops (fun L w => w = ws (cnt zs L)) l a := by
    intro l
    induction l with
    | nil => intro a _; trivial
    | cons x r ih => intro a ⟨g1, g2⟩; exact ⟨gives_of_does hc hext g1, ih _ g2⟩
  have hz0 : cnt zs (Array.replicate ops.size false) = 0 := by
    have := cnt_prefix (L := Array.replicate ops.size false) [] zs (by simp) (fun y hy => by
      rcases Nat.lt_or_ge y ops.size with h' | h'
      · simp [h']
      · simp [h'])
    simpa using this
  refine wp_region_chain (S := fun L w => w = ws (cnt zs L)) hm hok ?_ l (by simpa using h1) h2 (hch l a h4) ?_
  · show W.drew = ws (cnt zs (Array.replicate ops.size false))
    rw [hz0, h3 0 (Nat.le_refl _)]
  · intro L w' hsz hall hS
    have : cnt zs L = zs.length := by
      have := cnt_prefix (L := L) zs [] (fun y hy => hall y (by
        have := List.all_eq_true.1 hin y hy
        simpa using this)) (by simp)
      simpa using this
    have hS' : w' = ws (cnt zs L) := hS
    rw [this] at hS'
    subst hS'
    exact h5
theorem chain_gen {W : World} (h : ∀ V, V = W → ChainWalk P ops zs J F rest k V (o :: r) a) : ChainWalk P ops zs J F rest k W (o :: r) a := h W rfl
/-- append as an operation, by what the builtin does. -/
theorem run_append_op {w w' : World} {v' : Value} (a : Act) (dst : Option Tmp) (s x : Operand) (t ty : TypeId) (pos : String) (after : Array Edge) (guard : Option (Nat × Bool))
    (h : (Builtin.append_ #[t, t] ty #[a.eval s, a.eval x]).run P w = .ok v' w') :
    (execOp a.eval { dst, op := .call { callee := .builtin .append, args := #[s, x], argTypes := #[t, t] }, type := ty, pos, after, guard }).run P w = .ok (.value v') w' := by
  simp [execOp, resolve, invoke, builtin, h, Result.andThen]
end
end Go
