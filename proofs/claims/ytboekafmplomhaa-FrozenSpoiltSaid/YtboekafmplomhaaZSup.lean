/-
  A region that draws its order, whose head makes blocks of its own beside pure calls: walked once, in the order of the text; where the blocks lie is told at its end alone.
-/
import Derived.Test.YtboekafmplomhaaZV
import Derived.Test.YtboekafmplomhaaZDoC
import Derived.Laws.MakeOwn
import Derived.Laws.Rows
import Derived.Deep.WholeRow
import Derived.Test.YtboekafmplomhaaZQuantL
import Derived.Test.YtboekafmplomhaaZAny
import Derived.Test.YtboekafmplomhaaZLund
set_option linter.unusedVariables false
set_option linter.unusedSimpArgs false
namespace Go
open Go.RowKit

section
variable {P : Program} {ops : Array Oper} {Q : Exit → Act → World → Prop} {W : World} {F : Act → Prop} {o : Oper} {r : List Oper} {a : Act} {v : Value} {G : Nat → Value → World → Prop}

/-- An operation; 'made': it makes a block, and what it gives hangs on when it comes up. -/
structure EntM where
  i : Nat
  o : Oper
  v : Value
  made : Bool

/-- In every world behind W the operation gives v, and makes no more than memory. -/
def G2 (P : Program) (W : World) (o : Oper) (v : Value) (a : Act) : Prop :=
  ∀ m d, match (execOp a.eval o).run P (W.ext m d) with
    | .ok (.value u) w' => u = v ∧ Ext (W.ext m d) w'
    | .ok .skip w' => undef = v ∧ Ext (W.ext m d) w'
    | .ok (.enter f args) w' => Calls P f args w' (fun e w'' => e = .returned v ∧ Ext (W.ext m d) w'')
    | _ => False
/-- The block that a value leads to. -/
def blkOf : Value → Nat
  | .pointer (some a) => a.block
  | .slice (some a) _ _ => a.block
  | .map (some b) => b
  | _ => 0
/-- It makes a block, of which G speaks. -/
def GK (P : Program) (W : World) (G : Nat → Value → World → Prop) (i : Nat) (o : Oper) (a : Act) : Prop :=
  ∀ m d, ∃ u w', (execOp a.eval o).run P (W.ext m d) = .ok (.value u) w' ∧ Ext (W.ext m d) w' ∧ G i u w' ∧ (W.ext m d).heap.size ≤ blkOf u ∧ blkOf u < w'.heap.size
def GivesM (P : Program) (ops : Array Oper) (W : World) (G : Nat → Value → World → Prop) (x : EntM) (a : Act) : Prop :=
  (x.made = true ∧ Region.wanted x.o (yielded ops a.tmps) = true ∧ GK P W G x.i x.o a) ∨
  (x.made = false ∧ ((Region.wanted x.o (yielded ops a.tmps) = true ∧ G2 P W x.o x.v a) ∨ (Region.wanted x.o (yielded ops a.tmps) = false ∧ x.v = undef)))
theorem GivesM.of_same {x : EntM} {a a' : Act} (h : GivesM P ops W G x a) (he : execOp a'.eval x.o = execOp a.eval x.o)
    (hw : Region.wanted x.o (yielded ops a'.tmps) = Region.wanted x.o (yielded ops a.tmps)) : GivesM P ops W G x a' := by
  unfold GivesM GK G2 at *; rw [he, hw]; exact h
def putM (x : EntM) (a : Act) : Act := if x.made then a else a.put x.o.dst x.v
def ChainM (P : Program) (ops : Array Oper) (W : World) (G : Nat → Value → World → Prop) : List EntM → Act → Prop
  | [], _ => True
  | x :: r, a => GivesM P ops W G x a ∧ ChainM P ops W G r (putM x a)
/-- All is put, the blocks that were made among it. -/
def putsM (us : Nat → Value) : List EntM → Act → Act
  | [], a => a
  | x :: r, a => putsM us r (a.put x.o.dst (if x.made then us x.i else x.v))

theorem execOp_putM (hsel : ∀ (j : Nat) (o : Oper) cs b, ops[j]? = some o → o.op ≠ .select cs b) {x y : EntM} (hx : ops[x.i]? = some x.o) (a : Act) (ap : ∀ u, execOp (a.put y.o.dst u).eval x.o = execOp a.eval x.o) : execOp (putM y a).eval x.o = execOp a.eval x.o := by
  unfold putM; split
  · rfl
  · exact ap _
theorem putM_comm {x y : EntM} (h : ∀ (a : Act) u v, (a.put x.o.dst u).put y.o.dst v = (a.put y.o.dst v).put x.o.dst u) (a : Act) : putM y (putM x a) = putM x (putM y a) := by
  unfold putM
  by_cases h1 : x.made = true <;> by_cases h2 : y.made = true <;> simp [h1, h2]
  exact h a _ _

/-- Two that are apart: neither reads what the other one gives. -/
structure Far (ops : Array Oper) (x y : EntM) : Prop where
  comm : ∀ (a : Act) u v, (a.put x.o.dst u).put y.o.dst v = (a.put y.o.dst v).put x.o.dst u
  ex : ∀ (a : Act) u, execOp (a.put y.o.dst u).eval x.o = execOp a.eval x.o
  wx : ∀ (a : Act) u, Region.wanted x.o (yielded ops (a.put y.o.dst u).tmps) = Region.wanted x.o (yielded ops a.tmps)
  ey : ∀ (a : Act) u, execOp (a.put x.o.dst u).eval y.o = execOp a.eval y.o
  wy : ∀ (a : Act) u, Region.wanted y.o (yielded ops (a.put x.o.dst u).tmps) = Region.wanted y.o (yielded ops a.tmps)
theorem far_of (hsel : ∀ (j : Nat) (o : Oper) cs b, ops[j]? = some o → o.op ≠ .select cs b) {x y : EntM} (hx : ops[x.i]? = some x.o) (hy : ops[y.i]? = some y.o) (hap : x.o.apart ops y.o = true) : Far ops x y := by
  obtain ⟨ap1, ap2, ap3⟩ := Oper.apart_spec hap
  exact ⟨fun a u v => Act.put_comm a _ _ ap2, fun a u => execOp_put x.o (fun cs b => hsel x.i x.o cs b hx) a y.o.dst u ap3, fun a u => wanted_put x.o a y.o.dst u ap3,
    fun a u => execOp_put y.o (fun cs b => hsel y.i y.o cs b hy) a x.o.dst u ap1, fun a u => wanted_put y.o a x.o.dst u ap1⟩
theorem Far.symm {x y : EntM} (h : Far ops x y) : Far ops y x := ⟨fun a u v => (h.comm a v u).symm, h.ey, h.wy, h.ex, h.wx⟩
theorem Far.gives {x y : EntM} (h : Far ops x y) {a : Act} (u : Value) : GivesM P ops W G x (a.put y.o.dst u) ↔ GivesM P ops W G x a :=
  ⟨fun g => g.of_same (h.ex a u).symm (h.wx a u).symm, fun g => g.of_same (h.ex a u) (h.wx a u)⟩
theorem Far.givesM {x y : EntM} (h : Far ops x y) {a : Act} : GivesM P ops W G x (putM y a) ↔ GivesM P ops W G x a := by
  unfold putM; split
  · exact Iff.rfl
  · exact h.gives _

theorem chainM_front (x : EntM) (l2 : List EntM) : ∀ (l1 : List EntM) (a : Act), (∀ y ∈ l1, Far ops y x) → ChainM P ops W G (l1 ++ x :: l2) a → ChainM P ops W G (x :: (l1 ++ l2)) a
  | [], a, _, h => h
  | y :: l1, a, hy, ⟨h0, h1⟩ => by
    obtain ⟨h2, h3⟩ := chainM_front x l2 l1 _ (fun z hz => hy z (List.mem_cons_of_mem _ hz)) h1
    have hf := hy y (List.mem_cons_self ..)
    refine ⟨hf.symm.givesM.1 h2, hf.givesM.2 h0, ?_⟩
    rw [← putM_comm hf.comm]; exact h3
theorem putsM_front (us : Nat → Value) (x : EntM) (l2 : List EntM) : ∀ (l1 : List EntM) (a : Act), (∀ y ∈ l1, Far ops y x) → putsM us (l1 ++ x :: l2) a = putsM us (x :: (l1 ++ l2)) a
  | [], a, _ => rfl
  | y :: l1, a, hy => by
    have hf := hy y (List.mem_cons_self ..)
    simp only [List.cons_append, putsM]
    rw [putsM_front us x l2 l1 _ (fun z hz => hy z (List.mem_cons_of_mem _ hz))]
    simp only [putsM]
    rw [hf.comm]
/-- What nothing reads may be put ahead. -/
theorem chainM_put (x : EntM) (u : Value) : ∀ (l : List EntM) (a : Act), (∀ y ∈ l, Far ops y x) → ChainM P ops W G l a → ChainM P ops W G l (a.put x.o.dst u)
  | [], _, _, _ => trivial
  | y :: r, a, hy, ⟨h0, h1⟩ => by
    have hf := hy y (List.mem_cons_self ..)
    refine ⟨(hf.gives u).2 h0, ?_⟩
    have := chainM_put x u r _ (fun z hz => hy z (List.mem_cons_of_mem _ hz)) h1
    have e : putM y (a.put x.o.dst u) = (putM y a).put x.o.dst u := by
      unfold putM; split
      · rfl
      · exact (hf.comm a _ _).symm
    rw [e]; exact this
theorem putsM_congr (us us' : Nat → Value) : ∀ (l : List EntM) (a : Act), (∀ x ∈ l, x.made = true → us x.i = us' x.i) → putsM us l a = putsM us' l a
  | [], _, _ => rfl
  | x :: r, a, h => by
    simp only [putsM]
    rw [putsM_congr us us' r _ (fun y hy => h y (List.mem_cons_of_mem _ hy))]
    congr 2
    by_cases e : x.made = true
    · simp only [e, if_true]; exact h x (List.mem_cons_self ..) e
    · simp [e]

def setsM : List EntM → Array Bool → Array Bool
  | [], l => l
  | x :: r, l => setsM r (l.setIfInBounds x.i true)
theorem setsM_front (x : EntM) (l2 : List EntM) : ∀ (l1 : List EntM) (b : Array Bool), (∀ y ∈ l1, y.i ≠ x.i) → setsM (l1 ++ x :: l2) b = setsM (l1 ++ l2) (b.setIfInBounds x.i true)
  | [], _, _ => rfl
  | y :: r, b, h => by
    simp only [List.cons_append, setsM]
    rw [setsM_front x l2 r _ (fun z hz => h z (List.mem_cons_of_mem _ hz)), Array.setIfInBounds_comm _ _ (h y (List.mem_cons_self ..))]
theorem setsM_size : ∀ (l : List EntM) (b : Array Bool), (setsM l b).size = b.size
  | [], _ => rfl
  | x :: r, b => by simp only [setsM]; rw [setsM_size r]; simp
theorem getD_setsM : ∀ (l : List EntM) (b : Array Bool) (j : Nat) (d : Bool), j < b.size → (setsM l b).getD j d = if j ∈ l.map (·.i) then true else b.getD j d
  | [], b, j, d, h => by simp [setsM]
  | x :: r, b, j, d, h => by
    simp only [setsM]
    rw [getD_setsM r _ j d (by simpa using h)]
    by_cases hj : j ∈ r.map (·.i)
    · rw [if_pos hj, if_pos (by simp only [List.map_cons]; exact List.mem_cons_of_mem _ hj)]
    · rw [if_neg hj]
      by_cases hx : x.i = j
      · subst hx; rw [if_pos (by simp)]; simp [h]
      · rw [if_neg (by simp only [List.map_cons, List.mem_cons, not_or]; exact ⟨fun e => hx e.symm, hj⟩)]
        exact getD_set_ne d hx

theorem any_of_chainM {md : Region.Mode} (hsel : ∀ (j : Nat) (o : Oper) cs b, ops[j]? = some o → o.op ≠ .select cs b) (n0 g : Nat) (ht : tailOk md ops n0 = true) (hG : ∀ z v w m d, G z v w → G z v (w.ext m d)) :
    ∀ (n : Nat) (l : List EntM) (listed : Array Bool) (a : Act) (H : World → Prop) (N : Nat), l.length = n → listed.size = ops.size →
      (∀ x ∈ l, ops[x.i]? = some x.o ∧ listed.getD x.i true = false) → l.Pairwise (fun x y => x.i ≠ y.i) →
      (∀ j, j < n0 → listed.getD j true = false → ∃ x ∈ l, x.i = j) → (∀ x ∈ l, x.i < n0) →
      l.Pairwise (fun x y => (x.made = false ∧ y.made = false ∧ x.i ∈ deps md ops y.i) ∨ Far ops x y) →
      (∀ l1 x l2, l = l1 ++ x :: l2 → ∀ k ∈ deps md ops x.i, listed.getD k false = true ∨ ∃ y ∈ l1, y.i = k) →
      Down md ops listed → (∀ w m d, H w → H (w.ext m d)) →
      ChainM P ops W G l a → (∀ us w, Ext W w → H w → (∀ x ∈ l, x.made = true → G x.i (us x.i) w ∧ N ≤ blkOf (us x.i)) → (∀ x ∈ l, ∀ y ∈ l, x.made = true → y.made = true → x.i ≠ y.i → blkOf (us x.i) ≠ blkOf (us y.i)) → wpAny P md ops Q g (setsM l listed) (putsM us l a) w) →
      ∀ w, Ext W w → H w → N ≤ w.heap.size → wpAny P md ops Q (n + g) listed a w := by
  intro n
  induction n with
  | zero =>
    intro l listed a H N hl hsz _ _ hall _ _ _ _ _ _ hQ w hE hH hN
    obtain rfl := List.length_eq_zero_iff.1 hl
    rw [Nat.zero_add]
    exact hQ (fun _ => undef) w hE hH (fun x hx => by cases hx) (fun x hx => by cases hx)
  | succ n ih =>
    intro l listed a H N hl hsz hent hnd hall hbig hpair hord hdown hHe hch hQ w hE hH hN
    have hne : l ≠ [] := fun e => by simp [e] at hl
    rw [show n + 1 + g = (n + g) + 1 by omega]
    refine ⟨fun h => ?_, fun j hj => ?_⟩
    · cases l with
      | nil => exact absurd rfl hne
      | cons x r =>
        have hx := hent x (List.mem_cons_self ..)
        have : x.i ∈ Region.ready md ops listed := (ready_of hx.1).2 ⟨hx.2, fun k hk => by
          rcases hord [] x r rfl k hk with h' | ⟨y, hy, _⟩
          · exact h'
          · cases hy⟩
        rw [h] at this; cases this
    · have hjun := (mem_ready.1 hj).1
      have hjn : j < n0 := by
        rcases Nat.lt_or_ge j n0 with h | h
        · exact h
        · exfalso
          cases l with
          | nil => exact hne rfl
          | cons x r =>
            have h1 := tail_unready ht hdown hj h x.i (hbig x (List.mem_cons_self ..))
            have h2 := (hent x (List.mem_cons_self ..)).2
            rcases Nat.lt_or_ge x.i listed.size with h' | h'
            · simp [h'] at h1 h2; rw [h2] at h1; cases h1
            · simp [Array.getElem?_eq_none h'] at h1
      obtain ⟨x, hx, rfl⟩ := hall j hjn hjun
      obtain ⟨l1, l2, rfl⟩ := List.append_of_mem hx
      have hxo := (hent x hx).1
      have hxd := ((ready_of hxo).1 hj).2
      have hap : ∀ y ∈ l1, Far ops y x := fun y hy => by
        have := (List.pairwise_append.1 hpair).2.2 y hy x (by simp)
        rcases this with ⟨_, _, h⟩ | h
        · have h1 := hxd _ h
          have h2 := (hent y (by simp [hy])).2
          exfalso
          rcases Nat.lt_or_ge y.i listed.size with h' | h'
          · simp [h'] at h1 h2; rw [h2] at h1; cases h1
          · simp [Array.getElem?_eq_none h'] at h1
        · exact h
      have hap2 : x.made = true → ∀ y ∈ l1 ++ l2, Far ops y x := fun hmk y hy => by
        rcases List.mem_append.1 hy with h | h
        · exact hap y h
        · rcases (List.pairwise_cons.1 (List.pairwise_append.1 hpair).2.1).1 y h with ⟨h', _⟩ | h'
          · rw [hmk] at h'; cases h'
          · exact h'.symm
      obtain ⟨hg, hch'⟩ := chainM_front x l2 l1 a hap hch
      have hne' : ∀ y ∈ l1 ++ l2, y.i ≠ x.i := fun y hy => by
        rcases List.mem_append.1 hy with h | h
        · exact (List.pairwise_append.1 hnd).2.2 y h x (by simp)
        · exact fun e => (List.pairwise_cons.1 (List.pairwise_append.1 hnd).2.1).1 y h e.symm
      have hsub : (l1 ++ l2).Sublist (l1 ++ x :: l2) := (List.sublist_cons_self x l2).append_left l1
      have hsets := setsM_front x l2 l1 listed (fun y hy => hne' y (List.mem_append_left _ hy))
      have step : ∀ (u : Value) (H' : World → Prop) (N' : Nat), (∀ w m d, H' w → H' (w.ext m d)) → ChainM P ops W G (l1 ++ l2) (a.put x.o.dst u) →
          (∀ us w, Ext W w → H' w → (∀ y ∈ l1 ++ l2, y.made = true → G y.i (us y.i) w ∧ N' ≤ blkOf (us y.i)) → (∀ y ∈ l1 ++ l2, ∀ z ∈ l1 ++ l2, y.made = true → z.made = true → y.i ≠ z.i → blkOf (us y.i) ≠ blkOf (us z.i)) → wpAny P md ops Q g (setsM (l1 ++ l2) (listed.setIfInBounds x.i true)) (putsM us (l1 ++ l2) (a.put x.o.dst u)) w) →
          ∀ w, Ext W w → H' w → N' ≤ w.heap.size → wpAny P md ops Q (n + g) (listed.setIfInBounds x.i true) (a.put x.o.dst u) w := by
        intro u H' N' hH' hcM hq
        refine ih (l1 ++ l2) (listed.setIfInBounds x.i true) (a.put x.o.dst u) H' N' (by simp at hl ⊢; omega) (by simpa using hsz) ?_ (hnd.sublist hsub) ?_ ?_ (hpair.sublist hsub) ?_ ?_ hH' hcM hq
        · intro y hy
          obtain ⟨h1, h2⟩ := hent y (hsub.subset hy)
          exact ⟨h1, by rw [getD_set_ne true (Ne.symm (hne' y hy))]; exact h2⟩
        · intro k hkn hk
          obtain ⟨hkx, hk'⟩ := getD_set_self hk
          obtain ⟨y, hy, rfl⟩ := hall k hkn hk'
          refine ⟨y, ?_, rfl⟩
          rcases List.mem_append.1 hy with h | h
          · exact List.mem_append_left _ h
          · rcases List.mem_cons.1 h with rfl | h
            · exact absurd rfl hkx
            · exact List.mem_append_right _ h
        · intro y hy; exact hbig y (hsub.subset hy)
        · intro m1 y m2 hm k hk
          have key : listed.getD k false = true ∨ (∃ z ∈ m1, z.i = k) ∨ x.i = k := by
            rcases List.append_eq_append_iff.1 hm with ⟨c, rfl, hc⟩ | ⟨c, rfl, hc⟩
            · rcases hord (l1 ++ x :: c) y m2 (by rw [hc]; simp) k hk with h | ⟨z, hz, rfl⟩
              · exact .inl h
              · simp only [List.mem_append, List.mem_cons] at hz
                rcases hz with h | rfl | h
                · exact .inr (.inl ⟨z, by simp [h], rfl⟩)
                · exact .inr (.inr rfl)
                · exact .inr (.inl ⟨z, by simp [h], rfl⟩)
            · cases c with
              | nil =>
                simp only [List.nil_append] at hc
                simp only [List.append_nil] at hord
                rcases hord (m1 ++ [x]) y m2 (by rw [← hc]; simp) k hk with h | ⟨z, hz, rfl⟩
                · exact .inl h
                · simp only [List.mem_append, List.mem_singleton] at hz
                  rcases hz with h | rfl
                  · exact .inr (.inl ⟨z, h, rfl⟩)
                  · exact .inr (.inr rfl)
              | cons c0 c =>
                simp only [List.cons_append, List.cons.injEq] at hc
                obtain ⟨rfl, hc⟩ := hc
                rcases hord m1 y (c ++ x :: l2) (by simp) k hk with h | ⟨z, hz, rfl⟩
                · exact .inl h
                · exact .inr (.inl ⟨z, hz, rfl⟩)
          rcases key with h | h | rfl
          · exact .inl (getD_set_true h)
          · exact .inr h
          · refine .inl ?_
            have h2 := (hent x hx).2
            rcases Nat.lt_or_ge x.i listed.size with h' | h'
            · simp [h']
            · simp [Array.getElem?_eq_none h'] at h2
        · intro i hi k hk
          by_cases hix : i = x.i
          · subst hix; exact getD_set_true (hxd k hk)
          · rw [getD_set_ne false (Ne.symm hix)] at hi
            exact getD_set_true (hdown i hi k hk)
      unfold Go.wpOp
      simp only [hxo]
      obtain ⟨m, d, rfl⟩ := hE
      rcases hg with ⟨hmk, hw, hk⟩ | ⟨hmk, ⟨hw, hv⟩ | ⟨hw, hu⟩⟩
      · -- a block is made
        simp only [hw, if_true]
        refine .inl ?_
        obtain ⟨u, w', hrun, hE', hGu, hb1, hb2⟩ := hk m d
        unfold Oper.wp
        rw [hrun]
        simp only [Oper.upon]
        have hE2 : Ext W w' := by obtain ⟨m', d', rfl⟩ := hE'; exact ⟨_, _, World.ext_ext _ _ _ _ _⟩
        have hH2 : H w' := by obtain ⟨m', d', rfl⟩ := hE'; exact hHe _ _ _ hH
        have hpm : putM x a = a := by unfold putM; rw [if_pos hmk]
        rw [hpm] at hch'
        refine step u (fun w => H w ∧ G x.i u w) w'.heap.size (fun w m d h => ⟨hHe _ _ _ h.1, hG _ _ _ _ _ h.2⟩) (chainM_put x u _ _ (hap2 hmk) hch') ?_ w' hE2 ⟨hH2, hGu⟩ (Nat.le_refl _)
        intro us w1 hE1 ⟨hH1, hG1⟩ hGs hDs
        have split : ∀ y, y ∈ l1 ++ x :: l2 → y = x ∨ (y ∈ l1 ++ l2 ∧ y.i ≠ x.i) := fun y hy => by
          rcases List.mem_append.1 hy with h | h
          · exact .inr ⟨List.mem_append_left _ h, hne' y (List.mem_append_left _ h)⟩
          · rcases List.mem_cons.1 h with rfl | h
            · exact .inl rfl
            · exact .inr ⟨List.mem_append_right _ h, hne' y (List.mem_append_right _ h)⟩
        have := hQ (fun k => if k = x.i then u else us k) w1 hE1 hH1 (fun y hy hmy => by
          rcases split y hy with rfl | ⟨h, h'⟩
          · simp only [if_true]; exact ⟨hG1, Nat.le_trans hN hb1⟩
          · simp only [h', if_false]
            obtain ⟨q1, q2⟩ := hGs y h hmy
            exact ⟨q1, by omega⟩) (fun y hy z hz hmy hmz hyz => by
          rcases split y hy with rfl | ⟨h, h'⟩
          · rcases split z hz with rfl | ⟨k, k'⟩
            · exact absurd rfl hyz
            · simp only [if_true, k', if_false]
              have := (hGs z k hmz).2
              omega
          · rcases split z hz with rfl | ⟨k, k'⟩
            · simp only [if_true, h', if_false]
              have := (hGs y h hmy).2
              omega
            · simp only [h', k', if_false]
              exact hDs y h z k hmy hmz hyz)
        rw [hsets, putsM_front _ x l2 l1 a hap] at this
        simp only [putsM, hmk, if_true] at this
        rw [putsM_congr _ us (l1 ++ l2) _ (fun y hy _ => by simp [hne' y hy])] at this
        exact this
      · -- a fixed value
        simp only [hw, if_true]
        refine .inl ?_
        have hpm : putM x a = a.put x.o.dst x.v := by unfold putM; rw [if_neg (by rw [hmk]; simp)]
        rw [hpm] at hch'
        have fin : ∀ w', Ext (W.ext m d) w' → wpAny P md ops Q (n + g) (listed.setIfInBounds x.i true) (a.put x.o.dst x.v) w' := by
          rintro w' ⟨m', d', rfl⟩
          refine step x.v H N hHe hch' ?_ _ ⟨_, _, World.ext_ext _ _ _ _ _⟩ (hHe _ _ _ hH) (by simp at hN ⊢; omega)
          intro us w1 hE1 hH1 hGs hDs
          have mem : ∀ y, y ∈ l1 ++ x :: l2 → y.made = true → y ∈ l1 ++ l2 := fun y hy hmy => by
            rcases List.mem_append.1 hy with h | h
            · exact List.mem_append_left _ h
            · rcases List.mem_cons.1 h with rfl | h
              · rw [hmk] at hmy; cases hmy
              · exact List.mem_append_right _ h
          have := hQ us w1 hE1 hH1 (fun y hy hmy => hGs y (mem y hy hmy) hmy) (fun y hy z hz hmy hmz hyz => hDs y (mem y hy hmy) z (mem z hz hmz) hmy hmz hyz)
          rw [hsets, putsM_front _ x l2 l1 a hap] at this
          simp only [putsM, hmk, Bool.false_eq_true, if_false] at this
          exact this
        have := hv m d
        unfold Oper.wp
        generalize (execOp a.eval x.o).run P (W.ext m d) = q at *
        cases q with
        | halt y w' => exact this.elim
        | ok nx w' =>
          cases nx <;> simp only [Oper.upon] at this ⊢
          case value u => obtain ⟨rfl, h2⟩ := this; exact fin _ h2
          case skip => obtain ⟨h1, h2⟩ := this; rw [h1]; exact fin _ h2
          case enter f args =>
            refine Calls.mono this fun e w'' he => ?_
            obtain ⟨rfl, h2⟩ := he
            exact fin _ h2
      · simp only [hw, Bool.false_eq_true, if_false]
        have hpm : putM x a = a.put x.o.dst x.v := by unfold putM; rw [if_neg (by rw [hmk]; simp)]
        rw [hpm] at hch'
        rw [← hu]
        refine step x.v H N hHe hch' ?_ _ ⟨m, d, rfl⟩ hH hN
        intro us w1 hE1 hH1 hGs hDs
        have mem : ∀ y, y ∈ l1 ++ x :: l2 → y.made = true → y ∈ l1 ++ l2 := fun y hy hmy => by
          rcases List.mem_append.1 hy with h | h
          · exact List.mem_append_left _ h
          · rcases List.mem_cons.1 h with rfl | h
            · rw [hmk] at hmy; cases hmy
            · exact List.mem_append_right _ h
        have := hQ us w1 hE1 hH1 (fun y hy hmy => hGs y (mem y hy hmy) hmy) (fun y hy z hz hmy hmz hyz => hDs y (mem y hy hmy) z (mem z hz hmz) hmy hmz hyz)
        rw [hsets, putsM_front _ x l2 l1 a hap] at this
        simp only [putsM, hmk, Bool.false_eq_true, if_false] at this
        exact this

/-- The walk of the head in the text's order: 'zs' are the numbers that make blocks. -/
def TextM (P : Program) (ops : Array Oper) (W : World) (zs : List Nat) (G : Nat → Value → World → Prop) (F : Act → Prop) : Nat → List Oper → Act → Prop
  | _, [], a => F a
  | k, o :: r, a =>
    (zs.contains k = true ∧ Region.wanted o (yielded ops a.tmps) = true ∧ GK P W G k o a ∧ TextM P ops W zs G F (k + 1) r a) ∨
    (zs.contains k = false ∧ ∃ v, ((Region.wanted o (yielded ops a.tmps) = true ∧ G2 P W o v a) ∨ (Region.wanted o (yielded ops a.tmps) = false ∧ v = undef)) ∧ TextM P ops W zs G F (k + 1) r (a.put o.dst v))
theorem tm_val {zs : List Nat} {k : Nat} (hk : zs.contains k = false) (hg : Region.wanted o (yielded ops a.tmps) = true) (h : ∀ m d, (execOp a.eval o).run P (W.ext m d) = .ok (.value v) (W.ext m d))
    (c : TextM P ops W zs G F (k + 1) r (a.put o.dst v)) : TextM P ops W zs G F k (o :: r) a :=
  .inr ⟨hk, v, .inl ⟨hg, fun m d => by rw [h m d]; exact ⟨rfl, Ext.refl _⟩⟩, c⟩
theorem tm_call {zs : List Nat} {k : Nat} {f : FuncId} {args : Array Value} (hk : zs.contains k = false) (hg : Region.wanted o (yielded ops a.tmps) = true) (h : ∀ m d, (execOp a.eval o).run P (W.ext m d) = .ok (.enter f args) (W.ext m d))
    (hc : ∀ m d, Calls P f args (W.ext m d) (Pure v (W.ext m d))) (c : TextM P ops W zs G F (k + 1) r (a.put o.dst v)) : TextM P ops W zs G F k (o :: r) a :=
  .inr ⟨hk, v, .inl ⟨hg, fun m d => by rw [h m d]; exact (hc m d).mono fun e w' ⟨he, m', d', hw⟩ => ⟨he, m', d', hw⟩⟩, c⟩
theorem tm_skip {zs : List Nat} {k : Nat} (hk : zs.contains k = false) (hg : Region.wanted o (yielded ops a.tmps) = false) (c : TextM P ops W zs G F (k + 1) r (a.put o.dst undef)) : TextM P ops W zs G F k (o :: r) a :=
  .inr ⟨hk, undef, .inr ⟨hg, rfl⟩, c⟩
theorem tm_make {zs : List Nat} {k : Nat} (hk : zs.contains k = true) (hg : Region.wanted o (yielded ops a.tmps) = true) (h : GK P W G k o a) (c : TextM P ops W zs G F (k + 1) r a) : TextM P ops W zs G F k (o :: r) a := .inl ⟨hk, hg, h, c⟩
theorem tm_nil {zs : List Nat} {k : Nat} (c : F a) : TextM P ops W zs G F k [] a := c

/-- The made blocks' slots are set. -/
def setAll (ops : Array Oper) (us : Nat → Value) : List Nat → Act → Act
  | [], a => a
  | z :: r, a => setAll ops us r (a.put ((ops[z]?).bind (·.dst)) (us z))
def endM : List EntM → Act → Act
  | [], a => a
  | x :: r, a => endM r (putM x a)

theorem walk_m {zs : List Nat} : ∀ (os : List Oper) (k : Nat) (a : Act), TextM P ops W zs G F k os a →
    ∃ l : List EntM, l.map (·.i) = List.range' k os.length ∧ l.map (·.o) = os ∧ (∀ x ∈ l, x.made = zs.contains x.i) ∧ ChainM P ops W G l a ∧ F (endM l a)
  | [], k, a, h => ⟨[], by simp, rfl, (fun x hx => by cases hx), trivial, h⟩
  | o :: r, k, a, .inl ⟨hk, hg, hm, h⟩ => by
    obtain ⟨l, h1, h2, h3, h4, h5⟩ := walk_m r (k + 1) _ h
    refine ⟨⟨k, o, undef, true⟩ :: l, by simp [h1, List.range'_succ], by simp [h2], fun x hx => ?_, ⟨.inl ⟨rfl, hg, hm⟩, h4⟩, h5⟩
    rcases List.mem_cons.1 hx with rfl | hx
    · exact hk.symm
    · exact h3 x hx
  | o :: r, k, a, .inr ⟨hk, v, hg, h⟩ => by
    obtain ⟨l, h1, h2, h3, h4, h5⟩ := walk_m r (k + 1) _ h
    refine ⟨⟨k, o, v, false⟩ :: l, by simp [h1, List.range'_succ], by simp [h2], fun x hx => ?_, ⟨.inr ⟨rfl, hg⟩, h4⟩, h5⟩
    rcases List.mem_cons.1 hx with rfl | hx
    · exact hk.symm
    · exact h3 x hx

/-- What makes blocks is apart from all else of the head. -/
def makesOk (ops : Array Oper) (n : Nat) (zs : List Nat) : Bool :=
  (List.range n).all fun j => (List.range j).all fun i => if zs.contains i || zs.contains j then (match ops[i]?, ops[j]? with | some x, some y => x.apart ops y | _, _ => false) else true

theorem putsM_end (us : Nat → Value) : ∀ (l : List EntM) (a : Act), l.Pairwise (fun x y => (x.made = false ∧ y.made = false) ∨ Far ops x y) → (∀ x ∈ l, ops[x.i]? = some x.o) →
    putsM us l a = setAll ops us ((l.filter (·.made)).map (·.i)) (endM l a)
  | [], a, _, _ => rfl
  | x :: r, a, hp, ho => by
    obtain ⟨hp1, hp2⟩ := List.pairwise_cons.1 hp
    have ih := fun a => putsM_end us r a hp2 (fun y hy => ho y (List.mem_cons_of_mem _ hy))
    simp only [putsM]
    cases hm : x.made with
    | false =>
      rw [List.filter_cons_of_neg (by rw [hm]; simp)]
      simp only [Bool.false_eq_true, if_false]
      rw [ih]
      simp only [endM, putM, hm, Bool.false_eq_true, if_false]
    | true =>
      rw [List.filter_cons_of_pos (by rw [hm])]
      simp only [if_true, List.map_cons, setAll, endM, putM, hm]
      rw [ih]
      have hxo := ho x (List.mem_cons_self ..)
      rw [hxo]
      simp only [Option.bind_some]
      congr 1
      -- the put of x goes past all others
      have key : ∀ (l : List EntM) (a : Act), (∀ y ∈ l, Far ops x y) → endM l (a.put x.o.dst (us x.i)) = (endM l a).put x.o.dst (us x.i) := by
        intro l
        induction l with
        | nil => intro a _; rfl
        | cons y r ih2 =>
          intro a hy
          have hf := hy y (List.mem_cons_self ..)
          simp only [endM]
          have e : putM y (a.put x.o.dst (us x.i)) = (putM y a).put x.o.dst (us x.i) := by
            unfold putM; split
            · rfl
            · exact hf.comm a _ _
          rw [e]
          exact ih2 _ (fun z hz => hy z (List.mem_cons_of_mem _ hz))
      exact key r a (fun y hy => by
        rcases hp1 y hy with ⟨h, _⟩ | h
        · rw [hm] at h; cases h
        · exact h)

theorem wp_region_makes {id : Nat} (n : Nat) (zs : List Nat) (G : Nat → Value → World → Prop) (hm : P.follows .mixedOrders = true) (hok : textOk .any ops = true) (ht : tailOk .any ops n = true) (hn : decide (n ≤ ops.size) = true)
    (hseq : Region.seqB .any ops (ops.size - n) n (listedUpto ops n) = true) (hz : makesOk ops n zs = true) (hzs : (List.range n).filter (fun k => zs.contains k) = zs) (hG : ∀ z v w m d, G z v w → G z v (w.ext m d))
    (h : ∀ F : Act → Prop, (∀ a', (∀ us m d, (∀ z ∈ zs, G z (us z) (W.ext m d) ∧ W.heap.size ≤ blkOf (us z)) → (∀ z ∈ zs, ∀ y ∈ zs, z ≠ y → blkOf (us z) ≠ blkOf (us y)) → wpList P ops Q (ops.toList.drop n) (setAll ops us zs a') (W.ext m d)) → F a') → TextM P ops W zs G F 0 (ops.toList.take n) a) :
    (Code.region id ops true).wp P Q a W := by
  obtain ⟨l, h1, h2, h3, h4, h5⟩ := walk_m _ 0 _ (h (fun a' => ∀ us m d, (∀ z ∈ zs, G z (us z) (W.ext m d) ∧ W.heap.size ≤ blkOf (us z)) → (∀ z ∈ zs, ∀ y ∈ zs, z ≠ y → blkOf (us z) ≠ blkOf (us y)) → wpList P ops Q (ops.toList.drop n) (setAll ops us zs a') (W.ext m d)) (fun _ h => h))
  refine wp_region_any hm ?_
  simp only [textOk, Bool.and_eq_true, Bool.or_eq_true, List.all_eq_true, List.mem_range, decide_eq_true_eq] at hok hn
  obtain ⟨⟨hs, hlt⟩, hpr⟩ := hok
  have hlen : l.length = n := by
    have := congrArg List.length h2
    simpa [hn] using this
  have htk : (ops.toList.take n).length = n := by simp [hn]
  rw [htk] at h1
  have hat : ∀ (j : Nat) (hj : j < l.length), l[j].i = j ∧ ops[j]? = some l[j].o := fun j hj => by
    constructor
    · have e1 : (l.map (·.i))[j]? = (List.range' 0 n)[j]? := by rw [h1]
      simp only [List.getElem?_map, List.getElem?_eq_getElem hj, Option.map_some] at e1
      rw [List.getElem?_range' (by omega)] at e1
      simpa using e1
    · have e2 : (l.map (·.o))[j]? = (ops.toList.take n)[j]? := by rw [h2]
      simp only [List.getElem?_map, List.getElem?_eq_getElem hj, Option.map_some] at e2
      rw [List.getElem?_take_of_lt (by omega)] at e2
      simpa using e2.symm
  have hmem : ∀ x ∈ l, x.i < n ∧ ops[x.i]? = some x.o := fun x hx => by
    obtain ⟨j, hj, rfl⟩ := List.getElem_of_mem hx
    obtain ⟨e1, e2⟩ := hat j hj
    rw [e1]; exact ⟨by omega, e2⟩
  have hdn : ∀ i k, k ∈ deps .any ops i → k < i := fun i k hk => by
    by_cases hi : i < ops.size
    · exact hlt i hi k hk
    · simp [deps, Array.getElem?_eq_none (Nat.le_of_not_lt hi)] at hk
  have hrep : ∀ j d, (Array.replicate ops.size false).getD j d = true → d = true := fun j d hd => by
    by_cases hj : j < ops.size
    · simp [hj] at hd
    · simpa [hj] using hd
  have hfin : setsM l (Array.replicate ops.size false) = listedUpto ops n := by
    apply Array.ext
    · rw [setsM_size]; simp [listedUpto]
    · intro j hj1 hj2
      rw [setsM_size] at hj1
      have e := getD_setsM l (Array.replicate ops.size false) j false hj1
      rw [h1] at e
      have hjs : j < ops.size := by simpa using hj1
      simp only [Array.getD_eq_getD_getElem?] at e
      rw [Array.getElem?_eq_getElem (by rw [setsM_size]; exact hj1)] at e
      simp only [Option.getD_some] at e
      rw [e]
      simp [listedUpto, hjs]
  have hsel := Region.noSelect_spec hs
  have hfar : l.Pairwise (fun x y => (x.made = false ∧ y.made = false ∧ x.i ∈ deps .any ops y.i) ∨ Far ops x y) := by
    rw [List.pairwise_iff_getElem]
    intro i j hi hj hij
    obtain ⟨e1, e2⟩ := hat i hi
    obtain ⟨e3, e4⟩ := hat j hj
    have hx := (hmem _ (List.getElem_mem hi)).2
    have hy := (hmem _ (List.getElem_mem hj)).2
    have hpr' := hpr j (by omega) i hij
    rw [e2, e4] at hpr'
    have m1 := h3 _ (List.getElem_mem hi)
    have m2 := h3 _ (List.getElem_mem hj)
    rw [e1] at m1
    rw [e3] at m2
    simp only [makesOk, List.all_eq_true, List.mem_range] at hz
    have hz' := hz j (by omega) i hij
    rw [e2, e4] at hz'
    by_cases hmk : (zs.contains i || zs.contains j) = true
    · rw [if_pos hmk] at hz'
      exact .inr (far_of hsel hx hy hz')
    · have hmk' : zs.contains i = false ∧ zs.contains j = false := by
        simp only [Bool.or_eq_true, not_or, Bool.not_eq_true] at hmk; exact hmk
      rcases hpr' with h' | h'
      · refine .inl ⟨m1.trans hmk'.1, m2.trans hmk'.2, ?_⟩
        rw [e1, e3]; simpa using h'
      · exact .inr (far_of hsel hx hy h')
  have hputs := fun us a => putsM_end (ops := ops) us l a (hfar.imp (fun h => h.elim (fun q => .inl ⟨q.1, q.2.1⟩) .inr)) (fun x hx => (hmem x hx).2)
  have hmade : (l.filter (·.made)).map (·.i) = zs := by
    have e : l.filter (·.made) = l.filter (fun x => zs.contains x.i) := List.filter_congr h3
    rw [e]
    have : (l.filter (fun x => zs.contains x.i)).map (·.i) = (l.map (·.i)).filter (fun k => zs.contains k) := by rw [List.filter_map]; rfl
    rw [this, h1, ← List.range_eq_range']
    exact hzs
  have key := any_of_chainM (P := P) (Q := Q) (md := .any) (G := G) (W := W) hsel n (ops.size - n) ht hG n l (Array.replicate ops.size false) a (fun _ => True) W.heap.size hlen (by simp) (fun x hx => by
      obtain ⟨e1, e2⟩ := hmem x hx
      exact ⟨e2, by simp [show x.i < ops.size by omega]⟩) (by
      have : (l.map (·.i)).Pairwise (· ≠ ·) := by rw [h1]; exact List.nodup_range'
      exact List.pairwise_map.1 this) (fun j hj _ => ⟨l[j]'(by omega), List.getElem_mem _, (hat j (by omega)).1⟩) (fun x hx => (hmem x hx).1) hfar (by
      intro l1 x l2 hl k hk
      right
      have hxi : x.i = l1.length := by
        have hj : l1.length < l.length := by rw [hl]; simp
        have := (hat l1.length hj).1
        simpa [hl] using this
      have hkx := hdn _ _ hk
      refine ⟨l[k]'(by rw [hl]; simp; omega), ?_, (hat k _).1⟩
      have hkl : k < l1.length := by omega
      simp only [hl]
      rw [List.getElem_append_left hkl]
      exact List.getElem_mem _) (fun i hi => absurd (hrep i false hi) (by simp)) (fun _ _ _ _ => trivial) h4 (by
      rintro us w1 ⟨m1, d1, rfl⟩ _ hGs hDs
      have hzx : ∀ z ∈ zs, ∃ x ∈ l, x.made = true ∧ x.i = z := fun z hzm => by
        rw [← hmade] at hzm
        obtain ⟨x, hx, rfl⟩ := List.mem_map.1 hzm
        obtain ⟨hx1, hx2⟩ := List.mem_filter.1 hx
        exact ⟨x, hx1, hx2, rfl⟩
      have := h5 us m1 d1 (fun z hzm => by obtain ⟨x, q1, q2, rfl⟩ := hzx z hzm; exact hGs x q1 q2) (fun z hzm y hym hzy => by
        obtain ⟨x, q1, q2, rfl⟩ := hzx z hzm
        obtain ⟨x', k1, k2, rfl⟩ := hzx y hym
        exact hDs x q1 x' k1 q2 k2 hzy)
      rw [hfin, hputs, hmade]
      have e : (ops.toList.drop n).length = ops.size - n := by simp
      have := wpAny_of_seq (P := P) (md := .any) (ops := ops) (ops.toList.drop n) n (listedUpto ops n) _ _ (fun j => by simp [List.getElem?_drop]) (by rw [e]; exact hseq) this
      rw [e] at this
      exact this) W.drew ⟨_, _, World.drew_is_ext W⟩ trivial (Nat.le_refl _)
  rw [show n + (ops.size - n) = ops.size by omega] at key
  exact key
end
end Go
set_option linter.unusedVariables false
set_option linter.unusedSimpArgs false
namespace Go
open Go.RowKit

/-- A block of just these cells. -/
def Blk (w : World) (g : Nat) (e : TypeId) (xs : List Value) : Prop := w.heap[g]? = some (.cells xs.toArray e (0, 0))
section
variable {w w' : World} {g : Nat} {e : TypeId} {xs : List Value}
theorem Blk.lt (h : Blk w g e xs) : g < w.heap.size := (Array.getElem?_eq_some_iff.1 h).1
theorem Blk.cell (h : Blk w g e xs) (i : Nat) : w.cell? ⟨g, i, none⟩ = xs[i]? := by unfold Blk at h; simp [World.cell?, h]
theorem Blk.free (h : Blk w g e xs) (i : Nat) : w.frozen? ⟨g, i, none⟩ = false := by unfold Blk at h; simp [World.frozen?, h]
theorem Blk.keep (h : Blk w g e xs) (hk : w'.heap[g]? = w.heap[g]?) : Blk w' g e xs := by unfold Blk at *; rw [hk]; exact h
theorem Blk.cast {ys : List Value} (h : Blk w g e xs) (he : xs = ys) : Blk w g e ys := he ▸ h
theorem Blk.below (h : Blk w g e xs) (hb : Below w.heap.size w w') : Blk w' g e xs := h.keep (hb.block g h.lt)
theorem Blk.ext (h : Blk w g e xs) (m : Array Obj) (d : Nat) : Blk (w.ext m d) g e xs := h.keep (World.heap_ext _ _ _ h.lt)
theorem Blk.set_ (h : Blk w g e xs) (i : Nat) (v : Value) : Blk (w.setCell ⟨g, i, none⟩ v) g e (xs.set i v) := by
  unfold Blk at *; simp [World.setCell, Array.getElem?_modify, h]
theorem Blk.far (h : Blk w g e xs) {b : Nat} (hb : b ≠ g) (i : Nat) (v : Value) : Blk (w.setCell ⟨b, i, none⟩ v) g e xs := h.keep (Below.heap_setCell _ _ _ _ (fun e => hb e.symm))
theorem Blk.row (h : Blk w g e xs) (ys : List Value) : Blk (w.setRow g ys.toArray) g e ys := setRow_heap w g xs.toArray ys.toArray e _ h
theorem Blk.farRow (h : Blk w g e xs) {b : Nat} (hb : b ≠ g) (cs : Array Value) : Blk (w.setRow b cs) g e xs := h.keep (by
  unfold World.setRow; simp [Array.getElem?_modify, hb])
theorem Blk.new (w : World) (e : TypeId) (xs : List Value) : Blk (w.alloc (.cells xs.toArray e)) w.heap.size e xs := heap_alloc_new w _
theorem Below.setRow {B : Nat} {a : World} (h : Below B a w) (hg : B ≤ g) (cs : Array Value) : Below B a (w.setRow g cs) :=
  ⟨h.os, h.tape, h.output, by simpa using h.size, fun k hk => by
    rw [← h.block k hk]; unfold World.setRow; simp [Array.getElem?_modify, show ¬ g = k by omega]⟩
end

section
variable {P : Program} {w : World}
/-- A whole array is loaded. -/
theorem load_row_op (a : Act) (dst : Option Tmp) (ty t : TypeId) (x : Operand) (pos : String) (after : Array Edge) (guard : Option (Nat × Bool)) {g n : Nat} {el e : TypeId} {xs : List Value}
    (hu : P.underlying ty = some (.array n el)) (hi : (P.info? ty).map (·.size) = some xs.length) (hx : a.eval x = .pointer (some ⟨g, 0, none⟩)) (hg : Blk w g e xs) :
    (execOp a.eval { dst, op := .load ty x, type := t, pos, after, guard }).run P w = .ok (.value (.agg xs.toArray)) w := by
  have h := run_loadVar_row (P := P) w g e ty xs.toArray (0, 0) _ hg hu rfl (by simpa using hi)
  unfold execOp
  simp only [hx, Instr.loadAt, Instr.sureAddr, Sem.run_bind, Sem.run_pure, Result.andThen_ok, h]
/-- A whole array is stored. -/
theorem store_row_op (a : Act) (dst : Option Tmp) (ty t : TypeId) (x y : Operand) (pos : String) (after : Array Edge) (guard : Option (Nat × Bool)) {g : Nat} {e : TypeId} {xs ys : List Value}
    (hi : (P.info? ty).map (·.size) = some ys.length) (hl : xs.length = ys.length) (h1 : ys.all (·.oneCell') = true) (hx : a.eval x = .pointer (some ⟨g, 0, none⟩)) (hy : a.eval y = .agg ys.toArray) (hg : Blk w g e xs) :
    (execOp a.eval { dst, op := .store ty x y, type := t, pos, after, guard }).run P w = .ok .skip (w.setRow g ys.toArray) := by
  have h := run_storeVar_row (P := P) w g e ty xs.toArray ys.toArray hg (by simpa using hi) (by simpa using hl) (by simpa using h1)
  unfold execOp
  simp only [hx, hy, Instr.storeAt, Instr.sureAddr, Sem.run_bind, Sem.run_pure, Result.andThen_ok, h]
end
end Go
set_option linter.unusedVariables false
set_option linter.unusedSimpArgs false
namespace Go.Proofs.Ytboekafmplomhaa
open Go.RowKit

/-- What the walk has seen, and what it hangs on. -/
def supN (S : Sto) : Nat → List (Int × Int) → List Bool → Int → List (Int × Int) × List Bool
  | 0, K, O, _ => (K, O)
  | n + 1, K, O, a =>
    if (atV S a).2 = false ∨ 0 < (aget K a).getD 0 then (K, O) else
    supN S n (supN S n (aput K a 1) (O.set (atV S a).1.1.toNat true) (atV S a).1.2.1).1 (supN S n (aput K a 1) (O.set (atV S a).1.1.toNat true) (atV S a).1.2.1).2 (atV S a).1.2.2

structure SupW (w : World) (p km kb i0 i1 i3 : Nat) (F : List Nat) (S : Sto) (K : List (Int × Int)) (O : List Bool) : Prop where
  sto : StoIs w p F S
  map : MapIs ki w km K
  blk : Blk w kb 127 (bools O)
  len : O.length = 64
  fm : km ∉ F
  fb : kb ∉ F
  ne : km ≠ kb
  z0 : i0 < w.heap.size
  z1 : i1 < w.heap.size
  z3 : i3 < w.heap.size
  m0 : i0 ≠ km
  m1 : i1 ≠ km
  m3 : i3 ≠ km
  b0 : i0 ≠ kb
  b1 : i1 ≠ kb
  b3 : i3 ≠ kb
  c0 : w.cell? ⟨i0, 0, none⟩ = some (.pointer (some ⟨p, 0, none⟩))
  c1 : w.cell? ⟨i1, 0, none⟩ = some (.map (some km))
  c3 : w.cell? ⟨i3, 0, none⟩ = some (.func (.func 101) #[] #[.pointer (some ⟨i0, 0, none⟩), .pointer (some ⟨i1, 0, none⟩), .pointer (some ⟨kb, 0, none⟩), .pointer (some ⟨i3, 0, none⟩)])

section
variable {w w' : World} {p km kb i0 i1 i3 : Nat} {F : List Nat} {S : Sto} {K K' : List (Int × Int)} {O O' : List Bool}
theorem SupW.step (h : SupW w p km kb i0 i1 i3 F S K O) (st : StoStep w w' [km, kb] [km, kb]) (hm : MapIs ki w' km K') (hb : Blk w' kb 127 (bools O')) (hl : O'.length = 64) : SupW w' p km kb i0 i1 i3 F S K' O' :=
  have hk : ∀ k, k < w.heap.size → k ≠ km → k ≠ kb → w'.heap[k]? = w.heap[k]? := fun k h1 h2 h3 => st.block k h1 (by simp [h2, h3])
  { sto := h.sto.keep (fun k hk' => hk k (h.sto.lt k hk') (fun e => h.fm (e ▸ hk')) (fun e => h.fb (e ▸ hk')))
    map := hm, blk := hb, len := hl, fm := h.fm, fb := h.fb, ne := h.ne
    z0 := Nat.lt_of_lt_of_le h.z0 st.size, z1 := Nat.lt_of_lt_of_le h.z1 st.size, z3 := Nat.lt_of_lt_of_le h.z3 st.size
    m0 := h.m0, m1 := h.m1, m3 := h.m3, b0 := h.b0, b1 := h.b1, b3 := h.b3
    c0 := (cell_of_heap 0 (hk _ h.z0 h.m0 h.b0)).trans h.c0
    c1 := (cell_of_heap 0 (hk _ h.z1 h.m1 h.b1)).trans h.c1
    c3 := (cell_of_heap 0 (hk _ h.z3 h.m3 h.b3)).trans h.c3 }
theorem SupW.below (h : SupW w p km kb i0 i1 i3 F S K O) (hb : Below w.heap.size w w') : SupW w' p km kb i0 i1 i3 F S K O :=
  h.step (StoStep.of_below hb) (MapIs.keep h.map (hb.block _ (MapIs.lt h.map))) (h.blk.below hb) h.len
theorem SupW.put (h : SupW w p km kb i0 i1 i3 F S K O) (o : Obj) (hm : MapIs ki (w.putObj km o) km K') (v : Nat) :
    SupW ((w.putObj km o).setCell ⟨kb, v, none⟩ (.bool true)) p km kb i0 i1 i3 F S K' (O.set v true) ∧ StoStep w ((w.putObj km o).setCell ⟨kb, v, none⟩ (.bool true)) [km, kb] [km, kb] := by
  have s1 : StoStep w (w.putObj km o) [km, kb] [km, kb] := StoStep.put (by simp) o
  have s2 : StoStep (w.putObj km o) ((w.putObj km o).setCell ⟨kb, v, none⟩ (.bool true)) [km, kb] [km, kb] :=
    ⟨rfl, rfl, rfl, by simp [World.setCell], fun k hk hn => Below.heap_setCell _ _ _ _ (fun e => hn (by simp at e; simp [e])), fun k hk => .inl hk⟩
  refine ⟨h.step (s1.trans s2) (MapIs.keep hm (Below.heap_setCell _ _ _ _ (fun e => h.ne e))) ?_ (by simp [h.len]), s1.trans s2⟩
  have hb : Blk (w.putObj km o) kb 127 (bools O) := h.blk.keep (World.heap_putObj_ne _ _ (fun e => h.ne e.symm))
  have := hb.set_ v (.bool true)
  rw [show bools (O.set v true) = (bools O).set v (.bool true) by simp [bools, List.map_set]]
  exact this
end

theorem atV_yes {S : Sto} {x : Int} (h : (atV S x).2 = true) : ∃ (i : Nat) (n : Nd), x = (i : Int) + 2 ∧ S.nodes[i]? = some n ∧ atV S x = (n, true) ∧ rightOf S x = x := by
  unfold atV at h
  by_cases h2 : rightOf S x < 2
  · rw [if_pos h2] at h; cases h
  · obtain ⟨e1, e2, e3⟩ := rightOf_two h2
    obtain ⟨i, rfl⟩ : ∃ i : Nat, x = (i : Int) + 2 := ⟨(x - 2).toNat, by omega⟩
    have hi : i < S.nodes.length := by omega
    refine ⟨i, S.nodes[i], rfl, by simp [hi], ?_, e1⟩
    unfold atV
    rw [if_neg h2, show ((i : Int) + 2 - 2).toNat = i by omega]
    simp [hi]

theorem branchy_size (x y z : Value) : (Try.prog.info? 39).map (·.size) = some [x, y, z].length := by
  have h : (Try.prog.info? 39).map (·.size) = some 3 := by kernel_rfl
  exact h

set_option maxHeartbeats 4000000 in
theorem sup_no {S : Sto} (hW : Wf S) {p km kb i0 i1 i3 : Nat} {F : List Nat} {w : World} {K : List (Int × Int)} {O : List Bool} {a : Int} (h : SupW w p km kb i0 i1 i3 F S K O) (hno : (atV S a).2 = false ∨ 0 < (aget K a).getD 0) :
    Calls Try.prog 101 #[.int .i64 a, .pointer (some ⟨i0, 0, none⟩), .pointer (some ⟨i1, 0, none⟩), .pointer (some ⟨kb, 0, none⟩), .pointer (some ⟨i3, 0, none⟩)] w (Pure (.tuple #[]) w) := by
  have A := hid (at_call h.sto hW a)
  have H := hid h
  have z0 := h.z0
  have c0 := h.c0
  clear h
  generalize (atV S a).1.1 = x1 at *
  generalize (atV S a).1.2.1 = x2 at *
  generalize (atV S a).1.2.2 = x3 at *
  cases ha : (atV S a).2 with
  | false =>
    rw [ha] at A
    clear hno ha
    go_enter Try.func101, Try.ntmps101
    go_upto_region 0 with (fail)
    refine wp_region_doc (fun F' hF => ?_)
    have HF := hid hF
    clear hF
    repeat (refine doc_val rfl (by first | (go_simp; done) | (go_simp; exact ⟨rfl, rfl⟩) | (go_simp; with_reducible rfl)) ?_; simp only [Act.put, List.setIfInBounds_toArray, List.set_cons_zero, List.set_cons_succ])
    refine doc_call rfl (by first | (go_simp; done) | (go_simp; exact ⟨rfl, rfl⟩) | (go_simp; with_reducible rfl)) ((A.out).mono ?_)
    rintro e w1 ⟨rfl, m1, d1, rfl⟩
    refine ⟨_, rfl, ?_⟩
    simp only [Act.put, List.setIfInBounds_toArray, List.set_cons_zero, List.set_cons_succ]
    repeat (refine doc_val rfl (by first | (go_simp; done) | (go_simp; exact ⟨rfl, rfl⟩) | (go_simp; with_reducible rfl)) ?_; simp only [Act.put, List.setIfInBounds_toArray, List.set_cons_zero, List.set_cons_succ])
    refine doc_skip rfl (store_row_op (xs := [.int .i64 0, .int .i64 0, .int .i64 0]) (ys := [.int .i64 x1, .int .i64 x2, .int .i64 x3]) _ _ _ _ _ _ _ _ _ (branchy_size _ _ _) rfl rfl rfl rfl (by have h := Blk.new (w.ext m1 d1) 39 [.int .i64 0, .int .i64 0, .int .i64 0]; rw [World.size_ext] at h; exact h)) ?_
    simp only [Act.put, List.setIfInBounds_toArray, List.set_cons_zero, List.set_cons_succ]
    repeat (refine doc_val rfl (by first | (go_simp; done) | (go_simp; exact ⟨rfl, rfl⟩) | (go_simp; with_reducible rfl)) ?_; simp only [Act.put, List.setIfInBounds_toArray, List.set_cons_zero, List.set_cons_succ])
    refine doc_end (HF.out _ _ ?_)
    clear HF F'
    go_upto_region 1 with (fail)
    refine wp_gen (fun U hU => ?_)
    have hbU : Below w.heap.size w U := by
      rw [hU]; exact Below.setRow (Below.alloc (Below.ext_mk (Below.refl _ _) (Nat.le_refl _) _ _) (by first | (simp; done) | (simp; omega)) _) (by omega) _
    have bU : Blk U (w.heap.size + m1.size) 39 [.int .i64 x1, .int .i64 x2, .int .i64 x3] := by
      rw [hU]
      have h := Blk.new (w.ext m1 d1) 39 [.int .i64 0, .int .i64 0, .int .i64 0]
      rw [World.size_ext] at h
      exact h.row _
    have hB : w.heap.size ≤ w.heap.size + m1.size := by omega
    generalize w.heap.size + m1.size = B at *
    clear hU
    have H1 := H.out.below hbU
    have z1 := H1.z1
    have z3 := H1.z3
    have c1 := H1.c1
    have c3 := H1.c3
    go_wp2_with fail
    go_returns
    exact Pure.of rfl (by first | exact hbU | exact Below.ext_mk hbU hbU.size _ _)
  | true =>
    rw [ha] at A hno
    have hk : 0 < (aget K a).getD 0 := by simpa using hno
    clear hno ha
    go_enter Try.func101, Try.ntmps101
    go_upto_region 0 with (fail)
    refine wp_region_doc (fun F' hF => ?_)
    have HF := hid hF
    clear hF
    repeat (refine doc_val rfl (by first | (go_simp; done) | (go_simp; exact ⟨rfl, rfl⟩) | (go_simp; with_reducible rfl)) ?_; simp only [Act.put, List.setIfInBounds_toArray, List.set_cons_zero, List.set_cons_succ])
    refine doc_call rfl (by first | (go_simp; done) | (go_simp; exact ⟨rfl, rfl⟩) | (go_simp; with_reducible rfl)) ((A.out).mono ?_)
    rintro e w1 ⟨rfl, m1, d1, rfl⟩
    refine ⟨_, rfl, ?_⟩
    simp only [Act.put, List.setIfInBounds_toArray, List.set_cons_zero, List.set_cons_succ]
    repeat (refine doc_val rfl (by first | (go_simp; done) | (go_simp; exact ⟨rfl, rfl⟩) | (go_simp; with_reducible rfl)) ?_; simp only [Act.put, List.setIfInBounds_toArray, List.set_cons_zero, List.set_cons_succ])
    refine doc_skip rfl (store_row_op (xs := [.int .i64 0, .int .i64 0, .int .i64 0]) (ys := [.int .i64 x1, .int .i64 x2, .int .i64 x3]) _ _ _ _ _ _ _ _ _ (branchy_size _ _ _) rfl rfl rfl rfl (by have h := Blk.new (w.ext m1 d1) 39 [.int .i64 0, .int .i64 0, .int .i64 0]; rw [World.size_ext] at h; exact h)) ?_
    simp only [Act.put, List.setIfInBounds_toArray, List.set_cons_zero, List.set_cons_succ]
    repeat (refine doc_val rfl (by first | (go_simp; done) | (go_simp; exact ⟨rfl, rfl⟩) | (go_simp; with_reducible rfl)) ?_; simp only [Act.put, List.setIfInBounds_toArray, List.set_cons_zero, List.set_cons_succ])
    refine doc_end (HF.out _ _ ?_)
    clear HF F'
    go_upto_region 1 with (fail)
    refine wp_gen (fun U hU => ?_)
    have hbU : Below w.heap.size w U := by
      rw [hU]; exact Below.setRow (Below.alloc (Below.ext_mk (Below.refl _ _) (Nat.le_refl _) _ _) (by first | (simp; done) | (simp; omega)) _) (by omega) _
    have bU : Blk U (w.heap.size + m1.size) 39 [.int .i64 x1, .int .i64 x2, .int .i64 x3] := by
      rw [hU]
      have h := Blk.new (w.ext m1 d1) 39 [.int .i64 0, .int .i64 0, .int .i64 0]
      rw [World.size_ext] at h
      exact h.row _
    have hB : w.heap.size ≤ w.heap.size + m1.size := by omega
    generalize w.heap.size + m1.size = B at *
    clear hU
    have H1 := H.out.below hbU
    have z1 := H1.z1
    have z3 := H1.z3
    have c1 := H1.c1
    have c3 := H1.c3
    have hlook := fun m d => lookup_run (w := U.ext m d) key_int Try.underlying115 (zero_int _) (MapIs.ext H1.map m d) a false
    simp only [Bool.false_eq_true, if_false] at hlook
    generalize (aget K a).getD 0 = kk at *
    refine wp_region_seq (fun F hF => ?_)
    have HF := hid hF; clear hF
    repeat (first
      | (apply text_skip; (focus rfl); simp only [Act.put, List.setIfInBounds_toArray, List.set_cons_zero, List.set_cons_succ])
      | (apply text_val; (focus rfl); (focus (intro _ _; go_simp; with_reducible rfl)); simp only [Act.put, List.setIfInBounds_toArray, List.set_cons_zero, List.set_cons_succ])
      | (apply text_if; (focus (first | exact wanted_t rfl rfl | exact wanted_f rfl rfl | exact wanted_gt rfl rfl | exact wanted_gf rfl rfl)); (focus (intro hc _ _; (try simp only [Bool.and_eq_true, Bool.not_eq_true', Bool.true_and] at hc); go_simp; with_reducible rfl)); simp only [Act.put, List.setIfInBounds_toArray, List.set_cons_zero, List.set_cons_succ]))
    refine text_nil (HF.out _ (fun mx dx => ?_))
    clear HF F
    go_wp2_with fail
    go_returns
    exact Pure.of rfl (by first | exact hbU | exact Below.ext_mk hbU hbU.size _ _)

set_option maxHeartbeats 8000000 in
theorem sup_any {S : Sto} (hW : Wf S) (p km kb i0 i1 i3 : Nat) (F : List Nat) : ∀ (n : Nat) (w : World) (K : List (Int × Int)) (O : List Bool) (a : Int), SupW w p km kb i0 i1 i3 F S K O → (rightOf S a).toNat < n →
    Calls Try.prog 101 #[.int .i64 a, .pointer (some ⟨i0, 0, none⟩), .pointer (some ⟨i1, 0, none⟩), .pointer (some ⟨kb, 0, none⟩), .pointer (some ⟨i3, 0, none⟩)] w
      (fun e w' => e = .returned (.tuple #[]) ∧ SupW w' p km kb i0 i1 i3 F S (supN S n K O a).1 (supN S n K O a).2 ∧ StoStep w w' [km, kb] [km, kb]) := by
  intro n
  induction n with
  | zero => intro w K O a _ hn; omega
  | succ n ih =>
    intro w K O a h hn
    by_cases hno : (atV S a).2 = false ∨ 0 < (aget K a).getD 0
    · refine (sup_no hW h hno).mono ?_
      rintro e w' ⟨rfl, m, d, rfl⟩
      unfold supN
      rw [if_pos hno]
      have hb : Below w.heap.size w (w.ext m d) := Below.ext_mk (Below.refl _ _) (Nat.le_refl _) _ _
      exact ⟨rfl, h.below hb, StoStep.of_below hb⟩
    · have hs : supN S (n + 1) K O a = supN S n (supN S n (aput K a 1) (O.set (atV S a).1.1.toNat true) (atV S a).1.2.1).1 (supN S n (aput K a 1) (O.set (atV S a).1.1.toNat true) (atV S a).1.2.1).2 (atV S a).1.2.2 := by
        rw [supN, if_neg hno]
      rw [hs]
      clear hs
      have hy : (atV S a).2 = true := by
        cases hq : (atV S a).2 with
        | true => rfl
        | false => exact (hno (.inl hq)).elim
      have hk : ¬ 0 < (aget K a).getD 0 := fun q => hno (.inr q)
      obtain ⟨i, nd, ha, hnd, hat, hr⟩ := atV_yes hy
      have A := hid (at_call h.sto hW a)
      have H := hid h
      have z0 := h.z0
      have c0 := h.c0
      have hch := hW.child hnd
      have hok := hW.node i nd hnd
      have lt1 : (rightOf S nd.2.1).toNat < n := by rw [right_has hch.1]; have := hok.lo; rw [hr, ha] at hn; have := hok.lo0; omega
      have lt2 : (rightOf S nd.2.2).toNat < n := by rw [right_has hch.2]; have := hok.hi; rw [hr, ha] at hn; have := hok.hi0; omega
      have v0 := hok.v0
      have v64 := hok.v64
      rw [hat] at A ⊢
      clear hat hno hy h hnd hok hch ha hr hn
      obtain ⟨x1, x2, x3⟩ := nd
      simp only at A lt1 lt2 v0 v64 ⊢
      obtain ⟨v, rfl⟩ : ∃ v : Nat, x1 = (v : Int) := ⟨x1.toNat, by omega⟩
      have hv : v < 64 := by omega
      have v1 : (v : Int) < 64 := by omega
      rw [show ((v : Int)).toNat = v by omega]
      go_enter Try.func101, Try.ntmps101
      go_upto_region 0 with (fail)
      refine wp_region_doc (fun F' hF => ?_)
      have HF := hid hF
      clear hF
      repeat (refine doc_val rfl (by first | (go_simp; done) | (go_simp; exact ⟨rfl, rfl⟩) | (go_simp; with_reducible rfl)) ?_; simp only [Act.put, List.setIfInBounds_toArray, List.set_cons_zero, List.set_cons_succ])
      refine doc_call rfl (by first | (go_simp; done) | (go_simp; exact ⟨rfl, rfl⟩) | (go_simp; with_reducible rfl)) ((A.out).mono ?_)
      rintro e w1 ⟨rfl, m1, d1, rfl⟩
      refine ⟨_, rfl, ?_⟩
      simp only [Act.put, List.setIfInBounds_toArray, List.set_cons_zero, List.set_cons_succ]
      repeat (refine doc_val rfl (by first | (go_simp; done) | (go_simp; exact ⟨rfl, rfl⟩) | (go_simp; with_reducible rfl)) ?_; simp only [Act.put, List.setIfInBounds_toArray, List.set_cons_zero, List.set_cons_succ])
      refine doc_skip rfl (store_row_op (xs := [.int .i64 0, .int .i64 0, .int .i64 0]) (ys := [.int .i64 (v : Int), .int .i64 x2, .int .i64 x3]) _ _ _ _ _ _ _ _ _ (branchy_size _ _ _) rfl rfl rfl rfl (by have h := Blk.new (w.ext m1 d1) 39 [.int .i64 0, .int .i64 0, .int .i64 0]; rw [World.size_ext] at h; exact h)) ?_
      simp only [Act.put, List.setIfInBounds_toArray, List.set_cons_zero, List.set_cons_succ]
      repeat (refine doc_val rfl (by first | (go_simp; done) | (go_simp; exact ⟨rfl, rfl⟩) | (go_simp; with_reducible rfl)) ?_; simp only [Act.put, List.setIfInBounds_toArray, List.set_cons_zero, List.set_cons_succ])
      refine doc_end (HF.out _ _ ?_)
      clear HF F'
      go_upto_region 1 with (fail)
      refine wp_gen (fun U hU => ?_)
      have hbU : Below w.heap.size w U := by
        rw [hU]; exact Below.setRow (Below.alloc (Below.ext_mk (Below.refl _ _) (Nat.le_refl _) _ _) (by first | (simp; done) | (simp; omega)) _) (by omega) _
      have bU : Blk U (w.heap.size + m1.size) 39 [.int .i64 (v : Int), .int .i64 x2, .int .i64 x3] := by
        rw [hU]
        have h := Blk.new (w.ext m1 d1) 39 [.int .i64 0, .int .i64 0, .int .i64 0]
        rw [World.size_ext] at h
        exact h.row _
      have hB : w.heap.size ≤ w.heap.size + m1.size := by omega
      generalize w.heap.size + m1.size = B at *
      clear hU
      have H1 := H.out.below hbU
      have z1 := H1.z1
      have z3 := H1.z3
      have c1 := H1.c1
      have c3 := H1.c3
      have hlook := fun m d => lookup_run (w := U.ext m d) key_int Try.underlying115 (zero_int _) (MapIs.ext H1.map m d) a false
      simp only [Bool.false_eq_true, if_false] at hlook
      generalize (aget K a).getD 0 = kk at *
      refine wp_region_seq (fun F hF => ?_)
      have HF := hid hF; clear hF
      repeat (first
        | (apply text_skip; (focus rfl); simp only [Act.put, List.setIfInBounds_toArray, List.set_cons_zero, List.set_cons_succ])
        | (apply text_val; (focus rfl); (focus (intro _ _; go_simp; with_reducible rfl)); simp only [Act.put, List.setIfInBounds_toArray, List.set_cons_zero, List.set_cons_succ])
        | (apply text_if; (focus (first | exact wanted_t rfl rfl | exact wanted_f rfl rfl | exact wanted_gt rfl rfl | exact wanted_gf rfl rfl)); (focus (intro hc _ _; (try simp only [Bool.and_eq_true, Bool.not_eq_true', Bool.true_and] at hc); go_simp; with_reducible rfl)); simp only [Act.put, List.setIfInBounds_toArray, List.set_cons_zero, List.set_cons_succ]))
      refine text_nil (HF.out _ (fun mx dx => ?_))
      clear HF F
      go_upto_region 2 with (fail)
      refine wp_gen (fun X hX => ?_)
      have hbX : Below U.heap.size U X := by rw [hX]; (repeat' (first | (with_reducible exact Below.refl _ _) | (with_reducible refine Below.ext_mk ?_ ?_ _ _) | (with_reducible refine Below.alloc ?_ ?_ _) | (with_reducible refine Below.drew ?_) | (with_reducible refine Below.setCell ?_ ?_ _) | go_size))
      clear hX
      refine wp_region_any (by kernel_rfl) ?_
      change wpAny _ _ _ _ _ _ _ (World.drew X)
      have hbY : Below U.heap.size U (World.drew X) := Below.drew hbX
      generalize World.drew X = Y at hbY ⊢
      clear hbX X hlook
      have H2 := H1.below hbY
      have bY := bU.below hbY
      have hBm : B ≠ km := fun e => by have := MapIs.lt H.out.map; omega
      have hBb : B ≠ kb := fun e => by have := H.out.blk.lt; omega
      obtain ⟨o, u1, u2⟩ := update_run (t := 115) key_int Try.underlying115 H2.map a 1
      have y0 := bY.cell 0
      have y0' : (Y.putObj km o).cell? ⟨B, 0, none⟩ = some (.int .i64 (v : Int)) := (cell_of_heap 0 (World.heap_putObj_ne _ _ hBm)).trans y0
      simp only [List.getElem?_cons_zero] at y0
      have y1 := H2.c1
      have zY := H2.z1
      have zB := bY.lt
      have zk := H2.blk.lt
      have zf : (Y.putObj km o).frozen? ⟨kb, v, none⟩ = false := (H2.blk.keep (World.heap_putObj_ne _ _ (fun e => H2.ne e.symm))).free v
      have zc : (Y.putObj km o).cell? ⟨kb, v, none⟩ = some (.bool (O.getD v false)) := by
        rw [(H2.blk.keep (World.heap_putObj_ne _ _ (fun e => H2.ne e.symm))).cell v]
        simp [bools, show v < O.length by rw [H2.len]; exact hv]
      obtain ⟨H3, st3⟩ := H2.put o u2 v
      have hHP := hid (And.intro H3 st3)
      clear H3 st3 u2
      have hv0 : (0 : Int) ≤ (v : Int) := by omega
      refine any_take 1 (v := .int .i64 a) rfl (by kernel_rfl) (by kernel_rfl) (by kernel_rfl) (fun _ _ _ h => h) (Or.inl ⟨by rfl, fun _ => by go_simp⟩) ?_
      simp only [Act.put, List.setIfInBounds_toArray, List.set_cons_zero, List.set_cons_succ]
      refine any_take 2 (v := .pointer (some ⟨B, 0, none⟩)) rfl (by kernel_rfl) (by kernel_rfl) (by kernel_rfl) (fun _ _ _ h => h) (Or.inl ⟨by rfl, fun _ => by go_simp⟩) ?_
      simp only [Act.put, List.setIfInBounds_toArray, List.set_cons_zero, List.set_cons_succ]
      refine any_two 0 3 (by kernel_rfl) rfl rfl (st_val rfl (by first | (go_simp; done) | (go_simp; exact ⟨rfl, rfl⟩) | (go_simp; with_reducible rfl)) ?_) (st_val rfl (by first | (go_simp; done) | (go_simp; exact ⟨rfl, rfl⟩) | (go_simp; with_reducible rfl)) ?_)
      · simp only [Act.put, List.setIfInBounds_toArray, List.set_cons_zero, List.set_cons_succ]
        refine any_two 3 4 (by kernel_rfl) rfl rfl (st_val rfl (by first | (go_simp; done) | (go_simp; exact ⟨rfl, rfl⟩) | (go_simp; with_reducible rfl)) ?_) (st_skip rfl (by first | (go_simp; done) | (go_simp; exact ⟨rfl, rfl⟩) | (go_simp; with_reducible rfl)) ?_)
        · simp only [Act.put, List.setIfInBounds_toArray, List.set_cons_zero, List.set_cons_succ]
          refine any_one 4 (by kernel_rfl) rfl (st_skip rfl (by first | (go_simp; done) | (go_simp; exact ⟨rfl, rfl⟩) | (go_simp; with_reducible rfl)) ?_)
          simp only [Act.put, List.setIfInBounds_toArray, List.set_cons_zero, List.set_cons_succ]
          refine any_one 5 (by kernel_rfl) rfl (st_val rfl (by first | (go_simp; done) | (go_simp; exact ⟨rfl, rfl⟩) | (go_simp; with_reducible rfl)) ?_)
          simp only [Act.put, List.setIfInBounds_toArray, List.set_cons_zero, List.set_cons_succ]
          refine any_one 6 (by kernel_rfl) rfl (st_skip rfl (by first | (go_simp; done) | (go_simp; exact ⟨rfl, rfl⟩) | (go_simp; with_reducible rfl)) ?_)
          simp only [Act.put, List.setIfInBounds_toArray, List.set_cons_zero, List.set_cons_succ]
          refine wpAny_done (by kernel_rfl) ?_ _
          go_upto_region 3 with (fail)
          refine wp_gen (fun Z hZ => ?_)
          obtain ⟨H3, st3⟩ := hHP.out
          rw [← hZ] at H3 st3
          have bZ := bY.keep (st3.block B zB (by simp [hBm, hBb]))
          have I1 := ih Z _ _ x2 H3 lt1
          have I2 := fun W K O h => ih W K O x3 h lt2
          have w3 := H3.c3
          have zz3 := H3.z3
          have e1 := bZ.cell 1
          have e2 := bZ.cell 2
          simp only [List.getElem?_cons_zero, List.getElem?_cons_succ] at e1 e2
          have zB' := bZ.lt
          clear hZ hHP ih u1 y0 y0' y1 zf zc z0 c0 z1 z3 c1 c3
          go_upto_region 4 with ((with_reducible refine I1.mono ?_); rintro e w1 ⟨rfl, H4, st4⟩)
          have b4 := bZ.keep (st4.block B zB' (by simp [hBm, hBb]))
          have g3 := H4.c3
          have gz3 := H4.z3
          have g2 := b4.cell 2
          simp only [List.getElem?_cons_zero, List.getElem?_cons_succ] at g2
          have gB := b4.lt
          clear I1 w3 zz3 e1 e2 zB' bZ
          go_wp2_with ((with_reducible refine (I2 _ _ _ H4 ).mono ?_); rintro e w2 ⟨rfl, H5, st5⟩)
          go_returns
          exact ⟨rfl, H5, (StoStep.of_below hbU).trans ((StoStep.of_below hbY).trans (st3.trans (st4.trans st5)))⟩
        · simp only [Act.put, List.setIfInBounds_toArray, List.set_cons_zero, List.set_cons_succ]
          refine any_one 3 (by kernel_rfl) rfl (st_val rfl (by first | (go_simp; done) | (go_simp; exact ⟨rfl, rfl⟩) | (go_simp; with_reducible rfl)) ?_)
          simp only [Act.put, List.setIfInBounds_toArray, List.set_cons_zero, List.set_cons_succ]
          refine any_one 5 (by kernel_rfl) rfl (st_val rfl (by first | (go_simp; done) | (go_simp; exact ⟨rfl, rfl⟩) | (go_simp; with_reducible rfl)) ?_)
          simp only [Act.put, List.setIfInBounds_toArray, List.set_cons_zero, List.set_cons_succ]
          refine any_one 6 (by kernel_rfl) rfl (st_skip rfl (by first | (go_simp; done) | (go_simp; exact ⟨rfl, rfl⟩) | (go_simp; with_reducible rfl)) ?_)
          simp only [Act.put, List.setIfInBounds_toArray, List.set_cons_zero, List.set_cons_succ]
          refine wpAny_done (by kernel_rfl) ?_ _
          go_upto_region 3 with (fail)
          refine wp_gen (fun Z hZ => ?_)
          obtain ⟨H3, st3⟩ := hHP.out
          rw [← hZ] at H3 st3
          have bZ := bY.keep (st3.block B zB (by simp [hBm, hBb]))
          have I1 := ih Z _ _ x2 H3 lt1
          have I2 := fun W K O h => ih W K O x3 h lt2
          have w3 := H3.c3
          have zz3 := H3.z3
          have e1 := bZ.cell 1
          have e2 := bZ.cell 2
          simp only [List.getElem?_cons_zero, List.getElem?_cons_succ] at e1 e2
          have zB' := bZ.lt
          clear hZ hHP ih u1 y0 y0' y1 zf zc z0 c0 z1 z3 c1 c3
          go_upto_region 4 with ((with_reducible refine I1.mono ?_); rintro e w1 ⟨rfl, H4, st4⟩)
          have b4 := bZ.keep (st4.block B zB' (by simp [hBm, hBb]))
          have g3 := H4.c3
          have gz3 := H4.z3
          have g2 := b4.cell 2
          simp only [List.getElem?_cons_zero, List.getElem?_cons_succ] at g2
          have gB := b4.lt
          clear I1 w3 zz3 e1 e2 zB' bZ
          go_wp2_with ((with_reducible refine (I2 _ _ _ H4 ).mono ?_); rintro e w2 ⟨rfl, H5, st5⟩)
          go_returns
          exact ⟨rfl, H5, (StoStep.of_below hbU).trans ((StoStep.of_below hbY).trans (st3.trans (st4.trans st5)))⟩
      · simp only [Act.put, List.setIfInBounds_toArray, List.set_cons_zero, List.set_cons_succ]
        refine any_one 0 (by kernel_rfl) rfl (st_val rfl (by first | (go_simp; done) | (go_simp; exact ⟨rfl, rfl⟩) | (go_simp; with_reducible rfl)) ?_)
        simp only [Act.put, List.setIfInBounds_toArray, List.set_cons_zero, List.set_cons_succ]
        refine any_one 4 (by kernel_rfl) rfl (st_skip rfl (by first | (go_simp; done) | (go_simp; exact ⟨rfl, rfl⟩) | (go_simp; with_reducible rfl)) ?_)
        simp only [Act.put, List.setIfInBounds_toArray, List.set_cons_zero, List.set_cons_succ]
        refine any_one 5 (by kernel_rfl) rfl (st_val rfl (by first | (go_simp; done) | (go_simp; exact ⟨rfl, rfl⟩) | (go_simp; with_reducible rfl)) ?_)
        simp only [Act.put, List.setIfInBounds_toArray, List.set_cons_zero, List.set_cons_succ]
        refine any_one 6 (by kernel_rfl) rfl (st_skip rfl (by first | (go_simp; done) | (go_simp; exact ⟨rfl, rfl⟩) | (go_simp; with_reducible rfl)) ?_)
        simp only [Act.put, List.setIfInBounds_toArray, List.set_cons_zero, List.set_cons_succ]
        refine wpAny_done (by kernel_rfl) ?_ _
        go_upto_region 3 with (fail)
        refine wp_gen (fun Z hZ => ?_)
        obtain ⟨H3, st3⟩ := hHP.out
        rw [← hZ] at H3 st3
        have bZ := bY.keep (st3.block B zB (by simp [hBm, hBb]))
        have I1 := ih Z _ _ x2 H3 lt1
        have I2 := fun W K O h => ih W K O x3 h lt2
        have w3 := H3.c3
        have zz3 := H3.z3
        have e1 := bZ.cell 1
        have e2 := bZ.cell 2
        simp only [List.getElem?_cons_zero, List.getElem?_cons_succ] at e1 e2
        have zB' := bZ.lt
        clear hZ hHP ih u1 y0 y0' y1 zf zc z0 c0 z1 z3 c1 c3
        go_upto_region 4 with ((with_reducible refine I1.mono ?_); rintro e w1 ⟨rfl, H4, st4⟩)
        have b4 := bZ.keep (st4.block B zB' (by simp [hBm, hBb]))
        have g3 := H4.c3
        have gz3 := H4.z3
        have g2 := b4.cell 2
        simp only [List.getElem?_cons_zero, List.getElem?_cons_succ] at g2
        have gB := b4.lt
        clear I1 w3 zz3 e1 e2 zB' bZ
        go_wp2_with ((with_reducible refine (I2 _ _ _ H4 ).mono ?_); rintro e w2 ⟨rfl, H5, st5⟩)
        go_returns
        exact ⟨rfl, H5, (StoStep.of_below hbU).trans ((StoStep.of_below hbY).trans (st3.trans (st4.trans st5)))⟩
end Go.Proofs.Ytboekafmplomhaa
