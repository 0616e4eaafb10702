/-
  A region that draws its order, whose head makes blocks of its own beside pure calls: walked once, in the order of the text; where the blocks lie is told at its end alone.
-/
import Derived.Test.YtboekafmplomhaaZV
import Derived.Test.YtboekafmplomhaaZDoC
import Derived.Laws.MakeOwn
import Derived.Laws.Rows
import Derived.Deep.WholeRow
import Derived.Test.YtboekafmplomhaaZQuantL
import Derived.Test.YtboekafmplomhaaZAny
import Derived.Test.YtboekafmplomhaaZLund
import Derived.Test.YtboekafmplomhaaZMeansR
set_option linter.unusedVariables false
set_option linter.unusedSimpArgs false
namespace Go
open Go.RowKit

section
variable {P : Program} {ops : Array Oper} {Q : Exit → Act → World → Prop} {W : World} {F : Act → Prop} {o : Oper} {r : List Oper} {a : Act} {v : Value} {G : Nat → Value → World → Prop}

/-- An operation; 'made': it makes a block, and what it gives hangs on when it comes up. -/
structure EntM where
  i : Nat
  o : Oper
  v : Value
  made : Bool

/-- In every world behind W the operation gives v, and makes no more than memory. -/
def G2 (P : Program) (W : World) (o : Oper) (v : Value) (a : Act) : Prop :=
  ∀ m d, match (execOp a.eval o).run P (W.ext m d) with
    | .ok (.value u) w' => u = v ∧ Ext (W.ext m d) w'
    | .ok .skip w' => undef = v ∧ Ext (W.ext m d) w'
    | .ok (.enter f args) w' => Calls P f args w' (fun e w'' => e = .returned v ∧ Ext (W.ext m d) w'')
    | _ => False
/-- The block that a value leads to. -/
def blkOf : Value → Nat
  | .pointer (some a) => a.block
  | .slice (some a) _ _ => a.block
  | .map (some b) => b
  | _ => 0
/-- It makes a block, of which G speaks. -/
def GK (P : Program) (W : World) (G : Nat → Value → World → Prop) (i : Nat) (o : Oper) (a : Act) : Prop :=
  ∀ m d, ∃ u w', (execOp a.eval o).run P (W.ext m d) = .ok (.value u) w' ∧ Ext (W.ext m d) w' ∧ G i u w' ∧ (W.ext m d).heap.size ≤ blkOf u ∧ blkOf u < w'.heap.size
def GivesM (P : Program) (ops : Array Oper) (W : World) (G : Nat → Value → World → Prop) (x : EntM) (a : Act) : Prop :=
  (x.made = true ∧ Region.wanted x.o (yielded ops a.tmps) = true ∧ GK P W G x.i x.o a) ∨
  (x.made = false ∧ ((Region.wanted x.o (yielded ops a.tmps) = true ∧ G2 P W x.o x.v a) ∨ (Region.wanted x.o (yielded ops a.tmps) = false ∧ x.v = undef)))
theorem GivesM.of_same {x : EntM} {a a' : Act} (h : GivesM P ops W G x a) (he : execOp a'.eval x.o = execOp a.eval x.o)
    (hw : Region.wanted x.o (yielded ops a'.tmps) = Region.wanted x.o (yielded ops a.tmps)) : GivesM P ops W G x a' := by
  unfold GivesM GK G2 at *; rw [he, hw]; exact h
def putM (x : EntM) (a : Act) : Act := if x.made then a else a.put x.o.dst x.v
def ChainM (P : Program) (ops : Array Oper) (W : World) (G : Nat → Value → World → Prop) : List EntM → Act → Prop
  | [], _ => True
  | x :: r, a => GivesM P ops W G x a ∧ ChainM P ops W G r (putM x a)
/-- All is put, the blocks that were made among it. -/
def putsM (us : Nat → Value) : List EntM → Act → Act
  | [], a => a
  | x :: r, a => putsM us r (a.put x.o.dst (if x.made then us x.i else x.v))

theorem execOp_putM (hsel : ∀ (j : Nat) (o : Oper) cs b, ops[j]? = some o → o.op ≠ .select cs b) {x y : EntM} (hx : ops[x.i]? = some x.o) (a : Act) (ap : ∀ u, execOp (a.put y.o.dst u).eval x.o = execOp a.eval x.o) : execOp (putM y a).eval x.o = execOp a.eval x.o := by
  unfold putM; split
  · rfl
  · exact ap _
theorem putM_comm {x y : EntM} (h : ∀ (a : Act) u v, (a.put x.o.dst u).put y.o.dst v = (a.put y.o.dst v).put x.o.dst u) (a : Act) : putM y (putM x a) = putM x (putM y a) := by
  unfold putM
  by_cases h1 : x.made = true <;> by_cases h2 : y.made = true <;> simp [h1, h2]
  exact h a _ _

/-- Two that are apart: neither reads what the other one gives. -/
structure Far (ops : Array Oper) (x y : EntM) : Prop where
  comm : ∀ (a : Act) u v, (a.put x.o.dst u).put y.o.dst v = (a.put y.o.dst v).put x.o.dst u
  ex : ∀ (a : Act) u, execOp (a.put y.o.dst u).eval x.o = execOp a.eval x.o
  wx : ∀ (a : Act) u, Region.wanted x.o (yielded ops (a.put y.o.dst u).tmps) = Region.wanted x.o (yielded ops a.tmps)
  ey : ∀ (a : Act) u, execOp (a.put x.o.dst u).eval y.o = execOp a.eval y.o
  wy : ∀ (a : Act) u, Region.wanted y.o (yielded ops (a.put x.o.dst u).tmps) = Region.wanted y.o (yielded ops a.tmps)
theorem far_of (hsel : ∀ (j : Nat) (o : Oper) cs b, ops[j]? = some o → o.op ≠ .select cs b) {x y : EntM} (hx : ops[x.i]? = some x.o) (hy : ops[y.i]? = some y.o) (hap : x.o.apart ops y.o = true) : Far ops x y := by
  obtain ⟨ap1, ap2, ap3⟩ := Oper.apart_spec hap
  exact ⟨fun a u v => Act.put_comm a _ _ ap2, fun a u => execOp_put x.o (fun cs b => hsel x.i x.o cs b hx) a y.o.dst u ap3, fun a u => wanted_put x.o a y.o.dst u ap3,
    fun a u => execOp_put y.o (fun cs b => hsel y.i y.o cs b hy) a x.o.dst u ap1, fun a u => wanted_put y.o a x.o.dst u ap1⟩
theorem Far.symm {x y : EntM} (h : Far ops x y) : Far ops y x := ⟨fun a u v => (h.comm a v u).symm, h.ey, h.wy, h.ex, h.wx⟩
theorem Far.gives {x y : EntM} (h : Far ops x y) {a : Act} (u : Value) : GivesM P ops W G x (a.put y.o.dst u) ↔ GivesM P ops W G x a :=
  ⟨fun g => g.of_same (h.ex a u).symm (h.wx a u).symm, fun g => g.of_same (h.ex a u) (h.wx a u)⟩
theorem Far.givesM {x y : EntM} (h : Far ops x y) {a : Act} : GivesM P ops W G x (putM y a) ↔ GivesM P ops W G x a := by
  unfold putM; split
  · exact Iff.rfl
  · exact h.gives _

theorem chainM_front (x : EntM) (l2 : List EntM) : ∀ (l1 : List EntM) (a : Act), (∀ y ∈ l1, Far ops y x) → ChainM P ops W G (l1 ++ x :: l2) a → ChainM P ops W G (x :: (l1 ++ l2)) a
  | [], a, _, h => h
  | y :: l1, a, hy, ⟨h0, h1⟩ => by
    obtain ⟨h2, h3⟩ := chainM_front x l2 l1 _ (fun z hz => hy z (List.mem_cons_of_mem _ hz)) h1
    have hf := hy y (List.mem_cons_self ..)
    refine ⟨hf.symm.givesM.1 h2, hf.givesM.2 h0, ?_⟩
    rw [← putM_comm hf.comm]; exact h3
theorem putsM_front (us : Nat → Value) (x : EntM) (l2 : List EntM) : ∀ (l1 : List EntM) (a : Act), (∀ y ∈ l1, Far ops y x) → putsM us (l1 ++ x :: l2) a = putsM us (x :: (l1 ++ l2)) a
  | [], a, _ => rfl
  | y :: l1, a, hy => by
    have hf := hy y (List.mem_cons_self ..)
    simp only [List.cons_append, putsM]
    rw [putsM_front us x l2 l1 _ (fun z hz => hy z (List.mem_cons_of_mem _ hz))]
    simp only [putsM]
    rw [hf.comm]
/-- What nothing reads may be put ahead. -/
theorem chainM_put (x : EntM) (u : Value) : ∀ (l : List EntM) (a : Act), (∀ y ∈ l, Far ops y x) → ChainM P ops W G l a → ChainM P ops W G l (a.put x.o.dst u)
  | [], _, _, _ => trivial
  | y :: r, a, hy, ⟨h0, h1⟩ => by
    have hf := hy y (List.mem_cons_self ..)
    refine ⟨(hf.gives u).2 h0, ?_⟩
    have := chainM_put x u r _ (fun z hz => hy z (List.mem_cons_of_mem _ hz)) h1
    have e : putM y (a.put x.o.dst u) = (putM y a).put x.o.dst u := by
      unfold putM; split
      · rfl
      · exact (hf.comm a _ _).symm
    rw [e]; exact this
theorem putsM_congr (us us' : Nat → Value) : ∀ (l : List EntM) (a : Act), (∀ x ∈ l, x.made = true → us x.i = us' x.i) → putsM us l a = putsM us' l a
  | [], _, _ => rfl
  | x :: r, a, h => by
    simp only [putsM]
    rw [putsM_congr us us' r _ (fun y hy => h y (List.mem_cons_of_mem _ hy))]
    congr 2
    by_cases e : x.made = true
    · simp only [e, if_true]; exact h x (List.mem_cons_self ..) e
    · simp [e]

def setsM : List EntM → Array Bool → Array Bool
  | [], l => l
  | x :: r, l => setsM r (l.setIfInBounds x.i true)
theorem setsM_front (x : EntM) (l2 : List EntM) : ∀ (l1 : List EntM) (b : Array Bool), (∀ y ∈ l1, y.i ≠ x.i) → setsM (l1 ++ x :: l2) b = setsM (l1 ++ l2) (b.setIfInBounds x.i true)
  | [], _, _ => rfl
  | y :: r, b, h => by
    simp only [List.cons_append, setsM]
    rw [setsM_front x l2 r _ (fun z hz => h z (List.mem_cons_of_mem _ hz)), Array.setIfInBounds_comm _ _ (h y (List.mem_cons_self ..))]
theorem setsM_size : ∀ (l : List EntM) (b : Array Bool), (setsM l b).size = b.size
  | [], _ => rfl
  | x :: r, b => by simp only [setsM]; rw [setsM_size r]; simp
theorem getD_setsM : ∀ (l : List EntM) (b : Array Bool) (j : Nat) (d : Bool), j < b.size → (setsM l b).getD j d = if j ∈ l.map (·.i) then true else b.getD j d
  | [], b, j, d, h => by simp [setsM]
  | x :: r, b, j, d, h => by
    simp only [setsM]
    rw [getD_setsM r _ j d (by simpa using h)]
    by_cases hj : j ∈ r.map (·.i)
    · rw [if_pos hj, if_pos (by simp only [List.map_cons]; exact List.mem_cons_of_mem _ hj)]
    · rw [if_neg hj]
      by_cases hx : x.i = j
      · subst hx; rw [if_pos (by simp)]; simp [h]
      · rw [if_neg (by simp only [List.map_cons, List.mem_cons, not_or]; exact ⟨fun e => hx e.symm, hj⟩)]
        exact getD_set_ne d hx

theorem any_of_chainM {md : Region.Mode} (hsel : ∀ (j : Nat) (o : Oper) cs b, ops[j]? = some o → o.op ≠ .select cs b) (n0 g : Nat) (ht : tailOk md ops n0 = true) (hG : ∀ z v w m d, G z v w → G z v (w.ext m d)) :
    ∀ (n : Nat) (l : List EntM) (listed : Array Bool) (a : Act) (H : World → Prop) (N : Nat), l.length = n → listed.size = ops.size →
      (∀ x ∈ l, ops[x.i]? = some x.o ∧ listed.getD x.i true = false) → l.Pairwise (fun x y => x.i ≠ y.i) →
      (∀ j, j < n0 → listed.getD j true = false → ∃ x ∈ l, x.i = j) → (∀ x ∈ l, x.i < n0) →
      l.Pairwise (fun x y => (x.made = false ∧ y.made = false ∧ x.i ∈ deps md ops y.i) ∨ Far ops x y) →
      (∀ l1 x l2, l = l1 ++ x :: l2 → ∀ k ∈ deps md ops x.i, listed.getD k false = true ∨ ∃ y ∈ l1, y.i = k) →
      Down md ops listed → (∀ w m d, H w → H (w.ext m d)) →
      ChainM P ops W G l a → (∀ us w, Ext W w → H w → (∀ x ∈ l, x.made = true → G x.i (us x.i) w ∧ N ≤ blkOf (us x.i)) → (∀ x ∈ l, ∀ y ∈ l, x.made = true → y.made = true → x.i ≠ y.i → blkOf (us x.i) ≠ blkOf (us y.i)) → wpAny P md ops Q g (setsM l listed) (putsM us l a) w) →
      ∀ w, Ext W w → H w → N ≤ w.heap.size → wpAny P md ops Q (n + g) listed a w := by
  intro n
  induction n with
  | zero =>
    intro l listed a H N hl hsz _ _ hall _ _ _ _ _ _ hQ w hE hH hN
    obtain rfl := List.length_eq_zero_iff.1 hl
    rw [Nat.zero_add]
    exact hQ (fun _ => undef) w hE hH (fun x hx => by cases hx) (fun x hx => by cases hx)
  | succ n ih =>
    intro l listed a H N hl hsz hent hnd hall hbig hpair hord hdown hHe hch hQ w hE hH hN
    have hne : l ≠ [] := fun e => by simp [e] at hl
    rw [show n + 1 + g = (n + g) + 1 by omega]
    refine ⟨fun h => ?_, fun j hj => ?_⟩
    · cases l with
      | nil => exact absurd rfl hne
      | cons x r =>
        have hx := hent x (List.mem_cons_self ..)
        have : x.i ∈ Region.ready md ops listed := (ready_of hx.1).2 ⟨hx.2, fun k hk => by
          rcases hord [] x r rfl k hk with h' | ⟨y, hy, _⟩
          · exact h'
          · cases hy⟩
        rw [h] at this; cases this
    · have hjun := (mem_ready.1 hj).1
      have hjn : j < n0 := by
        rcases Nat.lt_or_ge j n0 with h | h
        · exact h
        · exfalso
          cases l with
          | nil => exact hne rfl
          | cons x r =>
            have h1 := tail_unready ht hdown hj h x.i (hbig x (List.mem_cons_self ..))
            have h2 := (hent x (List.mem_cons_self ..)).2
            rcases Nat.lt_or_ge x.i listed.size with h' | h'
            · simp [h'] at h1 h2; rw [h2] at h1; cases h1
            · simp [Array.getElem?_eq_none h'] at h1
      obtain ⟨x, hx, rfl⟩ := hall j hjn hjun
      obtain ⟨l1, l2, rfl⟩ := List.append_of_mem hx
      have hxo := (hent x hx).1
      have hxd := ((ready_of hxo).1 hj).2
      have hap : ∀ y ∈ l1, Far ops y x := fun y hy => by
        have := (List.pairwise_append.1 hpair).2.2 y hy x (by simp)
        rcases this with ⟨_, _, h⟩ | h
        · have h1 := hxd _ h
          have h2 := (hent y (by simp [hy])).2
          exfalso
          rcases Nat.lt_or_ge y.i listed.size with h' | h'
          · simp [h'] at h1 h2; rw [h2] at h1; cases h1
          · simp [Array.getElem?_eq_none h'] at h1
        · exact h
      have hap2 : x.made = true → ∀ y ∈ l1 ++ l2, Far ops y x := fun hmk y hy => by
        rcases List.mem_append.1 hy with h | h
        · exact hap y h
        · rcases (List.pairwise_cons.1 (List.pairwise_append.1 hpair).2.1).1 y h with ⟨h', _⟩ | h'
          · rw [hmk] at h'; cases h'
          · exact h'.symm
      obtain ⟨hg, hch'⟩ := chainM_front x l2 l1 a hap hch
      have hne' : ∀ y ∈ l1 ++ l2, y.i ≠ x.i := fun y hy => by
        rcases List.mem_append.1 hy with h | h
        · exact (List.pairwise_append.1 hnd).2.2 y h x (by simp)
        · exact fun e => (List.pairwise_cons.1 (List.pairwise_append.1 hnd).2.1).1 y h e.symm
      have hsub : (l1 ++ l2).Sublist (l1 ++ x :: l2) := (List.sublist_cons_self x l2).append_left l1
      have hsets := setsM_front x l2 l1 listed (fun y hy => hne' y (List.mem_append_left _ hy))
      have step : ∀ (u : Value) (H' : World → Prop) (N' : Nat), (∀ w m d, H' w → H' (w.ext m d)) → ChainM P ops W G (l1 ++ l2) (a.put x.o.dst u) →
          (∀ us w, Ext W w → H' w → (∀ y ∈ l1 ++ l2, y.made = true → G y.i (us y.i) w ∧ N' ≤ blkOf (us y.i)) → (∀ y ∈ l1 ++ l2, ∀ z ∈ l1 ++ l2, y.made = true → z.made = true → y.i ≠ z.i → blkOf (us y.i) ≠ blkOf (us z.i)) → wpAny P md ops Q g (setsM (l1 ++ l2) (listed.setIfInBounds x.i true)) (putsM us (l1 ++ l2) (a.put x.o.dst u)) w) →
          ∀ w, Ext W w → H' w → N' ≤ w.heap.size → wpAny P md ops Q (n + g) (listed.setIfInBounds x.i true) (a.put x.o.dst u) w := by
        intro u H' N' hH' hcM hq
        refine ih (l1 ++ l2) (listed.setIfInBounds x.i true) (a.put x.o.dst u) H' N' (by simp at hl ⊢; omega) (by simpa using hsz) ?_ (hnd.sublist hsub) ?_ ?_ (hpair.sublist hsub) ?_ ?_ hH' hcM hq
        · intro y hy
          obtain ⟨h1, h2⟩ := hent y (hsub.subset hy)
          exact ⟨h1, by rw [getD_set_ne true (Ne.symm (hne' y hy))]; exact h2⟩
        · intro k hkn hk
          obtain ⟨hkx, hk'⟩ := getD_set_self hk
          obtain ⟨y, hy, rfl⟩ := hall k hkn hk'
          refine ⟨y, ?_, rfl⟩
          rcases List.mem_append.1 hy with h | h
          · exact List.mem_append_left _ h
          · rcases List.mem_cons.1 h with rfl | h
            · exact absurd rfl hkx
            · exact List.mem_append_right _ h
        · intro y hy; exact hbig y (hsub.subset hy)
        · intro m1 y m2 hm k hk
          have key : listed.getD k false = true ∨ (∃ z ∈ m1, z.i = k) ∨ x.i = k := by
            rcases List.append_eq_append_iff.1 hm with ⟨c, rfl, hc⟩ | ⟨c, rfl, hc⟩
            · rcases hord (l1 ++ x :: c) y m2 (by rw [hc]; simp) k hk with h | ⟨z, hz, rfl⟩
              · exact .inl h
              · simp only [List.mem_append, List.mem_cons] at hz
                rcases hz with h | rfl | h
                · exact .inr (.inl ⟨z, by simp [h], rfl⟩)
                · exact .inr (.inr rfl)
                · exact .inr (.inl ⟨z, by simp [h], rfl⟩)
            · cases c with
              | nil =>
                simp only [List.nil_append] at hc
                simp only [List.append_nil] at hord
                rcases hord (m1 ++ [x]) y m2 (by rw [← hc]; simp) k hk with h | ⟨z, hz, rfl⟩
                · exact .inl h
                · simp only [List.mem_append, List.mem_singleton] at hz
                  rcases hz with h | rfl
                  · exact .inr (.inl ⟨z, h, rfl⟩)
                  · exact .inr (.inr rfl)
              | cons c0 c =>
                simp only [List.cons_append, List.cons.injEq] at hc
                obtain ⟨rfl, hc⟩ := hc
                rcases hord m1 y (c ++ x :: l2) (by simp) k hk with h | ⟨z, hz, rfl⟩
                · exact .inl h
                · exact .inr (.inl ⟨z, hz, rfl⟩)
          rcases key with h | h | rfl
          · exact .inl (getD_set_true h)
          · exact .inr h
          · refine .inl ?_
            have h2 := (hent x hx).2
            rcases Nat.lt_or_ge x.i listed.size with h' | h'
            · simp [h']
            · simp [Array.getElem?_eq_none h'] at h2
        · intro i hi k hk
          by_cases hix : i = x.i
          · subst hix; exact getD_set_true (hxd k hk)
          · rw [getD_set_ne false (Ne.symm hix)] at hi
            exact getD_set_true (hdown i hi k hk)
      unfold Go.wpOp
      simp only [hxo]
      obtain ⟨m, d, rfl⟩ := hE
      rcases hg with ⟨hmk, hw, hk⟩ | ⟨hmk, ⟨hw, hv⟩ | ⟨hw, hu⟩⟩
      · -- a block is made
        simp only [hw, if_true]
        refine .inl ?_
        obtain ⟨u, w', hrun, hE', hGu, hb1, hb2⟩ := hk m d
        unfold Oper.wp
        rw [hrun]
        simp only [Oper.upon]
        have hE2 : Ext W w' := by obtain ⟨m', d', rfl⟩ := hE'; exact ⟨_, _, World.ext_ext _ _ _ _ _⟩
        have hH2 : H w' := by obtain ⟨m', d', rfl⟩ := hE'; exact hHe _ _ _ hH
        have hpm : putM x a = a := by unfold putM; rw [if_pos hmk]
        rw [hpm] at hch'
        refine step u (fun w => H w ∧ G x.i u w) w'.heap.size (fun w m d h => ⟨hHe _ _ _ h.1, hG _ _ _ _ _ h.2⟩) (chainM_put x u _ _ (hap2 hmk) hch') ?_ w' hE2 ⟨hH2, hGu⟩ (Nat.le_refl _)
        intro us w1 hE1 ⟨hH1, hG1⟩ hGs hDs
        have split : ∀ y, y ∈ l1 ++ x :: l2 → y = x ∨ (y ∈ l1 ++ l2 ∧ y.i ≠ x.i) := fun y hy => by
          rcases List.mem_append.1 hy with h | h
          · exact .inr ⟨List.mem_append_left _ h, hne' y (List.mem_append_left _ h)⟩
          · rcases List.mem_cons.1 h with rfl | h
            · exact .inl rfl
            · exact .inr ⟨List.mem_append_right _ h, hne' y (List.mem_append_right _ h)⟩
        have := hQ (fun k => if k = x.i then u else us k) w1 hE1 hH1 (fun y hy hmy => by
          rcases split y hy with rfl | ⟨h, h'⟩
          · simp only [if_true]; exact ⟨hG1, Nat.le_trans hN hb1⟩
          · simp only [h', if_false]
            obtain ⟨q1, q2⟩ := hGs y h hmy
            exact ⟨q1, by omega⟩) (fun y hy z hz hmy hmz hyz => by
          rcases split y hy with rfl | ⟨h, h'⟩
          · rcases split z hz with rfl | ⟨k, k'⟩
            · exact absurd rfl hyz
            · simp only [if_true, k', if_false]
              have := (hGs z k hmz).2
              omega
          · rcases split z hz with rfl | ⟨k, k'⟩
            · simp only [if_true, h', if_false]
              have := (hGs y h hmy).2
              omega
            · simp only [h', k', if_false]
              exact hDs y h z k hmy hmz hyz)
        rw [hsets, putsM_front _ x l2 l1 a hap] at this
        simp only [putsM, hmk, if_true] at this
        rw [putsM_congr _ us (l1 ++ l2) _ (fun y hy _ => by simp [hne' y hy])] at this
        exact this
      · -- a fixed value
        simp only [hw, if_true]
        refine .inl ?_
        have hpm : putM x a = a.put x.o.dst x.v := by unfold putM; rw [if_neg (by rw [hmk]; simp)]
        rw [hpm] at hch'
        have fin : ∀ w', Ext (W.ext m d) w' → wpAny P md ops Q (n + g) (listed.setIfInBounds x.i true) (a.put x.o.dst x.v) w' := by
          rintro w' ⟨m', d', rfl⟩
          refine step x.v H N hHe hch' ?_ _ ⟨_, _, World.ext_ext _ _ _ _ _⟩ (hHe _ _ _ hH) (by simp at hN ⊢; omega)
          intro us w1 hE1 hH1 hGs hDs
          have mem : ∀ y, y ∈ l1 ++ x :: l2 → y.made = true → y ∈ l1 ++ l2 := fun y hy hmy => by
            rcases List.mem_append.1 hy with h | h
            · exact List.mem_append_left _ h
            · rcases List.mem_cons.1 h with rfl | h
              · rw [hmk] at hmy; cases hmy
              · exact List.mem_append_right _ h
          have := hQ us w1 hE1 hH1 (fun y hy hmy => hGs y (mem y hy hmy) hmy) (fun y hy z hz hmy hmz hyz => hDs y (mem y hy hmy) z (mem z hz hmz) hmy hmz hyz)
          rw [hsets, putsM_front _ x l2 l1 a hap] at this
          simp only [putsM, hmk, Bool.false_eq_true, if_false] at this
          exact this
        have := hv m d
        unfold Oper.wp
        generalize (execOp a.eval x.o).run P (W.ext m d) = q at *
        cases q with
        | halt y w' => exact this.elim
        | ok nx w' =>
          cases nx <;> simp only [Oper.upon] at this ⊢
          case value u => obtain ⟨rfl, h2⟩ := this; exact fin _ h2
          case skip => obtain ⟨h1, h2⟩ := this; rw [h1]; exact fin _ h2
          case enter f args =>
            refine Calls.mono this fun e w'' he => ?_
            obtain ⟨rfl, h2⟩ := he
            exact fin _ h2
      · simp only [hw, Bool.false_eq_true, if_false]
        have hpm : putM x a = a.put x.o.dst x.v := by unfold putM; rw [if_neg (by rw [hmk]; simp)]
        rw [hpm] at hch'
        rw [← hu]
        refine step x.v H N hHe hch' ?_ _ ⟨m, d, rfl⟩ hH hN
        intro us w1 hE1 hH1 hGs hDs
        have mem : ∀ y, y ∈ l1 ++ x :: l2 → y.made = true → y ∈ l1 ++ l2 := fun y hy hmy => by
          rcases List.mem_append.1 hy with h | h
          · exact List.mem_append_left _ h
          · rcases List.mem_cons.1 h with rfl | h
            · rw [hmk] at hmy; cases hmy
            · exact List.mem_append_right _ h
        have := hQ us w1 hE1 hH1 (fun y hy hmy => hGs y (mem y hy hmy) hmy) (fun y hy z hz hmy hmz hyz => hDs y (mem y hy hmy) z (mem z hz hmz) hmy hmz hyz)
        rw [hsets, putsM_front _ x l2 l1 a hap] at this
        simp only [putsM, hmk, Bool.false_eq_true, if_false] at this
        exact this

/-- The walk of the head in the text's order: 'zs' are the numbers that make blocks. -/
def TextM (P : Program) (ops : Array Oper) (W : World) (zs : List Nat) (G : Nat → Value → World → Prop) (F : Act → Prop) : Nat → List Oper → Act → Prop
  | _, [], a => F a
  | k, o :: r, a =>
    (zs.contains k = true ∧ Region.wanted o (yielded ops a.tmps) = true ∧ GK P W G k o a ∧ TextM P ops W zs G F (k + 1) r a) ∨
    (zs.contains k = false ∧ ∃ v, ((Region.wanted o (yielded ops a.tmps) = true ∧ G2 P W o v a) ∨ (Region.wanted o (yielded ops a.tmps) = false ∧ v = undef)) ∧ TextM P ops W zs G F (k + 1) r (a.put o.dst v))
theorem tm_val {zs : List Nat} {k : Nat} (hk : zs.contains k = false) (hg : Region.wanted o (yielded ops a.tmps) = true) (h : ∀ m d, (execOp a.eval o).run P (W.ext m d) = .ok (.value v) (W.ext m d))
    (c : TextM P ops W zs G F (k + 1) r (a.put o.dst v)) : TextM P ops W zs G F k (o :: r) a :=
  .inr ⟨hk, v, .inl ⟨hg, fun m d => by rw [h m d]; exact ⟨rfl, Ext.refl _⟩⟩, c⟩
theorem tm_call {zs : List Nat} {k : Nat} {f : FuncId} {args : Array Value} (hk : zs.contains k = false) (hg : Region.wanted o (yielded ops a.tmps) = true) (h : ∀ m d, (execOp a.eval o).run P (W.ext m d) = .ok (.enter f args) (W.ext m d))
    (hc : ∀ m d, Calls P f args (W.ext m d) (Pure v (W.ext m d))) (c : TextM P ops W zs G F (k + 1) r (a.put o.dst v)) : TextM P ops W zs G F k (o :: r) a :=
  .inr ⟨hk, v, .inl ⟨hg, fun m d => by rw [h m d]; exact (hc m d).mono fun e w' ⟨he, m', d', hw⟩ => ⟨he, m', d', hw⟩⟩, c⟩
theorem tm_skip {zs : List Nat} {k : Nat} (hk : zs.contains k = false) (hg : Region.wanted o (yielded ops a.tmps) = false) (c : TextM P ops W zs G F (k + 1) r (a.put o.dst undef)) : TextM P ops W zs G F k (o :: r) a :=
  .inr ⟨hk, undef, .inr ⟨hg, rfl⟩, c⟩
theorem tm_make {zs : List Nat} {k : Nat} (hk : zs.contains k = true) (hg : Region.wanted o (yielded ops a.tmps) = true) (h : GK P W G k o a) (c : TextM P ops W zs G F (k + 1) r a) : TextM P ops W zs G F k (o :: r) a := .inl ⟨hk, hg, h, c⟩
theorem tm_nil {zs : List Nat} {k : Nat} (c : F a) : TextM P ops W zs G F k [] a := c

/-- The made blocks' slots are set. -/
def setAll (ops : Array Oper) (us : Nat → Value) : List Nat → Act → Act
  | [], a => a
  | z :: r, a => setAll ops us r (a.put ((ops[z]?).bind (·.dst)) (us z))
def endM : List EntM → Act → Act
  | [], a => a
  | x :: r, a => endM r (putM x a)

theorem walk_m {zs : List Nat} : ∀ (os : List Oper) (k : Nat) (a : Act), TextM P ops W zs G F k os a →
    ∃ l : List EntM, l.map (·.i) = List.range' k os.length ∧ l.map (·.o) = os ∧ (∀ x ∈ l, x.made = zs.contains x.i) ∧ ChainM P ops W G l a ∧ F (endM l a)
  | [], k, a, h => ⟨[], by simp, rfl, (fun x hx => by cases hx), trivial, h⟩
  | o :: r, k, a, .inl ⟨hk, hg, hm, h⟩ => by
    obtain ⟨l, h1, h2, h3, h4, h5⟩ := walk_m r (k + 1) _ h
    refine ⟨⟨k, o, undef, true⟩ :: l, by simp [h1, List.range'_succ], by simp [h2], fun x hx => ?_, ⟨.inl ⟨rfl, hg, hm⟩, h4⟩, h5⟩
    rcases List.mem_cons.1 hx with rfl | hx
    · exact hk.symm
    · exact h3 x hx
  | o :: r, k, a, .inr ⟨hk, v, hg, h⟩ => by
    obtain ⟨l, h1, h2, h3, h4, h5⟩ := walk_m r (k + 1) _ h
    refine ⟨⟨k, o, v, false⟩ :: l, by simp [h1, List.range'_succ], by simp [h2], fun x hx => ?_, ⟨.inr ⟨rfl, hg⟩, h4⟩, h5⟩
    rcases List.mem_cons.1 hx with rfl | hx
    · exact hk.symm
    · exact h3 x hx

/-- What makes blocks is apart from all else of the head. -/
def makesOk (ops : Array Oper) (n : Nat) (zs : List Nat) : Bool :=
  (List.range n).all fun j => (List.range j).all fun i => if zs.contains i || zs.contains j then (match ops[i]?, ops[j]? with | some x, some y => x.apart ops y | _, _ => false) else true

theorem putsM_end (us : Nat → Value) : ∀ (l : List EntM) (a : Act), l.Pairwise (fun x y => (x.made = false ∧ y.made = false) ∨ Far ops x y) → (∀ x ∈ l, ops[x.i]? = some x.o) →
    putsM us l a = setAll ops us ((l.filter (·.made)).map (·.i)) (endM l a)
  | [], a, _, _ => rfl
  | x :: r, a, hp, ho => by
    obtain ⟨hp1, hp2⟩ := List.pairwise_cons.1 hp
    have ih := fun a => putsM_end us r a hp2 (fun y hy => ho y (List.mem_cons_of_mem _ hy))
    simp only [putsM]
    cases hm : x.made with
    | false =>
      rw [List.filter_cons_of_neg (by rw [hm]; simp)]
      simp only [Bool.false_eq_true, if_false]
      rw [ih]
      simp only [endM, putM, hm, Bool.false_eq_true, if_false]
    | true =>
      rw [List.filter_cons_of_pos (by rw [hm])]
      simp only [if_true, List.map_cons, setAll, endM, putM, hm]
      rw [ih]
      have hxo := ho x (List.mem_cons_self ..)
      rw [hxo]
      simp only [Option.bind_some]
      congr 1
      -- the put of x goes past all others
      have key : ∀ (l : List EntM) (a : Act), (∀ y ∈ l, Far ops x y) → endM l (a.put x.o.dst (us x.i)) = (endM l a).put x.o.dst (us x.i) := by
        intro l
        induction l with
        | nil => intro a _; rfl
        | cons y r ih2 =>
          intro a hy
          have hf := hy y (List.mem_cons_self ..)
          simp only [endM]
          have e : putM y (a.put x.o.dst (us x.i)) = (putM y a).put x.o.dst (us x.i) := by
            unfold putM; split
            · rfl
            · exact hf.comm a _ _
          rw [e]
          exact ih2 _ (fun z hz => hy z (List.mem_cons_of_mem _ hz))
      exact key r a (fun y hy => by
        rcases hp1 y hy with ⟨h, _⟩ | h
        · rw [hm] at h; cases h
        · exact h)

theorem wp_region_makes {id : Nat} (n : Nat) (zs : List Nat) (G : Nat → Value → World → Prop) (hm : P.follows .mixedOrders = true) (hok : textOk .any ops = true) (ht : tailOk .any ops n = true) (hn : decide (n ≤ ops.size) = true)
    (hseq : Region.seqB .any ops (ops.size - n) n (listedUpto ops n) = true) (hz : makesOk ops n zs = true) (hzs : (List.range n).filter (fun k => zs.contains k) = zs) (hG : ∀ z v w m d, G z v w → G z v (w.ext m d))
    (h : ∀ F : Act → Prop, (∀ a', (∀ us m d, (∀ z ∈ zs, G z (us z) (W.ext m d) ∧ W.heap.size ≤ blkOf (us z)) → (∀ z ∈ zs, ∀ y ∈ zs, z ≠ y → blkOf (us z) ≠ blkOf (us y)) → wpList P ops Q (ops.toList.drop n) (setAll ops us zs a') (W.ext m d)) → F a') → TextM P ops W zs G F 0 (ops.toList.take n) a) :
    (Code.region id ops true).wp P Q a W := by
  obtain ⟨l, h1, h2, h3, h4, h5⟩ := walk_m _ 0 _ (h (fun a' => ∀ us m d, (∀ z ∈ zs, G z (us z) (W.ext m d) ∧ W.heap.size ≤ blkOf (us z)) → (∀ z ∈ zs, ∀ y ∈ zs, z ≠ y → blkOf (us z) ≠ blkOf (us y)) → wpList P ops Q (ops.toList.drop n) (setAll ops us zs a') (W.ext m d)) (fun _ h => h))
  refine wp_region_any hm ?_
  simp only [textOk, Bool.and_eq_true, Bool.or_eq_true, List.all_eq_true, List.mem_range, decide_eq_true_eq] at hok hn
  obtain ⟨⟨hs, hlt⟩, hpr⟩ := hok
  have hlen : l.length = n := by
    have := congrArg List.length h2
    simpa [hn] using this
  have htk : (ops.toList.take n).length = n := by simp [hn]
  rw [htk] at h1
  have hat : ∀ (j : Nat) (hj : j < l.length), l[j].i = j ∧ ops[j]? = some l[j].o := fun j hj => by
    constructor
    · have e1 : (l.map (·.i))[j]? = (List.range' 0 n)[j]? := by rw [h1]
      simp only [List.getElem?_map, List.getElem?_eq_getElem hj, Option.map_some] at e1
      rw [List.getElem?_range' (by omega)] at e1
      simpa using e1
    · have e2 : (l.map (·.o))[j]? = (ops.toList.take n)[j]? := by rw [h2]
      simp only [List.getElem?_map, List.getElem?_eq_getElem hj, Option.map_some] at e2
      rw [List.getElem?_take_of_lt (by omega)] at e2
      simpa using e2.symm
  have hmem : ∀ x ∈ l, x.i < n ∧ ops[x.i]? = some x.o := fun x hx => by
    obtain ⟨j, hj, rfl⟩ := List.getElem_of_mem hx
    obtain ⟨e1, e2⟩ := hat j hj
    rw [e1]; exact ⟨by omega, e2⟩
  have hdn : ∀ i k, k ∈ deps .any ops i → k < i := fun i k hk => by
    by_cases hi : i < ops.size
    · exact hlt i hi k hk
    · simp [deps, Array.getElem?_eq_none (Nat.le_of_not_lt hi)] at hk
  have hrep : ∀ j d, (Array.replicate ops.size false).getD j d = true → d = true := fun j d hd => by
    by_cases hj : j < ops.size
    · simp [hj] at hd
    · simpa [hj] using hd
  have hfin : setsM l (Array.replicate ops.size false) = listedUpto ops n := by
    apply Array.ext
    · rw [setsM_size]; simp [listedUpto]
    · intro j hj1 hj2
      rw [setsM_size] at hj1
      have e := getD_setsM l (Array.replicate ops.size false) j false hj1
      rw [h1] at e
      have hjs : j < ops.size := by simpa using hj1
      simp only [Array.getD_eq_getD_getElem?] at e
      rw [Array.getElem?_eq_getElem (by rw [setsM_size]; exact hj1)] at e
      simp only [Option.getD_some] at e
      rw [e]
      simp [listedUpto, hjs]
  have hsel := Region.noSelect_spec hs
  have hfar : l.Pairwise (fun x y => (x.made = false ∧ y.made = false ∧ x.i ∈ deps .any ops y.i) ∨ Far ops x y) := by
    rw [List.pairwise_iff_getElem]
    intro i j hi hj hij
    obtain ⟨e1, e2⟩ := hat i hi
    obtain ⟨e3, e4⟩ := hat j hj
    have hx := (hmem _ (List.getElem_mem hi)).2
    have hy := (hmem _ (List.getElem_mem hj)).2
    have hpr' := hpr j (by omega) i hij
    rw [e2, e4] at hpr'
    have m1 := h3 _ (List.getElem_mem hi)
    have m2 := h3 _ (List.getElem_mem hj)
    rw [e1] at m1
    rw [e3] at m2
    simp only [makesOk, List.all_eq_true, List.mem_range] at hz
    have hz' := hz j (by omega) i hij
    rw [e2, e4] at hz'
    by_cases hmk : (zs.contains i || zs.contains j) = true
    · rw [if_pos hmk] at hz'
      exact .inr (far_of hsel hx hy hz')
    · have hmk' : zs.contains i = false ∧ zs.contains j = false := by
        simp only [Bool.or_eq_true, not_or, Bool.not_eq_true] at hmk; exact hmk
      rcases hpr' with h' | h'
      · refine .inl ⟨m1.trans hmk'.1, m2.trans hmk'.2, ?_⟩
        rw [e1, e3]; simpa using h'
      · exact .inr (far_of hsel hx hy h')
  have hputs := fun us a => putsM_end (ops := ops) us l a (hfar.imp (fun h => h.elim (fun q => .inl ⟨q.1, q.2.1⟩) .inr)) (fun x hx => (hmem x hx).2)
  have hmade : (l.filter (·.made)).map (·.i) = zs := by
    have e : l.filter (·.made) = l.filter (fun x => zs.contains x.i) := List.filter_congr h3
    rw [e]
    have : (l.filter (fun x => zs.contains x.i)).map (·.i) = (l.map (·.i)).filter (fun k => zs.contains k) := by rw [List.filter_map]; rfl
    rw [this, h1, ← List.range_eq_range']
    exact hzs
  have key := any_of_chainM (P := P) (Q := Q) (md := .any) (G := G) (W := W) hsel n (ops.size - n) ht hG n l (Array.replicate ops.size false) a (fun _ => True) W.heap.size hlen (by simp) (fun x hx => by
      obtain ⟨e1, e2⟩ := hmem x hx
      exact ⟨e2, by simp [show x.i < ops.size by omega]⟩) (by
      have : (l.map (·.i)).Pairwise (· ≠ ·) := by rw [h1]; exact List.nodup_range'
      exact List.pairwise_map.1 this) (fun j hj _ => ⟨l[j]'(by omega), List.getElem_mem _, (hat j (by omega)).1⟩) (fun x hx => (hmem x hx).1) hfar (by
      intro l1 x l2 hl k hk
      right
      have hxi : x.i = l1.length := by
        have hj : l1.length < l.length := by rw [hl]; simp
        have := (hat l1.length hj).1
        simpa [hl] using this
      have hkx := hdn _ _ hk
      refine ⟨l[k]'(by rw [hl]; simp; omega), ?_, (hat k _).1⟩
      have hkl : k < l1.length := by omega
      simp only [hl]
      rw [List.getElem_append_left hkl]
      exact List.getElem_mem _) (fun i hi => absurd (hrep i false hi) (by simp)) (fun _ _ _ _ => trivial) h4 (by
      rintro us w1 ⟨m1, d1, rfl⟩ _ hGs hDs
      have hzx : ∀ z ∈ zs, ∃ x ∈ l, x.made = true ∧ x.i = z := fun z hzm => by
        rw [← hmade] at hzm
        obtain ⟨x, hx, rfl⟩ := List.mem_map.1 hzm
        obtain ⟨hx1, hx2⟩ := List.mem_filter.1 hx
        exact ⟨x, hx1, hx2, rfl⟩
      have := h5 us m1 d1 (fun z hzm => by obtain ⟨x, q1, q2, rfl⟩ := hzx z hzm; exact hGs x q1 q2) (fun z hzm y hym hzy => by
        obtain ⟨x, q1, q2, rfl⟩ := hzx z hzm
        obtain ⟨x', k1, k2, rfl⟩ := hzx y hym
        exact hDs x q1 x' k1 q2 k2 hzy)
      rw [hfin, hputs, hmade]
      have e : (ops.toList.drop n).length = ops.size - n := by simp
      have := wpAny_of_seq (P := P) (md := .any) (ops := ops) (ops.toList.drop n) n (listedUpto ops n) _ _ (fun j => by simp [List.getElem?_drop]) (by rw [e]; exact hseq) this
      rw [e] at this
      exact this) W.drew ⟨_, _, World.drew_is_ext W⟩ trivial (Nat.le_refl _)
  rw [show n + (ops.size - n) = ops.size by omega] at key
  exact key
end
end Go
set_option linter.unusedVariables false
set_option linter.unusedSimpArgs false
namespace Go
open Go.RowKit

/-- A block of just these cells. -/
def Blk (w : World) (g : Nat) (e : TypeId) (xs : List Value) : Prop := w.heap[g]? = some (.cells xs.toArray e (0, 0))
section
variable {w w' : World} {g : Nat} {e : TypeId} {xs : List Value}
theorem Blk.lt (h : Blk w g e xs) : g < w.heap.size := (Array.getElem?_eq_some_iff.1 h).1
theorem Blk.cell (h : Blk w g e xs) (i : Nat) : w.cell? ⟨g, i, none⟩ = xs[i]? := by unfold Blk at h; simp [World.cell?, h]
theorem Blk.free (h : Blk w g e xs) (i : Nat) : w.frozen? ⟨g, i, none⟩ = false := by unfold Blk at h; simp [World.frozen?, h]
theorem Blk.keep (h : Blk w g e xs) (hk : w'.heap[g]? = w.heap[g]?) : Blk w' g e xs := by unfold Blk at *; rw [hk]; exact h
theorem Blk.cast {ys : List Value} (h : Blk w g e xs) (he : xs = ys) : Blk w g e ys := he ▸ h
theorem Blk.below (h : Blk w g e xs) (hb : Below w.heap.size w w') : Blk w' g e xs := h.keep (hb.block g h.lt)
theorem Blk.ext (h : Blk w g e xs) (m : Array Obj) (d : Nat) : Blk (w.ext m d) g e xs := h.keep (World.heap_ext _ _ _ h.lt)
theorem Blk.set_ (h : Blk w g e xs) (i : Nat) (v : Value) : Blk (w.setCell ⟨g, i, none⟩ v) g e (xs.set i v) := by
  unfold Blk at *; simp [World.setCell, Array.getElem?_modify, h]
theorem Blk.far (h : Blk w g e xs) {b : Nat} (hb : b ≠ g) (i : Nat) (v : Value) : Blk (w.setCell ⟨b, i, none⟩ v) g e xs := h.keep (Below.heap_setCell _ _ _ _ (fun e => hb e.symm))
theorem Blk.row (h : Blk w g e xs) (ys : List Value) : Blk (w.setRow g ys.toArray) g e ys := setRow_heap w g xs.toArray ys.toArray e _ h
theorem Blk.farRow (h : Blk w g e xs) {b : Nat} (hb : b ≠ g) (cs : Array Value) : Blk (w.setRow b cs) g e xs := h.keep (by
  unfold World.setRow; simp [Array.getElem?_modify, hb])
theorem Blk.new (w : World) (e : TypeId) (xs : List Value) : Blk (w.alloc (.cells xs.toArray e)) w.heap.size e xs := heap_alloc_new w _
theorem Below.setRow {B : Nat} {a : World} (h : Below B a w) (hg : B ≤ g) (cs : Array Value) : Below B a (w.setRow g cs) :=
  ⟨h.os, h.tape, h.output, by simpa using h.size, fun k hk => by
    rw [← h.block k hk]; unfold World.setRow; simp [Array.getElem?_modify, show ¬ g = k by omega]⟩
end

section
variable {P : Program} {w : World}
/-- A whole array is loaded. -/
theorem load_row_op (a : Act) (dst : Option Tmp) (ty t : TypeId) (x : Operand) (pos : String) (after : Array Edge) (guard : Option (Nat × Bool)) {g n : Nat} {el e : TypeId} {xs : List Value}
    (hu : P.underlying ty = some (.array n el)) (hi : (P.info? ty).map (·.size) = some xs.length) (hx : a.eval x = .pointer (some ⟨g, 0, none⟩)) (hg : Blk w g e xs) :
    (execOp a.eval { dst, op := .load ty x, type := t, pos, after, guard }).run P w = .ok (.value (.agg xs.toArray)) w := by
  have h := run_loadVar_row (P := P) w g e ty xs.toArray (0, 0) _ hg hu rfl (by simpa using hi)
  unfold execOp
  simp only [hx, Instr.loadAt, Instr.sureAddr, Sem.run_bind, Sem.run_pure, Result.andThen_ok, h]
/-- A whole array is stored. -/
theorem store_row_op (a : Act) (dst : Option Tmp) (ty t : TypeId) (x y : Operand) (pos : String) (after : Array Edge) (guard : Option (Nat × Bool)) {g : Nat} {e : TypeId} {xs ys : List Value}
    (hi : (P.info? ty).map (·.size) = some ys.length) (hl : xs.length = ys.length) (h1 : ys.all (·.oneCell') = true) (hx : a.eval x = .pointer (some ⟨g, 0, none⟩)) (hy : a.eval y = .agg ys.toArray) (hg : Blk w g e xs) :
    (execOp a.eval { dst, op := .store ty x y, type := t, pos, after, guard }).run P w = .ok .skip (w.setRow g ys.toArray) := by
  have h := run_storeVar_row (P := P) w g e ty xs.toArray ys.toArray hg (by simpa using hi) (by simpa using hl) (by simpa using h1)
  unfold execOp
  simp only [hx, hy, Instr.storeAt, Instr.sureAddr, Sem.run_bind, Sem.run_pure, Result.andThen_ok, h]
end
end Go
set_option linter.unusedVariables false
set_option linter.unusedSimpArgs false
namespace Go.Proofs.Ytboekafmplomhaa
open Go.RowKit

/-- What the walk has seen, and what it hangs on. -/
def supN (S : Sto) : Nat → List (Int × Int) → List Bool → Int → List (Int × Int) × List Bool
  | 0, K, O, _ => (K, O)
  | n + 1, K, O, a =>
    if (atV S a).2 = false ∨ 0 < (aget K a).getD 0 then (K, O) else
    supN S n (supN S n (aput K a 1) (O.set (atV S a).1.1.toNat true) (atV S a).1.2.1).1 (supN S n (aput K a 1) (O.set (atV S a).1.1.toNat true) (atV S a).1.2.1).2 (atV S a).1.2.2

structure SupW (w : World) (p km kb i0 i1 i3 : Nat) (F : List Nat) (S : Sto) (K : List (Int × Int)) (O : List Bool) : Prop where
  sto : StoIs w p F S
  map : MapIs ki w km K
  blk : Blk w kb 127 (bools O)
  len : O.length = 64
  fm : km ∉ F
  fb : kb ∉ F
  ne : km ≠ kb
  z0 : i0 < w.heap.size
  z1 : i1 < w.heap.size
  z3 : i3 < w.heap.size
  m0 : i0 ≠ km
  m1 : i1 ≠ km
  m3 : i3 ≠ km
  b0 : i0 ≠ kb
  b1 : i1 ≠ kb
  b3 : i3 ≠ kb
  c0 : w.cell? ⟨i0, 0, none⟩ = some (.pointer (some ⟨p, 0, none⟩))
  c1 : w.cell? ⟨i1, 0, none⟩ = some (.map (some km))
  c3 : w.cell? ⟨i3, 0, none⟩ = some (.func (.func 101) #[] #[.pointer (some ⟨i0, 0, none⟩), .pointer (some ⟨i1, 0, none⟩), .pointer (some ⟨kb, 0, none⟩), .pointer (some ⟨i3, 0, none⟩)])

section
variable {w w' : World} {p km kb i0 i1 i3 : Nat} {F : List Nat} {S : Sto} {K K' : List (Int × Int)} {O O' : List Bool}
theorem SupW.step (h : SupW w p km kb i0 i1 i3 F S K O) (st : StoStep w w' [km, kb] [km, kb]) (hm : MapIs ki w' km K') (hb : Blk w' kb 127 (bools O')) (hl : O'.length = 64) : SupW w' p km kb i0 i1 i3 F S K' O' :=
  have hk : ∀ k, k < w.heap.size → k ≠ km → k ≠ kb → w'.heap[k]? = w.heap[k]? := fun k h1 h2 h3 => st.block k h1 (by simp [h2, h3])
  { sto := h.sto.keep (fun k hk' => hk k (h.sto.lt k hk') (fun e => h.fm (e ▸ hk')) (fun e => h.fb (e ▸ hk')))
    map := hm, blk := hb, len := hl, fm := h.fm, fb := h.fb, ne := h.ne
    z0 := Nat.lt_of_lt_of_le h.z0 st.size, z1 := Nat.lt_of_lt_of_le h.z1 st.size, z3 := Nat.lt_of_lt_of_le h.z3 st.size
    m0 := h.m0, m1 := h.m1, m3 := h.m3, b0 := h.b0, b1 := h.b1, b3 := h.b3
    c0 := (cell_of_heap 0 (hk _ h.z0 h.m0 h.b0)).trans h.c0
    c1 := (cell_of_heap 0 (hk _ h.z1 h.m1 h.b1)).trans h.c1
    c3 := (cell_of_heap 0 (hk _ h.z3 h.m3 h.b3)).trans h.c3 }
theorem SupW.below (h : SupW w p km kb i0 i1 i3 F S K O) (hb : Below w.heap.size w w') : SupW w' p km kb i0 i1 i3 F S K O :=
  h.step (StoStep.of_below hb) (MapIs.keep h.map (hb.block _ (MapIs.lt h.map))) (h.blk.below hb) h.len
theorem SupW.put (h : SupW w p km kb i0 i1 i3 F S K O) (o : Obj) (hm : MapIs ki (w.putOwn km o) km K') (v : Nat) :
    SupW ((w.putOwn km o).setCell ⟨kb, v, none⟩ (.bool true)) p km kb i0 i1 i3 F S K' (O.set v true) ∧ StoStep w ((w.putOwn km o).setCell ⟨kb, v, none⟩ (.bool true)) [km, kb] [km, kb] := by
  have s1 : StoStep w (w.putOwn km o) [km, kb] [km, kb] := StoStep.put (by simp) o
  have s2 : StoStep (w.putOwn km o) ((w.putOwn km o).setCell ⟨kb, v, none⟩ (.bool true)) [km, kb] [km, kb] :=
    ⟨rfl, rfl, rfl, by simp [World.setCell], fun k hk hn => Below.heap_setCell _ _ _ _ (fun e => hn (by simp at e; simp [e])), fun k hk => .inl hk⟩
  refine ⟨h.step (s1.trans s2) (MapIs.keep hm (Below.heap_setCell _ _ _ _ (fun e => h.ne e))) ?_ (by simp [h.len]), s1.trans s2⟩
  have hb : Blk (w.putOwn km o) kb 127 (bools O) := h.blk.keep (World.heap_putOwn_ne _ _ (fun e => h.ne e.symm))
  have := hb.set_ v (.bool true)
  rw [show bools (O.set v true) = (bools O).set v (.bool true) by simp [bools, List.map_set]]
  exact this
end

theorem atV_yes {S : Sto} {x : Int} (h : (atV S x).2 = true) : ∃ (i : Nat) (n : Nd), x = (i : Int) + 2 ∧ S.nodes[i]? = some n ∧ atV S x = (n, true) ∧ rightOf S x = x := by
  unfold atV at h
  by_cases h2 : rightOf S x < 2
  · rw [if_pos h2] at h; cases h
  · obtain ⟨e1, e2, e3⟩ := rightOf_two h2
    obtain ⟨i, rfl⟩ : ∃ i : Nat, x = (i : Int) + 2 := ⟨(x - 2).toNat, by omega⟩
    have hi : i < S.nodes.length := by omega
    refine ⟨i, S.nodes[i], rfl, by simp [hi], ?_, e1⟩
    unfold atV
    rw [if_neg h2, show ((i : Int) + 2 - 2).toNat = i by omega]
    simp [hi]

theorem branchy_size (x y z : Value) : (Try.prog.info? 39).map (·.size) = some [x, y, z].length := by
  have h : (Try.prog.info? 39).map (·.size) = some 3 := by kernel_rfl
  exact h

set_option maxHeartbeats 4000000 in
theorem sup_no {S : Sto} (hW : Wf S) {p km kb i0 i1 i3 : Nat} {F : List Nat} {w : World} {K : List (Int × Int)} {O : List Bool} {a : Int} (h : SupW w p km kb i0 i1 i3 F S K O) (hno : (atV S a).2 = false ∨ 0 < (aget K a).getD 0) :
    Calls Try.prog 101 #[.int .i64 a, .pointer (some ⟨i0, 0, none⟩), .pointer (some ⟨i1, 0, none⟩), .pointer (some ⟨kb, 0, none⟩), .pointer (some ⟨i3, 0, none⟩)] w (Pure (.tuple #[]) w) := by
  have A := hid (at_call h.sto hW a)
  have H := hid h
  have z0 := h.z0
  have c0 := h.c0
  clear h
  generalize (atV S a).1.1 = x1 at *
  generalize (atV S a).1.2.1 = x2 at *
  generalize (atV S a).1.2.2 = x3 at *
  cases ha : (atV S a).2 with
  | false =>
    rw [ha] at A
    clear hno ha
    go_enter Try.func101, Try.ntmps101
    go_upto_region 0 with (fail)
    refine wp_region_doc (fun F' hF => ?_)
    have HF := hid hF
    clear hF
    repeat (refine doc_val rfl (by first | (go_simp; done) | (go_simp; exact ⟨rfl, rfl⟩) | (go_simp; with_reducible rfl)) ?_; simp only [Act.put, List.setIfInBounds_toArray, List.set_cons_zero, List.set_cons_succ])
    refine doc_call rfl (by first | (go_simp; done) | (go_simp; exact ⟨rfl, rfl⟩) | (go_simp; with_reducible rfl)) ((A.out).mono ?_)
    rintro e w1 ⟨rfl, m1, d1, rfl⟩
    refine ⟨_, rfl, ?_⟩
    simp only [Act.put, List.setIfInBounds_toArray, List.set_cons_zero, List.set_cons_succ]
    repeat (refine doc_val rfl (by first | (go_simp; done) | (go_simp; exact ⟨rfl, rfl⟩) | (go_simp; with_reducible rfl)) ?_; simp only [Act.put, List.setIfInBounds_toArray, List.set_cons_zero, List.set_cons_succ])
    refine doc_skip rfl (store_row_op (xs := [.int .i64 0, .int .i64 0, .int .i64 0]) (ys := [.int .i64 x1, .int .i64 x2, .int .i64 x3]) _ _ _ _ _ _ _ _ _ (branchy_size _ _ _) rfl rfl rfl rfl (by have h := Blk.new (w.ext m1 d1) 39 [.int .i64 0, .int .i64 0, .int .i64 0]; rw [World.size_ext] at h; exact h)) ?_
    simp only [Act.put, List.setIfInBounds_toArray, List.set_cons_zero, List.set_cons_succ]
    repeat (refine doc_val rfl (by first | (go_simp; done) | (go_simp; exact ⟨rfl, rfl⟩) | (go_simp; with_reducible rfl)) ?_; simp only [Act.put, List.setIfInBounds_toArray, List.set_cons_zero, List.set_cons_succ])
    refine doc_end (HF.out _ _ ?_)
    clear HF F'
    go_upto_region 1 with (fail)
    refine wp_gen (fun U hU => ?_)
    have hbU : Below w.heap.size w U := by
      rw [hU]; exact Below.setRow (Below.alloc (Below.ext_mk (Below.refl _ _) (Nat.le_refl _) _ _) (by first | (simp; done) | (simp; omega)) _) (by omega) _
    have bU : Blk U (w.heap.size + m1.size) 39 [.int .i64 x1, .int .i64 x2, .int .i64 x3] := by
      rw [hU]
      have h := Blk.new (w.ext m1 d1) 39 [.int .i64 0, .int .i64 0, .int .i64 0]
      rw [World.size_ext] at h
      exact h.row _
    have hB : w.heap.size ≤ w.heap.size + m1.size := by omega
    generalize w.heap.size + m1.size = B at *
    clear hU
    have H1 := H.out.below hbU
    have z1 := H1.z1
    have z3 := H1.z3
    have c1 := H1.c1
    have c3 := H1.c3
    go_wp2_with fail
    go_returns
    exact Pure.of rfl (by first | exact hbU | exact Below.ext_mk hbU hbU.size _ _)
  | true =>
    rw [ha] at A hno
    have hk : 0 < (aget K a).getD 0 := by simpa using hno
    clear hno ha
    go_enter Try.func101, Try.ntmps101
    go_upto_region 0 with (fail)
    refine wp_region_doc (fun F' hF => ?_)
    have HF := hid hF
    clear hF
    repeat (refine doc_val rfl (by first | (go_simp; done) | (go_simp; exact ⟨rfl, rfl⟩) | (go_simp; with_reducible rfl)) ?_; simp only [Act.put, List.setIfInBounds_toArray, List.set_cons_zero, List.set_cons_succ])
    refine doc_call rfl (by first | (go_simp; done) | (go_simp; exact ⟨rfl, rfl⟩) | (go_simp; with_reducible rfl)) ((A.out).mono ?_)
    rintro e w1 ⟨rfl, m1, d1, rfl⟩
    refine ⟨_, rfl, ?_⟩
    simp only [Act.put, List.setIfInBounds_toArray, List.set_cons_zero, List.set_cons_succ]
    repeat (refine doc_val rfl (by first | (go_simp; done) | (go_simp; exact ⟨rfl, rfl⟩) | (go_simp; with_reducible rfl)) ?_; simp only [Act.put, List.setIfInBounds_toArray, List.set_cons_zero, List.set_cons_succ])
    refine doc_skip rfl (store_row_op (xs := [.int .i64 0, .int .i64 0, .int .i64 0]) (ys := [.int .i64 x1, .int .i64 x2, .int .i64 x3]) _ _ _ _ _ _ _ _ _ (branchy_size _ _ _) rfl rfl rfl rfl (by have h := Blk.new (w.ext m1 d1) 39 [.int .i64 0, .int .i64 0, .int .i64 0]; rw [World.size_ext] at h; exact h)) ?_
    simp only [Act.put, List.setIfInBounds_toArray, List.set_cons_zero, List.set_cons_succ]
    repeat (refine doc_val rfl (by first | (go_simp; done) | (go_simp; exact ⟨rfl, rfl⟩) | (go_simp; with_reducible rfl)) ?_; simp only [Act.put, List.setIfInBounds_toArray, List.set_cons_zero, List.set_cons_succ])
    refine doc_end (HF.out _ _ ?_)
    clear HF F'
    go_upto_region 1 with (fail)
    refine wp_gen (fun U hU => ?_)
    have hbU : Below w.heap.size w U := by
      rw [hU]; exact Below.setRow (Below.alloc (Below.ext_mk (Below.refl _ _) (Nat.le_refl _) _ _) (by first | (simp; done) | (simp; omega)) _) (by omega) _
    have bU : Blk U (w.heap.size + m1.size) 39 [.int .i64 x1, .int .i64 x2, .int .i64 x3] := by
      rw [hU]
      have h := Blk.new (w.ext m1 d1) 39 [.int .i64 0, .int .i64 0, .int .i64 0]
      rw [World.size_ext] at h
      exact h.row _
    have hB : w.heap.size ≤ w.heap.size + m1.size := by omega
    generalize w.heap.size + m1.size = B at *
    clear hU
    have H1 := H.out.below hbU
    have z1 := H1.z1
    have z3 := H1.z3
    have c1 := H1.c1
    have c3 := H1.c3
    have hlook := fun m d => lookup_run (w := U.ext m d) key_int Try.underlying115 (zero_int _) (MapIs.ext H1.map m d) a false
    simp only [Bool.false_eq_true, if_false] at hlook
    generalize (aget K a).getD 0 = kk at *
    refine wp_region_seq (fun F hF => ?_)
    have HF := hid hF; clear hF
    repeat (first
      | (apply text_skip; (focus rfl); simp only [Act.put, List.setIfInBounds_toArray, List.set_cons_zero, List.set_cons_succ])
      | (apply text_val; (focus rfl); (focus (intro _ _; go_simp; with_reducible rfl)); simp only [Act.put, List.setIfInBounds_toArray, List.set_cons_zero, List.set_cons_succ])
      | (apply text_if; (focus (first | exact wanted_t rfl rfl | exact wanted_f rfl rfl | exact wanted_gt rfl rfl | exact wanted_gf rfl rfl)); (focus (intro hc _ _; (try simp only [Bool.and_eq_true, Bool.not_eq_true', Bool.true_and] at hc); go_simp; with_reducible rfl)); simp only [Act.put, List.setIfInBounds_toArray, List.set_cons_zero, List.set_cons_succ]))
    refine text_nil (HF.out _ (fun mx dx => ?_))
    clear HF F
    go_wp2_with fail
    go_returns
    exact Pure.of rfl (by first | exact hbU | exact Below.ext_mk hbU hbU.size _ _)

set_option maxHeartbeats 8000000 in
theorem sup_any {S : Sto} (hW : Wf S) (p km kb i0 i1 i3 : Nat) (F : List Nat) : ∀ (n : Nat) (w : World) (K : List (Int × Int)) (O : List Bool) (a : Int), SupW w p km kb i0 i1 i3 F S K O → (rightOf S a).toNat < n →
    Calls Try.prog 101 #[.int .i64 a, .pointer (some ⟨i0, 0, none⟩), .pointer (some ⟨i1, 0, none⟩), .pointer (some ⟨kb, 0, none⟩), .pointer (some ⟨i3, 0, none⟩)] w
      (fun e w' => e = .returned (.tuple #[]) ∧ SupW w' p km kb i0 i1 i3 F S (supN S n K O a).1 (supN S n K O a).2 ∧ StoStep w w' [km, kb] [km, kb]) := by
  intro n
  induction n with
  | zero => intro w K O a _ hn; omega
  | succ n ih =>
    intro w K O a h hn
    by_cases hno : (atV S a).2 = false ∨ 0 < (aget K a).getD 0
    · refine (sup_no hW h hno).mono ?_
      rintro e w' ⟨rfl, m, d, rfl⟩
      unfold supN
      rw [if_pos hno]
      have hb : Below w.heap.size w (w.ext m d) := Below.ext_mk (Below.refl _ _) (Nat.le_refl _) _ _
      exact ⟨rfl, h.below hb, StoStep.of_below hb⟩
    · have hs : supN S (n + 1) K O a = supN S n (supN S n (aput K a 1) (O.set (atV S a).1.1.toNat true) (atV S a).1.2.1).1 (supN S n (aput K a 1) (O.set (atV S a).1.1.toNat true) (atV S a).1.2.1).2 (atV S a).1.2.2 := by
        rw [supN, if_neg hno]
      rw [hs]
      clear hs
      have hy : (atV S a).2 = true := by
        cases hq : (atV S a).2 with
        | true => rfl
        | false => exact (hno (.inl hq)).elim
      have hk : ¬ 0 < (aget K a).getD 0 := fun q => hno (.inr q)
      obtain ⟨i, nd, ha, hnd, hat, hr⟩ := atV_yes hy
      have A := hid (at_call h.sto hW a)
      have H := hid h
      have z0 := h.z0
      have c0 := h.c0
      have hch := hW.child hnd
      have hok := hW.node i nd hnd
      have lt1 : (rightOf S nd.2.1).toNat < n := by rw [right_has hch.1]; have := hok.lo; rw [hr, ha] at hn; have := hok.lo0; omega
      have lt2 : (rightOf S nd.2.2).toNat < n := by rw [right_has hch.2]; have := hok.hi; rw [hr, ha] at hn; have := hok.hi0; omega
      have v0 := hok.v0
      have v64 := hok.v64
      rw [hat] at A ⊢
      clear hat hno hy h hnd hok hch ha hr hn
      obtain ⟨x1, x2, x3⟩ := nd
      simp only at A lt1 lt2 v0 v64 ⊢
      obtain ⟨v, rfl⟩ : ∃ v : Nat, x1 = (v : Int) := ⟨x1.toNat, by omega⟩
      have hv : v < 64 := by omega
      have v1 : (v : Int) < 64 := by omega
      rw [show ((v : Int)).toNat = v by omega]
      go_enter Try.func101, Try.ntmps101
      go_upto_region 0 with (fail)
      refine wp_region_doc (fun F' hF => ?_)
      have HF := hid hF
      clear hF
      repeat (refine doc_val rfl (by first | (go_simp; done) | (go_simp; exact ⟨rfl, rfl⟩) | (go_simp; with_reducible rfl)) ?_; simp only [Act.put, List.setIfInBounds_toArray, List.set_cons_zero, List.set_cons_succ])
      refine doc_call rfl (by first | (go_simp; done) | (go_simp; exact ⟨rfl, rfl⟩) | (go_simp; with_reducible rfl)) ((A.out).mono ?_)
      rintro e w1 ⟨rfl, m1, d1, rfl⟩
      refine ⟨_, rfl, ?_⟩
      simp only [Act.put, List.setIfInBounds_toArray, List.set_cons_zero, List.set_cons_succ]
      repeat (refine doc_val rfl (by first | (go_simp; done) | (go_simp; exact ⟨rfl, rfl⟩) | (go_simp; with_reducible rfl)) ?_; simp only [Act.put, List.setIfInBounds_toArray, List.set_cons_zero, List.set_cons_succ])
      refine doc_skip rfl (store_row_op (xs := [.int .i64 0, .int .i64 0, .int .i64 0]) (ys := [.int .i64 (v : Int), .int .i64 x2, .int .i64 x3]) _ _ _ _ _ _ _ _ _ (branchy_size _ _ _) rfl rfl rfl rfl (by have h := Blk.new (w.ext m1 d1) 39 [.int .i64 0, .int .i64 0, .int .i64 0]; rw [World.size_ext] at h; exact h)) ?_
      simp only [Act.put, List.setIfInBounds_toArray, List.set_cons_zero, List.set_cons_succ]
      repeat (refine doc_val rfl (by first | (go_simp; done) | (go_simp; exact ⟨rfl, rfl⟩) | (go_simp; with_reducible rfl)) ?_; simp only [Act.put, List.setIfInBounds_toArray, List.set_cons_zero, List.set_cons_succ])
      refine doc_end (HF.out _ _ ?_)
      clear HF F'
      go_upto_region 1 with (fail)
      refine wp_gen (fun U hU => ?_)
      have hbU : Below w.heap.size w U := by
        rw [hU]; exact Below.setRow (Below.alloc (Below.ext_mk (Below.refl _ _) (Nat.le_refl _) _ _) (by first | (simp; done) | (simp; omega)) _) (by omega) _
      have bU : Blk U (w.heap.size + m1.size) 39 [.int .i64 (v : Int), .int .i64 x2, .int .i64 x3] := by
        rw [hU]
        have h := Blk.new (w.ext m1 d1) 39 [.int .i64 0, .int .i64 0, .int .i64 0]
        rw [World.size_ext] at h
        exact h.row _
      have hB : w.heap.size ≤ w.heap.size + m1.size := by omega
      generalize w.heap.size + m1.size = B at *
      clear hU
      have H1 := H.out.below hbU
      have z1 := H1.z1
      have z3 := H1.z3
      have c1 := H1.c1
      have c3 := H1.c3
      have hlook := fun m d => lookup_run (w := U.ext m d) key_int Try.underlying115 (zero_int _) (MapIs.ext H1.map m d) a false
      simp only [Bool.false_eq_true, if_false] at hlook
      generalize (aget K a).getD 0 = kk at *
      refine wp_region_seq (fun F hF => ?_)
      have HF := hid hF; clear hF
      repeat (first
        | (apply text_skip; (focus rfl); simp only [Act.put, List.setIfInBounds_toArray, List.set_cons_zero, List.set_cons_succ])
        | (apply text_val; (focus rfl); (focus (intro _ _; go_simp; with_reducible rfl)); simp only [Act.put, List.setIfInBounds_toArray, List.set_cons_zero, List.set_cons_succ])
        | (apply text_if; (focus (first | exact wanted_t rfl rfl | exact wanted_f rfl rfl | exact wanted_gt rfl rfl | exact wanted_gf rfl rfl)); (focus (intro hc _ _; (try simp only [Bool.and_eq_true, Bool.not_eq_true', Bool.true_and] at hc); go_simp; with_reducible rfl)); simp only [Act.put, List.setIfInBounds_toArray, List.set_cons_zero, List.set_cons_succ]))
      refine text_nil (HF.out _ (fun mx dx => ?_))
      clear HF F
      go_upto_region 2 with (fail)
      refine wp_gen (fun X hX => ?_)
      have hbX : Below U.heap.size U X := by rw [hX]; (repeat' (first | (with_reducible exact Below.refl _ _) | (with_reducible refine Below.ext_mk ?_ ?_ _ _) | (with_reducible refine Below.alloc ?_ ?_ _) | (with_reducible refine Below.drew ?_) | (with_reducible refine Below.setCell ?_ ?_ _) | go_size))
      clear hX
      refine wp_region_any (by kernel_rfl) ?_
      change wpAny _ _ _ _ _ _ _ (World.drew X)
      have hbY : Below U.heap.size U (World.drew X) := Below.drew hbX
      generalize World.drew X = Y at hbY ⊢
      clear hbX X hlook
      have H2 := H1.below hbY
      have bY := bU.below hbY
      have hBm : B ≠ km := fun e => by have := MapIs.lt H.out.map; omega
      have hBb : B ≠ kb := fun e => by have := H.out.blk.lt; omega
      obtain ⟨o, u1, u2⟩ := update_run (t := 115) key_int Try.underlying115 H2.map a 1
      have y0 := bY.cell 0
      have y0' : (Y.putOwn km o).cell? ⟨B, 0, none⟩ = some (.int .i64 (v : Int)) := (cell_of_heap 0 (World.heap_putOwn_ne _ _ hBm)).trans y0
      simp only [List.getElem?_cons_zero] at y0
      have y1 := H2.c1
      have zY := H2.z1
      have zB := bY.lt
      have zk := H2.blk.lt
      have zf : (Y.putOwn km o).frozen? ⟨kb, v, none⟩ = false := (H2.blk.keep (World.heap_putOwn_ne _ _ (fun e => H2.ne e.symm))).free v
      have zc : (Y.putOwn km o).cell? ⟨kb, v, none⟩ = some (.bool (O.getD v false)) := by
        rw [(H2.blk.keep (World.heap_putOwn_ne _ _ (fun e => H2.ne e.symm))).cell v]
        simp [bools, show v < O.length by rw [H2.len]; exact hv]
      obtain ⟨H3, st3⟩ := H2.put o u2 v
      have hHP := hid (And.intro H3 st3)
      clear H3 st3 u2
      have hv0 : (0 : Int) ≤ (v : Int) := by omega
      refine any_take 1 (v := .int .i64 a) rfl (by kernel_rfl) (by kernel_rfl) (by kernel_rfl) (fun _ _ _ h => h) (Or.inl ⟨by rfl, fun _ => by go_simp⟩) ?_
      simp only [Act.put, List.setIfInBounds_toArray, List.set_cons_zero, List.set_cons_succ]
      refine any_take 2 (v := .pointer (some ⟨B, 0, none⟩)) rfl (by kernel_rfl) (by kernel_rfl) (by kernel_rfl) (fun _ _ _ h => h) (Or.inl ⟨by rfl, fun _ => by go_simp⟩) ?_
      simp only [Act.put, List.setIfInBounds_toArray, List.set_cons_zero, List.set_cons_succ]
      refine any_two 0 3 (by kernel_rfl) rfl rfl (st_val rfl (by first | (go_simp; done) | (go_simp; exact ⟨rfl, rfl⟩) | (go_simp; with_reducible rfl)) ?_) (st_val rfl (by first | (go_simp; done) | (go_simp; exact ⟨rfl, rfl⟩) | (go_simp; with_reducible rfl)) ?_)
      · simp only [Act.put, List.setIfInBounds_toArray, List.set_cons_zero, List.set_cons_succ]
        refine any_two 3 4 (by kernel_rfl) rfl rfl (st_val rfl (by first | (go_simp; done) | (go_simp; exact ⟨rfl, rfl⟩) | (go_simp; with_reducible rfl)) ?_) (st_skip rfl (by first | (go_simp; done) | (go_simp; exact ⟨rfl, rfl⟩) | (go_simp; with_reducible rfl)) ?_)
        · simp only [Act.put, List.setIfInBounds_toArray, List.set_cons_zero, List.set_cons_succ]
          refine any_one 4 (by kernel_rfl) rfl (st_skip rfl (by first | (go_simp; done) | (go_simp; exact ⟨rfl, rfl⟩) | (go_simp; with_reducible rfl)) ?_)
          simp only [Act.put, List.setIfInBounds_toArray, List.set_cons_zero, List.set_cons_succ]
          refine any_one 5 (by kernel_rfl) rfl (st_val rfl (by first | (go_simp; done) | (go_simp; exact ⟨rfl, rfl⟩) | (go_simp; with_reducible rfl)) ?_)
          simp only [Act.put, List.setIfInBounds_toArray, List.set_cons_zero, List.set_cons_succ]
          refine any_one 6 (by kernel_rfl) rfl (st_skip rfl (by first | (go_simp; done) | (go_simp; exact ⟨rfl, rfl⟩) | (go_simp; with_reducible rfl)) ?_)
          simp only [Act.put, List.setIfInBounds_toArray, List.set_cons_zero, List.set_cons_succ]
          refine wpAny_done (by kernel_rfl) ?_ _
          go_upto_region 3 with (fail)
          refine wp_gen (fun Z hZ => ?_)
          obtain ⟨H3, st3⟩ := hHP.out
          rw [← hZ] at H3 st3
          have bZ := bY.keep (st3.block B zB (by simp [hBm, hBb]))
          have I1 := ih Z _ _ x2 H3 lt1
          have I2 := fun W K O h => ih W K O x3 h lt2
          have w3 := H3.c3
          have zz3 := H3.z3
          have e1 := bZ.cell 1
          have e2 := bZ.cell 2
          simp only [List.getElem?_cons_zero, List.getElem?_cons_succ] at e1 e2
          have zB' := bZ.lt
          clear hZ hHP ih u1 y0 y0' y1 zf zc z0 c0 z1 z3 c1 c3
          go_upto_region 4 with ((with_reducible refine I1.mono ?_); rintro e w1 ⟨rfl, H4, st4⟩)
          have b4 := bZ.keep (st4.block B zB' (by simp [hBm, hBb]))
          have g3 := H4.c3
          have gz3 := H4.z3
          have g2 := b4.cell 2
          simp only [List.getElem?_cons_zero, List.getElem?_cons_succ] at g2
          have gB := b4.lt
          clear I1 w3 zz3 e1 e2 zB' bZ
          go_wp2_with ((with_reducible refine (I2 _ _ _ H4 ).mono ?_); rintro e w2 ⟨rfl, H5, st5⟩)
          go_returns
          exact ⟨rfl, H5, (StoStep.of_below hbU).trans ((StoStep.of_below hbY).trans (st3.trans (st4.trans st5)))⟩
        · simp only [Act.put, List.setIfInBounds_toArray, List.set_cons_zero, List.set_cons_succ]
          refine any_one 3 (by kernel_rfl) rfl (st_val rfl (by first | (go_simp; done) | (go_simp; exact ⟨rfl, rfl⟩) | (go_simp; with_reducible rfl)) ?_)
          simp only [Act.put, List.setIfInBounds_toArray, List.set_cons_zero, List.set_cons_succ]
          refine any_one 5 (by kernel_rfl) rfl (st_val rfl (by first | (go_simp; done) | (go_simp; exact ⟨rfl, rfl⟩) | (go_simp; with_reducible rfl)) ?_)
          simp only [Act.put, List.setIfInBounds_toArray, List.set_cons_zero, List.set_cons_succ]
          refine any_one 6 (by kernel_rfl) rfl (st_skip rfl (by first | (go_simp; done) | (go_simp; exact ⟨rfl, rfl⟩) | (go_simp; with_reducible rfl)) ?_)
          simp only [Act.put, List.setIfInBounds_toArray, List.set_cons_zero, List.set_cons_succ]
          refine wpAny_done (by kernel_rfl) ?_ _
          go_upto_region 3 with (fail)
          refine wp_gen (fun Z hZ => ?_)
          obtain ⟨H3, st3⟩ := hHP.out
          rw [← hZ] at H3 st3
          have bZ := bY.keep (st3.block B zB (by simp [hBm, hBb]))
          have I1 := ih Z _ _ x2 H3 lt1
          have I2 := fun W K O h => ih W K O x3 h lt2
          have w3 := H3.c3
          have zz3 := H3.z3
          have e1 := bZ.cell 1
          have e2 := bZ.cell 2
          simp only [List.getElem?_cons_zero, List.getElem?_cons_succ] at e1 e2
          have zB' := bZ.lt
          clear hZ hHP ih u1 y0 y0' y1 zf zc z0 c0 z1 z3 c1 c3
          go_upto_region 4 with ((with_reducible refine I1.mono ?_); rintro e w1 ⟨rfl, H4, st4⟩)
          have b4 := bZ.keep (st4.block B zB' (by simp [hBm, hBb]))
          have g3 := H4.c3
          have gz3 := H4.z3
          have g2 := b4.cell 2
          simp only [List.getElem?_cons_zero, List.getElem?_cons_succ] at g2
          have gB := b4.lt
          clear I1 w3 zz3 e1 e2 zB' bZ
          go_wp2_with ((with_reducible refine (I2 _ _ _ H4 ).mono ?_); rintro e w2 ⟨rfl, H5, st5⟩)
          go_returns
          exact ⟨rfl, H5, (StoStep.of_below hbU).trans ((StoStep.of_below hbY).trans (st3.trans (st4.trans st5)))⟩
      · simp only [Act.put, List.setIfInBounds_toArray, List.set_cons_zero, List.set_cons_succ]
        refine any_one 0 (by kernel_rfl) rfl (st_val rfl (by first | (go_simp; done) | (go_simp; exact ⟨rfl, rfl⟩) | (go_simp; with_reducible rfl)) ?_)
        simp only [Act.put, List.setIfInBounds_toArray, List.set_cons_zero, List.set_cons_succ]
        refine any_one 4 (by kernel_rfl) rfl (st_skip rfl (by first | (go_simp; done) | (go_simp; exact ⟨rfl, rfl⟩) | (go_simp; with_reducible rfl)) ?_)
        simp only [Act.put, List.setIfInBounds_toArray, List.set_cons_zero, List.set_cons_succ]
        refine any_one 5 (by kernel_rfl) rfl (st_val rfl (by first | (go_simp; done) | (go_simp; exact ⟨rfl, rfl⟩) | (go_simp; with_reducible rfl)) ?_)
        simp only [Act.put, List.setIfInBounds_toArray, List.set_cons_zero, List.set_cons_succ]
        refine any_one 6 (by kernel_rfl) rfl (st_skip rfl (by first | (go_simp; done) | (go_simp; exact ⟨rfl, rfl⟩) | (go_simp; with_reducible rfl)) ?_)
        simp only [Act.put, List.setIfInBounds_toArray, List.set_cons_zero, List.set_cons_succ]
        refine wpAny_done (by kernel_rfl) ?_ _
        go_upto_region 3 with (fail)
        refine wp_gen (fun Z hZ => ?_)
        obtain ⟨H3, st3⟩ := hHP.out
        rw [← hZ] at H3 st3
        have bZ := bY.keep (st3.block B zB (by simp [hBm, hBb]))
        have I1 := ih Z _ _ x2 H3 lt1
        have I2 := fun W K O h => ih W K O x3 h lt2
        have w3 := H3.c3
        have zz3 := H3.z3
        have e1 := bZ.cell 1
        have e2 := bZ.cell 2
        simp only [List.getElem?_cons_zero, List.getElem?_cons_succ] at e1 e2
        have zB' := bZ.lt
        clear hZ hHP ih u1 y0 y0' y1 zf zc z0 c0 z1 z3 c1 c3
        go_upto_region 4 with ((with_reducible refine I1.mono ?_); rintro e w1 ⟨rfl, H4, st4⟩)
        have b4 := bZ.keep (st4.block B zB' (by simp [hBm, hBb]))
        have g3 := H4.c3
        have gz3 := H4.z3
        have g2 := b4.cell 2
        simp only [List.getElem?_cons_zero, List.getElem?_cons_succ] at g2
        have gB := b4.lt
        clear I1 w3 zz3 e1 e2 zB' bZ
        go_wp2_with ((with_reducible refine (I2 _ _ _ H4 ).mono ?_); rintro e w2 ⟨rfl, H5, st5⟩)
        go_returns
        exact ⟨rfl, H5, (StoStep.of_below hbU).trans ((StoStep.of_below hbY).trans (st3.trans (st4.trans st5)))⟩
end Go.Proofs.Ytboekafmplomhaa
set_option linter.unusedVariables false
set_option linter.unusedSimpArgs false
namespace Go.Proofs.Ytboekafmplomhaa
open Go.RowKit

@[go_sem] theorem run_store_func {P : Program} {w : World} {a : Addr} {fn : Fn} {x y : Array Value} {m : Mode} : (store a (.func fn x y) m).run P w = stored P w a (.func fn x y) m := run_store P w a _ m rfl
theorem on_info : (Try.prog.info? 127).map (fun i => (i.zero, i.size)) = some (some (.agg (bools (List.replicate 64 false)).toArray), 64) := by kernel_rfl
theorem on_size (O : List Bool) (h : O.length = 64) : (Try.prog.info? 127).map (·.size) = some (bools O).length := by rw [bools_length, h]; exact (zero_of_info on_info).2
theorem on_arr : Try.prog.underlying 127 = some (.array 64 4) := by kernel_rfl
theorem on_one (O : List Bool) : (bools O).all (·.oneCell') = true := by simp [bools, Value.oneCell']

theorem index_on (O : List Bool) (h : O.length = 64) {j : Nat} (hj : j < 64) (w : World) :
    (Instr.index 127 (.agg (bools O).toArray) (.int .i64 (j : Int))).run Try.prog w = .ok (.bool (O.getD j false)) w := by
  have h1 : (0 : Int) ≤ (j : Int) ∧ (j : Int) < ((64 : Nat) : Int) := by omega
  have h2 : (bools O)[j]? = some (.bool (O.getD j false)) := by simp [bools, show j < O.length by omega]
  have h3 : (bools O).length = 64 := by rw [bools_length, h]
  simp [Instr.index, run_underlying on_arr, asIntOf, h1, h2, h3, go_sem]
  intro q; omega
/-- The variables that are on, below j. -/
def onL (O : List Bool) : Nat → List Int
  | 0 => []
  | j + 1 => if O.getD j false then onL O j ++ [(j : Int)] else onL O j
theorem onL_length (O : List Bool) : ∀ j, (onL O j).length ≤ j
  | 0 => by simp [onL]
  | j + 1 => by have := onL_length O j; unfold onL; split <;> simp <;> omega

/-- One more number at a row's end. -/
theorem grow_int {B : Nat} {w : World} {sv : Value} {G : Option Nat} {all : List Int} (h : RowIs w sv G 3 1 all.length (ints all)) (hG : ∀ g, G = some g → B ≤ g) (hB : B ≤ w.heap.size) (hk : all.length ≤ 1000) (x : Int) :
    ∃ v' w1 G', (Builtin.append_ #[28, 28] 28 #[sv, .slice (some ⟨w.heap.size, 0, none⟩) 1 1]).run Try.prog (w.alloc (.cells #[.int .i64 x] 3)) = .ok v' w1 ∧
      RowIs w1 v' (some G') 3 1 (all ++ [x]).length (ints (all ++ [x])) ∧ B ≤ G' ∧ Below B w w1 := by
  have litn : (w.alloc (.cells #[.int .i64 x] 3)).heap[w.heap.size]? = some (.cells #[.int .i64 x] 3 (0, 0)) := World.heap_alloc_last w _
  have rowL : RowIs (w.alloc (.cells #[.int .i64 x] 3)) sv G 3 1 all.length (ints all) := RowIs.keep h (fun g hg => Below.heap_alloc _ _ _ (RowIs.lt h g hg))
  obtain ⟨v', w1, G', r1, r2, r3, r4⟩ := append_row (P := Try.prog) 28 28 infoInt (.int .i64 0) 8 Try.underlying28 infoInt_is infoInt_zero infoInt_size infoInt_bytes rfl (by omega) rowL
    ⟨w.heap.size, 0, none⟩ 1 1 [.int .i64 x] rfl (fun j u hu => by
      rcases j with _ | j
      · simp at hu; subst hu
        show (w.alloc (.cells #[.int .i64 x] 3)).cell? ⟨w.heap.size, 0, none⟩ = _
        simp only [World.cell?]
        rw [litn]; rfl
      · simp at hu) (by simp [Value.oneCell']) (by omega) (by unfold maxLen; omega) (by omega)
  refine ⟨v', w1, G', r1, ?_, ?_, ?_⟩
  · have e1 : ints (all ++ [x]) = ints all ++ [.int .i64 x] := by simp [ints]
    rw [e1, List.length_append]
    exact r2
  · rcases r4 with e | ⟨e, _⟩
    · exact hG _ e
    · simp at e; omega
  · exact ((Below.refl _ _).alloc hB _).grown r3 (by simp; omega) hG

def supportV (S : Sto) (x : Int) : List Int := if S.full then [] else onL (supN S (S.nodes.length + 2) [] (List.replicate 64 false) x).2 64

set_option maxRecDepth 100000 in
set_option maxHeartbeats 4000000 in
theorem support_live {w : World} {p : Nat} {F : List Nat} {S : Sto} (h : StoIs w p F S) (hW : Wf S) (hf : S.full = false) (x : Int) :
    Calls Try.prog 43 #[.pointer (some ⟨p, 0, none⟩), .int .i64 x] w
      (fun e w' => ∃ sv, e = .returned sv ∧ Rd w' 1 sv (ints (onL (supN S (S.nodes.length + 2) [] (List.replicate 64 false) x).2 64)) ∧ Below w.heap.size w w') := by
  have hmf : ∀ (fn : Fn) (first cap : Array Value) (w : World), (Instr.makeFunc fn first cap).run Try.prog w = .ok (.func fn first cap) w := fun _ _ _ _ => rfl
  have hmm := @run_makeMap Try.prog
  have hz := (zero_of_info (P := Try.prog) on_info).1
  obtain ⟨O0, hO0⟩ : ∃ O, O = List.replicate 64 false := ⟨_, rfl⟩
  have l0 : O0.length = 64 := by rw [hO0]; rfl
  rw [← hO0] at hz ⊢
  clear hO0
  have hc : S.cap ≠ 0 := by have := hW.cap2; omega
  have FU := fun W (hb : Below w.heap.size w W) => full_any (h.below hb) hc
  rw [hf] at FU
  have H := hid h
  have hlt := h.lt
  clear h
  go_enter Try.func43, Try.ntmps43
  go_upto_region 3 with (go_at_call 22; refine (FU _ (by (repeat' (first | (with_reducible exact Below.refl _ _) | (with_reducible refine Below.ext_mk ?_ ?_ _ _) | (with_reducible refine Below.alloc ?_ ?_ _) | (with_reducible refine Below.drew ?_) | (with_reducible refine Below.setCell ?_ ?_ _) | go_size)))).mono ?_; rintro e w' ⟨rfl, m1, d1, rfl⟩)
  refine wp_gen (fun V hV => ?_)
  have hbV : Below w.heap.size w V := by rw [hV]; ((repeat' (first | (with_reducible exact Below.refl _ _) | (with_reducible refine Below.ext_mk ?_ ?_ _ _) | (with_reducible refine Below.alloc ?_ ?_ _) | (with_reducible refine Below.drew ?_) | (with_reducible refine Below.setCell ?_ ?_ _) | go_size)))
  have zV0 : w.heap.size < V.heap.size := by rw [hV]; first | (simp; done) | (simp; omega)
  have cV0_0 : V.cell? ⟨w.heap.size, 0, none⟩ = some (.pointer (some ⟨p, 0, none⟩)) := by rw [hV]; first | (go_simp; done) | (rw [World.cell?_alloc_past _ _ _ (by first | (simp; done) | (simp; omega))]; go_simp)
  clear hV
  have HV := H.out.below hbV
  have hVF : ∀ k ∈ F, k < V.heap.size := HV.lt
  refine wp_region_doc (fun F' hF => ?_)
  have HF := hid hF
  clear hF
  repeat (refine doc_val rfl (by first | (go_simp; done) | (go_simp; exact ⟨rfl, rfl⟩) | (go_simp; with_reducible rfl)) ?_; simp only [Act.put, List.setIfInBounds_toArray, List.set_cons_zero, List.set_cons_succ])
  refine doc_skip rfl (by first | (go_simp; done) | (go_simp; exact ⟨rfl, rfl⟩) | (go_simp; with_reducible rfl)) ?_
  simp only [Act.put, List.setIfInBounds_toArray, List.set_cons_zero, List.set_cons_succ]
  have bn := Blk.new ((V.alloc (.map #[] 0)).alloc (.cells #[.map (some V.heap.size)] 115)) 127 (bools O0)
  rw [show ((V.alloc (.map #[] 0)).alloc (.cells #[.map (some V.heap.size)] 115)).heap.size = V.heap.size + 1 + 1 by simp] at bn
  refine doc_skip rfl (store_row_op (xs := bools O0) (ys := bools O0) _ _ _ _ _ _ _ _ _ (on_size _ l0) rfl (on_one _) rfl rfl bn) ?_
  simp only [Act.put, List.setIfInBounds_toArray, List.set_cons_zero, List.set_cons_succ]
  refine doc_end (HF.out _ _ ?_)
  clear HF F'
  go_upto_region 4 with (fail)
  refine wp_gen (fun U hU => ?_)
  have bU : Blk U (V.heap.size + 1 + 1) 127 (bools O0) := by rw [hU]; exact bn.row _
  have hbU : Below V.heap.size V U := by
    rw [hU]; exact Below.setRow (by (repeat' (first | (with_reducible exact Below.refl _ _) | (with_reducible refine Below.ext_mk ?_ ?_ _ _) | (with_reducible refine Below.alloc ?_ ?_ _) | (with_reducible refine Below.drew ?_) | (with_reducible refine Below.setCell ?_ ?_ _) | go_size))) (by omega) _
  have mU : MapIs ki U V.heap.size [] := by
    have q : MapIs ki (V.alloc (.map #[] 0)) V.heap.size [] := ⟨#[], 0, World.heap_alloc_last V _, rfl⟩
    have hb1 : Below (V.alloc (.map #[] 0)).heap.size (V.alloc (.map #[] 0)) U := by rw [hU]; exact Below.setRow (by (repeat' (first | (with_reducible exact Below.refl _ _) | (with_reducible refine Below.ext_mk ?_ ?_ _ _) | (with_reducible refine Below.alloc ?_ ?_ _) | (with_reducible refine Below.drew ?_) | (with_reducible refine Below.setCell ?_ ?_ _) | go_size))) (by simp) _
    exact MapIs.keep q (hb1.block _ (MapIs.lt q))
  have cU : U.cell? ⟨V.heap.size + 1, 0, none⟩ = some (.map (some V.heap.size)) := by
    have hb2 : Below ((V.alloc (.map #[] 0)).alloc (.cells #[.map (some V.heap.size)] 115)).heap.size ((V.alloc (.map #[] 0)).alloc (.cells #[.map (some V.heap.size)] 115)) U := by rw [hU]; exact Below.setRow (by (repeat' (first | (with_reducible exact Below.refl _ _) | (with_reducible refine Below.ext_mk ?_ ?_ _ _) | (with_reducible refine Below.alloc ?_ ?_ _) | (with_reducible refine Below.drew ?_) | (with_reducible refine Below.setCell ?_ ?_ _) | go_size))) (by simp) _
    have q : ((V.alloc (.map #[] 0)).alloc (.cells #[.map (some V.heap.size)] 115)).cell? ⟨V.heap.size + 1, 0, none⟩ = some (.map (some V.heap.size)) := by
      simp
    exact (cell_of_heap 0 (hb2.block _ (by simp))).trans q
  have zU : V.heap.size + 1 + 1 < U.heap.size := by rw [hU]; simp
  clear hU bn
  go_upto_region 6 with (fail)
  refine wp_gen (fun X hX => ?_)
  have hbX : Below U.heap.size U X := by rw [hX]; (repeat' (first | (with_reducible exact Below.refl _ _) | (with_reducible refine Below.ext_mk ?_ ?_ _ _) | (with_reducible refine Below.alloc ?_ ?_ _) | (with_reducible refine Below.drew ?_) | (with_reducible refine Below.setCell ?_ ?_ _) | go_size))
  have cX : X.cell? ⟨U.heap.size, 0, none⟩ = some (.func (.func 101) #[] #[.pointer (some ⟨w.heap.size, 0, none⟩), .pointer (some ⟨V.heap.size + 1, 0, none⟩), .pointer (some ⟨V.heap.size + 1 + 1, 0, none⟩), .pointer (some ⟨U.heap.size, 0, none⟩)]) := by
    rw [hX]; go_simp
  have zX : U.heap.size < X.heap.size := by rw [hX]; simp
  clear hX
  have hbVX : Below V.heap.size V X := hbU.trans (hbX.mono hbU.size)
  have hwV := hbV.size
  have SX : SupW X p V.heap.size (V.heap.size + 1 + 1) w.heap.size (V.heap.size + 1) U.heap.size F S [] O0 :=
    { sto := HV.below hbVX, map := MapIs.keep mU (hbX.block _ (by omega)), blk := bU.below hbX, len := l0
      fm := fun hm => Nat.lt_irrefl _ (hVF _ hm), fb := fun hm => by have := hVF _ hm; omega, ne := by omega
      z0 := by omega, z1 := by omega, z3 := zX
      m0 := by omega, m1 := by omega, m3 := by omega, b0 := by omega, b1 := by omega, b3 := by omega
      c0 := (cell_of_heap 0 (hbVX.block _ zV0)).trans cV0_0
      c1 := (cell_of_heap 0 (hbX.block _ (by omega))).trans cU
      c3 := cX }
  have hb0 : Below w.heap.size w X := hbV.trans (hbVX.mono hbV.size)
  have wlt : w.heap.size ≤ V.heap.size := hwV
  have wkb : w.heap.size ≤ V.heap.size + 1 + 1 := by omega
  generalize V.heap.size + 1 + 1 = kb at *
  generalize V.heap.size + 1 = i1 at *
  generalize V.heap.size = km at *
  generalize U.heap.size = i3 at *
  have HI := sup_any hW p km kb w.heap.size i1 i3 F (S.nodes.length + 2) X [] O0 x SX (by have := has_right (S := S) x; unfold Sto.has at this; omega)
  generalize hR : supN S (S.nodes.length + 2) [] O0 x = R at *
  have HR := hid hR
  clear hR
  obtain ⟨K1, O1⟩ := R
  have Hkm := hid wlt
  clear mU bU cU SX H hz hmm hmf hlt FU hbX hbVX hbU hbV cV0_0 zV0 zU HV hVF
  go_upto_region 7 with ((with_reducible refine HI.mono ?_); rintro e Y ⟨rfl, SY, stY⟩)
  refine wp_region_doc (fun F' hF => ?_)
  have HF := hid hF
  clear hF
  refine doc_val rfl (load_row_op _ _ _ _ _ _ _ _ on_arr (on_size O1 SY.len) rfl SY.blk) ?_
  simp only [Act.put, List.setIfInBounds_toArray, List.set_cons_zero, List.set_cons_succ]
  refine doc_val rfl (by first | (go_simp; done) | (go_simp; exact ⟨rfl, rfl⟩) | (go_simp; with_reducible rfl)) ?_
  simp only [Act.put, List.setIfInBounds_toArray, List.set_cons_zero, List.set_cons_succ]
  refine doc_end (HF.out _ _ ?_)
  clear HF F'
  have hbY : Below w.heap.size w Y := hb0.trans (stY.below (fun k hk => by simp at hk; rcases hk with rfl | rfl <;> omega) hb0.size)
  have l1 := SY.len
  clear SY stY HI hb0 cX zX
  go_wp2_with fail
  go_loopw [4, 19] (fun sl i wr => ∃ (j : Nat) (G : Option Nat), j ≤ 64 ∧ i = .int .i64 j ∧ RowIs wr sl G 3 1 (onL O1 j).length (ints (onL O1 j)) ∧ (∀ g, G = some g → w.heap.size ≤ g) ∧ Below w.heap.size w wr) (fun _ i _ => 64 - (intOf i).toNat)
  case atStart => exact ⟨0, none, by omega, rfl, ⟨rfl, .inl ⟨rfl, rfl, rfl⟩⟩, fun g hg => (by cases hg), hbY⟩
  case round =>
    obtain ⟨j, G, hj, rfl, hrow, hG, hb⟩ := hrel
    have hbs := hb.size
    by_cases hlt : j < 64
    · have hj1 : (j : Int) < 64 := by omega
      have hj0 : (0 : Int) ≤ (j : Int) := by omega
      have hO : onL O1 (j + 1) = if O1.getD j false then onL O1 j ++ [(j : Int)] else onL O1 j := rfl
      have hln := onL_length O1 j
      have HO := hid hO
      clear hO
      have hix := fun w => index_on O1 l1 hlt w
      cases hb1 : O1.getD j false
      · rw [hb1] at hix HO
        go_wp2
        go_roundw
        case rel =>
          refine ⟨j + 1, G, by omega, by go_num, ?_, hG, hb⟩
          rw [HO.out, if_neg (by simp)]
          exact hrow
        case measure => simp [intOf]; omega
      · rw [hb1] at hix HO
        obtain ⟨v', w1, G', r1, r2, r3, r4⟩ := grow_int hrow hG hbs (by omega) (j : Int)
        go_upto_region 11 with (fail)
        refine wp_region_doc (fun F' hF => ?_)
        have HF := hid hF
        clear hF
        refine doc_val rfl (by first | (go_simp; done) | (go_simp; exact ⟨rfl, rfl⟩) | (go_simp; with_reducible rfl)) ?_
        simp only [Act.put, List.setIfInBounds_toArray, List.set_cons_zero, List.set_cons_succ]
        refine doc_val rfl (by first | (go_simp; done) | (go_simp; exact ⟨rfl, rfl⟩) | (go_simp; with_reducible rfl)) ?_
        simp only [Act.put, List.setIfInBounds_toArray, List.set_cons_zero, List.set_cons_succ]
        refine doc_val rfl (by first | (go_simp; done) | (go_simp; exact ⟨rfl, rfl⟩) | (go_simp; with_reducible rfl)) ?_
        simp only [Act.put, List.setIfInBounds_toArray, List.set_cons_zero, List.set_cons_succ]
        refine doc_val rfl (run_append_op _ _ _ _ _ _ _ _ _ r1) ?_
        simp only [Act.put, List.setIfInBounds_toArray, List.set_cons_zero, List.set_cons_succ]
        refine doc_val rfl (by first | (go_simp; done) | (go_simp; exact ⟨rfl, rfl⟩) | (go_simp; with_reducible rfl)) ?_
        simp only [Act.put, List.setIfInBounds_toArray, List.set_cons_zero, List.set_cons_succ]
        refine doc_end (HF.out _ _ ?_)
        clear HF F'
        go_wp2
        go_roundw
        case rel =>
          refine ⟨j + 1, some G', by omega, by go_num, ?_, fun g hg => by cases hg; exact r3, hb.trans r4⟩
          rw [HO.out, if_pos rfl]
          exact r2
        case measure => simp [intOf]; omega
    · obtain rfl : j = 64 := by omega
      go_wp2
      go_returns
      have hrd := RowIs.rd hrow
      refine ⟨_, rfl, ?_, hb⟩
      rw [HR.out]
      exact hrd
end Go.Proofs.Ytboekafmplomhaa
set_option linter.unusedVariables false
set_option linter.unusedSimpArgs false
namespace Go.Proofs.Ytboekafmplomhaa
open Go.RowKit

theorem equal_ints {w : World} {l1 l2 : List Int} {s1 s2 : Value} (h1 : Rd w 1 s1 (ints l1)) (h2 : Rd w 1 s2 (ints l2)) :
    Calls Try.prog 45 #[s1, s2] w (Pure (.bool (decide (l1 = l2))) w) := by
  obtain ⟨a1, c1, rfl, hc1, hm1⟩ := h1.len
  obtain ⟨a2, c2, rfl, hc2, hm2⟩ := h2.len
  have L1 := hid h1
  have L2 := hid h2
  clear h1 h2
  by_cases hl : l1.length = l2.length
  · have hl' : (l1.length : Int) = (l2.length : Int) := by omega
    have HL := hid hl
    clear hl
    go_enter Try.func45, Try.ntmps45
    go_wp2_with fail
    go_loopw [13] (fun i wr => ∃ j : Nat, j ≤ l1.length ∧ i = .int .i64 j ∧ (∀ k, k < j → l1[k]? = l2[k]?) ∧ Below w.heap.size w wr) (fun i _ => l1.length - (intOf i).toNat)
    case atStart => exact ⟨0, by omega, rfl, fun k hk => by omega, by (repeat' (first | (with_reducible exact Below.refl _ _) | (with_reducible refine Below.ext_mk ?_ ?_ _ _) | (with_reducible refine Below.alloc ?_ ?_ _) | (with_reducible refine Below.drew ?_) | (with_reducible refine Below.setCell ?_ ?_ _) | go_size))⟩
    case round =>
      obtain ⟨j, hj, rfl, hpre, hb⟩ := hrel
      have hbs := hb.size
      have HP := hid hpre
      clear hpre
      by_cases hlt : j < l1.length
      · have hj1 : (j : Int) < (l1.length : Int) := by omega
        have hj2 : (j : Int) < (l2.length : Int) := by omega
        have hlt2 : j < l2.length := by omega
        obtain ⟨b1, o1, rfl, zb1, cc1⟩ := Rd.intAt L1.out hlt
        obtain ⟨b2, o2, rfl, zb2, cc2⟩ := Rd.intAt L2.out hlt2
        have d1 := (hb.cell (p := ⟨b1, o1 + j, none⟩) zb1).trans cc1
        have d2 := (hb.cell (p := ⟨b2, o2 + j, none⟩) zb2).trans cc2
        have y1 : b1 < wr.heap.size := by omega
        have y2 : b2 < wr.heap.size := by omega
        obtain ⟨x1, hx1⟩ : ∃ x, x = l1[j] := ⟨_, rfl⟩
        obtain ⟨x2, hx2⟩ : ∃ x, x = l2[j] := ⟨_, rfl⟩
        rw [← hx1] at d1
        rw [← hx2] at d2
        have X := hid (And.intro hx1 hx2)
        clear hx1 hx2 cc1 cc2 hl'
        by_cases hx : x1 = x2
        · have HX := hid hx
          have hx' : (x1 == x2) = true := by simpa using hx
          clear hx
          go_upto_region 6 with (fail)
          refine wp_region_ext (by kernel_rfl) (by kernel_rfl) (fun F hF => ?_)
          have HF := hid hF; clear hF
          repeat (first
            | (apply text_skip; (focus rfl); simp only [Act.put, List.setIfInBounds_toArray, List.set_cons_zero, List.set_cons_succ])
            | (apply text_val; (focus rfl); (focus (intro _ _; go_simp; with_reducible rfl)); simp only [Act.put, List.setIfInBounds_toArray, List.set_cons_zero, List.set_cons_succ])
            | (apply text_if; (focus (first | exact wanted_t rfl rfl | exact wanted_f rfl rfl | exact wanted_gt rfl rfl | exact wanted_gf rfl rfl)); (focus (intro hc _ _; (try simp only [Bool.and_eq_true, Bool.not_eq_true', Bool.true_and] at hc); go_simp; with_reducible rfl)); simp only [Act.put, List.setIfInBounds_toArray, List.set_cons_zero, List.set_cons_succ]))
          refine text_nil (HF.out _ (fun mx dx => ?_))
          clear HF F
          go_wp2_with fail
          go_roundw
          case rel =>
            refine ⟨j + 1, by omega, by go_num, fun k hk => ?_, Below.ext_mk hb hbs _ _⟩
            by_cases hk' : k < j
            · exact HP.out k hk'
            · obtain rfl : k = j := by omega
              rw [List.getElem?_eq_getElem hlt, List.getElem?_eq_getElem hlt2, ← X.out.1, ← X.out.2, HX.out]
          case measure => simp [intOf]; omega
        · have HX := hid hx
          have hx' : (x1 == x2) = false := by simpa using hx
          clear hx
          go_upto_region 6 with (fail)
          refine wp_region_ext (by kernel_rfl) (by kernel_rfl) (fun F hF => ?_)
          have HF := hid hF; clear hF
          repeat (first
            | (apply text_skip; (focus rfl); simp only [Act.put, List.setIfInBounds_toArray, List.set_cons_zero, List.set_cons_succ])
            | (apply text_val; (focus rfl); (focus (intro _ _; go_simp; with_reducible rfl)); simp only [Act.put, List.setIfInBounds_toArray, List.set_cons_zero, List.set_cons_succ])
            | (apply text_if; (focus (first | exact wanted_t rfl rfl | exact wanted_f rfl rfl | exact wanted_gt rfl rfl | exact wanted_gf rfl rfl)); (focus (intro hc _ _; (try simp only [Bool.and_eq_true, Bool.not_eq_true', Bool.true_and] at hc); go_simp; with_reducible rfl)); simp only [Act.put, List.setIfInBounds_toArray, List.set_cons_zero, List.set_cons_succ]))
          refine text_nil (HF.out _ (fun mx dx => ?_))
          clear HF F
          go_wp2_with fail
          go_returns
          refine Pure.of ?_ (Below.ext_mk hb hbs _ _)
          have : ¬ l1 = l2 := fun e => HX.out (by rw [X.out.1, X.out.2]; subst e; rfl)
          simp [this]
      · go_wp2_with fail
        go_returns
        refine Pure.of ?_ hb
        have : l1 = l2 := List.ext_getElem? (fun k => by
          by_cases hk : k < j
          · exact HP.out k hk
          · rw [List.getElem?_eq_none (by omega), List.getElem?_eq_none (by have := HL.out; omega)])
        simp [this]
  · have hl' : ¬ (l1.length : Int) = (l2.length : Int) := by omega
    have hl2 : ¬ l1 = l2 := fun e => hl (by rw [e])
    have hd : decide (l1 = l2) = false := by simp [hl2]
    rw [hd]
    clear hd hl2 hl
    go_enter Try.func45, Try.ntmps45
    go_wp2_with fail
    go_returns
    exact Pure.of rfl (by (repeat' (first | (with_reducible exact Below.refl _ _) | (with_reducible refine Below.ext_mk ?_ ?_ _ _) | (with_reducible refine Below.alloc ?_ ?_ _) | (with_reducible refine Below.drew ?_) | (with_reducible refine Below.setCell ?_ ?_ _) | go_size)))

theorem bindL_good (op : Sto → Int → Int → Sto × Int) (hop : ∀ S a b, Wf S → Sated S → Wf (op S a b).1 ∧ Sated (op S a b).1) :
    ∀ (l : List Int) (S : Sto) (a : Int), Wf S → Sated S → Wf (bindL op S a l).1 ∧ Sated (bindL op S a l).1
  | [], S, a, h, hs => ⟨h, hs⟩
  | v :: l, S, a, h, hs => by
    unfold bindL
    split
    · have g1 := underV_good h hs a v false
      have g2 := underV_good g1.1 g1.2 a v true
      have g3 := hop _ (underV S a v false).2 (underV (underV S a v false).1 a v true).2 g2.1 g2.2
      exact bindL_good op hop l _ _ g3.1 g3.2
    · exact bindL_good op hop l _ _ h hs
theorem impliesV_good {S : Sto} (h : Wf S) (hs : Sated S) (a b : Int) : Wf (impliesV S a b).1 ∧ Sated (impliesV S a b).1 := by
  have g1 := iteV_good h hs b 0 1
  exact iteV_good g1.1 g1.2 _ _ _

def qA : Sto × Int := varV (newS 20) 0
def qB : Sto × Int := varV qA.1 1
def qC : Sto × Int := andV qB.1 2 3
def qE : Sto × Int := bindV orV qC.1 4 [0]
def qF : Sto × Int := bindV andV qE.1 4 [0]
def qG : Sto × Bool := impliesV qF.1 4 2
def qH : Sto × Bool := impliesV qG.1 2 4
theorem qA_ok : VOk (newS 20) 6 1 qA := varV_ok (newS_wf (by omega) (by omega)) (newS_sated 20) (newS_below 20 6) 0 (by omega)
theorem qB_ok : VOk qA.1 6 1 qB := varV_ok qA_ok.wf qA_ok.sated qA_ok.below 1 (by omega)
theorem qC_ok : VOk qB.1 6 64 qC := andV_ok qB_ok.wf qB_ok.sated qB_ok.below (by omega) 2 3
theorem qE_ok : Wf qE.1 ∧ Sated qE.1 := bindL_good orV (fun S a b hW hs => iteV_good hW hs _ _ _) _ _ _ qC_ok.wf qC_ok.sated
theorem qF_ok : Wf qF.1 ∧ Sated qF.1 := bindL_good andV (fun S a b hW hs => iteV_good hW hs _ _ _) _ _ _ qE_ok.1 qE_ok.2
theorem qG_ok : Wf qG.1 ∧ Sated qG.1 := impliesV_good qF_ok.1 qF_ok.2 _ _
theorem qA_is : qA.2 = 2 := by decide +kernel
theorem qB_is : qB.2 = 3 := by decide +kernel
theorem qC_is : qC.2 = 4 := by decide +kernel
theorem qE_is : qE.2 = 3 := by decide +kernel
theorem qF_is : qF.2 = 0 := by decide +kernel
theorem qF_full : qF.1.full = false := by decide +kernel
theorem qF_sup : onL (supN qF.1 (qF.1.nodes.length + 2) [] (List.replicate 64 false) 4).2 64 = [0, 1] := by decide +kernel
theorem qG_is : qG.2 = true := by decide +kernel
theorem qH_is : qH.2 = false := by decide +kernel
end Go.Proofs.Ytboekafmplomhaa
set_option linter.unusedVariables false
set_option linter.unusedSimpArgs false
namespace Go.Proofs.Ytboekafmplomhaa
open Go.RowKit

/-- A cube: which variables it names; their values. -/
abbrev Cu := Nat × Nat
abbrev cv (c : Cu) : Value := .agg #[.int .u64 c.1, .int .u64 c.2]
def CuOk (c : Cu) : Prop := c.1 < 18446744073709551616 ∧ c.2 < 18446744073709551616
theorem cuOk_zero : CuOk (0, 0) := ⟨by omega, by omega⟩

def setB (n v : Nat) : Nat := n ||| 2 ^ v
def clrB (n v : Nat) : Nat := n &&& (18446744073709551615 - 2 ^ v)
def mayC (c : Cu) : Bool := decide (c.2 &&& (18446744073709551615 - c.1) = 0)
theorem pow_lt64 {v : Nat} (hv : v < 64) : 2 ^ v < 18446744073709551616 := by
  have : 2 ^ v < 2 ^ 64 := Nat.pow_lt_pow_right (by omega) hv
  simpa using this
theorem setB_lt {n v : Nat} (hn : n < 18446744073709551616) (hv : v < 64) : setB n v < 18446744073709551616 := by
  have h := pow_lt64 hv
  have : n ||| 2 ^ v < 2 ^ 64 := Nat.or_lt_two_pow (by simpa using hn) (by simpa using h)
  simpa [setB] using this
theorem clrB_lt {n : Nat} (v : Nat) (hn : n < 18446744073709551616) : clrB n v < 18446744073709551616 :=
  Nat.lt_of_le_of_lt Nat.and_le_left hn

/-- The diagram of a cube, its variables from v on upwards done. -/
def ofN (c : Cu) : Nat → Sto → Int → Sto × Int
  | 0, S, a => (S, a)
  | v + 1, S, a =>
    if Nat.testBit c.1 v then
      if Nat.testBit c.2 v then ofN c v (andV (varV S v).1 (varV S v).2 a).1 (andV (varV S v).1 (varV S v).2 a).2
      else ofN c v (andV (notV (varV S v).1 (varV S v).2).1 (notV (varV S v).1 (varV S v).2).2 a).1 (andV (notV (varV S v).1 (varV S v).2).1 (notV (varV S v).1 (varV S v).2).2 a).2
    else ofN c v S a
def ofV (S : Sto) (c : Cu) : Sto × Int :=
  if mayC c = false ∨ S.full = true then (S, 0)
  else if (ofN c 64 S 1).1.full then ((ofN c 64 S 1).1, 0) else ofN c 64 S 1

def Gs (S : Sto) : Prop := Wf S ∧ Sated S
theorem varV_gs {S : Sto} (h : Gs S) (v : Int) : Gs (varV S v).1 := by
  have := varV_ok h.1 h.2 (below64 h.1) v (by omega)
  exact ⟨this.wf, this.sated⟩
theorem notV_gs {S : Sto} (h : Gs S) (x : Int) : Gs (notV S x).1 := iteV_good h.1 h.2 _ _ _
theorem andV_gs {S : Sto} (h : Gs S) (x y : Int) : Gs (andV S x y).1 := iteV_good h.1 h.2 _ _ _
theorem orV_gs {S : Sto} (h : Gs S) (x y : Int) : Gs (orV S x y).1 := iteV_good h.1 h.2 _ _ _
theorem ofN_gs (c : Cu) : ∀ (v : Nat) (S : Sto) (a : Int), Gs S → Gs (ofN c v S a).1
  | 0, S, a, h => h
  | v + 1, S, a, h => by
    unfold ofN
    split
    · split
      · exact ofN_gs c v _ _ (andV_gs (varV_gs h _) _ _)
      · exact ofN_gs c v _ _ (andV_gs (notV_gs (varV_gs h _) _) _ _)
    · exact ofN_gs c v _ _ h
theorem ofV_gs {S : Sto} (h : Gs S) (c : Cu) : Gs (ofV S c).1 := by
  unfold ofV
  split
  · exact h
  · split
    · exact ofN_gs c 64 S 1 h
    · exact ofN_gs c 64 S 1 h

/-- Some cubes' diagram. -/
def allV : Sto → Int → List Cu → Sto × Int
  | S, a, [] => (S, a)
  | S, a, c :: l => allV (orV (ofV S c).1 a (ofV S c).2).1 (orV (ofV S c).1 a (ofV S c).2).2 l

/-- Whether a cube is within a diagram. -/
def withinV (S : Sto) (a : Int) (c : Cu) : Sto × Bool := impliesV (ofV S c).1 (ofV S c).2 a
theorem withinV_gs {S : Sto} (h : Gs S) (a : Int) (c : Cu) : Gs (withinV S a c).1 := impliesV_good (ofV_gs h c).1 (ofV_gs h c).2 _ _
/-- The prime, k variables still to look at. -/
def primeN (a : Int) : Nat → Sto → Cu → Sto × Cu
  | 0, S, out => (S, out)
  | k + 1, S, out =>
    if clrB out.1 (63 - k) ≠ out.1 then
      if (withinV S a (clrB out.1 (63 - k), clrB out.2 (63 - k))).2 then primeN a k (withinV S a (clrB out.1 (63 - k), clrB out.2 (63 - k))).1 (clrB out.1 (63 - k), clrB out.2 (63 - k))
      else primeN a k (withinV S a (clrB out.1 (63 - k), clrB out.2 (63 - k))).1 out
    else primeN a k S out
def primeV (S : Sto) (a : Int) (c : Cu) : Sto × Cu :=
  if mayC c then
    if (withinV S a c).2 then
      if (primeN a 64 (withinV S a c).1 c).1.full then ((primeN a 64 (withinV S a c).1 c).1, c) else primeN a 64 (withinV S a c).1 c
    else ((withinV S a c).1, c)
  else (S, c)
theorem primeN_gs (a : Int) : ∀ (k : Nat) (S : Sto) (out : Cu), Gs S → Gs (primeN a k S out).1
  | 0, S, out, h => h
  | k + 1, S, out, h => by
    unfold primeN
    split
    · split
      · exact primeN_gs a k _ _ (withinV_gs h _ _)
      · exact primeN_gs a k _ _ (withinV_gs h _ _)
    · exact primeN_gs a k _ _ h
theorem primeV_gs {S : Sto} (h : Gs S) (a : Int) (c : Cu) : Gs (primeV S a c).1 := by
  unfold primeV
  split
  · split
    · split
      · exact primeN_gs a 64 _ _ (withinV_gs h _ _)
      · exact primeN_gs a 64 _ _ (withinV_gs h _ _)
    · exact withinV_gs h _ _
  · exact h
theorem primeN_cu (a : Int) : ∀ (k : Nat) (S : Sto) (out : Cu), CuOk out → CuOk (primeN a k S out).2
  | 0, S, out, h => h
  | k + 1, S, out, h => by
    unfold primeN
    split
    · split
      · exact primeN_cu a k _ _ ⟨clrB_lt _ h.1, clrB_lt _ h.2⟩
      · exact primeN_cu a k _ _ h
    · exact primeN_cu a k _ _ h
theorem primeV_cu (S : Sto) (a : Int) {c : Cu} (h : CuOk c) : CuOk (primeV S a c).2 := by
  unfold primeV
  split
  · split
    · split
      · exact h
      · exact primeN_cu a 64 _ _ h
    · exact h
  · exact h

/-- The paths of a diagram, from a cube on. -/
def pathsN (S : Sto) : Nat → Int → Cu → List Cu
  | 0, _, _ => []
  | n + 1, a, c =>
    if (atV S a).2 then
      pathsN S n (atV S a).1.2.1 (setB c.1 (atV S a).1.1.toNat, c.2) ++ pathsN S n (atV S a).1.2.2 (setB c.1 (atV S a).1.1.toNat, setB c.2 (atV S a).1.1.toNat)
    else if a = 1 then [c] else []
def pathsL (S : Sto) (a : Int) : List Cu := pathsN S (S.nodes.length + 2) a (0, 0)
theorem pathsN_cu {S : Sto} (hW : Wf S) : ∀ (n : Nat) (a : Int) (c : Cu), CuOk c → ∀ x ∈ pathsN S n a c, CuOk x
  | 0, _, _, _, x, hx => by simp [pathsN] at hx
  | n + 1, a, c, h, x, hx => by
    unfold pathsN at hx
    have hv : (atV S a).1.1.toNat < 64 := by
      unfold atV
      split
      · simp
      · rename_i h2
        obtain ⟨-, e2, e3⟩ := rightOf_two h2
        have hi : (a - 2).toNat < S.nodes.length := by omega
        rw [List.getElem?_eq_getElem hi]
        have := (hW.node _ _ (List.getElem?_eq_getElem hi)).v64
        simp only [Option.getD_some]
        omega
    split at hx
    · rcases List.mem_append.1 hx with hx | hx
      · exact pathsN_cu hW n _ (setB c.1 (atV S a).1.1.toNat, c.2) ⟨setB_lt h.1 hv, h.2⟩ x hx
      · exact pathsN_cu hW n _ (setB c.1 (atV S a).1.1.toNat, setB c.2 (atV S a).1.1.toNat) ⟨setB_lt h.1 hv, setB_lt h.2 hv⟩ x hx
    · split at hx
      · simp at hx; rw [hx]; exact h
      · simp at hx

/-- How many are told. -/
def heldV (most : Int) : Int := max 0 (min most 4096)
def pathsV (S : Sto) (a most : Int) : List Cu × Bool :=
  if S.full then ([], false) else if ((pathsL S a).length : Int) ≤ heldV most then (pathsL S a, true) else ((pathsL S a).take (heldV most).toNat, false)
/-- The cover, at most k cubes more. -/
def coverN (a : Int) (held : Int) : Nat → Sto → Int → List Cu → Sto × List Cu × Bool
  | 0, S, rest, l => (S, l, decide (rest = 0))
  | k + 1, S, rest, l =>
    if rest = 0 then (S, l, true)
    else if (l.length : Int) = held then (S, l, false)
    else
      coverN a held k
        (andV (notV (ofV (primeV S a ((pathsL S rest).headD (0, 0))).1 (primeV S a ((pathsL S rest).headD (0, 0))).2).1 (ofV (primeV S a ((pathsL S rest).headD (0, 0))).1 (primeV S a ((pathsL S rest).headD (0, 0))).2).2).1 rest
          (notV (ofV (primeV S a ((pathsL S rest).headD (0, 0))).1 (primeV S a ((pathsL S rest).headD (0, 0))).2).1 (ofV (primeV S a ((pathsL S rest).headD (0, 0))).1 (primeV S a ((pathsL S rest).headD (0, 0))).2).2).2).1
        (andV (notV (ofV (primeV S a ((pathsL S rest).headD (0, 0))).1 (primeV S a ((pathsL S rest).headD (0, 0))).2).1 (ofV (primeV S a ((pathsL S rest).headD (0, 0))).1 (primeV S a ((pathsL S rest).headD (0, 0))).2).2).1 rest
          (notV (ofV (primeV S a ((pathsL S rest).headD (0, 0))).1 (primeV S a ((pathsL S rest).headD (0, 0))).2).1 (ofV (primeV S a ((pathsL S rest).headD (0, 0))).1 (primeV S a ((pathsL S rest).headD (0, 0))).2).2).2).2
        (l ++ [(primeV S a ((pathsL S rest).headD (0, 0))).2])
end Go.Proofs.Ytboekafmplomhaa
