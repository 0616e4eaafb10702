/-
  A region that draws its order, whose head makes blocks of its own beside pure calls: walked once, in the order of the text; where the blocks lie is told at its end alone.
-/
import Derived.Test.YtidnhnfmbebeaaaZV
import Derived.Test.YtidnhnfmbebeaaaZDoC
import Derived.Laws.MakeOwn
import Derived.Laws.Rows
import Derived.Deep.WholeRow
import Derived.Test.YtidnhnfmbebeaaaZR
import Derived.Test.YtidnhnfmbebeaaaZSto
set_option linter.unusedVariables false
set_option linter.unusedSimpArgs false
namespace Go
open Go.RowKit

section
variable {P : Program} {ops : Array Oper} {Q : Exit → Act → World → Prop} {W : World} {F : Act → Prop} {o : Oper} {r : List Oper} {a : Act} {v : Value} {G : Nat → Value → World → Prop}

/-- An operation; 'made': it makes a block, and what it gives hangs on when it comes up. -/
structure EntM where
  i : Nat
  o : Oper
  v : Value
  made : Bool

/-- In every world behind W the operation gives v, and makes no more than memory. -/
def G2 (P : Program) (W : World) (o : Oper) (v : Value) (a : Act) : Prop :=
  ∀ m d, match (execOp a.eval o).run P (W.ext m d) with
    | .ok (.value u) w' => u = v ∧ Ext (W.ext m d) w'
    | .ok .skip w' => undef = v ∧ Ext (W.ext m d) w'
    | .ok (.enter f args) w' => Calls P f args w' (fun e w'' => e = .returned v ∧ Ext (W.ext m d) w'')
    | _ => False
/-- The block that a value leads to. -/
def blkOf : Value → Nat
  | .pointer (some a) => a.block
  | .slice (some a) _ _ => a.block
  | .map (some b) => b
  | _ => 0
/-- It makes a block, of which G speaks. -/
def GK (P : Program) (W : World) (G : Nat → Value → World → Prop) (i : Nat) (o : Oper) (a : Act) : Prop :=
  ∀ m d, ∃ u w', (execOp a.eval o).run P (W.ext m d) = .ok (.value u) w' ∧ Ext (W.ext m d) w' ∧ G i u w' ∧ (W.ext m d).heap.size ≤ blkOf u ∧ blkOf u < w'.heap.size
def GivesM (P : Program) (ops : Array Oper) (W : World) (G : Nat → Value → World → Prop) (x : EntM) (a : Act) : Prop :=
  (x.made = true ∧ Region.wanted x.o (yielded ops a.tmps) = true ∧ GK P W G x.i x.o a) ∨
  (x.made = false ∧ ((Region.wanted x.o (yielded ops a.tmps) = true ∧ G2 P W x.o x.v a) ∨ (Region.wanted x.o (yielded ops a.tmps) = false ∧ x.v = undef)))
theorem GivesM.of_same {x : EntM} {a a' : Act} (h : GivesM P ops W G x a) (he : execOp a'.eval x.o = execOp a.eval x.o)
    (hw : Region.wanted x.o (yielded ops a'.tmps) = Region.wanted x.o (yielded ops a.tmps)) : GivesM P ops W G x a' := by
  unfold GivesM GK G2 at *; rw [he, hw]; exact h
def putM (x : EntM) (a : Act) : Act := if x.made then a else a.put x.o.dst x.v
def ChainM (P : Program) (ops : Array Oper) (W : World) (G : Nat → Value → World → Prop) : List EntM → Act → Prop
  | [], _ => True
  | x :: r, a => GivesM P ops W G x a ∧ ChainM P ops W G r (putM x a)
/-- All is put, the blocks that were made among it. -/
def putsM (us : Nat → Value) : List EntM → Act → Act
  | [], a => a
  | x :: r, a => putsM us r (a.put x.o.dst (if x.made then us x.i else x.v))

theorem execOp_putM (hsel : ∀ (j : Nat) (o : Oper) cs b, ops[j]? = some o → o.op ≠ .select cs b) {x y : EntM} (hx : ops[x.i]? = some x.o) (a : Act) (ap : ∀ u, execOp (a.put y.o.dst u).eval x.o = execOp a.eval x.o) : execOp (putM y a).eval x.o = execOp a.eval x.o := by
  unfold putM; split
  · rfl
  · exact ap _
theorem putM_comm {x y : EntM} (h : ∀ (a : Act) u v, (a.put x.o.dst u).put y.o.dst v = (a.put y.o.dst v).put x.o.dst u) (a : Act) : putM y (putM x a) = putM x (putM y a) := by
  unfold putM
  by_cases h1 : x.made = true <;> by_cases h2 : y.made = true <;> simp [h1, h2]
  exact h a _ _

/-- Two that are apart: neither reads what the other one gives. -/
structure Far (ops : Array Oper) (x y : EntM) : Prop where
  comm : ∀ (a : Act) u v, (a.put x.o.dst u).put y.o.dst v = (a.put y.o.dst v).put x.o.dst u
  ex : ∀ (a : Act) u, execOp (a.put y.o.dst u).eval x.o = execOp a.eval x.o
  wx : ∀ (a : Act) u, Region.wanted x.o (yielded ops (a.put y.o.dst u).tmps) = Region.wanted x.o (yielded ops a.tmps)
  ey : ∀ (a : Act) u, execOp (a.put x.o.dst u).eval y.o = execOp a.eval y.o
  wy : ∀ (a : Act) u, Region.wanted y.o (yielded ops (a.put x.o.dst u).tmps) = Region.wanted y.o (yielded ops a.tmps)
theorem far_of (hsel : ∀ (j : Nat) (o : Oper) cs b, ops[j]? = some o → o.op ≠ .select cs b) {x y : EntM} (hx : ops[x.i]? = some x.o) (hy : ops[y.i]? = some y.o) (hap : x.o.apart ops y.o = true) : Far ops x y := by
  obtain ⟨ap1, ap2, ap3⟩ := Oper.apart_spec hap
  exact ⟨fun a u v => Act.put_comm a _ _ ap2, fun a u => execOp_put x.o (fun cs b => hsel x.i x.o cs b hx) a y.o.dst u ap3, fun a u => wanted_put x.o a y.o.dst u ap3,
    fun a u => execOp_put y.o (fun cs b => hsel y.i y.o cs b hy) a x.o.dst u ap1, fun a u => wanted_put y.o a x.o.dst u ap1⟩
theorem Far.symm {x y : EntM} (h : Far ops x y) : Far ops y x := ⟨fun a u v => (h.comm a v u).symm, h.ey, h.wy, h.ex, h.wx⟩
theorem Far.gives {x y : EntM} (h : Far ops x y) {a : Act} (u : Value) : GivesM P ops W G x (a.put y.o.dst u) ↔ GivesM P ops W G x a :=
  ⟨fun g => g.of_same (h.ex a u).symm (h.wx a u).symm, fun g => g.of_same (h.ex a u) (h.wx a u)⟩
theorem Far.givesM {x y : EntM} (h : Far ops x y) {a : Act} : GivesM P ops W G x (putM y a) ↔ GivesM P ops W G x a := by
  unfold putM; split
  · exact Iff.rfl
  · exact h.gives _

theorem chainM_front (x : EntM) (l2 : List EntM) : ∀ (l1 : List EntM) (a : Act), (∀ y ∈ l1, Far ops y x) → ChainM P ops W G (l1 ++ x :: l2) a → ChainM P ops W G (x :: (l1 ++ l2)) a
  | [], a, _, h => h
  | y :: l1, a, hy, ⟨h0, h1⟩ => by
    obtain ⟨h2, h3⟩ := chainM_front x l2 l1 _ (fun z hz => hy z (List.mem_cons_of_mem _ hz)) h1
    have hf := hy y (List.mem_cons_self ..)
    refine ⟨hf.symm.givesM.1 h2, hf.givesM.2 h0, ?_⟩
    rw [← putM_comm hf.comm]; exact h3
theorem putsM_front (us : Nat → Value) (x : EntM) (l2 : List EntM) : ∀ (l1 : List EntM) (a : Act), (∀ y ∈ l1, Far ops y x) → putsM us (l1 ++ x :: l2) a = putsM us (x :: (l1 ++ l2)) a
  | [], a, _ => rfl
  | y :: l1, a, hy => by
    have hf := hy y (List.mem_cons_self ..)
    simp only [List.cons_append, putsM]
    rw [putsM_front us x l2 l1 _ (fun z hz => hy z (List.mem_cons_of_mem _ hz))]
    simp only [putsM]
    rw [hf.comm]
/-- What nothing reads may be put ahead. -/
theorem chainM_put (x : EntM) (u : Value) : ∀ (l : List EntM) (a : Act), (∀ y ∈ l, Far ops y x) → ChainM P ops W G l a → ChainM P ops W G l (a.put x.o.dst u)
  | [], _, _, _ => trivial
  | y :: r, a, hy, ⟨h0, h1⟩ => by
    have hf := hy y (List.mem_cons_self ..)
    refine ⟨(hf.gives u).2 h0, ?_⟩
    have := chainM_put x u r _ (fun z hz => hy z (List.mem_cons_of_mem _ hz)) h1
    have e : putM y (a.put x.o.dst u) = (putM y a).put x.o.dst u := by
      unfold putM; split
      · rfl
      · exact (hf.comm a _ _).symm
    rw [e]; exact this
theorem putsM_congr (us us' : Nat → Value) : ∀ (l : List EntM) (a : Act), (∀ x ∈ l, x.made = true → us x.i = us' x.i) → putsM us l a = putsM us' l a
  | [], _, _ => rfl
  | x :: r, a, h => by
    simp only [putsM]
    rw [putsM_congr us us' r _ (fun y hy => h y (List.mem_cons_of_mem _ hy))]
    congr 2
    by_cases e : x.made = true
    · simp only [e, if_true]; exact h x (List.mem_cons_self ..) e
    · simp [e]

def setsM : List EntM → Array Bool → Array Bool
  | [], l => l
  | x :: r, l => setsM r (l.setIfInBounds x.i true)
theorem setsM_front (x : EntM) (l2 : List EntM) : ∀ (l1 : List EntM) (b : Array Bool), (∀ y ∈ l1, y.i ≠ x.i) → setsM (l1 ++ x :: l2) b = setsM (l1 ++ l2) (b.setIfInBounds x.i true)
  | [], _, _ => rfl
  | y :: r, b, h => by
    simp only [List.cons_append, setsM]
    rw [setsM_front x l2 r _ (fun z hz => h z (List.mem_cons_of_mem _ hz)), Array.setIfInBounds_comm _ _ (h y (List.mem_cons_self ..))]
theorem setsM_size : ∀ (l : List EntM) (b : Array Bool), (setsM l b).size = b.size
  | [], _ => rfl
  | x :: r, b => by simp only [setsM]; rw [setsM_size r]; simp
theorem getD_setsM : ∀ (l : List EntM) (b : Array Bool) (j : Nat) (d : Bool), j < b.size → (setsM l b).getD j d = if j ∈ l.map (·.i) then true else b.getD j d
  | [], b, j, d, h => by simp [setsM]
  | x :: r, b, j, d, h => by
    simp only [setsM]
    rw [getD_setsM r _ j d (by simpa using h)]
    by_cases hj : j ∈ r.map (·.i)
    · rw [if_pos hj, if_pos (by simp only [List.map_cons]; exact List.mem_cons_of_mem _ hj)]
    · rw [if_neg hj]
      by_cases hx : x.i = j
      · subst hx; rw [if_pos (by simp)]; simp [h]
      · rw [if_neg (by simp only [List.map_cons, List.mem_cons, not_or]; exact ⟨fun e => hx e.symm, hj⟩)]
        exact getD_set_ne d hx

theorem any_of_chainM {md : Region.Mode} (hsel : ∀ (j : Nat) (o : Oper) cs b, ops[j]? = some o → o.op ≠ .select cs b) (n0 g : Nat) (ht : tailOk md ops n0 = true) (hG : ∀ z v w m d, G z v w → G z v (w.ext m d)) :
    ∀ (n : Nat) (l : List EntM) (listed : Array Bool) (a : Act) (H : World → Prop) (N : Nat), l.length = n → listed.size = ops.size →
      (∀ x ∈ l, ops[x.i]? = some x.o ∧ listed.getD x.i true = false) → l.Pairwise (fun x y => x.i ≠ y.i) →
      (∀ j, j < n0 → listed.getD j true = false → ∃ x ∈ l, x.i = j) → (∀ x ∈ l, x.i < n0) →
      l.Pairwise (fun x y => (x.made = false ∧ y.made = false ∧ x.i ∈ deps md ops y.i) ∨ Far ops x y) →
      (∀ l1 x l2, l = l1 ++ x :: l2 → ∀ k ∈ deps md ops x.i, listed.getD k false = true ∨ ∃ y ∈ l1, y.i = k) →
      Down md ops listed → (∀ w m d, H w → H (w.ext m d)) →
      ChainM P ops W G l a → (∀ us w, Ext W w → H w → (∀ x ∈ l, x.made = true → G x.i (us x.i) w ∧ N ≤ blkOf (us x.i)) → (∀ x ∈ l, ∀ y ∈ l, x.made = true → y.made = true → x.i ≠ y.i → blkOf (us x.i) ≠ blkOf (us y.i)) → wpAny P md ops Q g (setsM l listed) (putsM us l a) w) →
      ∀ w, Ext W w → H w → N ≤ w.heap.size → wpAny P md ops Q (n + g) listed a w := by
  intro n
  induction n with
  | zero =>
    intro l listed a H N hl hsz _ _ hall _ _ _ _ _ _ hQ w hE hH hN
    obtain rfl := List.length_eq_zero_iff.1 hl
    rw [Nat.zero_add]
    exact hQ (fun _ => undef) w hE hH (fun x hx => by cases hx) (fun x hx => by cases hx)
  | succ n ih =>
    intro l listed a H N hl hsz hent hnd hall hbig hpair hord hdown hHe hch hQ w hE hH hN
    have hne : l ≠ [] := fun e => by simp [e] at hl
    rw [show n + 1 + g = (n + g) + 1 by omega]
    refine ⟨fun h => ?_, fun j hj => ?_⟩
    · cases l with
      | nil => exact absurd rfl hne
      | cons x r =>
        have hx := hent x (List.mem_cons_self ..)
        have : x.i ∈ Region.ready md ops listed := (ready_of hx.1).2 ⟨hx.2, fun k hk => by
          rcases hord [] x r rfl k hk with h' | ⟨y, hy, _⟩
          · exact h'
          · cases hy⟩
        rw [h] at this; cases this
    · have hjun := (mem_ready.1 hj).1
      have hjn : j < n0 := by
        rcases Nat.lt_or_ge j n0 with h | h
        · exact h
        · exfalso
          cases l with
          | nil => exact hne rfl
          | cons x r =>
            have h1 := tail_unready ht hdown hj h x.i (hbig x (List.mem_cons_self ..))
            have h2 := (hent x (List.mem_cons_self ..)).2
            rcases Nat.lt_or_ge x.i listed.size with h' | h'
            · simp [h'] at h1 h2; rw [h2] at h1; cases h1
            · simp [Array.getElem?_eq_none h'] at h1
      obtain ⟨x, hx, rfl⟩ := hall j hjn hjun
      obtain ⟨l1, l2, rfl⟩ := List.append_of_mem hx
      have hxo := (hent x hx).1
      have hxd := ((ready_of hxo).1 hj).2
      have hap : ∀ y ∈ l1, Far ops y x := fun y hy => by
        have := (List.pairwise_append.1 hpair).2.2 y hy x (by simp)
        rcases this with ⟨_, _, h⟩ | h
        · have h1 := hxd _ h
          have h2 := (hent y (by simp [hy])).2
          exfalso
          rcases Nat.lt_or_ge y.i listed.size with h' | h'
          · simp [h'] at h1 h2; rw [h2] at h1; cases h1
          · simp [Array.getElem?_eq_none h'] at h1
        · exact h
      have hap2 : x.made = true → ∀ y ∈ l1 ++ l2, Far ops y x := fun hmk y hy => by
        rcases List.mem_append.1 hy with h | h
        · exact hap y h
        · rcases (List.pairwise_cons.1 (List.pairwise_append.1 hpair).2.1).1 y h with ⟨h', _⟩ | h'
          · rw [hmk] at h'; cases h'
          · exact h'.symm
      obtain ⟨hg, hch'⟩ := chainM_front x l2 l1 a hap hch
      have hne' : ∀ y ∈ l1 ++ l2, y.i ≠ x.i := fun y hy => by
        rcases List.mem_append.1 hy with h | h
        · exact (List.pairwise_append.1 hnd).2.2 y h x (by simp)
        · exact fun e => (List.pairwise_cons.1 (List.pairwise_append.1 hnd).2.1).1 y h e.symm
      have hsub : (l1 ++ l2).Sublist (l1 ++ x :: l2) := (List.sublist_cons_self x l2).append_left l1
      have hsets := setsM_front x l2 l1 listed (fun y hy => hne' y (List.mem_append_left _ hy))
      have step : ∀ (u : Value) (H' : World → Prop) (N' : Nat), (∀ w m d, H' w → H' (w.ext m d)) → ChainM P ops W G (l1 ++ l2) (a.put x.o.dst u) →
          (∀ us w, Ext W w → H' w → (∀ y ∈ l1 ++ l2, y.made = true → G y.i (us y.i) w ∧ N' ≤ blkOf (us y.i)) → (∀ y ∈ l1 ++ l2, ∀ z ∈ l1 ++ l2, y.made = true → z.made = true → y.i ≠ z.i → blkOf (us y.i) ≠ blkOf (us z.i)) → wpAny P md ops Q g (setsM (l1 ++ l2) (listed.setIfInBounds x.i true)) (putsM us (l1 ++ l2) (a.put x.o.dst u)) w) →
          ∀ w, Ext W w → H' w → N' ≤ w.heap.size → wpAny P md ops Q (n + g) (listed.setIfInBounds x.i true) (a.put x.o.dst u) w := by
        intro u H' N' hH' hcM hq
        refine ih (l1 ++ l2) (listed.setIfInBounds x.i true) (a.put x.o.dst u) H' N' (by simp at hl ⊢; omega) (by simpa using hsz) ?_ (hnd.sublist hsub) ?_ ?_ (hpair.sublist hsub) ?_ ?_ hH' hcM hq
        · intro y hy
          obtain ⟨h1, h2⟩ := hent y (hsub.subset hy)
          exact ⟨h1, by rw [getD_set_ne true (Ne.symm (hne' y hy))]; exact h2⟩
        · intro k hkn hk
          obtain ⟨hkx, hk'⟩ := getD_set_self hk
          obtain ⟨y, hy, rfl⟩ := hall k hkn hk'
          refine ⟨y, ?_, rfl⟩
          rcases List.mem_append.1 hy with h | h
          · exact List.mem_append_left _ h
          · rcases List.mem_cons.1 h with rfl | h
            · exact absurd rfl hkx
            · exact List.mem_append_right _ h
        · intro y hy; exact hbig y (hsub.subset hy)
        · intro m1 y m2 hm k hk
          have key : listed.getD k false = true ∨ (∃ z ∈ m1, z.i = k) ∨ x.i = k := by
            rcases List.append_eq_append_iff.1 hm with ⟨c, rfl, hc⟩ | ⟨c, rfl, hc⟩
            · rcases hord (l1 ++ x :: c) y m2 (by rw [hc]; simp) k hk with h | ⟨z, hz, rfl⟩
              · exact .inl h
              · simp only [List.mem_append, List.mem_cons] at hz
                rcases hz with h | rfl | h
                · exact .inr (.inl ⟨z, by simp [h], rfl⟩)
                · exact .inr (.inr rfl)
                · exact .inr (.inl ⟨z, by simp [h], rfl⟩)
            · cases c with
              | nil =>
                simp only [List.nil_append] at hc
                simp only [List.append_nil] at hord
                rcases hord (m1 ++ [x]) y m2 (by rw [← hc]; simp) k hk with h | ⟨z, hz, rfl⟩
                · exact .inl h
                · simp only [List.mem_append, List.mem_singleton] at hz
                  rcases hz with h | rfl
                  · exact .inr (.inl ⟨z, h, rfl⟩)
                  · exact .inr (.inr rfl)
              | cons c0 c =>
                simp only [List.cons_append, List.cons.injEq] at hc
                obtain ⟨rfl, hc⟩ := hc
                rcases hord m1 y (c ++ x :: l2) (by simp) k hk with h | ⟨z, hz, rfl⟩
                · exact .inl h
                · exact .inr (.inl ⟨z, hz, rfl⟩)
          rcases key with h | h | rfl
          · exact .inl (getD_set_true h)
          · exact .inr h
          · refine .inl ?_
            have h2 := (hent x hx).2
            rcases Nat.lt_or_ge x.i listed.size with h' | h'
            · simp [h']
            · simp [Array.getElem?_eq_none h'] at h2
        · intro i hi k hk
          by_cases hix : i = x.i
          · subst hix; exact getD_set_true (hxd k hk)
          · rw [getD_set_ne false (Ne.symm hix)] at hi
            exact getD_set_true (hdown i hi k hk)
      unfold Go.wpOp
      simp only [hxo]
      obtain ⟨m, d, rfl⟩ := hE
      rcases hg with ⟨hmk, hw, hk⟩ | ⟨hmk, ⟨hw, hv⟩ | ⟨hw, hu⟩⟩
      · -- a block is made
        simp only [hw, if_true]
        refine .inl ?_
        obtain ⟨u, w', hrun, hE', hGu, hb1, hb2⟩ := hk m d
        unfold Oper.wp
        rw [hrun]
        simp only [Oper.upon]
        have hE2 : Ext W w' := by obtain ⟨m', d', rfl⟩ := hE'; exact ⟨_, _, World.ext_ext _ _ _ _ _⟩
        have hH2 : H w' := by obtain ⟨m', d', rfl⟩ := hE'; exact hHe _ _ _ hH
        have hpm : putM x a = a := by unfold putM; rw [if_pos hmk]
        rw [hpm] at hch'
        refine step u (fun w => H w ∧ G x.i u w) w'.heap.size (fun w m d h => ⟨hHe _ _ _ h.1, hG _ _ _ _ _ h.2⟩) (chainM_put x u _ _ (hap2 hmk) hch') ?_ w' hE2 ⟨hH2, hGu⟩ (Nat.le_refl _)
        intro us w1 hE1 ⟨hH1, hG1⟩ hGs hDs
        have split : ∀ y, y ∈ l1 ++ x :: l2 → y = x ∨ (y ∈ l1 ++ l2 ∧ y.i ≠ x.i) := fun y hy => by
          rcases List.mem_append.1 hy with h | h
          · exact .inr ⟨List.mem_append_left _ h, hne' y (List.mem_append_left _ h)⟩
          · rcases List.mem_cons.1 h with rfl | h
            · exact .inl rfl
            · exact .inr ⟨List.mem_append_right _ h, hne' y (List.mem_append_right _ h)⟩
        have := hQ (fun k => if k = x.i then u else us k) w1 hE1 hH1 (fun y hy hmy => by
          rcases split y hy with rfl | ⟨h, h'⟩
          · simp only [if_true]; exact ⟨hG1, Nat.le_trans hN hb1⟩
          · simp only [h', if_false]
            obtain ⟨q1, q2⟩ := hGs y h hmy
            exact ⟨q1, by omega⟩) (fun y hy z hz hmy hmz hyz => by
          rcases split y hy with rfl | ⟨h, h'⟩
          · rcases split z hz with rfl | ⟨k, k'⟩
            · exact absurd rfl hyz
            · simp only [if_true, k', if_false]
              have := (hGs z k hmz).2
              omega
          · rcases split z hz with rfl | ⟨k, k'⟩
            · simp only [if_true, h', if_false]
              have := (hGs y h hmy).2
              omega
            · simp only [h', k', if_false]
              exact hDs y h z k hmy hmz hyz)
        rw [hsets, putsM_front _ x l2 l1 a hap] at this
        simp only [putsM, hmk, if_true] at this
        rw [putsM_congr _ us (l1 ++ l2) _ (fun y hy _ => by simp [hne' y hy])] at this
        exact this
      · -- a fixed value
        simp only [hw, if_true]
        refine .inl ?_
        have hpm : putM x a = a.put x.o.dst x.v := by unfold putM; rw [if_neg (by rw [hmk]; simp)]
        rw [hpm] at hch'
        have fin : ∀ w', Ext (W.ext m d) w' → wpAny P md ops Q (n + g) (listed.setIfInBounds x.i true) (a.put x.o.dst x.v) w' := by
          rintro w' ⟨m', d', rfl⟩
          refine step x.v H N hHe hch' ?_ _ ⟨_, _, World.ext_ext _ _ _ _ _⟩ (hHe _ _ _ hH) (by simp at hN ⊢; omega)
          intro us w1 hE1 hH1 hGs hDs
          have mem : ∀ y, y ∈ l1 ++ x :: l2 → y.made = true → y ∈ l1 ++ l2 := fun y hy hmy => by
            rcases List.mem_append.1 hy with h | h
            · exact List.mem_append_left _ h
            · rcases List.mem_cons.1 h with rfl | h
              · rw [hmk] at hmy; cases hmy
              · exact List.mem_append_right _ h
          have := hQ us w1 hE1 hH1 (fun y hy hmy => hGs y (mem y hy hmy) hmy) (fun y hy z hz hmy hmz hyz => hDs y (mem y hy hmy) z (mem z hz hmz) hmy hmz hyz)
          rw [hsets, putsM_front _ x l2 l1 a hap] at this
          simp only [putsM, hmk, Bool.false_eq_true, if_false] at this
          exact this
        have := hv m d
        unfold Oper.wp
        generalize (execOp a.eval x.o).run P (W.ext m d) = q at *
        cases q with
        | halt y w' => exact this.elim
        | ok nx w' =>
          cases nx <;> simp only [Oper.upon] at this ⊢
          case value u => obtain ⟨rfl, h2⟩ := this; exact fin _ h2
          case skip => obtain ⟨h1, h2⟩ := this; rw [h1]; exact fin _ h2
          case enter f args =>
            refine Calls.mono this fun e w'' he => ?_
            obtain ⟨rfl, h2⟩ := he
            exact fin _ h2
      · simp only [hw, Bool.false_eq_true, if_false]
        have hpm : putM x a = a.put x.o.dst x.v := by unfold putM; rw [if_neg (by rw [hmk]; simp)]
        rw [hpm] at hch'
        rw [← hu]
        refine step x.v H N hHe hch' ?_ _ ⟨m, d, rfl⟩ hH hN
        intro us w1 hE1 hH1 hGs hDs
        have mem : ∀ y, y ∈ l1 ++ x :: l2 → y.made = true → y ∈ l1 ++ l2 := fun y hy hmy => by
          rcases List.mem_append.1 hy with h | h
          · exact List.mem_append_left _ h
          · rcases List.mem_cons.1 h with rfl | h
            · rw [hmk] at hmy; cases hmy
            · exact List.mem_append_right _ h
        have := hQ us w1 hE1 hH1 (fun y hy hmy => hGs y (mem y hy hmy) hmy) (fun y hy z hz hmy hmz hyz => hDs y (mem y hy hmy) z (mem z hz hmz) hmy hmz hyz)
        rw [hsets, putsM_front _ x l2 l1 a hap] at this
        simp only [putsM, hmk, Bool.false_eq_true, if_false] at this
        exact this

/-- The walk of the head in the text's order: 'zs' are the numbers that make blocks. -/
def TextM (P : Program) (ops : Array Oper) (W : World) (zs : List Nat) (G : Nat → Value → World → Prop) (F : Act → Prop) : Nat → List Oper → Act → Prop
  | _, [], a => F a
  | k, o :: r, a =>
    (zs.contains k = true ∧ Region.wanted o (yielded ops a.tmps) = true ∧ GK P W G k o a ∧ TextM P ops W zs G F (k + 1) r a) ∨
    (zs.contains k = false ∧ ∃ v, ((Region.wanted o (yielded ops a.tmps) = true ∧ G2 P W o v a) ∨ (Region.wanted o (yielded ops a.tmps) = false ∧ v = undef)) ∧ TextM P ops W zs G F (k + 1) r (a.put o.dst v))
theorem tm_val {zs : List Nat} {k : Nat} (hk : zs.contains k = false) (hg : Region.wanted o (yielded ops a.tmps) = true) (h : ∀ m d, (execOp a.eval o).run P (W.ext m d) = .ok (.value v) (W.ext m d))
    (c : TextM P ops W zs G F (k + 1) r (a.put o.dst v)) : TextM P ops W zs G F k (o :: r) a :=
  .inr ⟨hk, v, .inl ⟨hg, fun m d => by rw [h m d]; exact ⟨rfl, Ext.refl _⟩⟩, c⟩
theorem tm_call {zs : List Nat} {k : Nat} {f : FuncId} {args : Array Value} (hk : zs.contains k = false) (hg : Region.wanted o (yielded ops a.tmps) = true) (h : ∀ m d, (execOp a.eval o).run P (W.ext m d) = .ok (.enter f args) (W.ext m d))
    (hc : ∀ m d, Calls P f args (W.ext m d) (Pure v (W.ext m d))) (c : TextM P ops W zs G F (k + 1) r (a.put o.dst v)) : TextM P ops W zs G F k (o :: r) a :=
  .inr ⟨hk, v, .inl ⟨hg, fun m d => by rw [h m d]; exact (hc m d).mono fun e w' ⟨he, m', d', hw⟩ => ⟨he, m', d', hw⟩⟩, c⟩
theorem tm_skip {zs : List Nat} {k : Nat} (hk : zs.contains k = false) (hg : Region.wanted o (yielded ops a.tmps) = false) (c : TextM P ops W zs G F (k + 1) r (a.put o.dst undef)) : TextM P ops W zs G F k (o :: r) a :=
  .inr ⟨hk, undef, .inr ⟨hg, rfl⟩, c⟩
theorem tm_make {zs : List Nat} {k : Nat} (hk : zs.contains k = true) (hg : Region.wanted o (yielded ops a.tmps) = true) (h : GK P W G k o a) (c : TextM P ops W zs G F (k + 1) r a) : TextM P ops W zs G F k (o :: r) a := .inl ⟨hk, hg, h, c⟩
theorem tm_nil {zs : List Nat} {k : Nat} (c : F a) : TextM P ops W zs G F k [] a := c

/-- The made blocks' slots are set. -/
def setAll (ops : Array Oper) (us : Nat → Value) : List Nat → Act → Act
  | [], a => a
  | z :: r, a => setAll ops us r (a.put ((ops[z]?).bind (·.dst)) (us z))
def endM : List EntM → Act → Act
  | [], a => a
  | x :: r, a => endM r (putM x a)

theorem walk_m {zs : List Nat} : ∀ (os : List Oper) (k : Nat) (a : Act), TextM P ops W zs G F k os a →
    ∃ l : List EntM, l.map (·.i) = List.range' k os.length ∧ l.map (·.o) = os ∧ (∀ x ∈ l, x.made = zs.contains x.i) ∧ ChainM P ops W G l a ∧ F (endM l a)
  | [], k, a, h => ⟨[], by simp, rfl, (fun x hx => by cases hx), trivial, h⟩
  | o :: r, k, a, .inl ⟨hk, hg, hm, h⟩ => by
    obtain ⟨l, h1, h2, h3, h4, h5⟩ := walk_m r (k + 1) _ h
    refine ⟨⟨k, o, undef, true⟩ :: l, by simp [h1, List.range'_succ], by simp [h2], fun x hx => ?_, ⟨.inl ⟨rfl, hg, hm⟩, h4⟩, h5⟩
    rcases List.mem_cons.1 hx with rfl | hx
    · exact hk.symm
    · exact h3 x hx
  | o :: r, k, a, .inr ⟨hk, v, hg, h⟩ => by
    obtain ⟨l, h1, h2, h3, h4, h5⟩ := walk_m r (k + 1) _ h
    refine ⟨⟨k, o, v, false⟩ :: l, by simp [h1, List.range'_succ], by simp [h2], fun x hx => ?_, ⟨.inr ⟨rfl, hg⟩, h4⟩, h5⟩
    rcases List.mem_cons.1 hx with rfl | hx
    · exact hk.symm
    · exact h3 x hx

/-- What makes blocks is apart from all else of the head. -/
def makesOk (ops : Array Oper) (n : Nat) (zs : List Nat) : Bool :=
  (List.range n).all fun j => (List.range j).all fun i => if zs.contains i || zs.contains j then (match ops[i]?, ops[j]? with | some x, some y => x.apart ops y | _, _ => false) else true

theorem putsM_end (us : Nat → Value) : ∀ (l : List EntM) (a : Act), l.Pairwise (fun x y => (x.made = false ∧ y.made = false) ∨ Far ops x y) → (∀ x ∈ l, ops[x.i]? = some x.o) →
    putsM us l a = setAll ops us ((l.filter (·.made)).map (·.i)) (endM l a)
  | [], a, _, _ => rfl
  | x :: r, a, hp, ho => by
    obtain ⟨hp1, hp2⟩ := List.pairwise_cons.1 hp
    have ih := fun a => putsM_end us r a hp2 (fun y hy => ho y (List.mem_cons_of_mem _ hy))
    simp only [putsM]
    cases hm : x.made with
    | false =>
      rw [List.filter_cons_of_neg (by rw [hm]; simp)]
      simp only [Bool.false_eq_true, if_false]
      rw [ih]
      simp only [endM, putM, hm, Bool.false_eq_true, if_false]
    | true =>
      rw [List.filter_cons_of_pos (by rw [hm])]
      simp only [if_true, List.map_cons, setAll, endM, putM, hm]
      rw [ih]
      have hxo := ho x (List.mem_cons_self ..)
      rw [hxo]
      simp only [Option.bind_some]
      congr 1
      -- the put of x goes past all others
      have key : ∀ (l : List EntM) (a : Act), (∀ y ∈ l, Far ops x y) → endM l (a.put x.o.dst (us x.i)) = (endM l a).put x.o.dst (us x.i) := by
        intro l
        induction l with
        | nil => intro a _; rfl
        | cons y r ih2 =>
          intro a hy
          have hf := hy y (List.mem_cons_self ..)
          simp only [endM]
          have e : putM y (a.put x.o.dst (us x.i)) = (putM y a).put x.o.dst (us x.i) := by
            unfold putM; split
            · rfl
            · exact hf.comm a _ _
          rw [e]
          exact ih2 _ (fun z hz => hy z (List.mem_cons_of_mem _ hz))
      exact key r a (fun y hy => by
        rcases hp1 y hy with ⟨h, _⟩ | h
        · rw [hm] at h; cases h
        · exact h)

theorem wp_region_makes {id : Nat} (n : Nat) (zs : List Nat) (G : Nat → Value → World → Prop) (hm : P.follows .mixedOrders = true) (hok : textOk .any ops = true) (ht : tailOk .any ops n = true) (hn : decide (n ≤ ops.size) = true)
    (hseq : Region.seqB .any ops (ops.size - n) n (listedUpto ops n) = true) (hz : makesOk ops n zs = true) (hzs : (List.range n).filter (fun k => zs.contains k) = zs) (hG : ∀ z v w m d, G z v w → G z v (w.ext m d))
    (h : ∀ F : Act → Prop, (∀ a', (∀ us m d, (∀ z ∈ zs, G z (us z) (W.ext m d) ∧ W.heap.size ≤ blkOf (us z)) → (∀ z ∈ zs, ∀ y ∈ zs, z ≠ y → blkOf (us z) ≠ blkOf (us y)) → wpList P ops Q (ops.toList.drop n) (setAll ops us zs a') (W.ext m d)) → F a') → TextM P ops W zs G F 0 (ops.toList.take n) a) :
    (Code.region id ops true).wp P Q a W := by
  obtain ⟨l, h1, h2, h3, h4, h5⟩ := walk_m _ 0 _ (h (fun a' => ∀ us m d, (∀ z ∈ zs, G z (us z) (W.ext m d) ∧ W.heap.size ≤ blkOf (us z)) → (∀ z ∈ zs, ∀ y ∈ zs, z ≠ y → blkOf (us z) ≠ blkOf (us y)) → wpList P ops Q (ops.toList.drop n) (setAll ops us zs a') (W.ext m d)) (fun _ h => h))
  refine wp_region_any hm ?_
  simp only [textOk, Bool.and_eq_true, Bool.or_eq_true, List.all_eq_true, List.mem_range, decide_eq_true_eq] at hok hn
  obtain ⟨⟨hs, hlt⟩, hpr⟩ := hok
  have hlen : l.length = n := by
    have := congrArg List.length h2
    simpa [hn] using this
  have htk : (ops.toList.take n).length = n := by simp [hn]
  rw [htk] at h1
  have hat : ∀ (j : Nat) (hj : j < l.length), l[j].i = j ∧ ops[j]? = some l[j].o := fun j hj => by
    constructor
    · have e1 : (l.map (·.i))[j]? = (List.range' 0 n)[j]? := by rw [h1]
      simp only [List.getElem?_map, List.getElem?_eq_getElem hj, Option.map_some] at e1
      rw [List.getElem?_range' (by omega)] at e1
      simpa using e1
    · have e2 : (l.map (·.o))[j]? = (ops.toList.take n)[j]? := by rw [h2]
      simp only [List.getElem?_map, List.getElem?_eq_getElem hj, Option.map_some] at e2
      rw [List.getElem?_take_of_lt (by omega)] at e2
      simpa using e2.symm
  have hmem : ∀ x ∈ l, x.i < n ∧ ops[x.i]? = some x.o := fun x hx => by
    obtain ⟨j, hj, rfl⟩ := List.getElem_of_mem hx
    obtain ⟨e1, e2⟩ := hat j hj
    rw [e1]; exact ⟨by omega, e2⟩
  have hdn : ∀ i k, k ∈ deps .any ops i → k < i := fun i k hk => by
    by_cases hi : i < ops.size
    · exact hlt i hi k hk
    · simp [deps, Array.getElem?_eq_none (Nat.le_of_not_lt hi)] at hk
  have hrep : ∀ j d, (Array.replicate ops.size false).getD j d = true → d = true := fun j d hd => by
    by_cases hj : j < ops.size
    · simp [hj] at hd
    · simpa [hj] using hd
  have hfin : setsM l (Array.replicate ops.size false) = listedUpto ops n := by
    apply Array.ext
    · rw [setsM_size]; simp [listedUpto]
    · intro j hj1 hj2
      rw [setsM_size] at hj1
      have e := getD_setsM l (Array.replicate ops.size false) j false hj1
      rw [h1] at e
      have hjs : j < ops.size := by simpa using hj1
      simp only [Array.getD_eq_getD_getElem?] at e
      rw [Array.getElem?_eq_getElem (by rw [setsM_size]; exact hj1)] at e
      simp only [Option.getD_some] at e
      rw [e]
      simp [listedUpto, hjs]
  have hsel := Region.noSelect_spec hs
  have hfar : l.Pairwise (fun x y => (x.made = false ∧ y.made = false ∧ x.i ∈ deps .any ops y.i) ∨ Far ops x y) := by
    rw [List.pairwise_iff_getElem]
    intro i j hi hj hij
    obtain ⟨e1, e2⟩ := hat i hi
    obtain ⟨e3, e4⟩ := hat j hj
    have hx := (hmem _ (List.getElem_mem hi)).2
    have hy := (hmem _ (List.getElem_mem hj)).2
    have hpr' := hpr j (by omega) i hij
    rw [e2, e4] at hpr'
    have m1 := h3 _ (List.getElem_mem hi)
    have m2 := h3 _ (List.getElem_mem hj)
    rw [e1] at m1
    rw [e3] at m2
    simp only [makesOk, List.all_eq_true, List.mem_range] at hz
    have hz' := hz j (by omega) i hij
    rw [e2, e4] at hz'
    by_cases hmk : (zs.contains i || zs.contains j) = true
    · rw [if_pos hmk] at hz'
      exact .inr (far_of hsel hx hy hz')
    · have hmk' : zs.contains i = false ∧ zs.contains j = false := by
        simp only [Bool.or_eq_true, not_or, Bool.not_eq_true] at hmk; exact hmk
      rcases hpr' with h' | h'
      · refine .inl ⟨m1.trans hmk'.1, m2.trans hmk'.2, ?_⟩
        rw [e1, e3]; simpa using h'
      · exact .inr (far_of hsel hx hy h')
  have hputs := fun us a => putsM_end (ops := ops) us l a (hfar.imp (fun h => h.elim (fun q => .inl ⟨q.1, q.2.1⟩) .inr)) (fun x hx => (hmem x hx).2)
  have hmade : (l.filter (·.made)).map (·.i) = zs := by
    have e : l.filter (·.made) = l.filter (fun x => zs.contains x.i) := List.filter_congr h3
    rw [e]
    have : (l.filter (fun x => zs.contains x.i)).map (·.i) = (l.map (·.i)).filter (fun k => zs.contains k) := by rw [List.filter_map]; rfl
    rw [this, h1, ← List.range_eq_range']
    exact hzs
  have key := any_of_chainM (P := P) (Q := Q) (md := .any) (G := G) (W := W) hsel n (ops.size - n) ht hG n l (Array.replicate ops.size false) a (fun _ => True) W.heap.size hlen (by simp) (fun x hx => by
      obtain ⟨e1, e2⟩ := hmem x hx
      exact ⟨e2, by simp [show x.i < ops.size by omega]⟩) (by
      have : (l.map (·.i)).Pairwise (· ≠ ·) := by rw [h1]; exact List.nodup_range'
      exact List.pairwise_map.1 this) (fun j hj _ => ⟨l[j]'(by omega), List.getElem_mem _, (hat j (by omega)).1⟩) (fun x hx => (hmem x hx).1) hfar (by
      intro l1 x l2 hl k hk
      right
      have hxi : x.i = l1.length := by
        have hj : l1.length < l.length := by rw [hl]; simp
        have := (hat l1.length hj).1
        simpa [hl] using this
      have hkx := hdn _ _ hk
      refine ⟨l[k]'(by rw [hl]; simp; omega), ?_, (hat k _).1⟩
      have hkl : k < l1.length := by omega
      simp only [hl]
      rw [List.getElem_append_left hkl]
      exact List.getElem_mem _) (fun i hi => absurd (hrep i false hi) (by simp)) (fun _ _ _ _ => trivial) h4 (by
      rintro us w1 ⟨m1, d1, rfl⟩ _ hGs hDs
      have hzx : ∀ z ∈ zs, ∃ x ∈ l, x.made = true ∧ x.i = z := fun z hzm => by
        rw [← hmade] at hzm
        obtain ⟨x, hx, rfl⟩ := List.mem_map.1 hzm
        obtain ⟨hx1, hx2⟩ := List.mem_filter.1 hx
        exact ⟨x, hx1, hx2, rfl⟩
      have := h5 us m1 d1 (fun z hzm => by obtain ⟨x, q1, q2, rfl⟩ := hzx z hzm; exact hGs x q1 q2) (fun z hzm y hym hzy => by
        obtain ⟨x, q1, q2, rfl⟩ := hzx z hzm
        obtain ⟨x', k1, k2, rfl⟩ := hzx y hym
        exact hDs x q1 x' k1 q2 k2 hzy)
      rw [hfin, hputs, hmade]
      have e : (ops.toList.drop n).length = ops.size - n := by simp
      have := wpAny_of_seq (P := P) (md := .any) (ops := ops) (ops.toList.drop n) n (listedUpto ops n) _ _ (fun j => by simp [List.getElem?_drop]) (by rw [e]; exact hseq) this
      rw [e] at this
      exact this) W.drew ⟨_, _, World.drew_is_ext W⟩ trivial (Nat.le_refl _)
  rw [show n + (ops.size - n) = ops.size by omega] at key
  exact key
end
end Go
set_option linter.unusedVariables false
set_option linter.unusedSimpArgs false
namespace Go
open Go.RowKit

/-- A block of just these cells. -/
def Blk (w : World) (g : Nat) (e : TypeId) (xs : List Value) : Prop := w.heap[g]? = some (.cells xs.toArray e (0, 0))
section
variable {w w' : World} {g : Nat} {e : TypeId} {xs : List Value}
theorem Blk.lt (h : Blk w g e xs) : g < w.heap.size := (Array.getElem?_eq_some_iff.1 h).1
theorem Blk.cell (h : Blk w g e xs) (i : Nat) : w.cell? ⟨g, i, none⟩ = xs[i]? := by unfold Blk at h; simp [World.cell?, h]
theorem Blk.free (h : Blk w g e xs) (i : Nat) : w.frozen? ⟨g, i, none⟩ = false := by unfold Blk at h; simp [World.frozen?, h]
theorem Blk.keep (h : Blk w g e xs) (hk : w'.heap[g]? = w.heap[g]?) : Blk w' g e xs := by unfold Blk at *; rw [hk]; exact h
theorem Blk.cast {ys : List Value} (h : Blk w g e xs) (he : xs = ys) : Blk w g e ys := he ▸ h
theorem Blk.below (h : Blk w g e xs) (hb : Below w.heap.size w w') : Blk w' g e xs := h.keep (hb.block g h.lt)
theorem Blk.ext (h : Blk w g e xs) (m : Array Obj) (d : Nat) : Blk (w.ext m d) g e xs := h.keep (World.heap_ext _ _ _ h.lt)
theorem Blk.set_ (h : Blk w g e xs) (i : Nat) (v : Value) : Blk (w.setCell ⟨g, i, none⟩ v) g e (xs.set i v) := by
  unfold Blk at *; simp [World.setCell, Array.getElem?_modify, h]
theorem Blk.far (h : Blk w g e xs) {b : Nat} (hb : b ≠ g) (i : Nat) (v : Value) : Blk (w.setCell ⟨b, i, none⟩ v) g e xs := h.keep (Below.heap_setCell _ _ _ _ (fun e => hb e.symm))
theorem Blk.row (h : Blk w g e xs) (ys : List Value) : Blk (w.setRow g ys.toArray) g e ys := setRow_heap w g xs.toArray ys.toArray e _ h
theorem Blk.farRow (h : Blk w g e xs) {b : Nat} (hb : b ≠ g) (cs : Array Value) : Blk (w.setRow b cs) g e xs := h.keep (by
  unfold World.setRow; simp [Array.getElem?_modify, hb])
theorem Blk.new (w : World) (e : TypeId) (xs : List Value) : Blk (w.alloc (.cells xs.toArray e)) w.heap.size e xs := heap_alloc_new w _
theorem Below.setRow {B : Nat} {a : World} (h : Below B a w) (hg : B ≤ g) (cs : Array Value) : Below B a (w.setRow g cs) :=
  ⟨h.os, h.tape, h.output, by simpa using h.size, fun k hk => by
    rw [← h.block k hk]; unfold World.setRow; simp [Array.getElem?_modify, show ¬ g = k by omega]⟩
end

section
variable {P : Program} {w : World}
/-- A whole array is loaded. -/
theorem load_row_op (a : Act) (dst : Option Tmp) (ty t : TypeId) (x : Operand) (pos : String) (after : Array Edge) (guard : Option (Nat × Bool)) {g n : Nat} {el e : TypeId} {xs : List Value}
    (hu : P.underlying ty = some (.array n el)) (hi : (P.info? ty).map (·.size) = some xs.length) (hx : a.eval x = .pointer (some ⟨g, 0, none⟩)) (hg : Blk w g e xs) :
    (execOp a.eval { dst, op := .load ty x, type := t, pos, after, guard }).run P w = .ok (.value (.agg xs.toArray)) w := by
  have h := run_loadVar_row (P := P) w g e ty xs.toArray (0, 0) _ hg hu rfl (by simpa using hi)
  unfold execOp
  simp only [hx, Instr.loadAt, Instr.sureAddr, Sem.run_bind, Sem.run_pure, Result.andThen_ok, h]
/-- A whole array is stored. -/
theorem store_row_op (a : Act) (dst : Option Tmp) (ty t : TypeId) (x y : Operand) (pos : String) (after : Array Edge) (guard : Option (Nat × Bool)) {g : Nat} {e : TypeId} {xs ys : List Value}
    (hi : (P.info? ty).map (·.size) = some ys.length) (hl : xs.length = ys.length) (h1 : ys.all (·.oneCell') = true) (hx : a.eval x = .pointer (some ⟨g, 0, none⟩)) (hy : a.eval y = .agg ys.toArray) (hg : Blk w g e xs) :
    (execOp a.eval { dst, op := .store ty x y, type := t, pos, after, guard }).run P w = .ok .skip (w.setRow g ys.toArray) := by
  have h := run_storeVar_row (P := P) w g e ty xs.toArray ys.toArray hg (by simpa using hi) (by simpa using hl) (by simpa using h1)
  unfold execOp
  simp only [hx, hy, Instr.storeAt, Instr.sureAddr, Sem.run_bind, Sem.run_pure, Result.andThen_ok, h]
end
end Go
set_option linter.unusedVariables false
set_option linter.unusedSimpArgs false
namespace Go.Gr

abbrev Gph := List (List Nat)
def rowN (N : Gph) (i : Nat) : List Nat := N.getD i []
def Valid (N : Gph) : Prop := ∀ i, ∀ k ∈ rowN N i, k < N.length

/-- One step of the walk: k is marked, and whom it goes to. -/
def goN (N : Gph) : Nat → Nat → List Bool → List Bool
  | 0, _, s => s
  | f + 1, i, s => (rowN N i).foldl (fun s k => if s.getD k false then s else goN N f k (s.set k true)) s
def stepN (N : Gph) (f : Nat) (s : List Bool) (k : Nat) : List Bool := if s.getD k false then s else goN N f k (s.set k true)
theorem goN_succ (N : Gph) (f i : Nat) (s : List Bool) : goN N (f + 1) i s = (rowN N i).foldl (stepN N f) s := rfl

def fals : List Bool → Nat
  | [] => 0
  | b :: r => (if b then 0 else 1) + fals r
theorem fals_set : ∀ (s : List Bool) (k : Nat), k < s.length → s.getD k false = false → fals (s.set k true) + 1 = fals s
  | [], k, h, _ => by simp at h
  | b :: r, 0, _, h => by
    simp at h; subst h; simp [fals]; omega
  | b :: r, k + 1, h, h' => by
    have := fals_set r k (by simpa using h) (by simpa using h')
    simp [fals]; omega
theorem fals_rep (n : Nat) : fals (List.replicate n false) = n := by
  induction n with
  | zero => rfl
  | succ n ih => rw [List.replicate_succ, fals, ih]; simp; omega
theorem getD_set (s : List Bool) (k j : Nat) (hk : k < s.length) : (s.set k true).getD j false = if k = j then true else s.getD j false := by
  simp only [List.getD_eq_getElem?_getD, List.getElem?_set]
  by_cases h : k = j
  · subst h; simp [hk]
  · simp [h]

structure GoOk (N : Gph) (s s' : List Bool) (L : List Nat) : Prop where
  len : s'.length = s.length
  mono : ∀ j, s.getD j false = true → s'.getD j false = true
  cnt : fals s' ≤ fals s
  all : ∀ k ∈ L, s'.getD k false = true
  closed : ∀ j, s'.getD j false = true → s.getD j false = true ∨ ∀ k ∈ rowN N j, s'.getD k false = true
theorem GoOk.trans {N : Gph} {a b c : List Bool} {L M : List Nat} (h : GoOk N a b L) (k : GoOk N b c M) : GoOk N a c (L ++ M) where
  len := k.len.trans h.len
  mono j hj := k.mono j (h.mono j hj)
  cnt := Nat.le_trans k.cnt h.cnt
  all x hx := by
    rcases List.mem_append.1 hx with hx | hx
    · exact k.mono _ (h.all x hx)
    · exact k.all x hx
  closed j hj := by
    rcases k.closed j hj with hb | hb
    · rcases h.closed j hb with ha | ha
      · exact .inl ha
      · exact .inr (fun x hx => k.mono _ (ha x hx))
    · exact .inr hb
theorem GoOk.nil {N : Gph} (s : List Bool) : GoOk N s s [] := ⟨rfl, fun _ h => h, Nat.le_refl _, fun _ h => (by simp at h), fun _ h => .inl h⟩

theorem goN_ok (N : Gph) (hv : Valid N) : ∀ (f i : Nat) (s : List Bool), s.length = N.length → fals s < f → GoOk N s (goN N f i s) (rowN N i) := by
  intro f
  induction f with
  | zero => intro i s _ h; omega
  | succ f ih =>
    intro i s hl hf
    rw [goN_succ]
    have key : ∀ (L : List Nat) (s : List Bool), s.length = N.length → fals s < f + 1 → (∀ k ∈ L, k < N.length) → GoOk N s (L.foldl (stepN N f) s) L := by
      intro L
      induction L with
      | nil => intro s _ _ _; exact GoOk.nil s
      | cons k r ihL =>
        intro s hl hf hL
        have hk := hL k (by simp)
        have h1 : GoOk N s (stepN N f s k) [k] := by
          unfold stepN
          cases hs : s.getD k false with
          | true =>
            rw [if_pos rfl]
            exact ⟨rfl, fun _ h => h, Nat.le_refl _, fun x hx => by simp at hx; subst hx; exact hs, fun _ h => .inl h⟩
          | false =>
            rw [if_neg (by simp)]
            have hc := fals_set s k (by omega) hs
            have g := ih k (s.set k true) (by simp [hl]) (by omega)
            have hset := fun j => getD_set s k j (by omega)
            refine ⟨by rw [g.len]; simp, fun j hj => g.mono j ?_, by have := g.cnt; omega, fun x hx => ?_, fun j hj => ?_⟩
            · rw [hset]; split
              · rfl
              · exact hj
            · simp at hx; subst hx
              exact g.mono _ (by rw [hset, if_pos rfl])
            · rcases g.closed j hj with q | q
              · rw [hset] at q
                by_cases e : k = j
                · subst e; exact .inr g.all
                · rw [if_neg e] at q; exact .inl q
              · exact .inr q
        have h2 := ihL (stepN N f s k) (by rw [h1.len, hl]) (by have := h1.cnt; omega) (fun x hx => hL x (by simp [hx]))
        exact h1.trans h2
    exact key _ s hl hf (hv i)

theorem fold_ok (N : Gph) (hv : Valid N) (f : Nat) : ∀ (L : List Nat) (s : List Bool), s.length = N.length → fals s < f + 1 → (∀ k ∈ L, k < N.length) → GoOk N s (L.foldl (stepN N f) s) L := by
  intro L
  induction L with
  | nil => intro s _ _ _; exact GoOk.nil s
  | cons k r ihL =>
    intro s hl hf hL
    have hk := hL k (by simp)
    have h1 : GoOk N s (stepN N f s k) [k] := by
      unfold stepN
      cases hs : s.getD k false with
      | true =>
        rw [if_pos rfl]
        exact ⟨rfl, fun _ h => h, Nat.le_refl _, fun x hx => by simp at hx; subst hx; exact hs, fun _ h => .inl h⟩
      | false =>
        rw [if_neg (by simp)]
        have hc := fals_set s k (by omega) hs
        have g := goN_ok N hv f k (s.set k true) (by simp [hl]) (by omega)
        have hset := fun j => getD_set s k j (by omega)
        refine ⟨by rw [g.len]; simp, fun j hj => g.mono j ?_, by have := g.cnt; omega, fun x hx => ?_, fun j hj => ?_⟩
        · rw [hset]; split
          · rfl
          · exact hj
        · simp at hx; subst hx
          exact g.mono _ (by rw [hset, if_pos rfl])
        · rcases g.closed j hj with q | q
          · rw [hset] at q
            by_cases e : k = j
            · subst e; exact .inr g.all
            · rw [if_neg e] at q; exact .inl q
          · exact .inr q
    exact h1.trans (ihL (stepN N f s k) (by rw [h1.len, hl]) (by have := h1.cnt; omega) (fun x hx => hL x (by simp [hx])))

def fromN (N : Gph) (i : Nat) : List Bool := goN N (N.length + 1) i (List.replicate N.length false)
theorem rep_getD (n j : Nat) : (List.replicate n false).getD j false = false := by
  rw [List.getD_eq_getElem?_getD, List.getElem?_replicate]; split <;> rfl
theorem fromN_len (N : Gph) (hv : Valid N) (i : Nat) : (fromN N i).length = N.length := by
  have := (goN_ok N hv (N.length + 1) i (List.replicate N.length false) (by simp) (by rw [fals_rep]; omega)).len
  rw [fromN, this]; simp
theorem fromN_all (N : Gph) (hv : Valid N) (i : Nat) : ∀ k ∈ rowN N i, (fromN N i).getD k false = true :=
  (goN_ok N hv (N.length + 1) i (List.replicate N.length false) (by simp) (by rw [fals_rep]; omega)).all
theorem fromN_closed (N : Gph) (hv : Valid N) (i j : Nat) (h : (fromN N i).getD j false = true) : ∀ k ∈ rowN N j, (fromN N i).getD k false = true := by
  rcases (goN_ok N hv (N.length + 1) i (List.replicate N.length false) (by simp) (by rw [fals_rep]; omega)).closed j h with q | q
  · rw [rep_getD] at q; cases q
  · exact q

/-- The first state on a cycle. -/
def cycN (N : Gph) : Option Nat := (List.range N.length).find? (fun i => (fromN N i).getD i false)

/-- A list without twins, below n, has at most n elements. -/
theorem nodup_len : ∀ (n : Nat) (l : List Nat), l.Nodup → (∀ x ∈ l, x < n) → l.length ≤ n := by
  intro n
  induction n with
  | zero =>
    intro l _ h
    cases l with
    | nil => simp
    | cons x r => exact absurd (h x (by simp)) (by omega)
  | succ n ih =>
    intro l hn h
    by_cases hm : n ∈ l
    · have h1 := ih (l.erase n) (hn.erase n) (fun x hx => by
        have h2 := h x (List.mem_of_mem_erase hx)
        have h3 : x ≠ n := fun e => by subst e; exact (List.Nodup.mem_erase_iff hn).1 hx |>.1 rfl
        omega)
      rw [List.length_erase_of_mem hm] at h1
      omega
    · have := ih l hn (fun x hx => by
        have h2 := h x hx
        have h3 : x ≠ n := fun e => hm (e ▸ hx)
        omega)
      omega

/-- Where no state comes to itself, there is always one to which no other one that is left goes. -/
theorem first_ex (N : Gph) (hv : Valid N) (hc : ∀ i, i < N.length → (fromN N i).getD i false = false) (out : List Nat) (x0 : Nat) (h0 : x0 < N.length) (hx0 : x0 ∉ out) :
    ∃ i, i < N.length ∧ i ∉ out ∧ ∀ j, j < N.length → j ∉ out → i ∉ rowN N j := by
  by_cases hh : ∃ i, i < N.length ∧ i ∉ out ∧ ∀ j, j < N.length → j ∉ out → i ∉ rowN N j
  · exact hh
  · exfalso
    have hp : ∀ i, i < N.length → i ∉ out → ∃ j, j < N.length ∧ j ∉ out ∧ i ∈ rowN N j := by
      intro i h1 h2
      apply Classical.byContradiction
      intro h3
      exact hh ⟨i, h1, h2, fun j h4 h5 h6 => h3 ⟨j, h4, h5, h6⟩⟩
    have key : ∀ m : Nat, ∃ (h : Nat) (t : List Nat), (h :: t).Nodup ∧ t.length = m ∧ (∀ x ∈ h :: t, x < N.length) ∧ h ∉ out ∧ ∀ S : Nat → Prop, (∀ a, S a → ∀ b ∈ rowN N a, S b) → S h → ∀ x ∈ t, S x := by
      intro m
      induction m with
      | zero => exact ⟨x0, [], by simp, rfl, fun x hx => by simp at hx; omega, hx0, fun S _ _ x hx => by simp at hx⟩
      | succ m ih =>
        obtain ⟨h, t, k1, k2, k3, k4, k5⟩ := ih
        obtain ⟨j, j1, j2, j3⟩ := hp h (k3 h (by simp)) k4
        have hin : ∀ x ∈ h :: t, (fromN N j).getD x false = true := by
          have hh : (fromN N j).getD h false = true := fromN_all N hv j h j3
          intro x hx
          rcases List.mem_cons.1 hx with rfl | hx
          · exact hh
          · exact k5 (fun a => (fromN N j).getD a false = true) (fun a ha b hb => fromN_closed N hv j a ha b hb) hh x hx
        have hj : j ∉ h :: t := fun e => by have := hin j e; rw [hc j j1] at this; cases this
        refine ⟨j, h :: t, List.nodup_cons.2 ⟨hj, k1⟩, by simp [k2], fun x hx => ?_, j2, fun S hS hSj x hx => ?_⟩
        · rcases List.mem_cons.1 hx with rfl | hx
          · exact j1
          · exact k3 x hx
        · have hSh := hS j hSj h j3
          rcases List.mem_cons.1 hx with rfl | hx
          · exact hSh
          · exact k5 S hS hSh x hx
    obtain ⟨h, t, k1, k2, k3, _⟩ := key N.length
    have := nodup_len N.length (h :: t) k1 k3
    simp only [List.length_cons, k2] at this
    omega

/-- How many edges go to i from states j below m that are not in out. -/
def indeg (N : Gph) (out : List Nat) (i : Nat) : Nat → Nat
  | 0 => 0
  | m + 1 => indeg N out i m + if m ∈ out then 0 else (rowN N m).count i
theorem indeg_zero (N : Gph) (out : List Nat) (i : Nat) : ∀ m, indeg N out i m = 0 → ∀ j, j < m → j ∉ out → i ∉ rowN N j
  | 0, _, j, hj, _ => by omega
  | m + 1, h, j, hj, ho => by
    simp only [indeg] at h
    by_cases e : j = m
    · subst e
      rw [if_neg ho] at h
      exact fun hm => by have := List.count_pos_iff.2 hm; omega
    · exact indeg_zero N out i m (by omega) j (by omega) ho
theorem indeg_none (N : Gph) (out : List Nat) (i : Nat) : ∀ m, (∀ j, j < m → j ∉ out → i ∉ rowN N j) → indeg N out i m = 0
  | 0, _ => rfl
  | m + 1, h => by
    simp only [indeg]
    rw [indeg_none N out i m (fun j hj => h j (by omega))]
    split
    · rfl
    · rename_i hm
      rw [List.count_eq_zero.2 (h m (by omega) hm)]
theorem indeg_snoc (N : Gph) (out : List Nat) (i k : Nat) (hk : k ∉ out) : ∀ m, indeg N (out ++ [k]) i m + (if k < m then (rowN N k).count i else 0) = indeg N out i m
  | 0 => by simp [indeg]
  | m + 1 => by
    have ih := indeg_snoc N out i k hk m
    simp only [indeg, List.mem_append, List.mem_singleton]
    by_cases e : m = k
    · subst e
      simp only [or_true, if_true, hk, if_false, Nat.lt_irrefl, Nat.lt_succ_self] at ih ⊢
      omega
    · have e1 : (k < m + 1) = (k < m) := by simp; omega
      simp only [e, or_false, e1]
      omega
theorem indeg_le (N : Gph) (out : List Nat) (i n : Nat) (hl : ∀ j, (rowN N j).length ≤ n) : ∀ m, indeg N out i m ≤ m * n
  | 0 => by simp [indeg]
  | m + 1 => by
    have ih := indeg_le N out i n hl m
    have h1 : (rowN N m).count i ≤ (rowN N m).length := List.count_le_length
    have h2 := hl m
    simp only [indeg, Nat.add_mul]
    split <;> omega

/-- What holds of an order as it grows. -/
structure OutOk (N : Gph) (out : List Nat) : Prop where
  nodup : out.Nodup
  lt : ∀ x ∈ out, x < N.length
  ahead : ∀ q t, out[q]? = some t → ∀ s, s < N.length → t ∈ rowN N s → s ∈ out.take q
theorem OutOk.nil (N : Gph) : OutOk N [] := ⟨by simp, fun x h => by simp at h, fun q t h => by simp at h⟩
theorem OutOk.snoc {N : Gph} {out : List Nat} (h : OutOk N out) {i : Nat} (hi : i < N.length) (ho : i ∉ out) (hz : indeg N out i N.length = 0) : OutOk N (out ++ [i]) where
  nodup := by
    rw [List.nodup_append]
    refine ⟨h.nodup, by simp, fun a ha b hb => ?_⟩
    simp at hb; subst hb; exact fun e => ho (e ▸ ha)
  lt x hx := by
    rcases List.mem_append.1 hx with hx | hx
    · exact h.lt x hx
    · simp at hx; omega
  ahead q t hq s hs hm := by
    rcases Nat.lt_or_ge q out.length with hlt | hge
    · rw [List.getElem?_append_left hlt] at hq
      rw [List.take_append_of_le_length (by omega)]
      exact h.ahead q t hq s hs hm
    · rw [List.getElem?_append_right hge] at hq
      have hq0 : q - out.length = 0 := by
        rcases Nat.eq_zero_or_pos (q - out.length) with h' | h'
        · exact h'
        · rw [List.getElem?_eq_none (by simp; omega)] at hq; cases hq
      rw [hq0] at hq
      simp at hq; subst hq
      have : q = out.length := by omega
      subst this
      rw [List.take_left']
      · apply Classical.byContradiction
        intro hno
        exact indeg_zero N out i N.length hz s hs hno hm
      · rfl
/-- Those in the order have no one ahead that is left. -/
theorem OutOk.none {N : Gph} {out : List Nat} (h : OutOk N out) {x : Nat} (hx : x ∈ out) : indeg N out x N.length = 0 :=
  indeg_none N out x N.length (fun j hj hno hm => by
    obtain ⟨q, hq, e⟩ := List.getElem_of_mem hx
    have := h.ahead q x (by rw [List.getElem?_eq_getElem hq, e]) j hj hm
    exact hno (List.mem_of_mem_take this))
theorem OutOk.full {N : Gph} {out : List Nat} (h : OutOk N out) (hl : out.length = N.length) (x : Nat) (hx : x < N.length) : x ∈ out := by
  apply Classical.byContradiction
  intro hno
  have := nodup_len N.length (x :: out) (List.nodup_cons.2 ⟨hno, h.nodup⟩) (fun y hy => by
    rcases List.mem_cons.1 hy with rfl | hy
    · exact hx
    · exact h.lt y hy)
  simp at this
  omega
theorem OutOk.len {N : Gph} {out : List Nat} (h : OutOk N out) : out.length ≤ N.length := nodup_len _ _ h.nodup h.lt
/-- How many are ahead of i: what the program's map holds. -/
def aheadV (N : Gph) (out : List Nat) (i : Nat) : Int := (indeg N out i N.length : Int) - if i ∈ out then 1 else 0
theorem aheadV_zero {N : Gph} {out : List Nat} (h : OutOk N out) {i : Nat} (hz : aheadV N out i = 0) : i ∉ out ∧ indeg N out i N.length = 0 := by
  unfold aheadV at hz
  by_cases hi : i ∈ out
  · rw [h.none hi, if_pos hi] at hz; simp at hz
  · rw [if_neg hi] at hz; exact ⟨hi, by omega⟩
theorem aheadV_ex {N : Gph} (hv : Valid N) (hc : cycN N = none) {out : List Nat} (h : OutOk N out) (hl : out.length < N.length) : ∃ i, i < N.length ∧ aheadV N out i = 0 := by
  have hc' : ∀ i, i < N.length → (fromN N i).getD i false = false := by
    intro i hi
    have := List.find?_eq_none.1 hc i (by simpa using hi)
    simpa using this
  have hx : ∃ x, x < N.length ∧ x ∉ out := by
    apply Classical.byContradiction
    intro hno
    have h1 : ∀ x ∈ List.range N.length, x ∈ out := fun x hx => by
      apply Classical.byContradiction
      intro h2
      exact hno ⟨x, by simpa using hx, h2⟩
    have h2 : (List.range N.length).length ≤ out.length := by
      have h3 : ∀ (n : Nat) (l : List Nat), (∀ x ∈ List.range n, x ∈ l) → n ≤ l.length := by
        intro n
        induction n with
        | zero => intro l _; omega
        | succ n ih =>
          intro l hl
          have hm := hl n (by simp)
          have := ih (l.erase n) (fun x hx => by
            have hx' : x < n := by simpa using hx
            exact (List.mem_erase_of_ne (by omega)).2 (hl x (by simp; omega)))
          rw [List.length_erase_of_mem hm] at this
          have := List.length_pos_of_mem hm
          omega
      simpa using h3 _ _ h1
    simp at h2
    omega
  obtain ⟨x, x1, x2⟩ := hx
  obtain ⟨i, i1, i2, i3⟩ := first_ex N hv hc' out x x1 x2
  refine ⟨i, i1, ?_⟩
  unfold aheadV
  rw [indeg_none N out i _ i3, if_neg i2]
  rfl
theorem aheadV_snoc (N : Gph) (out : List Nat) (k : Nat) (hk : k ∉ out) (hlt : k < N.length) (i : Nat) : aheadV N (out ++ [k]) i = aheadV N out i - (if i = k then 1 else 0) - ((rowN N k).count i : Int) := by
  have := indeg_snoc N out i k hk N.length
  rw [if_pos hlt] at this
  unfold aheadV
  simp only [List.mem_append, List.mem_singleton]
  by_cases e : i = k
  · subst e
    simp only [hk, or_true, if_true, if_false]
    omega
  · simp only [e, or_false, if_false]
    split <;> omega

/-- The first one with no one ahead; the order as it grows. -/
def firstK (N : Gph) (out : List Nat) : Option Nat := (List.range N.length).find? (fun i => aheadV N out i == 0)
def kahnN (N : Gph) : Nat → List Nat
  | 0 => []
  | k + 1 => kahnN N k ++ [(firstK N (kahnN N k)).getD 0]
theorem firstK_some {N : Gph} {out : List Nat} {i : Nat} (hi : i < N.length) (hno : ∀ j, j < i → aheadV N out j ≠ 0) (hy : aheadV N out i = 0) : firstK N out = some i := by
  unfold firstK
  rw [List.find?_range_eq_some]
  exact ⟨by simpa using hy, by simpa using hi, fun j hj => by simpa using hno j hj⟩
theorem kahn_ok {N : Gph} (hv : Valid N) (hc : cycN N = none) : ∀ k, k ≤ N.length → OutOk N (kahnN N k) ∧ (kahnN N k).length = k
  | 0, _ => ⟨OutOk.nil N, rfl⟩
  | k + 1, hk => by
    obtain ⟨h1, h2⟩ := kahn_ok hv hc k (by omega)
    obtain ⟨i, hi, hz⟩ := aheadV_ex hv hc h1 (by omega)
    cases hf : firstK N (kahnN N k) with
    | none =>
      exfalso
      unfold firstK at hf
      rw [List.find?_eq_none] at hf
      exact hf i (by simpa using hi) (by simpa using hz)
    | some j =>
      unfold firstK at hf
      have hj := List.find?_some hf
      have hm := List.mem_of_find?_eq_some hf
      have hj' : aheadV N (kahnN N k) j = 0 := by simpa using hj
      have hjn : j < N.length := by simpa using hm
      obtain ⟨q1, q2⟩ := aheadV_zero h1 hj'
      have e : kahnN N (k + 1) = kahnN N k ++ [j] := by
        rw [kahnN]
        unfold firstK
        rw [hf]; rfl
      rw [e]
      exact ⟨h1.snoc hjn q1 q2, by simp [h2]⟩

/-- The end: in a whole order each edge goes on. -/
theorem OutOk.edge {N : Gph} {out : List Nat} (h : OutOk N out) {j k : Nat} (hj : out[j]? = some k) {s : Nat} (hs : s < N.length) (hm : k ∈ rowN N s) : ∃ i, i < j ∧ out[i]? = some s := by
  have := h.ahead j k hj s hs hm
  obtain ⟨i, hi, e⟩ := List.getElem_of_mem this
  have hi' : i < j := by simp at hi; omega
  refine ⟨i, hi', ?_⟩
  rw [List.getElem_take] at e
  have : i < out.length := by simp at hi; omega
  rw [List.getElem?_eq_getElem this, e]

/-- Where a state lies in an order, from 1; 0: not among the first j. -/
def posA (out : List Nat) : Nat → Nat → Int
  | 0, _ => 0
  | j + 1, x => if out[j]? = some x then (j : Int) + 1 else posA out j x
theorem posA_none (out : List Nat) (x : Nat) : ∀ j, (∀ q, q < j → out[q]? ≠ some x) → posA out j x = 0
  | 0, _ => rfl
  | j + 1, h => by
    rw [posA, if_neg (h j (by omega)), posA_none out x j (fun q hq => h q (by omega))]
theorem nodup_at {out : List Nat} (hn : out.Nodup) {i j x : Nat} (hi : out[i]? = some x) (hj : out[j]? = some x) : i = j := by
  obtain ⟨hi', ei⟩ := List.getElem?_eq_some_iff.1 hi
  obtain ⟨hj', ej⟩ := List.getElem?_eq_some_iff.1 hj
  have hp := List.pairwise_iff_getElem.1 hn
  rcases Nat.lt_trichotomy i j with h | h | h
  · exact (hp i j hi' hj' h (ei.trans ej.symm)).elim
  · exact h
  · exact (hp j i hj' hi' h (ej.trans ei.symm)).elim
theorem posA_new {out : List Nat} (hn : out.Nodup) {j x : Nat} (hj : out[j]? = some x) : posA out j x = 0 :=
  posA_none out x j (fun q hq h => by have := nodup_at hn h hj; omega)
theorem posA_at {out : List Nat} (hn : out.Nodup) {q x : Nat} (hq : out[q]? = some x) : ∀ j, q < j → posA out j x = (q : Int) + 1
  | 0, h => by omega
  | j + 1, h => by
    rw [posA]
    by_cases e : out[j]? = some x
    · rw [if_pos e]
      have := nodup_at hn e hq
      omega
    · rw [if_neg e]
      have : q ≠ j := fun h' => e (h' ▸ hq)
      exact posA_at hn hq j (by omega)
/-- Each edge goes on, in an order of all. -/
theorem edge_pos {N : Gph} {out : List Nat} (h : OutOk N out) (hl : out.length = N.length) {s k : Nat} (hs : s < N.length) (hk : k < N.length) (hm : k ∈ rowN N s) :
    posA out N.length s < posA out N.length k := by
  obtain ⟨q, hq, e⟩ := List.getElem_of_mem (h.full hl k hk)
  have hk' : out[q]? = some k := by rw [List.getElem?_eq_getElem hq, e]
  obtain ⟨i, hi, hi'⟩ := h.edge hk' hs hm
  rw [posA_at h.nodup hk' N.length (by omega), posA_at h.nodup hi' N.length (by omega)]
  omega
/-- What is reached goes on. -/
theorem reach_on {N : Gph} (hv : Valid N) (h0 : 0 < N.length) {s k : Nat} (hk : k ∈ rowN N s) (hr : ((fromN N 0).set 0 true).getD s false = true) : ((fromN N 0).set 0 true).getD k false = true := by
  have hl := fromN_len N hv 0
  have hset := fun j => getD_set (fromN N 0) 0 j (by omega)
  rw [hset] at hr ⊢
  by_cases e : 0 = k
  · rw [if_pos e]
  · rw [if_neg e]
    by_cases e2 : 0 = s
    · subst e2; exact fromN_all N hv 0 k hk
    · rw [if_neg e2] at hr
      exact fromN_closed N hv 0 s hr k hk
end Go.Gr
set_option linter.unusedVariables false
set_option linter.unusedSimpArgs false
namespace Go.Proofs.Ytidnhnfmbebeaaa
open Go.RowKit Go.Gr

/-- A slice's three parts. -/
structure SL where
  a : Option Addr
  n : Nat
  c : Nat
abbrev SL.v (s : SL) : Value := .slice s.a s.n s.c
@[simp, go_sem] theorem SL.v_mk (a : Option Addr) (n c : Nat) : (SL.mk a n c).v = .slice a n c := rfl
def slNil : SL := ⟨none, 0, 0⟩
/-- The slice reads as these cells, 'size' of them an element. -/
def RdS (w : World) (size : Nat) (s : SL) (xs : List Value) : Prop :=
  s.n ≤ s.c ∧ s.n ≤ 9223372036854775807 ∧ xs.length = s.n * size ∧ (0 < s.n → ∃ b off, s.a = some ⟨b, off, none⟩ ∧ b < w.heap.size ∧ ∀ j u, xs[j]? = some u → w.cell? ⟨b, off + j, none⟩ = some u)
theorem RdS.keep {w w' : World} {size : Nat} {s : SL} {xs : List Value} (h : RdS w size s xs) (hz : w.heap.size ≤ w'.heap.size) (hk : ∀ b off, s.a = some ⟨b, off, none⟩ → b < w.heap.size → w'.heap[b]? = w.heap[b]?) : RdS w' size s xs := by
  obtain ⟨h1, h2, h3, h4⟩ := h
  refine ⟨h1, h2, h3, fun hn => ?_⟩
  obtain ⟨b, off, e1, e2, e3⟩ := h4 hn
  refine ⟨b, off, e1, Nat.lt_of_lt_of_le e2 hz, fun j u hu => ?_⟩
  have := hk b off e1 e2
  have e4 := e3 j u hu
  simp only [World.cell?] at e4 ⊢
  rw [this]; exact e4
theorem RdS.below {w w' : World} {size : Nat} {s : SL} {xs : List Value} (h : RdS w size s xs) (hb : Below w.heap.size w w') : RdS w' size s xs :=
  h.keep hb.size (fun b _ _ hz => hb.block b hz)
theorem rdNil {w : World} {size : Nat} : RdS w size slNil [] := ⟨Nat.le_refl _, by simp [slNil], by simp [slNil], fun h => by simp [slNil] at h⟩
/-- An element of one cell. -/
theorem RdS.one {w : World} {s : SL} {xs : List Value} (h : RdS w 1 s xs) {i : Nat} {u : Value} (hu : xs[i]? = some u) :
    ∃ b off, s.a = some ⟨b, off, none⟩ ∧ b < w.heap.size ∧ i < s.n ∧ w.cell? ⟨b, off + i, none⟩ = some u := by
  obtain ⟨h1, h2, h3, h4⟩ := h
  have hi : i < s.n := by have := (List.getElem?_eq_some_iff.1 hu).1; omega
  obtain ⟨b, off, e1, e2, e3⟩ := h4 (by omega)
  exact ⟨b, off, e1, e2, hi, e3 i u hu⟩
/-- Whole numbers as cells. -/
def ints (l : List Int) : List Value := l.map (Value.int .i64)
theorem ints_length (l : List Int) : (ints l).length = l.length := by simp [ints]
def nats (l : List Nat) : List Value := l.map (fun (k : Nat) => Value.int .i64 (k : Int))
theorem nats_length (l : List Nat) : (nats l).length = l.length := by simp [nats]
theorem nats_at {l : List Nat} {i k : Nat} (h : l[i]? = some k) : (nats l)[i]? = some (.int .i64 (k : Int)) := by simp [nats, h]
theorem nats_snoc (l : List Nat) (k : Nat) : nats (l ++ [k]) = nats l ++ [.int .i64 (k : Int)] := by simp [nats]
theorem RdS.nat {w : World} {s : SL} {l : List Nat} (h : RdS w 1 s (nats l)) : s.n = l.length := by have := h.2.2.1; rw [nats_length] at this; omega
def bools (l : List Bool) : List Value := l.map Value.bool
theorem bools_length (l : List Bool) : (bools l).length = l.length := by simp [bools]
theorem bools_at {l : List Bool} {i : Nat} {b : Bool} (h : l[i]? = some b) : (bools l)[i]? = some (.bool b) := by simp [bools, h]
/-- A row of one's own is read. -/
theorem RowIs.rdS {w : World} {sv : Value} {G : Option Nat} {e : TypeId} {size n : Nat} {xs : List Value} (h : RowIs w sv G e size n xs) : ∃ s : SL, sv = s.v ∧ s.n = n ∧ RdS w size s xs := by
  obtain ⟨h0, ⟨rfl, rfl, rfl⟩ | ⟨g, cap, cur, rfl, rfl, h3, h4, h5, h6, h7⟩⟩ := h
  · exact ⟨slNil, rfl, rfl, Nat.le_refl _, by simp [slNil], by simpa [slNil] using h0, fun q => by simp [slNil] at q⟩
  · refine ⟨⟨some ⟨g, 0, none⟩, n, cap⟩, rfl, rfl, h4, by unfold maxLen at h5; simp only; omega, h0, fun _ => ⟨g, 0, rfl, (Array.getElem?_eq_some_iff.1 h3).1, fun j u hu => ?_⟩⟩
    have hj : j < n * size := by have := (List.getElem?_eq_some_iff.1 hu).1; omega
    rw [← h7, List.getElem?_take_of_lt hj] at hu
    simp only [World.cell?, h3, Nat.zero_add]
    simpa using hu

theorem cell_of_heap {w w' : World} {b : Nat} (i : Nat) (h : w'.heap[b]? = w.heap[b]?) : w'.cell? ⟨b, i, none⟩ = w.cell? ⟨b, i, none⟩ := by simp [World.cell?, h]
/-- Lists of states in memory: whom each one goes to. -/
def NxIs (w : World) (s : SL) (N : Gph) : Prop := ∃ ss : List SL, RdS w 1 s (ss.map SL.v) ∧ ss.length = N.length ∧ ∀ (i : Nat) (a : SL) (l : List Nat), ss[i]? = some a → N[i]? = some l → RdS w 1 a (nats l)
theorem NxIs.below {w w' : World} {s : SL} {N : Gph} (h : NxIs w s N) (hb : Below w.heap.size w w') : NxIs w' s N := by
  obtain ⟨ss, h1, h2, h3⟩ := h
  exact ⟨ss, h1.below hb, h2, fun i a l ha hl => (h3 i a l ha hl).below hb⟩
theorem NxIs.len {w : World} {s : SL} {N : Gph} (h : NxIs w s N) : s.n = N.length ∧ s.n ≤ s.c ∧ s.n ≤ 9223372036854775807 := by
  obtain ⟨ss, h1, h2, h3⟩ := h
  have := h1.2.2.1
  simp at this
  exact ⟨by omega, h1.1, h1.2.1⟩
/-- One of the lists. -/
theorem NxIs.row {w : World} {s : SL} {N : Gph} (h : NxIs w s N) {i : Nat} (hi : i < N.length) :
    ∃ (b off : Nat) (t : SL), s.a = some ⟨b, off, none⟩ ∧ b < w.heap.size ∧ w.cell? ⟨b, off + i, none⟩ = some t.v ∧ RdS w 1 t (nats (rowN N i)) := by
  obtain ⟨ss, h1, h2, h3⟩ := h
  have hs : i < ss.length := by omega
  obtain ⟨b, off, e1, e2, e3, e4⟩ := h1.one (i := i) (u := ss[i].v) (by simp [hs])
  refine ⟨b, off, ss[i], e1, e2, e4, h3 i ss[i] (rowN N i) (List.getElem?_eq_getElem hs) ?_⟩
  unfold rowN
  rw [List.getElem?_eq_getElem hi, List.getD_eq_getElem?_getD, List.getElem?_eq_getElem hi]; rfl

/-- A state's name, where it goes, and where its cases go. -/
structure StP where
  name : ByteArray
  dest : ByteArray
  cases : List ByteArray
/-- A state's five cells. -/
structure StC where
  tk : SL
  ks : SL
  cs : SL
  ys : List Value
def stCells (s : StP) (c : StC) : List Value := [.string s.name, c.tk.v, .string s.dest, c.ks.v, c.cs.v]
def StOk (w : World) (s : StP) (c : StC) : Prop :=
  RdS w 3 c.cs c.ys ∧ c.cs.n = s.cases.length ∧ ∀ (i : Nat) (t : ByteArray), s.cases[i]? = some t → ∃ (b : Bool) (x : SL), c.ys[i * 3]? = some (.bool b) ∧ c.ys[i * 3 + 1]? = some x.v ∧ c.ys[i * 3 + 2]? = some (.string t)
theorem StOk.below {w w' : World} {s : StP} {c : StC} (h : StOk w s c) (hb : Below w.heap.size w w') : StOk w' s c := ⟨h.1.below hb, h.2⟩
/-- A program's seven slices. -/
structure PgS where
  heads : SL
  metas : SL
  states : SL
  acts : SL
  tabs : SL
  control : SL
  emit : SL
abbrev PgS.cs (p : PgS) : List Value := [p.heads.v, p.metas.v, p.states.v, p.acts.v, p.tabs.v, p.control.v, p.emit.v]
abbrev PgS.v (p : PgS) : Value := .agg #[p.heads.v, p.metas.v, p.states.v, p.acts.v, p.tabs.v, p.control.v, p.emit.v]
/-- The slice holds these states. -/
def StsIs (w : World) (s : SL) (sts : List StP) : Prop :=
  ∃ cs : List StC, cs.length = sts.length ∧ RdS w 5 s ((sts.zip cs).flatMap fun x => stCells x.1 x.2) ∧ ∀ (i : Nat) (x : StP) (c : StC), sts[i]? = some x → cs[i]? = some c → StOk w x c
theorem StsIs.below {w w' : World} {s : SL} {sts : List StP} (h : StsIs w s sts) (hb : Below w.heap.size w w') : StsIs w' s sts := by
  obtain ⟨cs, h1, h2, h3⟩ := h
  exact ⟨cs, h1, h2.below hb, fun i x c hx hc => (h3 i x c hx hc).below hb⟩
theorem flatMapG_len {α : Type} (f : α → List Value) {size : Nat} (hf : ∀ a, (f a).length = size) (l : List α) : (l.flatMap f).length = l.length * size := by
  induction l with
  | nil => simp
  | cons a r ih => rw [List.flatMap_cons, List.length_append, hf, ih, List.length_cons, Nat.add_mul]; omega
theorem flatMapG_at {α : Type} (f : α → List Value) {size : Nat} (hf : ∀ a, (f a).length = size) : ∀ (l : List α) (i j : Nat), j < size → (l.flatMap f)[i * size + j]? = (l[i]?).bind fun a => (f a)[j]? := by
  intro l
  induction l with
  | nil => intro i j _; simp
  | cons a r ih =>
    intro i j hj
    rw [List.flatMap_cons]
    cases i with
    | zero => rw [List.getElem?_append_left (by rw [hf]; omega)]; simp
    | succ i =>
      rw [List.getElem?_append_right (by rw [hf, Nat.add_mul]; omega), hf, show (i + 1) * size + j - size = i * size + j by rw [Nat.add_mul]; omega, ih i j hj]
      simp
theorem StsIs.len {w : World} {s : SL} {sts : List StP} (h : StsIs w s sts) : s.n = sts.length ∧ s.n ≤ s.c ∧ s.n ≤ 9223372036854775807 := by
  obtain ⟨cs, h1, h2, h3⟩ := h
  have h4 := h2.2.2.1
  rw [flatMapG_len (fun (x : StP × StC) => stCells x.1 x.2) (size := 5) (fun _ => rfl), List.length_zip] at h4
  exact ⟨by omega, h2.1, h2.2.1⟩
/-- One of the states. -/
theorem StsIs.at {w : World} {s : SL} {sts : List StP} (h : StsIs w s sts) {i : Nat} {x : StP} (hx : sts[i]? = some x) :
    ∃ (b off : Nat) (c : StC), s.a = some ⟨b, off, none⟩ ∧ b < w.heap.size ∧ StOk w x c ∧ ∀ j v, (stCells x c)[j]? = some v → w.cell? ⟨b, off + i * 5 + j, none⟩ = some v := by
  have hl := h.len.1
  obtain ⟨cs, h1, h2, h3⟩ := h
  have hi : i < sts.length := (List.getElem?_eq_some_iff.1 hx).1
  obtain ⟨_, _, _, h4⟩ := h2
  obtain ⟨b, off, e1, e2, e3⟩ := h4 (by omega)
  have hc : cs[i]? = some (cs[i]'(by omega)) := List.getElem?_eq_getElem _
  refine ⟨b, off, cs[i]'(by omega), e1, e2, h3 i x _ hx hc, fun j v hv => by
    rw [Nat.add_assoc]
    refine e3 _ _ ?_
    have hj : j < 5 := (List.getElem?_eq_some_iff.1 hv).1
    rw [flatMapG_at (fun (x : StP × StC) => stCells x.1 x.2) (size := 5) (fun _ => rfl) _ i j hj]
    have : (sts.zip cs)[i]? = some (x, cs[i]'(by omega)) := by
      rw [List.getElem?_zip_eq_some]; exact ⟨hx, hc⟩
    rw [this]
    exact hv⟩
end Go.Proofs.Ytidnhnfmbebeaaa
