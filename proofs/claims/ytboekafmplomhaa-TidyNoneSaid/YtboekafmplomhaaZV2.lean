/-
  A region that draws its order, whose head makes blocks of its own beside pure calls: walked once, in the order of the text; where the blocks lie is told at its end alone.
-/
import Derived.Test.YtboekafmplomhaaZV
set_option linter.unusedVariables false
set_option linter.unusedSimpArgs false
namespace Go
open Go.RowKit

section
variable {P : Program} {ops : Array Oper} {Q : Exit → Act → World → Prop} {W : World} {F : Act → Prop} {o : Oper} {r : List Oper} {a : Act} {v : Value} {G : Nat → Value → World → Prop}

/-- An operation; 'made': it makes a block, and what it gives hangs on when it comes up. -/
structure EntM where
  i : Nat
  o : Oper
  v : Value
  made : Bool

/-- In every world behind W the operation gives v, and makes no more than memory. -/
def G2 (P : Program) (W : World) (o : Oper) (v : Value) (a : Act) : Prop :=
  ∀ m d, match (execOp a.eval o).run P (W.ext m d) with
    | .ok (.value u) w' => u = v ∧ Ext (W.ext m d) w'
    | .ok .skip w' => undef = v ∧ Ext (W.ext m d) w'
    | .ok (.enter f args) w' => Calls P f args w' (fun e w'' => e = .returned v ∧ Ext (W.ext m d) w'')
    | _ => False
/-- The block that a value leads to. -/
def blkOf : Value → Nat
  | .pointer (some a) => a.block
  | .slice (some a) _ _ => a.block
  | .map (some b) => b
  | _ => 0
/-- It makes a block, of which G speaks. -/
def GK (P : Program) (W : World) (G : Nat → Value → World → Prop) (i : Nat) (o : Oper) (a : Act) : Prop :=
  ∀ m d, ∃ u w', (execOp a.eval o).run P (W.ext m d) = .ok (.value u) w' ∧ Ext (W.ext m d) w' ∧ G i u w' ∧ (W.ext m d).heap.size ≤ blkOf u ∧ blkOf u < w'.heap.size
def GivesM (P : Program) (ops : Array Oper) (W : World) (G : Nat → Value → World → Prop) (x : EntM) (a : Act) : Prop :=
  (x.made = true ∧ Region.wanted x.o (yielded ops a.tmps) = true ∧ GK P W G x.i x.o a) ∨
  (x.made = false ∧ ((Region.wanted x.o (yielded ops a.tmps) = true ∧ G2 P W x.o x.v a) ∨ (Region.wanted x.o (yielded ops a.tmps) = false ∧ x.v = undef)))
theorem GivesM.of_same {x : EntM} {a a' : Act} (h : GivesM P ops W G x a) (he : execOp a'.eval x.o = execOp a.eval x.o)
    (hw : Region.wanted x.o (yielded ops a'.tmps) = Region.wanted x.o (yielded ops a.tmps)) : GivesM P ops W G x a' := by
  unfold GivesM GK G2 at *; rw [he, hw]; exact h
def putM (x : EntM) (a : Act) : Act := if x.made then a else a.put x.o.dst x.v
def ChainM (P : Program) (ops : Array Oper) (W : World) (G : Nat → Value → World → Prop) : List EntM → Act → Prop
  | [], _ => True
  | x :: r, a => GivesM P ops W G x a ∧ ChainM P ops W G r (putM x a)
/-- All is put, the blocks that were made among it. -/
def putsM (us : Nat → Value) : List EntM → Act → Act
  | [], a => a
  | x :: r, a => putsM us r (a.put x.o.dst (if x.made then us x.i else x.v))

theorem execOp_putM (hsel : ∀ (j : Nat) (o : Oper) cs b, ops[j]? = some o → o.op ≠ .select cs b) {x y : EntM} (hx : ops[x.i]? = some x.o) (a : Act) (ap : ∀ u, execOp (a.put y.o.dst u).eval x.o = execOp a.eval x.o) : execOp (putM y a).eval x.o = execOp a.eval x.o := by
  unfold putM; split
  · rfl
  · exact ap _
theorem putM_comm {x y : EntM} (h : ∀ (a : Act) u v, (a.put x.o.dst u).put y.o.dst v = (a.put y.o.dst v).put x.o.dst u) (a : Act) : putM y (putM x a) = putM x (putM y a) := by
  unfold putM
  by_cases h1 : x.made = true <;> by_cases h2 : y.made = true <;> simp [h1, h2]
  exact h a _ _

/-- Two that are apart: neither reads what the other one gives. -/
structure Far (ops : Array Oper) (x y : EntM) : Prop where
  comm : ∀ (a : Act) u v, (a.put x.o.dst u).put y.o.dst v = (a.put y.o.dst v).put x.o.dst u
  ex : ∀ (a : Act) u, execOp (a.put y.o.dst u).eval x.o = execOp a.eval x.o
  wx : ∀ (a : Act) u, Region.wanted x.o (yielded ops (a.put y.o.dst u).tmps) = Region.wanted x.o (yielded ops a.tmps)
  ey : ∀ (a : Act) u, execOp (a.put x.o.dst u).eval y.o = execOp a.eval y.o
  wy : ∀ (a : Act) u, Region.wanted y.o (yielded ops (a.put x.o.dst u).tmps) = Region.wanted y.o (yielded ops a.tmps)
theorem far_of (hsel : ∀ (j : Nat) (o : Oper) cs b, ops[j]? = some o → o.op ≠ .select cs b) {x y : EntM} (hx : ops[x.i]? = some x.o) (hy : ops[y.i]? = some y.o) (hap : x.o.apart ops y.o = true) : Far ops x y := by
  obtain ⟨ap1, ap2, ap3⟩ := Oper.apart_spec hap
  exact ⟨fun a u v => Act.put_comm a _ _ ap2, fun a u => execOp_put x.o (fun cs b => hsel x.i x.o cs b hx) a y.o.dst u ap3, fun a u => wanted_put x.o a y.o.dst u ap3,
    fun a u => execOp_put y.o (fun cs b => hsel y.i y.o cs b hy) a x.o.dst u ap1, fun a u => wanted_put y.o a x.o.dst u ap1⟩
theorem Far.symm {x y : EntM} (h : Far ops x y) : Far ops y x := ⟨fun a u v => (h.comm a v u).symm, h.ey, h.wy, h.ex, h.wx⟩
theorem Far.gives {x y : EntM} (h : Far ops x y) {a : Act} (u : Value) : GivesM P ops W G x (a.put y.o.dst u) ↔ GivesM P ops W G x a :=
  ⟨fun g => g.of_same (h.ex a u).symm (h.wx a u).symm, fun g => g.of_same (h.ex a u) (h.wx a u)⟩
theorem Far.givesM {x y : EntM} (h : Far ops x y) {a : Act} : GivesM P ops W G x (putM y a) ↔ GivesM P ops W G x a := by
  unfold putM; split
  · exact Iff.rfl
  · exact h.gives _

theorem chainM_front (x : EntM) (l2 : List EntM) : ∀ (l1 : List EntM) (a : Act), (∀ y ∈ l1, Far ops y x) → ChainM P ops W G (l1 ++ x :: l2) a → ChainM P ops W G (x :: (l1 ++ l2)) a
  | [], a, _, h => h
  | y :: l1, a, hy, ⟨h0, h1⟩ => by
    obtain ⟨h2, h3⟩ := chainM_front x l2 l1 _ (fun z hz => hy z (List.mem_cons_of_mem _ hz)) h1
    have hf := hy y (List.mem_cons_self ..)
    refine ⟨hf.symm.givesM.1 h2, hf.givesM.2 h0, ?_⟩
    rw [← putM_comm hf.comm]; exact h3
theorem putsM_front (us : Nat → Value) (x : EntM) (l2 : List EntM) : ∀ (l1 : List EntM) (a : Act), (∀ y ∈ l1, Far ops y x) → putsM us (l1 ++ x :: l2) a = putsM us (x :: (l1 ++ l2)) a
  | [], a, _ => rfl
  | y :: l1, a, hy => by
    have hf := hy y (List.mem_cons_self ..)
    simp only [List.cons_append, putsM]
    rw [putsM_front us x l2 l1 _ (fun z hz => hy z (List.mem_cons_of_mem _ hz))]
    simp only [putsM]
    rw [hf.comm]
/-- What nothing reads may be put ahead. -/
theorem chainM_put (x : EntM) (u : Value) : ∀ (l : List EntM) (a : Act), (∀ y ∈ l, Far ops y x) → ChainM P ops W G l a → ChainM P ops W G l (a.put x.o.dst u)
  | [], _, _, _ => trivial
  | y :: r, a, hy, ⟨h0, h1⟩ => by
    have hf := hy y (List.mem_cons_self ..)
    refine ⟨(hf.gives u).2 h0, ?_⟩
    have := chainM_put x u r _ (fun z hz => hy z (List.mem_cons_of_mem _ hz)) h1
    have e : putM y (a.put x.o.dst u) = (putM y a).put x.o.dst u := by
      unfold putM; split
      · rfl
      · exact (hf.comm a _ _).symm
    rw [e]; exact this
theorem putsM_congr (us us' : Nat → Value) : ∀ (l : List EntM) (a : Act), (∀ x ∈ l, x.made = true → us x.i = us' x.i) → putsM us l a = putsM us' l a
  | [], _, _ => rfl
  | x :: r, a, h => by
    simp only [putsM]
    rw [putsM_congr us us' r _ (fun y hy => h y (List.mem_cons_of_mem _ hy))]
    congr 2
    by_cases e : x.made = true
    · simp only [e, if_true]; exact h x (List.mem_cons_self ..) e
    · simp [e]

def setsM : List EntM → Array Bool → Array Bool
  | [], l => l
  | x :: r, l => setsM r (l.setIfInBounds x.i true)
theorem setsM_front (x : EntM) (l2 : List EntM) : ∀ (l1 : List EntM) (b : Array Bool), (∀ y ∈ l1, y.i ≠ x.i) → setsM (l1 ++ x :: l2) b = setsM (l1 ++ l2) (b.setIfInBounds x.i true)
  | [], _, _ => rfl
  | y :: r, b, h => by
    simp only [List.cons_append, setsM]
    rw [setsM_front x l2 r _ (fun z hz => h z (List.mem_cons_of_mem _ hz)), Array.setIfInBounds_comm _ _ (h y (List.mem_cons_self ..))]
theorem setsM_size : ∀ (l : List EntM) (b : Array Bool), (setsM l b).size = b.size
  | [], _ => rfl
  | x :: r, b => by simp only [setsM]; rw [setsM_size r]; simp
theorem getD_setsM : ∀ (l : List EntM) (b : Array Bool) (j : Nat) (d : Bool), j < b.size → (setsM l b).getD j d = if j ∈ l.map (·.i) then true else b.getD j d
  | [], b, j, d, h => by simp [setsM]
  | x :: r, b, j, d, h => by
    simp only [setsM]
    rw [getD_setsM r _ j d (by simpa using h)]
    by_cases hj : j ∈ r.map (·.i)
    · rw [if_pos hj, if_pos (by simp only [List.map_cons]; exact List.mem_cons_of_mem _ hj)]
    · rw [if_neg hj]
      by_cases hx : x.i = j
      · subst hx; rw [if_pos (by simp)]; simp [h]
      · rw [if_neg (by simp only [List.map_cons, List.mem_cons, not_or]; exact ⟨fun e => hx e.symm, hj⟩)]
        exact getD_set_ne d hx

theorem any_of_chainM {md : Region.Mode} (hsel : ∀ (j : Nat) (o : Oper) cs b, ops[j]? = some o → o.op ≠ .select cs b) (n0 g : Nat) (ht : tailOk md ops n0 = true) (hG : ∀ z v w m d, G z v w → G z v (w.ext m d)) :
    ∀ (n : Nat) (l : List EntM) (listed : Array Bool) (a : Act) (H : World → Prop) (N : Nat), l.length = n → listed.size = ops.size →
      (∀ x ∈ l, ops[x.i]? = some x.o ∧ listed.getD x.i true = false) → l.Pairwise (fun x y => x.i ≠ y.i) →
      (∀ j, j < n0 → listed.getD j true = false → ∃ x ∈ l, x.i = j) → (∀ x ∈ l, x.i < n0) →
      l.Pairwise (fun x y => (x.made = false ∧ y.made = false ∧ x.i ∈ deps md ops y.i) ∨ Far ops x y) →
      (∀ l1 x l2, l = l1 ++ x :: l2 → ∀ k ∈ deps md ops x.i, listed.getD k false = true ∨ ∃ y ∈ l1, y.i = k) →
      Down md ops listed → (∀ w m d, H w → H (w.ext m d)) →
      ChainM P ops W G l a → (∀ us w, Ext W w → H w → (∀ x ∈ l, x.made = true → G x.i (us x.i) w ∧ N ≤ blkOf (us x.i)) → (∀ x ∈ l, ∀ y ∈ l, x.made = true → y.made = true → x.i ≠ y.i → blkOf (us x.i) ≠ blkOf (us y.i)) → wpAny P md ops Q g (setsM l listed) (putsM us l a) w) →
      ∀ w, Ext W w → H w → N ≤ w.heap.size → wpAny P md ops Q (n + g) listed a w := by
  intro n
  induction n with
  | zero =>
    intro l listed a H N hl hsz _ _ hall _ _ _ _ _ _ hQ w hE hH hN
    obtain rfl := List.length_eq_zero_iff.1 hl
    rw [Nat.zero_add]
    exact hQ (fun _ => undef) w hE hH (fun x hx => by cases hx) (fun x hx => by cases hx)
  | succ n ih =>
    intro l listed a H N hl hsz hent hnd hall hbig hpair hord hdown hHe hch hQ w hE hH hN
    have hne : l ≠ [] := fun e => by simp [e] at hl
    rw [show n + 1 + g = (n + g) + 1 by omega]
    refine ⟨fun h => ?_, fun j hj => ?_⟩
    · cases l with
      | nil => exact absurd rfl hne
      | cons x r =>
        have hx := hent x (List.mem_cons_self ..)
        have : x.i ∈ Region.ready md ops listed := (ready_of hx.1).2 ⟨hx.2, fun k hk => by
          rcases hord [] x r rfl k hk with h' | ⟨y, hy, _⟩
          · exact h'
          · cases hy⟩
        rw [h] at this; cases this
    · have hjun := (mem_ready.1 hj).1
      have hjn : j < n0 := by
        rcases Nat.lt_or_ge j n0 with h | h
        · exact h
        · exfalso
          cases l with
          | nil => exact hne rfl
          | cons x r =>
            have h1 := tail_unready ht hdown hj h x.i (hbig x (List.mem_cons_self ..))
            have h2 := (hent x (List.mem_cons_self ..)).2
            rcases Nat.lt_or_ge x.i listed.size with h' | h'
            · simp [h'] at h1 h2; rw [h2] at h1; cases h1
            · simp [Array.getElem?_eq_none h'] at h1
      obtain ⟨x, hx, rfl⟩ := hall j hjn hjun
      obtain ⟨l1, l2, rfl⟩ := List.append_of_mem hx
      have hxo := (hent x hx).1
      have hxd := ((ready_of hxo).1 hj).2
      have hap : ∀ y ∈ l1, Far ops y x := fun y hy => by
        have := (List.pairwise_append.1 hpair).2.2 y hy x (by simp)
        rcases this with ⟨_, _, h⟩ | h
        · have h1 := hxd _ h
          have h2 := (hent y (by simp [hy])).2
          exfalso
          rcases Nat.lt_or_ge y.i listed.size with h' | h'
          · simp [h'] at h1 h2; rw [h2] at h1; cases h1
          · simp [Array.getElem?_eq_none h'] at h1
        · exact h
      have hap2 : x.made = true → ∀ y ∈ l1 ++ l2, Far ops y x := fun hmk y hy => by
        rcases List.mem_append.1 hy with h | h
        · exact hap y h
        · rcases (List.pairwise_cons.1 (List.pairwise_append.1 hpair).2.1).1 y h with ⟨h', _⟩ | h'
          · rw [hmk] at h'; cases h'
          · exact h'.symm
      obtain ⟨hg, hch'⟩ := chainM_front x l2 l1 a hap hch
      have hne' : ∀ y ∈ l1 ++ l2, y.i ≠ x.i := fun y hy => by
        rcases List.mem_append.1 hy with h | h
        · exact (List.pairwise_append.1 hnd).2.2 y h x (by simp)
        · exact fun e => (List.pairwise_cons.1 (List.pairwise_append.1 hnd).2.1).1 y h e.symm
      have hsub : (l1 ++ l2).Sublist (l1 ++ x :: l2) := (List.sublist_cons_self x l2).append_left l1
      have hsets := setsM_front x l2 l1 listed (fun y hy => hne' y (List.mem_append_left _ hy))
      have step : ∀ (u : Value) (H' : World → Prop) (N' : Nat), (∀ w m d, H' w → H' (w.ext m d)) → ChainM P ops W G (l1 ++ l2) (a.put x.o.dst u) →
          (∀ us w, Ext W w → H' w → (∀ y ∈ l1 ++ l2, y.made = true → G y.i (us y.i) w ∧ N' ≤ blkOf (us y.i)) → (∀ y ∈ l1 ++ l2, ∀ z ∈ l1 ++ l2, y.made = true → z.made = true → y.i ≠ z.i → blkOf (us y.i) ≠ blkOf (us z.i)) → wpAny P md ops Q g (setsM (l1 ++ l2) (listed.setIfInBounds x.i true)) (putsM us (l1 ++ l2) (a.put x.o.dst u)) w) →
          ∀ w, Ext W w → H' w → N' ≤ w.heap.size → wpAny P md ops Q (n + g) (listed.setIfInBounds x.i true) (a.put x.o.dst u) w := by
        intro u H' N' hH' hcM hq
        refine ih (l1 ++ l2) (listed.setIfInBounds x.i true) (a.put x.o.dst u) H' N' (by simp at hl ⊢; omega) (by simpa using hsz) ?_ (hnd.sublist hsub) ?_ ?_ (hpair.sublist hsub) ?_ ?_ hH' hcM hq
        · intro y hy
          obtain ⟨h1, h2⟩ := hent y (hsub.subset hy)
          exact ⟨h1, by rw [getD_set_ne true (Ne.symm (hne' y hy))]; exact h2⟩
        · intro k hkn hk
          obtain ⟨hkx, hk'⟩ := getD_set_self hk
          obtain ⟨y, hy, rfl⟩ := hall k hkn hk'
          refine ⟨y, ?_, rfl⟩
          rcases List.mem_append.1 hy with h | h
          · exact List.mem_append_left _ h
          · rcases List.mem_cons.1 h with rfl | h
            · exact absurd rfl hkx
            · exact List.mem_append_right _ h
        · intro y hy; exact hbig y (hsub.subset hy)
        · intro m1 y m2 hm k hk
          have key : listed.getD k false = true ∨ (∃ z ∈ m1, z.i = k) ∨ x.i = k := by
            rcases List.append_eq_append_iff.1 hm with ⟨c, rfl, hc⟩ | ⟨c, rfl, hc⟩
            · rcases hord (l1 ++ x :: c) y m2 (by rw [hc]; simp) k hk with h | ⟨z, hz, rfl⟩
              · exact .inl h
              · simp only [List.mem_append, List.mem_cons] at hz
                rcases hz with h | rfl | h
                · exact .inr (.inl ⟨z, by simp [h], rfl⟩)
                · exact .inr (.inr rfl)
                · exact .inr (.inl ⟨z, by simp [h], rfl⟩)
            · cases c with
              | nil =>
                simp only [List.nil_append] at hc
                simp only [List.append_nil] at hord
                rcases hord (m1 ++ [x]) y m2 (by rw [← hc]; simp) k hk with h | ⟨z, hz, rfl⟩
                · exact .inl h
                · simp only [List.mem_append, List.mem_singleton] at hz
                  rcases hz with h | rfl
                  · exact .inr (.inl ⟨z, h, rfl⟩)
                  · exact .inr (.inr rfl)
              | cons c0 c =>
                simp only [List.cons_append, List.cons.injEq] at hc
                obtain ⟨rfl, hc⟩ := hc
                rcases hord m1 y (c ++ x :: l2) (by simp) k hk with h | ⟨z, hz, rfl⟩
                · exact .inl h
                · exact .inr (.inl ⟨z, hz, rfl⟩)
          rcases key with h | h | rfl
          · exact .inl (getD_set_true h)
          · exact .inr h
          · refine .inl ?_
            have h2 := (hent x hx).2
            rcases Nat.lt_or_ge x.i listed.size with h' | h'
            · simp [h']
            · simp [Array.getElem?_eq_none h'] at h2
        · intro i hi k hk
          by_cases hix : i = x.i
          · subst hix; exact getD_set_true (hxd k hk)
          · rw [getD_set_ne false (Ne.symm hix)] at hi
            exact getD_set_true (hdown i hi k hk)
      unfold Go.wpOp
      simp only [hxo]
      obtain ⟨m, d, rfl⟩ := hE
      rcases hg with ⟨hmk, hw, hk⟩ | ⟨hmk, ⟨hw, hv⟩ | ⟨hw, hu⟩⟩
      · -- a block is made
        simp only [hw, if_true]
        refine .inl ?_
        obtain ⟨u, w', hrun, hE', hGu, hb1, hb2⟩ := hk m d
        unfold Oper.wp
        rw [hrun]
        simp only [Oper.upon]
        have hE2 : Ext W w' := by obtain ⟨m', d', rfl⟩ := hE'; exact ⟨_, _, World.ext_ext _ _ _ _ _⟩
        have hH2 : H w' := by obtain ⟨m', d', rfl⟩ := hE'; exact hHe _ _ _ hH
        have hpm : putM x a = a := by unfold putM; rw [if_pos hmk]
        rw [hpm] at hch'
        refine step u (fun w => H w ∧ G x.i u w) w'.heap.size (fun w m d h => ⟨hHe _ _ _ h.1, hG _ _ _ _ _ h.2⟩) (chainM_put x u _ _ (hap2 hmk) hch') ?_ w' hE2 ⟨hH2, hGu⟩ (Nat.le_refl _)
        intro us w1 hE1 ⟨hH1, hG1⟩ hGs hDs
        have split : ∀ y, y ∈ l1 ++ x :: l2 → y = x ∨ (y ∈ l1 ++ l2 ∧ y.i ≠ x.i) := fun y hy => by
          rcases List.mem_append.1 hy with h | h
          · exact .inr ⟨List.mem_append_left _ h, hne' y (List.mem_append_left _ h)⟩
          · rcases List.mem_cons.1 h with rfl | h
            · exact .inl rfl
            · exact .inr ⟨List.mem_append_right _ h, hne' y (List.mem_append_right _ h)⟩
        have := hQ (fun k => if k = x.i then u else us k) w1 hE1 hH1 (fun y hy hmy => by
          rcases split y hy with rfl | ⟨h, h'⟩
          · simp only [if_true]; exact ⟨hG1, Nat.le_trans hN hb1⟩
          · simp only [h', if_false]
            obtain ⟨q1, q2⟩ := hGs y h hmy
            exact ⟨q1, by omega⟩) (fun y hy z hz hmy hmz hyz => by
          rcases split y hy with rfl | ⟨h, h'⟩
          · rcases split z hz with rfl | ⟨k, k'⟩
            · exact absurd rfl hyz
            · simp only [if_true, k', if_false]
              have := (hGs z k hmz).2
              omega
          · rcases split z hz with rfl | ⟨k, k'⟩
            · simp only [if_true, h', if_false]
              have := (hGs y h hmy).2
              omega
            · simp only [h', k', if_false]
              exact hDs y h z k hmy hmz hyz)
        rw [hsets, putsM_front _ x l2 l1 a hap] at this
        simp only [putsM, hmk, if_true] at this
        rw [putsM_congr _ us (l1 ++ l2) _ (fun y hy _ => by simp [hne' y hy])] at this
        exact this
      · -- a fixed value
        simp only [hw, if_true]
        refine .inl ?_
        have hpm : putM x a = a.put x.o.dst x.v := by unfold putM; rw [if_neg (by rw [hmk]; simp)]
        rw [hpm] at hch'
        have fin : ∀ w', Ext (W.ext m d) w' → wpAny P md ops Q (n + g) (listed.setIfInBounds x.i true) (a.put x.o.dst x.v) w' := by
          rintro w' ⟨m', d', rfl⟩
          refine step x.v H N hHe hch' ?_ _ ⟨_, _, World.ext_ext _ _ _ _ _⟩ (hHe _ _ _ hH) (by simp at hN ⊢; omega)
          intro us w1 hE1 hH1 hGs hDs
          have mem : ∀ y, y ∈ l1 ++ x :: l2 → y.made = true → y ∈ l1 ++ l2 := fun y hy hmy => by
            rcases List.mem_append.1 hy with h | h
            · exact List.mem_append_left _ h
            · rcases List.mem_cons.1 h with rfl | h
              · rw [hmk] at hmy; cases hmy
              · exact List.mem_append_right _ h
          have := hQ us w1 hE1 hH1 (fun y hy hmy => hGs y (mem y hy hmy) hmy) (fun y hy z hz hmy hmz hyz => hDs y (mem y hy hmy) z (mem z hz hmz) hmy hmz hyz)
          rw [hsets, putsM_front _ x l2 l1 a hap] at this
          simp only [putsM, hmk, Bool.false_eq_true, if_false] at this
          exact this
        have := hv m d
        unfold Oper.wp
        generalize (execOp a.eval x.o).run P (W.ext m d) = q at *
        cases q with
        | halt y w' => exact this.elim
        | ok nx w' =>
          cases nx <;> simp only [Oper.upon] at this ⊢
          case value u => obtain ⟨rfl, h2⟩ := this; exact fin _ h2
          case skip => obtain ⟨h1, h2⟩ := this; rw [h1]; exact fin _ h2
          case enter f args =>
            refine Calls.mono this fun e w'' he => ?_
            obtain ⟨rfl, h2⟩ := he
            exact fin _ h2
      · simp only [hw, Bool.false_eq_true, if_false]
        have hpm : putM x a = a.put x.o.dst x.v := by unfold putM; rw [if_neg (by rw [hmk]; simp)]
        rw [hpm] at hch'
        rw [← hu]
        refine step x.v H N hHe hch' ?_ _ ⟨m, d, rfl⟩ hH hN
        intro us w1 hE1 hH1 hGs hDs
        have mem : ∀ y, y ∈ l1 ++ x :: l2 → y.made = true → y ∈ l1 ++ l2 := fun y hy hmy => by
          rcases List.mem_append.1 hy with h | h
          · exact List.mem_append_left _ h
          · rcases List.mem_cons.1 h with rfl | h
            · rw [hmk] at hmy; cases hmy
            · exact List.mem_append_right _ h
        have := hQ us w1 hE1 hH1 (fun y hy hmy => hGs y (mem y hy hmy) hmy) (fun y hy z hz hmy hmz hyz => hDs y (mem y hy hmy) z (mem z hz hmz) hmy hmz hyz)
        rw [hsets, putsM_front _ x l2 l1 a hap] at this
        simp only [putsM, hmk, Bool.false_eq_true, if_false] at this
        exact this

/-- The walk of the head in the text's order: 'zs' are the numbers that make blocks. -/
def TextM (P : Program) (ops : Array Oper) (W : World) (zs : List Nat) (G : Nat → Value → World → Prop) (F : Act → Prop) : Nat → List Oper → Act → Prop
  | _, [], a => F a
  | k, o :: r, a =>
    (zs.contains k = true ∧ Region.wanted o (yielded ops a.tmps) = true ∧ GK P W G k o a ∧ TextM P ops W zs G F (k + 1) r a) ∨
    (zs.contains k = false ∧ ∃ v, ((Region.wanted o (yielded ops a.tmps) = true ∧ G2 P W o v a) ∨ (Region.wanted o (yielded ops a.tmps) = false ∧ v = undef)) ∧ TextM P ops W zs G F (k + 1) r (a.put o.dst v))
theorem tm_val {zs : List Nat} {k : Nat} (hk : zs.contains k = false) (hg : Region.wanted o (yielded ops a.tmps) = true) (h : ∀ m d, (execOp a.eval o).run P (W.ext m d) = .ok (.value v) (W.ext m d))
    (c : TextM P ops W zs G F (k + 1) r (a.put o.dst v)) : TextM P ops W zs G F k (o :: r) a :=
  .inr ⟨hk, v, .inl ⟨hg, fun m d => by rw [h m d]; exact ⟨rfl, Ext.refl _⟩⟩, c⟩
theorem tm_call {zs : List Nat} {k : Nat} {f : FuncId} {args : Array Value} (hk : zs.contains k = false) (hg : Region.wanted o (yielded ops a.tmps) = true) (h : ∀ m d, (execOp a.eval o).run P (W.ext m d) = .ok (.enter f args) (W.ext m d))
    (hc : ∀ m d, Calls P f args (W.ext m d) (Pure v (W.ext m d))) (c : TextM P ops W zs G F (k + 1) r (a.put o.dst v)) : TextM P ops W zs G F k (o :: r) a :=
  .inr ⟨hk, v, .inl ⟨hg, fun m d => by rw [h m d]; exact (hc m d).mono fun e w' ⟨he, m', d', hw⟩ => ⟨he, m', d', hw⟩⟩, c⟩
theorem tm_skip {zs : List Nat} {k : Nat} (hk : zs.contains k = false) (hg : Region.wanted o (yielded ops a.tmps) = false) (c : TextM P ops W zs G F (k + 1) r (a.put o.dst undef)) : TextM P ops W zs G F k (o :: r) a :=
  .inr ⟨hk, undef, .inr ⟨hg, rfl⟩, c⟩
theorem tm_make {zs : List Nat} {k : Nat} (hk : zs.contains k = true) (hg : Region.wanted o (yielded ops a.tmps) = true) (h : GK P W G k o a) (c : TextM P ops W zs G F (k + 1) r a) : TextM P ops W zs G F k (o :: r) a := .inl ⟨hk, hg, h, c⟩
theorem tm_nil {zs : List Nat} {k : Nat} (c : F a) : TextM P ops W zs G F k [] a := c

/-- The made blocks' slots are set. -/
def setAll (ops : Array Oper) (us : Nat → Value) : List Nat → Act → Act
  | [], a => a
  | z :: r, a => setAll ops us r (a.put ((ops[z]?).bind (·.dst)) (us z))
def endM : List EntM → Act → Act
  | [], a => a
  | x :: r, a => endM r (putM x a)

theorem walk_m {zs : List Nat} : ∀ (os : List Oper) (k : Nat) (a : Act), TextM P ops W zs G F k os a →
    ∃ l : List EntM, l.map (·.i) = List.range' k os.length ∧ l.map (·.o) = os ∧ (∀ x ∈ l, x.made = zs.contains x.i) ∧ ChainM P ops W G l a ∧ F (endM l a)
  | [], k, a, h => ⟨[], by simp, rfl, (fun x hx => by cases hx), trivial, h⟩
  | o :: r, k, a, .inl ⟨hk, hg, hm, h⟩ => by
    obtain ⟨l, h1, h2, h3, h4, h5⟩ := walk_m r (k + 1) _ h
    refine ⟨⟨k, o, undef, true⟩ :: l, by simp [h1, List.range'_succ], by simp [h2], fun x hx => ?_, ⟨.inl ⟨rfl, hg, hm⟩, h4⟩, h5⟩
    rcases List.mem_cons.1 hx with rfl | hx
    · exact hk.symm
    · exact h3 x hx
  | o :: r, k, a, .inr ⟨hk, v, hg, h⟩ => by
    obtain ⟨l, h1, h2, h3, h4, h5⟩ := walk_m r (k + 1) _ h
    refine ⟨⟨k, o, v, false⟩ :: l, by simp [h1, List.range'_succ], by simp [h2], fun x hx => ?_, ⟨.inr ⟨rfl, hg⟩, h4⟩, h5⟩
    rcases List.mem_cons.1 hx with rfl | hx
    · exact hk.symm
    · exact h3 x hx

/-- What makes blocks is apart from all else of the head. -/
def makesOk (ops : Array Oper) (n : Nat) (zs : List Nat) : Bool :=
  (List.range n).all fun j => (List.range j).all fun i => if zs.contains i || zs.contains j then (match ops[i]?, ops[j]? with | some x, some y => x.apart ops y | _, _ => false) else true

theorem putsM_end (us : Nat → Value) : ∀ (l : List EntM) (a : Act), l.Pairwise (fun x y => (x.made = false ∧ y.made = false) ∨ Far ops x y) → (∀ x ∈ l, ops[x.i]? = some x.o) →
    putsM us l a = setAll ops us ((l.filter (·.made)).map (·.i)) (endM l a)
  | [], a, _, _ => rfl
  | x :: r, a, hp, ho => by
    obtain ⟨hp1, hp2⟩ := List.pairwise_cons.1 hp
    have ih := fun a => putsM_end us r a hp2 (fun y hy => ho y (List.mem_cons_of_mem _ hy))
    simp only [putsM]
    cases hm : x.made with
    | false =>
      rw [List.filter_cons_of_neg (by rw [hm]; simp)]
      simp only [Bool.false_eq_true, if_false]
      rw [ih]
      simp only [endM, putM, hm, Bool.false_eq_true, if_false]
    | true =>
      rw [List.filter_cons_of_pos (by rw [hm])]
      simp only [if_true, List.map_cons, setAll, endM, putM, hm]
      rw [ih]
      have hxo := ho x (List.mem_cons_self ..)
      rw [hxo]
      simp only [Option.bind_some]
      congr 1
      -- the put of x goes past all others
      have key : ∀ (l : List EntM) (a : Act), (∀ y ∈ l, Far ops x y) → endM l (a.put x.o.dst (us x.i)) = (endM l a).put x.o.dst (us x.i) := by
        intro l
        induction l with
        | nil => intro a _; rfl
        | cons y r ih2 =>
          intro a hy
          have hf := hy y (List.mem_cons_self ..)
          simp only [endM]
          have e : putM y (a.put x.o.dst (us x.i)) = (putM y a).put x.o.dst (us x.i) := by
            unfold putM; split
            · rfl
            · exact hf.comm a _ _
          rw [e]
          exact ih2 _ (fun z hz => hy z (List.mem_cons_of_mem _ hz))
      exact key r a (fun y hy => by
        rcases hp1 y hy with ⟨h, _⟩ | h
        · rw [hm] at h; cases h
        · exact h)

theorem wp_region_makes {id : Nat} (n : Nat) (zs : List Nat) (G : Nat → Value → World → Prop) (hm : P.follows .mixedOrders = true) (hok : textOk .any ops = true) (ht : tailOk .any ops n = true) (hn : decide (n ≤ ops.size) = true)
    (hseq : Region.seqB .any ops (ops.size - n) n (listedUpto ops n) = true) (hz : makesOk ops n zs = true) (hzs : (List.range n).filter (fun k => zs.contains k) = zs) (hG : ∀ z v w m d, G z v w → G z v (w.ext m d))
    (h : ∀ F : Act → Prop, (∀ a', (∀ us m d, (∀ z ∈ zs, G z (us z) (W.ext m d) ∧ W.heap.size ≤ blkOf (us z)) → (∀ z ∈ zs, ∀ y ∈ zs, z ≠ y → blkOf (us z) ≠ blkOf (us y)) → wpList P ops Q (ops.toList.drop n) (setAll ops us zs a') (W.ext m d)) → F a') → TextM P ops W zs G F 0 (ops.toList.take n) a) :
    (Code.region id ops true).wp P Q a W := by
  obtain ⟨l, h1, h2, h3, h4, h5⟩ := walk_m _ 0 _ (h (fun a' => ∀ us m d, (∀ z ∈ zs, G z (us z) (W.ext m d) ∧ W.heap.size ≤ blkOf (us z)) → (∀ z ∈ zs, ∀ y ∈ zs, z ≠ y → blkOf (us z) ≠ blkOf (us y)) → wpList P ops Q (ops.toList.drop n) (setAll ops us zs a') (W.ext m d)) (fun _ h => h))
  refine wp_region_any hm ?_
  simp only [textOk, Bool.and_eq_true, Bool.or_eq_true, List.all_eq_true, List.mem_range, decide_eq_true_eq] at hok hn
  obtain ⟨⟨hs, hlt⟩, hpr⟩ := hok
  have hlen : l.length = n := by
    have := congrArg List.length h2
    simpa [hn] using this
  have htk : (ops.toList.take n).length = n := by simp [hn]
  rw [htk] at h1
  have hat : ∀ (j : Nat) (hj : j < l.length), l[j].i = j ∧ ops[j]? = some l[j].o := fun j hj => by
    constructor
    · have e1 : (l.map (·.i))[j]? = (List.range' 0 n)[j]? := by rw [h1]
      simp only [List.getElem?_map, List.getElem?_eq_getElem hj, Option.map_some] at e1
      rw [List.getElem?_range' (by omega)] at e1
      simpa using e1
    · have e2 : (l.map (·.o))[j]? = (ops.toList.take n)[j]? := by rw [h2]
      simp only [List.getElem?_map, List.getElem?_eq_getElem hj, Option.map_some] at e2
      rw [List.getElem?_take_of_lt (by omega)] at e2
      simpa using e2.symm
  have hmem : ∀ x ∈ l, x.i < n ∧ ops[x.i]? = some x.o := fun x hx => by
    obtain ⟨j, hj, rfl⟩ := List.getElem_of_mem hx
    obtain ⟨e1, e2⟩ := hat j hj
    rw [e1]; exact ⟨by omega, e2⟩
  have hdn : ∀ i k, k ∈ deps .any ops i → k < i := fun i k hk => by
    by_cases hi : i < ops.size
    · exact hlt i hi k hk
    · simp [deps, Array.getElem?_eq_none (Nat.le_of_not_lt hi)] at hk
  have hrep : ∀ j d, (Array.replicate ops.size false).getD j d = true → d = true := fun j d hd => by
    by_cases hj : j < ops.size
    · simp [hj] at hd
    · simpa [hj] using hd
  have hfin : setsM l (Array.replicate ops.size false) = listedUpto ops n := by
    apply Array.ext
    · rw [setsM_size]; simp [listedUpto]
    · intro j hj1 hj2
      rw [setsM_size] at hj1
      have e := getD_setsM l (Array.replicate ops.size false) j false hj1
      rw [h1] at e
      have hjs : j < ops.size := by simpa using hj1
      simp only [Array.getD_eq_getD_getElem?] at e
      rw [Array.getElem?_eq_getElem (by rw [setsM_size]; exact hj1)] at e
      simp only [Option.getD_some] at e
      rw [e]
      simp [listedUpto, hjs]
  have hsel := Region.noSelect_spec hs
  have hfar : l.Pairwise (fun x y => (x.made = false ∧ y.made = false ∧ x.i ∈ deps .any ops y.i) ∨ Far ops x y) := by
    rw [List.pairwise_iff_getElem]
    intro i j hi hj hij
    obtain ⟨e1, e2⟩ := hat i hi
    obtain ⟨e3, e4⟩ := hat j hj
    have hx := (hmem _ (List.getElem_mem hi)).2
    have hy := (hmem _ (List.getElem_mem hj)).2
    have hpr' := hpr j (by omega) i hij
    rw [e2, e4] at hpr'
    have m1 := h3 _ (List.getElem_mem hi)
    have m2 := h3 _ (List.getElem_mem hj)
    rw [e1] at m1
    rw [e3] at m2
    simp only [makesOk, List.all_eq_true, List.mem_range] at hz
    have hz' := hz j (by omega) i hij
    rw [e2, e4] at hz'
    by_cases hmk : (zs.contains i || zs.contains j) = true
    · rw [if_pos hmk] at hz'
      exact .inr (far_of hsel hx hy hz')
    · have hmk' : zs.contains i = false ∧ zs.contains j = false := by
        simp only [Bool.or_eq_true, not_or, Bool.not_eq_true] at hmk; exact hmk
      rcases hpr' with h' | h'
      · refine .inl ⟨m1.trans hmk'.1, m2.trans hmk'.2, ?_⟩
        rw [e1, e3]; simpa using h'
      · exact .inr (far_of hsel hx hy h')
  have hputs := fun us a => putsM_end (ops := ops) us l a (hfar.imp (fun h => h.elim (fun q => .inl ⟨q.1, q.2.1⟩) .inr)) (fun x hx => (hmem x hx).2)
  have hmade : (l.filter (·.made)).map (·.i) = zs := by
    have e : l.filter (·.made) = l.filter (fun x => zs.contains x.i) := List.filter_congr h3
    rw [e]
    have : (l.filter (fun x => zs.contains x.i)).map (·.i) = (l.map (·.i)).filter (fun k => zs.contains k) := by rw [List.filter_map]; rfl
    rw [this, h1, ← List.range_eq_range']
    exact hzs
  have key := any_of_chainM (P := P) (Q := Q) (md := .any) (G := G) (W := W) hsel n (ops.size - n) ht hG n l (Array.replicate ops.size false) a (fun _ => True) W.heap.size hlen (by simp) (fun x hx => by
      obtain ⟨e1, e2⟩ := hmem x hx
      exact ⟨e2, by simp [show x.i < ops.size by omega]⟩) (by
      have : (l.map (·.i)).Pairwise (· ≠ ·) := by rw [h1]; exact List.nodup_range'
      exact List.pairwise_map.1 this) (fun j hj _ => ⟨l[j]'(by omega), List.getElem_mem _, (hat j (by omega)).1⟩) (fun x hx => (hmem x hx).1) hfar (by
      intro l1 x l2 hl k hk
      right
      have hxi : x.i = l1.length := by
        have hj : l1.length < l.length := by rw [hl]; simp
        have := (hat l1.length hj).1
        simpa [hl] using this
      have hkx := hdn _ _ hk
      refine ⟨l[k]'(by rw [hl]; simp; omega), ?_, (hat k _).1⟩
      have hkl : k < l1.length := by omega
      simp only [hl]
      rw [List.getElem_append_left hkl]
      exact List.getElem_mem _) (fun i hi => absurd (hrep i false hi) (by simp)) (fun _ _ _ _ => trivial) h4 (by
      rintro us w1 ⟨m1, d1, rfl⟩ _ hGs hDs
      have hzx : ∀ z ∈ zs, ∃ x ∈ l, x.made = true ∧ x.i = z := fun z hzm => by
        rw [← hmade] at hzm
        obtain ⟨x, hx, rfl⟩ := List.mem_map.1 hzm
        obtain ⟨hx1, hx2⟩ := List.mem_filter.1 hx
        exact ⟨x, hx1, hx2, rfl⟩
      have := h5 us m1 d1 (fun z hzm => by obtain ⟨x, q1, q2, rfl⟩ := hzx z hzm; exact hGs x q1 q2) (fun z hzm y hym hzy => by
        obtain ⟨x, q1, q2, rfl⟩ := hzx z hzm
        obtain ⟨x', k1, k2, rfl⟩ := hzx y hym
        exact hDs x q1 x' k1 q2 k2 hzy)
      rw [hfin, hputs, hmade]
      have e : (ops.toList.drop n).length = ops.size - n := by simp
      have := wpAny_of_seq (P := P) (md := .any) (ops := ops) (ops.toList.drop n) n (listedUpto ops n) _ _ (fun j => by simp [List.getElem?_drop]) (by rw [e]; exact hseq) this
      rw [e] at this
      exact this) W.drew ⟨_, _, World.drew_is_ext W⟩ trivial (Nat.le_refl _)
  rw [show n + (ops.size - n) = ops.size by omega] at key
  exact key
end
end Go
