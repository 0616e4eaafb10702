/-
  A world with more blocks behind it: the normal form of the world behind a call that only makes memory.
-/
import Derived.Test.YtidnhnfmbebeaaaRows
import Derived.WalkKit
import Derived.WalkSpells
import Derived.WalkLawsBesides
import Derived.Handy
import Derived.Deep.RegionHeld3
import Derived.Deep.DeepCutAuto
namespace Go
open Go.RowKit

/-- A fact kept from the walk. -/
theorem hid {p : Prop} (h : p) : Hid p := h

/-- The world w with the blocks m behind it, and d answers of the tape drawn. -/
def World.ext (w : World) (m : Array Obj) (d : Nat) : World := { w with heap := w.heap ++ m, drawn := d }

section
variable (w : World) (m : Array Obj) (d : Nat) (n i : Nat) (v : Value)
@[simp, go_sem] theorem World.size_ext : (w.ext m d).heap.size = w.heap.size + m.size := by simp [World.ext]
theorem World.heap_ext {k : Nat} (h : k < w.heap.size) : (w.ext m d).heap[k]? = w.heap[k]? := by
  simp [World.ext, Array.getElem?_append, h]
@[simp, go_sem] theorem World.cell?_ext (h : n < w.heap.size) : (w.ext m d).cell? ⟨n, i, none⟩ = w.cell? ⟨n, i, none⟩ := by
  simp only [World.cell?, World.heap_ext w m d h]
@[simp, go_sem] theorem World.frozen?_ext (h : n < w.heap.size) : (w.ext m d).frozen? ⟨n, i, none⟩ = w.frozen? ⟨n, i, none⟩ := by
  simp only [World.frozen?, World.heap_ext w m d h]
@[simp, go_sem] theorem World.setCell_ext (h : n < w.heap.size) : (w.ext m d).setCell ⟨n, i, none⟩ v = (w.setCell ⟨n, i, none⟩ v).ext m d := by
  simp only [World.setCell, World.ext]
  congr 1
  apply Array.ext_getElem?
  intro k
  by_cases hk : k < w.heap.size
  · simp only [Array.getElem?_append, Array.getElem?_modify, Array.size_modify, hk, if_true]
  · simp only [Array.getElem?_append, Array.getElem?_modify, Array.size_modify, hk, if_false]
    rw [if_neg (by omega)]
@[simp, go_sem] theorem World.drew_ext : (w.ext m d).drew = w.ext m (d + 1) := rfl
@[simp, go_sem] theorem World.ext_drew : w.drew.ext m d = w.ext m d := rfl
@[simp, go_sem] theorem World.ext_ext (m' : Array Obj) (d' : Nat) : (w.ext m d).ext m' d' = w.ext (m ++ m') d' := by
  simp [World.ext]
@[simp, go_sem] theorem lt_add_size (h : n < i) : (n < i + m.size) = True := by simp; omega
@[simp, go_sem] theorem le_add_one (h : n ≤ i) : (n ≤ i + 1) = True := by simp; omega
@[simp, go_sem] theorem lt_add_one (h : n ≤ i) : (n < i + 1) = True := by simp; omega
@[simp, go_sem] theorem lt_add_pair (a b : Nat) (h : n < i) : (n < i + (a + b)) = True := by simp; omega
@[simp, go_sem] theorem le_add_pair (a b : Nat) (h : n ≤ i) : (n ≤ i + (a + b)) = True := by simp; omega
@[simp, go_sem] theorem le_add_pair' (a b : Nat) (h : n < i) : (n ≤ i + (a + b)) = True := by simp; omega
@[simp, go_sem] theorem le_add_size' (h : n < i) : (n ≤ i + m.size) = True := by simp; omega
@[simp, go_sem] theorem le_add_pair1 (a b : Nat) (h : n < i) : (n ≤ i + (a + b) + 1) = True := by simp; omega
@[simp, go_sem] theorem le_add_size1 (h : n < i) : (n ≤ i + m.size + 1) = True := by simp; omega
@[simp, go_sem] theorem le_add_size (h : n ≤ i) : (n ≤ i + m.size) = True := by simp; omega
end

theorem Below.to_ext {w w' : World} (h : RowKit.Below w.heap.size w w') : ∃ m d, w' = w.ext m d := by
  refine ⟨w'.heap.extract w.heap.size w'.heap.size, w'.drawn, ?_⟩
  obtain ⟨h1, h2, h3, h4, h5⟩ := h
  obtain ⟨hp', t', d', o', p'⟩ := w'
  obtain ⟨hp, t, d, o, p⟩ := w
  simp only [World.ext] at *
  subst h1 h2 h3
  congr 1
  apply Array.ext_getElem?
  intro i
  by_cases hi : i < hp.size
  · rw [h5 i hi, Array.getElem?_append, if_pos hi]
  · rw [Array.getElem?_append, if_neg hi, Array.getElem?_extract]
    by_cases h6 : i < hp'.size
    · rw [if_pos (by omega)]; congr 1; omega
    · rw [if_neg (by omega)]; exact Array.getElem?_eq_none (by omega)

theorem Below.ext_mk {B : Nat} {a w : World} (h : RowKit.Below B a w) (hB : B ≤ w.heap.size) (m : Array Obj) (d : Nat) : RowKit.Below B a (w.ext m d) :=
  h.trans ⟨rfl, rfl, rfl, by simp, fun k hk => World.heap_ext _ _ _ (by omega)⟩

/-- What a function that only computes gives back: the value, and a world of more blocks. -/
def Pure (v : Value) (w : World) (e : Ending) (w' : World) : Prop := e = .returned v ∧ ∃ m d, w' = w.ext m d
theorem Pure.of {v v' : Value} {w w' : World} (h : v' = v) (hb : RowKit.Below w.heap.size w w') : Pure v w (.returned v') w' := ⟨by rw [h], Below.to_ext hb⟩
theorem Pure.mk {v : Value} {w w' : World} (h : RowKit.Below w.heap.size w w') : Pure v w (.returned v) w' := ⟨rfl, Below.to_ext h⟩

/-- A call of a function value that lies in a slot. -/
def callVal (v : Value) (xs : Array Value) : Sem Next := do
  let d ← Deferred.ofValue v xs
  invoke d.target d.args
@[go_sem ↓] theorem execOp_call_tmp (a : Act) (dst : Option Tmp) (t : Tmp) (xs : Array Operand) (ats : Array TypeId) (ty : TypeId) (pos : String) (after : Array Edge) (guard : Option (Nat × Bool)) :
    execOp a.eval { dst, op := .call { callee := .value (.tmp t), args := xs, argTypes := ats }, type := ty, pos, after, guard } = callVal (a.eval (.tmp t)) (xs.map a.eval) := rfl
@[go_sem] theorem callVal_func (k : FuncId) (fst cap xs : Array Value) : callVal (.func (.func k) fst cap) xs = callFunc k (fst ++ xs ++ cap) := rfl
end Go
set_option linter.unusedVariables false
set_option linter.unusedSimpArgs false
namespace Go
open Go.RowKit

section
variable {P : Program} {ops : Array Oper} {Q : Exit → Act → World → Prop} {md : Region.Mode} {S : Array Bool → World → Prop}

/-- The binding edges of number i. -/
def deps (md : Region.Mode) (ops : Array Oper) (i : Nat) : List Nat :=
  match ops[i]? with
  | some o => (o.after.toList.filter (Region.binds md)).map (·.on)
  | none => []
theorem mem_deps {i k : Nat} {o : Oper} (hi : ops[i]? = some o) : k ∈ deps md ops i ↔ ∃ e ∈ o.after, Region.binds md e = true ∧ e.on = k := by
  simp only [deps, hi, List.mem_map, List.mem_filter, Array.mem_toList_iff]
  constructor
  · rintro ⟨e, ⟨h1, h2⟩, h3⟩; exact ⟨e, h1, h2, h3⟩
  · rintro ⟨e, h1, h2, h3⟩; exact ⟨e, ⟨h1, h2⟩, h3⟩

theorem ready_of {i : Nat} {o : Oper} {listed : Array Bool} (hi : ops[i]? = some o) :
    i ∈ Region.ready md ops listed ↔ listed.getD i true = false ∧ ∀ k ∈ deps md ops i, listed.getD k false = true := by
  rw [mem_ready]
  constructor
  · rintro ⟨h0, o', ho, h⟩
    rw [hi] at ho; cases ho
    exact ⟨h0, fun k hk => by obtain ⟨e, he, hb, rfl⟩ := (mem_deps hi).1 hk; exact h e he hb⟩
  · rintro ⟨h0, h⟩
    exact ⟨h0, o, hi, fun e he hb => h _ ((mem_deps hi).2 ⟨e, he, hb, rfl⟩)⟩

/-- What has come up is closed under what it waits for. -/
def Down (md : Region.Mode) (ops : Array Oper) (L : Array Bool) : Prop := ∀ i, L.getD i false = true → ∀ k ∈ deps md ops i, L.getD k false = true

/-- An operation, its number, what it gives. -/
structure Ent where
  i : Nat
  o : Oper
  v : Value

/-- Number i may come up now. -/
def Now (md : Region.Mode) (ops : Array Oper) (i : Nat) (L : Array Bool) : Prop :=
  L.size = ops.size ∧ L.getD i true = false ∧ (∀ k ∈ deps md ops i, L.getD k false = true) ∧ Down md ops L

/-- Whenever it may come up, in every world that meets S, the operation gives v, and S holds behind it. -/
def Gives (P : Program) (md : Region.Mode) (ops : Array Oper) (S : Array Bool → World → Prop) (x : Ent) (a : Act) : Prop :=
  (Region.wanted x.o (yielded ops a.tmps) = true ∧ ∀ L w, Now md ops x.i L → S L w → match (execOp a.eval x.o).run P w with
    | .ok (.value u) w' => u = x.v ∧ S (L.setIfInBounds x.i true) w'
    | .ok .skip w' => undef = x.v ∧ S (L.setIfInBounds x.i true) w'
    | .ok (.enter f args) w' => Calls P f args w' (fun e w'' => e = .returned x.v ∧ S (L.setIfInBounds x.i true) w'')
    | _ => False) ∨
  (Region.wanted x.o (yielded ops a.tmps) = false ∧ x.v = undef ∧ ∀ L w, Now md ops x.i L → S L w → S (L.setIfInBounds x.i true) w)

theorem Gives.of_same {x : Ent} {a a' : Act} (h : Gives P md ops S x a) (he : execOp a'.eval x.o = execOp a.eval x.o)
    (hw : Region.wanted x.o (yielded ops a'.tmps) = Region.wanted x.o (yielded ops a.tmps)) : Gives P md ops S x a' := by
  unfold Gives at *; rw [he, hw]; exact h

theorem Gives.wpOp {x : Ent} {a : Act} {L : Array Bool} (hi : ops[x.i]? = some x.o) (h : Gives P md ops S x a) (hL : Now md ops x.i L)
    {K : Act → World → Prop} {w : World} (hS : S L w) (hK : ∀ w', S (L.setIfInBounds x.i true) w' → K (a.put x.o.dst x.v) w') : wpOp P ops Q x.i K a w := by
  unfold Go.wpOp
  simp only [hi]
  rcases h with ⟨hw, hv⟩ | ⟨hw, hu, hs⟩
  · simp only [hw, if_true]
    refine .inl ?_
    have := hv L w hL hS
    unfold Oper.wp
    generalize (execOp a.eval x.o).run P w = r at *
    cases r with
    | halt x w' => exact this.elim
    | ok n w' =>
      cases n <;> simp only [Oper.upon] at this ⊢
      case value u => obtain ⟨rfl, h2⟩ := this; exact hK _ h2
      case skip => obtain ⟨h1, h2⟩ := this; rw [h1]; exact hK _ h2
      case enter f args =>
        refine Calls.mono this fun e w'' he => ?_
        obtain ⟨rfl, h2⟩ := he
        exact hK _ h2
  · simp only [hw, Bool.false_eq_true, if_false]; rw [← hu]; exact hK _ (hs L w hL hS)

def Chain (P : Program) (md : Region.Mode) (ops : Array Oper) (S : Array Bool → World → Prop) : List Ent → Act → Prop
  | [], _ => True
  | x :: r, a => Gives P md ops S x a ∧ Chain P md ops S r (a.put x.o.dst x.v)
def puts : List Ent → Act → Act
  | [], a => a
  | x :: r, a => puts r (a.put x.o.dst x.v)
def sets : List Ent → Array Bool → Array Bool
  | [], l => l
  | x :: r, l => sets r (l.setIfInBounds x.i true)

theorem sets_comm (x : Ent) : ∀ (l : List Ent) (b : Array Bool), (∀ y ∈ l, y.i ≠ x.i) → sets l (b.setIfInBounds x.i true) = (sets l b).setIfInBounds x.i true
  | [], _, _ => rfl
  | y :: r, b, h => by
    simp only [sets]
    rw [← sets_comm x r _ (fun z hz => h z (List.mem_cons_of_mem _ hz)), Array.setIfInBounds_comm _ _ (h y (List.mem_cons_self ..))]

theorem chain_front (hsel : ∀ (j : Nat) (o : Oper) cs b, ops[j]? = some o → o.op ≠ .select cs b) (x : Ent) (hx : ops[x.i]? = some x.o) (l2 : List Ent) : ∀ (l1 : List Ent) (a : Act),
    (∀ y ∈ l1, ops[y.i]? = some y.o ∧ y.o.apart ops x.o = true) → Chain P md ops S (l1 ++ x :: l2) a →
    Chain P md ops S (x :: (l1 ++ l2)) a ∧ puts (l1 ++ x :: l2) a = puts (x :: (l1 ++ l2)) a
  | [], a, _, h => ⟨h, rfl⟩
  | y :: l1, a, hy, h => by
    obtain ⟨h0, h1⟩ := h
    obtain ⟨h2, h3⟩ := chain_front hsel x hx l2 l1 _ (fun z hz => hy z (List.mem_cons_of_mem _ hz)) h1
    obtain ⟨h4, h5⟩ := h2
    obtain ⟨hyo, hap⟩ := hy y (List.mem_cons_self ..)
    obtain ⟨ap1, ap2, ap3⟩ := Oper.apart_spec hap
    have e : (a.put y.o.dst y.v).put x.o.dst x.v = (a.put x.o.dst x.v).put y.o.dst y.v := Act.put_comm a _ _ ap2
    refine ⟨⟨?_, ?_, ?_⟩, ?_⟩
    · exact h4.of_same (execOp_put x.o (fun cs b => hsel x.i x.o cs b hx) a y.o.dst y.v ap1).symm (wanted_put x.o a y.o.dst y.v ap1).symm
    · exact h0.of_same (execOp_put y.o (fun cs b => hsel y.i y.o cs b hyo) a x.o.dst x.v ap3) (wanted_put y.o a x.o.dst x.v ap3)
    · rw [← e]; exact h5
    · simp only [List.cons_append, puts] at h3 ⊢
      rw [h3, e]

theorem getD_set_self {listed : Array Bool} {i j : Nat} (h : (listed.setIfInBounds i true).getD j true = false) : j ≠ i ∧ listed.getD j true = false := by
  by_cases hij : i = j
  · subst hij
    rcases Nat.lt_or_ge i listed.size with h' | h' <;> simp [h'] at h
  · exact ⟨fun e => hij e.symm, by rwa [getD_set_ne true hij] at h⟩

theorem any_of_chain (hsel : ∀ (j : Nat) (o : Oper) cs b, ops[j]? = some o → o.op ≠ .select cs b) :
    ∀ (n : Nat) (l : List Ent) (listed : Array Bool) (a : Act), l.length = n → listed.size = ops.size →
      (∀ x ∈ l, ops[x.i]? = some x.o ∧ listed.getD x.i true = false) → l.Pairwise (fun x y => x.i ≠ y.i) →
      (∀ j, listed.getD j true = false → ∃ x ∈ l, x.i = j) →
      l.Pairwise (fun x y => x.i ∈ deps md ops y.i ∨ x.o.apart ops y.o = true) →
      (∀ l1 x l2, l = l1 ++ x :: l2 → ∀ k ∈ deps md ops x.i, listed.getD k false = true ∨ ∃ y ∈ l1, y.i = k) →
      Down md ops listed →
      Chain P md ops S l a → (∀ w, S (sets l listed) w → Q .normal (puts l a) w) →
      ∀ w, S listed w → wpAny P md ops Q n listed a w := by
  intro n
  induction n with
  | zero =>
    intro l listed a hl hsz _ _ hall _ _ _ _ hQ w hS
    obtain rfl := List.length_eq_zero_iff.1 hl
    refine ⟨?_, by simpa [sets, puts] using hQ w hS⟩
    apply List.eq_nil_iff_forall_not_mem.2
    intro j hj
    obtain ⟨x, hx, _⟩ := hall j (mem_ready.1 hj).1
    cases hx
  | succ n ih =>
    intro l listed a hl hsz hent hnd hall hpair hord hdown hch hQ w hS
    have hne : l ≠ [] := fun e => by simp [e] at hl
    refine ⟨fun h => ?_, fun j hj => ?_⟩
    · cases l with
      | nil => exact absurd rfl hne
      | cons x r =>
        have hx := hent x (List.mem_cons_self ..)
        have : x.i ∈ Region.ready md ops listed := (ready_of hx.1).2 ⟨hx.2, fun k hk => by
          rcases hord [] x r rfl k hk with h' | ⟨y, hy, _⟩
          · exact h'
          · cases hy⟩
        rw [h] at this; cases this
    · have hjun := (mem_ready.1 hj).1
      obtain ⟨x, hx, rfl⟩ := hall j hjun
      obtain ⟨l1, l2, rfl⟩ := List.append_of_mem hx
      have hxo := (hent x hx).1
      have hxd := ((ready_of hxo).1 hj).2
      have hap : ∀ y ∈ l1, ops[y.i]? = some y.o ∧ y.o.apart ops x.o = true := fun y hy => by
        refine ⟨(hent y (by simp [hy])).1, ?_⟩
        have := (List.pairwise_append.1 hpair).2.2 y hy x (by simp)
        rcases this with h | h
        · have h1 := hxd _ h
          have h2 := (hent y (by simp [hy])).2
          exfalso
          rcases Nat.lt_or_ge y.i listed.size with h' | h'
          · simp [h'] at h1 h2; rw [h2] at h1; cases h1
          · simp [Array.getElem?_eq_none h'] at h1
        · exact h
      obtain ⟨⟨hg, hch'⟩, hputs⟩ := chain_front hsel x hxo l2 l1 a hap hch
      have hne' : ∀ y ∈ l1 ++ l2, y.i ≠ x.i := fun y hy => by
        rcases List.mem_append.1 hy with h | h
        · exact (List.pairwise_append.1 hnd).2.2 y h x (by simp)
        · exact fun e => (List.pairwise_cons.1 (List.pairwise_append.1 hnd).2.1).1 y h e.symm
      refine hg.wpOp hxo ⟨hsz, hjun, hxd, hdown⟩ hS (fun w' hS' => ?_)
      have hsub : (l1 ++ l2).Sublist (l1 ++ x :: l2) := (List.sublist_cons_self x l2).append_left l1
      refine ih (l1 ++ l2) (listed.setIfInBounds x.i true) (a.put x.o.dst x.v) (by simp at hl ⊢; omega) (by simpa using hsz) ?_ (hnd.sublist hsub) ?_ (hpair.sublist hsub) ?_ ?_ hch' ?_ w' hS'
      · intro y hy
        obtain ⟨h1, h2⟩ := hent y (hsub.subset hy)
        exact ⟨h1, by rw [getD_set_ne true (Ne.symm (hne' y hy))]; exact h2⟩
      · intro k hk
        obtain ⟨hkx, hk'⟩ := getD_set_self hk
        obtain ⟨y, hy, rfl⟩ := hall k hk'
        refine ⟨y, ?_, rfl⟩
        rcases List.mem_append.1 hy with h | h
        · exact List.mem_append_left _ h
        · rcases List.mem_cons.1 h with rfl | h
          · exact absurd rfl hkx
          · exact List.mem_append_right _ h
      · intro m1 y m2 hm k hk
        have key : listed.getD k false = true ∨ (∃ z ∈ m1, z.i = k) ∨ x.i = k := by
          rcases List.append_eq_append_iff.1 hm with ⟨c, rfl, hc⟩ | ⟨c, rfl, hc⟩
          · rcases hord (l1 ++ x :: c) y m2 (by rw [hc]; simp) k hk with h | ⟨z, hz, rfl⟩
            · exact .inl h
            · simp only [List.mem_append, List.mem_cons] at hz
              rcases hz with h | rfl | h
              · exact .inr (.inl ⟨z, by simp [h], rfl⟩)
              · exact .inr (.inr rfl)
              · exact .inr (.inl ⟨z, by simp [h], rfl⟩)
          · cases c with
            | nil =>
              simp only [List.nil_append] at hc
              simp only [List.append_nil] at hord
              rcases hord (m1 ++ [x]) y m2 (by rw [← hc]; simp) k hk with h | ⟨z, hz, rfl⟩
              · exact .inl h
              · simp only [List.mem_append, List.mem_singleton] at hz
                rcases hz with h | rfl
                · exact .inr (.inl ⟨z, h, rfl⟩)
                · exact .inr (.inr rfl)
            | cons c0 c =>
              simp only [List.cons_append, List.cons.injEq] at hc
              obtain ⟨rfl, hc⟩ := hc
              rcases hord m1 y (c ++ x :: l2) (by simp) k hk with h | ⟨z, hz, rfl⟩
              · exact .inl h
              · exact .inr (.inl ⟨z, hz, rfl⟩)
        rcases key with h | h | rfl
        · exact .inl (getD_set_true h)
        · exact .inr h
        · refine .inl ?_
          have h2 := (hent x hx).2
          rcases Nat.lt_or_ge x.i listed.size with h' | h'
          · simp [h']
          · simp [Array.getElem?_eq_none h'] at h2
      · intro i hi k hk
        by_cases hix : i = x.i
        · subst hix; exact getD_set_true (hxd k hk)
        · rw [getD_set_ne false (Ne.symm hix)] at hi
          exact getD_set_true (hdown i hi k hk)
      · have e1 : sets (l1 ++ x :: l2) listed = sets (l1 ++ l2) (listed.setIfInBounds x.i true) := by
          rw [sets_comm x _ _ hne']
          clear hQ hputs hch hch' hg hent hnd hall hpair hord hl hne hx hj hjun hxd hxo hap hsub
          have : ∀ (l1 : List Ent) (b : Array Bool), (∀ y ∈ l1 ++ l2, y.i ≠ x.i) → sets (l1 ++ x :: l2) b = (sets (l1 ++ l2) b).setIfInBounds x.i true := by
            intro l1
            induction l1 with
            | nil => intro b h; simp only [List.nil_append, sets]; exact sets_comm x l2 b h
            | cons y r ih => intro b h; simp only [List.cons_append, sets]; exact ih _ (fun z hz => h z (List.mem_cons_of_mem _ hz))
          exact this l1 listed hne'
        rw [e1, hputs] at hQ
        exact hQ

def below (md : Region.Mode) (ops : Array Oper) : Nat → List Nat → List Nat
  | 0, s => s
  | i + 1, s => if s.contains i then below md ops i (s ++ deps md ops i) else below md ops i s

/-- The operations may be taken in the order of the text. -/
def textOk (md : Region.Mode) (ops : Array Oper) : Bool :=
  Region.noSelect ops && (List.range ops.size).all (fun j => (deps md ops j).all (fun k => decide (k < j))) &&
  (List.range ops.size).all (fun j => (List.range j).all fun i => (deps md ops j).contains i || match ops[i]?, ops[j]? with | some x, some y => x.apart ops y | _, _ => true)
/-- Number n waits for all that stand ahead of it. -/
def waitsAll (md : Region.Mode) (ops : Array Oper) (n : Nat) : Bool := (List.range n).all fun k => (below md ops n (deps md ops n)).contains k

theorem below_listed {listed : Array Bool} (hd : Down md ops listed) : ∀ (i : Nat) (s : List Nat),
    (∀ k ∈ s, listed.getD k false = true) → ∀ k ∈ below md ops i s, listed.getD k false = true
  | 0, s, h => h
  | i + 1, s, h => by
    unfold below
    split
    · rename_i hc
      exact below_listed hd i _ (fun k hk => by
        rcases List.mem_append.1 hk with h' | h'
        · exact h k h'
        · exact hd i (h i (by simpa using hc)) k h')
    · exact below_listed hd i s h

theorem getD_sets : ∀ (l : List Ent) (b : Array Bool) (j : Nat) (d : Bool), j < b.size → (sets l b).getD j d = if j ∈ l.map (·.i) then true else b.getD j d
  | [], b, j, d, h => by simp [sets]
  | x :: r, b, j, d, h => by
    simp only [sets]
    rw [getD_sets r _ j d (by simpa using h)]
    by_cases hj : j ∈ r.map (·.i)
    · rw [if_pos hj, if_pos (by simp only [List.map_cons]; exact List.mem_cons_of_mem _ hj)]
    · rw [if_neg hj]
      by_cases hx : x.i = j
      · subst hx; rw [if_pos (by simp)]; simp [h]
      · rw [if_neg (by simp only [List.map_cons, List.mem_cons, not_or]; exact ⟨fun e => hx e.symm, hj⟩)]
        exact getD_set_ne d hx

theorem wp_region_chain {id : Nat} {a : Act} {w : World} (hm : P.follows .mixedOrders = true) (hok : textOk .any ops = true) (hS : S (Array.replicate ops.size false) w.drew)
    (l : List Ent) (h1 : l.map (·.i) = List.range' 0 ops.size) (h2 : l.map (·.o) = ops.toList) (h3 : Chain P .any ops S l a)
    (h4 : ∀ L w', L.size = ops.size → (∀ j, j < ops.size → L.getD j false = true) → S L w' → Q .normal (puts l a) w') : (Code.region id ops true).wp P Q a w := by
  refine wp_region_any hm ?_
  simp only [textOk, Bool.and_eq_true, Bool.or_eq_true, List.all_eq_true, List.mem_range, decide_eq_true_eq] at hok
  obtain ⟨⟨hs, hlt⟩, hpr⟩ := hok
  have hlen : l.length = ops.size := by
    have := congrArg List.length h2
    simpa using this
  have hat : ∀ (j : Nat) (hj : j < l.length), l[j].i = j ∧ ops[j]? = some l[j].o := fun j hj => by
    constructor
    · have e1 : (l.map (·.i))[j]? = (List.range' 0 ops.size)[j]? := by rw [h1]
      simp only [List.getElem?_map, List.getElem?_eq_getElem hj, Option.map_some] at e1
      rw [List.getElem?_range' (by omega)] at e1
      simpa using e1
    · have e2 : (l.map (·.o))[j]? = (ops.toList)[j]? := by rw [h2]
      simp only [List.getElem?_map, List.getElem?_eq_getElem hj, Option.map_some] at e2
      simpa using e2.symm
  have hmem : ∀ x ∈ l, x.i < ops.size ∧ ops[x.i]? = some x.o := fun x hx => by
    obtain ⟨j, hj, rfl⟩ := List.getElem_of_mem hx
    obtain ⟨e1, e2⟩ := hat j hj
    rw [e1]; exact ⟨by omega, e2⟩
  have hdn : ∀ i k, k ∈ deps .any ops i → k < i := fun i k hk => by
    by_cases hi : i < ops.size
    · exact hlt i hi k hk
    · simp [deps, Array.getElem?_eq_none (Nat.le_of_not_lt hi)] at hk
  have hrep : ∀ j d, (Array.replicate ops.size false).getD j d = true → d = true := fun j d hd => by
    by_cases hj : j < ops.size
    · simp [hj] at hd
    · simpa [hj] using hd
  refine any_of_chain (P := P) (Q := Q) (md := .any) (S := S) (Region.noSelect_spec hs) ops.size l (Array.replicate ops.size false) a hlen (by simp) ?_ ?_ ?_ ?_ ?_ ?_ h3 ?_ w.drew hS
  · intro x hx
    obtain ⟨e1, e2⟩ := hmem x hx
    exact ⟨e2, by simp [e1]⟩
  · have : (l.map (·.i)).Pairwise (· ≠ ·) := by rw [h1]; exact List.nodup_range'
    exact List.pairwise_map.1 this
  · intro j hj
    have hjs : j < ops.size := by
      rcases Nat.lt_or_ge j ops.size with h' | h'
      · exact h'
      · simp [h'] at hj
    exact ⟨l[j]'(by omega), List.getElem_mem _, (hat j (by omega)).1⟩
  · rw [List.pairwise_iff_getElem]
    intro i j hi hj hij
    obtain ⟨e1, e2⟩ := hat i hi
    obtain ⟨e3, e4⟩ := hat j hj
    have := hpr j (by omega) i hij
    rw [e2, e4] at this
    rw [e1, e3]
    rcases this with h' | h'
    · exact .inl (by simpa using h')
    · exact .inr h'
  · intro l1 x l2 hl k hk
    right
    have hxi : x.i = l1.length := by
      have hj : l1.length < l.length := by rw [hl]; simp
      have := (hat l1.length hj).1
      simpa [hl] using this
    have hkx := hdn _ _ hk
    refine ⟨l[k]'(by rw [hl]; simp; omega), ?_, (hat k _).1⟩
    have hkl : k < l1.length := by omega
    simp only [hl]
    rw [List.getElem_append_left hkl]
    exact List.getElem_mem _
  · intro i hi; exact absurd (hrep i false hi) (by simp)
  · intro w1 hw1
    have hsz : (sets l (Array.replicate ops.size false)).size = ops.size := by
      have : ∀ (l : List Ent) (b : Array Bool), (sets l b).size = b.size := by
        intro l; induction l with
        | nil => intro b; rfl
        | cons x r ih => intro b; simp only [sets]; rw [ih]; simp
      rw [this]; simp
    exact h4 _ w1 hsz (fun j hj => by rw [getD_sets _ _ _ _ (by simpa using hj), if_pos (by rw [h1]; simpa using hj)]) hw1
end

/-- The world W with whatever blocks behind it. -/
def Ext (W w : World) : Prop := ∃ m d, w = W.ext m d
theorem Ext.of_below {W w : World} {m : Array Obj} {d : Nat} (h : ∃ m' d', w = (W.ext m d).ext m' d') : Ext W w := by
  obtain ⟨m', d', rfl⟩ := h
  exact ⟨_, _, World.ext_ext _ _ _ _ _⟩
theorem World.drew_is_ext (w : World) : w.drew = w.ext #[] (w.drawn + 1) := by unfold World.ext World.drew; rw [Array.append_empty]

section
variable {P : Program} {ops : Array Oper} {Q : Exit → Act → World → Prop} {W W2 : World} {F : Act → Prop} {o : Oper} {r : List Oper} {a : Act} {v : Value}

/-- In W, whatever has been made behind it, the operation gives v and makes no more than memory. -/
def G1 (P : Program) (W : World) (o : Oper) (v : Value) (a : Act) : Prop :=
  ∀ m d, match (execOp a.eval o).run P (W.ext m d) with
    | .ok (.value u) w' => u = v ∧ Ext W w'
    | .ok .skip w' => undef = v ∧ Ext W w'
    | .ok (.enter f args) w' => Calls P f args w' (fun e w'' => e = .returned v ∧ Ext W w'')
    | _ => False

def TextWalk (P : Program) (ops : Array Oper) (W : World) (F : Act → Prop) : List Oper → Act → Prop
  | [], a => F a
  | o :: r, a => ∃ v, ((Region.wanted o (yielded ops a.tmps) = true ∧ G1 P W o v a) ∨ (Region.wanted o (yielded ops a.tmps) = false ∧ v = undef)) ∧ TextWalk P ops W F r (a.put o.dst v)

def Chain1 (P : Program) (ops : Array Oper) (W : World) : List Ent → Act → Prop
  | [], _ => True
  | x :: r, a => ((Region.wanted x.o (yielded ops a.tmps) = true ∧ G1 P W x.o x.v a) ∨ (Region.wanted x.o (yielded ops a.tmps) = false ∧ x.v = undef)) ∧ Chain1 P ops W r (a.put x.o.dst x.v)

theorem walk_chain1 : ∀ (os : List Oper) (k : Nat) (a : Act), TextWalk P ops W F os a →
    ∃ l : List Ent, l.map (·.i) = List.range' k os.length ∧ l.map (·.o) = os ∧ Chain1 P ops W l a ∧ F (puts l a)
  | [], k, a, h => ⟨[], by simp, rfl, trivial, h⟩
  | o :: r, k, a, ⟨v, hg, h⟩ => by
    obtain ⟨l, h1, h2, h3, h4⟩ := walk_chain1 r (k + 1) _ h
    exact ⟨⟨k, o, v⟩ :: l, by simp [h1, List.range'_succ], by simp [h2], ⟨hg, h3⟩, h4⟩

theorem chain_of_chain1 {S : Array Bool → World → Prop} : ∀ (l : List Ent) (a : Act),
    (∀ x ∈ l, ∀ L w, Now .any ops x.i L → (S L w ↔ Ext W w) ∧ (S (L.setIfInBounds x.i true) w ↔ Ext W w)) → Chain1 P ops W l a → Chain P .any ops S l a
  | [], _, _, _ => trivial
  | x :: r, a, hx, ⟨h1, h2⟩ => by
    refine ⟨?_, chain_of_chain1 r _ (fun y hy => hx y (List.mem_cons_of_mem _ hy)) h2⟩
    have hx := hx x (List.mem_cons_self ..)
    rcases h1 with ⟨hw, hg⟩ | ⟨hw, hv⟩
    · refine .inl ⟨hw, fun L w hL hS => ?_⟩
      obtain ⟨m, d, rfl⟩ := (hx L w hL).1.1 hS
      have := hg m d
      generalize (execOp a.eval x.o).run P (W.ext m d) = r at *
      cases r with
      | halt y w' => exact this.elim
      | ok n w' =>
        cases n <;> try exact this.elim
        case value u => exact ⟨this.1, (hx L w' hL).2.2 this.2⟩
        case skip => exact ⟨this.1, (hx L w' hL).2.2 this.2⟩
        case enter f args => exact Calls.mono this fun e w'' he => ⟨he.1, (hx L w'' hL).2.2 he.2⟩
    · exact .inr ⟨hw, hv, fun L w hL hS => (hx L w hL).2.2 ((hx L w hL).1.1 hS)⟩

theorem text_val (hg : Region.wanted o (yielded ops a.tmps) = true) (h : ∀ m d, (execOp a.eval o).run P (W.ext m d) = .ok (.value v) (W.ext m d))
    (k : TextWalk P ops W F r (a.put o.dst v)) : TextWalk P ops W F (o :: r) a :=
  ⟨v, .inl ⟨hg, fun m d => by rw [h m d]; exact ⟨rfl, m, d, rfl⟩⟩, k⟩
theorem text_call {f : FuncId} {args : Array Value} (hg : Region.wanted o (yielded ops a.tmps) = true) (h : ∀ m d, (execOp a.eval o).run P (W.ext m d) = .ok (.enter f args) (W.ext m d))
    (hc : ∀ m d, Calls P f args (W.ext m d) (Pure v (W.ext m d)))
    (k : TextWalk P ops W F r (a.put o.dst v)) : TextWalk P ops W F (o :: r) a :=
  ⟨v, .inl ⟨hg, fun m d => by rw [h m d]; exact (hc m d).mono fun e w' ⟨he, hw⟩ => ⟨he, Ext.of_below hw⟩⟩, k⟩
theorem text_skip (hg : Region.wanted o (yielded ops a.tmps) = false) (k : TextWalk P ops W F r (a.put o.dst undef)) : TextWalk P ops W F (o :: r) a :=
  ⟨undef, .inr ⟨hg, rfl⟩, k⟩
theorem text_nil (k : F a) : TextWalk P ops W F [] a := k

theorem wp_region_ext {id : Nat} (hm : P.follows .mixedOrders = true) (hok : textOk .any ops = true)
    (h : ∀ F : Act → Prop, (∀ a', (∀ m d, Q .normal a' (W.ext m d)) → F a') → TextWalk P ops W F ops.toList a) : (Code.region id ops true).wp P Q a W := by
  obtain ⟨l, h1, h2, h3, h4⟩ := walk_chain1 _ 0 _ (h (fun a' => ∀ m d, Q .normal a' (W.ext m d)) (fun _ h => h))
  refine wp_region_chain (S := fun _ w => Ext W w) hm hok ⟨_, _, World.drew_is_ext W⟩ l (by simpa using h1) h2 (chain_of_chain1 l a (fun _ _ _ _ _ => ⟨Iff.rfl, Iff.rfl⟩) h3) ?_
  intro L w' _ _ ⟨m, d, hw⟩
  subst hw
  exact h4 m d

/-- A value that is there under a guard alone. -/
def gd (c : Bool) (v : Value) : Value := if c then v else undef
@[go_sem, simp] theorem gd_true (v : Value) : gd true v = v := rfl
/-- What a choice gives. -/
def pk (b : Bool) (x y : Value) : Value := if b then x else y
@[go_sem, simp] theorem pk_true (x y : Value) : pk true x y = x := rfl
@[go_sem, simp] theorem pk_false (x y : Value) : pk false x y = y := rfl
@[go_sem, simp] theorem pk_then {b c r : Bool} (h : b = c) : pk b (gd c (.bool r)) (.bool false) = .bool (b && r) := by subst h; cases b <;> rfl
@[go_sem, simp] theorem pk_else {b c r : Bool} (h : (!b) = c) : pk b (.bool true) (gd c (.bool r)) = .bool (b || r) := by subst h; cases b <;> rfl
@[go_sem, simp] theorem pk_bool {b x y : Bool} : pk b (.bool x) (.bool y) = .bool (if b then x else y) := by cases b <;> rfl
def pickVal (c x y : Value) : Sem Next := do pure (.value (if ← asBool c then x else y))
@[go_sem ↓] theorem execOp_pick (a : Act) (dst : Option Tmp) (c x y : Operand) (ty : TypeId) (pos : String) (after : Array Edge) (guard : Option (Nat × Bool)) :
    execOp a.eval { dst, op := .pick c x y, type := ty, pos, after, guard } = pickVal (a.eval c) (a.eval x) (a.eval y) := rfl
@[go_sem] theorem run_pickVal (b : Bool) (x y : Value) (w : World) : (pickVal (.bool b) x y).run P w = .ok (.value (pk b x y)) w := rfl
theorem wanted_t {j : Nat} {x : Bool} (hg : o.guard = some (j, true)) (h : ((ops[j]?).bind (·.dst)).bind (a.tmps[·]?) = some (.bool x)) : Region.wanted o (yielded ops a.tmps) = x := by
  unfold Region.wanted yielded; rw [hg]; simp [h]
theorem wanted_f {j : Nat} {x : Bool} (hg : o.guard = some (j, false)) (h : ((ops[j]?).bind (·.dst)).bind (a.tmps[·]?) = some (.bool x)) : Region.wanted o (yielded ops a.tmps) = !x := by
  unfold Region.wanted yielded; rw [hg]; cases x <;> simp [h]
theorem wanted_gt {j : Nat} {c x : Bool} (hg : o.guard = some (j, true)) (h : ((ops[j]?).bind (·.dst)).bind (a.tmps[·]?) = some (gd c (.bool x))) : Region.wanted o (yielded ops a.tmps) = (c && x) := by
  unfold Region.wanted yielded; rw [hg]; cases c <;> cases x <;> simp [h, gd, undef]
theorem wanted_gf {j : Nat} {c x : Bool} (hg : o.guard = some (j, false)) (h : ((ops[j]?).bind (·.dst)).bind (a.tmps[·]?) = some (gd c (.bool x))) : Region.wanted o (yielded ops a.tmps) = (c && !x) := by
  unfold Region.wanted yielded; rw [hg]; cases c <;> cases x <;> simp [h, gd, undef]
theorem text_if {c : Bool} (hg : Region.wanted o (yielded ops a.tmps) = c) (h : c = true → ∀ m d, (execOp a.eval o).run P (W.ext m d) = .ok (.value v) (W.ext m d))
    (k : TextWalk P ops W F r (a.put o.dst (gd c v))) : TextWalk P ops W F (o :: r) a := by
  cases c with
  | true => exact text_val hg (h rfl) k
  | false => exact text_skip hg k
theorem text_if_call {c : Bool} {f : FuncId} {args : Array Value} (hg : Region.wanted o (yielded ops a.tmps) = c) (h : c = true → ∀ m d, (execOp a.eval o).run P (W.ext m d) = .ok (.enter f args) (W.ext m d))
    (hc : c = true → ∀ m d, Calls P f args (W.ext m d) (Pure v (W.ext m d)))
    (k : TextWalk P ops W F r (a.put o.dst (gd c v))) : TextWalk P ops W F (o :: r) a := by
  cases c with
  | true => exact text_call hg (h rfl) (hc rfl) k
  | false => exact text_skip hg k

/-- The world at hand under a name. -/
theorem wp_gen {c : Code} (h : ∀ V, V = W → c.wp P Q a V) : c.wp P Q a W := h W rfl
theorem World.is_ext (w : World) : w = w.ext #[] w.drawn := by unfold World.ext; rw [Array.append_empty]
theorem Ext.refl (w : World) : Ext w w := ⟨_, _, World.is_ext w⟩
theorem Ext.ext {W w : World} (h : Ext W w) (m : Array Obj) (d : Nat) : Ext W (w.ext m d) := by
  obtain ⟨m', d', rfl⟩ := h
  exact ⟨_, _, World.ext_ext _ _ _ _ _⟩

/-- A region in the order of the text, by the same steps. -/
theorem wp_region_seq {id : Nat} (h : ∀ F : Act → Prop, (∀ a', (∀ m d, Q .normal a' (W.ext m d)) → F a') → TextWalk P ops W F ops.toList a) : (Code.region id ops false).wp P Q a W := by
  have key : ∀ (l : List Oper) (a : Act), TextWalk P ops W (fun a' => ∀ m d, Q .normal a' (W.ext m d)) l a → ∀ w, Ext W w → wpList P ops Q l a w := by
    intro l
    induction l with
    | nil => rintro a h w ⟨m, d, rfl⟩; exact h m d
    | cons o r ih =>
      rintro a ⟨v, hg, h⟩ w ⟨m, d, rfl⟩
      unfold wpList
      rcases hg with ⟨hw, hg⟩ | ⟨hw, hv⟩
      · rw [if_pos hw]
        refine .inl ?_
        have := hg m d
        unfold Oper.wp
        generalize (execOp a.eval o).run P (W.ext m d) = q at *
        cases q with
        | halt x w' => exact this.elim
        | ok n w' =>
          cases n <;> simp only [Oper.upon] at this ⊢
          case value u => obtain ⟨rfl, h2⟩ := this; exact ih _ h _ h2
          case skip => obtain ⟨h1, h2⟩ := this; rw [h1]; exact ih _ h _ h2
          case enter f args =>
            refine Calls.mono this fun e w'' he => ?_
            obtain ⟨rfl, h2⟩ := he
            exact ih _ h _ h2
      · rw [if_neg (by rw [hw]; simp)]
        rw [← hv]; exact ih _ h _ ⟨m, d, rfl⟩
  exact wp_region_list (key _ _ (h _ (fun _ h => h)) W ⟨_, _, World.is_ext W⟩)

/-- What stands behind the store: it gives the same ahead of it and behind it. -/
def TextBoth (P : Program) (ops : Array Oper) (W W2 : World) (F : Act → Prop) : List Oper → Act → Prop
  | [], a => F a
  | o :: r, a => ∃ v, ((Region.wanted o (yielded ops a.tmps) = true ∧ G1 P W o v a ∧ G1 P W2 o v a) ∨ (Region.wanted o (yielded ops a.tmps) = false ∧ v = undef)) ∧ TextBoth P ops W W2 F r (a.put o.dst v)
theorem both_val (hg : Region.wanted o (yielded ops a.tmps) = true) (h : ∀ w, (execOp a.eval o).run P w = .ok (.value v) w)
    (k : TextBoth P ops W W2 F r (a.put o.dst v)) : TextBoth P ops W W2 F (o :: r) a :=
  ⟨v, .inl ⟨hg, fun m d => by rw [h]; exact ⟨rfl, m, d, rfl⟩, fun m d => by rw [h]; exact ⟨rfl, m, d, rfl⟩⟩, k⟩
theorem both_nil (k : F a) : TextBoth P ops W W2 F [] a := k

def GiveBoth (P : Program) (ops : Array Oper) (W W2 : World) (x : Ent) (a : Act) : Prop :=
  (Region.wanted x.o (yielded ops a.tmps) = true ∧ G1 P W x.o x.v a ∧ G1 P W2 x.o x.v a) ∨ (Region.wanted x.o (yielded ops a.tmps) = false ∧ x.v = undef)
def ChainB (P : Program) (ops : Array Oper) (W W2 : World) : List Ent → Act → Prop
  | [], _ => True
  | x :: r, a => GiveBoth P ops W W2 x a ∧ ChainB P ops W W2 r (a.put x.o.dst x.v)
theorem walk_chainB : ∀ (os : List Oper) (k : Nat) (a : Act), TextBoth P ops W W2 F os a →
    ∃ l : List Ent, l.map (·.i) = List.range' k os.length ∧ l.map (·.o) = os ∧ ChainB P ops W W2 l a ∧ F (puts l a)
  | [], k, a, h => ⟨[], by simp, rfl, trivial, h⟩
  | o :: r, k, a, ⟨v, hg, h⟩ => by
    obtain ⟨l, h1, h2, h3, h4⟩ := walk_chainB r (k + 1) _ h
    exact ⟨⟨k, o, v⟩ :: l, by simp [h1, List.range'_succ], by simp [h2], ⟨hg, h3⟩, h4⟩

/-- The store itself: from W to W2. -/
def StoreStep (P : Program) (ops : Array Oper) (W : World) (o : Oper) (a : Act) (K : World → Prop) : Prop :=
  ∃ W2, Region.wanted o (yielded ops a.tmps) = true ∧ (∀ m d, ∃ m' d', (execOp a.eval o).run P (W.ext m d) = .ok .skip (W2.ext m' d')) ∧ K W2
theorem store_step {K : World → Prop} (hg : Region.wanted o (yielded ops a.tmps) = true) (h : ∀ m d, ∃ m' d', (execOp a.eval o).run P (W.ext m d) = .ok .skip (W2.ext m' d')) (k : K W2) :
    StoreStep P ops W o a K := ⟨W2, hg, h, k⟩

theorem chain_append {md : Region.Mode} {S : Array Bool → World → Prop} : ∀ (l1 l2 : List Ent) (a : Act), Chain P md ops S l1 a → Chain P md ops S l2 (puts l1 a) → Chain P md ops S (l1 ++ l2) a
  | [], _, _, _, h => h
  | x :: r, l2, a, ⟨h1, h2⟩, h => ⟨h1, chain_append r l2 _ h2 h⟩
theorem puts_append : ∀ (l1 l2 : List Ent) (a : Act), puts (l1 ++ l2) a = puts l2 (puts l1 a)
  | [], _, _ => rfl
  | x :: r, l2, a => puts_append r l2 _

/-- A region with one store, number n, that waits for all ahead of it; what stands behind it hangs on no memory. -/
theorem wp_region_store {id : Nat} (n : Nat) (hm : P.follows .mixedOrders = true) (hok : textOk .any ops = true) (hwa : waitsAll .any ops n = true) (hn : ops[n]? = some o)
    (h : ∀ F : Act → World → Prop, (∀ a' W2, (∀ m d, Q .normal a' (W2.ext m d)) → F a' W2) → ∀ G : Act → Prop,
      (∀ a', StoreStep P ops W o a' (fun W2 => TextBoth P ops W W2 (fun a'' => F a'' W2) (ops.toList.drop (n + 1)) (a'.put o.dst undef)) → G a') →
      TextWalk P ops W G (ops.toList.take n) a) :
    (Code.region id ops true).wp P Q a W := by
  have hns : n < ops.size := (Array.getElem?_eq_some_iff.1 hn).1
  obtain ⟨l1, a1, a2, a3, W2, hg, hst, hb⟩ := walk_chain1 _ 0 _ (h (fun a' W2 => ∀ m d, Q .normal a' (W2.ext m d)) (fun _ _ h => h) _ (fun _ h => h))
  obtain ⟨l2, b1, b2, b3, b4⟩ := walk_chainB _ (n + 1) _ hb
  let z : Ent := ⟨n, o, undef⟩
  let S : Array Bool → World → Prop := fun L w => Ext (if L.getD n false then W2 else W) w
  have ht : (ops.toList.take n).length = n := by simp; omega
  have hd : (ops.toList.drop (n + 1)).length = ops.size - (n + 1) := by simp
  rw [ht] at a1
  rw [hd] at b1
  simp only [waitsAll, List.all_eq_true, List.mem_range] at hwa
  have hbefore : ∀ x ∈ l1, ∀ L, Now .any ops x.i L → L.getD n false = false := fun x hx L hL => by
    have hxi : x.i < n := by
      have : x.i ∈ l1.map (·.i) := List.mem_map_of_mem hx
      rw [a1] at this; simp at this; omega
    cases hz : L.getD n false with
    | false => rfl
    | true =>
      exfalso
      have h1 := below_listed hL.2.2.2 n _ (hL.2.2.2 n hz) x.i (by simpa using hwa x.i hxi)
      have h2 := hL.2.1
      rcases Nat.lt_or_ge x.i L.size with h' | h'
      · simp [h'] at h1 h2; rw [h2] at h1; cases h1
      · simp [Array.getElem?_eq_none h'] at h1
  have c1 : Chain P .any ops S l1 a := chain_of_chain1 (W := W) l1 a (fun x hx L w hL => by
    have e := hbefore x hx L hL
    have hxi : x.i ≠ n := by
      have : x.i ∈ l1.map (·.i) := List.mem_map_of_mem hx
      rw [a1] at this; simp at this; omega
    have e2 : (L.setIfInBounds x.i true).getD n false = false := by rw [getD_set_ne false hxi]; exact e
    show (Ext (if L.getD n false then W2 else W) w ↔ _) ∧ (Ext (if (L.setIfInBounds x.i true).getD n false then W2 else W) w ↔ _)
    rw [e, e2]; exact ⟨Iff.rfl, Iff.rfl⟩) a3
  have cz : Gives P .any ops S z (puts l1 a) := .inl ⟨hg, fun L w hL hS => by
    have e : L.getD n false = false := by
      have h2 := hL.2.1
      rcases Nat.lt_or_ge n L.size with h' | h'
      · simp [z, h'] at h2 ⊢; exact h2
      · simp [Array.getElem?_eq_none h']
    have hs : Ext W w := by have : Ext (if L.getD n false then W2 else W) w := hS; rw [e] at this; exact this
    obtain ⟨m, d, rfl⟩ := hs
    obtain ⟨m', d', hz⟩ := hst m d
    show (match (execOp (puts l1 a).eval o).run P (W.ext m d) with
      | .ok (.value u) w' => u = z.v ∧ S (L.setIfInBounds z.i true) w'
      | .ok .skip w' => undef = z.v ∧ S (L.setIfInBounds z.i true) w'
      | .ok (.enter f args) w' => Calls P f args w' (fun e w'' => e = .returned z.v ∧ S (L.setIfInBounds z.i true) w'')
      | _ => False)
    rw [hz]
    refine ⟨rfl, ?_⟩
    have e2 : (L.setIfInBounds n true).getD n false = true := by
      have := hL.1
      simp [show n < L.size by omega]
    show Ext (if (L.setIfInBounds n true).getD n false then W2 else W) _
    rw [e2]; exact ⟨m', d', rfl⟩⟩
  have cb : ∀ (l : List Ent) (a : Act), (∀ x ∈ l, x.i ≠ n) → ChainB P ops W W2 l a → Chain P .any ops S l a := by
    intro l
    induction l with
    | nil => intro a _ _; trivial
    | cons x r ih =>
      intro a hne ⟨h1, h2⟩
      refine ⟨?_, ih _ (fun y hy => hne y (List.mem_cons_of_mem _ hy)) h2⟩
      have hxn := hne x (List.mem_cons_self ..)
      have key : ∀ (L : Array Bool) w, S (L.setIfInBounds x.i true) w ↔ S L w := fun L w => by
        show Ext (if (L.setIfInBounds x.i true).getD n false then W2 else W) w ↔ Ext (if L.getD n false then W2 else W) w
        rw [getD_set_ne false hxn]
      rcases h1 with ⟨hw, g1, g2⟩ | ⟨hw, hv⟩
      · refine .inl ⟨hw, fun L w hL hS => ?_⟩
        have gen : ∀ V : World, G1 P V x.o x.v a → Ext V w → (∀ w', Ext V w' → S L w') → match (execOp a.eval x.o).run P w with
            | .ok (.value u) w' => u = x.v ∧ S (L.setIfInBounds x.i true) w'
            | .ok .skip w' => undef = x.v ∧ S (L.setIfInBounds x.i true) w'
            | .ok (.enter f args) w' => Calls P f args w' (fun e w'' => e = .returned x.v ∧ S (L.setIfInBounds x.i true) w'')
            | _ => False := by
          rintro V g ⟨m, d, rfl⟩ hV
          have := g m d
          generalize (execOp a.eval x.o).run P (V.ext m d) = r at *
          cases r with
          | halt y w' => exact this.elim
          | ok n w' =>
            cases n <;> try exact this.elim
            case value u => exact ⟨this.1, (key L w').2 (hV _ this.2)⟩
            case skip => exact ⟨this.1, (key L w').2 (hV _ this.2)⟩
            case enter f args => exact Calls.mono this fun e w'' he => ⟨he.1, (key L w'').2 (hV _ he.2)⟩
        cases e : L.getD n false with
        | false =>
          have hS' : Ext (if L.getD n false then W2 else W) w := hS
          rw [e] at hS'
          exact gen W g1 hS' (fun w' h' => by show Ext (if L.getD n false then W2 else W) w'; rw [e]; exact h')
        | true =>
          have hS' : Ext (if L.getD n false then W2 else W) w := hS
          rw [e] at hS'
          exact gen W2 g2 hS' (fun w' h' => by show Ext (if L.getD n false then W2 else W) w'; rw [e]; exact h')
      · exact .inr ⟨hw, hv, fun L w hL hS => (key L w).2 hS⟩
  have hl2 : ∀ x ∈ l2, x.i ≠ n := fun x hx => by
    have : x.i ∈ l2.map (·.i) := List.mem_map_of_mem hx
    rw [b1] at this; simp at this; omega
  have hz0 : S (Array.replicate ops.size false) W.drew := by
    show Ext (if (Array.replicate ops.size false).getD n false then W2 else W) _
    rw [show (Array.replicate ops.size false).getD n false = false by simp [hns]]
    exact ⟨_, _, World.drew_is_ext W⟩
  have hsplit : ops.toList = ops.toList.take n ++ o :: ops.toList.drop (n + 1) := by
    have h0 : ops.toList[n]'(by simpa using hns) = o := by
      have := (Array.getElem?_eq_some_iff.1 hn).2
      simpa using this
    conv => lhs; rw [← List.take_append_drop n ops.toList]
    rw [List.drop_eq_getElem_cons (by simpa using hns), h0]
  refine wp_region_chain (S := S) hm hok hz0 (l1 ++ z :: l2) ?_ ?_ (chain_append l1 (z :: l2) a c1 ⟨cz, cb l2 _ hl2 b3⟩) ?_
  · rw [List.map_append, List.map_cons, a1, b1]
    show List.range' 0 n ++ n :: List.range' (n + 1) (ops.size - (n + 1)) = _
    have e1 : ops.size = n + (1 + (ops.size - (n + 1))) := by omega
    conv => rhs; rw [e1]
    rw [← List.range'_append_1, Nat.add_comm 1, List.range'_succ]
    simp
  · rw [List.map_append, List.map_cons, a2, b2]
    exact hsplit.symm
  · intro L w' hsz hall hS
    have hS' : Ext (if L.getD n false then W2 else W) w' := hS
    rw [hall n hns] at hS'
    obtain ⟨m, d, rfl⟩ := hS'
    rw [puts_append]
    exact b4 m d
end
end Go
