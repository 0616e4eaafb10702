/-
  A region that draws its order and ends in a tail of forced order: the head is walked once, in the order of the text, the tail as it stands.
-/
import Derived.Test.YtidnhnfmbebeaaaZR
import Derived.StillTail
set_option linter.unusedVariables false
set_option linter.unusedSimpArgs false
namespace Go
open Go.RowKit

section
variable {P : Program} {ops : Array Oper} {Q : Exit → Act → World → Prop} {md : Region.Mode} {S : Array Bool → World → Prop}

/-- All from number n on wait for all that stand ahead of n. -/
def tailOk (md : Region.Mode) (ops : Array Oper) (n : Nat) : Bool :=
  (List.range ops.size).all fun t => decide (t < n) || (List.range n).all fun k => (below md ops t (deps md ops t)).contains k
theorem tail_unready {n : Nat} (ht : tailOk md ops n = true) {listed : Array Bool} (hd : Down md ops listed) {t : Nat} (hr : t ∈ Region.ready md ops listed) (hn : n ≤ t) :
    ∀ k, k < n → listed.getD k false = true := by
  intro k hk
  obtain ⟨_, o, ho, _⟩ := mem_ready.1 hr
  have hts : t < ops.size := (Array.getElem?_eq_some_iff.1 ho).1
  have hdt := ((ready_of ho).1 hr).2
  simp only [tailOk, List.all_eq_true, List.mem_range, Bool.or_eq_true, decide_eq_true_eq] at ht
  rcases ht t hts with h | h
  · omega
  · exact below_listed hd t _ hdt k (by simpa using h k hk)

theorem any_of_chain_to (hsel : ∀ (j : Nat) (o : Oper) cs b, ops[j]? = some o → o.op ≠ .select cs b) (n0 g : Nat) (ht : tailOk md ops n0 = true) :
    ∀ (n : Nat) (l : List Ent) (listed : Array Bool) (a : Act), l.length = n → listed.size = ops.size →
      (∀ x ∈ l, ops[x.i]? = some x.o ∧ listed.getD x.i true = false) → l.Pairwise (fun x y => x.i ≠ y.i) →
      (∀ j, j < n0 → listed.getD j true = false → ∃ x ∈ l, x.i = j) → (∀ x ∈ l, x.i < n0) →
      l.Pairwise (fun x y => x.i ∈ deps md ops y.i ∨ x.o.apart ops y.o = true) →
      (∀ l1 x l2, l = l1 ++ x :: l2 → ∀ k ∈ deps md ops x.i, listed.getD k false = true ∨ ∃ y ∈ l1, y.i = k) →
      Down md ops listed →
      Chain P md ops S l a → (∀ w, S (sets l listed) w → wpAny P md ops Q g (sets l listed) (puts l a) w) →
      ∀ w, S listed w → wpAny P md ops Q (n + g) listed a w := by
  intro n
  induction n with
  | zero =>
    intro l listed a hl hsz _ _ hall _ _ _ _ _ hQ w hS
    obtain rfl := List.length_eq_zero_iff.1 hl
    rw [Nat.zero_add]
    exact hQ w hS
  | succ n ih =>
    intro l listed a hl hsz hent hnd hall hbig hpair hord hdown hch hQ w hS
    have hne : l ≠ [] := fun e => by simp [e] at hl
    rw [show n + 1 + g = (n + g) + 1 by omega]
    refine ⟨fun h => ?_, fun j hj => ?_⟩
    · cases l with
      | nil => exact absurd rfl hne
      | cons x r =>
        have hx := hent x (List.mem_cons_self ..)
        have : x.i ∈ Region.ready md ops listed := (ready_of hx.1).2 ⟨hx.2, fun k hk => by
          rcases hord [] x r rfl k hk with h' | ⟨y, hy, _⟩
          · exact h'
          · cases hy⟩
        rw [h] at this; cases this
    · have hjun := (mem_ready.1 hj).1
      have hjn : j < n0 := by
        rcases Nat.lt_or_ge j n0 with h | h
        · exact h
        · exfalso
          cases l with
          | nil => exact hne rfl
          | cons x r =>
            have h1 := tail_unready ht hdown hj h x.i (hbig x (List.mem_cons_self ..))
            have h2 := (hent x (List.mem_cons_self ..)).2
            rcases Nat.lt_or_ge x.i listed.size with h' | h'
            · simp [h'] at h1 h2; rw [h2] at h1; cases h1
            · simp [Array.getElem?_eq_none h'] at h1
      obtain ⟨x, hx, rfl⟩ := hall j hjn hjun
      obtain ⟨l1, l2, rfl⟩ := List.append_of_mem hx
      have hxo := (hent x hx).1
      have hxd := ((ready_of hxo).1 hj).2
      have hap : ∀ y ∈ l1, ops[y.i]? = some y.o ∧ y.o.apart ops x.o = true := fun y hy => by
        refine ⟨(hent y (by simp [hy])).1, ?_⟩
        have := (List.pairwise_append.1 hpair).2.2 y hy x (by simp)
        rcases this with h | h
        · have h1 := hxd _ h
          have h2 := (hent y (by simp [hy])).2
          exfalso
          rcases Nat.lt_or_ge y.i listed.size with h' | h'
          · simp [h'] at h1 h2; rw [h2] at h1; cases h1
          · simp [Array.getElem?_eq_none h'] at h1
        · exact h
      obtain ⟨⟨hg, hch'⟩, hputs⟩ := chain_front hsel x hxo l2 l1 a hap hch
      have hne' : ∀ y ∈ l1 ++ l2, y.i ≠ x.i := fun y hy => by
        rcases List.mem_append.1 hy with h | h
        · exact (List.pairwise_append.1 hnd).2.2 y h x (by simp)
        · exact fun e => (List.pairwise_cons.1 (List.pairwise_append.1 hnd).2.1).1 y h e.symm
      refine hg.wpOp hxo ⟨hsz, hjun, hxd, hdown⟩ hS (fun w' hS' => ?_)
      have hsub : (l1 ++ l2).Sublist (l1 ++ x :: l2) := (List.sublist_cons_self x l2).append_left l1
      refine ih (l1 ++ l2) (listed.setIfInBounds x.i true) (a.put x.o.dst x.v) (by simp at hl ⊢; omega) (by simpa using hsz) ?_ (hnd.sublist hsub) ?_ ?_ (hpair.sublist hsub) ?_ ?_ hch' ?_ w' hS'
      · intro y hy
        obtain ⟨h1, h2⟩ := hent y (hsub.subset hy)
        exact ⟨h1, by rw [getD_set_ne true (Ne.symm (hne' y hy))]; exact h2⟩
      · intro k hkn hk
        obtain ⟨hkx, hk'⟩ := getD_set_self hk
        obtain ⟨y, hy, rfl⟩ := hall k hkn hk'
        refine ⟨y, ?_, rfl⟩
        rcases List.mem_append.1 hy with h | h
        · exact List.mem_append_left _ h
        · rcases List.mem_cons.1 h with rfl | h
          · exact absurd rfl hkx
          · exact List.mem_append_right _ h
      · intro y hy; exact hbig y (hsub.subset hy)
      · intro m1 y m2 hm k hk
        have key : listed.getD k false = true ∨ (∃ z ∈ m1, z.i = k) ∨ x.i = k := by
          rcases List.append_eq_append_iff.1 hm with ⟨c, rfl, hc⟩ | ⟨c, rfl, hc⟩
          · rcases hord (l1 ++ x :: c) y m2 (by rw [hc]; simp) k hk with h | ⟨z, hz, rfl⟩
            · exact .inl h
            · simp only [List.mem_append, List.mem_cons] at hz
              rcases hz with h | rfl | h
              · exact .inr (.inl ⟨z, by simp [h], rfl⟩)
              · exact .inr (.inr rfl)
              · exact .inr (.inl ⟨z, by simp [h], rfl⟩)
          · cases c with
            | nil =>
              simp only [List.nil_append] at hc
              simp only [List.append_nil] at hord
              rcases hord (m1 ++ [x]) y m2 (by rw [← hc]; simp) k hk with h | ⟨z, hz, rfl⟩
              · exact .inl h
              · simp only [List.mem_append, List.mem_singleton] at hz
                rcases hz with h | rfl
                · exact .inr (.inl ⟨z, h, rfl⟩)
                · exact .inr (.inr rfl)
            | cons c0 c =>
              simp only [List.cons_append, List.cons.injEq] at hc
              obtain ⟨rfl, hc⟩ := hc
              rcases hord m1 y (c ++ x :: l2) (by simp) k hk with h | ⟨z, hz, rfl⟩
              · exact .inl h
              · exact .inr (.inl ⟨z, hz, rfl⟩)
        rcases key with h | h | rfl
        · exact .inl (getD_set_true h)
        · exact .inr h
        · refine .inl ?_
          have h2 := (hent x hx).2
          rcases Nat.lt_or_ge x.i listed.size with h' | h'
          · simp [h']
          · simp [Array.getElem?_eq_none h'] at h2
      · intro i hi k hk
        by_cases hix : i = x.i
        · subst hix; exact getD_set_true (hxd k hk)
        · rw [getD_set_ne false (Ne.symm hix)] at hi
          exact getD_set_true (hdown i hi k hk)
      · have e1 : sets (l1 ++ x :: l2) listed = sets (l1 ++ l2) (listed.setIfInBounds x.i true) := by
          rw [sets_comm x _ _ hne']
          clear hQ hputs hch hch' hg hent hnd hall hpair hord hl hne hx hj hjun hxd hxo hap hsub hbig hjn
          have : ∀ (l1 : List Ent) (b : Array Bool), (∀ y ∈ l1 ++ l2, y.i ≠ x.i) → sets (l1 ++ x :: l2) b = (sets (l1 ++ l2) b).setIfInBounds x.i true := by
            intro l1
            induction l1 with
            | nil => intro b h; simp only [List.nil_append, sets]; exact sets_comm x l2 b h
            | cons y r ih => intro b h; simp only [List.cons_append, sets]; exact ih _ (fun z hz => h z (List.mem_cons_of_mem _ hz))
          exact this l1 listed hne'
        rw [e1, hputs] at hQ
        exact hQ

/-- The first n have come up, and no others. -/
def listedUpto (ops : Array Oper) (n : Nat) : Array Bool := ((List.range ops.size).map fun j => decide (j < n)).toArray
theorem sets_size : ∀ (l : List Ent) (b : Array Bool), (sets l b).size = b.size
  | [], _ => rfl
  | x :: r, b => by simp only [sets]; rw [sets_size r]; simp

theorem wp_region_chain_tail {id : Nat} {a : Act} {w : World} (n : Nat) (hm : P.follows .mixedOrders = true) (hok : textOk .any ops = true) (ht : tailOk .any ops n = true) (hn : decide (n ≤ ops.size) = true)
    (hseq : Region.seqB .any ops (ops.size - n) n (listedUpto ops n) = true) (hS : S (Array.replicate ops.size false) w.drew)
    (l : List Ent) (h1 : l.map (·.i) = List.range' 0 n) (h2 : l.map (·.o) = ops.toList.take n) (h3 : Chain P .any ops S l a)
    (h4 : ∀ L w', L.size = ops.size → (∀ j, j < n → L.getD j false = true) → S L w' → wpList P ops Q (ops.toList.drop n) (puts l a) w') : (Code.region id ops true).wp P Q a w := by
  refine wp_region_any hm ?_
  simp only [textOk, Bool.and_eq_true, Bool.or_eq_true, List.all_eq_true, List.mem_range, decide_eq_true_eq] at hok hn
  obtain ⟨⟨hs, hlt⟩, hpr⟩ := hok
  have hlen : l.length = n := by
    have := congrArg List.length h2
    simpa [hn] using this
  have hat : ∀ (j : Nat) (hj : j < l.length), l[j].i = j ∧ ops[j]? = some l[j].o := fun j hj => by
    constructor
    · have e1 : (l.map (·.i))[j]? = (List.range' 0 n)[j]? := by rw [h1]
      simp only [List.getElem?_map, List.getElem?_eq_getElem hj, Option.map_some] at e1
      rw [List.getElem?_range' (by omega)] at e1
      simpa using e1
    · have e2 : (l.map (·.o))[j]? = (ops.toList.take n)[j]? := by rw [h2]
      simp only [List.getElem?_map, List.getElem?_eq_getElem hj, Option.map_some] at e2
      rw [List.getElem?_take_of_lt (by omega)] at e2
      simpa using e2.symm
  have hmem : ∀ x ∈ l, x.i < n ∧ ops[x.i]? = some x.o := fun x hx => by
    obtain ⟨j, hj, rfl⟩ := List.getElem_of_mem hx
    obtain ⟨e1, e2⟩ := hat j hj
    rw [e1]; exact ⟨by omega, e2⟩
  have hdn : ∀ i k, k ∈ deps .any ops i → k < i := fun i k hk => by
    by_cases hi : i < ops.size
    · exact hlt i hi k hk
    · simp [deps, Array.getElem?_eq_none (Nat.le_of_not_lt hi)] at hk
  have hrep : ∀ j d, (Array.replicate ops.size false).getD j d = true → d = true := fun j d hd => by
    by_cases hj : j < ops.size
    · simp [hj] at hd
    · simpa [hj] using hd
  have hfin : sets l (Array.replicate ops.size false) = listedUpto ops n := by
    apply Array.ext
    · rw [sets_size]; simp [listedUpto]
    · intro j hj1 hj2
      rw [sets_size] at hj1
      have e := getD_sets l (Array.replicate ops.size false) j false hj1
      rw [h1] at e
      have hjs : j < ops.size := by simpa using hj1
      simp only [Array.getD_eq_getD_getElem?] at e
      rw [Array.getElem?_eq_getElem (by rw [sets_size]; exact hj1)] at e
      simp only [Option.getD_some] at e
      rw [e]
      simp [listedUpto, hjs]
  have key := any_of_chain_to (P := P) (Q := Q) (md := .any) (S := S) (Region.noSelect_spec hs) n (ops.size - n) ht n l (Array.replicate ops.size false) a hlen (by simp) (fun x hx => by
      obtain ⟨e1, e2⟩ := hmem x hx
      exact ⟨e2, by simp [show x.i < ops.size by omega]⟩) (by
      have : (l.map (·.i)).Pairwise (· ≠ ·) := by rw [h1]; exact List.nodup_range'
      exact List.pairwise_map.1 this) (fun j hj _ => ⟨l[j]'(by omega), List.getElem_mem _, (hat j (by omega)).1⟩) (fun x hx => (hmem x hx).1) (by
      rw [List.pairwise_iff_getElem]
      intro i j hi hj hij
      obtain ⟨e1, e2⟩ := hat i hi
      obtain ⟨e3, e4⟩ := hat j hj
      have := hpr j (by omega) i hij
      rw [e2, e4] at this
      rw [e1, e3]
      rcases this with h' | h'
      · exact .inl (by simpa using h')
      · exact .inr h') (by
      intro l1 x l2 hl k hk
      right
      have hxi : x.i = l1.length := by
        have hj : l1.length < l.length := by rw [hl]; simp
        have := (hat l1.length hj).1
        simpa [hl] using this
      have hkx := hdn _ _ hk
      refine ⟨l[k]'(by rw [hl]; simp; omega), ?_, (hat k _).1⟩
      have hkl : k < l1.length := by omega
      simp only [hl]
      rw [List.getElem_append_left hkl]
      exact List.getElem_mem _) (fun i hi => absurd (hrep i false hi) (by simp)) h3 (by
      intro w1 hw1
      have := h4 _ w1 (by rw [sets_size]; simp) (fun j hj => by rw [getD_sets _ _ _ _ (by simp; omega), if_pos (by rw [h1]; simpa using hj)]) hw1
      rw [hfin]
      have e : (ops.toList.drop n).length = ops.size - n := by simp
      have := wpAny_of_seq (P := P) (md := .any) (ops := ops) (ops.toList.drop n) n (listedUpto ops n) (puts l a) w1 (fun j => by simp [List.getElem?_drop]) (by rw [e]; exact hseq) this
      rw [e] at this
      exact this) w.drew hS
  rw [show n + (ops.size - n) = ops.size by omega] at key
  exact key
end

section
variable {P : Program} {ops : Array Oper} {Q : Exit → Act → World → Prop} {W W2 : World} {F : Act → Prop} {o : Oper} {r : List Oper} {a : Act} {v : Value}

/-- The head only reads, or makes memory; then the tail. -/
theorem wp_region_tail {id : Nat} (n : Nat) (hm : P.follows .mixedOrders = true) (hok : textOk .any ops = true) (ht : tailOk .any ops n = true) (hn : decide (n ≤ ops.size) = true)
    (hseq : Region.seqB .any ops (ops.size - n) n (listedUpto ops n) = true)
    (h : ∀ F : Act → Prop, (∀ a', (∀ m d, wpList P ops Q (ops.toList.drop n) a' (W.ext m d)) → F a') → TextWalk P ops W F (ops.toList.take n) a) : (Code.region id ops true).wp P Q a W := by
  obtain ⟨l, h1, h2, h3, h4⟩ := walk_chain1 _ 0 _ (h (fun a' => ∀ m d, wpList P ops Q (ops.toList.drop n) a' (W.ext m d)) (fun _ h => h))
  have hn' : n ≤ ops.size := by simpa using hn
  refine wp_region_chain_tail (S := fun _ w => Ext W w) n hm hok ht hn hseq ⟨_, _, World.drew_is_ext W⟩ l (by rw [h1]; simp [hn']) h2 (chain_of_chain1 l a (fun _ _ _ _ _ => ⟨Iff.rfl, Iff.rfl⟩) h3) ?_
  intro L w' _ _ ⟨m, d, hw⟩
  subst hw
  exact h4 m d

/-- In W, whatever has been drawn, the operation gives v and makes nothing. -/
def G0 (P : Program) (W : World) (o : Oper) (v : Value) (a : Act) : Prop :=
  ∀ d, match (execOp a.eval o).run P (W.ext #[] d) with
    | .ok (.value u) w' => u = v ∧ ∃ d', w' = W.ext #[] d'
    | .ok .skip w' => undef = v ∧ ∃ d', w' = W.ext #[] d'
    | .ok (.enter f args) w' => Calls P f args w' (fun e w'' => e = .returned v ∧ ∃ d', w'' = W.ext #[] d')
    | _ => False

/-- All but number z give the same ahead of z and behind it; z leads from W to W2. -/
def TextMake (P : Program) (ops : Array Oper) (W W2 : World) (z : Nat) (F : Act → Prop) : Nat → List Oper → Act → Prop
  | _, [], a => F a
  | k, o :: r, a => ∃ v, ((k ≠ z ∧ ((Region.wanted o (yielded ops a.tmps) = true ∧ G0 P W o v a ∧ G0 P W2 o v a) ∨ (Region.wanted o (yielded ops a.tmps) = false ∧ v = undef))) ∨
      (k = z ∧ Region.wanted o (yielded ops a.tmps) = true ∧ ∀ d, ∃ d', (execOp a.eval o).run P (W.ext #[] d) = .ok (.value v) (W2.ext #[] d'))) ∧ TextMake P ops W W2 z F (k + 1) r (a.put o.dst v)
theorem make_val {z k : Nat} (hk : decide (k ≠ z) = true) (hg : Region.wanted o (yielded ops a.tmps) = true) (h : ∀ d, (execOp a.eval o).run P (W.ext #[] d) = .ok (.value v) (W.ext #[] d)) (h2 : ∀ d, (execOp a.eval o).run P (W2.ext #[] d) = .ok (.value v) (W2.ext #[] d))
    (c : TextMake P ops W W2 z F (k + 1) r (a.put o.dst v)) : TextMake P ops W W2 z F k (o :: r) a :=
  ⟨v, .inl ⟨by simpa using hk, .inl ⟨hg, fun d => by rw [h]; exact ⟨rfl, d, rfl⟩, fun d => by rw [h2]; exact ⟨rfl, d, rfl⟩⟩⟩, c⟩
theorem make_call {z k : Nat} {f : FuncId} {args : Array Value} (hk : decide (k ≠ z) = true) (hg : Region.wanted o (yielded ops a.tmps) = true) (h : ∀ w, (execOp a.eval o).run P w = .ok (.enter f args) w)
    (hc : ∀ d, Calls P f args (W.ext #[] d) (fun e w'' => e = .returned v ∧ w'' = W.ext #[] d)) (hc2 : ∀ d, Calls P f args (W2.ext #[] d) (fun e w'' => e = .returned v ∧ w'' = W2.ext #[] d))
    (c : TextMake P ops W W2 z F (k + 1) r (a.put o.dst v)) : TextMake P ops W W2 z F k (o :: r) a :=
  ⟨v, .inl ⟨by simpa using hk, .inl ⟨hg, fun d => by rw [h]; exact (hc d).mono fun _ _ ⟨e, he⟩ => ⟨e, d, he⟩, fun d => by rw [h]; exact (hc2 d).mono fun _ _ ⟨e, he⟩ => ⟨e, d, he⟩⟩⟩, c⟩
theorem make_make {z : Nat} (hg : Region.wanted o (yielded ops a.tmps) = true) (h : ∀ d, ∃ d', (execOp a.eval o).run P (W.ext #[] d) = .ok (.value v) (W2.ext #[] d'))
    (c : TextMake P ops W W2 z F (z + 1) r (a.put o.dst v)) : TextMake P ops W W2 z F z (o :: r) a := ⟨v, .inr ⟨rfl, hg, h⟩, c⟩
theorem make_nil {z k : Nat} (c : F a) : TextMake P ops W W2 z F k [] a := c

def GiveMake (P : Program) (ops : Array Oper) (W W2 : World) (z : Nat) (x : Ent) (a : Act) : Prop :=
  (x.i ≠ z ∧ ((Region.wanted x.o (yielded ops a.tmps) = true ∧ G0 P W x.o x.v a ∧ G0 P W2 x.o x.v a) ∨ (Region.wanted x.o (yielded ops a.tmps) = false ∧ x.v = undef))) ∨
      (x.i = z ∧ Region.wanted x.o (yielded ops a.tmps) = true ∧ ∀ d, ∃ d', (execOp a.eval x.o).run P (W.ext #[] d) = .ok (.value x.v) (W2.ext #[] d'))
def ChainMake (P : Program) (ops : Array Oper) (W W2 : World) (z : Nat) : List Ent → Act → Prop
  | [], _ => True
  | x :: r, a => GiveMake P ops W W2 z x a ∧ ChainMake P ops W W2 z r (a.put x.o.dst x.v)
theorem walk_make {z : Nat} : ∀ (os : List Oper) (k : Nat) (a : Act), TextMake P ops W W2 z F k os a →
    ∃ l : List Ent, l.map (·.i) = List.range' k os.length ∧ l.map (·.o) = os ∧ ChainMake P ops W W2 z l a ∧ F (puts l a)
  | [], k, a, h => ⟨[], by simp, rfl, trivial, h⟩
  | o :: r, k, a, ⟨v, hg, h⟩ => by
    obtain ⟨l, h1, h2, h3, h4⟩ := walk_make r (k + 1) _ h
    exact ⟨⟨k, o, v⟩ :: l, by simp [h1, List.range'_succ], by simp [h2], ⟨hg, h3⟩, h4⟩

/-- The head reads, calls what changes nothing, and makes one block, at number z; then the tail. -/
theorem wp_region_make {id : Nat} (z n : Nat) (W2 : World) (hm : P.follows .mixedOrders = true) (hok : textOk .any ops = true) (ht : tailOk .any ops n = true) (hn : decide (z < n ∧ n ≤ ops.size) = true)
    (hseq : Region.seqB .any ops (ops.size - n) n (listedUpto ops n) = true)
    (h : ∀ F : Act → Prop, (∀ a', (∀ d, wpList P ops Q (ops.toList.drop n) a' (W2.ext #[] d)) → F a') → TextMake P ops W W2 z F 0 (ops.toList.take n) a) : (Code.region id ops true).wp P Q a W := by
  obtain ⟨l, h1, h2, h3, h4⟩ := walk_make _ 0 _ (h (fun a' => ∀ d, wpList P ops Q (ops.toList.drop n) a' (W2.ext #[] d)) (fun _ h => h))
  have hn' : z < n ∧ n ≤ ops.size := by simpa using hn
  let S : Array Bool → World → Prop := fun L w => ∃ d, w = (if L.getD z false then W2 else W).ext #[] d
  have hch : ∀ (l : List Ent) (a : Act), ChainMake P ops W W2 z l a → Chain P .any ops S l a := by
    intro l
    induction l with
    | nil => intro a _; trivial
    | cons x r ih =>
      rintro a ⟨hg, hr⟩
      refine ⟨?_, ih _ hr⟩
      rcases hg with ⟨hx, ⟨hw, g1, g2⟩ | ⟨hw, hv⟩⟩ | ⟨hx, hw, hv⟩
      · refine .inl ⟨hw, fun L w hL hS => ?_⟩
        have keep : ∀ w, S (L.setIfInBounds x.i true) w ↔ S L w := fun w => by
          show (∃ d, w = (if (L.setIfInBounds x.i true).getD z false then W2 else W).ext #[] d) ↔ _
          rw [getD_set_ne false hx]
        obtain ⟨d, rfl⟩ := hS
        have gen : ∀ V : World, G0 P V x.o x.v a → (∀ d, S L (V.ext #[] d)) → match (execOp a.eval x.o).run P (V.ext #[] d) with
            | .ok (.value u) w' => u = x.v ∧ S (L.setIfInBounds x.i true) w'
            | .ok .skip w' => undef = x.v ∧ S (L.setIfInBounds x.i true) w'
            | .ok (.enter f args) w' => Calls P f args w' (fun e w'' => e = .returned x.v ∧ S (L.setIfInBounds x.i true) w'')
            | _ => False := by
          intro V g hV
          have := g d
          generalize (execOp a.eval x.o).run P (V.ext #[] d) = q at *
          cases q with
          | halt y w' => exact this.elim
          | ok nx w' =>
            cases nx <;> try exact this.elim
            case value u => obtain ⟨h1, d', rfl⟩ := this; exact ⟨h1, (keep _).2 (hV d')⟩
            case skip => obtain ⟨h1, d', rfl⟩ := this; exact ⟨h1, (keep _).2 (hV d')⟩
            case enter f args => exact Calls.mono this fun e w'' ⟨h1, d', h2⟩ => ⟨h1, by subst h2; exact (keep _).2 (hV d')⟩
        cases e : L.getD z false with
        | false => exact gen W g1 (fun d => ⟨d, by simp [e]⟩)
        | true => exact gen W2 g2 (fun d => ⟨d, by simp [e]⟩)
      · exact .inr ⟨hw, hv, fun L w hL hS => by
          show ∃ d, w = (if (L.setIfInBounds x.i true).getD z false then W2 else W).ext #[] d
          rw [getD_set_ne false hx]; exact hS⟩
      · refine .inl ⟨hw, fun L w hL hS => ?_⟩
        have e : L.getD z false = false := by rw [← hx]; exact getD_both hL.2.1
        obtain ⟨d, rfl⟩ := hS
        rw [e]
        obtain ⟨d', hd⟩ := hv d
        simp only [Bool.false_eq_true, if_false]
        rw [hd]
        refine ⟨rfl, d', ?_⟩
        have hzs : z < L.size := by rw [hL.1]; omega
        rw [hx]
        simp [hzs]
  refine wp_region_chain_tail (S := S) n hm hok ht (by simpa using hn'.2) hseq ⟨W.drawn + 1, ?_⟩ l (by rw [h1]; simp [hn'.2]) h2 (hch l a h3) ?_
  · rw [show (Array.replicate ops.size false).getD z false = false by simp [show z < ops.size by omega]]
    exact World.drew_is_ext W
  · rintro L w' _ hall ⟨d, rfl⟩
    rw [hall z hn'.1]
    exact h4 d
end
end Go
