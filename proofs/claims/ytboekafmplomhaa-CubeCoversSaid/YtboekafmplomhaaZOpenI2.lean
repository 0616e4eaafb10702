/-
  From the contract of a law's call to the given statement: what holds of every law.
-/
import Derived.Test.YtboekafmplomhaaZT
import Derived.ProofKit
import Derived.Lib.SmallJoins
import Derived.Test.YtboekafmplomhaaZLund
import Derived.Deep.Slices
import Derived.Test.YtboekafmplomhaaZDoes
set_option linter.unusedVariables false
set_option linter.unusedSimpArgs false
namespace Go
open Go.ChangeShapes Go.WideShapes Go.ChangeAt Go.RowKit Go.Joins Go.Deep

section
variable {H : Type} {enc : TypeId × Value → H} {P : Program}

theorem trodAll_below (hl : laidOutB P = true) {W W' : World} (hb : Below W.heap.size W W') : ∀ (ts : List TypeId) (vs : List Value) (ds : List (DataW H)) (ps : List MemPlace),
    (∀ t ∈ ts, P.readableRec t = true ∧ t < P.types.size) → (∀ x ∈ ps, x.block < W.heap.size) →
    DataW.TrodAll enc P W 0 (fun _ => true) true ts vs ds ps → DataW.TrodAll enc P W' 0 (fun b => decide (b < W.heap.size)) true ts vs ds ps
  | [], [], [], ps, _, _, h => h
  | t :: ts, v :: vs, d :: ds, ps, ht, hp, ⟨p, q, h1, h2, h3⟩ => by
    subst h3
    refine ⟨p, q, Below.trod hl (ht t (List.mem_cons_self ..)).1 (ht t (List.mem_cons_self ..)).2 h1 hb (fun x hx => hp x (List.mem_append_left _ hx)), ?_, rfl⟩
    exact trodAll_below hl hb ts vs ds q (fun t' h' => ht t' (List.mem_cons_of_mem _ h')) (fun x hx => hp x (List.mem_append_right _ hx)) h2
  | [], [], _ :: _, _, _, _, h => h.elim
  | [], _ :: _, [], _, _, _, h => h.elim
  | [], _ :: _, _ :: _, _, _, _, h => h.elim
  | _ :: _, [], [], _, _, _, h => h.elim
  | _ :: _, [], _ :: _, _, _, _, h => h.elim
  | _ :: _, _ :: _, [], _, _, _, h => h.elim

/-- A law that answers true, and whose call makes no more than memory. -/
theorem law_post {f : Func} {s : ChangeSpec} {handsOn fresh : Bool} {W W' : World} {args : Array Value} {ds gs : List (DataW H)} {before : List MemPlace} {tb : TypeId}
    (hl : laidOutB P = true) (hr : ∀ t ∈ f.params.toList, P.readableRec t = true ∧ t < P.types.size) (hv : s.vars = []) (hres : f.resultTypes = #[tb]) (hbt : P.underlying tb = some .bool)
    (hW : DataW.Whole enc P f.params.toList s.vars false W args.toList ds gs before)
    (h1 : (s.fn H (ds ++ gs)).results = [.lit (.bool true)]) (h2 : (s.fn H (ds ++ gs)).args = ds) (h3 : (s.fn H (ds ++ gs)).vars = [])
    (hb : Below W.heap.size W W') : s.post enc P f false fresh handsOn false W args (.bool true) W' := by
  have hlt := fun p hp => hW.lt p hp
  have hW0 := hW
  obtain ⟨p, q, hA, hV, rfl, hfz, hnd⟩ := hW
  rw [hv] at hV
  obtain ⟨rfl, rfl⟩ := trodVars_none hV
  refine ⟨ds, [], p ++ [], [], p, [], hW0, ?_, ?_, ?_, hb.frame _, fun h => by cases h⟩
  · rw [h1, hres]
    exact ⟨[], [], ⟨1, by simp [DataW.trod, Value.cells, hbt]⟩, rfl, rfl⟩
  · rw [h2]
    exact trodAll_below hl hb _ _ _ _ hr (fun x hx => hlt x (List.mem_append_left _ hx)) hA
  · rw [h3, hv]; rfl

/-- An integer argument: its value, and its bounds by its kind. -/
theorem arg_i64 {t : TypeId} {v : Value} {d : DataW H} {ps : List MemPlace} {W : World} {base b0 : Nat} {sp : Nat → Bool} {hd : Bool} (ht : P.underlying t = some (.int .i64))
    (hv : Value.okWide P W .any b0 t v) (h : DataW.Trod enc P W base sp hd t v d ps) : ∃ n : Int, v = .int .i64 n ∧ -9223372036854775808 ≤ n ∧ n ≤ 9223372036854775807 := by
  obtain ⟨n, rfl, _, _, w⟩ := open_int ht hv h
  simp only [Lit.wf, Bool.and_eq_true, decide_eq_true_eq] at w
  have h1 : -9223372036854775808 ≤ n := w.1
  have h2 : n ≤ 9223372036854775807 := w.2
  exact ⟨n, rfl, h1, h2⟩
theorem arg_u8 {t : TypeId} {v : Value} {d : DataW H} {ps : List MemPlace} {W : World} {base b0 : Nat} {sp : Nat → Bool} {hd : Bool} (ht : P.underlying t = some (.int .u8))
    (hv : Value.okWide P W .any b0 t v) (h : DataW.Trod enc P W base sp hd t v d ps) : ∃ n : Int, v = .int .u8 n ∧ 0 ≤ n ∧ n ≤ 255 := by
  obtain ⟨n, rfl, _, _, w⟩ := open_int ht hv h
  simp only [Lit.wf, Bool.and_eq_true, decide_eq_true_eq] at w
  have h1 : 0 ≤ n := w.1
  have h2 : n ≤ 255 := w.2
  exact ⟨n, rfl, h1, h2⟩
end
end Go
set_option linter.unusedVariables false
set_option linter.unusedSimpArgs false
namespace Go.Proofs.Ytboekafmplomhaa
open Go.ChangeShapes Go.WideShapes Go.ChangeAt Go.RowKit Go.Joins Go.Deep

instance : Inhabited OpD := ⟨⟨0, 0, 0, 0, false⟩⟩

section
variable {H : Type} {enc : TypeId × Value → H} {W : World} {base b0 : Nat} {sp : Nat → Bool} {hd : Bool}

/-- An address at which a cell lies. -/
theorem addr_of_cell {a : Addr} {v : Value} (h : W.cell? a = some v) : a = ⟨a.block, a.off, none⟩ ∧ a.block < W.heap.size := by
  obtain ⟨b, off, spot⟩ := a
  have hs : spot = none := World.cell?_spot h
  subst hs
  refine ⟨rfl, ?_⟩
  rcases Nat.lt_or_ge b W.heap.size with h' | h'
  · exact h'
  · simp [World.cell?, Array.getElem?_eq_none h'] at h
theorem add_off (b off i : Nat) : (⟨b, off, none⟩ : Addr).add i = ⟨b, off + i, none⟩ := by
  unfold Addr.add
  by_cases e : i = 0 <;> simp [e]

/-- A slice whose elements' cells are told by an index. -/
theorem rd_of {len cap size : Nat} {a : Addr} {xs : List Value} (hc : len ≤ cap) (hm : len ≤ 9223372036854775807) (hsz : 0 < size) (hl : xs.length = len * size)
    (hcell : ∀ i, i < len → ∀ j, j < size → ∃ v, xs[i * size + j]? = some v ∧ W.cell? ((a.add (i * size)).add j) = some v) : Rd W size (.slice (some a) len cap) xs := by
  refine ⟨some a, len, cap, rfl, hc, hm, hl, fun hn => ?_⟩
  obtain ⟨v, _, hv⟩ := hcell 0 hn 0 hsz
  have h0 : W.cell? a = some v := by
    have e : (a.add (0 * size)).add 0 = a := by unfold Addr.add; simp
    rw [e] at hv; exact hv
  obtain ⟨e1, e2⟩ := addr_of_cell h0
  refine ⟨a.block, a.off, by rw [← e1], e2, fun j u hu => ?_⟩
  have hj : j < len * size := by rw [← hl]; exact (List.getElem?_eq_some_iff.1 hu).1
  have hd : j = (j / size) * size + j % size := by rw [Nat.mul_comm]; exact (Nat.div_add_mod j size).symm
  obtain ⟨v', hx, hv'⟩ := hcell (j / size) (Nat.div_lt_of_lt_mul (by rw [Nat.mul_comm]; exact hj)) (j % size) (Nat.mod_lt _ hsz)
  rw [← hd, hu] at hx
  cases hx
  rw [Go.Deep.add_add, ← hd, e1, add_off] at hv'
  exact hv'

set_option maxRecDepth 100000 in
theorem arg_ops {v : Value} {d : DataW H} {ps : List MemPlace} (hv : Value.okWide Try.prog W .any b0 22 v) (h : DataW.Trod enc Try.prog W base sp hd 22 v d ps) :
    ∃ (a : Option Addr) (cap : Nat) (l : List OpD), v = .slice a l.length cap ∧ l.length ≤ 9223372036854775807 ∧ Rd W 5 (.slice a l.length cap) (flatO l) := by
  obtain ⟨a0, len, cap, rfl⟩ := okWide_slice Try.underlying22 hv
  obtain ⟨fuel, hf⟩ := h
  rcases open_slice Try.underlying22 hf with ⟨hcs, hx⟩ | ⟨a, len', cap', m, n, D, Pl, hcs, _, hl, hm, hmm, hx, hi⟩
  · simp only [Value.cells] at hcs
    obtain ⟨rfl, rfl, rfl⟩ : a0 = none ∧ len = 0 ∧ cap = 0 := by simpa using hcs
    exact ⟨none, 0, [], rfl, Nat.zero_le _, none, 0, 0, rfl, Nat.le_refl _, Nat.zero_le _, rfl, fun h => absurd h (by omega)⟩
  · simp only [Value.cells] at hcs
    obtain ⟨rfl, rfl, rfl⟩ : a0 = some a ∧ len = len' ∧ cap = cap' := by simpa using hcs
    have hlm : len ≤ m := by rw [hmm]; split <;> omega
    have hel : ∀ i, i < len → ∃ o : OpD, ∀ j, j < 5 → ∃ v, [Value.int .i64 o.k, .int .i64 o.a, .int .i64 o.b, .int .i64 o.c, .bool o.on][j]? = some v ∧ W.cell? ((a.add (i * 5)).add j) = some v := by
      intro i hil
      obtain ⟨cs', hc, ht⟩ := hi i (by omega)
      have hC : Try.prog.cellsOf 30 = 5 := by kernel_rfl
      rw [hC] at hc
      obtain ⟨_, hcl, hat⟩ := World.cells?_some hc
      obtain ⟨xs, n', _, _, _, hlen, hg⟩ := DataW.trod_struct Try.underlying30 ht
      have hci : Try.prog.cellsOf 3 = 1 := by kernel_rfl
      have hcb : Try.prog.cellsOf 4 = 1 := by kernel_rfl
      match xs, hlen with
      | [y0, y1, y2, y3, y4], _ =>
        match cs', hcl with
        | [c0, c1, c2, c3, c4], _ =>
          have g0 := hg 0 _ rfl
          have g1 := hg 1 _ rfl
          have g2 := hg 2 _ rfl
          have g3 := hg 3 _ rfl
          have g4 := hg 4 _ rfl
          simp [hci, hcb] at g0 g1 g2 g3 g4
          obtain ⟨n0, q0, _, _⟩ := DataW.trod_int Try.underlying3 g0
          obtain ⟨n1, q1, _, _⟩ := DataW.trod_int Try.underlying3 g1
          obtain ⟨n2, q2, _, _⟩ := DataW.trod_int Try.underlying3 g2
          obtain ⟨n3, q3, _, _⟩ := DataW.trod_int Try.underlying3 g3
          obtain ⟨n4, q4, _⟩ := DataW.trod_bool Try.underlying4 g4
          simp at q0 q1 q2 q3 q4
          subst q0 q1 q2 q3 q4
          refine ⟨⟨n0, n1, n2, n3, n4⟩, fun j hj => ?_⟩
          have := hat j hj
          obtain ⟨v, hv⟩ : ∃ v, [Value.int .i64 n0, .int .i64 n1, .int .i64 n2, .int .i64 n3, .bool n4][j]? = some v := ⟨_, List.getElem?_eq_getElem (by simpa using hj)⟩
          exact ⟨v, hv, by rw [this, hv]⟩
    obtain ⟨f, hf'⟩ := choose_lt hel
    have hmax : len ≤ 9223372036854775807 := by unfold maxLen at hm; omega
    have hfl : ∀ (k : Nat) (l : List OpD) (i j : Nat), j < 5 → (flatO l)[i * 5 + j]? = (l[i]?).bind fun o => [Value.int .i64 o.k, .int .i64 o.a, .int .i64 o.b, .int .i64 o.c, .bool o.on][j]? := by
      intro _ l
      induction l with
      | nil => intro i j _; simp [flatO]
      | cons o r ih =>
        intro i j hj
        cases i with
        | zero =>
          rcases (show j = 0 ∨ j = 1 ∨ j = 2 ∨ j = 3 ∨ j = 4 by omega) with rfl | rfl | rfl | rfl | rfl <;> simp [flatO]
        | succ i =>
          have e : (i + 1) * 5 + j = i * 5 + j + 5 := by omega
          rw [e]
          simpa [flatO] using ih i j hj
    refine ⟨some a, cap, (List.range len).map f, by simp, by rw [List.length_map, List.length_range]; exact hmax, ?_⟩
    rw [List.length_map, List.length_range]
    refine rd_of hl hmax (by omega) (by rw [flatO_length]; simp) (fun i hil j hj => ?_)
    obtain ⟨v, h1, h2⟩ := hf' i hil j hj
    refine ⟨v, ?_, h2⟩
    rw [hfl 0 _ i j hj]
    simpa [hil] using h1
end
end Go.Proofs.Ytboekafmplomhaa
set_option linter.unusedVariables false
set_option linter.unusedSimpArgs false
namespace Go.Proofs.Ytboekafmplomhaa
open Go.ChangeShapes Go.WideShapes Go.ChangeAt Go.RowKit Go.Joins Go.Deep

section
variable {H : Type} {enc : TypeId × Value → H} {W : World} {base b0 : Nat} {sp : Nat → Bool} {hd : Bool}
set_option maxRecDepth 100000 in
theorem arg_ints {v : Value} {d : DataW H} {ps : List MemPlace} (hv : Value.okWide Try.prog W .any b0 28 v) (h : DataW.Trod enc Try.prog W base sp hd 28 v d ps) :
    ∃ (l : List Int), Rd W 1 v (ints l) := by
  obtain ⟨a0, len, cap, rfl⟩ := okWide_slice Try.underlying28 hv
  obtain ⟨fuel, hf⟩ := h
  rcases open_slice Try.underlying28 hf with ⟨hcs, hx⟩ | ⟨a, len', cap', m, n, D, Pl, hcs, _, hl, hm, hmm, hx, hi⟩
  · simp only [Value.cells] at hcs
    obtain ⟨rfl, rfl, rfl⟩ : a0 = none ∧ len = 0 ∧ cap = 0 := by simpa using hcs
    exact ⟨[], none, 0, 0, rfl, Nat.le_refl _, Nat.zero_le _, rfl, fun h => absurd h (by omega)⟩
  · simp only [Value.cells] at hcs
    obtain ⟨rfl, rfl, rfl⟩ : a0 = some a ∧ len = len' ∧ cap = cap' := by simpa using hcs
    have hlm : len ≤ m := by rw [hmm]; split <;> omega
    have hel : ∀ i, i < len → ∃ x : Int, W.cell? ((a.add (i * 1)).add 0) = some (.int .i64 x) := by
      intro i hil
      obtain ⟨cs', hc, ht⟩ := hi i (by omega)
      have hC : Try.prog.cellsOf 3 = 1 := by kernel_rfl
      rw [hC] at hc
      obtain ⟨_, hcl, hat⟩ := World.cells?_some hc
      match cs', hcl with
      | [c0], _ =>
        obtain ⟨n0, q0, _, _⟩ := DataW.trod_int Try.underlying3 ht
        simp at q0
        subst q0
        exact ⟨n0, hat 0 (by omega)⟩
    obtain ⟨f, hf'⟩ := choose_lt hel
    have hmax : len ≤ 9223372036854775807 := by unfold maxLen at hm; omega
    refine ⟨(List.range len).map f, rd_of hl hmax (by omega) (by simp [ints]) (fun i hil j hj => ?_)⟩
    obtain rfl : j = 0 := by omega
    exact ⟨_, by simp [ints, hil], hf' i hil⟩
end
end Go.Proofs.Ytboekafmplomhaa
set_option linter.unusedVariables false
set_option linter.unusedSimpArgs false
namespace Go.Proofs.Ytboekafmplomhaa
open Go.ChangeShapes Go.WideShapes Go.ChangeAt Go.RowKit Go.Joins Go.Deep

section
variable {H : Type} {enc : TypeId × Value → H} {W : World} {base b0 : Nat} {sp : Nat → Bool} {hd : Bool}
set_option maxRecDepth 100000 in
theorem arg_intsR {v : Value} {d : DataW H} {ps : List MemPlace} (hv : Value.okWide Try.prog W .any b0 28 v) (h : DataW.Trod enc Try.prog W base sp hd 28 v d ps) :
    ∃ (l : List Int), Rd W 1 v (ints l) ∧ ∀ x ∈ l, -9223372036854775808 ≤ x ∧ x ≤ 9223372036854775807 := by
  obtain ⟨a0, len, cap, rfl⟩ := okWide_slice Try.underlying28 hv
  obtain ⟨fuel, hf⟩ := h
  rcases open_slice Try.underlying28 hf with ⟨hcs, hx⟩ | ⟨a, len', cap', m, n, D, Pl, hcs, _, hl, hm, hmm, hx, hi⟩
  · simp only [Value.cells] at hcs
    obtain ⟨rfl, rfl, rfl⟩ : a0 = none ∧ len = 0 ∧ cap = 0 := by simpa using hcs
    exact ⟨[], ⟨none, 0, 0, rfl, Nat.le_refl _, Nat.zero_le _, rfl, fun h => absurd h (by omega)⟩, fun x hx => by simp at hx⟩
  · simp only [Value.cells] at hcs
    obtain ⟨rfl, rfl, rfl⟩ : a0 = some a ∧ len = len' ∧ cap = cap' := by simpa using hcs
    have hlm : len ≤ m := by rw [hmm]; split <;> omega
    have hel : ∀ i, i < len → ∃ x : Int, W.cell? ((a.add (i * 1)).add 0) = some (.int .i64 x) ∧ -9223372036854775808 ≤ x ∧ x ≤ 9223372036854775807 := by
      intro i hil
      obtain ⟨cs', hc, ht⟩ := hi i (by omega)
      have hC : Try.prog.cellsOf 3 = 1 := by kernel_rfl
      rw [hC] at hc
      obtain ⟨_, hcl, hat⟩ := World.cells?_some hc
      match cs', hcl with
      | [c0], _ =>
        obtain ⟨n0, q0, _, w⟩ := DataW.trod_int Try.underlying3 ht
        simp at q0
        subst q0
        simp only [Lit.wf, Bool.and_eq_true, decide_eq_true_eq] at w
        exact ⟨n0, hat 0 (by omega), w.1, w.2⟩
    obtain ⟨f, hf'⟩ := choose_lt hel
    have hmax : len ≤ 9223372036854775807 := by unfold maxLen at hm; omega
    refine ⟨(List.range len).map f, rd_of hl hmax (by omega) (by simp [ints]) (fun i hil j hj => ?_), fun x hx => ?_⟩
    · obtain rfl : j = 0 := by omega
      exact ⟨_, by simp [ints, hil], (hf' i hil).1⟩
    · obtain ⟨i, hi, rfl⟩ := List.mem_map.1 hx
      exact (hf' i (List.mem_range.1 hi)).2
end
end Go.Proofs.Ytboekafmplomhaa
