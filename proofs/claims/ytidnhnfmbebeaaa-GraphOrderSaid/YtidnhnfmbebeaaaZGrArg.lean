/-
  From the contract of a law's call to the given statement: what holds of every law.
-/
import Derived.Test.YtidnhnfmbebeaaaZT
import Derived.ProofKit
import Derived.Lib.SmallJoins
import Derived.Test.YtidnhnfmbebeaaaZGrJ
set_option linter.unusedVariables false
set_option linter.unusedSimpArgs false
namespace Go
open Go.ChangeShapes Go.WideShapes Go.ChangeAt Go.RowKit Go.Joins Go.Deep

section
variable {H : Type} {enc : TypeId × Value → H} {P : Program}

theorem trodAll_below (hl : laidOutB P = true) {W W' : World} (hb : Below W.heap.size W W') : ∀ (ts : List TypeId) (vs : List Value) (ds : List (DataW H)) (ps : List MemPlace),
    (∀ t ∈ ts, P.readableRec t = true ∧ t < P.types.size) → (∀ x ∈ ps, x.block < W.heap.size) →
    DataW.TrodAll enc P W 0 (fun _ => true) true ts vs ds ps → DataW.TrodAll enc P W' 0 (fun b => decide (b < W.heap.size)) true ts vs ds ps
  | [], [], [], ps, _, _, h => h
  | t :: ts, v :: vs, d :: ds, ps, ht, hp, ⟨p, q, h1, h2, h3⟩ => by
    subst h3
    refine ⟨p, q, Below.trod hl (ht t (List.mem_cons_self ..)).1 (ht t (List.mem_cons_self ..)).2 h1 hb (fun x hx => hp x (List.mem_append_left _ hx)), ?_, rfl⟩
    exact trodAll_below hl hb ts vs ds q (fun t' h' => ht t' (List.mem_cons_of_mem _ h')) (fun x hx => hp x (List.mem_append_right _ hx)) h2
  | [], [], _ :: _, _, _, _, h => h.elim
  | [], _ :: _, [], _, _, _, h => h.elim
  | [], _ :: _, _ :: _, _, _, _, h => h.elim
  | _ :: _, [], [], _, _, _, h => h.elim
  | _ :: _, [], _ :: _, _, _, _, h => h.elim
  | _ :: _, _ :: _, [], _, _, _, h => h.elim

/-- A law that answers true, and whose call makes no more than memory. -/
theorem law_post {f : Func} {s : ChangeSpec} {handsOn fresh : Bool} {W W' : World} {args : Array Value} {ds gs : List (DataW H)} {before : List MemPlace} {tb : TypeId}
    (hl : laidOutB P = true) (hr : ∀ t ∈ f.params.toList, P.readableRec t = true ∧ t < P.types.size) (hv : s.vars = []) (hres : f.resultTypes = #[tb]) (hbt : P.underlying tb = some .bool)
    (hW : DataW.Whole enc P f.params.toList s.vars false W args.toList ds gs before)
    (h1 : (s.fn H (ds ++ gs)).results = [.lit (.bool true)]) (h2 : (s.fn H (ds ++ gs)).args = ds) (h3 : (s.fn H (ds ++ gs)).vars = [])
    (hb : Below W.heap.size W W') : s.post enc P f false fresh handsOn false W args (.bool true) W' := by
  have hlt := fun p hp => hW.lt p hp
  have hW0 := hW
  obtain ⟨p, q, hA, hV, rfl, hfz, hnd⟩ := hW
  rw [hv] at hV
  obtain ⟨rfl, rfl⟩ := trodVars_none hV
  refine ⟨ds, [], p ++ [], [], p, [], hW0, ?_, ?_, ?_, hb.frame _, fun h => by cases h⟩
  · rw [h1, hres]
    exact ⟨[], [], ⟨1, by simp [DataW.trod, Value.cells, hbt]⟩, rfl, rfl⟩
  · rw [h2]
    exact trodAll_below hl hb _ _ _ _ hr (fun x hx => hlt x (List.mem_append_left _ hx)) hA
  · rw [h3, hv]; rfl

/-- An integer argument: its value, and its bounds by its kind. -/
theorem arg_i64 {t : TypeId} {v : Value} {d : DataW H} {ps : List MemPlace} {W : World} {base b0 : Nat} {sp : Nat → Bool} {hd : Bool} (ht : P.underlying t = some (.int .i64))
    (hv : Value.okWide P W .any b0 t v) (h : DataW.Trod enc P W base sp hd t v d ps) : ∃ n : Int, v = .int .i64 n ∧ -9223372036854775808 ≤ n ∧ n ≤ 9223372036854775807 := by
  obtain ⟨n, rfl, _, _, w⟩ := open_int ht hv h
  simp only [Lit.wf, Bool.and_eq_true, decide_eq_true_eq] at w
  have h1 : -9223372036854775808 ≤ n := w.1
  have h2 : n ≤ 9223372036854775807 := w.2
  exact ⟨n, rfl, h1, h2⟩
theorem arg_u8 {t : TypeId} {v : Value} {d : DataW H} {ps : List MemPlace} {W : World} {base b0 : Nat} {sp : Nat → Bool} {hd : Bool} (ht : P.underlying t = some (.int .u8))
    (hv : Value.okWide P W .any b0 t v) (h : DataW.Trod enc P W base sp hd t v d ps) : ∃ n : Int, v = .int .u8 n ∧ 0 ≤ n ∧ n ≤ 255 := by
  obtain ⟨n, rfl, _, _, w⟩ := open_int ht hv h
  simp only [Lit.wf, Bool.and_eq_true, decide_eq_true_eq] at w
  have h1 : 0 ≤ n := w.1
  have h2 : n ≤ 255 := w.2
  exact ⟨n, rfl, h1, h2⟩
end
end Go
set_option linter.unusedVariables false
set_option linter.unusedSimpArgs false
namespace Go.Proofs.Ytidnhnfmbebeaaa
open Go.ChangeShapes Go.WideShapes Go.ChangeAt Go.RowKit Go.Joins Go.Deep

instance : Inhabited StP := ⟨⟨default, default, []⟩⟩
instance : Inhabited StC := ⟨⟨slNil, slNil, slNil, []⟩⟩
section
variable {H : Type} {enc : TypeId × Value → H} {W : World} {base b0 : Nat} {sp : Nat → Bool} {hd : Bool}

/-- A slice of trees reads as cells. -/
theorem TrS.rdS {k : Nat} {e : TypeId} {size : Nat} {s : SL} (h : TrS enc W base sp hd k e size s) (hsz : 0 < size) :
    ∃ CS : Nat → List Value, (∀ i, (CS i).length = size) ∧ (∀ i, i < s.n → Tr enc W base sp hd k e (CS i)) ∧ RdS W size s ((List.range s.n).flatMap CS) := by
  obtain ⟨C, hC⟩ := choose_lt (p := fun i (cs : List Value) => ∃ b off, s.a = some ⟨b, off, none⟩ ∧ b < W.heap.size ∧ cs.length = size ∧ (∀ j v, cs[j]? = some v → W.cell? ⟨b, off + (i * size + j), none⟩ = some v) ∧ Tr enc W base sp hd k e cs) (fun i hi => by
    obtain ⟨b, off, cs, h1, h2, h3, h4, h5⟩ := h.2.2 i hi
    exact ⟨cs, b, off, h1, h2, h3, h4, h5⟩)
  have hlen : ∀ i, (if (C i).length = size then C i else List.replicate size undef).length = size := fun i => by
    split
    · assumption
    · simp
  have heq : ∀ i, i < s.n → (if (C i).length = size then C i else List.replicate size undef) = C i := fun i hi => by
    obtain ⟨b, off, h1, h2, h3, h4, h5⟩ := hC i hi
    rw [if_pos h3]
  refine ⟨fun i => if (C i).length = size then C i else List.replicate size undef, hlen, fun i hi => ?_, h.1, h.2.1, ?_, fun hn => ?_⟩
  · obtain ⟨b, off, h1, h2, h3, h4, h5⟩ := hC i hi
    show Tr enc W base sp hd k e (if (C i).length = size then C i else List.replicate size undef)
    rw [heq i hi]; exact h5
  · rw [flatMapG_len _ hlen]; simp
  · obtain ⟨b, off, h1, h2, h3, h4, h5⟩ := hC 0 hn
    refine ⟨b, off, h1, h2, fun j u hu => ?_⟩
    have hj : j < s.n * size := by
      have := (List.getElem?_eq_some_iff.1 hu).1
      rw [flatMapG_len _ hlen] at this
      simpa using this
    have hd : j = (j / size) * size + j % size := by rw [Nat.mul_comm]; exact (Nat.div_add_mod j size).symm
    have hq : j / size < s.n := Nat.div_lt_of_lt_mul (by rw [Nat.mul_comm]; exact hj)
    rw [hd, flatMapG_at _ hlen _ _ _ (Nat.mod_lt _ hsz)] at hu
    rw [List.getElem?_range hq] at hu
    simp only [Option.bind_some] at hu
    rw [heq _ hq] at hu
    obtain ⟨b', off', h1', h2', h3', h4', h5'⟩ := hC _ hq
    rw [h1] at h1'
    simp at h1'
    obtain ⟨rfl, rfl⟩ := h1'
    have := h4' _ _ hu
    rw [← hd] at this
    exact this
theorem map_zip_same {α β γ : Type} (f : α → β) (g : α → γ) : ∀ l : List α, (l.map f).zip (l.map g) = l.map (fun a => (f a, g a))
  | [] => rfl
  | a :: r => by simp [map_zip_same f g r]
theorem flatMap_map_same {α β : Type} (f : α → β) (g : β → List Value) : ∀ l : List α, (l.map f).flatMap g = l.flatMap (fun a => g (f a))
  | [] => rfl
  | a :: r => by simp [flatMap_map_same f g r]
theorem flatMap_same {α : Type} (f g : α → List Value) : ∀ l : List α, (∀ a ∈ l, f a = g a) → l.flatMap f = l.flatMap g
  | [], _ => rfl
  | a :: r, h => by
    rw [List.flatMap_cons, List.flatMap_cons, h a (by simp), flatMap_same f g r (fun b hb => h b (by simp [hb]))]

/-- A state's cases. -/
theorem cases_of {k : Nat} {s : SL} (h : TrS enc W base sp hd k 60 3 s) :
    ∃ (ys : List Value) (ds : List ByteArray), RdS W 3 s ys ∧ s.n = ds.length ∧ ∀ (i : Nat) (t : ByteArray), ds[i]? = some t → ∃ (b : Bool) (x : SL), ys[i * 3]? = some (.bool b) ∧ ys[i * 3 + 1]? = some x.v ∧ ys[i * 3 + 2]? = some (.string t) := by
  obtain ⟨CS, hl, ht, hr⟩ := h.rdS (by omega)
  obtain ⟨D, hD⟩ := choose_lt (p := fun i (t : ByteArray) => ∃ (b : Bool) (x : SL), CS i = [.bool b, x.v, .string t]) (n := s.n) (fun i hi => by
    obtain ⟨m, b, x, t, _, he, _⟩ := tr_Case (ht i hi)
    exact ⟨t, b, x, he⟩)
  refine ⟨_, (List.range s.n).map D, hr, by simp, fun i t hi => ?_⟩
  have hin : i < s.n := by
    have := (List.getElem?_eq_some_iff.1 hi).1
    simpa using this
  rw [List.getElem?_map, List.getElem?_range hin] at hi
  simp at hi
  obtain ⟨b, x, he⟩ := hD i hin
  rw [hi] at he
  have hat := fun j hj => flatMapG_at CS hl (List.range s.n) i j hj
  refine ⟨b, x, ?_, ?_, ?_⟩
  · have := hat 0 (by omega)
    rw [List.getElem?_range hin, Option.bind_some, he] at this
    exact this
  · have := hat 1 (by omega)
    rw [List.getElem?_range hin, Option.bind_some, he] at this
    exact this
  · have := hat 2 (by omega)
    rw [List.getElem?_range hin, Option.bind_some, he] at this
    exact this
/-- A program's states. -/
theorem sts_of {k : Nat} {s : SL} (h : TrS enc W base sp hd k 57 5 s) : ∃ sts, StsIs W s sts := by
  obtain ⟨CS, hl, ht, hr⟩ := h.rdS (by omega)
  obtain ⟨X, hX⟩ := choose_lt (p := fun i (x : StP × StC) => CS i = stCells x.1 x.2 ∧ StOk W x.1 x.2) (n := s.n) (fun i hi => by
    obtain ⟨m, nm, tk, ds, ks, cs, _, he, _, _, hcs⟩ := tr_State (ht i hi)
    obtain ⟨ys, dl, h1, h2, h3⟩ := cases_of hcs
    exact ⟨(⟨nm, ds, dl⟩, ⟨tk, ks, cs, ys⟩), he, h1, h2, h3⟩)
  refine ⟨(List.range s.n).map (fun i => (X i).1), (List.range s.n).map (fun i => (X i).2), by simp, ?_, fun i x c hx hc => ?_⟩
  · rw [map_zip_same, flatMap_map_same, ← flatMap_same CS _ (List.range s.n) (fun a ha => (hX a (by simpa using ha)).1)]
    exact hr
  · have hin : i < s.n := by
      have := (List.getElem?_eq_some_iff.1 hx).1
      simpa using this
    rw [List.getElem?_map, List.getElem?_range hin] at hx hc
    simp at hx hc
    rw [← hx, ← hc]
    exact (hX i hin).2

set_option maxRecDepth 100000 in
theorem arg_pg {v : Value} {d : DataW H} {ps : List MemPlace} (hv : Value.okWide Try.prog W .any b0 30 v) (h : DataW.Trod enc Try.prog W base sp hd 30 v d ps) :
    ∃ (p : PgS) (sts : List StP) (k : Nat), v = p.v ∧ StsIs W p.states sts ∧ PgT enc W base sp hd k p := by
  obtain ⟨l, rfl, hsz⟩ := okWide_struct Try.underlying30 hv
  obtain ⟨fuel, hf⟩ := h
  obtain ⟨cs⟩ := l
  simp only [Value.cells] at hf
  obtain ⟨m, heads, metas, states, acts, tabs, control, emit, _, he, h1, h2, h3, h4, h5, h6, h7⟩ := tr_Program (⟨_, hf⟩ : Tr enc W base sp hd fuel 30 cs)
  obtain ⟨sts, hs⟩ := sts_of h3
  exact ⟨⟨heads, metas, states, acts, tabs, control, emit⟩, sts, m, by rw [he], hs, ⟨h1, h2, h3, h4, h5, h6, h7⟩⟩
end
end Go.Proofs.Ytidnhnfmbebeaaa
