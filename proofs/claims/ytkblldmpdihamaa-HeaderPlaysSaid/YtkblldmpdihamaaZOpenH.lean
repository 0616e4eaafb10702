/-
  Arguments that are programs and packets.
-/
import Derived.Test.YtkblldmpdihamaaZLift
import Derived.Test.YtkblldmpdihamaaZOpenN
import Derived.Test.YtkblldmpdihamaaZHFits
import Derived.Test.YtkblldmpdihamaaZHeadC
import Derived.Deep.Slices
set_option linter.unusedVariables false
set_option linter.unusedSimpArgs false
namespace Go.Proofs.Ytkblldmpdihamaa
open Go.ChangeShapes Go.WideShapes Go.ChangeAt Go.RowKit Go.Joins Go.Deep

section
variable {H : Type} {enc : TypeId × Value → H} {W : World} {base b0 : Nat} {sp : Nat → Bool} {hd : Bool} {fuel : Nat} {cs : List Value} {x : DataW H × List MemPlace}

theorem haddr_of_cell {a : Addr} {v : Value} (h : W.cell? a = some v) : a = ⟨a.block, a.off, none⟩ ∧ a.block < W.heap.size := by
  obtain ⟨b, off, spot⟩ := a
  have hs : spot = none := World.cell?_spot h
  subst hs
  refine ⟨rfl, ?_⟩
  rcases Nat.lt_or_ge b W.heap.size with h' | h'
  · exact h'
  · simp [World.cell?, Array.getElem?_eq_none h'] at h
theorem hadd_off' (b off i : Nat) : (⟨b, off, none⟩ : Addr).add i = ⟨b, off + i, none⟩ := by
  unfold Addr.add
  by_cases e : i = 0 <;> simp [e]
/-- A slice whose elements' cells are told by an index. -/
theorem rdS_of {len cap size : Nat} {a : Addr} {xs : List Value} (hc : len ≤ cap) (hm : len ≤ 9223372036854775807) (hsz : 0 < size) (hl : xs.length = len * size)
    (hcell : ∀ i, i < len → ∀ j, j < size → ∃ v, xs[i * size + j]? = some v ∧ W.cell? ((a.add (i * size)).add j) = some v) : RdS W size ⟨some a, len, cap⟩ xs := by
  refine ⟨hc, hm, hl, fun hn => ?_⟩
  obtain ⟨v, _, hv⟩ := hcell 0 hn 0 hsz
  have h0 : W.cell? a = some v := by
    have e : (a.add (0 * size)).add 0 = a := by unfold Addr.add; simp
    rw [e] at hv; exact hv
  obtain ⟨e1, e2⟩ := haddr_of_cell h0
  refine ⟨a.block, a.off, by rw [← e1], e2, fun j u hu => ?_⟩
  have hj : j < len * size := by rw [← hl]; exact (List.getElem?_eq_some_iff.1 hu).1
  have hd : j = (j / size) * size + j % size := by rw [Nat.mul_comm]; exact (Nat.div_add_mod j size).symm
  obtain ⟨v', hx, hv'⟩ := hcell (j / size) (Nat.div_lt_of_lt_mul (by rw [Nat.mul_comm]; exact hj)) (j % size) (Nat.mod_lt _ hsz)
  rw [← hd, hu] at hx
  cases hx
  rw [Go.Deep.add_add, ← hd, e1, hadd_off'] at hv'
  exact hv'
theorem flatMap_at {α : Type} (f : α → List Value) {size : Nat} (hf : ∀ a, (f a).length = size) : ∀ (l : List α) (i j : Nat), j < size → (l.flatMap f)[i * size + j]? = (l[i]?).bind fun a => (f a)[j]? := by
  intro l
  induction l with
  | nil => intro i j _; simp
  | cons a r ih =>
    intro i j hj
    rw [List.flatMap_cons]
    cases i with
    | zero => rw [List.getElem?_append_left (by rw [hf]; omega)]; simp
    | succ i =>
      rw [List.getElem?_append_right (by rw [hf, Nat.add_mul]; omega), hf, show (i + 1) * size + j - size = i * size + j by rw [Nat.add_mul]; omega, ih i j hj]
      simp
theorem flatMap_len {α : Type} (f : α → List Value) {size : Nat} (hf : ∀ a, (f a).length = size) (l : List α) : (l.flatMap f).length = l.length * size := by
  induction l with
  | nil => simp
  | cons a r ih => rw [List.flatMap_cons, List.length_append, hf, ih, List.length_cons, Nat.add_mul]; omega
/-- Cells that read as a slice: what its elements are. -/
theorem trod_rows {α : Type} (f : α → List Value) (Q : α → Prop) {size : Nat} {t e : TypeId} (hsz : 0 < size) (hf : ∀ a, (f a).length = size) (ht : Try.prog.underlying t = some (.slice e)) (hce : Try.prog.cellsOf e = size)
    (hel : ∀ (fuel : Nat) (cs : List Value) (x : DataW H × List MemPlace), DataW.trod enc Try.prog W base sp hd fuel e cs = some x → ∃ a, cs = f a ∧ Q a)
    (h : DataW.trod enc Try.prog W base sp hd fuel t cs = some x) : ∃ (s : SL) (l : List α), cs = [s.v] ∧ RdS W size s (l.flatMap f) ∧ l.length = s.n ∧ ∀ a ∈ l, Q a := by
  rcases open_slice ht h with ⟨hcs, hx⟩ | ⟨a, len, cap, m, n, D, Pl, hcs, _, hl, hm, hmm, hx, hi⟩
  · exact ⟨⟨none, 0, 0⟩, [], hcs, ⟨Nat.le_refl _, by simp, by simp, fun h => by simp at h⟩, rfl, fun a ha => by simp at ha⟩
  · have hlm : len ≤ m := by rw [hmm]; split <;> omega
    have hel' : ∀ i, i < len → ∃ y : α, Q y ∧ ∀ j v, (f y)[j]? = some v → W.cell? ((a.add (i * size)).add j) = some v := by
      intro i hil
      obtain ⟨cs', hc, ht'⟩ := hi i (by omega)
      rw [hce] at hc
      obtain ⟨_, hcl, hat⟩ := World.cells?_some hc
      obtain ⟨y, hy, hq⟩ := hel _ _ _ ht'
      refine ⟨y, hq, fun j v hv => ?_⟩
      rw [← hy] at hv
      have hj : j < size := by have := (List.getElem?_eq_some_iff.1 hv).1; omega
      rw [hat j hj]; exact hv
    have hlist : ∀ k, k ≤ len → ∃ l : List α, l.length = k ∧ (∀ y ∈ l, Q y) ∧ ∀ i, i < k → ∃ y, l[i]? = some y ∧ ∀ j v, (f y)[j]? = some v → W.cell? ((a.add (i * size)).add j) = some v := by
      intro k
      induction k with
      | zero => intro _; exact ⟨[], rfl, fun y hy => by simp at hy, fun i hi => by omega⟩
      | succ k ih =>
        intro hk
        obtain ⟨l, l1, l2, l3⟩ := ih (by omega)
        obtain ⟨y, hq, hy⟩ := hel' k (by omega)
        refine ⟨l ++ [y], by simp [l1], fun z hz => ?_, fun i hi => ?_⟩
        · rw [List.mem_append] at hz
          rcases hz with hz | hz
          · exact l2 z hz
          · simp at hz; subst hz; exact hq
        · rcases Nat.lt_or_ge i k with h' | h'
          · obtain ⟨z, z1, z2⟩ := l3 i h'
            exact ⟨z, by rw [List.getElem?_append_left (by omega)]; exact z1, z2⟩
          · obtain rfl : i = k := by omega
            exact ⟨y, by rw [List.getElem?_append_right (by omega), l1]; simp, hy⟩
    obtain ⟨l, l1, l2, l3⟩ := hlist len (Nat.le_refl _)
    have hmax : len ≤ 9223372036854775807 := by unfold maxLen at hm; omega
    refine ⟨⟨some a, len, cap⟩, l, hcs, rdS_of hl hmax hsz (by rw [flatMap_len f hf, l1]) (fun i hil j hj => ?_), l1, l2⟩
    obtain ⟨y, y1, y2⟩ := l3 i hil
    have hfy := hf y
    refine ⟨(f y)[j]'(by omega), ?_, y2 j _ (List.getElem?_eq_getElem (by omega))⟩
    rw [flatMap_at f hf l i j hj, y1]
    simp
theorem trod_sl {t e : TypeId} (ht : Try.prog.underlying t = some (.slice e)) (h : DataW.trod enc Try.prog W base sp hd fuel t cs = some x) : ∃ s : SL, cs = [s.v] := by
  rcases open_slice ht h with ⟨hcs, _⟩ | ⟨a, len, cap, _, _, _, _, hcs, _⟩
  · exact ⟨⟨none, 0, 0⟩, hcs⟩
  · exact ⟨⟨some a, len, cap⟩, hcs⟩
theorem c_int : Try.prog.cellsOf 3 = 1 := by kernel_rfl
theorem c_bool : Try.prog.cellsOf 4 = 1 := by kernel_rfl
theorem c_u8 : Try.prog.cellsOf 5 = 1 := by kernel_rfl
theorem c_num : Try.prog.cellsOf 45 = 2 := by kernel_rfl
theorem c_u64 : Try.prog.cellsOf 43 = 1 := by kernel_rfl
theorem c_ints : Try.prog.cellsOf 23 = 1 := by kernel_rfl
theorem c_nums : Try.prog.cellsOf 37 = 1 := by kernel_rfl
theorem flat_one {α : Type} (f : α → Value) : ∀ l : List α, l.flatMap (fun a => [f a]) = l.map f
  | [] => rfl
  | a :: r => by rw [List.flatMap_cons, flat_one f r]; rfl
theorem trod_ints (h : DataW.trod enc Try.prog W base sp hd fuel 23 cs = some x) : ∃ (s : SL) (l : List Int), cs = [s.v] ∧ RdS W 1 s (ints l) ∧ InI64 l := by
  obtain ⟨s, l, h1, h2, _, h3⟩ := trod_rows (size := 1) (fun n : Int => [.int .i64 n]) (fun n => -9223372036854775808 ≤ n ∧ n ≤ 9223372036854775807) (by omega) (fun _ => rfl) Try.underlying23 c_int (fun fuel cs x hx => by
    obtain ⟨n, q, _, w⟩ := DataW.trod_int Try.underlying3 hx
    simp only [Lit.wf, Bool.and_eq_true, decide_eq_true_eq] at w
    exact ⟨n, q, w.1, w.2⟩) h
  rw [flat_one] at h2
  exact ⟨s, l, h1, h2, h3⟩
theorem trod_bytes (h : DataW.trod enc Try.prog W base sp hd fuel 34 cs = some x) : ∃ (s : SL) (l : List Nat), cs = [s.v] ∧ RdS W 1 s (byts l) ∧ ∀ y ∈ l, y < 256 := by
  obtain ⟨s, l, h1, h2, _, h3⟩ := trod_rows (size := 1) (fun n : Nat => [.int .u8 (n : Int)]) (fun n => n < 256) (by omega) (fun _ => rfl) Try.underlying34 c_u8 (fun fuel cs x hx => by
    obtain ⟨n, q, _, w⟩ := DataW.trod_int Try.underlying5 hx
    simp only [Lit.wf, Bool.and_eq_true, decide_eq_true_eq] at w
    have h1 : 0 ≤ n := w.1
    have h2 : n ≤ 255 := w.2
    exact ⟨n.toNat, by rw [q]; congr; omega, by omega⟩) h
  rw [flat_one] at h2
  exact ⟨s, l, h1, h2, h3⟩
theorem trod_bools (h : DataW.trod enc Try.prog W base sp hd fuel 35 cs = some x) : ∃ (s : SL) (l : List Bool), cs = [s.v] ∧ RdS W 1 s (bools l) := by
  obtain ⟨s, l, h1, h2, _, _⟩ := trod_rows (size := 1) (fun b : Bool => [.bool b]) (fun _ => True) (by omega) (fun _ => rfl) Try.underlying35 c_bool (fun fuel cs x hx => by
    obtain ⟨b, q, _⟩ := DataW.trod_bool Try.underlying4 hx
    exact ⟨b, q, trivial⟩) h
  rw [flat_one] at h2
  exact ⟨s, l, h1, h2⟩
theorem nums_flat : ∀ l : List (BitVec 128), l.flatMap (fun n => [Value.int .u64 (hi n), .int .u64 (lo n)]) = nums l
  | [] => rfl
  | n :: r => by rw [List.flatMap_cons, nums_flat r]; rfl
theorem trod_nums (h : DataW.trod enc Try.prog W base sp hd fuel 37 cs = some x) : ∃ (s : SL) (l : List (BitVec 128)), cs = [s.v] ∧ RdS W 2 s (nums l) := by
  obtain ⟨s, l, h1, h2, _, _⟩ := trod_rows (size := 2) (fun n : BitVec 128 => [Value.int .u64 (hi n), .int .u64 (lo n)]) (fun _ => True) (by omega) (fun _ => rfl) Try.underlying37 c_num (fun fuel cs x hx => by
    obtain ⟨n, q⟩ := trod_num Try.underlying45 c_num rfl rfl rfl rfl Try.underlying43 c_u64 hx
    exact ⟨n, q, trivial⟩) h
  rw [nums_flat] at h2
  exact ⟨s, l, h1, h2⟩
theorem trod_heads (h : DataW.trod enc Try.prog W base sp hd fuel 22 cs = some x) : ∃ (s : SL) (hs : List (SL × List Int)), cs = [s.v] ∧ HeadsAre W s hs ∧ ∀ y ∈ hs, InI64 y.2 := by
  obtain ⟨s, l, h1, h2, _, h3⟩ := trod_rows (size := 1) (fun y : SL × List Int => [y.1.v]) (fun y => RdS W 1 y.1 (ints y.2) ∧ InI64 y.2) (by omega) (fun _ => rfl) Try.underlying22 c_ints (fun fuel cs x hx => by
    obtain ⟨s, l, q1, q2, q3⟩ := trod_ints hx
    exact ⟨(s, l), q1, q2, q3⟩) h
  rw [flat_one] at h2
  exact ⟨s, l, h1, ⟨h2, fun y hy => (h3 y hy).1⟩, fun y hy => (h3 y hy).2⟩
theorem trod_fields (h : DataW.trod enc Try.prog W base sp hd fuel 36 cs = some x) : ∃ (s : SL) (fs : List (SL × List (BitVec 128))), cs = [s.v] ∧ FieldsAre W s fs := by
  obtain ⟨s, l, h1, h2, _, h3⟩ := trod_rows (size := 1) (fun y : SL × List (BitVec 128) => [y.1.v]) (fun y => RdS W 2 y.1 (nums y.2)) (by omega) (fun _ => rfl) Try.underlying36 c_nums (fun fuel cs x hx => by
    obtain ⟨s, l, q1, q2⟩ := trod_nums hx
    exact ⟨(s, l), q1, q2⟩) h
  rw [flat_one] at h2
  exact ⟨s, l, h1, ⟨h2, fun y hy => h3 y hy⟩⟩
theorem c_prog : Try.prog.cellsOf 33 = 12 := by kernel_rfl
theorem c_packet : Try.prog.cellsOf 39 = 9 := by kernel_rfl
theorem c_sl1 : Try.prog.cellsOf 24 = 1 := by kernel_rfl
theorem c_sl2 : Try.prog.cellsOf 25 = 1 := by kernel_rfl
theorem c_sl3 : Try.prog.cellsOf 26 = 1 := by kernel_rfl
theorem c_sl4 : Try.prog.cellsOf 27 = 1 := by kernel_rfl
theorem c_sl5 : Try.prog.cellsOf 28 = 1 := by kernel_rfl
theorem c_sl6 : Try.prog.cellsOf 29 = 1 := by kernel_rfl
theorem c_sl7 : Try.prog.cellsOf 22 = 1 := by kernel_rfl
theorem c_sl8 : Try.prog.cellsOf 36 = 1 := by kernel_rfl
theorem c_sl9 : Try.prog.cellsOf 34 = 1 := by kernel_rfl
theorem c_sl10 : Try.prog.cellsOf 35 = 1 := by kernel_rfl
theorem c_names : Try.prog.cellsOf 31 = 5 := by kernel_rfl
theorem some_of {α : Type} {l : List α} {n i : Nat} (hl : l.length = n) (hi : i < n) : ∃ y, l[i]? = some y := ⟨l[i]'(by omega), List.getElem?_eq_getElem (by omega)⟩
set_option maxRecDepth 100000 in
theorem trod_names (h : DataW.trod enc Try.prog W base sp hd fuel 31 cs = some x) : ∃ s0 s1 s2 s3 s4 : SL, cs = [s0.v, s1.v, s2.v, s3.v, s4.v] := by
  obtain ⟨xs, n, _, _, hl, hx, hg⟩ := DataW.trod_struct Try.underlying31 h
  rw [c_names] at hl
  have g0 := hg 0 _ rfl
  have g1 := hg 1 _ rfl
  have g2 := hg 2 _ rfl
  have g3 := hg 3 _ rfl
  have g4 := hg 4 _ rfl
  have hx' : xs.length = 5 := hx
  obtain ⟨y0, e0⟩ := some_of (i := 0) hx' (by omega)
  obtain ⟨y1, e1⟩ := some_of (i := 1) hx' (by omega)
  obtain ⟨y2, e2⟩ := some_of (i := 2) hx' (by omega)
  obtain ⟨y3, e3⟩ := some_of (i := 3) hx' (by omega)
  obtain ⟨y4, e4⟩ := some_of (i := 4) hx' (by omega)
  rw [e0] at g0
  rw [e1] at g1
  rw [e2] at g2
  rw [e3] at g3
  rw [e4] at g4
  match cs, hl with
  | [a0, a1, a2, a3, a4], _ =>
    simp [c_sl5, c_sl6] at g0 g1 g2 g3 g4
    obtain ⟨s0, q0⟩ := trod_sl Try.underlying28 g0
    obtain ⟨s1, q1⟩ := trod_sl Try.underlying29 g1
    obtain ⟨s2, q2⟩ := trod_sl Try.underlying28 g2
    obtain ⟨s3, q3⟩ := trod_sl Try.underlying28 g3
    obtain ⟨s4, q4⟩ := trod_sl Try.underlying28 g4
    simp only [List.cons.injEq, and_true] at q0 q1 q2 q3 q4
    exact ⟨s0, s1, s2, s3, s4, by rw [q0, q1, q2, q3, q4]⟩
set_option maxRecDepth 100000 in
theorem arg_prog {v : Value} {d : DataW H} {ps : List MemPlace} (hv : Value.okWide Try.prog W .any b0 33 v) (h : DataW.Trod enc Try.prog W base sp hd 33 v d ps) :
    ∃ (p : PG) (hs : List (SL × List Int)) (ms es : List Int), v = p.v ∧ HeadsAre W p.heads hs ∧ RdS W 1 p.metas (ints ms) ∧ RdS W 1 p.emit (ints es) ∧ (∀ y ∈ hs, InI64 y.2) ∧ InI64 ms ∧ InI64 es := by
  obtain ⟨l, rfl, hsz⟩ := okWide_struct Try.underlying33 hv
  obtain ⟨fuel, hf⟩ := h
  obtain ⟨cs⟩ := l
  simp only [Value.cells] at hf
  obtain ⟨xs, n, _, _, hl, hx, hg⟩ := DataW.trod_struct Try.underlying33 hf
  rw [c_prog] at hl
  have g0 := hg 0 _ rfl
  have g1 := hg 1 _ rfl
  have g2 := hg 2 _ rfl
  have g3 := hg 3 _ rfl
  have g4 := hg 4 _ rfl
  have g5 := hg 5 _ rfl
  have g6 := hg 6 _ rfl
  have g7 := hg 7 _ rfl
  have hx' : xs.length = 8 := hx
  obtain ⟨y0, e0⟩ := some_of (i := 0) hx' (by omega)
  obtain ⟨y1, e1⟩ := some_of (i := 1) hx' (by omega)
  obtain ⟨y2, e2⟩ := some_of (i := 2) hx' (by omega)
  obtain ⟨y3, e3⟩ := some_of (i := 3) hx' (by omega)
  obtain ⟨y4, e4⟩ := some_of (i := 4) hx' (by omega)
  obtain ⟨y5, e5⟩ := some_of (i := 5) hx' (by omega)
  obtain ⟨y6, e6⟩ := some_of (i := 6) hx' (by omega)
  obtain ⟨y7, e7⟩ := some_of (i := 7) hx' (by omega)
  rw [e0] at g0
  rw [e1] at g1
  rw [e2] at g2
  rw [e3] at g3
  rw [e4] at g4
  rw [e5] at g5
  rw [e6] at g6
  rw [e7] at g7
  match cs, hl with
  | [a0, a1, a2, a3, a4, a5, a6, a7, a8, a9, a10, a11], _ =>
    simp [c_sl1, c_sl2, c_sl3, c_sl4, c_sl7, c_ints, c_names] at g0 g1 g2 g3 g4 g5 g6 g7
    obtain ⟨s0, hs, q0, H0, I0⟩ := trod_heads g0
    obtain ⟨s1, ms, q1, H1, I1⟩ := trod_ints g1
    obtain ⟨s2, q2⟩ := trod_sl Try.underlying24 g2
    obtain ⟨s3, q3⟩ := trod_sl Try.underlying25 g3
    obtain ⟨s4, q4⟩ := trod_sl Try.underlying26 g4
    obtain ⟨s5, q5⟩ := trod_sl Try.underlying27 g5
    obtain ⟨s6, es, q6, H6, I6⟩ := trod_ints g6
    obtain ⟨t0, t1, t2, t3, t4, q7⟩ := trod_names g7
    simp only [List.cons.injEq, and_true] at q0 q1 q2 q3 q4 q5 q6 q7
    obtain ⟨r0, r1, r2, r3, r4⟩ := q7
    exact ⟨⟨s0, s1, s2, s3, s4, s5, s6, t0, t1, t2, t3, t4⟩, hs, ms, es, by rw [q0, q1, q2, q3, q4, q5, q6, r0, r1, r2, r3, r4], H0, H1, H6, I0, I1, I6⟩
set_option maxRecDepth 100000 in
theorem arg_packet {v : Value} {d : DataW H} {ps : List MemPlace} (hv : Value.okWide Try.prog W .any b0 39 v) (h : DataW.Trod enc Try.prog W base sp hd 39 v d ps) :
    ∃ (k : PK) (l : List Nat) (va : List Bool) (fs : List (SL × List (BitVec 128))) (mt : List (BitVec 128)), v = k.v ∧ RdS W 1 k.rest (byts l) ∧ RdS W 1 k.valid (bools va) ∧ FieldsAre W k.fields fs ∧ RdS W 2 k.metas (nums mt) ∧ ∀ y ∈ l, y < 256 := by
  obtain ⟨l, rfl, hsz⟩ := okWide_struct Try.underlying39 hv
  obtain ⟨fuel, hf⟩ := h
  obtain ⟨cs⟩ := l
  simp only [Value.cells] at hf
  obtain ⟨xs, n, _, _, hl, hx, hg⟩ := DataW.trod_struct Try.underlying39 hf
  rw [c_packet] at hl
  have g0 := hg 0 _ rfl
  have g1 := hg 1 _ rfl
  have g2 := hg 2 _ rfl
  have g3 := hg 3 _ rfl
  have g4 := hg 4 _ rfl
  have g5 := hg 5 _ rfl
  have g6 := hg 6 _ rfl
  have g7 := hg 7 _ rfl
  have g8 := hg 8 _ rfl
  have hx' : xs.length = 9 := hx
  obtain ⟨y0, e0⟩ := some_of (i := 0) hx' (by omega)
  obtain ⟨y1, e1⟩ := some_of (i := 1) hx' (by omega)
  obtain ⟨y2, e2⟩ := some_of (i := 2) hx' (by omega)
  obtain ⟨y3, e3⟩ := some_of (i := 3) hx' (by omega)
  obtain ⟨y4, e4⟩ := some_of (i := 4) hx' (by omega)
  obtain ⟨y5, e5⟩ := some_of (i := 5) hx' (by omega)
  obtain ⟨y6, e6⟩ := some_of (i := 6) hx' (by omega)
  obtain ⟨y7, e7⟩ := some_of (i := 7) hx' (by omega)
  obtain ⟨y8, e8⟩ := some_of (i := 8) hx' (by omega)
  rw [e0] at g0
  rw [e1] at g1
  rw [e2] at g2
  rw [e3] at g3
  rw [e4] at g4
  rw [e5] at g5
  rw [e6] at g6
  rw [e7] at g7
  rw [e8] at g8
  match cs, hl with
  | [a0, a1, a2, a3, a4, a5, a6, a7, a8], _ =>
    simp [c_int, c_bool, c_sl8, c_sl9, c_sl10, c_nums] at g0 g1 g2 g3 g4 g5 g6 g7 g8
    obtain ⟨port, q0, _, _⟩ := DataW.trod_int Try.underlying3 g0
    obtain ⟨s1, l, q1, H1, I1⟩ := trod_bytes g1
    obtain ⟨s2, va, q2, H2⟩ := trod_bools g2
    obtain ⟨s3, fs, q3, H3⟩ := trod_fields g3
    obtain ⟨s4, mt, q4, H4⟩ := trod_nums g4
    obtain ⟨dr, q5, _⟩ := DataW.trod_bool Try.underlying4 g5
    obtain ⟨se, q6, _⟩ := DataW.trod_bool Try.underlying4 g6
    obtain ⟨eg, q7, _, _⟩ := DataW.trod_int Try.underlying3 g7
    obtain ⟨ac, q8, _⟩ := DataW.trod_bool Try.underlying4 g8
    simp only [List.cons.injEq, and_true] at q0 q1 q2 q3 q4 q5 q6 q7 q8
    exact ⟨⟨port, s1, s2, s3, s4, dr, se, eg, ac⟩, l, va, fs, mt, by rw [q0, q1, q2, q3, q4, q5, q6, q7, q8], H1, H2, H3, H4, I1⟩
end
end Go.Proofs.Ytkblldmpdihamaa
