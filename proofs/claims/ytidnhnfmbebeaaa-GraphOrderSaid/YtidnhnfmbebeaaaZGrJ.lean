/-
  Trees in the caller's memory: what the judge's reading of an argument says of its cells.
-/
import Derived.Test.YtidnhnfmbebeaaaZGrM
import Derived.Deep.Slices
import Derived.Test.YtidnhnfmbebeaaaZGrB
set_option linter.unusedVariables false
set_option linter.unusedSimpArgs false
namespace Go.Proofs.Ytidnhnfmbebeaaa
open Go.ChangeShapes Go.WideShapes Go.RowKit Go.Deep

section
variable {H : Type} {enc : TypeId × Value → H} {W : World} {base : Nat} {sp : Nat → Bool} {hd : Bool}

/-- These cells read as a value of type t, in k steps. -/
def Tr {H : Type} (enc : TypeId × Value → H) (W : World) (base : Nat) (sp : Nat → Bool) (hd : Bool) (k : Nat) (t : TypeId) (cs : List Value) : Prop :=
  ∃ x, DataW.trod enc Try.prog W base sp hd k t cs = some x

theorem gaddr_of_cell {a : Addr} {v : Value} (h : W.cell? a = some v) : a = ⟨a.block, a.off, none⟩ ∧ a.block < W.heap.size := by
  obtain ⟨b, off, spot⟩ := a
  have hs : spot = none := World.cell?_spot h
  subst hs
  refine ⟨rfl, ?_⟩
  rcases Nat.lt_or_ge b W.heap.size with h' | h'
  · exact h'
  · simp [World.cell?, Array.getElem?_eq_none h'] at h
theorem gadd_off (b off i : Nat) : (⟨b, off, none⟩ : Addr).add i = ⟨b, off + i, none⟩ := by
  unfold Addr.add
  by_cases e : i = 0 <;> simp [e]

/-- The elements of a slice of trees. -/
def TrS {H : Type} (enc : TypeId × Value → H) (W : World) (base : Nat) (sp : Nat → Bool) (hd : Bool) (k : Nat) (e : TypeId) (size : Nat) (s : SL) : Prop :=
  s.n ≤ s.c ∧ s.n ≤ 9223372036854775807 ∧ ∀ i, i < s.n → ∃ (b off : Nat) (cs : List Value), s.a = some ⟨b, off, none⟩ ∧ b < W.heap.size ∧ cs.length = size ∧ (∀ j v, cs[j]? = some v → W.cell? ⟨b, off + (i * size + j), none⟩ = some v) ∧ Tr enc W base sp hd k e cs

theorem Tr.mono {a b : Nat} {t : TypeId} {cs : List Value} (h : Tr enc W base sp hd a t cs) (hab : a ≤ b) : Tr enc W base sp hd b t cs := by
  obtain ⟨x, h⟩ := h
  exact ⟨x, DataW.trod_le hab h⟩
theorem TrS.mono {a b : Nat} {e : TypeId} {size : Nat} {s : SL} (h : TrS enc W base sp hd a e size s) (hab : a ≤ b) : TrS enc W base sp hd b e size s := by
  refine ⟨h.1, h.2.1, fun i hi => ?_⟩
  obtain ⟨b', off, cs, h1, h2, h3, h4, h5⟩ := h.2.2 i hi
  exact ⟨b', off, cs, h1, h2, h3, h4, h5.mono hab⟩
theorem Tr.slice {k : Nat} {t e : TypeId} {size : Nat} {cs : List Value} (ht : Try.prog.underlying t = some (.slice e)) (hce : Try.prog.cellsOf e = size) (hsz : 0 < size) (h : Tr enc W base sp hd k t cs) :
    ∃ (s : SL) (m : Nat), m < k ∧ cs = [s.v] ∧ TrS enc W base sp hd m e size s := by
  obtain ⟨x, h⟩ := h
  have hk : 0 < k := by
    rcases Nat.eq_zero_or_pos k with e0 | e0
    · subst e0; simp [DataW.trod] at h
    · exact e0
  rcases DataW.trod_slice ht h with ⟨hcs, _⟩ | ⟨a, len, cap, elems, rest, n, hn, hcs, hx, hb, hl, hm, hlen, hel, _, _⟩
  · exact ⟨slNil, 0, hk, hcs, Nat.le_refl _, by simp [slNil], fun i hi => by simp [slNil] at hi⟩
  · refine ⟨⟨some a, len, cap⟩, n, by omega, hcs, hl, by unfold maxLen at hm; simp only; omega, fun i hi => ?_⟩
    have hi' : i < len := hi
    have he := hel i hi'
    rw [List.getElem?_eq_getElem (by omega), hce] at he
    obtain ⟨cs', hc, htr⟩ := Option.bind_eq_some_iff.1 he
    obtain ⟨_, hcl, hat⟩ := World.cells?_some hc
    have h00 := hel 0 (by omega)
    rw [List.getElem?_eq_getElem (by omega), hce] at h00
    obtain ⟨cs0, hc0, _⟩ := Option.bind_eq_some_iff.1 h00
    obtain ⟨_, hcl0, hat0⟩ := World.cells?_some hc0
    obtain ⟨v0, hv0⟩ : ∃ v, cs0[0]? = some v := ⟨cs0[0]'(by omega), List.getElem?_eq_getElem _⟩
    have hat00 := hat0 0 hsz
    rw [hv0] at hat00
    have e1 : (a.add (0 * size)).add 0 = a := by unfold Addr.add; simp
    rw [e1] at hat00
    obtain ⟨ha, hbl⟩ := gaddr_of_cell hat00
    refine ⟨a.block, a.off, cs', by rw [← ha], hbl, hcl, fun j v hv => ?_, _, htr⟩
    have hj : j < size := by have := (List.getElem?_eq_some_iff.1 hv).1; omega
    have := hat j hj
    rw [hv, Go.Deep.add_add, ha, gadd_off] at this
    exact this

theorem Tr.struct {k : Nat} {t : TypeId} {fs : Array Field} {cs : List Value} (ht : Try.prog.underlying t = some (.struct fs)) (h : Tr enc W base sp hd k t cs) :
    ∃ m, m < k ∧ cs.length = Try.prog.cellsOf t ∧ ∀ (i : Nat) (f : Field), fs[i]? = some f → Tr enc W base sp hd m f.type ((cs.drop f.offset).take (Try.prog.cellsOf f.type)) := by
  obtain ⟨x, h⟩ := h
  obtain ⟨xs, n, hn, _, hl, hx, hg⟩ := DataW.trod_struct ht h
  refine ⟨n, by omega, hl, fun i f hf => ?_⟩
  have hi : i < fs.size := (Array.getElem?_eq_some_iff.1 hf).1
  have := hg i f hf
  rw [List.getElem?_eq_getElem (by omega)] at this
  exact ⟨_, this⟩
theorem Tr.bool {k : Nat} {t : TypeId} {cs : List Value} (ht : Try.prog.underlying t = some .bool) (h : Tr enc W base sp hd k t cs) : ∃ b, cs = [.bool b] := by
  obtain ⟨x, h⟩ := h
  obtain ⟨b, q, _⟩ := DataW.trod_bool ht h
  exact ⟨b, q⟩
theorem Tr.int {k : Nat} {t : TypeId} {ki : IntKind} {cs : List Value} (ht : Try.prog.underlying t = some (.int ki)) (h : Tr enc W base sp hd k t cs) : ∃ n, cs = [.int ki n] := by
  obtain ⟨x, h⟩ := h
  obtain ⟨b, q, _⟩ := DataW.trod_int ht h
  exact ⟨b, q⟩
theorem Tr.str {k : Nat} {t : TypeId} {cs : List Value} (ht : Try.prog.underlying t = some .string) (h : Tr enc W base sp hd k t cs) : ∃ s : ByteArray, cs = [.string s] := by
  obtain ⟨x, h⟩ := h
  obtain ⟨b, q, _⟩ := DataW.trod_string ht h
  exact ⟨b, q⟩
end
end Go.Proofs.Ytidnhnfmbebeaaa
set_option linter.unusedVariables false
set_option linter.unusedSimpArgs false
namespace Go.Proofs.Ytidnhnfmbebeaaa
open Go.ChangeShapes Go.WideShapes Go.RowKit Go.Deep

section
variable {H : Type} {enc : TypeId × Value → H} {W : World} {base : Nat} {sp : Nat → Bool} {hd : Bool}

theorem ct_u64 : Try.prog.cellsOf 67 = 1 := by kernel_rfl
theorem ct_Num : Try.prog.cellsOf 69 = 2 := by kernel_rfl
theorem ct_int : Try.prog.cellsOf 3 = 1 := by kernel_rfl
theorem ct_Lit : Try.prog.cellsOf 71 = 3 := by kernel_rfl
theorem ct_u8 : Try.prog.cellsOf 5 = 1 := by kernel_rfl
theorem ct_str : Try.prog.cellsOf 9 = 1 := by kernel_rfl
theorem ct_sExpr : Try.prog.cellsOf 54 = 1 := by kernel_rfl
theorem ct_Expr : Try.prog.cellsOf 73 = 9 := by kernel_rfl
theorem ct_bool : Try.prog.cellsOf 4 = 1 := by kernel_rfl
theorem ct_sSet : Try.prog.cellsOf 58 = 1 := by kernel_rfl
theorem ct_Case : Try.prog.cellsOf 60 = 3 := by kernel_rfl
theorem ct_sstring : Try.prog.cellsOf 28 = 1 := by kernel_rfl
theorem ct_sCase : Try.prog.cellsOf 55 = 1 := by kernel_rfl
theorem ct_State : Try.prog.cellsOf 57 = 5 := by kernel_rfl
theorem ct_Field : Try.prog.cellsOf 98 = 2 := by kernel_rfl
theorem ct_sField : Try.prog.cellsOf 23 = 1 := by kernel_rfl
theorem ct_Header : Try.prog.cellsOf 65 = 2 := by kernel_rfl
theorem ct_sStmt : Try.prog.cellsOf 27 = 1 := by kernel_rfl
theorem ct_Stmt : Try.prog.cellsOf 89 = 14 := by kernel_rfl
theorem ct_Action : Try.prog.cellsOf 75 = 3 := by kernel_rfl
theorem ct_Key : Try.prog.cellsOf 83 = 10 := by kernel_rfl
theorem ct_sLit : Try.prog.cellsOf 77 = 1 := by kernel_rfl
theorem ct_Call : Try.prog.cellsOf 79 = 2 := by kernel_rfl
theorem ct_sKey : Try.prog.cellsOf 76 = 1 := by kernel_rfl
theorem ct_Table : Try.prog.cellsOf 81 = 5 := by kernel_rfl
theorem ct_sHeader : Try.prog.cellsOf 22 = 1 := by kernel_rfl
theorem ct_sState : Try.prog.cellsOf 24 = 1 := by kernel_rfl
theorem ct_sAction : Try.prog.cellsOf 25 = 1 := by kernel_rfl
theorem ct_sTable : Try.prog.cellsOf 26 = 1 := by kernel_rfl
theorem ct_Program : Try.prog.cellsOf 30 = 7 := by kernel_rfl
theorem ct_Set : Try.prog.cellsOf 127 = 7 := by kernel_rfl
set_option maxRecDepth 100000 in
theorem tr_Num {k : Nat} {cs : List Value} (h : Tr enc W base sp hd k 69 cs) :
    ∃ (m : Nat) (hi : Int) (lo : Int), m < k ∧ cs = [.int .u64 hi, .int .u64 lo] := by
  obtain ⟨m0, hm0, hl, hg⟩ := Tr.struct Try.underlying69 h
  rw [ct_Num] at hl
  have g0 := hg 0 _ rfl
  have g1 := hg 1 _ rfl
  match cs, hl with
  | [c0, c1], _ =>
    simp [ct_u64] at g0
    simp [ct_u64] at g1
    obtain ⟨x0, q0⟩ := Tr.int Try.underlying67 g0
    obtain ⟨x1, q1⟩ := Tr.int Try.underlying67 g1
    simp only [List.cons.injEq, and_true] at q0 q1
    refine ⟨m0, x0, x1, hm0, by simp [q0, q1]⟩
set_option maxRecDepth 100000 in
theorem tr_Lit {k : Nat} {cs : List Value} (h : Tr enc W base sp hd k 71 cs) :
    ∃ (m : Nat) (w : Int) (n_hi : Int) (n_lo : Int), m < k ∧ cs = [.int .i64 w, .int .u64 n_hi, .int .u64 n_lo] := by
  obtain ⟨m0, hm0, hl, hg⟩ := Tr.struct Try.underlying71 h
  rw [ct_Lit] at hl
  have g0 := hg 0 _ rfl
  have g1 := hg 1 _ rfl
  match cs, hl with
  | [c0, c1, c2], _ =>
    simp [ct_int] at g0
    simp [ct_Num] at g1
    obtain ⟨x0, q0⟩ := Tr.int Try.underlying3 g0
    obtain ⟨n1, y1_hi, y1_lo, l1, q1⟩ := tr_Num g1
    simp only [List.cons.injEq, and_true] at q0 q1
    refine ⟨m0, x0, y1_hi, y1_lo, hm0, by simp [q0, q1]⟩
set_option maxRecDepth 100000 in
theorem tr_Expr {k : Nat} {cs : List Value} (h : Tr enc W base sp hd k 73 cs) :
    ∃ (m : Nat) (op : Int) (lit_w : Int) (lit_n_hi : Int) (lit_n_lo : Int) (head : ByteArray) (name : ByteArray) (hi : Int) (lo : Int) (args : SL), m < k ∧ cs = [.int .u8 op, .int .i64 lit_w, .int .u64 lit_n_hi, .int .u64 lit_n_lo, .string head, .string name, .int .i64 hi, .int .i64 lo, args.v] ∧ TrS enc W base sp hd m 73 9 args := by
  obtain ⟨m0, hm0, hl, hg⟩ := Tr.struct Try.underlying73 h
  rw [ct_Expr] at hl
  have g0 := hg 0 _ rfl
  have g1 := hg 1 _ rfl
  have g2 := hg 2 _ rfl
  have g3 := hg 3 _ rfl
  have g4 := hg 4 _ rfl
  have g5 := hg 5 _ rfl
  have g6 := hg 6 _ rfl
  match cs, hl with
  | [c0, c1, c2, c3, c4, c5, c6, c7, c8], _ =>
    simp [ct_u8] at g0
    simp [ct_Lit] at g1
    simp [ct_str] at g2
    simp [ct_str] at g3
    simp [ct_int] at g4
    simp [ct_int] at g5
    simp [ct_sExpr] at g6
    obtain ⟨x0, q0⟩ := Tr.int Try.underlying5 g0
    obtain ⟨n1, y1_w, y1_n_hi, y1_n_lo, l1, q1⟩ := tr_Lit g1
    obtain ⟨x2, q2⟩ := Tr.str Try.underlying9 g2
    obtain ⟨x3, q3⟩ := Tr.str Try.underlying9 g3
    obtain ⟨x4, q4⟩ := Tr.int Try.underlying3 g4
    obtain ⟨x5, q5⟩ := Tr.int Try.underlying3 g5
    obtain ⟨x6, n6, l6, q6, t6⟩ := Tr.slice Try.underlying54 ct_Expr (by omega) g6
    simp only [List.cons.injEq, and_true] at q0 q1 q2 q3 q4 q5 q6
    refine ⟨m0, x0, y1_w, y1_n_hi, y1_n_lo, x2, x3, x4, x5, x6, hm0, by simp [q0, q1, q2, q3, q4, q5, q6], t6.mono (by omega)⟩
set_option maxRecDepth 100000 in
theorem tr_Case {k : Nat} {cs : List Value} (h : Tr enc W base sp hd k 60 cs) :
    ∃ (m : Nat) (dflt : Bool) (sets : SL) (dest : ByteArray), m < k ∧ cs = [.bool dflt, sets.v, .string dest] ∧ TrS enc W base sp hd m 127 7 sets := by
  obtain ⟨m0, hm0, hl, hg⟩ := Tr.struct Try.underlying60 h
  rw [ct_Case] at hl
  have g0 := hg 0 _ rfl
  have g1 := hg 1 _ rfl
  have g2 := hg 2 _ rfl
  match cs, hl with
  | [c0, c1, c2], _ =>
    simp [ct_bool] at g0
    simp [ct_sSet] at g1
    simp [ct_str] at g2
    obtain ⟨x0, q0⟩ := Tr.bool Try.underlying4 g0
    obtain ⟨x1, n1, l1, q1, t1⟩ := Tr.slice Try.underlying58 ct_Set (by omega) g1
    obtain ⟨x2, q2⟩ := Tr.str Try.underlying9 g2
    simp only [List.cons.injEq, and_true] at q0 q1 q2
    refine ⟨m0, x0, x1, x2, hm0, by simp [q0, q1, q2], t1.mono (by omega)⟩
set_option maxRecDepth 100000 in
theorem tr_State {k : Nat} {cs : List Value} (h : Tr enc W base sp hd k 57 cs) :
    ∃ (m : Nat) (name : ByteArray) (takes : SL) (dest : ByteArray) (keys : SL) (cases : SL), m < k ∧ cs = [.string name, takes.v, .string dest, keys.v, cases.v] ∧ TrS enc W base sp hd m 9 1 takes ∧ TrS enc W base sp hd m 73 9 keys ∧ TrS enc W base sp hd m 60 3 cases := by
  obtain ⟨m0, hm0, hl, hg⟩ := Tr.struct Try.underlying57 h
  rw [ct_State] at hl
  have g0 := hg 0 _ rfl
  have g1 := hg 1 _ rfl
  have g2 := hg 2 _ rfl
  have g3 := hg 3 _ rfl
  have g4 := hg 4 _ rfl
  match cs, hl with
  | [c0, c1, c2, c3, c4], _ =>
    simp [ct_str] at g0
    simp [ct_sstring] at g1
    simp [ct_str] at g2
    simp [ct_sExpr] at g3
    simp [ct_sCase] at g4
    obtain ⟨x0, q0⟩ := Tr.str Try.underlying9 g0
    obtain ⟨x1, n1, l1, q1, t1⟩ := Tr.slice Try.underlying28 ct_str (by omega) g1
    obtain ⟨x2, q2⟩ := Tr.str Try.underlying9 g2
    obtain ⟨x3, n3, l3, q3, t3⟩ := Tr.slice Try.underlying54 ct_Expr (by omega) g3
    obtain ⟨x4, n4, l4, q4, t4⟩ := Tr.slice Try.underlying55 ct_Case (by omega) g4
    simp only [List.cons.injEq, and_true] at q0 q1 q2 q3 q4
    refine ⟨m0, x0, x1, x2, x3, x4, hm0, by simp [q0, q1, q2, q3, q4], t1.mono (by omega), t3.mono (by omega), t4.mono (by omega)⟩
set_option maxRecDepth 100000 in
theorem tr_Field {k : Nat} {cs : List Value} (h : Tr enc W base sp hd k 98 cs) :
    ∃ (m : Nat) (name : ByteArray) (w : Int), m < k ∧ cs = [.string name, .int .i64 w] := by
  obtain ⟨m0, hm0, hl, hg⟩ := Tr.struct Try.underlying98 h
  rw [ct_Field] at hl
  have g0 := hg 0 _ rfl
  have g1 := hg 1 _ rfl
  match cs, hl with
  | [c0, c1], _ =>
    simp [ct_str] at g0
    simp [ct_int] at g1
    obtain ⟨x0, q0⟩ := Tr.str Try.underlying9 g0
    obtain ⟨x1, q1⟩ := Tr.int Try.underlying3 g1
    simp only [List.cons.injEq, and_true] at q0 q1
    refine ⟨m0, x0, x1, hm0, by simp [q0, q1]⟩
set_option maxRecDepth 100000 in
theorem tr_Header {k : Nat} {cs : List Value} (h : Tr enc W base sp hd k 65 cs) :
    ∃ (m : Nat) (name : ByteArray) (fields : SL), m < k ∧ cs = [.string name, fields.v] ∧ TrS enc W base sp hd m 98 2 fields := by
  obtain ⟨m0, hm0, hl, hg⟩ := Tr.struct Try.underlying65 h
  rw [ct_Header] at hl
  have g0 := hg 0 _ rfl
  have g1 := hg 1 _ rfl
  match cs, hl with
  | [c0, c1], _ =>
    simp [ct_str] at g0
    simp [ct_sField] at g1
    obtain ⟨x0, q0⟩ := Tr.str Try.underlying9 g0
    obtain ⟨x1, n1, l1, q1, t1⟩ := Tr.slice Try.underlying23 ct_Field (by omega) g1
    simp only [List.cons.injEq, and_true] at q0 q1
    refine ⟨m0, x0, x1, hm0, by simp [q0, q1], t1.mono (by omega)⟩
set_option maxRecDepth 100000 in
theorem tr_Stmt {k : Nat} {cs : List Value} (h : Tr enc W base sp hd k 89 cs) :
    ∃ (m : Nat) (kind : Int) (head : ByteArray) (name : ByteArray) (e_op : Int) (e_lit_w : Int) (e_lit_n_hi : Int) (e_lit_n_lo : Int) (e_head : ByteArray) (e_name : ByteArray) (e_hi : Int) (e_lo : Int) (e_args : SL) (thn : SL) (els : SL), m < k ∧ cs = [.int .u8 kind, .string head, .string name, .int .u8 e_op, .int .i64 e_lit_w, .int .u64 e_lit_n_hi, .int .u64 e_lit_n_lo, .string e_head, .string e_name, .int .i64 e_hi, .int .i64 e_lo, e_args.v, thn.v, els.v] ∧ TrS enc W base sp hd m 73 9 e_args ∧ TrS enc W base sp hd m 89 14 thn ∧ TrS enc W base sp hd m 89 14 els := by
  obtain ⟨m0, hm0, hl, hg⟩ := Tr.struct Try.underlying89 h
  rw [ct_Stmt] at hl
  have g0 := hg 0 _ rfl
  have g1 := hg 1 _ rfl
  have g2 := hg 2 _ rfl
  have g3 := hg 3 _ rfl
  have g4 := hg 4 _ rfl
  have g5 := hg 5 _ rfl
  match cs, hl with
  | [c0, c1, c2, c3, c4, c5, c6, c7, c8, c9, c10, c11, c12, c13], _ =>
    simp [ct_u8] at g0
    simp [ct_str] at g1
    simp [ct_str] at g2
    simp [ct_Expr] at g3
    simp [ct_sStmt] at g4
    simp [ct_sStmt] at g5
    obtain ⟨x0, q0⟩ := Tr.int Try.underlying5 g0
    obtain ⟨x1, q1⟩ := Tr.str Try.underlying9 g1
    obtain ⟨x2, q2⟩ := Tr.str Try.underlying9 g2
    obtain ⟨n3, y3_op, y3_lit_w, y3_lit_n_hi, y3_lit_n_lo, y3_head, y3_name, y3_hi, y3_lo, y3_args, l3, q3, t3_0⟩ := tr_Expr g3
    obtain ⟨x4, n4, l4, q4, t4⟩ := Tr.slice Try.underlying27 ct_Stmt (by omega) g4
    obtain ⟨x5, n5, l5, q5, t5⟩ := Tr.slice Try.underlying27 ct_Stmt (by omega) g5
    simp only [List.cons.injEq, and_true] at q0 q1 q2 q3 q4 q5
    refine ⟨m0, x0, x1, x2, y3_op, y3_lit_w, y3_lit_n_hi, y3_lit_n_lo, y3_head, y3_name, y3_hi, y3_lo, y3_args, x4, x5, hm0, by simp [q0, q1, q2, q3, q4, q5], t3_0.mono (by omega), t4.mono (by omega), t5.mono (by omega)⟩
set_option maxRecDepth 100000 in
theorem tr_Action {k : Nat} {cs : List Value} (h : Tr enc W base sp hd k 75 cs) :
    ∃ (m : Nat) (name : ByteArray) (params : SL) (body : SL), m < k ∧ cs = [.string name, params.v, body.v] ∧ TrS enc W base sp hd m 98 2 params ∧ TrS enc W base sp hd m 89 14 body := by
  obtain ⟨m0, hm0, hl, hg⟩ := Tr.struct Try.underlying75 h
  rw [ct_Action] at hl
  have g0 := hg 0 _ rfl
  have g1 := hg 1 _ rfl
  have g2 := hg 2 _ rfl
  match cs, hl with
  | [c0, c1, c2], _ =>
    simp [ct_str] at g0
    simp [ct_sField] at g1
    simp [ct_sStmt] at g2
    obtain ⟨x0, q0⟩ := Tr.str Try.underlying9 g0
    obtain ⟨x1, n1, l1, q1, t1⟩ := Tr.slice Try.underlying23 ct_Field (by omega) g1
    obtain ⟨x2, n2, l2, q2, t2⟩ := Tr.slice Try.underlying27 ct_Stmt (by omega) g2
    simp only [List.cons.injEq, and_true] at q0 q1 q2
    refine ⟨m0, x0, x1, x2, hm0, by simp [q0, q1, q2], t1.mono (by omega), t2.mono (by omega)⟩
set_option maxRecDepth 100000 in
theorem tr_Key {k : Nat} {cs : List Value} (h : Tr enc W base sp hd k 83 cs) :
    ∃ (m : Nat) (e_op : Int) (e_lit_w : Int) (e_lit_n_hi : Int) (e_lit_n_lo : Int) (e_head : ByteArray) (e_name : ByteArray) (e_hi : Int) (e_lo : Int) (e_args : SL) (kind : Int), m < k ∧ cs = [.int .u8 e_op, .int .i64 e_lit_w, .int .u64 e_lit_n_hi, .int .u64 e_lit_n_lo, .string e_head, .string e_name, .int .i64 e_hi, .int .i64 e_lo, e_args.v, .int .u8 kind] ∧ TrS enc W base sp hd m 73 9 e_args := by
  obtain ⟨m0, hm0, hl, hg⟩ := Tr.struct Try.underlying83 h
  rw [ct_Key] at hl
  have g0 := hg 0 _ rfl
  have g1 := hg 1 _ rfl
  match cs, hl with
  | [c0, c1, c2, c3, c4, c5, c6, c7, c8, c9], _ =>
    simp [ct_Expr] at g0
    simp [ct_u8] at g1
    obtain ⟨n0, y0_op, y0_lit_w, y0_lit_n_hi, y0_lit_n_lo, y0_head, y0_name, y0_hi, y0_lo, y0_args, l0, q0, t0_0⟩ := tr_Expr g0
    obtain ⟨x1, q1⟩ := Tr.int Try.underlying5 g1
    simp only [List.cons.injEq, and_true] at q0 q1
    refine ⟨m0, y0_op, y0_lit_w, y0_lit_n_hi, y0_lit_n_lo, y0_head, y0_name, y0_hi, y0_lo, y0_args, x1, hm0, by simp [q0, q1], t0_0.mono (by omega)⟩
set_option maxRecDepth 100000 in
theorem tr_Call {k : Nat} {cs : List Value} (h : Tr enc W base sp hd k 79 cs) :
    ∃ (m : Nat) (name : ByteArray) (args : SL), m < k ∧ cs = [.string name, args.v] ∧ TrS enc W base sp hd m 71 3 args := by
  obtain ⟨m0, hm0, hl, hg⟩ := Tr.struct Try.underlying79 h
  rw [ct_Call] at hl
  have g0 := hg 0 _ rfl
  have g1 := hg 1 _ rfl
  match cs, hl with
  | [c0, c1], _ =>
    simp [ct_str] at g0
    simp [ct_sLit] at g1
    obtain ⟨x0, q0⟩ := Tr.str Try.underlying9 g0
    obtain ⟨x1, n1, l1, q1, t1⟩ := Tr.slice Try.underlying77 ct_Lit (by omega) g1
    simp only [List.cons.injEq, and_true] at q0 q1
    refine ⟨m0, x0, x1, hm0, by simp [q0, q1], t1.mono (by omega)⟩
set_option maxRecDepth 100000 in
theorem tr_Table {k : Nat} {cs : List Value} (h : Tr enc W base sp hd k 81 cs) :
    ∃ (m : Nat) (name : ByteArray) (keys : SL) (acts : SL) (dflt_name : ByteArray) (dflt_args : SL), m < k ∧ cs = [.string name, keys.v, acts.v, .string dflt_name, dflt_args.v] ∧ TrS enc W base sp hd m 83 10 keys ∧ TrS enc W base sp hd m 9 1 acts ∧ TrS enc W base sp hd m 71 3 dflt_args := by
  obtain ⟨m0, hm0, hl, hg⟩ := Tr.struct Try.underlying81 h
  rw [ct_Table] at hl
  have g0 := hg 0 _ rfl
  have g1 := hg 1 _ rfl
  have g2 := hg 2 _ rfl
  have g3 := hg 3 _ rfl
  match cs, hl with
  | [c0, c1, c2, c3, c4], _ =>
    simp [ct_str] at g0
    simp [ct_sKey] at g1
    simp [ct_sstring] at g2
    simp [ct_Call] at g3
    obtain ⟨x0, q0⟩ := Tr.str Try.underlying9 g0
    obtain ⟨x1, n1, l1, q1, t1⟩ := Tr.slice Try.underlying76 ct_Key (by omega) g1
    obtain ⟨x2, n2, l2, q2, t2⟩ := Tr.slice Try.underlying28 ct_str (by omega) g2
    obtain ⟨n3, y3_name, y3_args, l3, q3, t3_0⟩ := tr_Call g3
    simp only [List.cons.injEq, and_true] at q0 q1 q2 q3
    refine ⟨m0, x0, x1, x2, y3_name, y3_args, hm0, by simp [q0, q1, q2, q3], t1.mono (by omega), t2.mono (by omega), t3_0.mono (by omega)⟩
set_option maxRecDepth 100000 in
theorem tr_Program {k : Nat} {cs : List Value} (h : Tr enc W base sp hd k 30 cs) :
    ∃ (m : Nat) (heads : SL) (metas : SL) (states : SL) (acts : SL) (tabs : SL) (control : SL) (emit : SL), m < k ∧ cs = [heads.v, metas.v, states.v, acts.v, tabs.v, control.v, emit.v] ∧ TrS enc W base sp hd m 65 2 heads ∧ TrS enc W base sp hd m 98 2 metas ∧ TrS enc W base sp hd m 57 5 states ∧ TrS enc W base sp hd m 75 3 acts ∧ TrS enc W base sp hd m 81 5 tabs ∧ TrS enc W base sp hd m 89 14 control ∧ TrS enc W base sp hd m 9 1 emit := by
  obtain ⟨m0, hm0, hl, hg⟩ := Tr.struct Try.underlying30 h
  rw [ct_Program] at hl
  have g0 := hg 0 _ rfl
  have g1 := hg 1 _ rfl
  have g2 := hg 2 _ rfl
  have g3 := hg 3 _ rfl
  have g4 := hg 4 _ rfl
  have g5 := hg 5 _ rfl
  have g6 := hg 6 _ rfl
  match cs, hl with
  | [c0, c1, c2, c3, c4, c5, c6], _ =>
    simp [ct_sHeader] at g0
    simp [ct_sField] at g1
    simp [ct_sState] at g2
    simp [ct_sAction] at g3
    simp [ct_sTable] at g4
    simp [ct_sStmt] at g5
    simp [ct_sstring] at g6
    obtain ⟨x0, n0, l0, q0, t0⟩ := Tr.slice Try.underlying22 ct_Header (by omega) g0
    obtain ⟨x1, n1, l1, q1, t1⟩ := Tr.slice Try.underlying23 ct_Field (by omega) g1
    obtain ⟨x2, n2, l2, q2, t2⟩ := Tr.slice Try.underlying24 ct_State (by omega) g2
    obtain ⟨x3, n3, l3, q3, t3⟩ := Tr.slice Try.underlying25 ct_Action (by omega) g3
    obtain ⟨x4, n4, l4, q4, t4⟩ := Tr.slice Try.underlying26 ct_Table (by omega) g4
    obtain ⟨x5, n5, l5, q5, t5⟩ := Tr.slice Try.underlying27 ct_Stmt (by omega) g5
    obtain ⟨x6, n6, l6, q6, t6⟩ := Tr.slice Try.underlying28 ct_str (by omega) g6
    simp only [List.cons.injEq, and_true] at q0 q1 q2 q3 q4 q5 q6
    refine ⟨m0, x0, x1, x2, x3, x4, x5, x6, hm0, by simp [q0, q1, q2, q3, q4, q5, q6], t0.mono (by omega), t1.mono (by omega), t2.mono (by omega), t3.mono (by omega), t4.mono (by omega), t5.mono (by omega), t6.mono (by omega)⟩
end
end Go.Proofs.Ytidnhnfmbebeaaa
set_option linter.unusedVariables false
set_option linter.unusedSimpArgs false
namespace Go.Proofs.Ytidnhnfmbebeaaa
open Go.RowKit Go.Deep

/-- j rounds of a sum. -/
def itW (g : Nat → Int → Int) (a : Int) : Nat → Int
  | 0 => a
  | j + 1 => g j (itW g a j)
/-- The call gives one number, in whichever world that W lies below. -/
def Gives (f : FuncId) (args : Array Value) (W : World) : Prop := ∃ v : Int, ∀ w, Below W.heap.size W w → Calls Try.prog f args w (Pure (.int .i64 v) w)
def GivesB (f : FuncId) (args : Array Value) (W : World) : Prop := ∃ v : Bool, ∀ w, Below W.heap.size W w → Calls Try.prog f args w (Pure (.bool v) w)
instance : Inhabited ByteArray := ⟨ByteArray.empty⟩

section
variable {H : Type} {enc : TypeId × Value → H} {W : World} {base : Nat} {sp : Nat → Bool} {hd : Bool} {k : Nat}

theorem TrS.strs {s : SL} (h : TrS enc W base sp hd k 9 1 s) : ∃ S : Nat → ByteArray, ∀ i, i < s.n → ∃ b off, s.a = some ⟨b, off, none⟩ ∧ b < W.heap.size ∧ W.cell? ⟨b, off + i, none⟩ = some (.string (S i)) :=
  choose_lt (p := fun i x => ∃ b off, s.a = some ⟨b, off, none⟩ ∧ b < W.heap.size ∧ W.cell? ⟨b, off + i, none⟩ = some (.string x)) (fun i hi => by
    obtain ⟨b, off, cs, ha, zb, hl, hcell, htr⟩ := h.2.2 i hi
    obtain ⟨x, rfl⟩ := Tr.str Try.underlying9 htr
    have := hcell 0 _ rfl
    rw [Nat.mul_one, Nat.add_zero] at this
    exact ⟨x, b, off, ha, zb, this⟩)

set_option maxRecDepth 100000 in
theorem names_gives {s : SL} (h : TrS enc W base sp hd k 9 1 s) : Gives 23 #[s.v] W := by
  obtain ⟨S, hS⟩ := h.strs
  have hm := h.2.1
  obtain ⟨sa, sn, sc⟩ := s
  simp only at hm hS
  clear h
  refine ⟨itW (fun j n => wrap64 (n + ((S j).size : Int))) (sn : Int) sn, fun w hw => ?_⟩
  simp only [SL.v_mk]
  have HS := hid hS
  clear hS
  go_enter Try.func23, Try.ntmps23
  go_wp2_with fail
  go_loopw [3, 4] (fun n i wr => ∃ j : Nat, j ≤ sn ∧ i = .int .i64 j ∧ n = .int .i64 (itW (fun j n => wrap64 (n + ((S j).size : Int))) (sn : Int) j) ∧ Below w.heap.size w wr) (fun _ i _ => sn - (intOf i).toNat)
  case atStart => exact ⟨0, by omega, rfl, rfl, by (repeat' (first | (with_reducible exact Below.refl _ _) | (with_reducible refine Below.ext_mk ?_ ?_ _ _) | (with_reducible refine Below.alloc ?_ ?_ _) | (with_reducible refine Below.drew ?_) | (with_reducible refine Below.setCell ?_ ?_ _) | go_size))⟩
  case round =>
    obtain ⟨j, hj, rfl, rfl, hb⟩ := hrel
    by_cases hlt : j < sn
    · have hj1 : (j : Int) < (sn : Int) := by omega
      obtain ⟨b, off, ha, zb, hc⟩ := HS.out j hlt
      subst ha
      have hbw := hw.trans (hb.mono hw.size)
      have hc2 := (hbw.cell (p := ⟨b, off + j, none⟩) zb).trans hc
      have zb2 : b < wr.heap.size := Nat.lt_of_lt_of_le zb hbw.size
      clear hc
      generalize hn : itW (fun j n => wrap64 (n + ((S j).size : Int))) (sn : Int) j = n at *
      have HN := hid hn
      clear hn
      go_wp2_with fail
      go_roundw
      case rel =>
        refine ⟨j + 1, hlt, by go_num, ?_, by (repeat' (first | (with_reducible exact hb) | (with_reducible exact Below.refl _ _) | (with_reducible refine Below.ext_mk ?_ ?_ _ _) | (with_reducible refine Below.alloc ?_ ?_ _) | (with_reducible refine Below.drew ?_) | (with_reducible refine Below.setCell ?_ ?_ _) | go_size))⟩
        rw [itW, HN.out]
      case measure => simp [intOf]; omega
    · obtain rfl : j = sn := by omega
      go_wp2_with fail
      go_returns
      exact Pure.of rfl (by (repeat' (first | (with_reducible exact hb) | (with_reducible exact Below.refl _ _) | (with_reducible refine Below.ext_mk ?_ ?_ _ _) | (with_reducible refine Below.alloc ?_ ?_ _) | (with_reducible refine Below.drew ?_) | (with_reducible refine Below.setCell ?_ ?_ _) | go_size)))

instance : Inhabited SL := ⟨slNil⟩
theorem TrS.flds {s : SL} (h : TrS enc W base sp hd k 98 2 s) : ∃ S : Nat → ByteArray × Int, ∀ i, i < s.n → ∃ b off, s.a = some ⟨b, off, none⟩ ∧ b < W.heap.size ∧ W.cell? ⟨b, off + i * 2, none⟩ = some (.string (S i).1) ∧ W.cell? ⟨b, off + i * 2 + 1, none⟩ = some (.int .i64 (S i).2) :=
  choose_lt (p := fun i (x : ByteArray × Int) => ∃ b off, s.a = some ⟨b, off, none⟩ ∧ b < W.heap.size ∧ W.cell? ⟨b, off + i * 2, none⟩ = some (.string x.1) ∧ W.cell? ⟨b, off + i * 2 + 1, none⟩ = some (.int .i64 x.2)) (fun i hi => by
    obtain ⟨b, off, cs, ha, zb, hl, hcell, htr⟩ := h.2.2 i hi
    obtain ⟨m, nm, w, _, rfl⟩ := tr_Field htr
    have c0 := hcell 0 _ rfl
    have c1 := hcell 1 _ rfl
    rw [Nat.add_zero] at c0
    rw [← Nat.add_assoc] at c1
    exact ⟨(nm, w), b, off, ha, zb, c0, c1⟩)

set_option maxRecDepth 100000 in
theorem fields_gives {s : SL} (h : TrS enc W base sp hd k 98 2 s) : Gives 21 #[s.v] W := by
  obtain ⟨S, hS⟩ := h.flds
  have hm := h.2.1
  obtain ⟨sa, sn, sc⟩ := s
  simp only at hm hS
  clear h
  refine ⟨itW (fun j n => wrap64 (n + ((S j).1.size : Int))) (sn : Int) sn, fun w hw => ?_⟩
  simp only [SL.v_mk]
  have HS := hid hS
  clear hS
  go_enter Try.func21, Try.ntmps21
  go_wp2_with fail
  go_loopw [3, 4] (fun n i wr => ∃ j : Nat, j ≤ sn ∧ i = .int .i64 j ∧ n = .int .i64 (itW (fun j n => wrap64 (n + ((S j).1.size : Int))) (sn : Int) j) ∧ Below w.heap.size w wr) (fun _ i _ => sn - (intOf i).toNat)
  case atStart => exact ⟨0, by omega, rfl, rfl, by (repeat' (first | (with_reducible exact Below.refl _ _) | (with_reducible refine Below.ext_mk ?_ ?_ _ _) | (with_reducible refine Below.alloc ?_ ?_ _) | (with_reducible refine Below.drew ?_) | (with_reducible refine Below.setCell ?_ ?_ _) | go_size))⟩
  case round =>
    obtain ⟨j, hj, rfl, rfl, hb⟩ := hrel
    by_cases hlt : j < sn
    · have hj1 : (j : Int) < (sn : Int) := by omega
      obtain ⟨b, off, ha, zb, hc, -⟩ := HS.out j hlt
      subst ha
      have hbw := hw.trans (hb.mono hw.size)
      have hc2 := (hbw.cell (p := ⟨b, off + j * 2, none⟩) zb).trans hc
      have zb2 : b < wr.heap.size := Nat.lt_of_lt_of_le zb hbw.size
      clear hc
      generalize hn : itW (fun j n => wrap64 (n + ((S j).1.size : Int))) (sn : Int) j = n at *
      have HN := hid hn
      clear hn
      go_wp2_with fail
      go_roundw
      case rel =>
        refine ⟨j + 1, hlt, by go_num, ?_, by (repeat' (first | (with_reducible exact hb) | (with_reducible exact Below.refl _ _) | (with_reducible refine Below.ext_mk ?_ ?_ _ _) | (with_reducible refine Below.alloc ?_ ?_ _) | (with_reducible refine Below.drew ?_) | (with_reducible refine Below.setCell ?_ ?_ _) | go_size))⟩
        rw [itW, HN.out]
      case measure => simp [intOf]; omega
    · obtain rfl : j = sn := by omega
      go_wp2_with fail
      go_returns
      exact Pure.of rfl (by (repeat' (first | (with_reducible exact hb) | (with_reducible exact Below.refl _ _) | (with_reducible refine Below.ext_mk ?_ ?_ _ _) | (with_reducible refine Below.alloc ?_ ?_ _) | (with_reducible refine Below.drew ?_) | (with_reducible refine Below.setCell ?_ ?_ _) | go_size)))

/-- Is a width out of bounds? -/
def wideB (x : Int) : Bool := decide (x < -1073741824) || decide (1073741824 < x)
set_option maxRecDepth 100000 in
theorem vast_gives {s : SL} (h : TrS enc W base sp hd k 98 2 s) : GivesB 25 #[s.v] W := by
  obtain ⟨S, hS⟩ := h.flds
  have hm := h.2.1
  obtain ⟨sa, sn, sc⟩ := s
  simp only at hm hS
  clear h
  refine ⟨(List.range sn).any (fun j => wideB (S j).2), fun w hw => ?_⟩
  simp only [SL.v_mk]
  have HS := hid hS
  clear hS
  have HV : Hid (∀ b, b = (List.range sn).any (fun j => wideB (S j).2) → True) := hid (fun _ _ => trivial)
  generalize hv : (List.range sn).any (fun j => wideB (S j).2) = v at *
  have HV := hid hv
  clear hv
  go_enter Try.func25, Try.ntmps25
  go_wp2_with fail
  go_loopw [3] (fun i wr => ∃ j : Nat, j ≤ sn ∧ i = .int .i64 j ∧ (∀ q, q < j → wideB (S q).2 = false) ∧ Below w.heap.size w wr) (fun i _ => sn - (intOf i).toNat)
  case atStart => exact ⟨0, by omega, rfl, fun q hq => by omega, by (repeat' (first | (with_reducible exact Below.refl _ _) | (with_reducible refine Below.ext_mk ?_ ?_ _ _) | (with_reducible refine Below.alloc ?_ ?_ _) | (with_reducible refine Below.drew ?_) | (with_reducible refine Below.setCell ?_ ?_ _) | go_size))⟩
  case round =>
    obtain ⟨j, hj, rfl, hno, hb⟩ := hrel
    have HNO := hid hno
    clear hno
    by_cases hlt : j < sn
    · have hj1 : (j : Int) < (sn : Int) := by omega
      obtain ⟨b, off, ha, zb, -, hc⟩ := HS.out j hlt
      subst ha
      have hbw := hw.trans (hb.mono hw.size)
      have hc2 := (hbw.cell (p := ⟨b, off + j * 2 + 1, none⟩) zb).trans hc
      have zb2 : b < wr.heap.size := Nat.lt_of_lt_of_le zb hbw.size
      have hyes : wideB (S j).2 = true → v = true := fun q => by
        rw [← HV.out, List.any_eq_true]
        exact ⟨j, by simpa using hlt, q⟩
      have HY := hid hyes
      clear hc hyes
      generalize hx : (S j).2 = x at *
      have HX := hid hx
      clear hx
      by_cases h1 : x < -1073741824
      · have hvt : v = true := HY.out (by unfold wideB; simp [h1])
        subst hvt
        go_wp2_with fail
        go_returns
        exact Pure.of rfl (by (repeat' (first | (with_reducible exact hb) | (with_reducible exact Below.refl _ _) | (with_reducible refine Below.ext_mk ?_ ?_ _ _) | (with_reducible refine Below.alloc ?_ ?_ _) | (with_reducible refine Below.drew ?_) | (with_reducible refine Below.setCell ?_ ?_ _) | go_size)))
      · by_cases h2 : 1073741824 < x
        · have hvt : v = true := HY.out (by unfold wideB; simp [h2])
          subst hvt
          go_wp2_with fail
          go_returns
          exact Pure.of rfl (by (repeat' (first | (with_reducible exact hb) | (with_reducible exact Below.refl _ _) | (with_reducible refine Below.ext_mk ?_ ?_ _ _) | (with_reducible refine Below.alloc ?_ ?_ _) | (with_reducible refine Below.drew ?_) | (with_reducible refine Below.setCell ?_ ?_ _) | go_size)))
        · have h1' : ¬ (x < -1073741824) := h1
          go_wp2_with fail
          go_roundw
          case rel =>
            refine ⟨j + 1, hlt, by go_num, fun q hq => ?_, by (repeat' (first | (with_reducible exact hb) | (with_reducible exact Below.refl _ _) | (with_reducible refine Below.ext_mk ?_ ?_ _ _) | (with_reducible refine Below.alloc ?_ ?_ _) | (with_reducible refine Below.drew ?_) | (with_reducible refine Below.setCell ?_ ?_ _) | go_size))⟩
            rcases Nat.lt_or_ge q j with h' | h'
            · exact HNO.out q h'
            · obtain rfl : q = j := by omega
              rw [HX.out]
              unfold wideB
              simp [h1, h2]
          case measure => simp [intOf]; omega
    · obtain rfl : j = sn := by omega
      have hvf : v = false := by
        rw [← HV.out]
        rw [List.any_eq_false]
        intro q hq
        rw [HNO.out q (by simpa using hq)]
        simp
      subst hvf
      go_wp2_with fail
      go_returns
      exact Pure.of rfl (by (repeat' (first | (with_reducible exact hb) | (with_reducible exact Below.refl _ _) | (with_reducible refine Below.ext_mk ?_ ?_ _ _) | (with_reducible refine Below.alloc ?_ ?_ _) | (with_reducible refine Below.drew ?_) | (with_reducible refine Below.setCell ?_ ?_ _) | go_size)))
end
end Go.Proofs.Ytidnhnfmbebeaaa
set_option linter.unusedVariables false
set_option linter.unusedSimpArgs false
namespace Go.Proofs.Ytidnhnfmbebeaaa
open Go.RowKit Go.Deep

/-- An expression's cells. -/
structure ExC where
  op : Int
  w : Int
  nhi : Int
  nlo : Int
  head : ByteArray
  name : ByteArray
  hi : Int
  lo : Int
  args : SL
abbrev ExC.cs (e : ExC) : List Value := [.int .u8 e.op, .int .i64 e.w, .int .u64 e.nhi, .int .u64 e.nlo, .string e.head, .string e.name, .int .i64 e.hi, .int .i64 e.lo, e.args.v]
abbrev ExC.v (e : ExC) : Value := .agg #[.int .u8 e.op, .int .i64 e.w, .int .u64 e.nhi, .int .u64 e.nlo, .string e.head, .string e.name, .int .i64 e.hi, .int .i64 e.lo, e.args.v]
instance : Inhabited ExC := ⟨⟨0, 0, 0, 0, default, default, 0, 0, slNil⟩⟩

section
variable {H : Type} {enc : TypeId × Value → H} {W : World} {base : Nat} {sp : Nat → Bool} {hd : Bool}

/-- An expression's cells lie there. -/
def ExAt (W : World) (b o : Nat) (e : ExC) : Prop := ∀ j v, e.cs[j]? = some v → W.cell? ⟨b, o + j, none⟩ = some v

theorem exprs_of {k : Nat} {s : SL} (h : TrS enc W base sp hd k 73 9 s) (G : ∀ (e : ExC), Tr enc W base sp hd k 73 e.cs → Gives 24 #[e.v] W) :
    ∃ Y : Nat → ExC × Int, ∀ i, i < s.n → ∃ b off, s.a = some ⟨b, off, none⟩ ∧ b < W.heap.size ∧ ExAt W b (off + i * 9) (Y i).1 ∧ ∀ w, Below W.heap.size W w → Calls Try.prog 24 #[(Y i).1.v] w (Pure (.int .i64 (Y i).2) w) :=
  choose_lt (p := fun i (y : ExC × Int) => ∃ b off, s.a = some ⟨b, off, none⟩ ∧ b < W.heap.size ∧ ExAt W b (off + i * 9) y.1 ∧ ∀ w, Below W.heap.size W w → Calls Try.prog 24 #[y.1.v] w (Pure (.int .i64 y.2) w)) (fun i hi => by
    obtain ⟨b, off, cs, ha, zb, hl, hcell, htr⟩ := h.2.2 i hi
    obtain ⟨m, x1, x2, x3, x4, x5, x6, x7, x8, x9, hm, rfl, hs⟩ := tr_Expr htr
    obtain ⟨v, hv⟩ := G ⟨x1, x2, x3, x4, x5, x6, x7, x8, x9⟩ htr
    exact ⟨(⟨x1, x2, x3, x4, x5, x6, x7, x8, x9⟩, v), b, off, ha, zb, fun j u hu => by rw [Nat.add_assoc]; exact hcell j u hu, hv⟩)

set_option maxRecDepth 100000 in
set_option maxHeartbeats 4000000 in
theorem weigh_gives : ∀ (k : Nat) (e : ExC), Tr enc W base sp hd k 73 e.cs → Gives 24 #[e.v] W := by
  intro k
  induction k using Nat.strongRecOn with
  | _ k ih =>
    intro e htr
    obtain ⟨m, x1, x2, x3, x4, x5, x6, x7, x8, x9, hm, he, hs⟩ := tr_Expr htr
    have hargs : e.args = x9 := by
      have := congrArg (fun l => l[8]?) he
      obtain ⟨a1, a2, a3⟩ := x9
      simp at this
      cases h : e.args
      rw [h] at this
      simp at this
      obtain ⟨q1, q2, q3⟩ := this
      subst q1 q2 q3
      rfl
    rw [← hargs] at hs
    clear htr he hargs x1 x2 x3 x4 x5 x6 x7 x8 x9
    obtain ⟨Y, hY⟩ := exprs_of hs (fun e' h' => ih m hm e' h')
    have hmx := hs.2.1
    obtain ⟨op, ew, nhi, nlo, head, name, ehi, elo, ⟨sa, sn, sc⟩⟩ := e
    simp only at hmx hY
    clear hs ih
    refine ⟨itW (fun j n => wrap64 (n + (Y j).2)) (wrap64 (wrap64 (1 + (head.size : Int)) + (name.size : Int))) sn, fun w hw => ?_⟩
    have HY := hid hY
    clear hY
    obtain ⟨n0, hn0⟩ : ∃ n0, n0 = wrap64 (wrap64 (1 + (head.size : Int)) + (name.size : Int)) := ⟨_, rfl⟩
    rw [← hn0]
    have HN0 := hid hn0
    clear hn0
    simp only [ExC.v, SL.v_mk]
    go_enter Try.func24, Try.ntmps24
    go_upto_region 1 with (fail)
    refine wp_gen (fun V hV => ?_)
    have hbV : Below w.heap.size w V := by rw [hV]; ((repeat' (first | (with_reducible exact Below.refl _ _) | (with_reducible refine Below.ext_mk ?_ ?_ _ _) | (with_reducible refine Below.alloc ?_ ?_ _) | (with_reducible refine Below.drew ?_) | (with_reducible refine Below.setCell ?_ ?_ _) | go_size)))
    have zV0 : w.heap.size < V.heap.size := by rw [hV]; first | (simp; done) | (simp; omega)
    have cV0_0 : V.cell? ⟨w.heap.size, 0, none⟩ = some (.int .u8 op) := by rw [hV]; first | (go_simp; done) | (rw [World.cell?_alloc_past _ _ _ (by first | (simp; done) | (simp; omega))]; go_simp)
    have cV0_1 : V.cell? ⟨w.heap.size, 1, none⟩ = some (.int .i64 ew) := by rw [hV]; first | (go_simp; done) | (rw [World.cell?_alloc_past _ _ _ (by first | (simp; done) | (simp; omega))]; go_simp)
    have cV0_2 : V.cell? ⟨w.heap.size, 2, none⟩ = some (.int .u64 nhi) := by rw [hV]; first | (go_simp; done) | (rw [World.cell?_alloc_past _ _ _ (by first | (simp; done) | (simp; omega))]; go_simp)
    have cV0_3 : V.cell? ⟨w.heap.size, 3, none⟩ = some (.int .u64 nlo) := by rw [hV]; first | (go_simp; done) | (rw [World.cell?_alloc_past _ _ _ (by first | (simp; done) | (simp; omega))]; go_simp)
    have cV0_4 : V.cell? ⟨w.heap.size, 4, none⟩ = some (.string head) := by rw [hV]; first | (go_simp; done) | (rw [World.cell?_alloc_past _ _ _ (by first | (simp; done) | (simp; omega))]; go_simp)
    have cV0_5 : V.cell? ⟨w.heap.size, 5, none⟩ = some (.string name) := by rw [hV]; first | (go_simp; done) | (rw [World.cell?_alloc_past _ _ _ (by first | (simp; done) | (simp; omega))]; go_simp)
    have cV0_6 : V.cell? ⟨w.heap.size, 6, none⟩ = some (.int .i64 ehi) := by rw [hV]; first | (go_simp; done) | (rw [World.cell?_alloc_past _ _ _ (by first | (simp; done) | (simp; omega))]; go_simp)
    have cV0_7 : V.cell? ⟨w.heap.size, 7, none⟩ = some (.int .i64 elo) := by rw [hV]; first | (go_simp; done) | (rw [World.cell?_alloc_past _ _ _ (by first | (simp; done) | (simp; omega))]; go_simp)
    have cV0_8 : V.cell? ⟨w.heap.size, 8, none⟩ = some (.slice sa sn sc) := by rw [hV]; first | (go_simp; done) | (rw [World.cell?_alloc_past _ _ _ (by first | (simp; done) | (simp; omega))]; go_simp)
    clear hV
    go_upto_region 2 with (fail)
    rw [← HN0.out]
    go_wp2_with fail
    go_loopw [3, 4] (fun n i wr => ∃ j : Nat, j ≤ sn ∧ i = .int .i64 j ∧ n = .int .i64 (itW (fun j n => wrap64 (n + (Y j).2)) n0 j) ∧ Below V.heap.size V wr) (fun _ i _ => sn - (intOf i).toNat)
    case atStart => exact ⟨0, by omega, rfl, rfl, Below.refl _ _⟩
    case round =>
      obtain ⟨j, hj, rfl, rfl, hb⟩ := hrel
      have hbs := hb.size
      have k8 := (hb.cell (p := ⟨w.heap.size, 8, none⟩) zV0).trans cV0_8
      have kz : w.heap.size < wr.heap.size := Nat.lt_of_lt_of_le zV0 hb.size
      by_cases hlt : j < sn
      · have hj1 : (j : Int) < (sn : Int) := by omega
        obtain ⟨b, off, ha, zb, hc, hcall⟩ := HY.out j hlt
        subst ha
        have hbw := hw.trans ((hbV.trans (hb.mono hbV.size)).mono hw.size)
        have C := hcall wr hbw
        generalize (Y j).1 = e1 at *
        obtain ⟨o1, w1, h1, l1, hd1, nm1, hi1, lo1, ⟨a1, a2, a3⟩⟩ := e1
        have d0 := (hbw.cell (p := ⟨b, off + j * 9 + 0, none⟩) zb).trans (hc 0 _ rfl)
        have d1 := (hbw.cell (p := ⟨b, off + j * 9 + 1, none⟩) zb).trans (hc 1 _ rfl)
        have d2 := (hbw.cell (p := ⟨b, off + j * 9 + 2, none⟩) zb).trans (hc 2 _ rfl)
        have d3 := (hbw.cell (p := ⟨b, off + j * 9 + 3, none⟩) zb).trans (hc 3 _ rfl)
        have d4 := (hbw.cell (p := ⟨b, off + j * 9 + 4, none⟩) zb).trans (hc 4 _ rfl)
        have d5 := (hbw.cell (p := ⟨b, off + j * 9 + 5, none⟩) zb).trans (hc 5 _ rfl)
        have d6 := (hbw.cell (p := ⟨b, off + j * 9 + 6, none⟩) zb).trans (hc 6 _ rfl)
        have d7 := (hbw.cell (p := ⟨b, off + j * 9 + 7, none⟩) zb).trans (hc 7 _ rfl)
        have d8 := (hbw.cell (p := ⟨b, off + j * 9 + 8, none⟩) zb).trans (hc 8 _ rfl)
        have zb2 : b < wr.heap.size := Nat.lt_of_lt_of_le zb hbw.size
        simp only [Nat.add_zero, SL.v_mk] at d0 d8
        simp only [ExC.v, SL.v_mk] at C
        clear hc hcall
        generalize hn : itW (fun j n => wrap64 (n + (Y j).2)) n0 j = n at *
        have HN := hid hn
        clear hn
        go_wp2_with ((with_reducible refine C.mono ?_); rintro e w2 ⟨rfl, mz, dz, rfl⟩)
        go_roundw
        case rel =>
          refine ⟨j + 1, hlt, by go_num, ?_, by (repeat' (first | (with_reducible exact hb) | (with_reducible exact Below.refl _ _) | (with_reducible refine Below.ext_mk ?_ ?_ _ _) | (with_reducible refine Below.alloc ?_ ?_ _) | (with_reducible refine Below.drew ?_) | (with_reducible refine Below.setCell ?_ ?_ _) | go_size))⟩
          rw [itW, HN.out]
        case measure => simp [intOf]; omega
      · obtain rfl : j = sn := by omega
        go_wp2_with fail
        go_returns
        exact Pure.of rfl (hbV.trans (hb.mono hbV.size))

/-- A statement's parts, and the numbers of them. -/
structure StmC where
  kind : Int
  head : ByteArray
  name : ByteArray
  e : ExC
  thn : SL
  els : SL
  n1 : Int
  n2 : Int
  n3 : Int
instance : Inhabited StmC := ⟨⟨0, default, default, default, slNil, slNil, 0, 0, 0⟩⟩
theorem stmts_of {k : Nat} {s : SL} (h : TrS enc W base sp hd k 89 14 s) (G : ∀ (m : Nat) (t : SL), m < k → TrS enc W base sp hd m 89 14 t → Gives 22 #[t.v] W) :
    ∃ Y : Nat → StmC, ∀ i, i < s.n → ∃ b off, s.a = some ⟨b, off, none⟩ ∧ b < W.heap.size ∧ W.cell? ⟨b, off + i * 14 + 1, none⟩ = some (.string (Y i).head) ∧ W.cell? ⟨b, off + i * 14 + 2, none⟩ = some (.string (Y i).name) ∧ ExAt W b (off + i * 14 + 3) (Y i).e ∧
      W.cell? ⟨b, off + i * 14 + 12, none⟩ = some (Y i).thn.v ∧ W.cell? ⟨b, off + i * 14 + 13, none⟩ = some (Y i).els.v ∧
      (∀ w, Below W.heap.size W w → Calls Try.prog 24 #[(Y i).e.v] w (Pure (.int .i64 (Y i).n1) w)) ∧
      (∀ w, Below W.heap.size W w → Calls Try.prog 22 #[(Y i).thn.v] w (Pure (.int .i64 (Y i).n2) w)) ∧
      ∀ w, Below W.heap.size W w → Calls Try.prog 22 #[(Y i).els.v] w (Pure (.int .i64 (Y i).n3) w) :=
  choose_lt (p := fun i (y : StmC) => ∃ b off, s.a = some ⟨b, off, none⟩ ∧ b < W.heap.size ∧ W.cell? ⟨b, off + i * 14 + 1, none⟩ = some (.string y.head) ∧ W.cell? ⟨b, off + i * 14 + 2, none⟩ = some (.string y.name) ∧ ExAt W b (off + i * 14 + 3) y.e ∧
      W.cell? ⟨b, off + i * 14 + 12, none⟩ = some y.thn.v ∧ W.cell? ⟨b, off + i * 14 + 13, none⟩ = some y.els.v ∧
      (∀ w, Below W.heap.size W w → Calls Try.prog 24 #[y.e.v] w (Pure (.int .i64 y.n1) w)) ∧
      (∀ w, Below W.heap.size W w → Calls Try.prog 22 #[y.thn.v] w (Pure (.int .i64 y.n2) w)) ∧
      ∀ w, Below W.heap.size W w → Calls Try.prog 22 #[y.els.v] w (Pure (.int .i64 y.n3) w)) (fun i hi => by
    obtain ⟨b, off, cs, ha, zb, hl, hcell, htr⟩ := h.2.2 i hi
    obtain ⟨m0, hm0, hcl, hg⟩ := Tr.struct Try.underlying89 htr
    have g3 := hg 3 _ rfl
    obtain ⟨m, kd, x2, x3, y1, y2, y3, y4, y5, y6, y7, y8, y9, tt, ee, hm, rfl, ha1, ht, he⟩ := tr_Stmt htr
    have hE : Tr enc W base sp hd m0 73 (ExC.cs ⟨y1, y2, y3, y4, y5, y6, y7, y8, y9⟩) := by simpa [ct_Expr] using g3
    obtain ⟨v1, h1⟩ := weigh_gives m0 ⟨y1, y2, y3, y4, y5, y6, y7, y8, y9⟩ hE
    obtain ⟨v2, h2⟩ := G m tt hm ht
    obtain ⟨v3, h3⟩ := G m ee hm he
    exact ⟨⟨kd, x2, x3, ⟨y1, y2, y3, y4, y5, y6, y7, y8, y9⟩, tt, ee, v1, v2, v3⟩, b, off, ha, zb, by rw [Nat.add_assoc]; exact hcell 1 _ rfl, by rw [Nat.add_assoc]; exact hcell 2 _ rfl,
      fun j u hu => by
        have := hcell (3 + j) u (by
          have hj : j < 9 := (List.getElem?_eq_some_iff.1 hu).1
          match j, hj with
          | 0, _ | 1, _ | 2, _ | 3, _ | 4, _ | 5, _ | 6, _ | 7, _ | 8, _ => exact hu)
        rw [show off + i * 14 + 3 + j = off + (i * 14 + (3 + j)) by omega]; exact this, by rw [Nat.add_assoc]; exact hcell 12 _ rfl, by rw [Nat.add_assoc]; exact hcell 13 _ rfl, h1, h2, h3⟩)
end
end Go.Proofs.Ytidnhnfmbebeaaa
set_option linter.unusedVariables false
set_option linter.unusedSimpArgs false
namespace Go.Proofs.Ytidnhnfmbebeaaa
open Go.RowKit Go.Deep

section
variable {H : Type} {enc : TypeId × Value → H} {W : World} {base : Nat} {sp : Nat → Bool} {hd : Bool}

def stmG (Y : Nat → StmC) (j : Nat) (n : Int) : Int := IntKind.i64.wrap (IntKind.i64.wrap (IntKind.i64.wrap (IntKind.i64.wrap (IntKind.i64.wrap (IntKind.i64.wrap (n + 1) + ((Y j).head.size : Int)) + ((Y j).name.size : Int)) + (Y j).n1) + (Y j).n2) + (Y j).n3)
set_option maxRecDepth 100000 in
set_option maxHeartbeats 4000000 in
theorem weighs_gives : ∀ (k : Nat) (s : SL), TrS enc W base sp hd k 89 14 s → Gives 22 #[s.v] W := by
  intro k
  induction k using Nat.strongRecOn with
  | _ k ih =>
    intro s hs
    obtain ⟨Y, hY⟩ := stmts_of hs (fun m t hm ht => ih m hm t ht)
    have hmx := hs.2.1
    obtain ⟨sa, sn, sc⟩ := s
    simp only at hmx hY
    clear hs ih
    refine ⟨itW (stmG Y) 0 sn, fun w hw => ?_⟩
    have HY := hid hY
    clear hY
    simp only [SL.v_mk]
    go_enter Try.func22, Try.ntmps22
    go_wp2_with fail
    go_loopw [3, 4] (fun n i wr => ∃ j : Nat, j ≤ sn ∧ i = .int .i64 j ∧ n = .int .i64 (itW (stmG Y) 0 j) ∧ Below w.heap.size w wr) (fun _ i _ => sn - (intOf i).toNat)
    case atStart => exact ⟨0, by omega, rfl, rfl, by (repeat' (first | (with_reducible exact Below.refl _ _) | (with_reducible refine Below.ext_mk ?_ ?_ _ _) | (with_reducible refine Below.alloc ?_ ?_ _) | (with_reducible refine Below.drew ?_) | (with_reducible refine Below.setCell ?_ ?_ _) | go_size))⟩
    case round =>
      obtain ⟨j, hj, rfl, rfl, hb⟩ := hrel
      have hbs := hb.size
      by_cases hlt : j < sn
      · have hj1 : (j : Int) < (sn : Int) := by omega
        obtain ⟨b, off, ha, zb, hc1, hc2, hce, hc12, hc13, C1, C2, C3⟩ := HY.out j hlt
        subst ha
        have hbw := hw.trans (hb.mono hw.size)
        have K1 := fun m d => C1 (wr.ext m d) (Below.ext_mk hbw hbw.size m d)
        have K2 := fun m d => C2 (wr.ext m d) (Below.ext_mk hbw hbw.size m d)
        have K3 := fun m d => C3 (wr.ext m d) (Below.ext_mk hbw hbw.size m d)
        have e0 : itW (stmG Y) 0 (j + 1) = stmG Y j (itW (stmG Y) 0 j) := rfl
        unfold stmG at e0
        have HE := hid e0
        clear e0 C1 C2 C3
        generalize hn : itW (stmG Y) 0 j = n at *
        have HE' : Hid (itW (stmG Y) 0 (j + 1) = IntKind.i64.wrap (IntKind.i64.wrap (IntKind.i64.wrap (IntKind.i64.wrap (IntKind.i64.wrap (IntKind.i64.wrap (n + 1) + ((Y j).head.size : Int)) + ((Y j).name.size : Int)) + (Y j).n1) + (Y j).n2) + (Y j).n3)) := by
          have := HE.out
          have e1 : itW (fun j n => IntKind.i64.wrap (IntKind.i64.wrap (IntKind.i64.wrap (IntKind.i64.wrap (IntKind.i64.wrap (IntKind.i64.wrap (n + 1) + ((Y j).head.size : Int)) + ((Y j).name.size : Int)) + (Y j).n1) + (Y j).n2) + (Y j).n3)) 0 j = n := hn
          exact hid (by rw [← e1]; exact this)
        clear HE hn
        generalize Y j = y at *
        obtain ⟨kd, head, name, e1, ⟨ta, tn, tc⟩, ⟨ea, en, ec⟩, n1, n2, n3⟩ := y
        obtain ⟨o1, w1, h1, l1, hd1, nm1, hi1, lo1, ⟨a1, a2, a3⟩⟩ := e1
        simp only at hc1 hc2 hc12 hc13 K1 K2 K3 HE' hce
        have d1 := (hbw.cell (p := ⟨b, off + j * 14 + 1, none⟩) zb).trans hc1
        have d2 := (hbw.cell (p := ⟨b, off + j * 14 + 2, none⟩) zb).trans hc2
        have d12 := (hbw.cell (p := ⟨b, off + j * 14 + 12, none⟩) zb).trans hc12
        have d13 := (hbw.cell (p := ⟨b, off + j * 14 + 13, none⟩) zb).trans hc13
        have e0 := (hbw.cell (p := ⟨b, off + j * 14 + 3 + 0, none⟩) zb).trans (hce 0 _ rfl)
        have e1 := (hbw.cell (p := ⟨b, off + j * 14 + 3 + 1, none⟩) zb).trans (hce 1 _ rfl)
        have e2 := (hbw.cell (p := ⟨b, off + j * 14 + 3 + 2, none⟩) zb).trans (hce 2 _ rfl)
        have e3 := (hbw.cell (p := ⟨b, off + j * 14 + 3 + 3, none⟩) zb).trans (hce 3 _ rfl)
        have e4 := (hbw.cell (p := ⟨b, off + j * 14 + 3 + 4, none⟩) zb).trans (hce 4 _ rfl)
        have e5 := (hbw.cell (p := ⟨b, off + j * 14 + 3 + 5, none⟩) zb).trans (hce 5 _ rfl)
        have e6 := (hbw.cell (p := ⟨b, off + j * 14 + 3 + 6, none⟩) zb).trans (hce 6 _ rfl)
        have e7 := (hbw.cell (p := ⟨b, off + j * 14 + 3 + 7, none⟩) zb).trans (hce 7 _ rfl)
        have e8 := (hbw.cell (p := ⟨b, off + j * 14 + 3 + 8, none⟩) zb).trans (hce 8 _ rfl)
        have zb2 : b < wr.heap.size := Nat.lt_of_lt_of_le zb hbw.size
        simp only [Nat.add_zero, SL.v_mk] at e0 e8 d12 d13
        have f1 : wr.cell? ⟨b, off + j * 14 + 4, none⟩ = _ := e1
        have f2 : wr.cell? ⟨b, off + j * 14 + 5, none⟩ = _ := e2
        have f3 : wr.cell? ⟨b, off + j * 14 + 6, none⟩ = _ := e3
        have f4 : wr.cell? ⟨b, off + j * 14 + 7, none⟩ = _ := e4
        have f5 : wr.cell? ⟨b, off + j * 14 + 8, none⟩ = _ := e5
        have f6 : wr.cell? ⟨b, off + j * 14 + 9, none⟩ = _ := e6
        have f7 : wr.cell? ⟨b, off + j * 14 + 10, none⟩ = _ := e7
        have f8 : wr.cell? ⟨b, off + j * 14 + 11, none⟩ = _ := e8
        simp only [ExC.v, SL.v_mk] at K1 K2 K3
        clear hc1 hc2 hce hc12 hc13
        go_upto_region 5 with (fail)
        refine wp_region_ext (by kernel_rfl) (by kernel_rfl) (fun F hF => ?_)
        have HF := hid hF; clear hF
        repeat (first
          | (apply text_skip; (focus rfl); simp only [Act.put, List.setIfInBounds_toArray, List.set_cons_zero, List.set_cons_succ])
          | (apply text_val; (focus rfl); (focus (intro _ _; go_simp; with_reducible rfl)); simp only [Act.put, List.setIfInBounds_toArray, List.set_cons_zero, List.set_cons_succ])
          | (apply text_call; (focus rfl); (focus (intro _ _; go_simp; exact ⟨rfl, rfl⟩)); (focus (intro _ _; with_reducible (exact K1 _ _))); simp only [Act.put, List.setIfInBounds_toArray, List.set_cons_zero, List.set_cons_succ])
          | (apply text_call; (focus rfl); (focus (intro _ _; go_simp; exact ⟨rfl, rfl⟩)); (focus (intro _ _; with_reducible (exact K2 _ _))); simp only [Act.put, List.setIfInBounds_toArray, List.set_cons_zero, List.set_cons_succ])
          | (apply text_call; (focus rfl); (focus (intro _ _; go_simp; exact ⟨rfl, rfl⟩)); (focus (intro _ _; with_reducible (exact K3 _ _))); simp only [Act.put, List.setIfInBounds_toArray, List.set_cons_zero, List.set_cons_succ])
          | (apply text_if; (focus (first | exact wanted_t rfl rfl | exact wanted_f rfl rfl | exact wanted_gt rfl rfl | exact wanted_gf rfl rfl)); (focus (intro hc _ _; (try simp only [Bool.and_eq_true, Bool.not_eq_true', Bool.true_and] at hc); go_simp; with_reducible rfl)); simp only [Act.put, List.setIfInBounds_toArray, List.set_cons_zero, List.set_cons_succ])
          | (apply text_if_call; (focus (first | exact wanted_t rfl rfl | exact wanted_f rfl rfl | exact wanted_gt rfl rfl | exact wanted_gf rfl rfl)); (focus (intro hc _ _; (try simp only [Bool.and_eq_true, Bool.not_eq_true', Bool.true_and] at hc); go_simp; exact ⟨rfl, rfl⟩)); (focus (intro hc _ _; with_reducible (exact K1 _ _))); simp only [Act.put, List.setIfInBounds_toArray, List.set_cons_zero, List.set_cons_succ])
          | (apply text_if_call; (focus (first | exact wanted_t rfl rfl | exact wanted_f rfl rfl | exact wanted_gt rfl rfl | exact wanted_gf rfl rfl)); (focus (intro hc _ _; (try simp only [Bool.and_eq_true, Bool.not_eq_true', Bool.true_and] at hc); go_simp; exact ⟨rfl, rfl⟩)); (focus (intro hc _ _; with_reducible (exact K2 _ _))); simp only [Act.put, List.setIfInBounds_toArray, List.set_cons_zero, List.set_cons_succ])
          | (apply text_if_call; (focus (first | exact wanted_t rfl rfl | exact wanted_f rfl rfl | exact wanted_gt rfl rfl | exact wanted_gf rfl rfl)); (focus (intro hc _ _; (try simp only [Bool.and_eq_true, Bool.not_eq_true', Bool.true_and] at hc); go_simp; exact ⟨rfl, rfl⟩)); (focus (intro hc _ _; with_reducible (exact K3 _ _))); simp only [Act.put, List.setIfInBounds_toArray, List.set_cons_zero, List.set_cons_succ]))
        refine text_nil (HF.out _ (fun mx dx => ?_))
        clear HF F
        go_wp2_with fail
        go_roundw
        case rel =>
          refine ⟨j + 1, hlt, by go_num, ?_, by (repeat' (first | (with_reducible exact hb) | (with_reducible exact Below.refl _ _) | (with_reducible refine Below.ext_mk ?_ ?_ _ _) | (with_reducible refine Below.alloc ?_ ?_ _) | (with_reducible refine Below.drew ?_) | (with_reducible refine Below.setCell ?_ ?_ _) | go_size))⟩
          rw [HE'.out]
        case measure => simp [intOf]; omega
      · obtain rfl : j = sn := by omega
        go_wp2_with fail
        go_returns
        exact Pure.of rfl (by (repeat' (first | (with_reducible exact hb) | (with_reducible exact Below.refl _ _) | (with_reducible refine Below.ext_mk ?_ ?_ _ _) | (with_reducible refine Below.alloc ?_ ?_ _) | (with_reducible refine Below.drew ?_) | (with_reducible refine Below.setCell ?_ ?_ _) | go_size)))
end
end Go.Proofs.Ytidnhnfmbebeaaa
set_option linter.unusedVariables false
set_option linter.unusedSimpArgs false
namespace Go.Proofs.Ytidnhnfmbebeaaa
open Go.RowKit Go.Deep

section
variable {H : Type} {enc : TypeId × Value → H} {W : World} {base : Nat} {sp : Nat → Bool} {hd : Bool}

/-- A program's trees. -/
structure PgT {H : Type} (enc : TypeId × Value → H) (W : World) (base : Nat) (sp : Nat → Bool) (hd : Bool) (k : Nat) (p : PgS) : Prop where
  heads : TrS enc W base sp hd k 65 2 p.heads
  metas : TrS enc W base sp hd k 98 2 p.metas
  states : TrS enc W base sp hd k 57 5 p.states
  acts : TrS enc W base sp hd k 75 3 p.acts
  tabs : TrS enc W base sp hd k 81 5 p.tabs
  control : TrS enc W base sp hd k 89 14 p.control
  emit : TrS enc W base sp hd k 9 1 p.emit

/-- Some truth. -/
def SomeB (w : World) (e : Ending) (w' : World) : Prop := ∃ b : Bool, Pure (.bool b) w e w'

set_option maxRecDepth 100000 in
set_option maxHeartbeats 8000000 in
theorem great_some {k : Nat} {p : PgS} (T : PgT enc W base sp hd k p) {w : World} (hw : Below W.heap.size W w) : Calls Try.prog 10 #[p.v] w (SomeB w) := by
  obtain ⟨v1, hv1⟩ := fields_gives T.metas
  obtain ⟨v2, hv2⟩ := weighs_gives k _ T.control
  obtain ⟨v3, hv3⟩ := names_gives T.emit
  have hm1 := T.heads.2.1
  have hm2 := T.states.2.1
  have hm3 := T.acts.2.1
  have hm4 := T.tabs.2.1
  have HT := hid T
  clear T
  obtain ⟨⟨ha, hn, hc⟩, ⟨ma, mn, mc⟩, ⟨sa, sn, sc⟩, ⟨aa, an, ac⟩, ⟨ta, tn, tc⟩, ⟨ca, cn, cc⟩, ⟨ea, en, ec⟩⟩ := p
  simp only [SL.v_mk] at hv1 hv2 hv3
  simp only at hm1 hm2 hm3 hm4
  simp only [PgS.v, SL.v_mk]
  go_enter Try.func10, Try.ntmps10
  go_upto_region 1 with (fail)
  refine wp_gen (fun V hV => ?_)
  have hbV : Below w.heap.size w V := by rw [hV]; ((repeat' (first | (with_reducible exact Below.refl _ _) | (with_reducible refine Below.ext_mk ?_ ?_ _ _) | (with_reducible refine Below.alloc ?_ ?_ _) | (with_reducible refine Below.drew ?_) | (with_reducible refine Below.setCell ?_ ?_ _) | go_size)))
  have zV0 : w.heap.size < V.heap.size := by rw [hV]; first | (simp; done) | (simp; omega)
  have cV0_0 : V.cell? ⟨w.heap.size, 0, none⟩ = some (.slice ha hn hc) := by rw [hV]; first | (go_simp; done) | (rw [World.cell?_alloc_past _ _ _ (by first | (simp; done) | (simp; omega))]; go_simp)
  have cV0_1 : V.cell? ⟨w.heap.size, 1, none⟩ = some (.slice ma mn mc) := by rw [hV]; first | (go_simp; done) | (rw [World.cell?_alloc_past _ _ _ (by first | (simp; done) | (simp; omega))]; go_simp)
  have cV0_2 : V.cell? ⟨w.heap.size, 2, none⟩ = some (.slice sa sn sc) := by rw [hV]; first | (go_simp; done) | (rw [World.cell?_alloc_past _ _ _ (by first | (simp; done) | (simp; omega))]; go_simp)
  have cV0_3 : V.cell? ⟨w.heap.size, 3, none⟩ = some (.slice aa an ac) := by rw [hV]; first | (go_simp; done) | (rw [World.cell?_alloc_past _ _ _ (by first | (simp; done) | (simp; omega))]; go_simp)
  have cV0_4 : V.cell? ⟨w.heap.size, 4, none⟩ = some (.slice ta tn tc) := by rw [hV]; first | (go_simp; done) | (rw [World.cell?_alloc_past _ _ _ (by first | (simp; done) | (simp; omega))]; go_simp)
  have cV0_5 : V.cell? ⟨w.heap.size, 5, none⟩ = some (.slice ca cn cc) := by rw [hV]; first | (go_simp; done) | (rw [World.cell?_alloc_past _ _ _ (by first | (simp; done) | (simp; omega))]; go_simp)
  have cV0_6 : V.cell? ⟨w.heap.size, 6, none⟩ = some (.slice ea en ec) := by rw [hV]; first | (go_simp; done) | (rw [World.cell?_alloc_past _ _ _ (by first | (simp; done) | (simp; omega))]; go_simp)
  clear hV
  have hWV := hw.trans (hbV.mono hw.size)
  have K1 := fun m d => hv1 (V.ext m d) (Below.ext_mk hWV hWV.size m d)
  have K2 := fun m d => hv2 (V.ext m d) (Below.ext_mk hWV hWV.size m d)
  have K3 := fun m d => hv3 (V.ext m d) (Below.ext_mk hWV hWV.size m d)
  refine wp_region_ext (by kernel_rfl) (by kernel_rfl) (fun F hF => ?_)
  have HF := hid hF; clear hF
  repeat (first
    | (apply text_skip; (focus rfl); simp only [Act.put, List.setIfInBounds_toArray, List.set_cons_zero, List.set_cons_succ])
    | (apply text_val; (focus rfl); (focus (intro _ _; go_simp; with_reducible rfl)); simp only [Act.put, List.setIfInBounds_toArray, List.set_cons_zero, List.set_cons_succ])
    | (apply text_call; (focus rfl); (focus (intro _ _; go_simp; exact ⟨rfl, rfl⟩)); (focus (intro _ _; with_reducible (exact K1 _ _))); simp only [Act.put, List.setIfInBounds_toArray, List.set_cons_zero, List.set_cons_succ])
    | (apply text_call; (focus rfl); (focus (intro _ _; go_simp; exact ⟨rfl, rfl⟩)); (focus (intro _ _; with_reducible (exact K2 _ _))); simp only [Act.put, List.setIfInBounds_toArray, List.set_cons_zero, List.set_cons_succ])
    | (apply text_call; (focus rfl); (focus (intro _ _; go_simp; exact ⟨rfl, rfl⟩)); (focus (intro _ _; with_reducible (exact K3 _ _))); simp only [Act.put, List.setIfInBounds_toArray, List.set_cons_zero, List.set_cons_succ])
    | (apply text_if; (focus (first | exact wanted_t rfl rfl | exact wanted_f rfl rfl | exact wanted_gt rfl rfl | exact wanted_gf rfl rfl)); (focus (intro hc _ _; (try simp only [Bool.and_eq_true, Bool.not_eq_true', Bool.true_and] at hc); go_simp; with_reducible rfl)); simp only [Act.put, List.setIfInBounds_toArray, List.set_cons_zero, List.set_cons_succ])
    | (apply text_if_call; (focus (first | exact wanted_t rfl rfl | exact wanted_f rfl rfl | exact wanted_gt rfl rfl | exact wanted_gf rfl rfl)); (focus (intro hc _ _; (try simp only [Bool.and_eq_true, Bool.not_eq_true', Bool.true_and] at hc); go_simp; exact ⟨rfl, rfl⟩)); (focus (intro hc _ _; with_reducible (exact K1 _ _))); simp only [Act.put, List.setIfInBounds_toArray, List.set_cons_zero, List.set_cons_succ])
    | (apply text_if_call; (focus (first | exact wanted_t rfl rfl | exact wanted_f rfl rfl | exact wanted_gt rfl rfl | exact wanted_gf rfl rfl)); (focus (intro hc _ _; (try simp only [Bool.and_eq_true, Bool.not_eq_true', Bool.true_and] at hc); go_simp; exact ⟨rfl, rfl⟩)); (focus (intro hc _ _; with_reducible (exact K2 _ _))); simp only [Act.put, List.setIfInBounds_toArray, List.set_cons_zero, List.set_cons_succ])
    | (apply text_if_call; (focus (first | exact wanted_t rfl rfl | exact wanted_f rfl rfl | exact wanted_gt rfl rfl | exact wanted_gf rfl rfl)); (focus (intro hc _ _; (try simp only [Bool.and_eq_true, Bool.not_eq_true', Bool.true_and] at hc); go_simp; exact ⟨rfl, rfl⟩)); (focus (intro hc _ _; with_reducible (exact K3 _ _))); simp only [Act.put, List.setIfInBounds_toArray, List.set_cons_zero, List.set_cons_succ]))
  refine text_nil (HF.out _ (fun mx dx => ?_))
  clear HF F
  have hb0 : Below V.heap.size V (V.ext mx dx) := Below.ext_mk (Below.refl _ _) (Nat.le_refl _) _ _
  clear hv1 hv2 hv3 K1 K2 K3
  go_upto_region 2 with (fail)
  generalize V.ext mx dx = X at *
  have HB0 := hid hb0
  clear hb0
  go_wp2_with fail
  go_loopw [3, 4] (fun n i wr => ∃ (j : Nat) (q : Int), j ≤ hn ∧ i = .int .i64 j ∧ n = .int .i64 q ∧ Below V.heap.size V wr) (fun _ i _ => hn - (intOf i).toNat)
  case atStart => exact ⟨0, _, by omega, rfl, rfl, HB0.out⟩
  case round =>
    obtain ⟨j, q, hj, rfl, rfl, hb⟩ := hrel
    have hbs := hb.size
    have p0 := (hb.cell (p := ⟨w.heap.size, 0, none⟩) zV0).trans cV0_0
    have pz : w.heap.size < wr.heap.size := Nat.lt_of_lt_of_le zV0 hb.size
    by_cases hlt : j < hn
    · have hj1 : (j : Int) < (hn : Int) := by omega
      obtain ⟨b, off, cs, ha', zb, hl, hcell, htr⟩ := HT.out.heads.2.2 j hlt
      simp only at ha'
      subst ha'
      obtain ⟨m, nm, fs, hm, rfl, hfs⟩ := tr_Header htr
      have hbw := hWV.trans (hb.mono hWV.size)
      have d0 := (hbw.cell (p := ⟨b, off + (j * 2 + 0), none⟩) zb).trans (hcell 0 _ rfl)
      have d1 := (hbw.cell (p := ⟨b, off + (j * 2 + 1), none⟩) zb).trans (hcell 1 _ rfl)
      rw [Nat.add_zero] at d0
      rw [← Nat.add_assoc] at d1
      have zb2 : b < wr.heap.size := Nat.lt_of_lt_of_le zb hbw.size
      obtain ⟨u, hu⟩ := fields_gives hfs
      obtain ⟨fa, fn, fc⟩ := fs
      simp only [SL.v_mk] at d1 hu
      have K := fun m d => hu (wr.ext m d) (Below.ext_mk hbw hbw.size m d)
      clear hcell htr hfs hu
      go_upto_region 5 with (fail)
      refine wp_region_ext (by kernel_rfl) (by kernel_rfl) (fun F hF => ?_)
      have HF := hid hF; clear hF
      repeat (first
        | (apply text_skip; (focus rfl); simp only [Act.put, List.setIfInBounds_toArray, List.set_cons_zero, List.set_cons_succ])
        | (apply text_val; (focus rfl); (focus (intro _ _; go_simp; with_reducible rfl)); simp only [Act.put, List.setIfInBounds_toArray, List.set_cons_zero, List.set_cons_succ])
        | (apply text_call; (focus rfl); (focus (intro _ _; go_simp; exact ⟨rfl, rfl⟩)); (focus (intro _ _; with_reducible (exact K _ _))); simp only [Act.put, List.setIfInBounds_toArray, List.set_cons_zero, List.set_cons_succ])
        | (apply text_if; (focus (first | exact wanted_t rfl rfl | exact wanted_f rfl rfl | exact wanted_gt rfl rfl | exact wanted_gf rfl rfl)); (focus (intro hc _ _; (try simp only [Bool.and_eq_true, Bool.not_eq_true', Bool.true_and] at hc); go_simp; with_reducible rfl)); simp only [Act.put, List.setIfInBounds_toArray, List.set_cons_zero, List.set_cons_succ])
        | (apply text_if_call; (focus (first | exact wanted_t rfl rfl | exact wanted_f rfl rfl | exact wanted_gt rfl rfl | exact wanted_gf rfl rfl)); (focus (intro hc _ _; (try simp only [Bool.and_eq_true, Bool.not_eq_true', Bool.true_and] at hc); go_simp; exact ⟨rfl, rfl⟩)); (focus (intro hc _ _; with_reducible (exact K _ _))); simp only [Act.put, List.setIfInBounds_toArray, List.set_cons_zero, List.set_cons_succ]))
      refine text_nil (HF.out _ (fun mx dx => ?_))
      clear HF F
      go_wp2_with fail
      go_roundw
      case rel => exact ⟨j + 1, _, hlt, by go_num, rfl, by (repeat' (first | (with_reducible exact hb) | (with_reducible exact Below.refl _ _) | (with_reducible refine Below.ext_mk ?_ ?_ _ _) | (with_reducible refine Below.alloc ?_ ?_ _) | (with_reducible refine Below.drew ?_) | (with_reducible refine Below.setCell ?_ ?_ _) | go_size))⟩
      case measure => simp [intOf]; omega
    · obtain rfl : j = hn := by omega
      have HB1 := hid hb
      clear hb
      go_wp2_with fail
      go_loopw [3, 5] (fun n i wr => ∃ (j : Nat) (q : Int), j ≤ sn ∧ i = .int .i64 j ∧ n = .int .i64 q ∧ Below V.heap.size V wr) (fun _ i _ => sn - (intOf i).toNat)
      case atStart => exact ⟨0, _, by omega, rfl, rfl, HB1.out⟩
      case round =>
        obtain ⟨j, q, hj, rfl, rfl, hb⟩ := hrel
        have hbs := hb.size
        have p2 := (hb.cell (p := ⟨w.heap.size, 2, none⟩) zV0).trans cV0_2
        have pz : w.heap.size < wr.heap.size := Nat.lt_of_lt_of_le zV0 hb.size
        by_cases hlt : j < sn
        · have hj1 : (j : Int) < (sn : Int) := by omega
          obtain ⟨b, off, cs, ha', zb, hl, hcell, htr⟩ := HT.out.states.2.2 j hlt
          simp only at ha'
          subst ha'
          obtain ⟨m, nm, tk, dst, ks, cas, hm, rfl, htk, hks, hcas⟩ := tr_State htr
          have hbw := hWV.trans (hb.mono hWV.size)
          have d0 := (hbw.cell (p := ⟨b, off + (j * 5 + 0), none⟩) zb).trans (hcell 0 _ rfl)
          have d1 := (hbw.cell (p := ⟨b, off + (j * 5 + 1), none⟩) zb).trans (hcell 1 _ rfl)
          have d2 := (hbw.cell (p := ⟨b, off + (j * 5 + 2), none⟩) zb).trans (hcell 2 _ rfl)
          have d3 := (hbw.cell (p := ⟨b, off + (j * 5 + 3), none⟩) zb).trans (hcell 3 _ rfl)
          have d4 := (hbw.cell (p := ⟨b, off + (j * 5 + 4), none⟩) zb).trans (hcell 4 _ rfl)
          rw [Nat.add_zero] at d0
          rw [← Nat.add_assoc] at d1 d2 d3 d4
          have zb2 : b < wr.heap.size := Nat.lt_of_lt_of_le zb hbw.size
          obtain ⟨u, hu⟩ := names_gives htk
          have hkm := hks.2.1
          have hcm := hcas.2.1
          have HKS := hid hks
          have HCS := hid hcas
          obtain ⟨a1, n1, c1⟩ := tk
          obtain ⟨a2, n2, c2⟩ := ks
          obtain ⟨a3, n3, c3⟩ := cas
          simp only [SL.v_mk] at d1 d3 d4 hu
          simp only at hkm hcm
          clear hcell htr htk hks hcas
          go_upto_region 10 with (fail)
          refine wp_gen (fun Y hY => ?_)
          have hbY : Below wr.heap.size wr Y := by rw [hY]; ((repeat' (first | (with_reducible exact Below.refl _ _) | (with_reducible refine Below.ext_mk ?_ ?_ _ _) | (with_reducible refine Below.alloc ?_ ?_ _) | (with_reducible refine Below.drew ?_) | (with_reducible refine Below.setCell ?_ ?_ _) | go_size)))
          have zY0 : wr.heap.size < Y.heap.size := by rw [hY]; first | (simp; done) | (simp; omega)
          have cY0_0 : Y.cell? ⟨wr.heap.size, 0, none⟩ = some (.string nm) := by rw [hY]; first | (go_simp; done) | (rw [World.cell?_alloc_past _ _ _ (by first | (simp; done) | (simp; omega))]; go_simp)
          have cY0_1 : Y.cell? ⟨wr.heap.size, 1, none⟩ = some (.slice a1 n1 c1) := by rw [hY]; first | (go_simp; done) | (rw [World.cell?_alloc_past _ _ _ (by first | (simp; done) | (simp; omega))]; go_simp)
          have cY0_2 : Y.cell? ⟨wr.heap.size, 2, none⟩ = some (.string dst) := by rw [hY]; first | (go_simp; done) | (rw [World.cell?_alloc_past _ _ _ (by first | (simp; done) | (simp; omega))]; go_simp)
          have cY0_3 : Y.cell? ⟨wr.heap.size, 3, none⟩ = some (.slice a2 n2 c2) := by rw [hY]; first | (go_simp; done) | (rw [World.cell?_alloc_past _ _ _ (by first | (simp; done) | (simp; omega))]; go_simp)
          have cY0_4 : Y.cell? ⟨wr.heap.size, 4, none⟩ = some (.slice a3 n3 c3) := by rw [hY]; first | (go_simp; done) | (rw [World.cell?_alloc_past _ _ _ (by first | (simp; done) | (simp; omega))]; go_simp)
          clear hY
          have hVY := hb.trans (hbY.mono hbs)
          have hWY := hWV.trans (hVY.mono hWV.size)
          have K := fun m d => hu (Y.ext m d) (Below.ext_mk hWY hWY.size m d)
          refine wp_region_ext (by kernel_rfl) (by kernel_rfl) (fun F hF => ?_)
          have HF := hid hF; clear hF
          repeat (first
            | (apply text_skip; (focus rfl); simp only [Act.put, List.setIfInBounds_toArray, List.set_cons_zero, List.set_cons_succ])
            | (apply text_val; (focus rfl); (focus (intro _ _; go_simp; with_reducible rfl)); simp only [Act.put, List.setIfInBounds_toArray, List.set_cons_zero, List.set_cons_succ])
            | (apply text_call; (focus rfl); (focus (intro _ _; go_simp; exact ⟨rfl, rfl⟩)); (focus (intro _ _; with_reducible (exact K _ _))); simp only [Act.put, List.setIfInBounds_toArray, List.set_cons_zero, List.set_cons_succ])
            | (apply text_if; (focus (first | exact wanted_t rfl rfl | exact wanted_f rfl rfl | exact wanted_gt rfl rfl | exact wanted_gf rfl rfl)); (focus (intro hc _ _; (try simp only [Bool.and_eq_true, Bool.not_eq_true', Bool.true_and] at hc); go_simp; with_reducible rfl)); simp only [Act.put, List.setIfInBounds_toArray, List.set_cons_zero, List.set_cons_succ])
            | (apply text_if_call; (focus (first | exact wanted_t rfl rfl | exact wanted_f rfl rfl | exact wanted_gt rfl rfl | exact wanted_gf rfl rfl)); (focus (intro hc _ _; (try simp only [Bool.and_eq_true, Bool.not_eq_true', Bool.true_and] at hc); go_simp; exact ⟨rfl, rfl⟩)); (focus (intro hc _ _; with_reducible (exact K _ _))); simp only [Act.put, List.setIfInBounds_toArray, List.set_cons_zero, List.set_cons_succ]))
          refine text_nil (HF.out _ (fun mb db => ?_))
          clear HF F
          have hb2 : Below Y.heap.size Y (Y.ext mb db) := Below.ext_mk (Below.refl _ _) (Nat.le_refl _) _ _
          clear d0 d1 d2 d3 d4 hu K
          go_upto_region 11 with (fail)
          generalize Y.ext mb db = Z at *
          have HB2 := hid hb2
          clear hb2
          generalize wr.heap.size = tb at *
          go_wp2_with fail
          go_loopw [3, 7] (fun n i wr => ∃ (j : Nat) (q : Int), j ≤ n2 ∧ i = .int .i64 j ∧ n = .int .i64 q ∧ Below Y.heap.size Y wr) (fun _ i _ => n2 - (intOf i).toNat)
          case atStart => exact ⟨0, _, by omega, rfl, rfl, HB2.out⟩
          case round =>
            obtain ⟨j2, q2, hj2, rfl, rfl, hb3⟩ := hrel
            have hb3s := hb3.size
            have t3 := (hb3.cell (p := ⟨tb, 3, none⟩) zY0).trans cY0_3
            have tz : tb < wr.heap.size := Nat.lt_of_lt_of_le zY0 hb3.size
            by_cases hlt2 : j2 < n2
            · have hj3 : (j2 : Int) < (n2 : Int) := by omega
              obtain ⟨b4, off4, cs4, ha4, zb4, hl4, hcell4, htr4⟩ := HKS.out.2.2 j2 hlt2
              simp only at ha4
              subst ha4
              have hbw3 := hWY.trans (hb3.mono hWY.size)
              obtain ⟨m4, x1, x2, x3, x4, x5, x6, x7, x8, ⟨y1, y2, y3⟩, hm4', rfl, hs4⟩ := tr_Expr htr4
              obtain ⟨u4, hu4⟩ := weigh_gives _ ⟨x1, x2, x3, x4, x5, x6, x7, x8, ⟨y1, y2, y3⟩⟩ htr4
              have e0 := (hbw3.cell (p := ⟨b4, off4 + (j2 * 9 + 0), none⟩) zb4).trans (hcell4 0 _ rfl)
              have e1 := (hbw3.cell (p := ⟨b4, off4 + (j2 * 9 + 1), none⟩) zb4).trans (hcell4 1 _ rfl)
              have e2 := (hbw3.cell (p := ⟨b4, off4 + (j2 * 9 + 2), none⟩) zb4).trans (hcell4 2 _ rfl)
              have e3 := (hbw3.cell (p := ⟨b4, off4 + (j2 * 9 + 3), none⟩) zb4).trans (hcell4 3 _ rfl)
              have e4 := (hbw3.cell (p := ⟨b4, off4 + (j2 * 9 + 4), none⟩) zb4).trans (hcell4 4 _ rfl)
              have e5 := (hbw3.cell (p := ⟨b4, off4 + (j2 * 9 + 5), none⟩) zb4).trans (hcell4 5 _ rfl)
              have e6 := (hbw3.cell (p := ⟨b4, off4 + (j2 * 9 + 6), none⟩) zb4).trans (hcell4 6 _ rfl)
              have e7 := (hbw3.cell (p := ⟨b4, off4 + (j2 * 9 + 7), none⟩) zb4).trans (hcell4 7 _ rfl)
              have e8 := (hbw3.cell (p := ⟨b4, off4 + (j2 * 9 + 8), none⟩) zb4).trans (hcell4 8 _ rfl)
              rw [Nat.add_zero] at e0
              rw [← Nat.add_assoc] at e1 e2 e3 e4 e5 e6 e7 e8
              have zb5 : b4 < wr.heap.size := Nat.lt_of_lt_of_le zb4 hbw3.size
              have K4 := hu4 wr hbw3
              simp only [ExC.v, SL.v_mk] at K4 e8
              clear hcell4 htr4 hs4 hu4
              go_wp2_with ((with_reducible refine K4.mono ?_); rintro e w2 ⟨rfl, mz, dz, rfl⟩)
              go_roundw
              case rel => exact ⟨j2 + 1, _, hlt2, by go_num, rfl, by (repeat' (first | (with_reducible exact hb3) | (with_reducible exact Below.refl _ _) | (with_reducible refine Below.ext_mk ?_ ?_ _ _) | (with_reducible refine Below.alloc ?_ ?_ _) | (with_reducible refine Below.drew ?_) | (with_reducible refine Below.setCell ?_ ?_ _) | go_size))⟩
              case measure => simp [intOf]; omega
            · obtain rfl : j2 = n2 := by omega
              have HB3 := hid hb3
              clear hb3
              go_wp2_with fail
              go_loopw [3, 8] (fun n i wr => ∃ (j : Nat) (q : Int), j ≤ n3 ∧ i = .int .i64 j ∧ n = .int .i64 q ∧ Below Y.heap.size Y wr) (fun _ i _ => n3 - (intOf i).toNat)
              case atStart => exact ⟨0, _, by omega, rfl, rfl, HB3.out⟩
              case round =>
                obtain ⟨j2, q2, hj2, rfl, rfl, hb3⟩ := hrel
                have hb3s := hb3.size
                have t4 := (hb3.cell (p := ⟨tb, 4, none⟩) zY0).trans cY0_4
                have tz : tb < wr.heap.size := Nat.lt_of_lt_of_le zY0 hb3.size
                by_cases hlt2 : j2 < n3
                · have hj3 : (j2 : Int) < (n3 : Int) := by omega
                  obtain ⟨b4, off4, cs4, ha4, zb4, hl4, hcell4, htr4⟩ := HCS.out.2.2 j2 hlt2
                  simp only at ha4
                  subst ha4
                  have hbw3 := hWY.trans (hb3.mono hWY.size)
                  obtain ⟨m4, bo, ⟨y1, y2, y3⟩, nm4, hm4', rfl, hs4⟩ := tr_Case htr4
                  have e1 := (hbw3.cell (p := ⟨b4, off4 + (j2 * 3 + 1), none⟩) zb4).trans (hcell4 1 _ rfl)
                  have e2 := (hbw3.cell (p := ⟨b4, off4 + (j2 * 3 + 2), none⟩) zb4).trans (hcell4 2 _ rfl)
                  rw [← Nat.add_assoc] at e1 e2
                  simp only [SL.v_mk] at e1
                  have zb5 : b4 < wr.heap.size := Nat.lt_of_lt_of_le zb4 hbw3.size
                  clear hcell4 htr4 hs4
                  go_upto_region 18 with (fail)
                  refine wp_region_ext (by kernel_rfl) (by kernel_rfl) (fun F hF => ?_)
                  have HF := hid hF; clear hF
                  repeat (first
                    | (apply text_skip; (focus rfl); simp only [Act.put, List.setIfInBounds_toArray, List.set_cons_zero, List.set_cons_succ])
                    | (apply text_val; (focus rfl); (focus (intro _ _; go_simp; with_reducible rfl)); simp only [Act.put, List.setIfInBounds_toArray, List.set_cons_zero, List.set_cons_succ])
                    | (apply text_if; (focus (first | exact wanted_t rfl rfl | exact wanted_f rfl rfl | exact wanted_gt rfl rfl | exact wanted_gf rfl rfl)); (focus (intro hc _ _; (try simp only [Bool.and_eq_true, Bool.not_eq_true', Bool.true_and] at hc); go_simp; with_reducible rfl)); simp only [Act.put, List.setIfInBounds_toArray, List.set_cons_zero, List.set_cons_succ]))
                  refine text_nil (HF.out _ (fun mx dx => ?_))
                  clear HF F
                  go_wp2_with fail
                  go_roundw
                  case rel => exact ⟨j2 + 1, _, hlt2, by go_num, rfl, by (repeat' (first | (with_reducible exact hb3) | (with_reducible exact Below.refl _ _) | (with_reducible refine Below.ext_mk ?_ ?_ _ _) | (with_reducible refine Below.alloc ?_ ?_ _) | (with_reducible refine Below.drew ?_) | (with_reducible refine Below.setCell ?_ ?_ _) | go_size))⟩
                  case measure => simp [intOf]; omega
                · obtain rfl : j2 = n3 := by omega
                  have hVW := hVY.trans (hb3.mono hVY.size)
                  have HB4 := hid hVW
                  clear hb3 hVW
                  go_wp2_with fail
                  go_roundw
                  case rel => exact ⟨j + 1, _, hlt, by go_num, rfl, HB4.out⟩
                  case measure => simp [intOf]; omega
        · obtain rfl : j = sn := by omega
          have HB2 := hid hb
          clear hb
          go_wp2_with fail
          go_loopw [3, 9] (fun n i wr => ∃ (j : Nat) (q : Int), j ≤ an ∧ i = .int .i64 j ∧ n = .int .i64 q ∧ Below V.heap.size V wr) (fun _ i _ => an - (intOf i).toNat)
          case atStart => exact ⟨0, _, by omega, rfl, rfl, HB2.out⟩
          case round =>
            obtain ⟨j, q, hj, rfl, rfl, hb⟩ := hrel
            have hbs := hb.size
            have p3 := (hb.cell (p := ⟨w.heap.size, 3, none⟩) zV0).trans cV0_3
            have pz : w.heap.size < wr.heap.size := Nat.lt_of_lt_of_le zV0 hb.size
            by_cases hlt : j < an
            · have hj1 : (j : Int) < (an : Int) := by omega
              obtain ⟨b, off, cs, ha', zb, hl, hcell, htr⟩ := HT.out.acts.2.2 j hlt
              simp only at ha'
              subst ha'
              obtain ⟨m, nm, ps, bo, hm, rfl, hps, hbo⟩ := tr_Action htr
              have hbw := hWV.trans (hb.mono hWV.size)
              have d0 := (hbw.cell (p := ⟨b, off + (j * 3 + 0), none⟩) zb).trans (hcell 0 _ rfl)
              have d1 := (hbw.cell (p := ⟨b, off + (j * 3 + 1), none⟩) zb).trans (hcell 1 _ rfl)
              have d2 := (hbw.cell (p := ⟨b, off + (j * 3 + 2), none⟩) zb).trans (hcell 2 _ rfl)
              rw [Nat.add_zero] at d0
              rw [← Nat.add_assoc] at d1 d2
              have zb2 : b < wr.heap.size := Nat.lt_of_lt_of_le zb hbw.size
              obtain ⟨u, hu⟩ := fields_gives hps
              obtain ⟨u2, hu2⟩ := weighs_gives _ _ hbo
              obtain ⟨a1, n1, c1⟩ := ps
              obtain ⟨a2, n2, c2⟩ := bo
              simp only [SL.v_mk] at d1 d2 hu hu2
              have K := fun m d => hu (wr.ext m d) (Below.ext_mk hbw hbw.size m d)
              have K2 := fun m d => hu2 (wr.ext m d) (Below.ext_mk hbw hbw.size m d)
              clear hcell htr hps hbo hu hu2
              go_upto_region 22 with (fail)
              refine wp_region_ext (by kernel_rfl) (by kernel_rfl) (fun F hF => ?_)
              have HF := hid hF; clear hF
              repeat (first
                | (apply text_skip; (focus rfl); simp only [Act.put, List.setIfInBounds_toArray, List.set_cons_zero, List.set_cons_succ])
                | (apply text_val; (focus rfl); (focus (intro _ _; go_simp; with_reducible rfl)); simp only [Act.put, List.setIfInBounds_toArray, List.set_cons_zero, List.set_cons_succ])
                | (apply text_call; (focus rfl); (focus (intro _ _; go_simp; exact ⟨rfl, rfl⟩)); (focus (intro _ _; with_reducible (exact K _ _))); simp only [Act.put, List.setIfInBounds_toArray, List.set_cons_zero, List.set_cons_succ])
                | (apply text_call; (focus rfl); (focus (intro _ _; go_simp; exact ⟨rfl, rfl⟩)); (focus (intro _ _; with_reducible (exact K2 _ _))); simp only [Act.put, List.setIfInBounds_toArray, List.set_cons_zero, List.set_cons_succ])
                | (apply text_if; (focus (first | exact wanted_t rfl rfl | exact wanted_f rfl rfl | exact wanted_gt rfl rfl | exact wanted_gf rfl rfl)); (focus (intro hc _ _; (try simp only [Bool.and_eq_true, Bool.not_eq_true', Bool.true_and] at hc); go_simp; with_reducible rfl)); simp only [Act.put, List.setIfInBounds_toArray, List.set_cons_zero, List.set_cons_succ])
                | (apply text_if_call; (focus (first | exact wanted_t rfl rfl | exact wanted_f rfl rfl | exact wanted_gt rfl rfl | exact wanted_gf rfl rfl)); (focus (intro hc _ _; (try simp only [Bool.and_eq_true, Bool.not_eq_true', Bool.true_and] at hc); go_simp; exact ⟨rfl, rfl⟩)); (focus (intro hc _ _; with_reducible (exact K _ _))); simp only [Act.put, List.setIfInBounds_toArray, List.set_cons_zero, List.set_cons_succ])
                | (apply text_if_call; (focus (first | exact wanted_t rfl rfl | exact wanted_f rfl rfl | exact wanted_gt rfl rfl | exact wanted_gf rfl rfl)); (focus (intro hc _ _; (try simp only [Bool.and_eq_true, Bool.not_eq_true', Bool.true_and] at hc); go_simp; exact ⟨rfl, rfl⟩)); (focus (intro hc _ _; with_reducible (exact K2 _ _))); simp only [Act.put, List.setIfInBounds_toArray, List.set_cons_zero, List.set_cons_succ]))
              refine text_nil (HF.out _ (fun mx dx => ?_))
              clear HF F
              go_wp2_with fail
              go_roundw
              case rel => exact ⟨j + 1, _, hlt, by go_num, rfl, by (repeat' (first | (with_reducible exact hb) | (with_reducible exact Below.refl _ _) | (with_reducible refine Below.ext_mk ?_ ?_ _ _) | (with_reducible refine Below.alloc ?_ ?_ _) | (with_reducible refine Below.drew ?_) | (with_reducible refine Below.setCell ?_ ?_ _) | go_size))⟩
              case measure => simp [intOf]; omega
            · obtain rfl : j = an := by omega
              have HB3 := hid hb
              clear hb
              go_wp2_with fail
              go_loopw [3, 10] (fun n i wr => ∃ (j : Nat) (q : Int), j ≤ tn ∧ i = .int .i64 j ∧ n = .int .i64 q ∧ Below V.heap.size V wr) (fun _ i _ => tn - (intOf i).toNat)
              case atStart => exact ⟨0, _, by omega, rfl, rfl, HB3.out⟩
              case round =>
                obtain ⟨j, q, hj, rfl, rfl, hb⟩ := hrel
                have hbs := hb.size
                have p4 := (hb.cell (p := ⟨w.heap.size, 4, none⟩) zV0).trans cV0_4
                have pz : w.heap.size < wr.heap.size := Nat.lt_of_lt_of_le zV0 hb.size
                by_cases hlt : j < tn
                · have hj1 : (j : Int) < (tn : Int) := by omega
                  obtain ⟨b, off, cs, ha', zb, hl, hcell, htr⟩ := HT.out.tabs.2.2 j hlt
                  simp only at ha'
                  subst ha'
                  obtain ⟨m, nm, ks, ac, dn, da, hm, rfl, hks, hac, hda⟩ := tr_Table htr
                  have hbw := hWV.trans (hb.mono hWV.size)
                  have d0 := (hbw.cell (p := ⟨b, off + (j * 5 + 0), none⟩) zb).trans (hcell 0 _ rfl)
                  have d1 := (hbw.cell (p := ⟨b, off + (j * 5 + 1), none⟩) zb).trans (hcell 1 _ rfl)
                  have d2 := (hbw.cell (p := ⟨b, off + (j * 5 + 2), none⟩) zb).trans (hcell 2 _ rfl)
                  have d3 := (hbw.cell (p := ⟨b, off + (j * 5 + 3), none⟩) zb).trans (hcell 3 _ rfl)
                  have d4 := (hbw.cell (p := ⟨b, off + (j * 5 + 4), none⟩) zb).trans (hcell 4 _ rfl)
                  rw [Nat.add_zero] at d0
                  rw [← Nat.add_assoc] at d1 d2 d3 d4
                  have zb2 : b < wr.heap.size := Nat.lt_of_lt_of_le zb hbw.size
                  obtain ⟨u, hu⟩ := names_gives hac
                  have hkm := hks.2.1
                  have HKS := hid hks
                  obtain ⟨a1, n1, c1⟩ := ac
                  obtain ⟨a2, n2, c2⟩ := ks
                  obtain ⟨a3, n3, c3⟩ := da
                  simp only [SL.v_mk] at d1 d2 d4 hu
                  simp only at hkm
                  clear hcell htr hks hac hda
                  go_upto_region 27 with (fail)
                  refine wp_gen (fun Y hY => ?_)
                  have hbY : Below wr.heap.size wr Y := by rw [hY]; ((repeat' (first | (with_reducible exact Below.refl _ _) | (with_reducible refine Below.ext_mk ?_ ?_ _ _) | (with_reducible refine Below.alloc ?_ ?_ _) | (with_reducible refine Below.drew ?_) | (with_reducible refine Below.setCell ?_ ?_ _) | go_size)))
                  have zY0 : wr.heap.size < Y.heap.size := by rw [hY]; first | (simp; done) | (simp; omega)
                  have cY0_0 : Y.cell? ⟨wr.heap.size, 0, none⟩ = some (.string nm) := by rw [hY]; first | (go_simp; done) | (rw [World.cell?_alloc_past _ _ _ (by first | (simp; done) | (simp; omega))]; go_simp)
                  have cY0_1 : Y.cell? ⟨wr.heap.size, 1, none⟩ = some (.slice a2 n2 c2) := by rw [hY]; first | (go_simp; done) | (rw [World.cell?_alloc_past _ _ _ (by first | (simp; done) | (simp; omega))]; go_simp)
                  have cY0_2 : Y.cell? ⟨wr.heap.size, 2, none⟩ = some (.slice a1 n1 c1) := by rw [hY]; first | (go_simp; done) | (rw [World.cell?_alloc_past _ _ _ (by first | (simp; done) | (simp; omega))]; go_simp)
                  have cY0_3 : Y.cell? ⟨wr.heap.size, 3, none⟩ = some (.string dn) := by rw [hY]; first | (go_simp; done) | (rw [World.cell?_alloc_past _ _ _ (by first | (simp; done) | (simp; omega))]; go_simp)
                  have cY0_4 : Y.cell? ⟨wr.heap.size, 4, none⟩ = some (.slice a3 n3 c3) := by rw [hY]; first | (go_simp; done) | (rw [World.cell?_alloc_past _ _ _ (by first | (simp; done) | (simp; omega))]; go_simp)
                  clear hY
                  have hVY := hb.trans (hbY.mono hbs)
                  have hWY := hWV.trans (hVY.mono hWV.size)
                  have K := fun m d => hu (Y.ext m d) (Below.ext_mk hWY hWY.size m d)
                  refine wp_region_ext (by kernel_rfl) (by kernel_rfl) (fun F hF => ?_)
                  have HF := hid hF; clear hF
                  repeat (first
                    | (apply text_skip; (focus rfl); simp only [Act.put, List.setIfInBounds_toArray, List.set_cons_zero, List.set_cons_succ])
                    | (apply text_val; (focus rfl); (focus (intro _ _; go_simp; with_reducible rfl)); simp only [Act.put, List.setIfInBounds_toArray, List.set_cons_zero, List.set_cons_succ])
                    | (apply text_call; (focus rfl); (focus (intro _ _; go_simp; exact ⟨rfl, rfl⟩)); (focus (intro _ _; with_reducible (exact K _ _))); simp only [Act.put, List.setIfInBounds_toArray, List.set_cons_zero, List.set_cons_succ])
                    | (apply text_if; (focus (first | exact wanted_t rfl rfl | exact wanted_f rfl rfl | exact wanted_gt rfl rfl | exact wanted_gf rfl rfl)); (focus (intro hc _ _; (try simp only [Bool.and_eq_true, Bool.not_eq_true', Bool.true_and] at hc); go_simp; with_reducible rfl)); simp only [Act.put, List.setIfInBounds_toArray, List.set_cons_zero, List.set_cons_succ])
                    | (apply text_if_call; (focus (first | exact wanted_t rfl rfl | exact wanted_f rfl rfl | exact wanted_gt rfl rfl | exact wanted_gf rfl rfl)); (focus (intro hc _ _; (try simp only [Bool.and_eq_true, Bool.not_eq_true', Bool.true_and] at hc); go_simp; exact ⟨rfl, rfl⟩)); (focus (intro hc _ _; with_reducible (exact K _ _))); simp only [Act.put, List.setIfInBounds_toArray, List.set_cons_zero, List.set_cons_succ]))
                  refine text_nil (HF.out _ (fun mb db => ?_))
                  clear HF F
                  have hb2 : Below Y.heap.size Y (Y.ext mb db) := Below.ext_mk (Below.refl _ _) (Nat.le_refl _) _ _
                  clear d0 d1 d2 d3 d4 hu K
                  go_upto_region 28 with (fail)
                  generalize Y.ext mb db = Z at *
                  have HB4 := hid hb2
                  clear hb2
                  generalize wr.heap.size = tb at *
                  go_wp2_with fail
                  go_loopw [3, 12] (fun n i wr => ∃ (j : Nat) (q : Int), j ≤ n2 ∧ i = .int .i64 j ∧ n = .int .i64 q ∧ Below Y.heap.size Y wr) (fun _ i _ => n2 - (intOf i).toNat)
                  case atStart => exact ⟨0, _, by omega, rfl, rfl, HB4.out⟩
                  case round =>
                    obtain ⟨j2, q2, hj2, rfl, rfl, hb3⟩ := hrel
                    have hb3s := hb3.size
                    have t3 := (hb3.cell (p := ⟨tb, 1, none⟩) zY0).trans cY0_1
                    have tz : tb < wr.heap.size := Nat.lt_of_lt_of_le zY0 hb3.size
                    by_cases hlt2 : j2 < n2
                    · have hj3 : (j2 : Int) < (n2 : Int) := by omega
                      obtain ⟨b4, off4, cs4, ha4, zb4, hl4, hcell4, htr4⟩ := HKS.out.2.2 j2 hlt2
                      simp only at ha4
                      subst ha4
                      have hbw3 := hWY.trans (hb3.mono hWY.size)
                      obtain ⟨m0, hm0, hcl0, hg0⟩ := Tr.struct Try.underlying83 htr4
                      have g0 := hg0 0 _ rfl
                      obtain ⟨m4, x1, x2, x3, x4, x5, x6, x7, x8, ⟨y1, y2, y3⟩, kd4, hm4', rfl, hs4⟩ := tr_Key htr4
                      have hE : Tr enc W base sp hd m0 73 (ExC.cs ⟨x1, x2, x3, x4, x5, x6, x7, x8, ⟨y1, y2, y3⟩⟩) := by simpa [ct_Expr] using g0
                      obtain ⟨u4, hu4⟩ := weigh_gives _ ⟨x1, x2, x3, x4, x5, x6, x7, x8, ⟨y1, y2, y3⟩⟩ hE
                      have e0 := (hbw3.cell (p := ⟨b4, off4 + (j2 * 10 + 0), none⟩) zb4).trans (hcell4 0 _ rfl)
                      have e1 := (hbw3.cell (p := ⟨b4, off4 + (j2 * 10 + 1), none⟩) zb4).trans (hcell4 1 _ rfl)
                      have e2 := (hbw3.cell (p := ⟨b4, off4 + (j2 * 10 + 2), none⟩) zb4).trans (hcell4 2 _ rfl)
                      have e3 := (hbw3.cell (p := ⟨b4, off4 + (j2 * 10 + 3), none⟩) zb4).trans (hcell4 3 _ rfl)
                      have e4 := (hbw3.cell (p := ⟨b4, off4 + (j2 * 10 + 4), none⟩) zb4).trans (hcell4 4 _ rfl)
                      have e5 := (hbw3.cell (p := ⟨b4, off4 + (j2 * 10 + 5), none⟩) zb4).trans (hcell4 5 _ rfl)
                      have e6 := (hbw3.cell (p := ⟨b4, off4 + (j2 * 10 + 6), none⟩) zb4).trans (hcell4 6 _ rfl)
                      have e7 := (hbw3.cell (p := ⟨b4, off4 + (j2 * 10 + 7), none⟩) zb4).trans (hcell4 7 _ rfl)
                      have e8 := (hbw3.cell (p := ⟨b4, off4 + (j2 * 10 + 8), none⟩) zb4).trans (hcell4 8 _ rfl)
                      rw [Nat.add_zero] at e0
                      rw [← Nat.add_assoc] at e1 e2 e3 e4 e5 e6 e7 e8
                      have zb5 : b4 < wr.heap.size := Nat.lt_of_lt_of_le zb4 hbw3.size
                      have K4 := hu4 wr hbw3
                      simp only [ExC.v, SL.v_mk] at K4 e8
                      clear hcell4 htr4 hs4 hu4 g0 hg0 hE
                      go_wp2_with ((with_reducible refine K4.mono ?_); rintro e w2 ⟨rfl, mz, dz, rfl⟩)
                      go_roundw
                      case rel => exact ⟨j2 + 1, _, hlt2, by go_num, rfl, by (repeat' (first | (with_reducible exact hb3) | (with_reducible exact Below.refl _ _) | (with_reducible refine Below.ext_mk ?_ ?_ _ _) | (with_reducible refine Below.alloc ?_ ?_ _) | (with_reducible refine Below.drew ?_) | (with_reducible refine Below.setCell ?_ ?_ _) | go_size))⟩
                      case measure => simp [intOf]; omega
                    · obtain rfl : j2 = n2 := by omega
                      have hVW := hVY.trans (hb3.mono hVY.size)
                      have HB5 := hid hVW
                      clear hb3 hVW
                      go_wp2_with fail
                      go_roundw
                      case rel => exact ⟨j + 1, _, hlt, by go_num, rfl, HB5.out⟩
                      case measure => simp [intOf]; omega
                · obtain rfl : j = tn := by omega
                  have HB4 := hid (hbV.trans (hb.mono hbV.size))
                  clear hb
                  go_wp2_with fail
                  go_returns
                  exact ⟨_, Pure.of rfl HB4.out⟩
end
end Go.Proofs.Ytidnhnfmbebeaaa
