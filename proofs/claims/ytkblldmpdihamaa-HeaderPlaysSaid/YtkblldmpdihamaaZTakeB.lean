/-
  Package header: the next bit of a packet's bytes.
-/
import Derived.Test.YtkblldmpdihamaaZHeadC
import Derived.Deep.MidRow
set_option linter.unusedVariables false
set_option linter.unusedSimpArgs false
namespace Go.Proofs.Ytkblldmpdihamaa
open Go.RowKit

/-- The bit of a row of bytes. -/
def bitAt (l : List Nat) (a : Nat) : Nat := (l.getD (a / 8) 0 / 2 ^ (7 - a % 8)) % 2
theorem bitAt_le (l : List Nat) (a : Nat) : bitAt l a ≤ 1 := by unfold bitAt; omega
theorem and_one_u8 (x : Nat) (h : x < 256) : bits BinOp.and .u8 (x : Int) 1 = ((x % 2 : Nat) : Int) := by
  have : ∀ x : Fin 256, bits BinOp.and .u8 ((x.val : Nat) : Int) 1 = ((x.val % 2 : Nat) : Int) := by decide +kernel
  exact this ⟨x, h⟩

set_option maxRecDepth 100000 in
set_option maxHeartbeats 4000000 in
theorem bit1_any {k : PK} {b i0 i1 : Nat} {w : World} {l : List Nat} {a : Nat} (B : Blk w b 39 k.cs) (R : RdS w 1 k.rest (byts l)) (hl : ∀ x ∈ l, x < 256)
    (I0 : i0 < w.heap.size ∧ w.cell? ⟨i0, 0, none⟩ = some (.pointer (some ⟨b, 0, none⟩))) (I1 : Blk w i1 3 [.int .i64 (a : Int)]) (ha : a / 8 < l.length) (ha1 : a ≤ 1000000) :
    Calls Try.prog 36 #[.pointer (some ⟨i0, 0, none⟩), .pointer (some ⟨i1, 0, none⟩)] w
      (fun e w' => e = .returned (.int .u64 (bitAt l a : Int)) ∧ ∃ m d, w' = (w.setCell ⟨i1, 0, none⟩ (.int .i64 ((a : Int) + 1))).ext m d) := by
  obtain ⟨q, hq⟩ : ∃ q, q = a / 8 := ⟨_, rfl⟩
  obtain ⟨r, hr⟩ : ∃ r, r = a % 8 := ⟨_, rfl⟩
  rw [← hq] at ha
  obtain ⟨x, hx⟩ : ∃ x, l[q]? = some x := ⟨l[q], by simp [ha]⟩
  obtain ⟨rb, ro, er, zr, hrl, cr⟩ := R.one (i := q) (u := .int .u8 (x : Int)) (by simp [byts, hx])
  have hx256 := hl x (List.mem_of_getElem? hx)
  have hq' : (a : Int) / 8 = (q : Int) := by omega
  have hr' : (a : Int) % 8 = (r : Int) := by omega
  have hr8 : r < 8 := by omega
  have hv : bitAt l a = (x / 2 ^ (7 - r)) % 2 := by unfold bitAt; rw [← hq, ← hr, List.getD_eq_getElem?_getD, hx]; rfl
  have c1 := B.cell 1
  simp only [List.getElem?_cons_zero, List.getElem?_cons_succ] at c1
  have zb := B.lt
  have z1 := I1.lt
  have g1 := I1.cell 0
  have f1 := I1.free 0
  simp only [List.getElem?_cons_zero] at g1
  obtain ⟨z0, g0⟩ := I0
  have a0 : (0 : Int) ≤ (a : Int) := by omega
  have a1 : (a : Int) ≤ 1000000 := by omega
  obtain ⟨port, ⟨ra, rn, rc⟩, valid, fields, metas, dr, se, eg, ac⟩ := k
  simp only [SL.v_mk] at er hrl c1
  subst er
  have q1 : (q : Int) < (rn : Int) := by omega
  have q0 : (0 : Int) ≤ (q : Int) := by omega
  have hwq : IntKind.i64.wrap (q : Int) = (q : Int) := IntWalk.i64_in _ (by omega)
  have hw : IntKind.i64.wrap ((a : Int) + 1) = (a : Int) + 1 := IntWalk.i64_in _ (by omega)
  clear hq hr hx hl B R ha I1
  obtain ⟨X, hX⟩ : ∃ X, X = x / 2 ^ (7 - r) := ⟨_, rfl⟩
  have hX256 : X < 256 := by rw [hX]; exact Nat.lt_of_le_of_lt (Nat.div_le_self _ _) hx256
  have hand := and_one_u8 X hX256
  rw [← hX] at hv
  have HV := hid hv
  clear hv
  have hXi : (X : Int) = (x : Int) / 2 ^ (7 - r) := by rw [hX]; simp
  have et : (a : Int).tmod 8 = (r : Int) := by rw [Int.tmod_eq_emod_of_nonneg a0]; exact hr'
  obtain ⟨s, hs⟩ : ∃ s : Nat, s = 7 - r := ⟨_, rfl⟩
  have hsub : IntKind.i64.wrap (7 - (r : Int)) = (s : Int) := by rw [IntWalk.i64_in _ (by omega)]; omega
  have s7 : s ≤ 7 := by omega
  rw [← hs] at hXi
  have hand2 : bits BinOp.and .u8 ((x : Int) / 2 ^ s) 1 = ((X % 2 : Nat) : Int) := by rw [← hXi]; exact hand
  have s0 : (0 : Int) ≤ (s : Int) := by omega
  have s1 : (s : Int) ≤ 7 := by omega
  obtain ⟨Y, hY⟩ : ∃ Y : Nat, Y = X % 2 := ⟨_, rfl⟩
  rw [← hY] at hand2 HV
  have hY1 : (Y : Int) ≤ 1 := by omega
  have hY0 : (0 : Int) ≤ (Y : Int) := by omega
  clear hr' hX hXi hand hs hr8 hX256 hY
  have hsn : ((s : Int)).toNat = s := by omega
  go_enter Try.func36, Try.ntmps36
  go_upto_region 1 with (fail)
  refine wp_region_ext (by kernel_rfl) (by kernel_rfl) (fun F hF => ?_)
  have HF := hid hF; clear hF
  repeat (first
    | (apply text_skip; (focus rfl); simp only [Act.put, List.setIfInBounds_toArray, List.set_cons_zero, List.set_cons_succ])
    | (apply text_val; (focus rfl); (focus (intro _ _; go_simp; with_reducible rfl)); simp only [Act.put, List.setIfInBounds_toArray, List.set_cons_zero, List.set_cons_succ])
    | (apply text_if; (focus (first | exact wanted_t rfl rfl | exact wanted_f rfl rfl | exact wanted_gt rfl rfl | exact wanted_gf rfl rfl)); (focus (intro hc _ _; (try simp only [Bool.and_eq_true, Bool.not_eq_true', Bool.true_and] at hc); go_simp; with_reducible rfl)); simp only [Act.put, List.setIfInBounds_toArray, List.set_cons_zero, List.set_cons_succ]))
  refine text_nil (HF.out _ (fun mx dx => ?_))
  clear HF F
  go_wp2
  go_returns
  exact ⟨by rw [HV.out]; rfl, _, _, rfl⟩
end Go.Proofs.Ytkblldmpdihamaa
set_option linter.unusedVariables false
set_option linter.unusedSimpArgs false
namespace Go.Proofs.Ytkblldmpdihamaa
open Go.RowKit

/-- All blocks that were there, but these, are as they were. -/
structure Turn (w w' : World) (L : List Nat) : Prop where
  os : w'.os = w.os
  tape : w'.tape = w.tape
  output : w'.output = w.output
  size : w.heap.size ≤ w'.heap.size
  block : ∀ k, k < w.heap.size → k ∉ L → w'.heap[k]? = w.heap[k]?
theorem Turn.refl (w : World) (L : List Nat) : Turn w w L := ⟨rfl, rfl, rfl, Nat.le_refl _, fun _ _ _ => rfl⟩
theorem Turn.trans {a b c : World} {L : List Nat} (h : Turn a b L) (k : Turn b c L) : Turn a c L :=
  ⟨k.os.trans h.os, k.tape.trans h.tape, k.output.trans h.output, Nat.le_trans h.size k.size, fun i hi hn => (k.block i (Nat.lt_of_lt_of_le hi h.size) hn).trans (h.block i hi hn)⟩
/-- A block that turns is one of L, or one that was not there. -/
theorem Turn.from {a b c : World} {L M : List Nat} (h : Turn a b L) (k : Turn b c M) (hM : ∀ i ∈ M, i ∈ L ∨ a.heap.size ≤ i) : Turn a c L :=
  ⟨k.os.trans h.os, k.tape.trans h.tape, k.output.trans h.output, Nat.le_trans h.size k.size, fun i hi hn => (k.block i (Nat.lt_of_lt_of_le hi h.size) (fun hm => by
    rcases hM i hm with q | q
    · exact hn q
    · omega)).trans (h.block i hi hn)⟩
theorem Turn.weak {w w' : World} {L M : List Nat} (h : Turn w w' L) (hLM : ∀ k ∈ L, k ∈ M) : Turn w w' M := ⟨h.os, h.tape, h.output, h.size, fun k hk hn => h.block k hk (fun hm => hn (hLM k hm))⟩
theorem Turn.of_below {w w' : World} {L : List Nat} (h : Below w.heap.size w w') : Turn w w' L := ⟨h.os, h.tape, h.output, h.size, fun k hk _ => h.block k hk⟩
theorem Turn.below {w w' : World} {L : List Nat} (h : Turn w w' L) {B : Nat} (hL : ∀ k ∈ L, B ≤ k) (hB : B ≤ w.heap.size) : Below B w w' :=
  ⟨h.os, h.tape, h.output, h.size, fun k hk => h.block k (by omega) (fun hm => by have := hL k hm; omega)⟩
theorem Turn.set_ {w : World} {L : List Nat} (g i : Nat) (v : Value) (hg : g ∈ L) : Turn w (w.setCell ⟨g, i, none⟩ v) L :=
  ⟨rfl, rfl, rfl, by simp [World.setCell], fun k hk hn => Below.heap_setCell _ _ _ _ (fun e => hn (by simp at e; rw [e]; exact hg))⟩
theorem Turn.row {w : World} {L : List Nat} (g : Nat) (cs : Array Value) (hg : g ∈ L) : Turn w (w.setRow g cs) L :=
  ⟨rfl, rfl, rfl, by simp [World.setRow], fun k hk hn => by
    unfold World.setRow; simp [Array.getElem?_modify, show ¬ g = k from fun e => hn (e ▸ hg)]⟩
theorem Turn.blk {w w' : World} {L : List Nat} (h : Turn w w' L) {g : Nat} {e : TypeId} {xs : List Value} (b : Blk w g e xs) (hg : g ∉ L) : Blk w' g e xs := b.keep (h.block g b.lt hg)
theorem Turn.cell {w w' : World} {L : List Nat} (h : Turn w w' L) {b i : Nat} {v : Value} (hb : b < w.heap.size) (hn : b ∉ L) (hc : w.cell? ⟨b, i, none⟩ = some v) : w'.cell? ⟨b, i, none⟩ = some v :=
  (by simp only [World.cell?] at hc ⊢; rw [h.block b hb hn]; exact hc)

/-- A slice that lies in none of these blocks. -/
def Away (s : SL) (L : List Nat) : Prop := ∀ b off, s.a = some ⟨b, off, none⟩ → b ∉ L
theorem Turn.rd {w w' : World} {L : List Nat} (h : Turn w w' L) {n : Nat} {s : SL} {xs : List Value} (r : RdS w n s xs) (ha : Away s L) : RdS w' n s xs :=
  r.keep h.size (fun b off e z => h.block b z (ha b off e))

theorem RdS.away {w X W : World} {L L0 : List Nat} {n : Nat} {s : SL} {xs : List Value} (r : RdS w n s xs) (hbX : Below w.heap.size w X) (t : Turn X W L) (ha : Away s L0) (hL : ∀ q ∈ L, q ∈ L0 ∨ w.heap.size ≤ q) : RdS W n s xs := by
  obtain ⟨h1, h2, h3, h4⟩ := r
  refine ⟨h1, h2, h3, fun hn => ?_⟩
  obtain ⟨b, off, e1, e2, e3⟩ := h4 hn
  have hbn : b ∉ L := fun hm => (hL b hm).elim (ha b off e1) (fun q => by omega)
  have hk : W.heap[b]? = w.heap[b]? := (t.block b (Nat.lt_of_lt_of_le e2 hbX.size) hbn).trans (hbX.block b e2)
  refine ⟨b, off, e1, by have := hbX.size; have := t.size; omega, fun j u hu => ?_⟩
  have e4 := e3 j u hu
  simp only [World.cell?] at e4 ⊢
  rw [hk]; exact e4

/-- A number out of n bits from bit a on. -/
def valN (l : List Nat) (a : Nat) : Nat → BitVec 128
  | 0 => 0#128
  | n + 1 => ((valN l a n <<< 1) &&& maskOf 128) ||| ofN (bitAt l (a + n))
/-- The numbers that are taken. -/
def takeN (l : List Nat) : Nat → List Int → List (BitVec 128)
  | _, [] => []
  | a, x :: r => valN l a x.toNat :: takeN l (a + x.toNat) r
theorem takeN_length (l : List Nat) : ∀ (ws : List Int) (a : Nat), (takeN l a ws).length = ws.length
  | [], _ => rfl
  | x :: r, a => by simp [takeN, takeN_length l r]
theorem takeN_at (l : List Nat) : ∀ (ws : List Int) (a j : Nat) (hp : ∀ x ∈ ws, 0 ≤ x) (hj : j < ws.length), (takeN l a ws)[j]? = some (valN l (a + (ws.take j).sum.toNat) (ws[j]).toNat)
  | x :: r, a, 0, hp, hj => by simp [takeN]
  | x :: r, a, j + 1, hp, hj => by
    have h0 := hp x (List.mem_cons_self ..)
    have h1 := (sum_mono (fun y hy => hp y (List.mem_cons_of_mem _ hy)) j : _ ∧ (r.take j).sum ≤ r.sum)
    have := takeN_at l r (a + x.toNat) j (fun y hy => hp y (List.mem_cons_of_mem _ hy)) (by simpa using hj)
    simp only [takeN, List.getElem?_cons_succ, List.take_succ_cons, List.sum_cons, List.getElem_cons_succ]
    rw [this]
    congr 2
    omega
theorem nums_set : ∀ (l : List (BitVec 128)) (i : Nat) (n : BitVec 128), nums (l.set i n) = ((nums l).set (i * 2) (.int .u64 (hi n))).set (i * 2 + 1) (.int .u64 (lo n))
  | [], i, n => by simp [nums]
  | x :: r, 0, n => by simp [nums]
  | x :: r, i + 1, n => by
    have e : (i + 1) * 2 = i * 2 + 2 := by omega
    rw [List.set_cons_succ, nums, nums, nums_set r i n, e]
    rfl
/-- What the header's row holds behind j fields. -/
def mixN (a b : List (BitVec 128)) (j : Nat) : List (BitVec 128) := a.take j ++ b.drop j
theorem mixN_length (a b : List (BitVec 128)) (h : a.length = b.length) (j : Nat) : (mixN a b j).length = b.length := by simp [mixN]; omega
theorem mixN_set (a b : List (BitVec 128)) (h : a.length = b.length) {j : Nat} {n : BitVec 128} (hn : a[j]? = some n) : (mixN a b j).set j n = mixN a b (j + 1) := by
  obtain ⟨hj, hv⟩ := List.getElem?_eq_some_iff.1 hn
  have hl : (a.take j).length = j := by simp; omega
  have e1 : b.drop j = b[j]'(by omega) :: b.drop (j + 1) := List.drop_eq_getElem_cons (by omega)
  have e2 : a.take (j + 1) = a.take j ++ [n] := by rw [List.take_add_one, hn]; rfl
  unfold mixN
  rw [List.set_append_right _ _ (by omega), hl, Nat.sub_self, e1, List.set_cons_zero, e2, List.append_assoc]
  rfl
theorem mixN_zero (a b : List (BitVec 128)) : mixN a b 0 = b := by simp [mixN]
theorem mixN_end (a b : List (BitVec 128)) (h : a.length = b.length) : mixN a b a.length = a := by unfold mixN; rw [List.take_length, List.drop_eq_nil_of_le (by omega), List.append_nil]

/-- A number is stored in a row of numbers. -/
theorem store_num_at {w : World} (a : Act) (dst : Option Tmp) (t : TypeId) (x y : Operand) (pos : String) (after : Array Edge) (guard : Option (Nat × Bool)) {g o : Nat} {e : TypeId} {xs : List Value} {u v : Int}
    (hx : a.eval x = .pointer (some ⟨g, o, none⟩)) (hy : a.eval y = .agg #[.int .u64 u, .int .u64 v]) (hg : Blk w g e xs) (hl : o + 1 < xs.length) :
    (execOp a.eval { dst, op := .store 45 x y, type := t, pos, after, guard }).run Try.prog w = .ok .skip ((w.setCell ⟨g, o, none⟩ (.int .u64 u)).setCell ⟨g, o + 1, none⟩ (.int .u64 v)) := by
  have ht : w.there g o 2 := fun j hj => by
    refine ⟨?_, hg.free _⟩
    rw [hg.cell]
    simp
    omega
  have h := run_storeAt_mid (P := Try.prog) w g o 45 #[.int .u64 u, .int .u64 v] ht (hnum_size _ _) (by simp [Value.oneCell'])
  unfold execOp
  simp only [hx, hy, Sem.run_bind, Result.andThen_ok, h]
  rfl

/-- One bit more: the place moves on, and the number turns. -/
theorem take_step {Y wr : World} {i1 z d1 d d' : Nat} {m1 m m' : Array Obj} {u v : Value} {e e' : TypeId} {xs ys : List Value} (tq : Turn Y wr [i1, z]) (bi : Blk wr i1 e' [u]) (bz : Blk wr z e xs) (hne : z ≠ i1) :
    Turn Y (((((wr.ext m1 d1).setCell ⟨i1, 0, none⟩ v).ext m d).ext m' d').setRow z ys.toArray) [i1, z] ∧ Blk (((((wr.ext m1 d1).setCell ⟨i1, 0, none⟩ v).ext m d).ext m' d').setRow z ys.toArray) i1 e' [v] ∧
      Blk (((((wr.ext m1 d1).setCell ⟨i1, 0, none⟩ v).ext m d).ext m' d').setRow z ys.toArray) z e ys := by
  have hx : ∀ (w : World) (m : Array Obj) (d : Nat), Turn w (w.ext m d) [i1, z] := fun w m d => Turn.of_below (Below.ext_mk (Below.refl _ _) (Nat.le_refl _) _ _)
  refine ⟨tq.trans ((hx _ _ _).trans ((Turn.set_ i1 0 _ (List.mem_cons_self ..)).trans ((hx _ _ _).trans ((hx _ _ _).trans (Turn.row z _ (List.mem_cons_of_mem _ (List.mem_cons_self ..))))))), ?_, ?_⟩
  · exact Blk.farRow (((bi.ext m1 d1).set_ 0 v).ext m d |>.ext m' d') hne _
  · exact ((((bz.ext m1 d1).far (fun e => hne e.symm) 0 v).ext m d).ext m' d').row ys

/-- A field's number is stored. -/
theorem take_put {X wr : World} {g j i1 d : Nat} {m : Array Obj} {N ns : List (BitVec 128)} {n : BitVec 128} (t : Turn X wr [g, i1]) (bg : Blk wr g 45 (nums (mixN N ns j))) (hl : N.length = ns.length) (hn : N[j]? = some n) :
    Turn X ((((wr.setCell ⟨g, j * 2, none⟩ (.int .u64 (hi n))).setCell ⟨g, j * 2 + 1, none⟩ (.int .u64 (lo n)))).ext m d) [g, i1] ∧
      Blk ((((wr.setCell ⟨g, j * 2, none⟩ (.int .u64 (hi n))).setCell ⟨g, j * 2 + 1, none⟩ (.int .u64 (lo n)))).ext m d) g 45 (nums (mixN N ns (j + 1))) := by
  constructor
  · exact t.trans ((Turn.set_ g _ _ (List.mem_cons_self ..)).trans ((Turn.set_ g _ _ (List.mem_cons_self ..)).trans (Turn.of_below (Below.ext_mk (Below.refl _ _) (Nat.le_refl _) _ _))))
  · rw [← mixN_set N ns hl hn, nums_set]
    exact ((bg.set_ _ _).set_ _ _).ext m d
end Go.Proofs.Ytkblldmpdihamaa
