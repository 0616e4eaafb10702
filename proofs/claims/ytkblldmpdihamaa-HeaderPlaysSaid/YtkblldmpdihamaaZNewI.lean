/-
  Package header: New.
-/
import Derived.Test.YtkblldmpdihamaaZEmit
import Derived.Test.YtkblldmpdihamaaZInv
import Derived.Laws.MakeOwn
set_option linter.unusedVariables false
set_option linter.unusedSimpArgs false
namespace Go.Proofs.Ytkblldmpdihamaa
open Go.RowKit

theorem bool_info_some : (Try.prog.info? 4).isSome = true := by kernel_rfl
noncomputable abbrev infoBo : TypeInfo := (Try.prog.info? 4).get bool_info_some
theorem infoBo_is : Try.prog.info? 4 = some infoBo := (Option.some_get _).symm
theorem infoBo_zero : infoBo.zero = some (.bool false) := by kernel_rfl
theorem infoBo_size : infoBo.size = 1 := by kernel_rfl
theorem infoBo_bytes : infoBo.bytes = 1 := by kernel_rfl
theorem num_info_some : (Try.prog.info? 45).isSome = true := by kernel_rfl
noncomputable abbrev infoNu : TypeInfo := (Try.prog.info? 45).get num_info_some
theorem infoNu_is : Try.prog.info? 45 = some infoNu := (Option.some_get _).symm
theorem infoNu_zero : infoNu.zero = some (.agg #[.int .u64 0, .int .u64 0]) := by kernel_rfl
theorem infoNu_size : infoNu.size = 2 := by kernel_rfl
theorem infoNu_bytes : infoNu.bytes = 16 := by kernel_rfl

theorem hmake_row (t e : TypeId) (i : TypeInfo) (z : Value) (ht : Try.prog.underlying t = some (.slice e)) (hi : Try.prog.info? e = some i) (hz : i.zero = some z)
    (n : Nat) (hbytes : i.bytes * n ≤ 281474976710656) (h63 : n ≤ 9223372036854775807) (w : World) :
    (Instr.makeSlice t (.int .i64 (n : Int)) (.int .i64 (n : Int))).run Try.prog w = .ok (.slice (some ⟨w.heap.size, 0, none⟩) n n) (w.alloc (.cells (madeCells z.cells (n * i.size)) e)) := by
  have hb : (i.bytes : Int) * (n : Int) ≤ 281474976710656 := by
    have h : ((i.bytes * n : Nat) : Int) ≤ 281474976710656 := by omega
    rwa [Int.natCast_mul] at h
  have hr := run_make (P := Try.prog) w t e i z ht hi hz .i64 .i64 n n (by omega) (by omega) hb (by omega)
  simp only [Int.toNat_natCast] at hr
  exact hr
/-- A row of truths that are false; of numbers that are 0. -/
theorem make_bools (n : Nat) (hn : n ≤ 1000000) (w : World) :
    (Instr.makeSlice 35 (.int .i64 (n : Int)) (.int .i64 (n : Int))).run Try.prog w = .ok (.slice (some ⟨w.heap.size, 0, none⟩) n n) (w.alloc (.cells (bools (List.replicate n false)).toArray 4)) := by
  have h := hmake_row 35 4 infoBo (.bool false) Try.underlying35 infoBo_is infoBo_zero n (by rw [infoBo_bytes]; omega) (by omega) w
  rw [infoBo_size, Nat.mul_one] at h
  have e : madeCells (Value.bool false).cells n = (bools (List.replicate n false)).toArray := by
    unfold madeCells
    rw [show (Value.bool false).cells = #[Value.bool false] from rfl]
    apply Array.ext
    · simp [bools]
    · intro i h1 h2
      simp [bools, Nat.mod_one]
  rw [e] at h
  exact h
theorem nums_zero : ∀ n, nums (List.replicate n 0#128) = List.replicate (n * 2) (.int .u64 0)
  | 0 => rfl
  | n + 1 => by
    rw [List.replicate_succ, nums, nums_zero n, show (n + 1) * 2 = n * 2 + 1 + 1 by omega, List.replicate_succ, List.replicate_succ]
    rfl
theorem make_nums (n : Nat) (hn : n ≤ 1000000) (w : World) :
    (Instr.makeSlice 37 (.int .i64 (n : Int)) (.int .i64 (n : Int))).run Try.prog w = .ok (.slice (some ⟨w.heap.size, 0, none⟩) n n) (w.alloc (.cells (nums (List.replicate n 0#128)).toArray 45)) := by
  have h := hmake_row 37 45 infoNu (.agg #[.int .u64 0, .int .u64 0]) Try.underlying37 infoNu_is infoNu_zero n (by rw [infoNu_bytes]; omega) (by omega) w
  rw [infoNu_size] at h
  have e : madeCells (Value.agg #[.int .u64 0, .int .u64 0]).cells (n * 2) = (nums (List.replicate n 0#128)).toArray := by
    unfold madeCells
    rw [show (Value.agg #[.int .u64 0, .int .u64 0]).cells = #[Value.int .u64 0, .int .u64 0] from rfl, nums_zero]
    apply Array.ext
    · simp
    · intro i h1 h2
      have : i % 2 = 0 ∨ i % 2 = 1 := by omega
      rcases this with e | e <;> simp [e]
  rw [e] at h
  exact h
end Go.Proofs.Ytkblldmpdihamaa
set_option linter.unusedVariables false
set_option linter.unusedSimpArgs false
namespace Go.Proofs.Ytkblldmpdihamaa
open Go.RowKit

structure NewIn (w : World) (p : PG) (s : SL) (hs : List (SL × List Int)) (mn : Nat) (l : List Nat) : Prop where
  heads : HeadsAre w p.heads hs
  metas : p.metas.n = mn
  bytes : RdS w 1 s (byts l)
  few : l.length ≤ 100000
  hfew : hs.length ≤ 1000
  mfew : mn ≤ 1000
  wfew : ∀ x ∈ hs, x.2.length ≤ 1000

/-- What is true of the blocks that New makes, when some of them are made. -/
structure NewR (W w : World) (b : Nat → Bool) (r : SL) (vb mb qb : Nat) (l : List Nat) (n m : Nat) (cs0 cs : List Value) : Prop where
  below : Below W.heap.size W w
  c : b 2 = true → RdS w 1 r (byts l) ∧ Fresh W.heap.size r ∧ Lt w r
  v : b 6 = true → W.heap.size ≤ vb ∧ Blk w vb 4 (bools (List.replicate n false))
  m : b 10 = true → W.heap.size ≤ mb ∧ Blk w mb 45 (nums (List.replicate m 0#128))
  q : b 12 = true → W.heap.size ≤ qb ∧ Blk w qb 39 (if b 13 then cs else cs0)
  vm : b 6 = true → b 10 = true → vb ≠ mb
  vq : b 6 = true → b 12 = true → vb ≠ qb
  mq : b 10 = true → b 12 = true → mb ≠ qb
  rv : b 2 = true → b 6 = true → Away r [vb]
  rm : b 2 = true → b 10 = true → Away r [mb]
  rq : b 2 = true → b 12 = true → Away r [qb]
theorem NewR.congr {W w : World} {b b' : Nat → Bool} {r : SL} {vb mb qb : Nat} {l : List Nat} {n m : Nat} {cs0 cs : List Value} (h : NewR W w b r vb mb qb l n m cs0 cs)
    (e2 : b' 2 = b 2) (e6 : b' 6 = b 6) (e10 : b' 10 = b 10) (e12 : b' 12 = b 12) (e13 : b' 13 = b 13) : NewR W w b' r vb mb qb l n m cs0 cs := by
  obtain ⟨h1, h2, h3, h4, h5, h6, h7, h8, h9, h10, h11⟩ := h
  rw [← e2] at h2 h9 h10 h11
  rw [← e6] at h3 h6 h7 h9
  rw [← e10] at h4 h6 h8 h10
  rw [← e12] at h5 h7 h8 h11
  rw [← e13] at h5
  exact ⟨h1, h2, h3, h4, h5, h6, h7, h8, h9, h10, h11⟩

/-- The slots, when some operations have come up. -/
def newAct (p : PG) (port : Int) (s : SL) (pb rb : Nat) (hn mn : Nat) (cs : List Value) (b : Nat → Bool) (r : SL) (vb mb qb : Nat) : Act :=
  ⟨#[p.v, .int .i64 port, s.v, .pointer (some ⟨pb, 0, none⟩), undef, undef, .pointer (some ⟨rb, 0, none⟩), gd (b 12) (.pointer (some ⟨qb, 0, none⟩)), undef, undef,
    gd (b 0) (.int .i64 port), gd (b 1) s.v, gd (b 2) r.v, gd (b 3) (.pointer (some ⟨pb, 0, none⟩)), gd (b 4) p.heads.v, gd (b 5) (.int .i64 hn), gd (b 6) (.slice (some ⟨vb, 0, none⟩) hn hn),
    gd (b 7) (.pointer (some ⟨pb, 1, none⟩)), gd (b 8) p.metas.v, gd (b 9) (.int .i64 mn), gd (b 10) (.slice (some ⟨mb, 0, none⟩) mn mn), gd (b 11) (.agg cs.toArray),
    undef, undef, undef, undef, undef, undef, undef, undef, undef, undef, undef, undef, undef, undef, undef, undef, undef], []⟩
abbrev newCs (port : Int) (r : SL) (vb hn mb mn : Nat) : List Value := [.int .i64 port, r.v, .slice (some ⟨vb, 0, none⟩) hn hn, .slice none 0 0, .slice (some ⟨mb, 0, none⟩) mn mn, .bool false, .bool false, .int .i64 0, .bool false]
abbrev zeroCs : List Value := [.int .i64 0, .slice none 0 0, .slice none 0 0, .slice none 0 0, .slice none 0 0, .bool false, .bool false, .int .i64 0, .bool false]

def NewI (W : World) (p : PG) (port : Int) (s : SL) (pb rb hn mn : Nat) (l : List Nat) (L : Array Bool) (a : Act) (w : World) : Prop :=
  ∃ r vb mb qb, a = newAct p port s pb rb hn mn (newCs port r vb hn mb mn) (fun k => L.getD k false) r vb mb qb ∧
    NewR W w (fun k => L.getD k false) r vb mb qb l hn mn zeroCs (newCs port r vb hn mb mn)

section
variable {W w w1 : World} {b b' : Nat → Bool} {r r' : SL} {vb mb qb : Nat} {l : List Nat} {n m : Nat} {cs0 cs cs' : List Value}
theorem rd_lt {w : World} {r : SL} {l : List Nat} (h : RdS w 1 r (byts l)) (hl : 0 < l.length) {z : Nat} (hz : w.heap.size ≤ z) : Away r [z] := by
  intro q off e hm
  obtain ⟨h1, h2, h3, h4⟩ := h
  rw [byts_length] at h3
  obtain ⟨q', off', e', z', _⟩ := h4 (by omega)
  rw [e] at e'; cases e'
  simp at hm; omega
theorem lt_away {w : World} {r : SL} (h : Lt w r) {z : Nat} (hz : w.heap.size ≤ z) : Away r [z] := fun q off e hm => by
  have := h q off e
  simp at hm; omega
theorem away_fresh {r : SL} {B z : Nat} (h : Fresh B r) (hz : z < B) : Away r [z] := fun q off e hm => by
  have := h q off e
  simp at hm; omega
theorem NewR.mkV (h : NewR W w b r vb mb qb l n m cs0 cs) (o : Obj) (ho : w.alloc o = w.alloc (.cells (bools (List.replicate n false)).toArray 4)) (f13 : b 13 = false) (e2 : b' 2 = b 2) (e6 : b' 6 = true) (e10 : b' 10 = b 10) (e12 : b' 12 = b 12) (e13 : b' 13 = false) :
    NewR W (w.alloc o) b' r w.heap.size mb qb l n m cs0 cs' := by
  rw [ho]
  have hb : Below w.heap.size w (w.alloc (.cells (bools (List.replicate n false)).toArray 4)) := by (repeat' (first | (with_reducible exact Below.refl _ _) | (with_reducible refine Below.ext_mk ?_ ?_ _ _) | (with_reducible refine Below.alloc ?_ ?_ _) | (with_reducible refine Below.drew ?_) | (with_reducible refine Below.setCell ?_ ?_ _) | go_size))
  refine ⟨h.below.trans (hb.mono h.below.size), fun q => ?_, fun _ => ⟨h.below.size, Blk.new w _ _⟩, fun q => ?_, fun q => ?_, fun _ q => ?_, fun _ q => ?_, fun q q' => ?_, fun q _ => ?_, fun q q' => ?_, fun q q' => ?_⟩
  · rw [e2] at q; exact ⟨(h.c q).1.below hb, (h.c q).2.1, (h.c q).2.2.mono hb.size⟩
  · rw [e10] at q; exact ⟨(h.m q).1, (h.m q).2.below hb⟩
  · rw [e12] at q; have hq := h.q q; rw [f13] at hq; rw [e13]; exact ⟨hq.1, hq.2.below hb⟩
  · rw [e10] at q; have := (h.m q).2.lt; omega
  · rw [e12] at q; have := (h.q q).2.lt; omega
  · rw [e10] at q; rw [e12] at q'; exact h.mq q q'
  · rw [e2] at q; exact lt_away (h.c q).2.2 (Nat.le_refl _)
  · rw [e2] at q; rw [e10] at q'; exact h.rm q q'
  · rw [e2] at q; rw [e12] at q'; exact h.rq q q'
theorem NewR.mkM (h : NewR W w b r vb mb qb l n m cs0 cs) (o : Obj) (ho : w.alloc o = w.alloc (.cells (nums (List.replicate m 0#128)).toArray 45)) (f13 : b 13 = false) (e2 : b' 2 = b 2) (e6 : b' 6 = b 6) (e10 : b' 10 = true) (e12 : b' 12 = b 12) (e13 : b' 13 = false) :
    NewR W (w.alloc o) b' r vb w.heap.size qb l n m cs0 cs' := by
  rw [ho]
  have hb : Below w.heap.size w (w.alloc (.cells (nums (List.replicate m 0#128)).toArray 45)) := by (repeat' (first | (with_reducible exact Below.refl _ _) | (with_reducible refine Below.ext_mk ?_ ?_ _ _) | (with_reducible refine Below.alloc ?_ ?_ _) | (with_reducible refine Below.drew ?_) | (with_reducible refine Below.setCell ?_ ?_ _) | go_size))
  refine ⟨h.below.trans (hb.mono h.below.size), fun q => ?_, fun q => ?_, fun _ => ⟨h.below.size, Blk.new w _ _⟩, fun q => ?_, fun q _ => ?_, fun q q' => ?_, fun _ q => ?_, fun q q' => ?_, fun q _ => ?_, fun q q' => ?_⟩
  · rw [e2] at q; exact ⟨(h.c q).1.below hb, (h.c q).2.1, (h.c q).2.2.mono hb.size⟩
  · rw [e6] at q; exact ⟨(h.v q).1, (h.v q).2.below hb⟩
  · rw [e12] at q; have hq := h.q q; rw [f13] at hq; rw [e13]; exact ⟨hq.1, hq.2.below hb⟩
  · rw [e6] at q; have := (h.v q).2.lt; omega
  · rw [e6] at q; rw [e12] at q'; exact h.vq q q'
  · rw [e12] at q; have := (h.q q).2.lt; omega
  · rw [e2] at q; rw [e6] at q'; exact h.rv q q'
  · rw [e2] at q; exact lt_away (h.c q).2.2 (Nat.le_refl _)
  · rw [e2] at q; rw [e12] at q'; exact h.rq q q'
theorem NewR.mkQ (h : NewR W w b r vb mb qb l n m cs0 cs) (e2 : b' 2 = b 2) (e6 : b' 6 = b 6) (e10 : b' 10 = b 10) (e12 : b' 12 = true) (e13 : b' 13 = false) :
    NewR W (w.alloc (.cells cs0.toArray 39)) b' r vb mb w.heap.size l n m cs0 cs := by
  have hb : Below w.heap.size w (w.alloc (.cells cs0.toArray 39)) := by (repeat' (first | (with_reducible exact Below.refl _ _) | (with_reducible refine Below.ext_mk ?_ ?_ _ _) | (with_reducible refine Below.alloc ?_ ?_ _) | (with_reducible refine Below.drew ?_) | (with_reducible refine Below.setCell ?_ ?_ _) | go_size))
  refine ⟨h.below.trans (hb.mono h.below.size), fun q => ?_, fun q => ?_, fun q => ?_, fun _ => ⟨h.below.size, by rw [e13]; exact Blk.new w _ _⟩, fun q q' => ?_, fun q _ => ?_, fun q _ => ?_, fun q q' => ?_, fun q q' => ?_, fun q _ => ?_⟩
  · rw [e2] at q; exact ⟨(h.c q).1.below hb, (h.c q).2.1, (h.c q).2.2.mono hb.size⟩
  · rw [e6] at q; exact ⟨(h.v q).1, (h.v q).2.below hb⟩
  · rw [e10] at q; exact ⟨(h.m q).1, (h.m q).2.below hb⟩
  · rw [e6] at q; rw [e10] at q'; exact h.vm q q'
  · rw [e6] at q; have := (h.v q).2.lt; omega
  · rw [e10] at q; have := (h.m q).2.lt; omega
  · rw [e2] at q; rw [e6] at q'; exact h.rv q q'
  · rw [e2] at q; rw [e10] at q'; exact h.rm q q'
  · rw [e2] at q; exact lt_away (h.c q).2.2 (Nat.le_refl _)
theorem NewR.mkC (h : NewR W w b r vb mb qb l n m cs0 cs) (hb : Below w.heap.size w w1) (hr : RdS w1 1 r' (byts l)) (hf : Fresh w.heap.size r') (hlt : Lt w1 r') (f13 : b 13 = false) (e6 : b' 6 = b 6) (e10 : b' 10 = b 10) (e12 : b' 12 = b 12) (e13 : b' 13 = false) :
    NewR W w1 b' r' vb mb qb l n m cs0 cs' := by
  refine ⟨h.below.trans (hb.mono h.below.size), fun _ => ⟨hr, fun q off e => Nat.le_trans h.below.size (hf q off e), hlt⟩, fun q => ?_, fun q => ?_, fun q => ?_, fun q q' => ?_, fun q q' => ?_, fun q q' => ?_, fun _ q => ?_, fun _ q => ?_, fun _ q => ?_⟩
  · rw [e6] at q; exact ⟨(h.v q).1, (h.v q).2.below hb⟩
  · rw [e10] at q; exact ⟨(h.m q).1, (h.m q).2.below hb⟩
  · rw [e12] at q; have hq := h.q q; rw [f13] at hq; rw [e13]; exact ⟨hq.1, hq.2.below hb⟩
  · rw [e6] at q; rw [e10] at q'; exact h.vm q q'
  · rw [e6] at q; rw [e12] at q'; exact h.vq q q'
  · rw [e10] at q; rw [e12] at q'; exact h.mq q q'
  · rw [e6] at q; exact away_fresh hf (h.v q).2.lt
  · rw [e10] at q; exact away_fresh hf (h.m q).2.lt
  · rw [e12] at q; exact away_fresh hf (h.q q).2.lt
theorem NewR.mkS (h : NewR W w b r vb mb qb l n m cs0 cs) (b12 : b 12 = true) (f13 : b 13 = false) (e2 : b' 2 = b 2) (e6 : b' 6 = b 6) (e10 : b' 10 = b 10) (e12 : b' 12 = b 12) (e13 : b' 13 = true) :
    NewR W (w.setRow qb cs.toArray) b' r vb mb qb l n m cs0 cs := by
  obtain ⟨hq1, hq2⟩ := h.q b12
  rw [f13] at hq2
  have ht : Turn w (w.setRow qb cs.toArray) [qb] := Turn.row qb _ (by simp)
  refine ⟨Below.setRow h.below hq1 _, fun q => ?_, fun q => ?_, fun q => ?_, fun _ => ⟨hq1, by rw [e13]; exact hq2.row cs⟩, fun q q' => ?_, fun q q' => ?_, fun q q' => ?_, fun q q' => ?_, fun q q' => ?_, fun q q' => ?_⟩
  · rw [e2] at q; exact ⟨ht.rd (h.c q).1 (h.rq q b12), (h.c q).2.1, (h.c q).2.2.mono ht.size⟩
  · rw [e6] at q; exact ⟨(h.v q).1, (h.v q).2.farRow (fun e => h.vq q b12 e.symm) _⟩
  · rw [e10] at q; exact ⟨(h.m q).1, (h.m q).2.farRow (fun e => h.mq q b12 e.symm) _⟩
  · rw [e6] at q; rw [e10] at q'; exact h.vm q q'
  · rw [e6] at q; rw [e12] at q'; exact h.vq q q'
  · rw [e10] at q; rw [e12] at q'; exact h.mq q q'
  · rw [e2] at q; rw [e6] at q'; exact h.rv q q'
  · rw [e2] at q; rw [e10] at q'; exact h.rm q q'
  · rw [e2] at q; rw [e12] at q'; exact h.rq q q'
end
theorem pk_size (ys : List Value) (h : ys.length = 9) : (Try.prog.info? 39).map (·.size) = some ys.length := by
  have h' : (Try.prog.info? 39).map (·.size) = some 9 := by kernel_rfl
  rw [h]; exact h'
theorem gd_false (v : Value) : gd false v = undef := rfl
theorem not_up {ops : Array Oper} {L : Array Bool} {i k : Nat} (hd : Down .any ops L) (hk : k ∈ deps .any ops i) (h : L.getD k true = false) : L.getD i false = false := by
  cases hc : L.getD i false with
  | false => rfl
  | true =>
    have := hd i hc k hk
    rw [getD_false_of h] at this; cases this

theorem up_ne {L : Array Bool} (k j : Nat) (h : k ≠ j) : (L.setIfInBounds k true).getD j false = L.getD j false := getD_set_ne false h

theorem sl_info_some : (Try.prog.info? 37).isSome = true := by kernel_rfl
noncomputable abbrev infoSl : TypeInfo := (Try.prog.info? 37).get sl_info_some
theorem infoSl_is : Try.prog.info? 37 = some infoSl := (Option.some_get _).symm
theorem infoSl_zero : infoSl.zero = some (.slice none 0 0) := by kernel_rfl
theorem infoSl_size : infoSl.size = 1 := by kernel_rfl
theorem infoSl_bytes : infoSl.bytes = 24 := by kernel_rfl

/-- The packet's cells with its rows of fields. -/
abbrev newCsF (port : Int) (r : SL) (vb hn mb mn : Nat) (fv : SL) : List Value := [.int .i64 port, r.v, .slice (some ⟨vb, 0, none⟩) hn hn, fv.v, .slice (some ⟨mb, 0, none⟩) mn mn, .bool false, .bool false, .int .i64 0, .bool false]
def rowsOf (ws : List Nat) (gs : List Nat) : List Value := (List.range gs.length).map fun (i : Nat) => Value.slice (some ⟨gs.getD i 0, 0, none⟩) (ws.getD i 0) (ws.getD i 0)
theorem rowsOf_snoc (ws gs : List Nat) (z : Nat) : rowsOf ws (gs ++ [z]) = rowsOf ws gs ++ [.slice (some ⟨z, 0, none⟩) (ws.getD gs.length 0) (ws.getD gs.length 0)] := by
  unfold rowsOf
  rw [List.length_append, List.length_singleton, List.range_succ, List.map_append]
  congr 1
  · apply List.map_congr_left
    intro i hi
    have : i < gs.length := by simpa using hi
    simp [List.getD_eq_getElem?_getD, List.getElem?_append_left this]
  · simp
/-- The first rows of fields are made. -/
structure RowsAt (V wr : World) (qb : Nat) (cs : SL → List Value) (ws : List Nat) (j : Nat) (fv : SL) (G : Option Nat) (gs : List Nat) : Prop where
  len : gs.length = j
  blk : Blk wr qb 39 (cs fv)
  row : RowIs wr fv.v G 37 1 j (rowsOf ws gs)
  each : ∀ i g, gs[i]? = some g → V.heap.size ≤ g ∧ Blk wr g 45 (nums (List.replicate (ws.getD i 0) 0#128))
  nodup : gs.Nodup
  new_ : ∀ g, G = some g → V.heap.size ≤ g ∧ g ∉ gs
  turn : Turn V wr [qb]

theorem hpk_result {w : World} {fn : Func} {p : Tmp} {tmps : Array Value} {g : Nat} {e : TypeId} {xs : List Value} (h : fn.results = #[.cell p 39]) (hp : tmps.getD p undef = .pointer (some ⟨g, 0, none⟩)) (hg : Blk w g e xs) (hl : xs.length = 9) :
    (results fn tmps).run Try.prog w = .ok (.agg xs.toArray) w :=
  results_cell_row (P := Try.prog) h _ _ _ _ _ _ _ hp hg Try.underlying39 rfl (by
    have h := pk_size xs hl
    simpa using h)
/-- What New makes. -/
def NewOut (w : World) (port : Int) (l : List Nat) (ws : List Nat) (mn : Nat) (e : Ending) (w' : World) : Prop :=
  ∃ (r fv : SL) (vb mb : Nat) (G : Option Nat) (gs : List Nat), e = .returned (PK.mk port r ⟨some ⟨vb, 0, none⟩, ws.length, ws.length⟩ fv ⟨some ⟨mb, 0, none⟩, mn, mn⟩ false false 0 false).v ∧
    Below w.heap.size w w' ∧ RdS w' 1 r (byts l) ∧ Fresh w.heap.size r ∧ w.heap.size ≤ vb ∧ w.heap.size ≤ mb ∧ vb ≠ mb ∧ Away r [vb] ∧ vb ∉ gs ∧ G ≠ some vb ∧ Away r gs ∧
    Blk w' vb 4 (bools (List.replicate ws.length false)) ∧ Blk w' mb 45 (nums (List.replicate mn 0#128)) ∧
    gs.length = ws.length ∧ RowIs w' fv.v G 37 1 ws.length (rowsOf ws gs) ∧ (∀ i g, gs[i]? = some g → w.heap.size ≤ g ∧ Blk w' g 45 (nums (List.replicate (ws.getD i 0) 0#128))) ∧ gs.Nodup ∧ (∀ g, G = some g → w.heap.size ≤ g ∧ g ∉ gs) ∧ mb ∉ gs ∧ Lt w' r

set_option maxRecDepth 100000 in
set_option maxHeartbeats 8000000 in
theorem new_any {w : World} {p : PG} {s : SL} {hs : List (SL × List Int)} {mn : Nat} {l : List Nat} (port : Int) (NI : NewIn w p s hs mn l) :
    Calls Try.prog 11 #[p.v, .int .i64 port, s.v] w (NewOut w port l (hs.map fun x => x.2.length) mn) := by
  go_enter Try.func11, Try.ntmps11
  go_upto_region 1 with (fail)
  refine wp_gen (fun W hW => ?_)
  have hbW : Below w.heap.size w W := by rw [hW]; (repeat' (first | (with_reducible exact Below.refl _ _) | (with_reducible refine Below.ext_mk ?_ ?_ _ _) | (with_reducible refine Below.alloc ?_ ?_ _) | (with_reducible refine Below.drew ?_) | (with_reducible refine Below.setCell ?_ ?_ _) | go_size))
  have hc0 : W.cell? ⟨w.heap.size, 0, none⟩ = some p.heads.v := by rw [hW]; go_simp
  have hc1 : W.cell? ⟨w.heap.size, 1, none⟩ = some p.metas.v := by rw [hW]; go_simp
  have zw0 : w.heap.size < W.heap.size := by rw [hW]; first | (simp; done) | (simp; omega)
  have brb : Blk W (w.heap.size + 1) 39 zeroCs := by
    have h := Blk.new (w.alloc (.cells #[p.heads.v, p.metas.v, p.steps.v, p.acts.v, p.tabs.v, p.control.v, p.emit.v, p.n0.v, p.n1.v, p.n2.v, p.n3.v, p.n4.v] 33)) 39 zeroCs
    simp only [World.size_alloc] at h
    rw [hW]; exact h
  clear hW
  have hhl := NI.heads.len
  have hml := NI.metas
  have NIW := NI.bytes.below hbW
  have NIH := NI.heads.below hbW
  generalize hw0 : w.heap.size = w0 at *
  have HW0 := hid hw0
  clear hw0
  refine wp_region_invs (NewI W p port s w0 (w0 + 1) hs.length mn l) (by kernel_rfl) (by kernel_rfl) ?_ ?_ ?_
  · refine ⟨slNil, 0, 0, 0, ?_, ?_⟩
    · unfold newAct
      rfl
    · refine ⟨Below.drew (Below.refl _ _), ?_, ?_, ?_, ?_, ?_, ?_, ?_, ?_, ?_, ?_⟩ <;> intro h <;> exact absurd h (by decide)
  · intro L a w0' hall hI
    obtain ⟨r, vb, mb, qb, rfl, hR⟩ := hI
    have zq := (hR.q (hall 12 (by decide))).2.lt
    have bq : Blk w0' qb 39 (newCs port r vb hs.length mb mn) := by
      have h := (hR.q (hall 12 (by decide))).2
      rw [hall 13 (by decide)] at h
      exact h
    have c0 := (hR.below.cell (p := ⟨w0, 0, none⟩) zw0).trans hc0
    have zw := Nat.lt_of_lt_of_le zw0 hR.below.size
    unfold newAct
    simp only [hall 0 (by decide), hall 1 (by decide), hall 2 (by decide), hall 3 (by decide), hall 4 (by decide), hall 5 (by decide), hall 6 (by decide), hall 7 (by decide), hall 8 (by decide), hall 9 (by decide), hall 10 (by decide), hall 11 (by decide), hall 12 (by decide), gd_true]
    have HR := hid hR
    have HQ := hid bq
    clear hR bq
    go_wp2_with fail
    go_loopw [25] (fun i wr => ∃ (j : Nat) (fv : SL) (G : Option Nat) (gs : List Nat), j ≤ hs.length ∧ i = .int .i64 j ∧ RowsAt w0' wr qb (newCsF port r vb hs.length mb mn) (hs.map fun x => x.2.length) j fv G gs) (fun i _ => hs.length - (intOf i).toNat)
    case atStart => exact ⟨0, ⟨none, 0, 0⟩, none, [], by omega, rfl, rfl, HQ.out, ⟨rfl, .inl ⟨rfl, rfl, rfl⟩⟩, fun i g h => by simp at h, List.nodup_nil, fun g h => by simp at h, Turn.refl _ _⟩
    case round =>
      obtain ⟨j, fv, G, gs, hj, rfl, hRow⟩ := hrel
      have hL : ∀ q ∈ [qb], q ∈ ([] : List Nat) ∨ W.heap.size ≤ q := fun q hq => by
        simp at hq; subst hq; exact .inr (HR.out.q (hall 12 (by decide))).1
      by_cases hlt : j < hs.length
      · have hj1 : (j : Int) < (hs.length : Int) := by omega
        obtain ⟨pb, po, ep, zp, _, cp⟩ := (RdS.away NIH.row HR.out.below hRow.turn (fun b off _ => by simp : Away p.heads []) hL).one (i := j) (u := hs[j].1.v) (by simp [hlt])
        have hpe : p.heads.v = .slice (some ⟨pb, po, none⟩) hs.length p.heads.c := by unfold SL.v; rw [ep, hhl]
        have hxn := (NIH.each hs[j] (List.getElem_mem _)).int
        have hwj : (hs.map fun x => x.2.length).getD j 0 = hs[j].1.n := by simp [hlt, hxn]
        have hxf := NI.wfew hs[j] (List.getElem_mem _)
        have hhf := NI.hfew
        generalize hs[j] = x at *
        obtain ⟨⟨xa, xn, xc⟩, xl⟩ := x
        simp only [SL.v_mk] at cp hwj hxn hxf
        obtain ⟨xw, hxw⟩ : ∃ n, n = xl.length := ⟨_, rfl⟩
        rw [← hxw] at hxn hxf
        clear hxw
        subst hxn
        have b3 := hRow.blk.cell 3
        simp only [List.getElem?_cons_zero, List.getElem?_cons_succ] at b3
        have zq' := hRow.blk.lt
        rw [hpe]
        go_upto_region 5 with (fail)
        obtain ⟨W1, hW1⟩ : ∃ W1, W1 = wr.drew.alloc (.cells (nums (List.replicate xn 0#128)).toArray 45) := ⟨_, rfl⟩
        obtain ⟨W2, hW2⟩ : ∃ W2, W2 = W1.alloc (.cells #[.slice (some ⟨wr.heap.size, 0, none⟩) xn xn] 37) := ⟨_, rfl⟩
        have hd0 : Below wr.heap.size wr wr.drew := Below.drew (Below.refl _ _)
        have hB1 : Below wr.heap.size wr W1 := by rw [hW1]; (repeat' (first | (with_reducible exact Below.refl _ _) | (with_reducible refine Below.ext_mk ?_ ?_ _ _) | (with_reducible refine Below.alloc ?_ ?_ _) | (with_reducible refine Below.drew ?_) | (with_reducible refine Below.setCell ?_ ?_ _) | go_size))
        have hB2 : Below wr.heap.size wr W2 := by rw [hW2]; exact Below.alloc hB1 hB1.size _
        have hz1 : W1.heap.size = wr.heap.size + 1 := by rw [hW1]; simp
        have bN : Blk W1 wr.heap.size 45 (nums (List.replicate xn 0#128)) := by
          have h := Blk.new wr.drew 45 (nums (List.replicate xn 0#128))
          rw [hW1]; exact h
        have bS : Blk W2 W1.heap.size 37 [.slice (some ⟨wr.heap.size, 0, none⟩) xn xn] := by rw [hW2]; exact Blk.new W1 _ _
        obtain ⟨v', w1, G', r1, r2, r3, r4⟩ := append_row (P := Try.prog) 36 36 infoSl (.slice none 0 0) 24 Try.underlying36 infoSl_is infoSl_zero infoSl_size infoSl_bytes rfl (by omega) (RowIs.keep hRow.row (fun g hg => hB2.block g (RowIs.lt hRow.row g hg)))
          ⟨W1.heap.size, 0, none⟩ 1 1 [.slice (some ⟨wr.heap.size, 0, none⟩) xn xn] rfl (fun i u hu => by
            rw [hadd_off, Nat.zero_add]
            exact (bS.cell i).trans hu) (by simp [Value.oneCell']) (by omega) (by unfold maxLen; omega) (by omega)
        obtain ⟨sa', sc', rfl, _⟩ := r2.form
        have hmk : (Instr.makeSlice 37 (.int .i64 (xn : Int)) (.int .i64 (xn : Int))).run Try.prog wr.drew = .ok (.slice (some ⟨wr.heap.size, 0, none⟩) xn xn) W1 := by
          have h := make_nums xn (by omega) wr.drew
          rw [hW1]; simpa using h
        have hqG : ∀ g, G = some g → g ≠ qb := fun g hg e => by have := (hRow.new_ g hg).1; omega
        have B3 : Blk w1 qb 39 (newCsF port r vb hs.length mb mn fv) :=
          (hRow.blk.below hB2).keep (r3.block qb (by have := hB2.size; omega) (fun e => hqG qb e.symm rfl))
        have w13 := B3.cell 3
        simp only [List.getElem?_cons_zero, List.getElem?_cons_succ] at w13
        have w1f := B3.free 3
        obtain ⟨W4, hW4⟩ : ∃ W4, W4 = w1.setCell ⟨qb, 3, none⟩ (.slice sa' (j + 1) sc') := ⟨_, rfl⟩
        have C3 : ∀ w, (w = wr.drew ∨ w = W1 ∨ w = W2) → w.cell? ⟨qb, 3, none⟩ = some fv.v := fun w hw => by
          have hb : Below wr.heap.size wr w := by rcases hw with rfl | rfl | rfl; exact hd0; exact hB1; exact hB2
          exact (hb.cell (p := ⟨qb, 3, none⟩) zq').trans b3
        have D3 := hid C3
        have K1 := hid hW1
        have K2 := hid hW2
        have K4 := hid hW4
        have e2 : W1.alloc (.cells #[.slice (some ⟨wr.heap.size, 0, none⟩) xn xn] 37) = W2 := hW2.symm
        have e4 : w1.setCell ⟨qb, 3, none⟩ (.slice sa' (j + 1) sc') = W4 := hW4.symm
        have R1 := hid r1
        have HROW := hid hRow
        clear C3 hW1 hW2 hW4 r1 hRow b3
        refine wp_region_stage [4, 5, 6, 8] (fun i w => (i = 0 → w = wr.drew) ∧ (i = 1 → w = W1) ∧ (i = 2 → w = W2) ∧ (i = 3 → w = w1) ∧ (i = 4 → w = W4)) (by kernel_rfl) (by kernel_rfl) (by kernel_rfl) (by kernel_rfl) ⟨fun _ => rfl, fun h => by omega, fun h => by omega, fun h => by omega, fun h => by omega⟩ (fun F' hF' => ?_)
        have HF := hid hF'
        clear hF'
        repeat (first
          | (apply sg_any; (focus rfl); (focus rfl); (focus (intro _; go_simp; with_reducible rfl)); simp only [Act.put, List.setIfInBounds_toArray, List.set_cons_zero, List.set_cons_succ])
          | (apply sg_read 0 2; (focus rfl); (focus (decide +kernel)); (focus (decide +kernel)); (focus rfl); (focus (intro i w' l u hR; have hw : w' = wr.drew ∨ w' = W1 ∨ w' = W2 := by { rcases (show i = 0 ∨ i = 1 ∨ i = 2 by omega) with rfl | rfl | rfl; exact .inl (hR.1 rfl); exact .inr (.inl (hR.2.1 rfl)); exact .inr (.inr (hR.2.2.1 rfl)) }; have d3 := D3.out w' hw; clear hR hw; go_simp; with_reducible rfl)); simp only [Act.put, List.setIfInBounds_toArray, List.set_cons_zero, List.set_cons_succ]))
        refine sg_turn (v := .slice (some ⟨wr.heap.size, 0, none⟩) xn xn) 0 rfl rfl (fun w' hR => ?_) ?_
        · obtain rfl := hR.1 rfl
          refine ⟨W1, ?_, fun h => by omega, fun _ => rfl, fun h => by omega, fun h => by omega, fun h => by omega⟩
          go_simp
        simp only [Act.put, List.setIfInBounds_toArray, List.set_cons_zero, List.set_cons_succ]
        refine sg_turn (v := .slice (some ⟨W1.heap.size, 0, none⟩) 1 1) 1 rfl rfl (fun w' hR => ?_) ?_
        · obtain rfl := hR.2.1 rfl
          refine ⟨W2, ?_, fun h => by omega, fun h => by omega, fun _ => rfl, fun h => by omega, fun h => by omega⟩
          rw [← e2]
          go_simp
        simp only [Act.put, List.setIfInBounds_toArray, List.set_cons_zero, List.set_cons_succ]
        refine sg_turn (v := .slice sa' (j + 1) sc') 2 rfl rfl (fun w' hR => ?_) ?_
        · obtain rfl := hR.2.2.1 rfl
          exact ⟨w1, run_append_op _ _ _ _ _ _ _ _ _ R1.out, fun h => by omega, fun h => by omega, fun h => by omega, fun _ => rfl, fun h => by omega⟩
        simp only [Act.put, List.setIfInBounds_toArray, List.set_cons_zero, List.set_cons_succ]
        repeat (apply sg_any; (focus rfl); (focus rfl); (focus (intro _; go_simp; with_reducible rfl)); simp only [Act.put, List.setIfInBounds_toArray, List.set_cons_zero, List.set_cons_succ])
        refine sg_do 3 rfl rfl (fun w' hR => ?_) ?_
        · obtain rfl := hR.2.2.2.1 rfl
          refine ⟨W4, ?_, fun h => by omega, fun h => by omega, fun h => by omega, fun h => by omega, fun _ => rfl⟩
          rw [← e4]
          go_simp
        simp only [Act.put, List.setIfInBounds_toArray, List.set_cons_zero, List.set_cons_succ]
        refine sg_end (HF.out _ (fun w' hR => ?_))
        obtain rfl := hR.2.2.2.2 rfl
        clear hR HF F'
        have hW2 := K2.out
        have hG'q : G' ≠ qb := by
          rcases r4 with e | ⟨e, _⟩
          · exact hqG G' e
          · have := hB2.size; omega
        have hglt : ∀ i g, gs[i]? = some g → g < wr.heap.size ∧ g ≠ qb := fun i g hg => ⟨(HROW.out.each i g hg).2.lt, fun e => by have := (HROW.out.each i g hg).1; omega⟩
        have hGlt : ∀ g, G = some g → g < wr.heap.size := fun g hg => RowIs.lt HROW.out.row g hg
        have hz2 : W2.heap.size = W1.heap.size + 1 := by rw [hW2]; simp
        have hrows : RowsAt w0' w' qb (newCsF port r vb hs.length mb mn) (hs.map fun x => x.2.length) (j + 1) ⟨sa', j + 1, sc'⟩ (some G') (gs ++ [wr.heap.size]) := by
          refine ⟨by simp [HROW.out.len], ?_, ?_, ?_, ?_, ?_, ?_⟩
          · rw [K4.out]; exact B3.set_ 3 _
          · rw [rowsOf_snoc, HROW.out.len, hwj]
            refine RowIs.keep r2 (fun g hg => ?_)
            cases hg
            rw [K4.out]; exact Below.heap_setCell _ _ _ _ (fun e => hG'q (by simpa using e))
          · intro i g hg
            by_cases hi : i < gs.length
            · rw [List.getElem?_append_left hi] at hg
              obtain ⟨h1, h2⟩ := HROW.out.each i g hg
              refine ⟨h1, ?_⟩
              rw [K4.out]
              exact ((h2.below hB2).keep (r3.block g (by have := h2.lt; have := hB2.size; omega) (fun e => (HROW.out.new_ g e.symm).2 (List.mem_of_getElem? hg)))).far (fun e => (hglt i g hg).2 e.symm) _ _
            · have hil : i = gs.length := by
                have := (List.getElem?_eq_some_iff.1 hg).1
                simp at this; omega
              subst hil
              simp at hg
              subst hg
              refine ⟨HROW.out.turn.size, ?_⟩
              rw [K4.out, HROW.out.len, hwj]
              have hb12 : Below W1.heap.size W1 W2 := by rw [hW2]; exact Below.alloc (Below.refl _ _) (Nat.le_refl _) _
              exact ((bN.below hb12).keep (r3.block wr.heap.size (by omega) (fun e => by have := hGlt _ e.symm; omega))).far (by omega) _ _
          · rw [List.nodup_append]
            refine ⟨HROW.out.nodup, by simp, fun a ha b hb => ?_⟩
            simp at hb
            subst hb
            obtain ⟨i, hi⟩ := List.getElem?_of_mem ha
            have := (hglt i a hi).1
            omega
          · intro g hg
            cases hg
            rcases r4 with e | ⟨e, _⟩
            · have h1 := HROW.out.new_ G' e
              have h2 := hGlt G' e
              refine ⟨h1.1, fun hm => ?_⟩
              rcases List.mem_append.1 hm with hm | hm
              · exact h1.2 hm
              · simp at hm; omega
            · have h0 := HROW.out.turn.size
              refine ⟨by omega, fun hm => ?_⟩
              rcases List.mem_append.1 hm with hm | hm
              · obtain ⟨i, hi⟩ := List.getElem?_of_mem hm
                have := (hglt i G' hi).1
                omega
              · simp at hm; omega
          · rw [K4.out]
            have t1 : Turn w0' W2 [qb] := HROW.out.turn.trans (Turn.of_below hB2)
            have t2 : Turn W2 w1 G.toList := ⟨r3.os, r3.tape, r3.output, r3.size, fun k hk hn => r3.block k hk (fun e => hn (by rw [← e]; simp))⟩
            exact (t1.from t2 (fun i hi => .inr (by simp at hi; exact (HROW.out.new_ i hi).1))).trans (Turn.set_ qb _ _ (by simp))
        clear K1 K2 K4 hmk bN bS r2 r3 r4 B3 w13 w1f e2 R1 D3 hglt hGlt
        go_wp2_with fail
        go_roundw
        case rel => exact ⟨j + 1, ⟨sa', j + 1, sc'⟩, some G', gs ++ [wr.heap.size], hlt, by go_num, hrows⟩
        case measure => simp [intOf]; omega
      · obtain rfl : j = hs.length := by omega
        have zrb := brb.lt
        have hqW := (HR.out.q (hall 12 (by decide))).1
        have br1 : Blk wr (w0 + 1) 39 zeroCs := hRow.turn.blk (brb.below HR.out.below) (by simp; omega)
        have q0 := hRow.blk.cell 0
        have q1 := hRow.blk.cell 1
        have q2 := hRow.blk.cell 2
        have q3 := hRow.blk.cell 3
        have q4 := hRow.blk.cell 4
        have q5 := hRow.blk.cell 5
        have q6 := hRow.blk.cell 6
        have q7 := hRow.blk.cell 7
        have q8 := hRow.blk.cell 8
        simp only [List.getElem?_cons_zero, List.getElem?_cons_succ] at q0 q1 q2 q3 q4 q5 q6 q7 q8
        have zq' := hRow.blk.lt
        have HROW := hid hRow
        clear hRow
        go_upto_region 7 with (fail)
        refine wp_region_doc (fun F' hF' => ?_)
        have HF := hid hF'
        clear hF'
        refine doc_val rfl (by first | (go_simp; done) | (go_simp; exact ⟨rfl, rfl⟩) | (go_simp; with_reducible rfl)) ?_
        simp only [Act.put, List.setIfInBounds_toArray, List.set_cons_zero, List.set_cons_succ]
        refine doc_skip rfl (store_row_op (xs := zeroCs) (ys := newCsF port r vb hs.length mb mn fv) _ _ _ _ _ _ _ _ _ (pk_size _ rfl) rfl (by simp [Value.oneCell']) rfl rfl br1) ?_
        simp only [Act.put, List.setIfInBounds_toArray, List.set_cons_zero, List.set_cons_succ]
        refine doc_end (HF.out _ _ ?_)
        clear HF F'
        have br2 := br1.row (newCsF port r vb hs.length mb mn fv)
        go_wp2
        refine bodyPost_ret (hpk_result rfl rfl br2 rfl) rfl ?_
        have R := HR.out
        have RW := HROW.out
        have hWs : w0 + 1 < W.heap.size := zrb
        have hRs := R.below.size
        obtain ⟨C1, C2, C3⟩ := R.c (hall 2 (by decide))
        obtain ⟨V1, V2⟩ := R.v (hall 6 (by decide))
        obtain ⟨M1, M2⟩ := R.m (hall 10 (by decide))
        have nvq := R.vq (hall 6 (by decide)) (hall 12 (by decide))
        have nmq := R.mq (hall 10 (by decide)) (hall 12 (by decide))
        have T5 : Turn wr (wr.setRow (w0 + 1) (newCsF port r vb hs.length mb mn fv).toArray) [w0 + 1] := Turn.row _ _ (by simp)
        have hbl : Below w0 w wr := (hbW.trans (R.below.mono (by omega))).trans (RW.turn.below (fun k hk => by simp at hk; omega) (by omega))
        have gsb : ∀ g ∈ gs, w0'.heap.size ≤ g := fun g hg => by
          obtain ⟨i, hi⟩ := List.getElem?_of_mem hg
          exact (RW.each i g hi).1
        have rlt := C3
        have hlen : (hs.map fun x => x.2.length).length = hs.length := by simp
        refine ⟨r, fv, vb, mb, G, gs, by rw [hlen], ?_, ?_, ?_, ?_, ?_, R.vm (hall 6 (by decide)) (hall 10 (by decide)), R.rv (hall 2 (by decide)) (hall 6 (by decide)), ?_, ?_, ?_, ?_, ?_, by rw [hlen]; exact RW.len, ?_, ?_, RW.nodup, ?_, ?_, ?_⟩
        all_goals try rw [HW0.out]
        · exact Below.setRow hbl (by omega) _
        · exact T5.rd (RW.turn.rd C1 (R.rq (hall 2 (by decide)) (hall 12 (by decide)))) (fun b off e => by have := C2 b off e; simp; omega)
        · intro b off e; have := C2 b off e; omega
        · omega
        · omega
        · intro hm; have := gsb vb hm; have := V2.lt; omega
        · intro e; have := (RW.new_ vb e).1; have := V2.lt; omega
        · intro b off e hm; have := rlt b off e; have := gsb b hm; omega
        · rw [hlen]; exact T5.blk (RW.turn.blk V2 (by simp; exact nvq)) (by simp; omega)
        · exact T5.blk (RW.turn.blk M2 (by simp; exact nmq)) (by simp; omega)
        · rw [hlen]
          exact RowIs.keep RW.row (fun g hg => T5.block g (RowIs.lt RW.row g hg) (by have := (RW.new_ g hg).1; simp; omega))
        · intro i g hg
          obtain ⟨h1, h2⟩ := RW.each i g hg
          exact ⟨by omega, T5.blk h2 (by simp; omega)⟩
        · intro g hg
          obtain ⟨h1, h2⟩ := RW.new_ g hg
          exact ⟨by omega, h2⟩
        · intro hm; have := gsb mb hm; have := M2.lt; omega
        · exact C3.mono (Nat.le_trans RW.turn.size T5.size)
  -- GENERATED by gennew.py
  · refine ⟨fun L a w hn hI => ?_, ?_⟩
    · obtain ⟨r, vb, mb, qb, rfl, hR⟩ := hI
      have hup := getD_up hn.2.1
      have hB := hR.below
      have c0 := (hB.cell (p := ⟨w0, 0, none⟩) zw0).trans hc0
      have c1 := (hB.cell (p := ⟨w0, 1, none⟩) zw0).trans hc1
      have zw := Nat.lt_of_lt_of_le zw0 hB.size
      refine st_val (v := .int .i64 port) (W1 := w) rfl (by unfold newAct; simp only [gd_true]; go_simp) ?_
      refine ⟨r, vb, mb, qb, ?_, hR.congr (up_ne _ _ (by decide)) (up_ne _ _ (by decide)) (up_ne _ _ (by decide)) (up_ne _ _ (by decide)) (up_ne _ _ (by decide))⟩
      unfold newAct
      simp only [Act.put, List.setIfInBounds_toArray, List.set_cons_zero, List.set_cons_succ, hup, gd_true, up_ne 0 1 (by decide), up_ne 0 2 (by decide), up_ne 0 3 (by decide), up_ne 0 4 (by decide), up_ne 0 5 (by decide), up_ne 0 6 (by decide), up_ne 0 7 (by decide), up_ne 0 8 (by decide), up_ne 0 9 (by decide), up_ne 0 10 (by decide), up_ne 0 11 (by decide), up_ne 0 12 (by decide), up_ne 0 13 (by decide)]
    · refine ⟨fun L a w hn hI => ?_, ?_⟩
      · obtain ⟨r, vb, mb, qb, rfl, hR⟩ := hI
        have hup := getD_up hn.2.1
        have hB := hR.below
        have c0 := (hB.cell (p := ⟨w0, 0, none⟩) zw0).trans hc0
        have c1 := (hB.cell (p := ⟨w0, 1, none⟩) zw0).trans hc1
        have zw := Nat.lt_of_lt_of_le zw0 hB.size
        refine st_val (v := s.v) (W1 := w) rfl (by unfold newAct; simp only [gd_true]; go_simp) ?_
        refine ⟨r, vb, mb, qb, ?_, hR.congr (up_ne _ _ (by decide)) (up_ne _ _ (by decide)) (up_ne _ _ (by decide)) (up_ne _ _ (by decide)) (up_ne _ _ (by decide))⟩
        unfold newAct
        simp only [Act.put, List.setIfInBounds_toArray, List.set_cons_zero, List.set_cons_succ, hup, gd_true, up_ne 1 0 (by decide), up_ne 1 2 (by decide), up_ne 1 3 (by decide), up_ne 1 4 (by decide), up_ne 1 5 (by decide), up_ne 1 6 (by decide), up_ne 1 7 (by decide), up_ne 1 8 (by decide), up_ne 1 9 (by decide), up_ne 1 10 (by decide), up_ne 1 11 (by decide), up_ne 1 12 (by decide), up_ne 1 13 (by decide)]
      · refine ⟨fun L a w hn hI => ?_, ?_⟩
        · obtain ⟨r, vb, mb, qb, rfl, hR⟩ := hI
          have hup := getD_up hn.2.1
          have d1 : L.getD 1 false = true := hn.2.2.1 1 (by decide +kernel)
          have f11 := not_up hn.2.2.2 (i := 11) (k := 2) (by decide +kernel) hn.2.1
          have f13 := not_up hn.2.2.2 (i := 13) (k := 2) (by decide +kernel) hn.2.1
          refine st_call (f := 32) (args := #[s.v]) (W1 := w) rfl (by unfold newAct; simp only [gd_true, d1]; first | (go_simp; done) | (go_simp; exact ⟨rfl, rfl⟩)) ((clone_any (NIW.below hR.below) NI.few).mono ?_)
          rintro e w2 ⟨r', rfl, q1, q2, q3, q4⟩
          refine ⟨_, rfl, r', vb, mb, qb, ?_, hR.mkC q3 q1 q2 q4 f13 (up_ne _ _ (by decide)) (up_ne _ _ (by decide)) (up_ne _ _ (by decide)) ((up_ne _ _ (by decide)).trans f13)⟩
          unfold newAct
          simp only [Act.put, List.setIfInBounds_toArray, List.set_cons_zero, List.set_cons_succ, hup, gd_true, f11, gd_false, up_ne 2 0 (by decide), up_ne 2 1 (by decide), up_ne 2 3 (by decide), up_ne 2 4 (by decide), up_ne 2 5 (by decide), up_ne 2 6 (by decide), up_ne 2 7 (by decide), up_ne 2 8 (by decide), up_ne 2 9 (by decide), up_ne 2 10 (by decide), up_ne 2 11 (by decide), up_ne 2 12 (by decide), up_ne 2 13 (by decide)]
        · refine ⟨fun L a w hn hI => ?_, ?_⟩
          · obtain ⟨r, vb, mb, qb, rfl, hR⟩ := hI
            have hup := getD_up hn.2.1
            have hB := hR.below
            have c0 := (hB.cell (p := ⟨w0, 0, none⟩) zw0).trans hc0
            have c1 := (hB.cell (p := ⟨w0, 1, none⟩) zw0).trans hc1
            have zw := Nat.lt_of_lt_of_le zw0 hB.size
            refine st_val (v := .pointer (some ⟨w0, 0, none⟩)) (W1 := w) rfl (by unfold newAct; simp only [gd_true]; go_simp) ?_
            refine ⟨r, vb, mb, qb, ?_, hR.congr (up_ne _ _ (by decide)) (up_ne _ _ (by decide)) (up_ne _ _ (by decide)) (up_ne _ _ (by decide)) (up_ne _ _ (by decide))⟩
            unfold newAct
            simp only [Act.put, List.setIfInBounds_toArray, List.set_cons_zero, List.set_cons_succ, hup, gd_true, up_ne 3 0 (by decide), up_ne 3 1 (by decide), up_ne 3 2 (by decide), up_ne 3 4 (by decide), up_ne 3 5 (by decide), up_ne 3 6 (by decide), up_ne 3 7 (by decide), up_ne 3 8 (by decide), up_ne 3 9 (by decide), up_ne 3 10 (by decide), up_ne 3 11 (by decide), up_ne 3 12 (by decide), up_ne 3 13 (by decide)]
          · refine ⟨fun L a w hn hI => ?_, ?_⟩
            · obtain ⟨r, vb, mb, qb, rfl, hR⟩ := hI
              have hup := getD_up hn.2.1
              have d3 : L.getD 3 false = true := hn.2.2.1 3 (by decide +kernel)
              have hB := hR.below
              have c0 := (hB.cell (p := ⟨w0, 0, none⟩) zw0).trans hc0
              have c1 := (hB.cell (p := ⟨w0, 1, none⟩) zw0).trans hc1
              have zw := Nat.lt_of_lt_of_le zw0 hB.size
              refine st_val (v := p.heads.v) (W1 := w) rfl (by unfold newAct; simp only [gd_true, d3]; go_simp) ?_
              refine ⟨r, vb, mb, qb, ?_, hR.congr (up_ne _ _ (by decide)) (up_ne _ _ (by decide)) (up_ne _ _ (by decide)) (up_ne _ _ (by decide)) (up_ne _ _ (by decide))⟩
              unfold newAct
              simp only [Act.put, List.setIfInBounds_toArray, List.set_cons_zero, List.set_cons_succ, hup, gd_true, up_ne 4 0 (by decide), up_ne 4 1 (by decide), up_ne 4 2 (by decide), up_ne 4 3 (by decide), up_ne 4 5 (by decide), up_ne 4 6 (by decide), up_ne 4 7 (by decide), up_ne 4 8 (by decide), up_ne 4 9 (by decide), up_ne 4 10 (by decide), up_ne 4 11 (by decide), up_ne 4 12 (by decide), up_ne 4 13 (by decide)]
            · refine ⟨fun L a w hn hI => ?_, ?_⟩
              · obtain ⟨r, vb, mb, qb, rfl, hR⟩ := hI
                have hup := getD_up hn.2.1
                have d4 : L.getD 4 false = true := hn.2.2.1 4 (by decide +kernel)
                have hB := hR.below
                have c0 := (hB.cell (p := ⟨w0, 0, none⟩) zw0).trans hc0
                have c1 := (hB.cell (p := ⟨w0, 1, none⟩) zw0).trans hc1
                have zw := Nat.lt_of_lt_of_le zw0 hB.size
                refine st_val (v := .int .i64 hs.length) (W1 := w) rfl (by unfold newAct; simp only [gd_true, d4]; go_simp) ?_
                refine ⟨r, vb, mb, qb, ?_, hR.congr (up_ne _ _ (by decide)) (up_ne _ _ (by decide)) (up_ne _ _ (by decide)) (up_ne _ _ (by decide)) (up_ne _ _ (by decide))⟩
                unfold newAct
                simp only [Act.put, List.setIfInBounds_toArray, List.set_cons_zero, List.set_cons_succ, hup, gd_true, up_ne 5 0 (by decide), up_ne 5 1 (by decide), up_ne 5 2 (by decide), up_ne 5 3 (by decide), up_ne 5 4 (by decide), up_ne 5 6 (by decide), up_ne 5 7 (by decide), up_ne 5 8 (by decide), up_ne 5 9 (by decide), up_ne 5 10 (by decide), up_ne 5 11 (by decide), up_ne 5 12 (by decide), up_ne 5 13 (by decide)]
              · refine ⟨fun L a w hn hI => ?_, ?_⟩
                · obtain ⟨r, vb, mb, qb, rfl, hR⟩ := hI
                  have hup := getD_up hn.2.1
                  have d5 : L.getD 5 false = true := hn.2.2.1 5 (by decide +kernel)
                  have f11 := not_up hn.2.2.2 (i := 11) (k := 6) (by decide +kernel) hn.2.1
                  have f13 := not_up hn.2.2.2 (i := 13) (k := 6) (by decide +kernel) hn.2.1
                  have hmk := make_bools hs.length (by have := NI.hfew; omega) w
                  refine st_val (v := .slice (some ⟨w.heap.size, 0, none⟩) hs.length hs.length) (W1 := w.alloc (.cells (bools (List.replicate hs.length false)).toArray 4)) rfl (by unfold newAct; simp only [gd_true, d5]; go_simp) ?_
                  refine ⟨r, w.heap.size, mb, qb, ?_, hR.mkV _ rfl f13 (up_ne _ _ (by decide)) hup (up_ne _ _ (by decide)) (up_ne _ _ (by decide)) ((up_ne _ _ (by decide)).trans f13)⟩
                  unfold newAct
                  simp only [Act.put, List.setIfInBounds_toArray, List.set_cons_zero, List.set_cons_succ, hup, gd_true, f11, gd_false, up_ne 6 0 (by decide), up_ne 6 1 (by decide), up_ne 6 2 (by decide), up_ne 6 3 (by decide), up_ne 6 4 (by decide), up_ne 6 5 (by decide), up_ne 6 7 (by decide), up_ne 6 8 (by decide), up_ne 6 9 (by decide), up_ne 6 10 (by decide), up_ne 6 11 (by decide), up_ne 6 12 (by decide), up_ne 6 13 (by decide)]
                · refine ⟨fun L a w hn hI => ?_, ?_⟩
                  · obtain ⟨r, vb, mb, qb, rfl, hR⟩ := hI
                    have hup := getD_up hn.2.1
                    have hB := hR.below
                    have c0 := (hB.cell (p := ⟨w0, 0, none⟩) zw0).trans hc0
                    have c1 := (hB.cell (p := ⟨w0, 1, none⟩) zw0).trans hc1
                    have zw := Nat.lt_of_lt_of_le zw0 hB.size
                    refine st_val (v := .pointer (some ⟨w0, 1, none⟩)) (W1 := w) rfl (by unfold newAct; simp only [gd_true]; go_simp) ?_
                    refine ⟨r, vb, mb, qb, ?_, hR.congr (up_ne _ _ (by decide)) (up_ne _ _ (by decide)) (up_ne _ _ (by decide)) (up_ne _ _ (by decide)) (up_ne _ _ (by decide))⟩
                    unfold newAct
                    simp only [Act.put, List.setIfInBounds_toArray, List.set_cons_zero, List.set_cons_succ, hup, gd_true, up_ne 7 0 (by decide), up_ne 7 1 (by decide), up_ne 7 2 (by decide), up_ne 7 3 (by decide), up_ne 7 4 (by decide), up_ne 7 5 (by decide), up_ne 7 6 (by decide), up_ne 7 8 (by decide), up_ne 7 9 (by decide), up_ne 7 10 (by decide), up_ne 7 11 (by decide), up_ne 7 12 (by decide), up_ne 7 13 (by decide)]
                  · refine ⟨fun L a w hn hI => ?_, ?_⟩
                    · obtain ⟨r, vb, mb, qb, rfl, hR⟩ := hI
                      have hup := getD_up hn.2.1
                      have d7 : L.getD 7 false = true := hn.2.2.1 7 (by decide +kernel)
                      have hB := hR.below
                      have c0 := (hB.cell (p := ⟨w0, 0, none⟩) zw0).trans hc0
                      have c1 := (hB.cell (p := ⟨w0, 1, none⟩) zw0).trans hc1
                      have zw := Nat.lt_of_lt_of_le zw0 hB.size
                      refine st_val (v := p.metas.v) (W1 := w) rfl (by unfold newAct; simp only [gd_true, d7]; go_simp) ?_
                      refine ⟨r, vb, mb, qb, ?_, hR.congr (up_ne _ _ (by decide)) (up_ne _ _ (by decide)) (up_ne _ _ (by decide)) (up_ne _ _ (by decide)) (up_ne _ _ (by decide))⟩
                      unfold newAct
                      simp only [Act.put, List.setIfInBounds_toArray, List.set_cons_zero, List.set_cons_succ, hup, gd_true, up_ne 8 0 (by decide), up_ne 8 1 (by decide), up_ne 8 2 (by decide), up_ne 8 3 (by decide), up_ne 8 4 (by decide), up_ne 8 5 (by decide), up_ne 8 6 (by decide), up_ne 8 7 (by decide), up_ne 8 9 (by decide), up_ne 8 10 (by decide), up_ne 8 11 (by decide), up_ne 8 12 (by decide), up_ne 8 13 (by decide)]
                    · refine ⟨fun L a w hn hI => ?_, ?_⟩
                      · obtain ⟨r, vb, mb, qb, rfl, hR⟩ := hI
                        have hup := getD_up hn.2.1
                        have d8 : L.getD 8 false = true := hn.2.2.1 8 (by decide +kernel)
                        have hB := hR.below
                        have c0 := (hB.cell (p := ⟨w0, 0, none⟩) zw0).trans hc0
                        have c1 := (hB.cell (p := ⟨w0, 1, none⟩) zw0).trans hc1
                        have zw := Nat.lt_of_lt_of_le zw0 hB.size
                        refine st_val (v := .int .i64 mn) (W1 := w) rfl (by unfold newAct; simp only [gd_true, d8]; go_simp) ?_
                        refine ⟨r, vb, mb, qb, ?_, hR.congr (up_ne _ _ (by decide)) (up_ne _ _ (by decide)) (up_ne _ _ (by decide)) (up_ne _ _ (by decide)) (up_ne _ _ (by decide))⟩
                        unfold newAct
                        simp only [Act.put, List.setIfInBounds_toArray, List.set_cons_zero, List.set_cons_succ, hup, gd_true, up_ne 9 0 (by decide), up_ne 9 1 (by decide), up_ne 9 2 (by decide), up_ne 9 3 (by decide), up_ne 9 4 (by decide), up_ne 9 5 (by decide), up_ne 9 6 (by decide), up_ne 9 7 (by decide), up_ne 9 8 (by decide), up_ne 9 10 (by decide), up_ne 9 11 (by decide), up_ne 9 12 (by decide), up_ne 9 13 (by decide)]
                      · refine ⟨fun L a w hn hI => ?_, ?_⟩
                        · obtain ⟨r, vb, mb, qb, rfl, hR⟩ := hI
                          have hup := getD_up hn.2.1
                          have d9 : L.getD 9 false = true := hn.2.2.1 9 (by decide +kernel)
                          have f11 := not_up hn.2.2.2 (i := 11) (k := 10) (by decide +kernel) hn.2.1
                          have f13 := not_up hn.2.2.2 (i := 13) (k := 10) (by decide +kernel) hn.2.1
                          have hmk := make_nums mn (by have := NI.mfew; omega) w
                          refine st_val (v := .slice (some ⟨w.heap.size, 0, none⟩) mn mn) (W1 := w.alloc (.cells (nums (List.replicate mn 0#128)).toArray 45)) rfl (by unfold newAct; simp only [gd_true, d9]; go_simp) ?_
                          refine ⟨r, vb, w.heap.size, qb, ?_, hR.mkM _ rfl f13 (up_ne _ _ (by decide)) (up_ne _ _ (by decide)) hup (up_ne _ _ (by decide)) ((up_ne _ _ (by decide)).trans f13)⟩
                          unfold newAct
                          simp only [Act.put, List.setIfInBounds_toArray, List.set_cons_zero, List.set_cons_succ, hup, gd_true, f11, gd_false, up_ne 10 0 (by decide), up_ne 10 1 (by decide), up_ne 10 2 (by decide), up_ne 10 3 (by decide), up_ne 10 4 (by decide), up_ne 10 5 (by decide), up_ne 10 6 (by decide), up_ne 10 7 (by decide), up_ne 10 8 (by decide), up_ne 10 9 (by decide), up_ne 10 11 (by decide), up_ne 10 12 (by decide), up_ne 10 13 (by decide)]
                        · refine ⟨fun L a w hn hI => ?_, ?_⟩
                          · obtain ⟨r, vb, mb, qb, rfl, hR⟩ := hI
                            have hup := getD_up hn.2.1
                            have d0 : L.getD 0 false = true := hn.2.2.1 0 (by decide +kernel)
                            have d2 : L.getD 2 false = true := hn.2.2.1 2 (by decide +kernel)
                            have d6 : L.getD 6 false = true := hn.2.2.1 6 (by decide +kernel)
                            have d10 : L.getD 10 false = true := hn.2.2.1 10 (by decide +kernel)
                            have hB := hR.below
                            have c0 := (hB.cell (p := ⟨w0, 0, none⟩) zw0).trans hc0
                            have c1 := (hB.cell (p := ⟨w0, 1, none⟩) zw0).trans hc1
                            have zw := Nat.lt_of_lt_of_le zw0 hB.size
                            refine st_val (v := .agg (newCs port r vb hs.length mb mn).toArray) (W1 := w) rfl (by unfold newAct; simp only [gd_true, d0, d2, d6, d10]; go_simp) ?_
                            refine ⟨r, vb, mb, qb, ?_, hR.congr (up_ne _ _ (by decide)) (up_ne _ _ (by decide)) (up_ne _ _ (by decide)) (up_ne _ _ (by decide)) (up_ne _ _ (by decide))⟩
                            unfold newAct
                            simp only [Act.put, List.setIfInBounds_toArray, List.set_cons_zero, List.set_cons_succ, hup, gd_true, up_ne 11 0 (by decide), up_ne 11 1 (by decide), up_ne 11 2 (by decide), up_ne 11 3 (by decide), up_ne 11 4 (by decide), up_ne 11 5 (by decide), up_ne 11 6 (by decide), up_ne 11 7 (by decide), up_ne 11 8 (by decide), up_ne 11 9 (by decide), up_ne 11 10 (by decide), up_ne 11 12 (by decide), up_ne 11 13 (by decide)]
                          · refine ⟨fun L a w hn hI => ?_, ?_⟩
                            · obtain ⟨r, vb, mb, qb, rfl, hR⟩ := hI
                              have hup := getD_up hn.2.1
                              have f13 := not_up hn.2.2.2 (i := 13) (k := 12) (by decide +kernel) hn.2.1
                              refine st_val (v := .pointer (some ⟨w.heap.size, 0, none⟩)) (W1 := w.alloc (.cells zeroCs.toArray 39)) rfl (by unfold newAct; go_simp) ?_
                              refine ⟨r, vb, mb, w.heap.size, ?_, hR.mkQ (up_ne _ _ (by decide)) (up_ne _ _ (by decide)) (up_ne _ _ (by decide)) hup ((up_ne _ _ (by decide)).trans f13)⟩
                              unfold newAct
                              simp only [Act.put, List.setIfInBounds_toArray, List.set_cons_zero, List.set_cons_succ, hup, gd_true, gd_false, up_ne 12 0 (by decide), up_ne 12 1 (by decide), up_ne 12 2 (by decide), up_ne 12 3 (by decide), up_ne 12 4 (by decide), up_ne 12 5 (by decide), up_ne 12 6 (by decide), up_ne 12 7 (by decide), up_ne 12 8 (by decide), up_ne 12 9 (by decide), up_ne 12 10 (by decide), up_ne 12 11 (by decide), up_ne 12 13 (by decide)]
                            · refine ⟨fun L a w hn hI => ?_, ?_⟩
                              · obtain ⟨r, vb, mb, qb, rfl, hR⟩ := hI
                                have hup := getD_up hn.2.1
                                have d12 : L.getD 12 false = true := hn.2.2.1 12 (by decide +kernel)
                                have d11 : L.getD 11 false = true := hn.2.2.1 11 (by decide +kernel)
                                have d2 : L.getD 2 false = true := hn.2.2.1 2 (by decide +kernel)
                                have f13 := getD_false_of hn.2.1
                                have hQ := (hR.q d12).2
                                simp only [f13] at hQ
                                have hS := hR.mkS (b' := fun j => (L.setIfInBounds 13 true).getD j false) d12 f13 (up_ne _ _ (by decide)) (up_ne _ _ (by decide)) (up_ne _ _ (by decide)) (up_ne _ _ (by decide)) hup
                                unfold newAct
                                simp only [d12, d11, gd_true]
                                refine st_skip rfl (store_row_op (xs := zeroCs) (ys := newCs port r vb hs.length mb mn) _ _ _ _ _ _ _ _ _ (pk_size _ rfl) rfl (by simp [Value.oneCell']) rfl rfl hQ) ?_
                                refine ⟨r, vb, mb, qb, ?_, hS⟩
                                unfold newAct
                                simp only [Act.put, hup, d12, d11, gd_true, up_ne 13 0 (by decide), up_ne 13 1 (by decide), up_ne 13 2 (by decide), up_ne 13 3 (by decide), up_ne 13 4 (by decide), up_ne 13 5 (by decide), up_ne 13 6 (by decide), up_ne 13 7 (by decide), up_ne 13 8 (by decide), up_ne 13 9 (by decide), up_ne 13 10 (by decide), up_ne 13 11 (by decide), up_ne 13 12 (by decide)]
                              · trivial
end Go.Proofs.Ytkblldmpdihamaa
