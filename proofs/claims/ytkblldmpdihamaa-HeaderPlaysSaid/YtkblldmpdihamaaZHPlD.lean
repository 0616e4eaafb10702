/-
  HeaderPlays: the packet by the program and by the document, side by side.
-/
import Derived.Test.YtkblldmpdihamaaZHNew2
import Derived.Test.YtkblldmpdihamaaZEmitR
set_option linter.unusedVariables false
set_option linter.unusedSimpArgs false
namespace Go.Proofs.Ytkblldmpdihamaa
open Go.RowKit

/-- The two packets, side by side. -/
structure PlSt (w W : World) (p : PG) (q0 qb vb qd qg : Nat) (gs : List Nat) (port : Int) (mt : List (BitVec 128)) (S : PD) (kd : PK) : Prop where
  below : Below w.heap.size w W
  prog : Blk W q0 33 p.zs
  prg : Prg W [q0, qd, qg] qb vb gs port mt S
  doc : Doc W ([q0, qd, qg] ++ (qb :: vb :: gs)) port mt S kd
  dblk : Blk W qd 39 kd.cs
  ge : ∀ q ∈ [q0, qd, qg] ++ (qb :: vb :: gs), w.heap.size ≤ q ∧ q < W.heap.size
  sep : ∀ q ∈ [q0, qd, qg], q ∉ qb :: vb :: gs
  ne : q0 ≠ qd ∧ q0 ≠ qg ∧ qd ≠ qg
section
variable {w W W' X : World} {p : PG} {q0 qb vb qd qg : Nat} {gs : List Nat} {port : Int} {mt : List (BitVec 128)} {S S' : PD} {kd kd' : PK} {hs : List (SL × List Int)} {ms es : List Int}
theorem PlSt.more (h : PlSt w W p q0 qb vb qd qg gs port mt S kd) (hb : Below W.heap.size W W') : PlSt w W' p q0 qb vb qd qg gs port mt S kd :=
  ⟨h.below.trans (hb.mono h.below.size), h.prog.below hb, h.prg.below hb, h.doc.below hb, h.dblk.below hb, fun q hq => ⟨(h.ge q hq).1, Nat.lt_of_lt_of_le (h.ge q hq).2 hb.size⟩, h.sep, h.ne⟩
theorem PlSt.turnG (h : PlSt w W p q0 qb vb qd qg gs port mt S kd) (t : Turn W W' [qg]) : PlSt w W' p q0 qb vb qd qg gs port mt S kd :=
  ⟨h.below.trans (t.below (fun q hq => by simp at hq; subst hq; exact (h.ge q (by simp)).1) h.below.size), t.blk h.prog (by simp; exact h.ne.2.1), h.prg.turn t (fun q hq => by simp at hq; simp [hq]) (fun q hq => by simp only [List.mem_singleton] at hq; subst hq; exact h.sep q (by simp)),
    h.doc.turn t (fun q hq => by simp at hq; simp [hq]), t.blk h.dblk (by simp; exact h.ne.2.2), fun q hq => ⟨(h.ge q hq).1, Nat.lt_of_lt_of_le (h.ge q hq).2 t.size⟩, h.sep, h.ne⟩
/-- Behind a call, the document's packet laid into its variable. -/
theorem PlSt.op (h : PlSt w W p q0 qb vb qd qg gs port mt S kd) (t : Turn W W' (qb :: vb :: gs)) (P : Prg W' [q0, qd, qg] qb vb gs port mt S') (D : Doc W' ([q0, qd, qg] ++ (qb :: vb :: gs)) port mt S' kd') (hb : Below W'.heap.size W' X) :
    PlSt w (X.setRow qd kd'.cs.toArray) p q0 qb vb qd qg gs port mt S' kd' := by
  have tr : Turn X (X.setRow qd kd'.cs.toArray) [qd] := Turn.row _ _ (by simp)
  have hX : Below w.heap.size w X := (h.below.trans (t.below (fun q hq => (h.ge q (by simp only [List.mem_append]; exact .inr hq)).1) h.below.size)).trans (hb.mono (Nat.le_trans h.below.size t.size))
  have hs1 := t.size
  have hs2 := hb.size
  have hs3 := tr.size
  refine ⟨hX.trans (tr.below (fun q hq => by simp at hq; subst hq; exact (h.ge q (by simp)).1) hX.size), tr.blk ((t.blk h.prog (h.sep q0 (by simp))).below hb) (by simp; exact h.ne.1), (P.below hb).turn tr (fun q hq => by simp at hq; simp [hq]) (fun q hq => by simp only [List.mem_singleton] at hq; subst hq; exact h.sep q (by simp)),
    (D.below hb).turn tr (fun q hq => by simp at hq; simp [hq]), ((t.blk h.dblk (h.sep qd (by simp))).below hb).row _, fun q hq => ⟨(h.ge q hq).1, by have := (h.ge q hq).2; omega⟩, h.sep, h.ne⟩

/-- What calls over both packets tell. -/
structure PlK (W : World) (p : PG) (k kd : PK) (hs : List (SL × List Int)) (F : Bool) (o : List Nat) : Prop where
  same : ∀ W', Below W.heap.size W W' → Calls Try.prog 16 #[k.v, kd.v] W' (Pure (.bool true) W')
  fits : ∀ W', Below W.heap.size W W' → Calls Try.prog 9 #[p.v, k.v] W' (Pure (.bool F) W')
  rfits : ∀ W', Below W.heap.size W W' → Calls Try.prog 10 #[p.v, kd.v] W' (Pure (.bool F) W')
  emit : ∀ W', Below W.heap.size W W' → Calls Try.prog 13 #[p.v, k.v] W' (fun e w' => ∃ (r : SL) (G : Option Nat), e = .returned r.v ∧ RowIs w' r.v G 5 1 r.n (byts o) ∧ (∀ g, G = some g → W'.heap.size ≤ g) ∧ Below W'.heap.size W' w')
  remit : ∀ W', Below W.heap.size W W' → Calls Try.prog 23 #[p.v, kd.v] W' (fun e w' => ∃ r : SL, e = .returned r.v ∧ RdS w' 1 r (byts o) ∧ Below W'.heap.size W' w')
  size : ∀ W', Below W.heap.size W W' → ∀ h : Int, Calls Try.prog 21 #[p.v, .int .i64 h] W' (Pure (.int .i64 ((headAt hs h).2.sum / 8)) W')
  rsize : ∀ W', Below W.heap.size W W' → ∀ h : Int, Calls Try.prog 22 #[p.v, .int .i64 h] W' (Pure (.int .i64 ((headAt hs h).2.sum / 8)) W')
theorem few_at (MP : MayP hs ms es) (h : Int) : Few (headAt hs h).2 := by
  unfold headAt
  split
  · exact ⟨fun x hx => by simp at hx, by simp⟩
  · cases hx : hs[h.toNat]? with
    | none => exact ⟨fun x hx => by simp at hx, by simp⟩
    | some x =>
      have q := MP.heads x (List.mem_of_getElem? hx)
      exact ⟨fun y hy => by have := wok_range q.ok y hy; omega, by have := q.few; simp only [Option.getD_some]; omega⟩
theorem PlSt.k (h : PlSt w W p q0 qb vb qd qg gs port (List.replicate ms.length 0#128) S kd) (O : S.Ok hs) (H : HeadsAre w p.heads hs) (M : RdS w 1 p.metas (ints ms)) (E : RdS w 1 p.emit (ints es)) (MP : MayP hs ms es) (iH : ∀ y ∈ hs, InI64 y.2) (iM : InI64 ms) :
    ∃ (k : PK) (F : Bool) (o : List Nat), Blk W qb 39 k.cs ∧ PlK W p k kd hs F o := by
  obtain ⟨k, P, _, p1, p2, p3, p4, p5⟩ := h.prg
  obtain ⟨fs, D, hfs, d1, d2, d3, d4, d5⟩ := h.doc
  have e1 : (fsOf gs S.nss).map (fun x => x.2) = S.nss := fsOf_snd gs S.nss P.len
  have HW := fun W' (hb : Below W.heap.size W W') => H.below (h.below.trans (hb.mono h.below.size))
  have MW := fun W' (hb : Below W.heap.size W W') => M.below (h.below.trans (hb.mono h.below.size))
  have EW := fun W' (hb : Below W.heap.size W W') => E.below (h.below.trans (hb.mono h.below.size))
  have hok : HsOk hs := ⟨MP.hl, MP.heads⟩
  have hfe : fs.map (fun x => x.2) = (fsOf gs S.nss).map (fun x => x.2) := by rw [e1, hfs]
  refine ⟨k, hfitsV hs ms S.va (fsOf gs S.nss) (List.replicate ms.length 0#128), (layAll ([], 0) (emT hs S.va (fsOf gs S.nss) es es.length)).1 ++ S.l, P.blk, ?_, ?_, ?_, ?_, ?_, ?_, ?_⟩
  · intro W' hb
    have P' := P.below hb
    have D' := D.below hb
    exact same_any P'.rest D'.rest P'.vrd D'.valid P'.frd D'.frd P'.metas D'.metas e1 hfs (by have := O.va; have := O.nl; omega) (by rw [p1, d1]) (by rw [p2, d2]) (by rw [p3, d3]) (by rw [p4, d4]) (by rw [p5, d5])
  · intro W' hb
    have P' := P.below hb
    exact hfits_any ⟨HW W' hb, MW W' hb, P'.vrd, P'.frd, P'.metas, iH, iM⟩
  · intro W' hb
    have D' := D.below hb
    rw [hfits_rfits, ← rFitsV_snd hfe]
    exact rfits19_any ⟨HW W' hb, MW W' hb, D'.valid, D'.frd, D'.metas, iH, iM⟩
  · intro W' hb
    have P' := P.below hb
    exact emit_row ⟨HW W' hb, EW W' hb, P'.vrd, P'.frd, P'.rest, fun x hx y hy => by have := wok_range (MP.heads x hx).ok y hy; omega, fun x hx => by have := (MP.heads x hx).few; omega, by have := MP.el; omega, by have := O.few; omega⟩
  · intro W' hb
    have D' := D.below hb
    have hI : REmitIn W' p kd hs es S.l S.va fs := by
      refine ⟨HW W' hb, EW W' hb, D'.rest, D'.valid, D'.frd, hok, MP.el, MP.emit, O.va, ?_, ?_, by have := O.few; omega⟩
      · have := congrArg List.length hfs
        have := O.nl
        simp at *; omega
      · intro i x y hx hy
        have h1 : S.nss[i]? = some x.2 := by rw [← hfs, List.getElem?_map, hx]; rfl
        obtain ⟨y', hy', e⟩ := O.at h1
        rw [hy] at hy'
        cases hy'
        exact e
    have := remit_any hI
    rw [emT_snd hfe] at this
    exact this
  · intro W' hb h
    exact size_any (HW W' hb) h (few_at MP h)
  · intro W' hb h
    exact rsize_any (HW W' hb) h (few_at MP h)

/-- A packet that is away from all that was there, and from what came later. -/
theorem Doc.out {n : Nat} {L' : List Nat} {k : PK} (D : Doc w (List.range n) port mt S k) (h : ∀ q ∈ L', q < n ∨ w.heap.size ≤ q) : Doc w L' port mt S k := by
  have := D.more (Below.refl _ _) (M' := L'.filter (fun q => decide (w.heap.size ≤ q))) (fun q hq => by simpa using (List.mem_filter.1 hq).2)
  refine this.sub (fun q hq => ?_)
  rw [List.mem_append, List.mem_filter, List.mem_range]
  rcases h q hq with h1 | h1
  · exact .inr h1
  · exact .inl ⟨hq, by simpa using h1⟩

/-- The worlds in which the two packets are made. -/
structure PlI (V : World) (b : Nat → Bool) (w : World) (port : Int) (bs : List Nat) (hs : List (SL × List Int)) (mn : Nat) (k kd : PK) (qb qd : Nat) (wA w2 wR wR2 : World) : Prop where
  below : Below V.heap.size V w
  new : b 3 = true → NewOut wA port bs (hs.map fun x => x.2.length) mn (.returned k.v) w2 ∧ V.heap.size ≤ wA.heap.size ∧ wA.heap.size ≤ w2.heap.size ∧ Turn w2 w ((if b 10 then [qb] else []) ++ (if b 11 then [qd] else []))
  doc : b 7 = true → Doc wR2 (List.range wR.heap.size) port (List.replicate mn 0#128) (PD.new hs bs) kd ∧ w2.heap.size ≤ wR.heap.size ∧ wR.heap.size ≤ wR2.heap.size ∧ Turn wR2 w ((if b 10 then [qb] else []) ++ (if b 11 then [qd] else []))
  qb : b 8 = true → V.heap.size ≤ qb ∧ Blk w qb 39 (if b 10 then k.cs else zeroCs) ∧ (b 3 = true → qb < wA.heap.size ∨ w2.heap.size ≤ qb) ∧ (b 7 = true → qb < wR.heap.size ∨ wR2.heap.size ≤ qb) ∧ (b 9 = true → qb ≠ qd)
  qd : b 9 = true → V.heap.size ≤ qd ∧ Blk w qd 39 (if b 11 then kd.cs else zeroCs) ∧ (b 3 = true → qd < wA.heap.size ∨ w2.heap.size ≤ qd) ∧ (b 7 = true → qd < wR.heap.size ∨ wR2.heap.size ≤ qd)
section
variable {V w w' wA w2 wR wR2 : World} {b b' : Nat → Bool} {port : Int} {bs : List Nat} {mn : Nat} {k kd : PK} {qb qd : Nat}
theorem PlI.congr (h : PlI V b w port bs hs mn k kd qb qd wA w2 wR wR2) (h3 : b' 3 = b 3) (h7 : b' 7 = b 7) (h8 : b' 8 = b 8) (h9 : b' 9 = b 9) (h10 : b' 10 = b 10) (h11 : b' 11 = b 11) : PlI V b' w port bs hs mn k kd qb qd wA w2 wR wR2 := by
  obtain ⟨a1, a2, a3, a4, a5⟩ := h
  exact ⟨a1, by rw [h3, h10, h11]; exact a2, by rw [h7, h10, h11]; exact a3, by rw [h8, h10, h3, h7, h9]; exact a4, by rw [h9, h11, h3, h7]; exact a5⟩
theorem PlI.mk3 (h : PlI V b w port bs hs mn k kd qb qd wA w2 wR wR2) {k' : PK} (N : NewOut w port bs (hs.map fun x => x.2.length) mn (.returned k'.v) w') (h3 : b' 3 = true) (h7 : b' 7 = false) (h8 : b' 8 = b 8) (h9 : b' 9 = b 9) (h10 : b 10 = false) (h10' : b' 10 = false) (h11 : b 11 = false) (h11' : b' 11 = false) :
    PlI V b' w' port bs hs mn k' kd qb qd w w' wR wR2 := by
  have hB : Below w.heap.size w w' := by obtain ⟨_, _, _, _, _, _, _, q, _⟩ := N; exact q
  refine ⟨h.below.trans (hB.mono h.below.size), fun _ => ⟨N, h.below.size, hB.size, Turn.refl _ _⟩, (fun e => by rw [h7] at e; cases e), fun e => ?_, fun e => ?_⟩
  · rw [h8] at e
    obtain ⟨q1, q2, q3, q4, q5⟩ := h.qb e
    rw [h10] at q2
    refine ⟨q1, by rw [h10']; exact q2.below hB, fun _ => .inl q2.lt, (fun e => by rw [h7] at e; cases e), by rw [h9]; exact q5⟩
  · rw [h9] at e
    obtain ⟨q1, q2, q3, q4⟩ := h.qd e
    rw [h11] at q2
    refine ⟨q1, by rw [h11']; exact q2.below hB, fun _ => .inl q2.lt, (fun e => by rw [h7] at e; cases e)⟩
theorem PlI.mk7 (h : PlI V b w port bs hs mn k kd qb qd wA w2 wR wR2) {kd' : PK} (hB : Below w.heap.size w w') (D : Doc w' (List.range w.heap.size) port (List.replicate mn 0#128) (PD.new hs bs) kd') (h3 : b 3 = true) (h3' : b' 3 = true) (h7 : b' 7 = true) (h8 : b' 8 = b 8) (h9 : b' 9 = b 9) (h10 : b 10 = false) (h10' : b' 10 = false) (h11 : b 11 = false) (h11' : b' 11 = false) :
    PlI V b' w' port bs hs mn k kd' qb qd wA w2 w w' := by
  obtain ⟨n1, n2, n3, n4⟩ := h.new h3
  rw [h10, h11] at n4
  refine ⟨h.below.trans (hB.mono h.below.size), fun _ => ⟨n1, n2, n3, by rw [h10', h11']; exact n4.trans (Turn.of_below hB)⟩, fun _ => ⟨D, n4.size, hB.size, Turn.refl _ _⟩, fun e => ?_, fun e => ?_⟩
  · rw [h8] at e
    obtain ⟨q1, q2, q3, q4, q5⟩ := h.qb e
    rw [h10] at q2
    refine ⟨q1, by rw [h10']; exact q2.below hB, fun _ => q3 h3, fun _ => .inl q2.lt, by rw [h9]; exact q5⟩
  · rw [h9] at e
    obtain ⟨q1, q2, q3, q4⟩ := h.qd e
    rw [h11] at q2
    refine ⟨q1, by rw [h11']; exact q2.below hB, fun _ => q3 h3, fun _ => .inl q2.lt⟩
theorem PlI.mk8 (h : PlI V b w port bs hs mn k kd qb qd wA w2 wR wR2) (h3 : b' 3 = b 3) (h7 : b' 7 = b 7) (h8 : b' 8 = true) (h9 : b' 9 = b 9) (h10 : b 10 = false) (h10' : b' 10 = false) (h11 : b 11 = false) (h11' : b' 11 = false) :
    PlI V b' (w.alloc (.cells zeroCs.toArray 39)) port bs hs mn k kd w.heap.size qd wA w2 wR wR2 := by
  have hB : Below w.heap.size w (w.alloc (.cells zeroCs.toArray 39)) := by (repeat' (first | (with_reducible exact Below.refl _ _) | (with_reducible refine Below.ext_mk ?_ ?_ _ _) | (with_reducible refine Below.alloc ?_ ?_ _) | (with_reducible refine Below.drew ?_) | (with_reducible refine Below.setCell ?_ ?_ _) | go_size))
  refine ⟨h.below.trans (hB.mono h.below.size), fun e => ?_, fun e => ?_, fun _ => ⟨h.below.size, by rw [h10']; exact Blk.new w _ _, fun e => ?_, fun e => ?_, fun e => ?_⟩, fun e => ?_⟩
  · rw [h3] at e
    obtain ⟨n1, n2, n3, n4⟩ := h.new e
    rw [h10, h11] at n4
    exact ⟨n1, n2, n3, by rw [h10', h11']; exact n4.trans (Turn.of_below hB)⟩
  · rw [h7] at e
    obtain ⟨n1, n2, n3, n4⟩ := h.doc e
    rw [h10, h11] at n4
    exact ⟨n1, n2, n3, by rw [h10', h11']; exact n4.trans (Turn.of_below hB)⟩
  · rw [h3] at e
    exact .inr (h.new e).2.2.2.size
  · rw [h7] at e
    exact .inr (h.doc e).2.2.2.size
  · rw [h9] at e
    have := (h.qd e).2.1.lt
    omega
  · rw [h9] at e
    obtain ⟨q1, q2, q3, q4⟩ := h.qd e
    rw [h11] at q2
    refine ⟨q1, by rw [h11']; exact q2.below hB, by rw [h3]; exact q3, by rw [h7]; exact q4⟩
theorem PlI.mk9 (h : PlI V b w port bs hs mn k kd qb qd wA w2 wR wR2) (h3 : b' 3 = b 3) (h7 : b' 7 = b 7) (h8 : b' 8 = b 8) (h9 : b' 9 = true) (h10 : b 10 = false) (h10' : b' 10 = false) (h11 : b 11 = false) (h11' : b' 11 = false) :
    PlI V b' (w.alloc (.cells zeroCs.toArray 39)) port bs hs mn k kd qb w.heap.size wA w2 wR wR2 := by
  have hB : Below w.heap.size w (w.alloc (.cells zeroCs.toArray 39)) := by (repeat' (first | (with_reducible exact Below.refl _ _) | (with_reducible refine Below.ext_mk ?_ ?_ _ _) | (with_reducible refine Below.alloc ?_ ?_ _) | (with_reducible refine Below.drew ?_) | (with_reducible refine Below.setCell ?_ ?_ _) | go_size))
  refine ⟨h.below.trans (hB.mono h.below.size), fun e => ?_, fun e => ?_, fun e => ?_, fun _ => ⟨h.below.size, by rw [h11']; exact Blk.new w _ _, fun e => ?_, fun e => ?_⟩⟩
  · rw [h3] at e
    obtain ⟨n1, n2, n3, n4⟩ := h.new e
    rw [h10, h11] at n4
    exact ⟨n1, n2, n3, by rw [h10', h11']; exact n4.trans (Turn.of_below hB)⟩
  · rw [h7] at e
    obtain ⟨n1, n2, n3, n4⟩ := h.doc e
    rw [h10, h11] at n4
    exact ⟨n1, n2, n3, by rw [h10', h11']; exact n4.trans (Turn.of_below hB)⟩
  · rw [h8] at e
    obtain ⟨q1, q2, q3, q4, q5⟩ := h.qb e
    rw [h10] at q2
    refine ⟨q1, by rw [h10']; exact q2.below hB, by rw [h3]; exact q3, by rw [h7]; exact q4, fun _ => by have := q2.lt; omega⟩
  · rw [h3] at e
    exact .inr (h.new e).2.2.2.size
  · rw [h7] at e
    exact .inr (h.doc e).2.2.2.size
theorem PlI.mk10 (h : PlI V b w port bs hs mn k kd qb qd wA w2 wR wR2) (u8 : b 8 = true) (u9 : b 9 = true) (h3 : b' 3 = b 3) (h7 : b' 7 = b 7) (h8 : b' 8 = b 8) (h9 : b' 9 = b 9) (h10 : b 10 = false) (h10' : b' 10 = true) (h11 : b 11 = false) (h11' : b' 11 = false) :
    PlI V b' (w.setRow qb k.cs.toArray) port bs hs mn k kd qb qd wA w2 wR wR2 := by
  have tr : Turn w (w.setRow qb k.cs.toArray) [qb] := Turn.row _ _ (by simp)
  have Q := h.qb u8
  refine ⟨h.below.trans (tr.below (fun q hq => by simp at hq; subst hq; exact Q.1) h.below.size), fun e => ?_, fun e => ?_, fun e => ?_, fun e => ?_⟩
  · rw [h3] at e
    obtain ⟨n1, n2, n3, n4⟩ := h.new e
    rw [h10, h11] at n4
    exact ⟨n1, n2, n3, by rw [h10', h11']; exact (n4.weak (by simp)).trans tr⟩
  · rw [h7] at e
    obtain ⟨n1, n2, n3, n4⟩ := h.doc e
    rw [h10, h11] at n4
    exact ⟨n1, n2, n3, by rw [h10', h11']; exact (n4.weak (by simp)).trans tr⟩
  · obtain ⟨q1, q2, q3, q4, q5⟩ := Q
    exact ⟨q1, by rw [h10']; exact q2.row _, by rw [h3]; exact q3, by rw [h7]; exact q4, by rw [h9]; exact q5⟩
  · obtain ⟨q1, q2, q3, q4⟩ := h.qd u9
    rw [h11] at q2
    have hne := Q.2.2.2.2 u9
    exact ⟨q1, by rw [h11']; exact tr.blk q2 (by simp; exact fun e => hne e.symm), by rw [h3]; exact q3, by rw [h7]; exact q4⟩
theorem PlI.mk11 (h : PlI V b w port bs hs mn k kd qb qd wA w2 wR wR2) (u8 : b 8 = true) (u9 : b 9 = true) (h3 : b' 3 = b 3) (h7 : b' 7 = b 7) (h8 : b' 8 = b 8) (h9 : b' 9 = b 9) (h10 : b 10 = true) (h10' : b' 10 = true) (h11 : b 11 = false) (h11' : b' 11 = true) :
    PlI V b' (w.setRow qd kd.cs.toArray) port bs hs mn k kd qb qd wA w2 wR wR2 := by
  have tr : Turn w (w.setRow qd kd.cs.toArray) [qb, qd] := Turn.row _ _ (by simp)
  have tr1 : Turn w (w.setRow qd kd.cs.toArray) [qd] := Turn.row _ _ (by simp)
  have Q := h.qb u8
  have Qd := h.qd u9
  refine ⟨h.below.trans (tr1.below (fun q hq => by simp at hq; subst hq; exact Qd.1) h.below.size), fun e => ?_, fun e => ?_, fun e => ?_, fun e => ?_⟩
  · rw [h3] at e
    obtain ⟨n1, n2, n3, n4⟩ := h.new e
    rw [h10, h11] at n4
    exact ⟨n1, n2, n3, by rw [h10', h11']; exact (n4.weak (by simp)).trans tr⟩
  · rw [h7] at e
    obtain ⟨n1, n2, n3, n4⟩ := h.doc e
    rw [h10, h11] at n4
    exact ⟨n1, n2, n3, by rw [h10', h11']; exact (n4.weak (by simp)).trans tr⟩
  · obtain ⟨q1, q2, q3, q4, q5⟩ := Q
    rw [h10] at q2
    have hne := q5 u9
    exact ⟨q1, by rw [h10']; exact tr1.blk q2 (by simp; exact hne), by rw [h3]; exact q3, by rw [h7]; exact q4, by rw [h9]; exact q5⟩
  · obtain ⟨q1, q2, q3, q4⟩ := Qd
    exact ⟨q1, by rw [h11']; exact q2.row _, by rw [h3]; exact q3, by rw [h7]; exact q4⟩
/-- Both packets are made. -/
theorem PlI.fin {w0 : World} {q0 qg : Nat} (h : PlI V b w port bs hs mn k kd qb qd wA w2 wR wR2) (hup : ∀ i, i < 12 → b i = true) (hV : Below w0.heap.size w0 V) (bP : Blk V q0 33 p.zs) (h0 : w0.heap.size ≤ q0) (hg : w0.heap.size ≤ qg) (hgV : qg < V.heap.size) (hne : q0 ≠ qg)
    (hbytes : ∀ x ∈ bs, x < 256) (few : hs.length ≤ 1000000 ∧ (∀ x ∈ hs, x.2.length ≤ 1000000) ∧ bs.length ≤ 100000 ∧ mn ≤ 1000000) : ∃ (vb : Nat) (gs : List Nat), PlSt w0 w p q0 qb vb qd qg gs port (List.replicate mn 0#128) (PD.new hs bs) kd := by
  obtain ⟨N, n2, n3, n4⟩ := h.new (hup 3 (by omega))
  obtain ⟨D, d2, d3, d4⟩ := h.doc (hup 7 (by omega))
  obtain ⟨b1, b2, b3, b4, b5⟩ := h.qb (hup 8 (by omega))
  obtain ⟨c1, c2, c3, c4⟩ := h.qd (hup 9 (by omega))
  have b3 := b3 (hup 3 (by omega))
  have b4 := b4 (hup 7 (by omega))
  have b5 := b5 (hup 9 (by omega))
  have c3 := c3 (hup 3 (by omega))
  have c4 := c4 (hup 7 (by omega))
  rw [hup 10 (by omega)] at b2 n4 d4
  rw [hup 11 (by omega)] at c2 n4 d4
  simp only [if_true, List.cons_append, List.nil_append] at b2 c2 n4 d4
  obtain ⟨vb, gs, P, k1, k2, k3, k4, k5, hint, f1, l1, f2, l2, f3, l3⟩ := PktIs.of_new2 N n4 (fun q hq => by simp at hq; rcases hq with rfl | rfl; exact b3; exact c3) n3 b3 b2 hbytes (by
    refine ⟨by simpa using few.1, fun n hn => ?_, few.2.2⟩
    obtain ⟨x, hx, rfl⟩ := List.mem_map.1 hn
    exact few.2.1 x hx)
  have z0 := bP.lt
  have hws := h.below.size
  have hwV := hV.size
  have zb := b2.lt
  have zd := c2.lt
  have zw2 := n4.size
  have outM : ∀ q ∈ [q0, qd, qg], q < wA.heap.size ∨ w2.heap.size ≤ q := fun q hq => by
    simp at hq
    rcases hq with rfl | rfl | rfl
    · left; omega
    · exact c3
    · left; omega
  have aw : ∀ {s : SL}, Fresh wA.heap.size s → Lt w2 s → AwayN s [q0, qd, qg] := fun g1 g2 _ q off e hm => by
    have h1 := g1 q off e
    have h2 := g2 q off e
    rcases outM q hm with h | h <;> omega
  have hd0 : q0 ≠ qd := by omega
  have hdg : qd ≠ qg := by omega
  refine ⟨vb, gs, hV.trans (h.below.mono hwV), bP.below h.below, ⟨k, ?_, ⟨aw f1 l1, aw f2 l2, aw f3 l3⟩, k1, k2, k3, k4, k5⟩, ?_, c2, ?_, ?_, hd0, hne, hdg⟩
  · have e : (hs.map fun x => x.2.length).length = hs.length := by simp
    rw [e] at P
    exact P
  · refine ((D.out (L' := qb :: qd :: ([q0, qd, qg] ++ (qb :: vb :: gs))) (fun q hq => ?_)).turn d4 (fun q hq => by simp at hq ⊢; rcases hq with rfl | rfl; exact .inl rfl; exact .inr (.inl rfl))).sub (fun q hq => by simp only [List.mem_cons]; exact .inr (.inr hq))
    simp only [List.mem_cons, List.mem_append, List.not_mem_nil, or_false] at hq
    rcases hq with rfl | rfl | (rfl | rfl | rfl) | rfl | hq
    · exact b4
    · exact c4
    · left; omega
    · exact c4
    · left; omega
    · exact b4
    · have := hint q (by simp; exact hq)
      left; omega
  · intro q hq
    simp only [List.mem_cons, List.mem_append, List.not_mem_nil, or_false] at hq
    rcases hq with (rfl | rfl | rfl) | rfl | hq
    · exact ⟨h0, by omega⟩
    · exact ⟨by omega, zd⟩
    · exact ⟨hg, by omega⟩
    · exact ⟨by omega, zb⟩
    · have := hint q (by simp; exact hq)
      exact ⟨by omega, by omega⟩
  · intro q hq hm
    simp only [List.mem_cons] at hm
    rcases hm with rfl | hm
    · simp only [List.mem_cons, List.not_mem_nil, or_false] at hq
      rcases hq with rfl | rfl | rfl
      · omega
      · exact b5 rfl
      · omega
    · have := hint q (by simp; exact hm)
      rcases outM q hq with h | h <;> omega
end
end
end Go.Proofs.Ytkblldmpdihamaa
set_option linter.unusedVariables false
set_option linter.unusedSimpArgs false
namespace Go.Proofs.Ytkblldmpdihamaa
open Go.RowKit

-- printed by genplays.py
def plAct (p : PG) (port : Int) (si sb : SL) (x0 x1 x2 x3 x4 x5 x6 x7 x8 x9 x12 x13 x14 x15 x16 x17 x18 x19 x20 x21 x22 x23 x24 x25 x26 x27 x28 x29 x30 : Value) (b : Nat → Bool) (k kd : PK) (qb qd : Nat) : Act :=
  ⟨#[x0, x1, x2, x3, x4, x5, x6, x7, x8, x9, gd (b 8) (.pointer (some ⟨qb, 0, none⟩)), gd (b 9) (.pointer (some ⟨qd, 0, none⟩)), x12, x13, x14, x15, x16, x17, x18, x19, x20, x21, x22, x23, x24, x25, x26, x27, x28, x29, x30, gd (b 0) (p.v), gd (b 1) (.int .i64 port), gd (b 2) (si.v), gd (b 3) (k.v), gd (b 4) (p.v), gd (b 5) (.int .i64 port), gd (b 6) (sb.v), gd (b 7) (kd.v), undef, undef, undef, undef, undef, undef, undef, undef, undef, undef, undef, undef, undef, undef, undef, undef, undef, undef, undef, undef, undef, undef, undef, undef, undef, undef, undef, undef, undef, undef, undef, undef, undef, undef, undef, undef, undef, undef, undef, undef, undef, undef, undef, undef, undef, undef, undef, undef, undef, undef, undef, undef, undef, undef, undef, undef, undef, undef, undef, undef, undef, undef, undef, undef, undef, undef, undef, undef, undef, undef, undef, undef, undef, undef, undef, undef, undef, undef, undef, undef, undef, undef, undef, undef, undef, undef, undef], []⟩
def plInv (Z : World) (p : PG) (port : Int) (si sb : SL) (bs : List Nat) (hs : List (SL × List Int)) (mn : Nat) (x0 x1 x2 x3 x4 x5 x6 x7 x8 x9 x12 x13 x14 x15 x16 x17 x18 x19 x20 x21 x22 x23 x24 x25 x26 x27 x28 x29 x30 : Value) (L : Array Bool) (a : Act) (w : World) : Prop :=
  ∃ (k kd : PK) (qb qd : Nat) (wA w2 wR wR2 : World), a = plAct p port si sb x0 x1 x2 x3 x4 x5 x6 x7 x8 x9 x12 x13 x14 x15 x16 x17 x18 x19 x20 x21 x22 x23 x24 x25 x26 x27 x28 x29 x30 (fun k => L.getD k false) k kd qb qd ∧ PlI Z (fun k => L.getD k false) w port bs hs mn k kd qb qd wA w2 wR wR2
theorem wp_plays {ops : Array Oper} {id : Nat} {Q : Exit → Act → World → Prop} {x0 x1 x2 x3 x4 x5 x6 x7 x8 x9 x12 x13 x14 x15 x16 x17 x18 x19 x20 x21 x22 x23 x24 x25 x26 x27 x28 x29 x30 : Value} (Z : World) (p : PG) (port : Int) (si sb : SL) (bs : List Nat) (hs : List (SL × List Int)) (mn : Nat)
    (hm : Try.prog.follows .mixedOrders = true) (hlt : (List.range ops.size).all (fun i => (deps .any ops i).all (fun k => decide (k < i))) = true)
    (h0 : plInv Z p port si sb bs hs mn x0 x1 x2 x3 x4 x5 x6 x7 x8 x9 x12 x13 x14 x15 x16 x17 x18 x19 x20 x21 x22 x23 x24 x25 x26 x27 x28 x29 x30 (Array.replicate ops.size false) ⟨#[x0, x1, x2, x3, x4, x5, x6, x7, x8, x9, undef, undef, x12, x13, x14, x15, x16, x17, x18, x19, x20, x21, x22, x23, x24, x25, x26, x27, x28, x29, x30, undef, undef, undef, undef, undef, undef, undef, undef, undef, undef, undef, undef, undef, undef, undef, undef, undef, undef, undef, undef, undef, undef, undef, undef, undef, undef, undef, undef, undef, undef, undef, undef, undef, undef, undef, undef, undef, undef, undef, undef, undef, undef, undef, undef, undef, undef, undef, undef, undef, undef, undef, undef, undef, undef, undef, undef, undef, undef, undef, undef, undef, undef, undef, undef, undef, undef, undef, undef, undef, undef, undef, undef, undef, undef, undef, undef, undef, undef, undef, undef, undef, undef, undef, undef, undef, undef, undef, undef, undef, undef, undef, undef, undef, undef, undef], []⟩ Z.drew)
    (hfin : ∀ (L : Array Bool) (a : Act) (w : World), (∀ j, j < ops.size → L.getD j false = true) → plInv Z p port si sb bs hs mn x0 x1 x2 x3 x4 x5 x6 x7 x8 x9 x12 x13 x14 x15 x16 x17 x18 x19 x20 x21 x22 x23 x24 x25 x26 x27 x28 x29 x30 L a w → Q .normal a w)
    (hs' : InvSteps Try.prog ops (plInv Z p port si sb bs hs mn x0 x1 x2 x3 x4 x5 x6 x7 x8 x9 x12 x13 x14 x15 x16 x17 x18 x19 x20 x21 x22 x23 x24 x25 x26 x27 x28 x29 x30) 0 ops.toList) : (Code.region id ops true).wp Try.prog Q ⟨#[x0, x1, x2, x3, x4, x5, x6, x7, x8, x9, undef, undef, x12, x13, x14, x15, x16, x17, x18, x19, x20, x21, x22, x23, x24, x25, x26, x27, x28, x29, x30, undef, undef, undef, undef, undef, undef, undef, undef, undef, undef, undef, undef, undef, undef, undef, undef, undef, undef, undef, undef, undef, undef, undef, undef, undef, undef, undef, undef, undef, undef, undef, undef, undef, undef, undef, undef, undef, undef, undef, undef, undef, undef, undef, undef, undef, undef, undef, undef, undef, undef, undef, undef, undef, undef, undef, undef, undef, undef, undef, undef, undef, undef, undef, undef, undef, undef, undef, undef, undef, undef, undef, undef, undef, undef, undef, undef, undef, undef, undef, undef, undef, undef, undef, undef, undef, undef, undef, undef, undef, undef, undef, undef, undef, undef, undef], []⟩ Z :=
  wp_region_invs (plInv Z p port si sb bs hs mn x0 x1 x2 x3 x4 x5 x6 x7 x8 x9 x12 x13 x14 x15 x16 x17 x18 x19 x20 x21 x22 x23 x24 x25 x26 x27 x28 x29 x30) hm hlt h0 hfin hs'

-- printed by genplays.py
def gx (c : Bool) (v y : Value) : Value := if c then v else y
theorem gx_true (v y : Value) : gx true v y = v := rfl
theorem gx_false (v y : Value) : gx false v y = y := rfl
def pmAct (p : PG) (r : SL) (kd : PK) (o : List Nat) (x0 x1 x2 x3 x4 x5 x6 x7 x8 x9 x10 x11 x12 x13 x14 x15 x16 x17 x18 x19 x20 x21 x22 x23 x24 x25 x26 x27 x28 x29 x30 x31 x32 x33 x34 x35 x36 x37 x38 x39 x40 x41 x42 x43 x44 x45 x46 x47 x48 x49 x50 x51 x52 x53 x54 x55 x56 x57 x58 x59 x60 x61 x62 x63 x64 x65 x66 x67 x68 x69 x70 x71 x72 x73 x74 x75 x76 x77 x78 x79 x80 x81 x82 x83 x84 x85 x86 x87 x88 x89 x90 x91 x92 x93 x94 x95 x96 x97 x98 x99 x100 x101 x102 x103 x104 x105 x106 x107 x108 x109 x110 x111 x112 x113 x114 x115 x116 x117 x118 x119 x120 x121 x122 x123 x124 x125 : Value) (b : Nat → Bool) (r' : SL) : Act :=
  ⟨#[x0, x1, x2, x3, x4, x5, x6, x7, x8, x9, x10, x11, x12, x13, x14, x15, x16, x17, x18, x19, x20, x21, x22, x23, x24, x25, x26, x27, x28, x29, x30, x31, x32, x33, x34, x35, x36, x37, x38, x39, x40, x41, x42, x43, x44, x45, x46, x47, x48, x49, x50, x51, x52, x53, x54, x55, x56, x57, x58, x59, x60, x61, x62, x63, x64, x65, x66, x67, x68, x69, x70, x71, x72, x73, x74, x75, x76, x77, x78, x79, x80, x81, x82, x83, x84, x85, x86, x87, x88, x89, x90, x91, x92, x93, x94, x95, x96, x97, x98, x99, gx (b 0) (r.v) x100, gx (b 1) (.string (strOf o)) x101, gx (b 2) (p.v) x102, gx (b 3) (kd.v) x103, gx (b 4) (r'.v) x104, gx (b 5) (.string (strOf o)) x105, gx (b 6) (.bool false) x106, x107, x108, x109, x110, x111, x112, x113, x114, x115, x116, x117, x118, x119, x120, x121, x122, x123, x124, x125], []⟩
def pmInv (Z : World) (p : PG) (r : SL) (kd : PK) (o : List Nat) (x0 x1 x2 x3 x4 x5 x6 x7 x8 x9 x10 x11 x12 x13 x14 x15 x16 x17 x18 x19 x20 x21 x22 x23 x24 x25 x26 x27 x28 x29 x30 x31 x32 x33 x34 x35 x36 x37 x38 x39 x40 x41 x42 x43 x44 x45 x46 x47 x48 x49 x50 x51 x52 x53 x54 x55 x56 x57 x58 x59 x60 x61 x62 x63 x64 x65 x66 x67 x68 x69 x70 x71 x72 x73 x74 x75 x76 x77 x78 x79 x80 x81 x82 x83 x84 x85 x86 x87 x88 x89 x90 x91 x92 x93 x94 x95 x96 x97 x98 x99 x100 x101 x102 x103 x104 x105 x106 x107 x108 x109 x110 x111 x112 x113 x114 x115 x116 x117 x118 x119 x120 x121 x122 x123 x124 x125 : Value) (L : Array Bool) (a : Act) (w : World) : Prop :=
  ∃ r', a = pmAct p r kd o x0 x1 x2 x3 x4 x5 x6 x7 x8 x9 x10 x11 x12 x13 x14 x15 x16 x17 x18 x19 x20 x21 x22 x23 x24 x25 x26 x27 x28 x29 x30 x31 x32 x33 x34 x35 x36 x37 x38 x39 x40 x41 x42 x43 x44 x45 x46 x47 x48 x49 x50 x51 x52 x53 x54 x55 x56 x57 x58 x59 x60 x61 x62 x63 x64 x65 x66 x67 x68 x69 x70 x71 x72 x73 x74 x75 x76 x77 x78 x79 x80 x81 x82 x83 x84 x85 x86 x87 x88 x89 x90 x91 x92 x93 x94 x95 x96 x97 x98 x99 x100 x101 x102 x103 x104 x105 x106 x107 x108 x109 x110 x111 x112 x113 x114 x115 x116 x117 x118 x119 x120 x121 x122 x123 x124 x125 (fun k => L.getD k false) r' ∧ Below Z.heap.size Z w ∧ (L.getD 4 false = true → RdS w 1 r' (byts o))
theorem wp_emits {ops : Array Oper} {id : Nat} {Q : Exit → Act → World → Prop} {x0 x1 x2 x3 x4 x5 x6 x7 x8 x9 x10 x11 x12 x13 x14 x15 x16 x17 x18 x19 x20 x21 x22 x23 x24 x25 x26 x27 x28 x29 x30 x31 x32 x33 x34 x35 x36 x37 x38 x39 x40 x41 x42 x43 x44 x45 x46 x47 x48 x49 x50 x51 x52 x53 x54 x55 x56 x57 x58 x59 x60 x61 x62 x63 x64 x65 x66 x67 x68 x69 x70 x71 x72 x73 x74 x75 x76 x77 x78 x79 x80 x81 x82 x83 x84 x85 x86 x87 x88 x89 x90 x91 x92 x93 x94 x95 x96 x97 x98 x99 x100 x101 x102 x103 x104 x105 x106 x107 x108 x109 x110 x111 x112 x113 x114 x115 x116 x117 x118 x119 x120 x121 x122 x123 x124 x125 : Value} (Z : World) (p : PG) (r : SL) (kd : PK) (o : List Nat)
    (hm : Try.prog.follows .mixedOrders = true) (hlt : (List.range ops.size).all (fun i => (deps .any ops i).all (fun k => decide (k < i))) = true)
    (h0 : pmInv Z p r kd o x0 x1 x2 x3 x4 x5 x6 x7 x8 x9 x10 x11 x12 x13 x14 x15 x16 x17 x18 x19 x20 x21 x22 x23 x24 x25 x26 x27 x28 x29 x30 x31 x32 x33 x34 x35 x36 x37 x38 x39 x40 x41 x42 x43 x44 x45 x46 x47 x48 x49 x50 x51 x52 x53 x54 x55 x56 x57 x58 x59 x60 x61 x62 x63 x64 x65 x66 x67 x68 x69 x70 x71 x72 x73 x74 x75 x76 x77 x78 x79 x80 x81 x82 x83 x84 x85 x86 x87 x88 x89 x90 x91 x92 x93 x94 x95 x96 x97 x98 x99 x100 x101 x102 x103 x104 x105 x106 x107 x108 x109 x110 x111 x112 x113 x114 x115 x116 x117 x118 x119 x120 x121 x122 x123 x124 x125 (Array.replicate ops.size false) ⟨#[x0, x1, x2, x3, x4, x5, x6, x7, x8, x9, x10, x11, x12, x13, x14, x15, x16, x17, x18, x19, x20, x21, x22, x23, x24, x25, x26, x27, x28, x29, x30, x31, x32, x33, x34, x35, x36, x37, x38, x39, x40, x41, x42, x43, x44, x45, x46, x47, x48, x49, x50, x51, x52, x53, x54, x55, x56, x57, x58, x59, x60, x61, x62, x63, x64, x65, x66, x67, x68, x69, x70, x71, x72, x73, x74, x75, x76, x77, x78, x79, x80, x81, x82, x83, x84, x85, x86, x87, x88, x89, x90, x91, x92, x93, x94, x95, x96, x97, x98, x99, x100, x101, x102, x103, x104, x105, x106, x107, x108, x109, x110, x111, x112, x113, x114, x115, x116, x117, x118, x119, x120, x121, x122, x123, x124, x125], []⟩ Z.drew)
    (hfin : ∀ (L : Array Bool) (a : Act) (w : World), (∀ j, j < ops.size → L.getD j false = true) → pmInv Z p r kd o x0 x1 x2 x3 x4 x5 x6 x7 x8 x9 x10 x11 x12 x13 x14 x15 x16 x17 x18 x19 x20 x21 x22 x23 x24 x25 x26 x27 x28 x29 x30 x31 x32 x33 x34 x35 x36 x37 x38 x39 x40 x41 x42 x43 x44 x45 x46 x47 x48 x49 x50 x51 x52 x53 x54 x55 x56 x57 x58 x59 x60 x61 x62 x63 x64 x65 x66 x67 x68 x69 x70 x71 x72 x73 x74 x75 x76 x77 x78 x79 x80 x81 x82 x83 x84 x85 x86 x87 x88 x89 x90 x91 x92 x93 x94 x95 x96 x97 x98 x99 x100 x101 x102 x103 x104 x105 x106 x107 x108 x109 x110 x111 x112 x113 x114 x115 x116 x117 x118 x119 x120 x121 x122 x123 x124 x125 L a w → Q .normal a w)
    (hs' : InvSteps Try.prog ops (pmInv Z p r kd o x0 x1 x2 x3 x4 x5 x6 x7 x8 x9 x10 x11 x12 x13 x14 x15 x16 x17 x18 x19 x20 x21 x22 x23 x24 x25 x26 x27 x28 x29 x30 x31 x32 x33 x34 x35 x36 x37 x38 x39 x40 x41 x42 x43 x44 x45 x46 x47 x48 x49 x50 x51 x52 x53 x54 x55 x56 x57 x58 x59 x60 x61 x62 x63 x64 x65 x66 x67 x68 x69 x70 x71 x72 x73 x74 x75 x76 x77 x78 x79 x80 x81 x82 x83 x84 x85 x86 x87 x88 x89 x90 x91 x92 x93 x94 x95 x96 x97 x98 x99 x100 x101 x102 x103 x104 x105 x106 x107 x108 x109 x110 x111 x112 x113 x114 x115 x116 x117 x118 x119 x120 x121 x122 x123 x124 x125) 0 ops.toList) : (Code.region id ops true).wp Try.prog Q ⟨#[x0, x1, x2, x3, x4, x5, x6, x7, x8, x9, x10, x11, x12, x13, x14, x15, x16, x17, x18, x19, x20, x21, x22, x23, x24, x25, x26, x27, x28, x29, x30, x31, x32, x33, x34, x35, x36, x37, x38, x39, x40, x41, x42, x43, x44, x45, x46, x47, x48, x49, x50, x51, x52, x53, x54, x55, x56, x57, x58, x59, x60, x61, x62, x63, x64, x65, x66, x67, x68, x69, x70, x71, x72, x73, x74, x75, x76, x77, x78, x79, x80, x81, x82, x83, x84, x85, x86, x87, x88, x89, x90, x91, x92, x93, x94, x95, x96, x97, x98, x99, x100, x101, x102, x103, x104, x105, x106, x107, x108, x109, x110, x111, x112, x113, x114, x115, x116, x117, x118, x119, x120, x121, x122, x123, x124, x125], []⟩ Z :=
  wp_region_invs (pmInv Z p r kd o x0 x1 x2 x3 x4 x5 x6 x7 x8 x9 x10 x11 x12 x13 x14 x15 x16 x17 x18 x19 x20 x21 x22 x23 x24 x25 x26 x27 x28 x29 x30 x31 x32 x33 x34 x35 x36 x37 x38 x39 x40 x41 x42 x43 x44 x45 x46 x47 x48 x49 x50 x51 x52 x53 x54 x55 x56 x57 x58 x59 x60 x61 x62 x63 x64 x65 x66 x67 x68 x69 x70 x71 x72 x73 x74 x75 x76 x77 x78 x79 x80 x81 x82 x83 x84 x85 x86 x87 x88 x89 x90 x91 x92 x93 x94 x95 x96 x97 x98 x99 x100 x101 x102 x103 x104 x105 x106 x107 x108 x109 x110 x111 x112 x113 x114 x115 x116 x117 x118 x119 x120 x121 x122 x123 x124 x125) hm hlt h0 hfin hs'
end Go.Proofs.Ytkblldmpdihamaa
