/-
  A call of a packet, by the program and by the document (quillonlaw19.call): the walk.
-/
import Derived.Test.YtkblldmpdihamaaZPdC
import Derived.Test.YtkblldmpdihamaaZPdT
set_option linter.unusedVariables false
set_option linter.unusedSimpArgs false
namespace Go.Proofs.Ytkblldmpdihamaa
open Go.RowKit

section
variable {w : World} {b vb : Nat} {gs : List Nat} {port : Int} {mt : List (BitVec 128)} {S : PD} {hs : List (SL × List Int)} {kd : PK} {p : PG}
abbrev PG.zs (p : PG) : List Value := [p.heads.v, p.metas.v, p.steps.v, p.acts.v, p.tabs.v, p.control.v, p.emit.v, p.n0.v, p.n1.v, p.n2.v, p.n3.v, p.n4.v]
/-- The call's own blocks. -/
structure CallB (w W : World) (L : List Nat) (p : PG) (kd : PK) (o : OpP) : Prop where
  turn : Turn w W L
  b0 : Blk W w.heap.size 33 p.zs
  b1 : Blk W (w.heap.size + 1) 39 kd.cs
  b2 : Blk W (w.heap.size + 1 + 1) 58 o.cs
  b3 : Blk W (w.heap.size + 1 + 1 + 1) 39 zeroCs
theorem CallB.on {w W W' : World} {L : List Nat} {p : PG} {kd : PK} {o : OpP} (h : CallB w W L p kd o) (t : Turn W W' L) (hL : ∀ q ∈ L, q < w.heap.size) : CallB w W' L p kd o := by
  have hn : ∀ q, w.heap.size ≤ q → q ∉ L := fun q hq hm => by have := hL q hm; omega
  exact ⟨h.turn.trans t, t.blk h.b0 (hn _ (by omega)), t.blk h.b1 (hn _ (by omega)), t.blk h.b2 (hn _ (by omega)), t.blk h.b3 (hn _ (by omega))⟩
theorem HeadsAre.turn {w W : World} {L : List Nat} {s : SL} {hs : List (SL × List Int)} (H : HeadsAre w s hs) (t : Turn w W L) (ha : AwayN s L) (hx : ∀ x ∈ hs, Away x.1 L) : HeadsAre W s hs :=
  ⟨t.rdN H.row ha, fun x hx' => t.rd (H.each x hx') (hx x hx')⟩

theorem Prg.sub {w : World} {M M' : List Nat} {b vb : Nat} {gs : List Nat} {port : Int} {mt : List (BitVec 128)} {S : PD} (P : Prg w M b vb gs port mt S) (hs : ∀ q ∈ M', q ∈ M) : Prg w M' b vb gs port mt S := by
  obtain ⟨k, h, ⟨a1, a2, a3⟩, r⟩ := P
  exact ⟨k, h, ⟨a1.sub hs, a2.sub hs, a3.sub hs⟩, r⟩
theorem Prg.more {w V : World} {M M' : List Nat} {b vb : Nat} {gs : List Nat} {port : Int} {mt : List (BitVec 128)} {S : PD} (P : Prg w M b vb gs port mt S) (hb : Below w.heap.size w V) (h : ∀ q ∈ M', w.heap.size ≤ q) : Prg V (M' ++ M) b vb gs port mt S := by
  obtain ⟨k, P, ⟨a1, a2, a3⟩, r⟩ := P
  have ap : ∀ {s : SL}, AwayN s M' → AwayN s M → AwayN s (M' ++ M) := fun h1 h2 h0 b off e hm => by
    rcases List.mem_append.1 hm with hm | hm
    · exact h1 h0 b off e hm
    · exact h2 h0 b off e hm
  exact ⟨k, P.below hb, ⟨ap (P.rest.awayN h) a1, ap (P.row.awayN h) a2, ap (P.metas.awayN h) a3⟩, r⟩
theorem Doc.sub {w : World} {L L' : List Nat} {port : Int} {mt : List (BitVec 128)} {S : PD} {k : PK} (D : Doc w L port mt S k) (hs : ∀ q ∈ L', q ∈ L) : Doc w L' port mt S k := by
  obtain ⟨fs, D, r⟩ := D
  exact ⟨fs, ⟨D.rest, D.valid, D.frd, D.metas, D.a1.sub hs, D.a2.sub hs, D.a3.sub hs, D.a4.sub hs, fun x hx => (D.a5 x hx).sub hs⟩, r⟩
theorem Doc.more {w V : World} {L M' : List Nat} {port : Int} {mt : List (BitVec 128)} {S : PD} {k : PK} (D : Doc w L port mt S k) (hb : Below w.heap.size w V) (h : ∀ q ∈ M', w.heap.size ≤ q) : Doc V (M' ++ L) port mt S k := by
  obtain ⟨fs, D, r⟩ := D
  exact ⟨fs, D.more (D.below hb) h, r⟩

/-- The worlds of a drawn region in which the program's call comes up, and the document's packet is laid into the result. -/
def CallR (w X : World) (L M : List Nat) (b vb : Nat) (gs : List Nat) (port : Int) (mt : List (BitVec 128)) (hs0 S S' : PD) (o : OpP) (kd2 : PK) (F : World → Prop) (i : Nat) (W : World) : Prop :=
  Blk W (w.heap.size + 1 + 1) 58 o.cs ∧ F W ∧ Turn w W L ∧ (i = 0 → W = X) ∧
  (i = 1 → Blk W (w.heap.size + 1 + 1 + 1) 39 zeroCs ∧ Prg W ([w.heap.size + 1 + 1 + 1] ++ M) b vb gs port mt S' ∧ Doc W ([w.heap.size + 1 + 1 + 1] ++ (M ++ L)) port mt S' kd2) ∧
  (i = 2 → Blk W (w.heap.size + 1 + 1 + 1) 39 kd2.cs ∧ Prg W M b vb gs port mt S' ∧ Doc W (M ++ L) port mt S' kd2)

set_option maxRecDepth 100000 in
set_option maxHeartbeats 4000000 in
theorem call_any {M : List Nat} (hM : ∀ q ∈ M, q < w.heap.size) (P : Prg w M b vb gs port mt S) (D : Doc w (M ++ (b :: vb :: gs)) port mt S kd) (O : S.Ok hs) (Z : S.Zo) (H : HeadsAre w p.heads hs) (hok : HsOk hs) (hA0 : AwayN p.heads (b :: vb :: gs)) (hAw : ∀ x ∈ hs, Away x.1 (b :: vb :: gs)) (hm : mt.length ≤ 16)
    (hLT : ∀ q ∈ b :: vb :: gs, q < w.heap.size) (o : OpP) :
    Calls Try.prog 20 #[p.v, .pointer (some ⟨b, 0, none⟩), kd.v, o.v] w
      (fun e w' => ∃ kd' : PK, e = .returned (.tuple #[kd'.v, .bool true]) ∧ Turn w w' (b :: vb :: gs) ∧ Prg w' M b vb gs port mt (S.op hs o) ∧ Doc w' (M ++ (b :: vb :: gs)) port mt (S.op hs o) kd') := by
  have PH := hid P
  have DH := hid D
  have OH := hid O
  have ZH := hid Z
  have HH := hid (fun W (t : Turn w W (b :: vb :: gs)) => H.turn t hA0 hAw)
  have HAW := hid hAw
  have HLT := hid hLT
  clear P D O Z H hAw hLT hA0
  obtain ⟨ok, oh, of, on', oon⟩ := o
  go_enter Try.func20, Try.ntmps20
  go_upto_region 1 with (fail)
  refine wp_gen (fun V hV => ?_)
  have CB : CallB w V (b :: vb :: gs) p kd ⟨ok, oh, of, on', oon⟩ := by
    refine ⟨by rw [hV]; exact Turn.of_below (by (repeat' (first | (with_reducible exact Below.refl _ _) | (with_reducible refine Below.ext_mk ?_ ?_ _ _) | (with_reducible refine Below.alloc ?_ ?_ _) | (with_reducible refine Below.drew ?_) | (with_reducible refine Below.setCell ?_ ?_ _) | go_size))), ?_, ?_, ?_, ?_⟩
    · rw [hV]
      exact (Blk.new w 33 p.zs).below (by repeat (first | exact Below.refl _ _ | refine Below.alloc ?_ (by simp; try omega) _))
    · rw [hV]
      have h := (Blk.new (w.alloc (.cells p.zs.toArray 33)) 39 kd.cs).below (Below.alloc (Below.alloc (Below.refl _ _) (Nat.le_refl _) (.cells (OpP.mk ok oh of on' oon).cs.toArray 58)) (by simp) (.cells zeroCs.toArray 39))
      simp only [World.size_alloc] at h
      exact h
    · rw [hV]
      have h := (Blk.new ((w.alloc (.cells p.zs.toArray 33)).alloc (.cells kd.cs.toArray 39)) 58 (OpP.mk ok oh of on' oon).cs).below (Below.alloc (Below.refl _ _) (Nat.le_refl _) (.cells zeroCs.toArray 39))
      simp only [World.size_alloc] at h
      exact h
    · rw [hV]
      have h := Blk.new (((w.alloc (.cells p.zs.toArray 33)).alloc (.cells kd.cs.toArray 39)).alloc (.cells (OpP.mk ok oh of on' oon).cs.toArray 58)) 39 zeroCs
      simp only [World.size_alloc] at h
      exact h
  have hbV : Below w.heap.size w V := by rw [hV]; (repeat' (first | (with_reducible exact Below.refl _ _) | (with_reducible refine Below.ext_mk ?_ ?_ _ _) | (with_reducible refine Below.alloc ?_ ?_ _) | (with_reducible refine Below.drew ?_) | (with_reducible refine Below.setCell ?_ ?_ _) | go_size))
  clear hV
  have CBH := hid CB
  have PV := hid (PH.out.more (M' := [w.heap.size + 1 + 1 + 1]) hbV (fun q hq => by simp at hq; omega))
  have DV := hid (DH.out.more (M' := [w.heap.size + 1 + 1 + 1]) hbV (fun q hq => by simp at hq; omega))
  have FIN := hid (fun (W : World) (cs : Array Value) (S' : PD) (kd' : PK) (P : Prg W ([w.heap.size + 1 + 1 + 1] ++ M) b vb gs port mt S') (D : Doc W ([w.heap.size + 1 + 1 + 1] ++ (M ++ (b :: vb :: gs))) port mt S' kd') =>
    (show Prg (W.setRow (w.heap.size + 1 + 1 + 1) cs) M b vb gs port mt S' ∧ Doc (W.setRow (w.heap.size + 1 + 1 + 1) cs) (M ++ (b :: vb :: gs)) port mt S' kd' from
      ⟨(P.turn (M' := [w.heap.size + 1 + 1 + 1]) (Turn.row _ _ (by simp)) (fun q hq => by simp at hq; simp [hq]) (fun q hq hm => by simp only [List.mem_singleton] at hq; have := HLT.out q hm; omega)).sub (fun q hq => by simp [hq]),
       (D.turn (L' := [w.heap.size + 1 + 1 + 1]) (Turn.row _ _ (by simp)) (fun q hq => by simp at hq; simp [hq])).sub (fun q hq => by simp at hq ⊢; exact .inr hq)⟩))
  have hvs := hbV.size
  clear PH DH
  have c0 := CB.b2.cell 0
  have c1 := CB.b2.cell 1
  have c2 := CB.b2.cell 2
  have c3 := CB.b2.cell 3
  have c4 := CB.b2.cell 4
  have c5 := CB.b2.cell 5
  have z2 := CB.b2.lt
  simp only [List.getElem?_cons_zero, List.getElem?_cons_succ] at c0 c1 c2 c3 c4 c5
  clear CB
  by_cases e1 : ok = 1
  · subst e1
    have EG := hid (show S.op hs ⟨1, oh, of, on', oon⟩ = (S.take hs oh).getD S by unfold PD.op; rw [if_pos rfl])
    have hMV : ∀ q ∈ [w.heap.size + 1 + 1 + 1] ++ (M ++ (b :: vb :: gs)), q < V.heap.size := fun q hq => by
      have := CBH.out.b3.lt
      simp only [List.mem_append, List.mem_singleton] at hq
      rcases hq with rfl | hq | hq
      · omega
      · have := hM q hq; omega
      · have := HLT.out q hq; omega
    have RS := hid (rtake_any (p := p) DV.out OH.out (HH.out V CBH.out.turn) hok hm hMV oh)
    have HMV := hid hMV
    clear hMV
    go_upto_region 3 with (fail)
    refine wp_region_doc (fun F hF => ?_)
    have HF := hid hF
    clear hF
    refine doc_val rfl (load_agg_op _ _ _ _ _ _ _ _ Try.underlying33 (prog_size _ rfl) rfl CBH.out.b0) ?_
    simp only [Act.put, List.setIfInBounds_toArray, List.set_cons_zero, List.set_cons_succ]
    refine doc_val rfl (load_agg_op _ _ _ _ _ _ _ _ Try.underlying39 (pk_size _ rfl) rfl CBH.out.b1) ?_
    simp only [Act.put, List.setIfInBounds_toArray, List.set_cons_zero, List.set_cons_succ]
    iterate 2 (refine doc_val rfl (by first | (go_simp; done) | (go_simp; exact ⟨rfl, rfl⟩) | (go_simp; with_reducible rfl)) ?_; simp only [Act.put, List.setIfInBounds_toArray, List.set_cons_zero, List.set_cons_succ])
    refine doc_call rfl (by first | (go_simp; done) | (go_simp; exact ⟨rfl, rfl⟩) | (go_simp; with_reducible rfl)) (RS.out.mono ?_)
    rintro _ W1 ⟨kd2, rfl, hb1, D1⟩
    refine ⟨_, rfl, ?_⟩
    simp only [Act.put, List.setIfInBounds_toArray, List.set_cons_zero, List.set_cons_succ]
    iterate 4 (refine doc_val rfl (by first | (go_simp; done) | (go_simp; exact ⟨rfl, rfl⟩) | (go_simp; with_reducible rfl)) ?_; simp only [Act.put, List.setIfInBounds_toArray, List.set_cons_zero, List.set_cons_succ])
    obtain ⟨tk, htk⟩ : ∃ tk, tk = (S.take hs oh).isSome := ⟨_, rfl⟩
    obtain ⟨S', hS'⟩ : ∃ S', S' = (S.take hs oh).getD S := ⟨_, rfl⟩
    rw [← htk]
    rw [← hS'] at D1 EG
    have bN1 := Blk.new W1 39 zeroCs
    refine doc_skip rfl (store_row_op (xs := zeroCs) (ys := kd2.cs) _ _ _ _ _ _ _ _ _ (pk_size _ rfl) rfl (by simp [Value.oneCell']) rfl rfl bN1) ?_
    simp only [Act.put, List.setIfInBounds_toArray, List.set_cons_zero, List.set_cons_succ]
    refine doc_val rfl (by first | (go_simp; done) | (go_simp; exact ⟨rfl, rfl⟩) | (go_simp; with_reducible rfl)) ?_
    simp only [Act.put, List.setIfInBounds_toArray, List.set_cons_zero, List.set_cons_succ]
    refine doc_end (HF.out _ _ ?_)
    clear HF F c0 c1 c2 c3 c4 c5 z2 RS
    go_upto_region 4 with (fail)
    refine wp_gen (fun X hX => ?_)
    have hbX : Below W1.heap.size W1 X := by rw [hX]; exact Below.setRow (Below.alloc (Below.refl _ _) (Nat.le_refl _) _) (Nat.le_refl _) _
    have xN1 : Blk X W1.heap.size 39 kd2.cs := by rw [hX]; exact bN1.row _
    clear hX bN1
    have h1s := hb1.size
    obtain ⟨N0, hN0⟩ : ∃ N0, N0 = W1.heap.size := ⟨_, rfl⟩
    rw [← hN0] at xN1 ⊢
    have hdX : Below X.heap.size X X.drew := Below.drew (Below.refl _ _)
    have hbV1 : Below V.heap.size V X.drew := (hb1.trans (hbX.mono h1s)).trans (hdX.mono (by have := hbX.size; omega))
    have CX := hid (CBH.out.on (Turn.of_below hbV1) HLT.out)
    have PX := hid (PV.out.below hbV1)
    have DX := hid ((D1.below hbX).below hdX)
    have F0 := hid (And.intro CX.out.b0 (xN1.below hdX))
    have zB3 := CBH.out.b3.lt
    have hnL : ∀ q, w.heap.size ≤ q → q ∉ b :: vb :: gs := fun q hq hm' => by have := HLT.out q hm'; omega
    have HNL := hid hnL
    have hVX := hbV1.size
    have HGT := hid (fun W (hW : W = X.drew) => (hW ▸ htake_any PX.out (fun q hq => by have := HMV.out q (by simp at hq ⊢; rcases hq with h | h; exact .inl h; exact .inr (.inl h)); omega) OH.out (HH.out _ CX.out.turn) hok HAW.out oh : Calls Try.prog 12 #[p.v, .pointer (some ⟨b, 0, none⟩), .int .i64 oh] W (fun e w' => e = .returned (.bool (S.take hs oh).isSome) ∧ Turn W w' (b :: vb :: gs) ∧ Prg w' ([w.heap.size + 1 + 1 + 1] ++ M) b vb gs port mt ((S.take hs oh).getD S))))
    rw [← htk, ← hS'] at HGT
    have hN0w : w.heap.size ≤ N0 := by omega
    have hN0V : V.heap.size ≤ N0 := by omega
    have HTK := hid htk
    clear htk hS' D1 hbX xN1 hN0 hbV1 hb1 h1s hdX hnL HMV
    refine wp_region_stage [5, 8] (CallR w X.drew (b :: vb :: gs) M b vb gs port mt S S S' ⟨1, oh, of, on', oon⟩ kd2 (fun W => Blk W w.heap.size 33 p.zs ∧ Blk W N0 39 kd2.cs)) (by kernel_rfl) (by kernel_rfl) (by kernel_rfl) (by kernel_rfl)
      ⟨CX.out.b2, F0.out, CX.out.turn, fun _ => rfl, fun h => by omega, fun h => by omega⟩ (fun F' hF' => ?_)
    have HF := hid hF'
    clear hF'
    refine sg_read (v := kd2.v) 0 1 rfl (by decide +kernel) (by decide +kernel) rfl (fun i W l u hR => load_agg_op _ _ _ _ _ _ _ _ Try.underlying39 (pk_size _ rfl) rfl hR.2.1.2) ?_
    simp only [Act.put, List.setIfInBounds_toArray, List.set_cons_zero, List.set_cons_succ]
    refine sg_read (v := p.v) 0 0 rfl (by decide +kernel) (by decide +kernel) rfl (fun i W l u hR => load_agg_op _ _ _ _ _ _ _ _ Try.underlying33 (prog_size _ rfl) rfl hR.2.1.1) ?_
    simp only [Act.put, List.setIfInBounds_toArray, List.set_cons_zero, List.set_cons_succ]
    repeat (apply sg_any; (focus rfl); (focus rfl); (focus (intro _; go_simp; with_reducible rfl)); simp only [Act.put, List.setIfInBounds_toArray, List.set_cons_zero, List.set_cons_succ])
    refine sg_read (v := .int .i64 oh) 0 0 rfl (by decide +kernel) (by decide +kernel) rfl (fun i W l u hR => by have y1 := hR.1.cell 1; have y2 := hR.1.lt; simp only [List.getElem?_cons_zero, List.getElem?_cons_succ] at y1; clear hR; go_simp) ?_
    simp only [Act.put, List.setIfInBounds_toArray, List.set_cons_zero, List.set_cons_succ]
    refine sg_turn_call (v := .bool tk) (f := 12) (args := #[p.v, .pointer (some ⟨b, 0, none⟩), .int .i64 oh]) 0 rfl rfl (fun _ => by go_simp) (fun W hR => ?_) ?_
    · obtain ⟨r1, r2, r3, r4, _, _⟩ := hR
      have hW := r4 rfl
      refine (HGT.out W hW).mono fun e w' hp => ?_
      obtain ⟨rfl, t, P'⟩ := hp
      refine ⟨rfl, t.blk r1 (HNL.out _ (by omega)), ⟨t.blk r2.1 (HNL.out _ (by omega)), t.blk r2.2 (HNL.out _ hN0w)⟩, r3.trans t, fun h => by omega, fun _ => ⟨?_, P', ?_⟩, fun h => by omega⟩
      · rw [hW] at t
        exact t.blk CX.out.b3 (HNL.out _ (by omega))
      · rw [hW] at t
        exact DX.out.turn t (fun q hq => by simp at hq ⊢; exact .inr (.inr hq))
    simp only [Act.put, List.setIfInBounds_toArray, List.set_cons_zero, List.set_cons_succ]
    refine sg_any (v := .bool tk) rfl rfl (fun _ => by first | (go_simp; done) | (go_simp; exact HTK.out.symm)) ?_
    simp only [Act.put, List.setIfInBounds_toArray, List.set_cons_zero, List.set_cons_succ]
    refine sg_any (v := .bool true) rfl rfl (fun _ => by go_simp) ?_
    simp only [Act.put, List.setIfInBounds_toArray, List.set_cons_zero, List.set_cons_succ]
    refine sg_do 1 rfl rfl (fun W hR => ?_) ?_
    · obtain ⟨r1, r2, r3, r4, r5, _⟩ := hR
      obtain ⟨q1, q2, q3⟩ := r5 rfl
      have hF := FIN.out W kd2.cs.toArray S' kd2 q2 q3
      refine ⟨_, store_row_op (xs := zeroCs) (ys := kd2.cs) _ _ _ _ _ _ _ _ _ (pk_size _ rfl) rfl (by simp [Value.oneCell']) rfl rfl q1, r1.farRow (by omega) _, ⟨r2.1.farRow (by omega) _, r2.2.farRow (by omega) _⟩, r3.from (Turn.row (L := [w.heap.size + 1 + 1 + 1]) _ _ (by simp)) (fun q hq => by simp at hq; exact .inr (by omega)), fun h => by omega, fun h => by omega, fun _ => ⟨q1.row _, hF.1, hF.2⟩⟩
    simp only [Act.put, List.setIfInBounds_toArray, List.set_cons_zero, List.set_cons_succ]
    refine sg_any (v := .bool true) rfl rfl (fun _ => by go_simp) ?_
    simp only [Act.put, List.setIfInBounds_toArray, List.set_cons_zero, List.set_cons_succ]
    refine sg_end (HF.out _ (fun W hR => ?_))
    obtain ⟨_, _, r3, _, _, r6⟩ := hR
    obtain ⟨q1, q2, q3⟩ := r6 rfl
    have Q3 := hid q3
    have Q2 := hid q2
    have R3 := hid r3
    clear HF F' q2 q3 r3 r6
    go_wp2
    refine bodyPost_ret (res_cellT (v := .bool true) rfl rfl rfl q1 Try.underlying39 (pk_size _ rfl)) rfl ⟨kd2, rfl, R3.out, ?_, ?_⟩
    · rw [EG.out]; exact Q2.out
    · rw [EG.out]; exact Q3.out
  have f1 : (ok == 1) = false := by simpa using e1
  by_cases e2 : ok = 2
  · subst e2
    have EG := hid (show S.op hs ⟨2, oh, of, on', oon⟩ = (S.get oh of).2 by unfold PD.op; rw [if_neg (by simp), if_pos rfl])
    have RS := hid (rget_any DV.out OH.out oh of)
    clear e1
    go_upto_region 6 with (fail)
    refine wp_region_doc (fun F hF => ?_)
    have HF := hid hF
    clear hF
    refine doc_val rfl (load_agg_op _ _ _ _ _ _ _ _ Try.underlying39 (pk_size _ rfl) rfl CBH.out.b1) ?_
    simp only [Act.put, List.setIfInBounds_toArray, List.set_cons_zero, List.set_cons_succ]
    iterate 4 (refine doc_val rfl (by first | (go_simp; done) | (go_simp; exact ⟨rfl, rfl⟩) | (go_simp; with_reducible rfl)) ?_; simp only [Act.put, List.setIfInBounds_toArray, List.set_cons_zero, List.set_cons_succ])
    refine doc_call rfl (by first | (go_simp; done) | (go_simp; exact ⟨rfl, rfl⟩) | (go_simp; with_reducible rfl)) (RS.out.mono ?_)
    rintro _ W1 ⟨kd2, rfl, hb1, D1⟩
    refine ⟨_, rfl, ?_⟩
    simp only [Act.put, List.setIfInBounds_toArray, List.set_cons_zero, List.set_cons_succ]
    iterate 5 (refine doc_val rfl (by first | (go_simp; done) | (go_simp; exact ⟨rfl, rfl⟩) | (go_simp; with_reducible rfl)) ?_; simp only [Act.put, List.setIfInBounds_toArray, List.set_cons_zero, List.set_cons_succ])
    obtain ⟨n, hn⟩ : ∃ n, n = (S.get oh of).1 := ⟨_, rfl⟩
    obtain ⟨S', hS'⟩ : ∃ S', S' = (S.get oh of).2 := ⟨_, rfl⟩
    rw [← hn]
    rw [← hS'] at D1 EG
    have bN0 := (Blk.new W1 45 [.int .u64 0, .int .u64 0]).below (Below.alloc (Below.refl _ _) (Nat.le_refl _) (.cells zeroCs.toArray 39))
    have bN1 := Blk.new (W1.alloc (.cells [.int .u64 0, .int .u64 0].toArray 45)) 39 zeroCs
    simp only [World.size_alloc] at bN1
    refine doc_skip rfl (hstore_num (u' := hi n) (v' := lo n) _ _ _ _ _ _ _ _ rfl rfl bN0) ?_
    simp only [Act.put, List.setIfInBounds_toArray, List.set_cons_zero, List.set_cons_succ]
    refine doc_skip rfl (store_row_op (xs := zeroCs) (ys := kd2.cs) _ _ _ _ _ _ _ _ _ (pk_size _ rfl) rfl (by simp [Value.oneCell']) rfl rfl (bN1.farRow (by omega) _)) ?_
    simp only [Act.put, List.setIfInBounds_toArray, List.set_cons_zero, List.set_cons_succ]
    refine doc_end (HF.out _ _ ?_)
    clear HF F c0 c1 c2 c3 c4 c5 z2 RS
    go_upto_region 7 with (fail)
    refine wp_gen (fun X hX => ?_)
    have hbX : Below W1.heap.size W1 X := by rw [hX]; exact Below.setRow (Below.setRow (Below.alloc (Below.alloc (Below.refl _ _) (Nat.le_refl _) _) (by simp) _) (Nat.le_refl _) _) (by omega) _
    have xN0 : Blk X W1.heap.size 45 [.int .u64 (hi n), .int .u64 (lo n)] := by rw [hX]; exact (bN0.row _).farRow (by omega) _
    have xN1 : Blk X (W1.heap.size + 1) 39 kd2.cs := by rw [hX]; exact (bN1.farRow (by omega) _).row _
    clear hX bN0 bN1
    have h1s := hb1.size
    obtain ⟨N0, hN0⟩ : ∃ N0, N0 = W1.heap.size := ⟨_, rfl⟩
    rw [← hN0] at xN0 xN1 ⊢
    have hdX : Below X.heap.size X X.drew := Below.drew (Below.refl _ _)
    have hbV1 : Below V.heap.size V X.drew := (hb1.trans (hbX.mono h1s)).trans (hdX.mono (by have := hbX.size; omega))
    have CX := hid (CBH.out.on (Turn.of_below hbV1) HLT.out)
    have PX := hid (PV.out.below hbV1)
    have DX := hid ((D1.below hbX).below hdX)
    have F0 := hid (And.intro (xN0.below hdX) (xN1.below hdX))
    have zB3 := CBH.out.b3.lt
    have hnL : ∀ q, w.heap.size ≤ q → q ∉ b :: vb :: gs := fun q hq hm' => by have := HLT.out q hm'; omega
    have HNL := hid hnL
    have HGT := hid (fun W (hW : W = X.drew) => (hW ▸ hget_any PX.out OH.out ZH.out oh of : Calls Try.prog 17 #[.pointer (some ⟨b, 0, none⟩), .int .i64 oh, .int .i64 of] W (fun e w' => e = .returned (nv (S.get oh of).1) ∧ Turn W w' (b :: vb :: gs) ∧ Prg w' ([w.heap.size + 1 + 1 + 1] ++ M) b vb gs port mt (S.get oh of).2)))
    rw [← hn, ← hS'] at HGT
    have hN0w : w.heap.size ≤ N0 := by omega
    have hN0V : V.heap.size ≤ N0 := by omega
    clear hn hS' D1 hbX xN0 xN1 hN0 hbV1 hb1 h1s hdX hnL
    have RD := hid (fun (W : World) (i : Nat) (hR : CallR w X.drew (b :: vb :: gs) M b vb gs port mt S S S' ⟨2, oh, of, on', oon⟩ kd2 (fun W => Blk W N0 45 [.int .u64 (hi n), .int .u64 (lo n)] ∧ Blk W (N0 + 1) 39 kd2.cs) i W) =>
      (show W.cell? ⟨w.heap.size + 1 + 1, 1, none⟩ = some (.int .i64 oh) ∧ W.cell? ⟨w.heap.size + 1 + 1, 2, none⟩ = some (.int .i64 of) ∧ w.heap.size + 1 + 1 < W.heap.size ∧ W.cell? ⟨N0, 0, none⟩ = some (.int .u64 (hi n)) ∧ W.cell? ⟨N0, 1, none⟩ = some (.int .u64 (lo n)) ∧ N0 < W.heap.size from
        ⟨hR.1.cell 1, hR.1.cell 2, hR.1.lt, hR.2.1.1.cell 0, hR.2.1.1.cell 1, hR.2.1.1.lt⟩))
    refine wp_region_stage [6, 9] (CallR w X.drew (b :: vb :: gs) M b vb gs port mt S S S' ⟨2, oh, of, on', oon⟩ kd2 (fun W => Blk W N0 45 [.int .u64 (hi n), .int .u64 (lo n)] ∧ Blk W (N0 + 1) 39 kd2.cs)) (by kernel_rfl) (by kernel_rfl) (by kernel_rfl) (by kernel_rfl)
      ⟨CX.out.b2, F0.out, CX.out.turn, fun _ => rfl, fun h => by omega, fun h => by omega⟩ (fun F' hF' => ?_)
    have HF := hid hF'
    clear hF'
    refine sg_read (v := kd2.v) 0 1 rfl (by decide +kernel) (by decide +kernel) rfl (fun i W l u hR => load_agg_op _ _ _ _ _ _ _ _ Try.underlying39 (pk_size _ rfl) rfl hR.2.1.2) ?_
    simp only [Act.put, List.setIfInBounds_toArray, List.set_cons_zero, List.set_cons_succ]
    repeat (first
      | (apply sg_any; (focus rfl); (focus rfl); (focus (intro _; go_simp; with_reducible rfl)); simp only [Act.put, List.setIfInBounds_toArray, List.set_cons_zero, List.set_cons_succ])
      | (apply sg_read 0 0; (focus rfl); (focus (decide +kernel)); (focus (decide +kernel)); (focus rfl); (focus (intro ii w' l u hR; obtain ⟨y1, y2, y3, y4, y5, y6⟩ := RD.out w' ii hR; clear hR; go_simp; with_reducible rfl)); simp only [Act.put, List.setIfInBounds_toArray, List.set_cons_zero, List.set_cons_succ]))
    refine sg_turn_call (v := nv n) (f := 17) (args := #[.pointer (some ⟨b, 0, none⟩), .int .i64 oh, .int .i64 of]) 0 rfl rfl (fun _ => by go_simp) (fun W hR => ?_) ?_
    · obtain ⟨r1, r2, r3, r4, _, _⟩ := hR
      have hW := r4 rfl
      refine (HGT.out W hW).mono fun e w' hp => ?_
      obtain ⟨rfl, t, P'⟩ := hp
      refine ⟨rfl, t.blk r1 (HNL.out _ (by omega)), ⟨t.blk r2.1 (HNL.out _ hN0w), t.blk r2.2 (HNL.out _ (by omega))⟩, r3.trans t, fun h => by omega, fun _ => ⟨?_, P', ?_⟩, fun h => by omega⟩
      · rw [hW] at t
        exact t.blk CX.out.b3 (HNL.out _ (by omega))
      · rw [hW] at t
        exact DX.out.turn t (fun q hq => by simp at hq ⊢; exact .inr (.inr hq))
    simp only [Act.put, List.setIfInBounds_toArray, List.set_cons_zero, List.set_cons_succ]
    refine sg_read (v := nv n) 0 2 rfl (by decide +kernel) (by decide +kernel) rfl (fun i W l u hR => by obtain ⟨y1, y2, y3, y4, y5, y6⟩ := RD.out W i hR; clear hR; go_simp) ?_
    simp only [Act.put, List.setIfInBounds_toArray, List.set_cons_zero, List.set_cons_succ]
    refine sg_any (v := .bool true) rfl rfl (fun _ => by go_simp) ?_
    simp only [Act.put, List.setIfInBounds_toArray, List.set_cons_zero, List.set_cons_succ]
    refine sg_do 1 rfl rfl (fun W hR => ?_) ?_
    · obtain ⟨r1, r2, r3, r4, r5, _⟩ := hR
      obtain ⟨q1, q2, q3⟩ := r5 rfl
      have hF := FIN.out W kd2.cs.toArray S' kd2 q2 q3
      refine ⟨_, store_row_op (xs := zeroCs) (ys := kd2.cs) _ _ _ _ _ _ _ _ _ (pk_size _ rfl) rfl (by simp [Value.oneCell']) rfl rfl q1, r1.farRow (by omega) _, ⟨r2.1.farRow (by omega) _, r2.2.farRow (by omega) _⟩, r3.from (Turn.row (L := [w.heap.size + 1 + 1 + 1]) _ _ (by simp)) (fun q hq => by simp at hq; exact .inr (by omega)), fun h => by omega, fun h => by omega, fun _ => ⟨q1.row _, hF.1, hF.2⟩⟩
    simp only [Act.put, List.setIfInBounds_toArray, List.set_cons_zero, List.set_cons_succ]
    refine sg_any (v := .bool true) rfl rfl (fun _ => by go_simp) ?_
    simp only [Act.put, List.setIfInBounds_toArray, List.set_cons_zero, List.set_cons_succ]
    refine sg_end (HF.out _ (fun W hR => ?_))
    obtain ⟨_, _, r3, _, _, r6⟩ := hR
    obtain ⟨q1, q2, q3⟩ := r6 rfl
    have Q3 := hid q3
    have Q2 := hid q2
    have R3 := hid r3
    clear HF F' q2 q3 r3 r6
    go_wp2
    refine bodyPost_ret (res_cellT (v := .bool true) rfl rfl rfl q1 Try.underlying39 (pk_size _ rfl)) rfl ⟨kd2, rfl, R3.out, ?_, ?_⟩
    · rw [EG.out]; exact Q2.out
    · rw [EG.out]; exact Q3.out
  have f2 : (ok == 2) = false := by simpa using e2
  by_cases e3 : ok = 3
  · subst e3
    have EG := hid (show S.op hs ⟨3, oh, of, on', oon⟩ = S.set hs oh of on' by unfold PD.op; rw [if_neg (by simp), if_neg (by simp), if_pos rfl])
    have HS := hid (hset_any PV.out OH.out (HH.out V CBH.out.turn) hok oh of on')
    clear e1 e2
    go_upto_region 9 with (fail)
    refine wp_region_doc (fun F hF => ?_)
    have HF := hid hF
    clear hF
    refine doc_val rfl (load_agg_op _ _ _ _ _ _ _ _ Try.underlying33 (prog_size _ rfl) rfl CBH.out.b0) ?_
    simp only [Act.put, List.setIfInBounds_toArray, List.set_cons_zero, List.set_cons_succ]
    iterate 7 (refine doc_val rfl (by first | (go_simp; done) | (go_simp; exact ⟨rfl, rfl⟩) | (go_simp; with_reducible rfl)) ?_; simp only [Act.put, List.setIfInBounds_toArray, List.set_cons_zero, List.set_cons_succ])
    refine doc_call rfl (by first | (go_simp; done) | (go_simp; exact ⟨rfl, rfl⟩) | (go_simp; with_reducible rfl)) (HS.out.mono ?_)
    rintro _ W1 ⟨rfl, t1, P1⟩
    refine ⟨_, rfl, ?_⟩
    simp only [Act.put, List.setIfInBounds_toArray, List.set_cons_zero, List.set_cons_succ]
    refine doc_end (HF.out _ _ ?_)
    clear HF F c0 c1 c2 c3 c4 c5 z2 HS
    have CB1 := hid (CBH.out.on t1 HLT.out)
    have D1 := hid (DV.out.turn t1 (fun q hq => by simp at hq ⊢; exact .inr (.inr hq)))
    have P1H := hid P1
    have hM1 := t1.size
    have c1 := CB1.out.b2.cell 1
    have c2 := CB1.out.b2.cell 2
    have c3 := CB1.out.b2.cell 3
    have c4 := CB1.out.b2.cell 4
    have z2 := CB1.out.b2.lt
    simp only [List.getElem?_cons_zero, List.getElem?_cons_succ] at c1 c2 c3 c4
    have zB3 := CBH.out.b3.lt
    have RS := hid (rset_any (p := p) D1.out OH.out (HH.out W1 CB1.out.turn) hok hm (fun q hq => by
      simp only [List.mem_append, List.mem_singleton] at hq
      rcases hq with rfl | hq | hq
      · omega
      · have := hM q hq; omega
      · have := HLT.out q hq; omega) oh of on')
    clear t1 P1
    go_upto_region 10 with (fail)
    refine wp_region_doc (fun F hF => ?_)
    have HF := hid hF
    clear hF
    refine doc_val rfl (load_agg_op _ _ _ _ _ _ _ _ Try.underlying33 (prog_size _ rfl) rfl CB1.out.b0) ?_
    simp only [Act.put, List.setIfInBounds_toArray, List.set_cons_zero, List.set_cons_succ]
    refine doc_val rfl (load_agg_op _ _ _ _ _ _ _ _ Try.underlying39 (pk_size _ rfl) rfl CB1.out.b1) ?_
    simp only [Act.put, List.setIfInBounds_toArray, List.set_cons_zero, List.set_cons_succ]
    iterate 6 (refine doc_val rfl (by first | (go_simp; done) | (go_simp; exact ⟨rfl, rfl⟩) | (go_simp; with_reducible rfl)) ?_; simp only [Act.put, List.setIfInBounds_toArray, List.set_cons_zero, List.set_cons_succ])
    refine doc_call rfl (by first | (go_simp; done) | (go_simp; exact ⟨rfl, rfl⟩) | (go_simp; with_reducible rfl)) (RS.out.mono ?_)
    rintro _ W2 ⟨kd2, rfl, hb2, D2⟩
    refine ⟨_, rfl, ?_⟩
    simp only [Act.put, List.setIfInBounds_toArray, List.set_cons_zero, List.set_cons_succ]
    refine doc_skip rfl (store_row_op (xs := zeroCs) (ys := kd2.cs) _ _ _ _ _ _ _ _ _ (pk_size _ rfl) rfl (by simp [Value.oneCell']) rfl rfl (CB1.out.b3.below hb2)) ?_
    simp only [Act.put, List.setIfInBounds_toArray, List.set_cons_zero, List.set_cons_succ]
    refine doc_val rfl (by first | (go_simp; done) | (go_simp; exact ⟨rfl, rfl⟩) | (go_simp; with_reducible rfl)) ?_
    simp only [Act.put, List.setIfInBounds_toArray, List.set_cons_zero, List.set_cons_succ]
    refine doc_end (HF.out _ _ ?_)
    clear HF F
    have bR := (CB1.out.b3.below hb2).row kd2.cs
    have D2H := hid D2
    have HB2 := hid hb2
    clear D2 hb2
    go_wp2
    refine bodyPost_ret (res_cellT (v := .bool true) rfl rfl rfl bR Try.underlying39 (pk_size _ rfl)) rfl ⟨kd2, rfl, ?_, ?_, ?_⟩
    · exact ((CB1.out.turn.trans (Turn.of_below HB2.out)).from (Turn.row (L := [w.heap.size + 1 + 1 + 1]) _ _ (by simp)) (fun q hq => by simp at hq; exact .inr (by omega)))
    · rw [EG.out]; exact (FIN.out W2 _ _ kd2 (P1H.out.below HB2.out) D2H.out).1
    · rw [EG.out]; exact (FIN.out W2 _ _ kd2 (P1H.out.below HB2.out) D2H.out).2
  have f3 : (ok == 3) = false := by simpa using e3
  by_cases e4 : ok = 4
  · subst e4
    have EG := hid (show S.op hs ⟨4, oh, of, on', oon⟩ = S.on oh oon by unfold PD.op; rw [if_neg (by simp), if_neg (by simp), if_neg (by simp), if_pos rfl])
    have HS := hid (hvalid_any PV.out OH.out oh oon)
    clear e1 e2 e3
    go_upto_region 12 with (fail)
    refine wp_region_doc (fun F hF => ?_)
    have HF := hid hF
    clear hF
    iterate 5 (refine doc_val rfl (by first | (go_simp; done) | (go_simp; exact ⟨rfl, rfl⟩) | (go_simp; with_reducible rfl)) ?_; simp only [Act.put, List.setIfInBounds_toArray, List.set_cons_zero, List.set_cons_succ])
    refine doc_call rfl (by first | (go_simp; done) | (go_simp; exact ⟨rfl, rfl⟩) | (go_simp; with_reducible rfl)) (HS.out.mono ?_)
    rintro _ W1 ⟨rfl, t1, P1⟩
    refine ⟨_, rfl, ?_⟩
    simp only [Act.put, List.setIfInBounds_toArray, List.set_cons_zero, List.set_cons_succ]
    refine doc_end (HF.out _ _ ?_)
    clear HF F c0 c1 c2 c3 c4 c5 z2 HS
    have CB1 := hid (CBH.out.on t1 HLT.out)
    have D1 := hid (DV.out.turn t1 (fun q hq => by simp at hq ⊢; exact .inr (.inr hq)))
    have P1H := hid P1
    have hM1 := t1.size
    have c1 := CB1.out.b2.cell 1
    have c5 := CB1.out.b2.cell 5
    have z2 := CB1.out.b2.lt
    simp only [List.getElem?_cons_zero, List.getElem?_cons_succ] at c1 c5
    have zB3 := CBH.out.b3.lt
    have RS := hid (rvalid_any D1.out OH.out hok hm (fun q hq => by
      simp only [List.mem_append, List.mem_singleton] at hq
      rcases hq with rfl | hq | hq
      · omega
      · have := hM q hq; omega
      · have := HLT.out q hq; omega) oh oon)
    clear t1 P1
    go_upto_region 13 with (fail)
    refine wp_region_doc (fun F hF => ?_)
    have HF := hid hF
    clear hF
    refine doc_val rfl (load_agg_op _ _ _ _ _ _ _ _ Try.underlying39 (pk_size _ rfl) rfl CB1.out.b1) ?_
    simp only [Act.put, List.setIfInBounds_toArray, List.set_cons_zero, List.set_cons_succ]
    iterate 4 (refine doc_val rfl (by first | (go_simp; done) | (go_simp; exact ⟨rfl, rfl⟩) | (go_simp; with_reducible rfl)) ?_; simp only [Act.put, List.setIfInBounds_toArray, List.set_cons_zero, List.set_cons_succ])
    refine doc_call rfl (by first | (go_simp; done) | (go_simp; exact ⟨rfl, rfl⟩) | (go_simp; with_reducible rfl)) (RS.out.mono ?_)
    rintro _ W2 ⟨kd2, rfl, hb2, D2⟩
    refine ⟨_, rfl, ?_⟩
    simp only [Act.put, List.setIfInBounds_toArray, List.set_cons_zero, List.set_cons_succ]
    refine doc_skip rfl (store_row_op (xs := zeroCs) (ys := kd2.cs) _ _ _ _ _ _ _ _ _ (pk_size _ rfl) rfl (by simp [Value.oneCell']) rfl rfl (CB1.out.b3.below hb2)) ?_
    simp only [Act.put, List.setIfInBounds_toArray, List.set_cons_zero, List.set_cons_succ]
    refine doc_val rfl (by first | (go_simp; done) | (go_simp; exact ⟨rfl, rfl⟩) | (go_simp; with_reducible rfl)) ?_
    simp only [Act.put, List.setIfInBounds_toArray, List.set_cons_zero, List.set_cons_succ]
    refine doc_end (HF.out _ _ ?_)
    clear HF F
    have bR := (CB1.out.b3.below hb2).row kd2.cs
    have D2H := hid D2
    have HB2 := hid hb2
    clear D2 hb2
    go_wp2
    refine bodyPost_ret (res_cellT (v := .bool true) rfl rfl rfl bR Try.underlying39 (pk_size _ rfl)) rfl ⟨kd2, rfl, ?_, ?_, ?_⟩
    · exact ((CB1.out.turn.trans (Turn.of_below HB2.out)).from (Turn.row (L := [w.heap.size + 1 + 1 + 1]) _ _ (by simp)) (fun q hq => by simp at hq; exact .inr (by omega)))
    · rw [EG.out]; exact (FIN.out W2 _ _ kd2 (P1H.out.below HB2.out) D2H.out).1
    · rw [EG.out]; exact (FIN.out W2 _ _ kd2 (P1H.out.below HB2.out) D2H.out).2
  have f4 : (ok == 4) = false := by simpa using e4
  have EG := hid (show S.op hs ⟨ok, oh, of, on', oon⟩ = S by unfold PD.op; rw [if_neg e1, if_neg e2, if_neg e3, if_neg e4])
  clear e1 e2 e3 e4
  go_upto_region 14 with (fail)
  refine wp_region_doc (fun F hF => ?_)
  have HF := hid hF
  clear hF
  refine doc_val rfl (load_agg_op _ _ _ _ _ _ _ _ Try.underlying39 (pk_size _ rfl) rfl CBH.out.b1) ?_
  simp only [Act.put, List.setIfInBounds_toArray, List.set_cons_zero, List.set_cons_succ]
  refine doc_skip rfl (store_row_op (xs := zeroCs) (ys := kd.cs) _ _ _ _ _ _ _ _ _ (pk_size _ rfl) rfl (by simp [Value.oneCell']) rfl rfl CBH.out.b3) ?_
  simp only [Act.put, List.setIfInBounds_toArray, List.set_cons_zero, List.set_cons_succ]
  refine doc_val rfl (by first | (go_simp; done) | (go_simp; exact ⟨rfl, rfl⟩) | (go_simp; with_reducible rfl)) ?_
  simp only [Act.put, List.setIfInBounds_toArray, List.set_cons_zero, List.set_cons_succ]
  refine doc_end (HF.out _ _ ?_)
  clear HF F
  have bR := CBH.out.b3.row kd.cs
  go_wp2
  refine bodyPost_ret (res_cellT (v := .bool true) rfl rfl rfl bR Try.underlying39 (pk_size _ rfl)) rfl ⟨kd, rfl, ?_, ?_, ?_⟩
  · exact CBH.out.turn.from (Turn.row (L := [w.heap.size + 1 + 1 + 1]) _ _ (by simp)) (fun q hq => by simp at hq; exact .inr (by omega))
  · rw [EG.out]; exact (FIN.out V _ S kd PV.out DV.out).1
  · rw [EG.out]; exact (FIN.out V _ S kd PV.out DV.out).2
end
end Go.Proofs.Ytkblldmpdihamaa
