/-
  A new node: the walk.
-/
import Derived.Test.YtboekafmplomhaaNodeB
set_option linter.unusedVariables false
set_option linter.unusedSimpArgs false
theorem Go.World.heap_alloc_last (w : Go.World) (o : Go.Obj) : (w.alloc o).heap[w.heap.size]? = some o := by unfold Go.World.alloc; exact Array.getElem?_push_size
namespace Go.Proofs.Ytboekafmplomhaa
open Go.RowKit

theorem StoAt.lt {w : World} {p : Nat} {sv : Value} {G : Option Nat} {bm tm : Nat} {S : Sto} (h : StoAt w p sv G bm tm S) : p < w.heap.size ∧ bm < w.heap.size ∧ tm < w.heap.size ∧ ∀ g, G = some g → g < w.heap.size :=
  ⟨h.is.lt p (by simp), h.is.lt bm (by simp), h.is.lt tm (by simp), fun g hg => h.is.lt g (by simp [hg])⟩
theorem StoAt.below {w w' : World} {p : Nat} {sv : Value} {G : Option Nat} {bm tm : Nat} {S : Sto} (h : StoAt w p sv G bm tm S) (hb : Below w.heap.size w w') : StoAt w' p sv G bm tm S := by
  obtain ⟨l1, l2, l3, l4⟩ := h.lt
  exact ⟨by rw [hb.block p l1]; exact h.blk, h.row.keep (fun g hg => hb.block g (l4 g hg)), MapIs.keep h.by_ (hb.block bm l2), MapIs.keep h.told (hb.block tm l3), h.nd⟩
theorem StoAt.cells {w : World} {p : Nat} {sv : Value} {G : Option Nat} {bm tm : Nat} {S : Sto} (h : StoAt w p sv G bm tm S) :
    w.cell? ⟨p, 0, none⟩ = some (.int .i64 S.cap) ∧ w.cell? ⟨p, 1, none⟩ = some sv ∧ w.cell? ⟨p, 2, none⟩ = some (.map (some bm)) ∧ w.cell? ⟨p, 3, none⟩ = some (.map (some tm)) ∧ w.cell? ⟨p, 4, none⟩ = some (.bool S.full) ∧
    ∀ i, w.frozen? ⟨p, i, none⟩ = false := by
  have s1 := h.blk
  refine ⟨?_, ?_, ?_, ?_, ?_, fun i => ?_⟩ <;> simp [World.cell?, World.frozen?, s1]

theorem cell_of_heap {w w' : World} {b : Nat} (i : Nat) (h : w'.heap[b]? = w.heap[b]?) : w'.cell? ⟨b, i, none⟩ = w.cell? ⟨b, i, none⟩ := by simp [World.cell?, h]
theorem info_some : (Try.prog.info? 39).isSome = true := by kernel_rfl
noncomputable abbrev infoB : TypeInfo := (Try.prog.info? 39).get info_some
theorem info_is : Try.prog.info? 39 = some infoB := (Option.some_get _).symm
theorem infoB_zero : infoB.zero = some (.agg #[.int .i64 0, .int .i64 0, .int .i64 0]) := by kernel_rfl
theorem infoB_size : infoB.size = 3 := by kernel_rfl
theorem infoB_bytes : infoB.bytes = 24 := by kernel_rfl

theorem node_new {w : World} {p : Nat} {F : List Nat} {S : Sto} (h : StoIs w p F S) (v lo hi : Int) (hne : lo ≠ hi) (hr : aget S.byn (v, lo, hi) = none) (hl : (S.nodes.length : Int) < S.cap) (hc : S.cap ≤ 1048576) :
    Calls Try.prog 86 #[.pointer (some ⟨p, 0, none⟩), .int .i64 v, .int .i64 lo, .int .i64 hi] w
      (fun e w' => e = .returned (.int .i64 (S.nodes.length + 2)) ∧ Turned w p F { S with nodes := S.nodes ++ [(v, lo, hi)], byn := aput S.byn (v, lo, hi) (S.nodes.length + 2) } w') := by
  have hne' : (lo == hi) = false := by simpa using hne
  clear hne
  go_enter Try.func86, Try.ntmps86
  go_upto_region 4 with (fail)
  refine wp_gen (fun W hW => ?_)
  have hbW : Below w.heap.size w W := by rw [hW]; ((repeat' (first | (with_reducible exact Below.refl _ _) | (with_reducible refine Below.ext_mk ?_ ?_ _ _) | (with_reducible refine Below.alloc ?_ ?_ _) | (with_reducible refine Below.drew ?_) | (with_reducible refine Below.setCell ?_ ?_ _) | go_size)))
  have zW0 : w.heap.size < W.heap.size := by rw [hW]; first | (simp; done) | (simp; omega)
  have cW0_0 : W.cell? ⟨w.heap.size, 0, none⟩ = some (.int .i64 v) := by rw [hW]; first | (go_simp; done) | (rw [World.cell?_alloc_past _ _ _ (by first | (simp; done) | (simp; omega))]; go_simp)
  have cW0_1 : W.cell? ⟨w.heap.size, 1, none⟩ = some (.int .i64 lo) := by rw [hW]; first | (go_simp; done) | (rw [World.cell?_alloc_past _ _ _ (by first | (simp; done) | (simp; omega))]; go_simp)
  have cW0_2 : W.cell? ⟨w.heap.size, 2, none⟩ = some (.int .i64 hi) := by rw [hW]; first | (go_simp; done) | (rw [World.cell?_alloc_past _ _ _ (by first | (simp; done) | (simp; omega))]; go_simp)
  clear hW
  have HS := hid (h.below hbW)
  obtain ⟨sv, G, bm, tm, hA, rfl⟩ := (h.below hbW).at
  have s1 := hA.blk
  obtain ⟨sa, sc, rfl, _⟩ := hA.row.form
  have d0 : W.cell? ⟨p, 0, none⟩ = some (.int .i64 S.cap) := by simp [World.cell?, s1]
  have d1 : W.cell? ⟨p, 1, none⟩ = some (.slice sa S.nodes.length sc) := by simp [World.cell?, s1]
  have d2 : W.cell? ⟨p, 2, none⟩ = some (.map (some bm)) := by simp [World.cell?, s1]
  have dp : p < W.heap.size := (Array.getElem?_eq_some_iff.1 s1).1
  have hlook : ∀ m d, (Instr.lookup 44 (.map (some bm)) (kv (v, lo, hi)) true).run Try.prog (W.ext m d) = .ok (.tuple #[.int .i64 0, .bool false]) (W.ext m d) := fun m d => by
    have e := lookup_run (w := W.ext m d) key_node Try.underlying44 (zero_int _) (l := S.byn) (b := bm) (by obtain ⟨es, cl, q1, q2⟩ := hA.by_; exact ⟨es, cl, by rw [World.heap_ext _ _ _ (Array.getElem?_eq_some_iff.1 q1).1]; exact q1, q2⟩) (v, lo, hi) true
    rw [hr] at e
    exact e
  have hl' : ((S.nodes.length : Int) == S.cap) = false := by simp; omega
  have HA := hid hA
  clear hA s1 hr
  refine wp_region_ext (by kernel_rfl) (by kernel_rfl) (fun F hF => ?_)
  have HF := hid hF; clear hF
  repeat (first
    | (apply text_skip; (focus rfl); simp only [Act.put, List.setIfInBounds_toArray, List.set_cons_zero, List.set_cons_succ])
    | (apply text_val; (focus rfl); (focus (intro _ _; go_simp; with_reducible rfl)); simp only [Act.put, List.setIfInBounds_toArray, List.set_cons_zero, List.set_cons_succ])
    | (apply text_if; (focus (first | exact wanted_t rfl rfl | exact wanted_f rfl rfl | exact wanted_gt rfl rfl | exact wanted_gf rfl rfl)); (focus (intro hc _ _; (try simp only [Bool.and_eq_true, Bool.not_eq_true', Bool.true_and] at hc); go_simp; with_reducible rfl)); simp only [Act.put, List.setIfInBounds_toArray, List.set_cons_zero, List.set_cons_succ]))
  refine text_nil (HF.out _ (fun ma da => ?_))
  clear HF F
  go_upto_region 7 with (fail)
  refine wp_region_ext (by kernel_rfl) (by kernel_rfl) (fun F hF => ?_)
  have HF := hid hF; clear hF
  repeat (first
    | (apply text_skip; (focus rfl); simp only [Act.put, List.setIfInBounds_toArray, List.set_cons_zero, List.set_cons_succ])
    | (apply text_val; (focus rfl); (focus (intro _ _; go_simp; with_reducible rfl)); simp only [Act.put, List.setIfInBounds_toArray, List.set_cons_zero, List.set_cons_succ])
    | (apply text_if; (focus (first | exact wanted_t rfl rfl | exact wanted_f rfl rfl | exact wanted_gt rfl rfl | exact wanted_gf rfl rfl)); (focus (intro hc _ _; (try simp only [Bool.and_eq_true, Bool.not_eq_true', Bool.true_and] at hc); go_simp; with_reducible rfl)); simp only [Act.put, List.setIfInBounds_toArray, List.set_cons_zero, List.set_cons_succ]))
  refine text_nil (HF.out _ (fun mb db => ?_))
  clear HF F
  go_upto_region 10 with (fail)
  refine wp_region_chained [6, 7, 10] 1 (by kernel_rfl) (by kernel_rfl) (by kernel_rfl) (by kernel_rfl) (fun F hF => ?_)
  have HF := hid hF
  clear hF
  refine chain_any rfl rfl (fun _ => by go_simp; with_reducible rfl) ?_
  simp only [Act.put, List.setIfInBounds_toArray, List.set_cons_zero, List.set_cons_succ]
  refine chain_any rfl rfl (fun _ => by go_simp; with_reducible rfl) ?_
  simp only [Act.put, List.setIfInBounds_toArray, List.set_cons_zero, List.set_cons_succ]
  refine chain_read (z := 7) rfl rfl (by kernel_rfl) rfl (fun _ _ => by go_simp; with_reducible rfl) ?_
  simp only [Act.put, List.setIfInBounds_toArray, List.set_cons_zero, List.set_cons_succ]
  refine chain_read (z := 7) rfl rfl (by kernel_rfl) rfl (fun _ _ => by go_simp; with_reducible rfl) ?_
  simp only [Act.put, List.setIfInBounds_toArray, List.set_cons_zero, List.set_cons_succ]
  refine chain_read (z := 7) rfl rfl (by kernel_rfl) rfl (fun _ _ => by go_simp; with_reducible rfl) ?_
  simp only [Act.put, List.setIfInBounds_toArray, List.set_cons_zero, List.set_cons_succ]
  refine chain_read (z := 7) rfl rfl (by kernel_rfl) rfl (fun _ _ => by go_simp; with_reducible rfl) ?_
  simp only [Act.put, List.setIfInBounds_toArray, List.set_cons_zero, List.set_cons_succ]
  refine chain_turn ?_ rfl (by go_simp; exact ⟨rfl, rfl⟩) ?_
  · intro _
    go_simp
    rw [World.alloc_is_ext]
    exact ⟨_, _, rfl⟩
  simp only [Act.put, List.setIfInBounds_toArray, List.set_cons_zero, List.set_cons_succ]
  refine chain_gen (fun V hV => ?_)
  obtain ⟨n0, hn0⟩ : ∃ n0, n0 = W.heap.size + (ma.size + mb.size) := ⟨_, rfl⟩
  have hbV : Below W.heap.size W V := by rw [hV]; (repeat' (first | (with_reducible exact Below.refl _ _) | (with_reducible refine Below.ext_mk ?_ ?_ _ _) | (with_reducible refine Below.alloc ?_ ?_ _) | (with_reducible refine Below.drew ?_) | (with_reducible refine Below.setCell ?_ ?_ _) | go_size))
  have zV : n0 < V.heap.size := by rw [hV, hn0]; simp
  have lit : V.heap[n0]? = some (.cells #[.int .i64 v, .int .i64 lo, .int .i64 hi] 39 (0, 0)) := by
    have e : n0 = (W.ext (ma ++ mb) (db + 1)).heap.size := by rw [hn0]; simp
    rw [hV, e]; exact World.heap_alloc_last _ _
  rw [← hn0]
  have hB := HA.out.below hbV
  obtain ⟨v', w1, G', r1, r2, r3, r4⟩ := append_row (P := Try.prog) 43 43 infoB (.agg #[.int .i64 0, .int .i64 0, .int .i64 0]) 24 Try.underlying43 info_is infoB_zero infoB_size infoB_bytes rfl (by omega) hB.row
    ⟨n0, 0, none⟩ 1 1 [.int .i64 v, .int .i64 lo, .int .i64 hi] rfl (fun j u hu => by
      rcases j with _ | _ | _ | j
      · simp at hu; subst hu; simp [World.cell?, lit, Addr.add]
      · simp at hu; subst hu; simp [World.cell?, lit, Addr.add]
      · simp at hu; subst hu; simp [World.cell?, lit, Addr.add]
      · simp at hu) (by simp [Value.oneCell']) (by omega) (by unfold maxLen; omega) (by omega)
  obtain ⟨sa', sc', rfl, _⟩ := r2.form
  obtain ⟨g1, g2⟩ := hB.grow (n := (v, lo, hi)) r2 r3 r4
  refine chain_turn (fun h => absurd h (by decide)) rfl (run_append_op _ _ _ _ _ _ _ _ _ r1) ?_
  simp only [Act.put, List.setIfInBounds_toArray, List.set_cons_zero, List.set_cons_succ]
  have hkp : w1.heap[p]? = V.heap[p]? := r3.block p hB.lt.1 (fun e => by
    have := hB.nd; subst e; simp at this)
  have e1 : w1.cell? ⟨p, 1, none⟩ = some (.slice sa S.nodes.length sc) := by have := hB.cells.2.1; simpa [World.cell?, hkp] using this
  have e2 : w1.frozen? ⟨p, 1, none⟩ = false := by have := hB.cells.2.2.2.2.2 1; simpa [World.frozen?, hkp] using this
  have e3 : p < w1.heap.size := Nat.lt_of_lt_of_le hB.lt.1 r3.size
  refine chain_any rfl rfl (fun _ => by go_simp; with_reducible rfl) ?_
  simp only [Act.put, List.setIfInBounds_toArray, List.set_cons_zero, List.set_cons_succ]
  refine chain_any rfl rfl (fun _ => by go_simp; with_reducible rfl) ?_
  simp only [Act.put, List.setIfInBounds_toArray, List.set_cons_zero, List.set_cons_succ]
  refine chain_do (fun h => absurd h (by decide)) rfl (by go_simp; with_reducible rfl) ?_
  simp only [Act.put, List.setIfInBounds_toArray, List.set_cons_zero, List.set_cons_succ]
  refine chain_end (HF.out _ _ ?_)
  clear HF F
  go_upto_region 11 with (fail)
  refine wp_gen (fun V2 hV2 => ?_)
  rw [← hV2] at g1 g2
  have hk0 : V2.heap[w.heap.size]? = W.heap[w.heap.size]? := by
    rw [g2.block _ (Nat.lt_of_lt_of_le zW0 hbV.size) (fun hm => Nat.lt_irrefl _ (h.lt _ hm))]
    exact hbV.block _ zW0
  have b0 := (cell_of_heap 0 hk0).trans cW0_0
  have b1 := (cell_of_heap 1 hk0).trans cW0_1
  have b2 := (cell_of_heap 2 hk0).trans cW0_2
  have b3 : w.heap.size < V2.heap.size := Nat.lt_of_lt_of_le zW0 (Nat.le_trans hbV.size g2.size)
  obtain ⟨e0, e1', e2', e5, e6, e7⟩ := g1.cells
  clear e0 e5 e6 e7
  have e4 := g1.lt.1
  have hw : IntKind.i64.wrap ((S.nodes.length : Int) + 1 + 1) = (S.nodes.length : Int) + 2 := by
    rw [show (S.nodes.length : Int) + 1 + 1 = (S.nodes.length : Int) + 2 by omega]; exact IntWalk.i64_in _ (by omega)
  clear hV2 hV lit d0 d1 d2 cW0_0 cW0_1 cW0_2 e1 e2 hlook
  obtain ⟨o, u1, u2⟩ := update_run (t := 44) key_node Try.underlying44 (w := V2.drew) (by obtain ⟨es, cl, q⟩ := g1.by_; exact ⟨es, cl, q⟩) (v, lo, hi) ((S.nodes.length : Int) + 2)
  have G1 := hid g1
  have G2 := hid g2
  clear g1 g2
  refine wp_region_chained [11] 0 (by kernel_rfl) (by kernel_rfl) (by kernel_rfl) (by kernel_rfl) (fun F hF => ?_)
  have HF := hid hF
  clear hF
  repeat (first
    | (refine chain_any rfl rfl (fun _ => by go_simp; with_reducible rfl) ?_; simp only [Act.put, List.setIfInBounds_toArray, List.set_cons_zero, List.set_cons_succ])
    | (refine chain_read (z := 11) rfl rfl (by kernel_rfl) rfl (fun _ _ => by go_simp; with_reducible rfl) ?_; simp only [Act.put, List.setIfInBounds_toArray, List.set_cons_zero, List.set_cons_succ]))
  refine chain_do (fun h => absurd h (by decide)) rfl (by go_simp; with_reducible rfl) ?_
  simp only [Act.put, List.setIfInBounds_toArray, List.set_cons_zero, List.set_cons_succ]
  refine chain_end (HF.out _ _ ?_)
  clear HF F
  have g3 := (G1.out.below (w' := V2.drew) (Below.drew (Below.refl _ _))).put_by o u2
  have g4 : StoStep w (V2.drew.putObj bm o) (p :: bm :: tm :: G.toList) [p, bm, tm, G'] :=
    (StoStep.of_below hbW).trans ((StoStep.of_below hbV).trans ((G2.out.trans (StoStep.of_below (w' := V2.drew) (Below.drew (Below.refl _ _)))).trans (StoStep.put (by simp) o)))
  go_upto_region 12 with (fail)
  refine wp_gen (fun V3 hV3 => ?_)
  rw [← hV3] at g3 g4
  obtain ⟨e0, y1, e2', e5, e6, e7⟩ := g3.cells
  have y2 := g3.lt.1
  clear e0 e1' e2' e5 e6 e7 hV3 u1 u2
  have G3 := hid g3.is
  have G4 := hid g4
  clear g3 g4 G1 G2
  go_wp2
  go_returns
  exact ⟨rfl, _, G3.out, G4.out⟩

end Go.Proofs.Ytboekafmplomhaa
