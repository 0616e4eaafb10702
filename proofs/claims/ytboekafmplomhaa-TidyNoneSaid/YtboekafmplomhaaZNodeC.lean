/-
  The node of a variable, a lo and a hi.
-/
import Derived.Test.YtboekafmplomhaaZStoB
set_option linter.unusedVariables false
set_option linter.unusedSimpArgs false
namespace Go.Proofs.Ytboekafmplomhaa
open Go.RowKit

theorem node_same {w : World} {p : Nat} (v lo : Int) :
    Calls Try.prog 86 #[.pointer (some ⟨p, 0, none⟩), .int .i64 v, .int .i64 lo, .int .i64 lo] w (Pure (.int .i64 lo) w) := by
  go_enter Try.func86, Try.ntmps86
  go_wp2
  go_returns
  exact Pure.of rfl (by (repeat' (first | (with_reducible exact Below.refl _ _) | (with_reducible refine Below.ext_mk ?_ ?_ _ _) | (with_reducible refine Below.alloc ?_ ?_ _) | (with_reducible refine Below.drew ?_) | (with_reducible refine Below.setCell ?_ ?_ _) | go_size)))

/-- The zero of the maps' elements. -/
theorem zero_int (w : World) : (zeroValue 3).run Try.prog w = .ok (.int .i64 0) w := by kernel_rfl

theorem node_found {w : World} {p : Nat} {F : List Nat} {S : Sto} (h : StoIs w p F S) (v lo hi r : Int) (hne : lo ≠ hi) (hr : aget S.byn (v, lo, hi) = some r) :
    Calls Try.prog 86 #[.pointer (some ⟨p, 0, none⟩), .int .i64 v, .int .i64 lo, .int .i64 hi] w (Pure (.int .i64 r) w) := by
  have hne' : (lo == hi) = false := by simpa using hne
  clear hne
  go_enter Try.func86, Try.ntmps86
  go_upto_region 4 with (fail)
  refine wp_gen (fun W hW => ?_)
  have hbW : Below w.heap.size w W := by rw [hW]; ((repeat' (first | (with_reducible exact Below.refl _ _) | (with_reducible refine Below.ext_mk ?_ ?_ _ _) | (with_reducible refine Below.alloc ?_ ?_ _) | (with_reducible refine Below.drew ?_) | (with_reducible refine Below.setCell ?_ ?_ _) | go_size)))
  have zW0 : w.heap.size < W.heap.size := by rw [hW]; first | (simp; done) | (simp; omega)
  have cW0_0 : W.cell? ⟨w.heap.size, 0, none⟩ = some (.int .i64 v) := by rw [hW]; first | (go_simp; done) | (rw [World.cell?_alloc_past _ _ _ (by first | (simp; done) | (simp; omega))]; go_simp)
  have cW0_1 : W.cell? ⟨w.heap.size, 1, none⟩ = some (.int .i64 lo) := by rw [hW]; first | (go_simp; done) | (rw [World.cell?_alloc_past _ _ _ (by first | (simp; done) | (simp; omega))]; go_simp)
  have cW0_2 : W.cell? ⟨w.heap.size, 2, none⟩ = some (.int .i64 hi) := by rw [hW]; first | (go_simp; done) | (rw [World.cell?_alloc_past _ _ _ (by first | (simp; done) | (simp; omega))]; go_simp)
  clear hW
  have hS := h.below hbW
  obtain ⟨sv, G, bm, tm, s1, s2, s3, s4, s5, _⟩ := hS
  have d2 : W.cell? ⟨p, 2, none⟩ = some (.map (some bm)) := by simp [World.cell?, s1]
  have dp : p < W.heap.size := (Array.getElem?_eq_some_iff.1 s1).1
  have hlook : ∀ m d, (Instr.lookup 44 (.map (some bm)) (kv (v, lo, hi)) true).run Try.prog (W.ext m d) = .ok (.tuple #[.int .i64 r, .bool true]) (W.ext m d) := fun m d => by
    have e := lookup_run (w := W.ext m d) key_node Try.underlying44 (zero_int _) (l := S.byn) (b := bm) (by obtain ⟨es, cl, q1, q2⟩ := s3; exact ⟨es, cl, by rw [World.heap_ext _ _ _ (Array.getElem?_eq_some_iff.1 q1).1]; exact q1, q2⟩) (v, lo, hi) true
    rw [hr] at e
    exact e
  clear s1 s2 s3 s4 s5
  refine wp_region_ext (by kernel_rfl) (by kernel_rfl) (fun F hF => ?_)
  have HF := hid hF; clear hF
  repeat (first
    | (apply text_skip; (focus rfl); simp only [Act.put, List.setIfInBounds_toArray, List.set_cons_zero, List.set_cons_succ])
    | (apply text_val; (focus rfl); (focus (intro _ _; go_simp; with_reducible rfl)); simp only [Act.put, List.setIfInBounds_toArray, List.set_cons_zero, List.set_cons_succ])
    | (apply text_if; (focus (first | exact wanted_t rfl rfl | exact wanted_f rfl rfl | exact wanted_gt rfl rfl | exact wanted_gf rfl rfl)); (focus (intro hc _ _; (try simp only [Bool.and_eq_true, Bool.not_eq_true', Bool.true_and] at hc); go_simp; with_reducible rfl)); simp only [Act.put, List.setIfInBounds_toArray, List.set_cons_zero, List.set_cons_succ]))
  refine text_nil (HF.out _ (fun mx dx => ?_))
  clear HF F
  go_wp2
  go_returns
  exact Pure.of rfl (by (repeat' (first | (with_reducible exact Below.refl _ _) | (with_reducible refine Below.ext_mk ?_ ?_ _ _) | (with_reducible refine Below.alloc ?_ ?_ _) | (with_reducible refine Below.drew ?_) | (with_reducible refine Below.setCell ?_ ?_ _) | go_size)))

/-- What a full store gives up with. -/
abbrev overflow : List PanicEntry := [{ v := .iface 159 (.agg #[]), recovered := false }]
/-- A call that made a store another one. -/
def Turned (w : World) (p : Nat) (F : List Nat) (S' : Sto) (w' : World) : Prop := ∃ F', StoIs w' p F' S' ∧ StoStep w w' F F'

theorem StoStep.set {w : World} {F : List Nat} {p : Nat} (hp : p ∈ F) (i : Nat) (v : Value) : StoStep w (w.setCell ⟨p, i, none⟩ v) F F :=
  ⟨rfl, rfl, rfl, by simp, fun k _ hk => Below.heap_setCell _ _ _ _ (fun e => hk (by rw [e]; exact hp)), fun _ h => .inl h⟩
theorem StoStep.ext {w w' : World} {F F' : List Nat} (h : StoStep w w' F F') (m : Array Obj) (d : Nat) : StoStep w (w'.ext m d) F F' :=
  h.trans (StoStep.of_below (Below.ext_mk (Below.refl _ _) (Nat.le_refl _) m d))
theorem StoIs.mem {w : World} {p : Nat} {F : List Nat} {S : Sto} (h : StoIs w p F S) : p ∈ F := by
  obtain ⟨_, _, _, _, _, _, _, _, rfl, _⟩ := h; simp
theorem StoIs.set_full {w : World} {p : Nat} {F : List Nat} {S : Sto} (h : StoIs w p F S) (b : Bool) : StoIs (w.setCell ⟨p, 4, none⟩ (.bool b)) p F { S with full := b } := by
  obtain ⟨sv, G, bm, tm, h1, h2, ⟨es, cl, h3, h3'⟩, ⟨fs, dl, h4, h4'⟩, rfl, h5⟩ := h
  have hb : ∀ k, k ≠ p → (w.setCell ⟨p, 4, none⟩ (.bool b)).heap[k]? = w.heap[k]? := fun k hk => Below.heap_setCell _ _ _ _ hk
  simp only [List.nodup_cons, List.mem_cons, not_or, Option.mem_toList] at h5
  refine ⟨sv, G, bm, tm, ?_, h2.keep (fun g hg => hb g (fun e => h5.1.2.2 (by subst hg; rw [e]))), ⟨es, cl, by rw [hb bm (fun e => h5.1.1 e.symm)]; exact h3, h3'⟩, ⟨fs, dl, by rw [hb tm (fun e => h5.1.2.1 e.symm)]; exact h4, h4'⟩, rfl, ?_⟩
  · simp [World.setCell, Array.getElem?_modify, h1]
  · simp only [List.nodup_cons, List.mem_cons, not_or, Option.mem_toList]
    exact h5

theorem node_full {w : World} {p : Nat} {F : List Nat} {S : Sto} (h : StoIs w p F S) (v lo hi : Int) (hne : lo ≠ hi) (hr : aget S.byn (v, lo, hi) = none) (hl : (S.nodes.length : Int) = S.cap) :
    Calls Try.prog 86 #[.pointer (some ⟨p, 0, none⟩), .int .i64 v, .int .i64 lo, .int .i64 hi] w
      (fun e w' => e = .panicked overflow ∧ Turned w p F { S with full := true } w') := by
  have hne' : (lo == hi) = false := by simpa using hne
  clear hne
  go_enter Try.func86, Try.ntmps86
  go_upto_region 4 with (fail)
  refine wp_gen (fun W hW => ?_)
  have hbW : Below w.heap.size w W := by rw [hW]; ((repeat' (first | (with_reducible exact Below.refl _ _) | (with_reducible refine Below.ext_mk ?_ ?_ _ _) | (with_reducible refine Below.alloc ?_ ?_ _) | (with_reducible refine Below.drew ?_) | (with_reducible refine Below.setCell ?_ ?_ _) | go_size)))
  have zW0 : w.heap.size < W.heap.size := by rw [hW]; first | (simp; done) | (simp; omega)
  have cW0_0 : W.cell? ⟨w.heap.size, 0, none⟩ = some (.int .i64 v) := by rw [hW]; first | (go_simp; done) | (rw [World.cell?_alloc_past _ _ _ (by first | (simp; done) | (simp; omega))]; go_simp)
  have cW0_1 : W.cell? ⟨w.heap.size, 1, none⟩ = some (.int .i64 lo) := by rw [hW]; first | (go_simp; done) | (rw [World.cell?_alloc_past _ _ _ (by first | (simp; done) | (simp; omega))]; go_simp)
  have cW0_2 : W.cell? ⟨w.heap.size, 2, none⟩ = some (.int .i64 hi) := by rw [hW]; first | (go_simp; done) | (rw [World.cell?_alloc_past _ _ _ (by first | (simp; done) | (simp; omega))]; go_simp)
  clear hW
  have hS := h.below hbW
  have HS := hid hS
  obtain ⟨sv, G, bm, tm, s1, s2, s3, s4, s5, _⟩ := hS
  obtain ⟨sa, sc, rfl, _⟩ := s2.form
  have d0 : W.cell? ⟨p, 0, none⟩ = some (.int .i64 S.cap) := by simp [World.cell?, s1]
  have d1 : W.cell? ⟨p, 1, none⟩ = some (.slice sa S.nodes.length sc) := by simp [World.cell?, s1]
  have d2 : W.cell? ⟨p, 2, none⟩ = some (.map (some bm)) := by simp [World.cell?, s1]
  have d4 : W.cell? ⟨p, 4, none⟩ = some (.bool S.full) := by simp [World.cell?, s1]
  have f4 : W.frozen? ⟨p, 4, none⟩ = false := by simp [World.frozen?, s1]
  have dp : p < W.heap.size := (Array.getElem?_eq_some_iff.1 s1).1
  have hlook : ∀ m d, (Instr.lookup 44 (.map (some bm)) (kv (v, lo, hi)) true).run Try.prog (W.ext m d) = .ok (.tuple #[.int .i64 0, .bool false]) (W.ext m d) := fun m d => by
    have e := lookup_run (w := W.ext m d) key_node Try.underlying44 (zero_int _) (l := S.byn) (b := bm) (by obtain ⟨es, cl, q1, q2⟩ := s3; exact ⟨es, cl, by rw [World.heap_ext _ _ _ (Array.getElem?_eq_some_iff.1 q1).1]; exact q1, q2⟩) (v, lo, hi) true
    rw [hr] at e
    exact e
  have hl' : ((S.nodes.length : Int) == S.cap) = true := by simpa using hl
  clear s1 s2 s3 s4 s5 hr hl
  refine wp_region_ext (by kernel_rfl) (by kernel_rfl) (fun F hF => ?_)
  have HF := hid hF; clear hF
  repeat (first
    | (apply text_skip; (focus rfl); simp only [Act.put, List.setIfInBounds_toArray, List.set_cons_zero, List.set_cons_succ])
    | (apply text_val; (focus rfl); (focus (intro _ _; go_simp; with_reducible rfl)); simp only [Act.put, List.setIfInBounds_toArray, List.set_cons_zero, List.set_cons_succ])
    | (apply text_if; (focus (first | exact wanted_t rfl rfl | exact wanted_f rfl rfl | exact wanted_gt rfl rfl | exact wanted_gf rfl rfl)); (focus (intro hc _ _; (try simp only [Bool.and_eq_true, Bool.not_eq_true', Bool.true_and] at hc); go_simp; with_reducible rfl)); simp only [Act.put, List.setIfInBounds_toArray, List.set_cons_zero, List.set_cons_succ]))
  refine text_nil (HF.out _ (fun mx dx => ?_))
  clear HF F
  go_upto_region 7 with (fail)
  refine wp_region_ext (by kernel_rfl) (by kernel_rfl) (fun F hF => ?_)
  have HF := hid hF; clear hF
  repeat (first
    | (apply text_skip; (focus rfl); simp only [Act.put, List.setIfInBounds_toArray, List.set_cons_zero, List.set_cons_succ])
    | (apply text_val; (focus rfl); (focus (intro _ _; go_simp; with_reducible rfl)); simp only [Act.put, List.setIfInBounds_toArray, List.set_cons_zero, List.set_cons_succ])
    | (apply text_if; (focus (first | exact wanted_t rfl rfl | exact wanted_f rfl rfl | exact wanted_gt rfl rfl | exact wanted_gf rfl rfl)); (focus (intro hc _ _; (try simp only [Bool.and_eq_true, Bool.not_eq_true', Bool.true_and] at hc); go_simp; with_reducible rfl)); simp only [Act.put, List.setIfInBounds_toArray, List.set_cons_zero, List.set_cons_succ]))
  refine text_nil (HF.out _ (fun mx dx => ?_))
  clear HF F
  go_wp2
  exact ⟨rfl, rfl, F, (HS.out.set_full true).ext _ _, ((StoStep.of_below hbW).trans (StoStep.set HS.out.mem 4 _)).ext _ _⟩

end Go.Proofs.Ytboekafmplomhaa
set_option linter.unusedVariables false
set_option linter.unusedSimpArgs false
namespace Go
open Go.RowKit
theorem World.alloc_is_ext (w : World) (o : Obj) : w.alloc o = w.ext #[o] w.drawn := by
  unfold World.alloc World.ext; simp
theorem ext_alloc_drew (w : World) (o : Obj) : Ext w.drew (w.alloc o).drew := ⟨#[o], w.drawn + 1, by
  unfold World.alloc World.ext World.drew; simp⟩
theorem World.heap_putObj_ne (w : World) {b k : Nat} (o : Obj) (h : k ≠ b) : (w.putObj b o).heap[k]? = w.heap[k]? := by
  simp [World.putObj, Array.getElem?_setIfInBounds_ne (Ne.symm h)]
@[simp, go_sem] theorem World.size_putObj (w : World) (b : Nat) (o : Obj) : (w.putObj b o).heap.size = w.heap.size := by simp [World.putObj]

section
variable {P : Program} {ops : Array Oper} {Q : Exit → Act → World → Prop} {W W1 : World} {F : Act → World → Prop} {o : Oper} {r : List Oper} {a : Act} {v : Value}
/-- A region in the order of the text, operation by operation, whatever each does to the world. -/
def DoWalk (P : Program) (ops : Array Oper) (F : Act → World → Prop) : World → List Oper → Act → Prop
  | w, [], a => F a w
  | w, o :: r, a => Region.wanted o (yielded ops a.tmps) = true ∧
    ((∃ v w1, (execOp a.eval o).run P w = .ok (.value v) w1 ∧ DoWalk P ops F w1 r (a.put o.dst v)) ∨
     (∃ w1, (execOp a.eval o).run P w = .ok .skip w1 ∧ DoWalk P ops F w1 r (a.put o.dst undef)))
theorem do_val (hg : Region.wanted o (yielded ops a.tmps) = true) (h : (execOp a.eval o).run P W = .ok (.value v) W1) (c : DoWalk P ops F W1 r (a.put o.dst v)) : DoWalk P ops F W (o :: r) a := ⟨hg, .inl ⟨v, W1, h, c⟩⟩
theorem do_skip (hg : Region.wanted o (yielded ops a.tmps) = true) (h : (execOp a.eval o).run P W = .ok .skip W1) (c : DoWalk P ops F W1 r (a.put o.dst undef)) : DoWalk P ops F W (o :: r) a := ⟨hg, .inr ⟨W1, h, c⟩⟩
theorem do_end (c : F a W) : DoWalk P ops F W [] a := c
theorem wp_region_do {id : Nat} (h : ∀ F : Act → World → Prop, (∀ a' w', Q .normal a' w' → F a' w') → DoWalk P ops F W ops.toList a) : (Code.region id ops false).wp P Q a W := by
  have key : ∀ (l : List Oper) (a : Act) (w : World), DoWalk P ops (fun a' w' => Q .normal a' w') w l a → wpList P ops Q l a w := by
    intro l
    induction l with
    | nil => intro a w h; exact h
    | cons o r ih =>
      rintro a w ⟨hg, h⟩
      unfold wpList
      rw [if_pos hg]
      refine .inl ?_
      unfold Oper.wp
      rcases h with ⟨v, w1, h, c⟩ | ⟨w1, h, c⟩
      · rw [h]; exact ih _ _ c
      · rw [h]; exact ih _ _ c
  exact wp_region_list (key _ _ _ (h _ (fun _ _ h => h)))
end
end Go
namespace Go.Proofs.Ytboekafmplomhaa
open Go.RowKit

theorem MapIs.keep {α : Type} {Kv : α → Value} {w w' : World} {b : Nat} {l : List (α × Int)} (h : MapIs Kv w b l) (hk : w'.heap[b]? = w.heap[b]?) : MapIs Kv w' b l := by
  obtain ⟨es, cl, h1, h2⟩ := h
  exact ⟨es, cl, by rw [hk]; exact h1, h2⟩

/-- A store with its parts named. -/
structure StoAt (w : World) (p : Nat) (sv : Value) (G : Option Nat) (bm tm : Nat) (S : Sto) : Prop where
  blk : w.heap[p]? = some (.cells #[.int .i64 S.cap, sv, .map (some bm), .map (some tm), .bool S.full] 47 (0, 0))
  row : RowIs w sv G 39 3 S.nodes.length (flat S.nodes)
  by_ : MapIs kv w bm S.byn
  told : MapIs kv w tm S.told
  nd : (p :: bm :: tm :: G.toList).Nodup
theorem StoAt.is {w : World} {p : Nat} {sv : Value} {G : Option Nat} {bm tm : Nat} {S : Sto} (h : StoAt w p sv G bm tm S) : StoIs w p (p :: bm :: tm :: G.toList) S :=
  ⟨sv, G, bm, tm, h.blk, h.row, h.by_, h.told, rfl, h.nd⟩
theorem StoIs.at {w : World} {p : Nat} {F : List Nat} {S : Sto} (h : StoIs w p F S) : ∃ sv G bm tm, StoAt w p sv G bm tm S ∧ F = p :: bm :: tm :: G.toList := by
  obtain ⟨sv, G, bm, tm, h1, h2, h3, h4, rfl, h5⟩ := h
  exact ⟨sv, G, bm, tm, ⟨h1, h2, h3, h4, h5⟩, rfl⟩

theorem StoAt.put_by {w : World} {p : Nat} {sv : Value} {G : Option Nat} {bm tm : Nat} {S : Sto} (h : StoAt w p sv G bm tm S) (o : Obj) {l : List (Nd × Int)} (hm : MapIs kv (w.putObj bm o) bm l) :
    StoAt (w.putObj bm o) p sv G bm tm { S with byn := l } := by
  have h5 := h.nd
  simp only [List.nodup_cons, List.mem_cons, not_or, Option.mem_toList] at h5
  exact ⟨by rw [World.heap_putObj_ne _ _ h5.1.1]; exact h.blk, h.row.keep (fun g hg => World.heap_putObj_ne _ _ (fun e => h5.2.1.2 (by subst hg; rw [e]))), hm, MapIs.keep h.told (World.heap_putObj_ne _ _ (fun e => h5.2.1.1 e.symm)), h.nd⟩
theorem StoAt.put_told {w : World} {p : Nat} {sv : Value} {G : Option Nat} {bm tm : Nat} {S : Sto} (h : StoAt w p sv G bm tm S) (o : Obj) {l : List (Nd × Int)} (hm : MapIs kv (w.putObj tm o) tm l) :
    StoAt (w.putObj tm o) p sv G bm tm { S with told := l } := by
  have h5 := h.nd
  simp only [List.nodup_cons, List.mem_cons, not_or, Option.mem_toList] at h5
  exact ⟨by rw [World.heap_putObj_ne _ _ h5.1.2.1]; exact h.blk, h.row.keep (fun g hg => World.heap_putObj_ne _ _ (fun e => h5.2.2.1 (by subst hg; rw [e]))), MapIs.keep h.by_ (World.heap_putObj_ne _ _ h5.2.1.1), hm, h.nd⟩
theorem StoStep.put {w : World} {F : List Nat} {b : Nat} (hb : b ∈ F) (o : Obj) : StoStep w (w.putObj b o) F F :=
  ⟨rfl, rfl, rfl, by simp, fun k _ hk => World.heap_putObj_ne _ _ (fun e => hk (by rw [e]; exact hb)), fun _ h => .inl h⟩

theorem StoAt.grow {V w1 : World} {p : Nat} {sv v' : Value} {G : Option Nat} {bm tm G' : Nat} {S : Sto} {n : Nd} (h : StoAt V p sv G bm tm S)
    (hr : RowIs w1 v' (some G') 39 3 (S.nodes.length + 1) (flat S.nodes ++ [.int .i64 n.1, .int .i64 n.2.1, .int .i64 n.2.2])) (hg : V.grownBy w1 G) (hG : G = some G' ∨ (V.heap.size ≤ G' ∧ G' < w1.heap.size)) :
    StoAt (w1.setCell ⟨p, 1, none⟩ v') p v' (some G') bm tm { S with nodes := S.nodes ++ [n] } ∧ StoStep V (w1.setCell ⟨p, 1, none⟩ v') (p :: bm :: tm :: G.toList) (p :: bm :: tm :: [G']) := by
  have h5 := h.nd
  simp only [List.nodup_cons, List.mem_cons, not_or, Option.mem_toList] at h5
  have hp : p < V.heap.size := (Array.getElem?_eq_some_iff.1 h.blk).1
  have hbm : bm < V.heap.size := by obtain ⟨_, _, q, _⟩ := h.by_; exact (Array.getElem?_eq_some_iff.1 q).1
  have htm : tm < V.heap.size := by obtain ⟨_, _, q, _⟩ := h.told; exact (Array.getElem?_eq_some_iff.1 q).1
  have kp : w1.heap[p]? = V.heap[p]? := hg.block p hp (fun e => h5.1.2.2 e.symm)
  have kb : w1.heap[bm]? = V.heap[bm]? := hg.block bm hbm (fun e => h5.2.1.2 e.symm)
  have kt : w1.heap[tm]? = V.heap[tm]? := hg.block tm htm (fun e => h5.2.2.1 e.symm)
  have hne : p ≠ G' ∧ bm ≠ G' ∧ tm ≠ G' := by
    rcases hG with rfl | ⟨hG, _⟩
    · exact ⟨fun e => h5.1.2.2 (by rw [e]), fun e => h5.2.1.2 (by rw [e]), fun e => h5.2.2.1 (by rw [e])⟩
    · exact ⟨by omega, by omega, by omega⟩
  have hs : ∀ k, k ≠ p → (w1.setCell ⟨p, 1, none⟩ v').heap[k]? = w1.heap[k]? := fun k hk => Below.heap_setCell _ _ _ _ hk
  refine ⟨⟨?_, ?_, ?_, ?_, ?_⟩, ?_⟩
  · have := h.blk
    rw [← kp] at this
    simp [World.setCell, Array.getElem?_modify, this]
  · have e : flat (S.nodes ++ [n]) = flat S.nodes ++ [.int .i64 n.1, .int .i64 n.2.1, .int .i64 n.2.2] := by rw [flat_append]; rfl
    show RowIs _ _ _ _ _ (S.nodes ++ [n]).length (flat (S.nodes ++ [n]))
    rw [e, List.length_append]
    exact hr.keep (fun g hg' => by cases hg'; exact hs G' (fun e => hne.1 e.symm))
  · exact MapIs.keep h.by_ (by rw [hs bm (fun e => h5.1.1 e.symm)]; exact kb)
  · exact MapIs.keep h.told (by rw [hs tm (fun e => h5.1.2.1 e.symm)]; exact kt)
  · simp only [List.nodup_cons, List.mem_cons, not_or, Option.mem_toList, Option.some.injEq]
    refine ⟨⟨h5.1.1, h5.1.2.1, fun e => hne.1 e.symm⟩, ⟨h5.2.1.1, fun e => hne.2.1 e.symm⟩, fun e => hne.2.2 e.symm, ?_⟩
    simp
  · refine ⟨hg.os, hg.tape, hg.output, by simpa using hg.size, fun k hk hn => ?_, fun k hk => ?_⟩
    · simp only [List.mem_cons, not_or, Option.mem_toList] at hn
      rw [hs k hn.1]
      exact hg.block k hk (fun e => hn.2.2.2 e.symm)
    · simp only [List.mem_cons, Option.mem_toList] at hk ⊢
      rcases hk with rfl | rfl | rfl | rfl | hk
      · exact .inl (.inl rfl)
      · exact .inl (.inr (.inl rfl))
      · exact .inl (.inr (.inr (.inl rfl)))
      · rcases hG with hG | hG
        · exact .inl (.inr (.inr (.inr hG)))
        · exact .inr ⟨hG.1, by simpa using hG.2⟩
      · simp at hk

end Go.Proofs.Ytboekafmplomhaa
set_option linter.unusedVariables false
set_option linter.unusedSimpArgs false
theorem Go.World.heap_alloc_last (w : Go.World) (o : Go.Obj) : (w.alloc o).heap[w.heap.size]? = some o := by unfold Go.World.alloc; exact Array.getElem?_push_size
namespace Go.Proofs.Ytboekafmplomhaa
open Go.RowKit

theorem StoAt.lt {w : World} {p : Nat} {sv : Value} {G : Option Nat} {bm tm : Nat} {S : Sto} (h : StoAt w p sv G bm tm S) : p < w.heap.size ∧ bm < w.heap.size ∧ tm < w.heap.size ∧ ∀ g, G = some g → g < w.heap.size :=
  ⟨h.is.lt p (by simp), h.is.lt bm (by simp), h.is.lt tm (by simp), fun g hg => h.is.lt g (by simp [hg])⟩
theorem StoAt.below {w w' : World} {p : Nat} {sv : Value} {G : Option Nat} {bm tm : Nat} {S : Sto} (h : StoAt w p sv G bm tm S) (hb : Below w.heap.size w w') : StoAt w' p sv G bm tm S := by
  obtain ⟨l1, l2, l3, l4⟩ := h.lt
  exact ⟨by rw [hb.block p l1]; exact h.blk, h.row.keep (fun g hg => hb.block g (l4 g hg)), MapIs.keep h.by_ (hb.block bm l2), MapIs.keep h.told (hb.block tm l3), h.nd⟩
theorem StoAt.cells {w : World} {p : Nat} {sv : Value} {G : Option Nat} {bm tm : Nat} {S : Sto} (h : StoAt w p sv G bm tm S) :
    w.cell? ⟨p, 0, none⟩ = some (.int .i64 S.cap) ∧ w.cell? ⟨p, 1, none⟩ = some sv ∧ w.cell? ⟨p, 2, none⟩ = some (.map (some bm)) ∧ w.cell? ⟨p, 3, none⟩ = some (.map (some tm)) ∧ w.cell? ⟨p, 4, none⟩ = some (.bool S.full) ∧
    ∀ i, w.frozen? ⟨p, i, none⟩ = false := by
  have s1 := h.blk
  refine ⟨?_, ?_, ?_, ?_, ?_, fun i => ?_⟩ <;> simp [World.cell?, World.frozen?, s1]

theorem cell_of_heap {w w' : World} {b : Nat} (i : Nat) (h : w'.heap[b]? = w.heap[b]?) : w'.cell? ⟨b, i, none⟩ = w.cell? ⟨b, i, none⟩ := by simp [World.cell?, h]
theorem info_some : (Try.prog.info? 39).isSome = true := by kernel_rfl
noncomputable abbrev infoB : TypeInfo := (Try.prog.info? 39).get info_some
theorem info_is : Try.prog.info? 39 = some infoB := (Option.some_get _).symm
theorem infoB_zero : infoB.zero = some (.agg #[.int .i64 0, .int .i64 0, .int .i64 0]) := by kernel_rfl
theorem infoB_size : infoB.size = 3 := by kernel_rfl
theorem infoB_bytes : infoB.bytes = 24 := by kernel_rfl

theorem node_new {w : World} {p : Nat} {F : List Nat} {S : Sto} (h : StoIs w p F S) (v lo hi : Int) (hne : lo ≠ hi) (hr : aget S.byn (v, lo, hi) = none) (hl : (S.nodes.length : Int) < S.cap) (hc : S.cap ≤ 1048576) :
    Calls Try.prog 86 #[.pointer (some ⟨p, 0, none⟩), .int .i64 v, .int .i64 lo, .int .i64 hi] w
      (fun e w' => e = .returned (.int .i64 (S.nodes.length + 2)) ∧ Turned w p F { S with nodes := S.nodes ++ [(v, lo, hi)], byn := aput S.byn (v, lo, hi) (S.nodes.length + 2) } w') := by
  have hne' : (lo == hi) = false := by simpa using hne
  clear hne
  go_enter Try.func86, Try.ntmps86
  go_upto_region 4 with (fail)
  refine wp_gen (fun W hW => ?_)
  have hbW : Below w.heap.size w W := by rw [hW]; ((repeat' (first | (with_reducible exact Below.refl _ _) | (with_reducible refine Below.ext_mk ?_ ?_ _ _) | (with_reducible refine Below.alloc ?_ ?_ _) | (with_reducible refine Below.drew ?_) | (with_reducible refine Below.setCell ?_ ?_ _) | go_size)))
  have zW0 : w.heap.size < W.heap.size := by rw [hW]; first | (simp; done) | (simp; omega)
  have cW0_0 : W.cell? ⟨w.heap.size, 0, none⟩ = some (.int .i64 v) := by rw [hW]; first | (go_simp; done) | (rw [World.cell?_alloc_past _ _ _ (by first | (simp; done) | (simp; omega))]; go_simp)
  have cW0_1 : W.cell? ⟨w.heap.size, 1, none⟩ = some (.int .i64 lo) := by rw [hW]; first | (go_simp; done) | (rw [World.cell?_alloc_past _ _ _ (by first | (simp; done) | (simp; omega))]; go_simp)
  have cW0_2 : W.cell? ⟨w.heap.size, 2, none⟩ = some (.int .i64 hi) := by rw [hW]; first | (go_simp; done) | (rw [World.cell?_alloc_past _ _ _ (by first | (simp; done) | (simp; omega))]; go_simp)
  clear hW
  have HS := hid (h.below hbW)
  obtain ⟨sv, G, bm, tm, hA, rfl⟩ := (h.below hbW).at
  have s1 := hA.blk
  obtain ⟨sa, sc, rfl, _⟩ := hA.row.form
  have d0 : W.cell? ⟨p, 0, none⟩ = some (.int .i64 S.cap) := by simp [World.cell?, s1]
  have d1 : W.cell? ⟨p, 1, none⟩ = some (.slice sa S.nodes.length sc) := by simp [World.cell?, s1]
  have d2 : W.cell? ⟨p, 2, none⟩ = some (.map (some bm)) := by simp [World.cell?, s1]
  have dp : p < W.heap.size := (Array.getElem?_eq_some_iff.1 s1).1
  have hlook : ∀ m d, (Instr.lookup 44 (.map (some bm)) (kv (v, lo, hi)) true).run Try.prog (W.ext m d) = .ok (.tuple #[.int .i64 0, .bool false]) (W.ext m d) := fun m d => by
    have e := lookup_run (w := W.ext m d) key_node Try.underlying44 (zero_int _) (l := S.byn) (b := bm) (by obtain ⟨es, cl, q1, q2⟩ := hA.by_; exact ⟨es, cl, by rw [World.heap_ext _ _ _ (Array.getElem?_eq_some_iff.1 q1).1]; exact q1, q2⟩) (v, lo, hi) true
    rw [hr] at e
    exact e
  have hl' : ((S.nodes.length : Int) == S.cap) = false := by simp; omega
  have HA := hid hA
  clear hA s1 hr
  refine wp_region_ext (by kernel_rfl) (by kernel_rfl) (fun F hF => ?_)
  have HF := hid hF; clear hF
  repeat (first
    | (apply text_skip; (focus rfl); simp only [Act.put, List.setIfInBounds_toArray, List.set_cons_zero, List.set_cons_succ])
    | (apply text_val; (focus rfl); (focus (intro _ _; go_simp; with_reducible rfl)); simp only [Act.put, List.setIfInBounds_toArray, List.set_cons_zero, List.set_cons_succ])
    | (apply text_if; (focus (first | exact wanted_t rfl rfl | exact wanted_f rfl rfl | exact wanted_gt rfl rfl | exact wanted_gf rfl rfl)); (focus (intro hc _ _; (try simp only [Bool.and_eq_true, Bool.not_eq_true', Bool.true_and] at hc); go_simp; with_reducible rfl)); simp only [Act.put, List.setIfInBounds_toArray, List.set_cons_zero, List.set_cons_succ]))
  refine text_nil (HF.out _ (fun ma da => ?_))
  clear HF F
  go_upto_region 7 with (fail)
  refine wp_region_ext (by kernel_rfl) (by kernel_rfl) (fun F hF => ?_)
  have HF := hid hF; clear hF
  repeat (first
    | (apply text_skip; (focus rfl); simp only [Act.put, List.setIfInBounds_toArray, List.set_cons_zero, List.set_cons_succ])
    | (apply text_val; (focus rfl); (focus (intro _ _; go_simp; with_reducible rfl)); simp only [Act.put, List.setIfInBounds_toArray, List.set_cons_zero, List.set_cons_succ])
    | (apply text_if; (focus (first | exact wanted_t rfl rfl | exact wanted_f rfl rfl | exact wanted_gt rfl rfl | exact wanted_gf rfl rfl)); (focus (intro hc _ _; (try simp only [Bool.and_eq_true, Bool.not_eq_true', Bool.true_and] at hc); go_simp; with_reducible rfl)); simp only [Act.put, List.setIfInBounds_toArray, List.set_cons_zero, List.set_cons_succ]))
  refine text_nil (HF.out _ (fun mb db => ?_))
  clear HF F
  go_upto_region 10 with (fail)
  refine wp_region_chained [6, 7, 10] 1 (by kernel_rfl) (by kernel_rfl) (by kernel_rfl) (by kernel_rfl) (fun F hF => ?_)
  have HF := hid hF
  clear hF
  refine chain_any rfl rfl (fun _ => by go_simp; with_reducible rfl) ?_
  simp only [Act.put, List.setIfInBounds_toArray, List.set_cons_zero, List.set_cons_succ]
  refine chain_any rfl rfl (fun _ => by go_simp; with_reducible rfl) ?_
  simp only [Act.put, List.setIfInBounds_toArray, List.set_cons_zero, List.set_cons_succ]
  refine chain_read (z := 7) rfl rfl (by kernel_rfl) rfl (fun _ _ => by go_simp; with_reducible rfl) ?_
  simp only [Act.put, List.setIfInBounds_toArray, List.set_cons_zero, List.set_cons_succ]
  refine chain_read (z := 7) rfl rfl (by kernel_rfl) rfl (fun _ _ => by go_simp; with_reducible rfl) ?_
  simp only [Act.put, List.setIfInBounds_toArray, List.set_cons_zero, List.set_cons_succ]
  refine chain_read (z := 7) rfl rfl (by kernel_rfl) rfl (fun _ _ => by go_simp; with_reducible rfl) ?_
  simp only [Act.put, List.setIfInBounds_toArray, List.set_cons_zero, List.set_cons_succ]
  refine chain_read (z := 7) rfl rfl (by kernel_rfl) rfl (fun _ _ => by go_simp; with_reducible rfl) ?_
  simp only [Act.put, List.setIfInBounds_toArray, List.set_cons_zero, List.set_cons_succ]
  refine chain_turn ?_ rfl (by go_simp; exact ⟨rfl, rfl⟩) ?_
  · intro _
    go_simp
    rw [World.alloc_is_ext]
    exact ⟨_, _, rfl⟩
  simp only [Act.put, List.setIfInBounds_toArray, List.set_cons_zero, List.set_cons_succ]
  refine chain_gen (fun V hV => ?_)
  obtain ⟨n0, hn0⟩ : ∃ n0, n0 = W.heap.size + (ma.size + mb.size) := ⟨_, rfl⟩
  have hbV : Below W.heap.size W V := by rw [hV]; (repeat' (first | (with_reducible exact Below.refl _ _) | (with_reducible refine Below.ext_mk ?_ ?_ _ _) | (with_reducible refine Below.alloc ?_ ?_ _) | (with_reducible refine Below.drew ?_) | (with_reducible refine Below.setCell ?_ ?_ _) | go_size))
  have zV : n0 < V.heap.size := by rw [hV, hn0]; simp
  have lit : V.heap[n0]? = some (.cells #[.int .i64 v, .int .i64 lo, .int .i64 hi] 39 (0, 0)) := by
    have e : n0 = (W.ext (ma ++ mb) (db + 1)).heap.size := by rw [hn0]; simp
    rw [hV, e]; exact World.heap_alloc_last _ _
  rw [← hn0]
  have hB := HA.out.below hbV
  obtain ⟨v', w1, G', r1, r2, r3, r4⟩ := append_row (P := Try.prog) 43 43 infoB (.agg #[.int .i64 0, .int .i64 0, .int .i64 0]) 24 Try.underlying43 info_is infoB_zero infoB_size infoB_bytes rfl (by omega) hB.row
    ⟨n0, 0, none⟩ 1 1 [.int .i64 v, .int .i64 lo, .int .i64 hi] rfl (fun j u hu => by
      rcases j with _ | _ | _ | j
      · simp at hu; subst hu; simp [World.cell?, lit, Addr.add]
      · simp at hu; subst hu; simp [World.cell?, lit, Addr.add]
      · simp at hu; subst hu; simp [World.cell?, lit, Addr.add]
      · simp at hu) (by simp [Value.oneCell']) (by omega) (by unfold maxLen; omega) (by omega)
  obtain ⟨sa', sc', rfl, _⟩ := r2.form
  obtain ⟨g1, g2⟩ := hB.grow (n := (v, lo, hi)) r2 r3 r4
  refine chain_turn (fun h => absurd h (by decide)) rfl (run_append_op _ _ _ _ _ _ _ _ _ r1) ?_
  simp only [Act.put, List.setIfInBounds_toArray, List.set_cons_zero, List.set_cons_succ]
  have hkp : w1.heap[p]? = V.heap[p]? := r3.block p hB.lt.1 (fun e => by
    have := hB.nd; subst e; simp at this)
  have e1 : w1.cell? ⟨p, 1, none⟩ = some (.slice sa S.nodes.length sc) := by have := hB.cells.2.1; simpa [World.cell?, hkp] using this
  have e2 : w1.frozen? ⟨p, 1, none⟩ = false := by have := hB.cells.2.2.2.2.2 1; simpa [World.frozen?, hkp] using this
  have e3 : p < w1.heap.size := Nat.lt_of_lt_of_le hB.lt.1 r3.size
  refine chain_any rfl rfl (fun _ => by go_simp; with_reducible rfl) ?_
  simp only [Act.put, List.setIfInBounds_toArray, List.set_cons_zero, List.set_cons_succ]
  refine chain_any rfl rfl (fun _ => by go_simp; with_reducible rfl) ?_
  simp only [Act.put, List.setIfInBounds_toArray, List.set_cons_zero, List.set_cons_succ]
  refine chain_do (fun h => absurd h (by decide)) rfl (by go_simp; with_reducible rfl) ?_
  simp only [Act.put, List.setIfInBounds_toArray, List.set_cons_zero, List.set_cons_succ]
  refine chain_end (HF.out _ _ ?_)
  clear HF F
  go_upto_region 11 with (fail)
  refine wp_gen (fun V2 hV2 => ?_)
  rw [← hV2] at g1 g2
  have hk0 : V2.heap[w.heap.size]? = W.heap[w.heap.size]? := by
    rw [g2.block _ (Nat.lt_of_lt_of_le zW0 hbV.size) (fun hm => Nat.lt_irrefl _ (h.lt _ hm))]
    exact hbV.block _ zW0
  have b0 := (cell_of_heap 0 hk0).trans cW0_0
  have b1 := (cell_of_heap 1 hk0).trans cW0_1
  have b2 := (cell_of_heap 2 hk0).trans cW0_2
  have b3 : w.heap.size < V2.heap.size := Nat.lt_of_lt_of_le zW0 (Nat.le_trans hbV.size g2.size)
  obtain ⟨e0, e1', e2', e5, e6, e7⟩ := g1.cells
  clear e0 e5 e6 e7
  have e4 := g1.lt.1
  have hw : IntKind.i64.wrap ((S.nodes.length : Int) + 1 + 1) = (S.nodes.length : Int) + 2 := by
    rw [show (S.nodes.length : Int) + 1 + 1 = (S.nodes.length : Int) + 2 by omega]; exact IntWalk.i64_in _ (by omega)
  clear hV2 hV lit d0 d1 d2 cW0_0 cW0_1 cW0_2 e1 e2 hlook
  obtain ⟨o, u1, u2⟩ := update_run (t := 44) key_node Try.underlying44 (w := V2.drew) (by obtain ⟨es, cl, q⟩ := g1.by_; exact ⟨es, cl, q⟩) (v, lo, hi) ((S.nodes.length : Int) + 2)
  have G1 := hid g1
  have G2 := hid g2
  clear g1 g2
  refine wp_region_chained [11] 0 (by kernel_rfl) (by kernel_rfl) (by kernel_rfl) (by kernel_rfl) (fun F hF => ?_)
  have HF := hid hF
  clear hF
  repeat (first
    | (refine chain_any rfl rfl (fun _ => by go_simp; with_reducible rfl) ?_; simp only [Act.put, List.setIfInBounds_toArray, List.set_cons_zero, List.set_cons_succ])
    | (refine chain_read (z := 11) rfl rfl (by kernel_rfl) rfl (fun _ _ => by go_simp; with_reducible rfl) ?_; simp only [Act.put, List.setIfInBounds_toArray, List.set_cons_zero, List.set_cons_succ]))
  refine chain_do (fun h => absurd h (by decide)) rfl (by go_simp; with_reducible rfl) ?_
  simp only [Act.put, List.setIfInBounds_toArray, List.set_cons_zero, List.set_cons_succ]
  refine chain_end (HF.out _ _ ?_)
  clear HF F
  have g3 := (G1.out.below (w' := V2.drew) (Below.drew (Below.refl _ _))).put_by o u2
  have g4 : StoStep w (V2.drew.putObj bm o) (p :: bm :: tm :: G.toList) [p, bm, tm, G'] :=
    (StoStep.of_below hbW).trans ((StoStep.of_below hbV).trans ((G2.out.trans (StoStep.of_below (w' := V2.drew) (Below.drew (Below.refl _ _)))).trans (StoStep.put (by simp) o)))
  go_upto_region 12 with (fail)
  refine wp_gen (fun V3 hV3 => ?_)
  rw [← hV3] at g3 g4
  obtain ⟨e0, y1, e2', e5, e6, e7⟩ := g3.cells
  have y2 := g3.lt.1
  clear e0 e1' e2' e5 e6 e7 hV3 u1 u2
  have G3 := hid g3.is
  have G4 := hid g4
  clear g3 g4 G1 G2
  go_wp2
  go_returns
  exact ⟨rfl, _, G3.out, G4.out⟩

end Go.Proofs.Ytboekafmplomhaa
