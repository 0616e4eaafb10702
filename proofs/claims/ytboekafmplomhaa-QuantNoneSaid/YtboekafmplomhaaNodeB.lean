/-
  A new node.
-/
import Derived.Test.YtboekafmplomhaaNode
set_option linter.unusedVariables false
set_option linter.unusedSimpArgs false
namespace Go
open Go.RowKit
theorem World.alloc_is_ext (w : World) (o : Obj) : w.alloc o = w.ext #[o] w.drawn := by
  unfold World.alloc World.ext; simp
theorem ext_alloc_drew (w : World) (o : Obj) : Ext w.drew (w.alloc o).drew := ⟨#[o], w.drawn + 1, by
  unfold World.alloc World.ext World.drew; simp⟩
theorem World.heap_putObj_ne (w : World) {b k : Nat} (o : Obj) (h : k ≠ b) : (w.putObj b o).heap[k]? = w.heap[k]? := by
  simp [World.putObj, Array.getElem?_setIfInBounds_ne (Ne.symm h)]
@[simp, go_sem] theorem World.size_putObj (w : World) (b : Nat) (o : Obj) : (w.putObj b o).heap.size = w.heap.size := by simp [World.putObj]

section
variable {P : Program} {ops : Array Oper} {Q : Exit → Act → World → Prop} {W W1 : World} {F : Act → World → Prop} {o : Oper} {r : List Oper} {a : Act} {v : Value}
/-- A region in the order of the text, operation by operation, whatever each does to the world. -/
def DoWalk (P : Program) (ops : Array Oper) (F : Act → World → Prop) : World → List Oper → Act → Prop
  | w, [], a => F a w
  | w, o :: r, a => Region.wanted o (yielded ops a.tmps) = true ∧
    ((∃ v w1, (execOp a.eval o).run P w = .ok (.value v) w1 ∧ DoWalk P ops F w1 r (a.put o.dst v)) ∨
     (∃ w1, (execOp a.eval o).run P w = .ok .skip w1 ∧ DoWalk P ops F w1 r (a.put o.dst undef)))
theorem do_val (hg : Region.wanted o (yielded ops a.tmps) = true) (h : (execOp a.eval o).run P W = .ok (.value v) W1) (c : DoWalk P ops F W1 r (a.put o.dst v)) : DoWalk P ops F W (o :: r) a := ⟨hg, .inl ⟨v, W1, h, c⟩⟩
theorem do_skip (hg : Region.wanted o (yielded ops a.tmps) = true) (h : (execOp a.eval o).run P W = .ok .skip W1) (c : DoWalk P ops F W1 r (a.put o.dst undef)) : DoWalk P ops F W (o :: r) a := ⟨hg, .inr ⟨W1, h, c⟩⟩
theorem do_end (c : F a W) : DoWalk P ops F W [] a := c
theorem wp_region_do {id : Nat} (h : ∀ F : Act → World → Prop, (∀ a' w', Q .normal a' w' → F a' w') → DoWalk P ops F W ops.toList a) : (Code.region id ops false).wp P Q a W := by
  have key : ∀ (l : List Oper) (a : Act) (w : World), DoWalk P ops (fun a' w' => Q .normal a' w') w l a → wpList P ops Q l a w := by
    intro l
    induction l with
    | nil => intro a w h; exact h
    | cons o r ih =>
      rintro a w ⟨hg, h⟩
      unfold wpList
      rw [if_pos hg]
      refine .inl ?_
      unfold Oper.wp
      rcases h with ⟨v, w1, h, c⟩ | ⟨w1, h, c⟩
      · rw [h]; exact ih _ _ c
      · rw [h]; exact ih _ _ c
  exact wp_region_list (key _ _ _ (h _ (fun _ _ h => h)))
end
end Go
namespace Go.Proofs.Ytboekafmplomhaa
open Go.RowKit

theorem MapIs.keep {α : Type} {Kv : α → Value} {w w' : World} {b : Nat} {l : List (α × Int)} (h : MapIs Kv w b l) (hk : w'.heap[b]? = w.heap[b]?) : MapIs Kv w' b l := by
  obtain ⟨es, cl, h1, h2⟩ := h
  exact ⟨es, cl, by rw [hk]; exact h1, h2⟩

/-- A store with its parts named. -/
structure StoAt (w : World) (p : Nat) (sv : Value) (G : Option Nat) (bm tm : Nat) (S : Sto) : Prop where
  blk : w.heap[p]? = some (.cells #[.int .i64 S.cap, sv, .map (some bm), .map (some tm), .bool S.full] 47 (0, 0))
  row : RowIs w sv G 39 3 S.nodes.length (flat S.nodes)
  by_ : MapIs kv w bm S.byn
  told : MapIs kv w tm S.told
  nd : (p :: bm :: tm :: G.toList).Nodup
theorem StoAt.is {w : World} {p : Nat} {sv : Value} {G : Option Nat} {bm tm : Nat} {S : Sto} (h : StoAt w p sv G bm tm S) : StoIs w p (p :: bm :: tm :: G.toList) S :=
  ⟨sv, G, bm, tm, h.blk, h.row, h.by_, h.told, rfl, h.nd⟩
theorem StoIs.at {w : World} {p : Nat} {F : List Nat} {S : Sto} (h : StoIs w p F S) : ∃ sv G bm tm, StoAt w p sv G bm tm S ∧ F = p :: bm :: tm :: G.toList := by
  obtain ⟨sv, G, bm, tm, h1, h2, h3, h4, rfl, h5⟩ := h
  exact ⟨sv, G, bm, tm, ⟨h1, h2, h3, h4, h5⟩, rfl⟩

theorem StoAt.put_by {w : World} {p : Nat} {sv : Value} {G : Option Nat} {bm tm : Nat} {S : Sto} (h : StoAt w p sv G bm tm S) (o : Obj) {l : List (Nd × Int)} (hm : MapIs kv (w.putObj bm o) bm l) :
    StoAt (w.putObj bm o) p sv G bm tm { S with byn := l } := by
  have h5 := h.nd
  simp only [List.nodup_cons, List.mem_cons, not_or, Option.mem_toList] at h5
  exact ⟨by rw [World.heap_putObj_ne _ _ h5.1.1]; exact h.blk, h.row.keep (fun g hg => World.heap_putObj_ne _ _ (fun e => h5.2.1.2 (by subst hg; rw [e]))), hm, MapIs.keep h.told (World.heap_putObj_ne _ _ (fun e => h5.2.1.1 e.symm)), h.nd⟩
theorem StoAt.put_told {w : World} {p : Nat} {sv : Value} {G : Option Nat} {bm tm : Nat} {S : Sto} (h : StoAt w p sv G bm tm S) (o : Obj) {l : List (Nd × Int)} (hm : MapIs kv (w.putObj tm o) tm l) :
    StoAt (w.putObj tm o) p sv G bm tm { S with told := l } := by
  have h5 := h.nd
  simp only [List.nodup_cons, List.mem_cons, not_or, Option.mem_toList] at h5
  exact ⟨by rw [World.heap_putObj_ne _ _ h5.1.2.1]; exact h.blk, h.row.keep (fun g hg => World.heap_putObj_ne _ _ (fun e => h5.2.2.1 (by subst hg; rw [e]))), MapIs.keep h.by_ (World.heap_putObj_ne _ _ h5.2.1.1), hm, h.nd⟩
theorem StoStep.put {w : World} {F : List Nat} {b : Nat} (hb : b ∈ F) (o : Obj) : StoStep w (w.putObj b o) F F :=
  ⟨rfl, rfl, rfl, by simp, fun k _ hk => World.heap_putObj_ne _ _ (fun e => hk (by rw [e]; exact hb)), fun _ h => .inl h⟩

theorem StoAt.grow {V w1 : World} {p : Nat} {sv v' : Value} {G : Option Nat} {bm tm G' : Nat} {S : Sto} {n : Nd} (h : StoAt V p sv G bm tm S)
    (hr : RowIs w1 v' (some G') 39 3 (S.nodes.length + 1) (flat S.nodes ++ [.int .i64 n.1, .int .i64 n.2.1, .int .i64 n.2.2])) (hg : V.grownBy w1 G) (hG : G = some G' ∨ (V.heap.size ≤ G' ∧ G' < w1.heap.size)) :
    StoAt (w1.setCell ⟨p, 1, none⟩ v') p v' (some G') bm tm { S with nodes := S.nodes ++ [n] } ∧ StoStep V (w1.setCell ⟨p, 1, none⟩ v') (p :: bm :: tm :: G.toList) (p :: bm :: tm :: [G']) := by
  have h5 := h.nd
  simp only [List.nodup_cons, List.mem_cons, not_or, Option.mem_toList] at h5
  have hp : p < V.heap.size := (Array.getElem?_eq_some_iff.1 h.blk).1
  have hbm : bm < V.heap.size := by obtain ⟨_, _, q, _⟩ := h.by_; exact (Array.getElem?_eq_some_iff.1 q).1
  have htm : tm < V.heap.size := by obtain ⟨_, _, q, _⟩ := h.told; exact (Array.getElem?_eq_some_iff.1 q).1
  have kp : w1.heap[p]? = V.heap[p]? := hg.block p hp (fun e => h5.1.2.2 e.symm)
  have kb : w1.heap[bm]? = V.heap[bm]? := hg.block bm hbm (fun e => h5.2.1.2 e.symm)
  have kt : w1.heap[tm]? = V.heap[tm]? := hg.block tm htm (fun e => h5.2.2.1 e.symm)
  have hne : p ≠ G' ∧ bm ≠ G' ∧ tm ≠ G' := by
    rcases hG with rfl | ⟨hG, _⟩
    · exact ⟨fun e => h5.1.2.2 (by rw [e]), fun e => h5.2.1.2 (by rw [e]), fun e => h5.2.2.1 (by rw [e])⟩
    · exact ⟨by omega, by omega, by omega⟩
  have hs : ∀ k, k ≠ p → (w1.setCell ⟨p, 1, none⟩ v').heap[k]? = w1.heap[k]? := fun k hk => Below.heap_setCell _ _ _ _ hk
  refine ⟨⟨?_, ?_, ?_, ?_, ?_⟩, ?_⟩
  · have := h.blk
    rw [← kp] at this
    simp [World.setCell, Array.getElem?_modify, this]
  · have e : flat (S.nodes ++ [n]) = flat S.nodes ++ [.int .i64 n.1, .int .i64 n.2.1, .int .i64 n.2.2] := by rw [flat_append]; rfl
    show RowIs _ _ _ _ _ (S.nodes ++ [n]).length (flat (S.nodes ++ [n]))
    rw [e, List.length_append]
    exact hr.keep (fun g hg' => by cases hg'; exact hs G' (fun e => hne.1 e.symm))
  · exact MapIs.keep h.by_ (by rw [hs bm (fun e => h5.1.1 e.symm)]; exact kb)
  · exact MapIs.keep h.told (by rw [hs tm (fun e => h5.1.2.1 e.symm)]; exact kt)
  · simp only [List.nodup_cons, List.mem_cons, not_or, Option.mem_toList, Option.some.injEq]
    refine ⟨⟨h5.1.1, h5.1.2.1, fun e => hne.1 e.symm⟩, ⟨h5.2.1.1, fun e => hne.2.1 e.symm⟩, fun e => hne.2.2 e.symm, ?_⟩
    simp
  · refine ⟨hg.os, hg.tape, hg.output, by simpa using hg.size, fun k hk hn => ?_, fun k hk => ?_⟩
    · simp only [List.mem_cons, not_or, Option.mem_toList] at hn
      rw [hs k hn.1]
      exact hg.block k hk (fun e => hn.2.2.2 e.symm)
    · simp only [List.mem_cons, Option.mem_toList] at hk ⊢
      rcases hk with rfl | rfl | rfl | rfl | hk
      · exact .inl (.inl rfl)
      · exact .inl (.inr (.inl rfl))
      · exact .inl (.inr (.inr (.inl rfl)))
      · rcases hG with hG | hG
        · exact .inl (.inr (.inr (.inr hG)))
        · exact .inr ⟨hG.1, by simpa using hG.2⟩
      · simp at hk

end Go.Proofs.Ytboekafmplomhaa
