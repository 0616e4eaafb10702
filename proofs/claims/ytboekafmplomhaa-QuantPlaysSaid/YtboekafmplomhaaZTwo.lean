/-
  The program's store and the document's store side by side, in blocks of their own.
-/
import Derived.Test.YtboekafmplomhaaZHungP
import Derived.Test.YtboekafmplomhaaZRefTwins
import Derived.Test.YtboekafmplomhaaZKnown31B
import Derived.Test.YtboekafmplomhaaZQuantC
import Derived.Test.YtboekafmplomhaaZDead
import Derived.Test.YtboekafmplomhaaZQuantB
set_option linter.unusedVariables false
set_option linter.unusedSimpArgs false
namespace Go.Proofs.Ytboekafmplomhaa
open Go.RowKit

/-- Behind w0, whose blocks both leave alone. -/
structure Two (w0 w : World) (p q : Nat) (F G : List Nat) (S T : Sto) : Prop where
  sto : StoIs w p F S
  ref : RIs w q G (rOf T)
  dis : ∀ k ∈ F, k ∉ G
  base : Below w0.heap.size w0 w
  loF : ∀ k ∈ F, w0.heap.size ≤ k
  loG : ∀ k ∈ G, w0.heap.size ≤ k
section
variable {w0 w w' : World} {p q : Nat} {F G F' G' : List Nat} {S T S' T' : Sto}
theorem StoStep.wideR (h : StoStep w w' F F') (G : List Nat) : StoStep w w' (F ++ G) (F' ++ G) :=
  ⟨h.os, h.tape, h.output, h.size, fun k h1 h2 => h.block k h1 (fun hm => h2 (List.mem_append.2 (.inl hm))), fun k hk => by
    rcases List.mem_append.1 hk with hk | hk
    · exact (h.fresh k hk).imp (fun h' => List.mem_append.2 (.inl h')) id
    · exact .inl (List.mem_append.2 (.inr hk))⟩
theorem StoStep.wideL (h : StoStep w w' F F') (G : List Nat) : StoStep w w' (G ++ F) (G ++ F') :=
  ⟨h.os, h.tape, h.output, h.size, fun k h1 h2 => h.block k h1 (fun hm => h2 (List.mem_append.2 (.inr hm))), fun k hk => by
    rcases List.mem_append.1 hk with hk | hk
    · exact .inl (List.mem_append.2 (.inl hk))
    · exact (h.fresh k hk).imp (fun h' => List.mem_append.2 (.inr h')) id⟩
theorem Two.below (h : Two w0 w p q F G S T) (hb : Below w.heap.size w w') : Two w0 w' p q F G S T := ⟨h.sto.below hb, h.ref.below hb, h.dis, h.base.trans (hb.mono h.base.size), h.loF, h.loG⟩
def TwoTo (w0 w : World) (p q : Nat) (F G : List Nat) (S T : Sto) (w' : World) : Prop := ∃ F' G', Two w0 w' p q F' G' S T ∧ StoStep w w' (F ++ G) (F' ++ G')
/-- The program's store turns; the document's stays. -/
theorem Two.prog (h : Two w0 w p q F G S T) (t : Turned w p F S' w') : TwoTo w0 w p q F G S' T w' := by
  obtain ⟨F', h1, st⟩ := t
  refine ⟨F', G, ⟨h1, h.ref.keep (fun k hk => st.block k (h.ref.lt k hk) (fun hm => h.dis k hm hk)), fun k hk hg => ?_, h.base.trans (st.below h.loF h.base.size), st.low h.loF h.base.size, h.loG⟩, st.wideR G⟩
  exact st.keeps (h.ref.lt k hg) (fun hm => h.dis k hm hg) hk
/-- The document's store turns; the program's stays. -/
theorem Two.doc (h : Two w0 w p q F G S T) (t : ∃ G', RIs w' q G' (rOf T') ∧ StoStep w w' G G') : TwoTo w0 w p q F G S T' w' := by
  obtain ⟨G', h1, st⟩ := t
  refine ⟨F, G', ⟨h.sto.keep (fun k hk => st.block k (h.sto.lt k hk) (h.dis k hk)), h1, fun k hk hg => ?_, h.base.trans (st.below h.loG h.base.size), h.loF, st.low h.loG h.base.size⟩, st.wideL F⟩
  exact st.keeps (h.sto.lt k hk) (h.dis k hk) hg
theorem composeV_good (hW : Wf S) (hs : Sated S) (a v b : Int) : Wf (composeV S a v b).1 ∧ Sated (composeV S a v b).1 := by
  unfold composeV
  split
  · have P := partsV_good hW hs a v
    exact iteV_good P.1 P.2 _ _ _
  · exact ⟨hW, hs⟩
theorem swapV_good (hW : Wf S) (hs : Sated S) (a u v : Int) : Wf (swapV S a u v).1 ∧ Sated (swapV S a u v).1 := by
  unfold swapV
  split
  · exact ⟨hW, hs⟩
  · have P1 := partsV_good hW hs a u
    have P2 := partsV_good P1.1 P1.2 (partsV S a u).2.1 v
    have P3 := partsV_good P2.1 P2.2 (partsV S a u).2.2 v
    have V1 := varV_good P3.1 P3.2 u
    have V2 := varV_good V1.1 V1.2 v
    have I1 := iteV_good V2.1 V2.2
    exact (fun A B C => (fun D E G => (iteV_good ((iteV_good (I1 A B C).1 (I1 A B C).2 D E G)).1 ((iteV_good (I1 A B C).1 (I1 A B C).2 D E G)).2 _ _ _)) _ _ _) _ _ _
theorem bindV_good (op : Sto → Int → Int → Sto × Int) (hop : ∀ S a b, Wf S → Sated S → Wf (op S a b).1 ∧ Sated (op S a b).1) (hW : Wf S) (hs : Sated S) (a : Int) (l : List Int) : Wf (bindV op S a l).1 ∧ Sated (bindV op S a l).1 :=
  bindL_good op hop _ _ _ hW hs
/-- Support of any store, full or not. -/
theorem support_all (h : StoIs w p F S) (hW : Wf S) (x : Int) :
    Calls Try.prog 43 #[.pointer (some ⟨p, 0, none⟩), .int .i64 x] w (fun e w' => ∃ sv, e = .returned sv ∧ Rd w' 1 sv (ints (supportV S x)) ∧ Below w.heap.size w w') := by
  unfold supportV
  cases hf : S.full with
  | true =>
    refine (support_dead (h.dead hW hf) x).mono ?_
    rintro e w' ⟨rfl, m, d, rfl⟩
    exact ⟨_, rfl, RowIs.rd (G := none) (e := 3) (n := 0) (xs := []) ⟨rfl, .inl ⟨rfl, rfl, rfl⟩⟩, Below.ext_mk (Below.refl _ _) (Nat.le_refl _) m d⟩
  | false => exact support_live h hW hf x
end
end Go.Proofs.Ytboekafmplomhaa
