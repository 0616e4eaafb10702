/-
  The program's store and the document's side by side, and a row of three numbers beside them: each call, said of both.
-/
import Derived.Test.YtboekafmplomhaaZTwo
import Derived.Test.YtboekafmplomhaaZHungP
import Derived.Test.YtboekafmplomhaaZRef31B
import Derived.Test.YtboekafmplomhaaZRef31I
set_option linter.unusedVariables false
set_option linter.unusedSimpArgs false
namespace Go.Proofs.Ytboekafmplomhaa
open Go.RowKit

def Gd (S : Sto) : Prop := Wf S ∧ Sated S
structure QW (w0 w : World) (p q cb : Nat) (l3 : List Int) (S T : Sto) : Prop where
  ex : ∃ F G, Two w0 w p q F G S T ∧ cb ∉ F ∧ cb ∉ G
  row : RowIs w (.slice (some ⟨cb, 0, none⟩) 3 3) (some cb) 3 1 3 (ints l3)
  gS : Gd S
  gT : Gd T
section
variable {w0 w w' : World} {p q cb : Nat} {l3 : List Int} {S T S' T' : Sto}
theorem QW.below (h : QW w0 w p q cb l3 S T) (hb : Below w.heap.size w w') : QW w0 w' p q cb l3 S T := by
  obtain ⟨F, G, h1, h2, h3⟩ := h.ex
  exact ⟨⟨F, G, h1.below hb, h2, h3⟩, RowIs.keep h.row (fun g hg => hb.block g (RowIs.lt h.row g hg)), h.gS, h.gT⟩
theorem QW.base (h : QW w0 w p q cb l3 S T) : Below w0.heap.size w0 w := by
  obtain ⟨F, G, h1, _⟩ := h.ex
  exact h1.base
theorem QW.to (F G : List Nat) (h2 : cb ∉ F) (h3 : cb ∉ G) (hr : RowIs w (.slice (some ⟨cb, 0, none⟩) 3 3) (some cb) 3 1 3 (ints l3)) (gS : Gd S') (gT : Gd T') (t : TwoTo w0 w p q F G S' T' w') : QW w0 w' p q cb l3 S' T' := by
  obtain ⟨F', G', t1, t2⟩ := t
  have hc := RowIs.lt hr cb rfl
  have hn : cb ∉ F ++ G := fun hm => (List.mem_append.1 hm).elim h2 h3
  have hk := t2.keeps hc hn
  exact ⟨⟨F', G', t1, fun hm => hk (List.mem_append.2 (.inl hm)), fun hm => hk (List.mem_append.2 (.inr hm))⟩, RowIs.keep hr (fun g hg => by cases hg; exact t2.block cb hc hn), gS, gT⟩
theorem QW.prog (h : QW w0 w p q cb l3 S T) {f : FuncId} {args : Array Value} {v : Value} (hS' : Gd S') (C : ∀ F, StoIs w p F S → (∀ k ∈ F, w0.heap.size ≤ k) → Calls Try.prog f args w (fun e w' => e = .returned v ∧ Turned w p F S' w')) :
    Calls Try.prog f args w (fun e w' => e = .returned v ∧ QW w0 w' p q cb l3 S' T) := by
  obtain ⟨F, G, h1, h2, h3⟩ := h.ex
  refine (C F h1.sto h1.loF).mono ?_
  rintro e w' ⟨rfl, t⟩
  exact ⟨rfl, QW.to F G h2 h3 h.row hS' h.gT (h1.prog t)⟩
theorem QW.doc (h : QW w0 w p q cb l3 S T) {f : FuncId} {args : Array Value} {v : Value} (hT' : Gd T') (C : ∀ G, RIs w q G (rOf T) → (∀ k ∈ G, w0.heap.size ≤ k) → Calls Try.prog f args w (fun e w' => e = .returned v ∧ ∃ G', RIs w' q G' (rOf T') ∧ StoStep w w' G G')) :
    Calls Try.prog f args w (fun e w' => e = .returned v ∧ QW w0 w' p q cb l3 S T') := by
  obtain ⟨F, G, h1, h2, h3⟩ := h.ex
  refine (C G h1.ref h1.loG).mono ?_
  rintro e w' ⟨rfl, t⟩
  exact ⟨rfl, QW.to F G h2 h3 h.row h.gS hT' (h1.doc t)⟩
theorem or_good (S : Sto) (a b : Int) (hW : Wf S) (hs : Sated S) : Wf (orV S a b).1 ∧ Sated (orV S a b).1 := iteV_good hW hs _ _ _
theorem and_good (S : Sto) (a b : Int) (hW : Wf S) (hs : Sated S) : Wf (andV S a b).1 ∧ Sated (andV S a b).1 := iteV_good hW hs _ _ _
theorem rd_away {sv : Value} {xs : List Value} {F : List Nat} (hl : Rd w0 1 sv xs) (hF : ∀ k ∈ F, w0.heap.size ≤ k) : ∀ a n cap b off, 0 < n → sv = .slice a n cap → a = some ⟨b, off, none⟩ → b ∉ F := by
  obtain ⟨a, n, cap, h1, h2, h3, h4, h5⟩ := hl
  intro a' n' cap' b off hn e1 e2 hm
  rw [h1] at e1
  cases e1
  obtain ⟨b', off', e3, e4, _⟩ := h5 hn
  rw [e2] at e3
  cases e3
  have := hF b hm
  omega

theorem QW.existsP (h : QW w0 w p q cb l3 S T) (x : Int) (l : List Int) (sv : Value) (hl : Rd w0 1 sv (ints l)) :
    Calls Try.prog 38 #[.pointer (some ⟨p, 0, none⟩), .int .i64 x, sv] w (fun e w' => e = .returned (.int .i64 (bindV orV S x l).2) ∧ QW w0 w' p q cb l3 (bindV orV S x l).1 T) :=
  h.prog (bindV_good orV or_good h.gS.1 h.gS.2 x l) (fun F hS hF => exists_liveN hS h.gS.1 h.gS.2 x l sv (hl.below h.base) (rd_away hl hF))
theorem QW.forallP (h : QW w0 w p q cb l3 S T) (x : Int) (l : List Int) (sv : Value) (hl : Rd w0 1 sv (ints l)) :
    Calls Try.prog 39 #[.pointer (some ⟨p, 0, none⟩), .int .i64 x, sv] w (fun e w' => e = .returned (.int .i64 (bindV andV S x l).2) ∧ QW w0 w' p q cb l3 (bindV andV S x l).1 T) :=
  h.prog (bindV_good andV and_good h.gS.1 h.gS.2 x l) (fun F hS hF => forall_liveN hS h.gS.1 h.gS.2 x l sv (hl.below h.base) (rd_away hl hF))
theorem QW.existsD (h : QW w0 w p q cb l3 S T) (x : Int) (l : List Int) (sv : Value) (hl : Rd w0 1 sv (ints l)) :
    Calls Try.prog 48 #[.pointer (some ⟨q, 0, none⟩), .int .i64 x, sv] w (fun e w' => e = .returned (.int .i64 (bindV orV T x l).2) ∧ QW w0 w' p q cb l3 S (bindV orV T x l).1) :=
  h.doc (bindV_good orV or_good h.gT.1 h.gT.2 x l) (fun F hS hF => rExists_call hS h.gT.1 h.gT.2 x l sv (hl.below h.base) (rd_away hl hF))
theorem QW.forallD (h : QW w0 w p q cb l3 S T) (x : Int) (l : List Int) (sv : Value) (hl : Rd w0 1 sv (ints l)) :
    Calls Try.prog 49 #[.pointer (some ⟨q, 0, none⟩), .int .i64 x, sv] w (fun e w' => e = .returned (.int .i64 (bindV andV T x l).2) ∧ QW w0 w' p q cb l3 S (bindV andV T x l).1) :=
  h.doc (bindV_good andV and_good h.gT.1 h.gT.2 x l) (fun F hS hF => rForall_call hS h.gT.1 h.gT.2 x l sv (hl.below h.base) (rd_away hl hF))
theorem QW.composeP (h : QW w0 w p q cb l3 S T) (x u b : Int) :
    Calls Try.prog 40 #[.pointer (some ⟨p, 0, none⟩), .int .i64 x, .int .i64 u, .int .i64 b] w (fun e w' => e = .returned (.int .i64 (composeV S x u b).2) ∧ QW w0 w' p q cb l3 (composeV S x u b).1 T) :=
  h.prog (composeV_good h.gS.1 h.gS.2 x u b) (fun F hS hF => compose_live hS h.gS.1 h.gS.2 x u b)
theorem QW.composeD (h : QW w0 w p q cb l3 S T) (x u b : Int) :
    Calls Try.prog 50 #[.pointer (some ⟨q, 0, none⟩), .int .i64 x, .int .i64 u, .int .i64 b] w (fun e w' => e = .returned (.int .i64 (composeV T x u b).2) ∧ QW w0 w' p q cb l3 S (composeV T x u b).1) :=
  h.doc (composeV_good h.gT.1 h.gT.2 x u b) (fun F hS hF => rCompose_call hS h.gT.1 h.gT.2 x u b)
theorem QW.swapP (h : QW w0 w p q cb l3 S T) (x u v : Int) :
    Calls Try.prog 41 #[.pointer (some ⟨p, 0, none⟩), .int .i64 x, .int .i64 u, .int .i64 v] w (fun e w' => e = .returned (.int .i64 (swapV S x u v).2) ∧ QW w0 w' p q cb l3 (swapV S x u v).1 T) :=
  h.prog (swapV_good h.gS.1 h.gS.2 x u v) (fun F hS hF => swap_live hS h.gS.1 h.gS.2 x u v)
theorem QW.swapD (h : QW w0 w p q cb l3 S T) (x u v : Int) :
    Calls Try.prog 51 #[.pointer (some ⟨q, 0, none⟩), .int .i64 x, .int .i64 u, .int .i64 v] w (fun e w' => e = .returned (.int .i64 (swapV T x u v).2) ∧ QW w0 w' p q cb l3 S (swapV T x u v).1) :=
  h.doc (swapV_good h.gT.1 h.gT.2 x u v) (fun F hS hF => rSwap_call hS h.gT.1 h.gT.2 x u v)
theorem QW.impliesP (h : QW w0 w p q cb l3 S T) (x y : Int) :
    Calls Try.prog 42 #[.pointer (some ⟨p, 0, none⟩), .int .i64 x, .int .i64 y] w (fun e w' => e = .returned (.bool (impliesV S x y).2) ∧ QW w0 w' p q cb l3 (impliesV S x y).1 T) :=
  h.prog (impliesV_good h.gS.1 h.gS.2 x y) (fun F hS hF => implies_live hS h.gS.1 h.gS.2 x y)
theorem QW.impliesD (h : QW w0 w p q cb l3 S T) (x y : Int) :
    Calls Try.prog 52 #[.pointer (some ⟨q, 0, none⟩), .int .i64 x, .int .i64 y] w (fun e w' => e = .returned (.bool (impliesV T x y).2) ∧ QW w0 w' p q cb l3 S (impliesV T x y).1) :=
  h.doc (impliesV_good h.gT.1 h.gT.2 x y) (fun F hS hF => rImplies_call hS h.gT.1 h.gT.2 x y)
theorem QW.supP (h : QW w0 w p q cb l3 S T) (x : Int) :
    Calls Try.prog 43 #[.pointer (some ⟨p, 0, none⟩), .int .i64 x] w (fun e w' => ∃ sv, e = .returned sv ∧ Rd w' 1 sv (ints (supportV S x)) ∧ QW w0 w' p q cb l3 S T) := by
  obtain ⟨F, G, h1, _, _⟩ := h.ex
  refine (support_all h1.sto h.gS.1 x).mono ?_
  rintro e w' ⟨sv, rfl, hR, hb⟩
  exact ⟨sv, rfl, hR, h.below hb⟩
theorem QW.supD (h : QW w0 w p q cb l3 S T) (x : Int) :
    Calls Try.prog 47 #[.pointer (some ⟨q, 0, none⟩), .int .i64 x] w (fun e w' => ∃ sv, e = .returned sv ∧ Rd w' 1 sv (ints (supportV T x)) ∧ Below w.heap.size w w') := by
  obtain ⟨F, G, h1, _, _⟩ := h.ex
  refine (rsupport_any h1.ref h.gT.1 x).mono ?_
  rintro e w' ⟨sv, rfl, hR, hb⟩
  rw [rsup_same h.gT.1] at hR
  exact ⟨sv, rfl, hR, hb⟩
theorem QW.start (hl3 : l3.length = 3) (F G : List Nat) (h : Two w0 w p q F G S S) (hg : Gd S) (hb : Below w.heap.size w w') (hr : RowIs w' (.slice (some ⟨cb, 0, none⟩) 3 3) (some cb) 3 1 3 (ints l3)) (hc : w.heap.size ≤ cb) : QW w0 w' p q cb l3 S S :=
  ⟨⟨F, G, h.below hb, fun hm => by have := h.sto.lt _ hm; omega, fun hm => by have := h.ref.lt _ hm; omega⟩, hr, hg, hg⟩
end
end Go.Proofs.Ytboekafmplomhaa
