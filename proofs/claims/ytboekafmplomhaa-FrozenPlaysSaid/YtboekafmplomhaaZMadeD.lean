/-
  A region that draws its order, by what holds whenever some of its operations have come up.
-/
import Derived.Test.YtboekafmplomhaaZStage
import Derived.Test.YtboekafmplomhaaZAny
import Derived.Test.YtboekafmplomhaaZMadeP
import Derived.Test.YtboekafmplomhaaZMeansR
set_option linter.unusedVariables false
set_option linter.unusedSimpArgs false
namespace Go
open Go.RowKit

section
variable {P : Program} {ops : Array Oper} {Q : Exit → Act → World → Prop} {I : Array Bool → Act → World → Prop}

def left (L : Array Bool) : Nat := (L.toList.filter (fun b => !b)).length
theorem left_set {L : Array Bool} {k : Nat} (h : L.getD k true = false) : left (L.setIfInBounds k true) + 1 = left L := by
  have hk : k < L.size := by
    rcases Nat.lt_or_ge k L.size with h' | h'
    · exact h'
    · simp [Array.getElem?_eq_none h'] at h
  have hv : L.toList[k]'(by simpa using hk) = false := by simpa [hk] using h
  unfold left
  rw [Array.toList_setIfInBounds]
  have : ∀ (l : List Bool) (k : Nat) (hk : k < l.length), l[k] = false → ((l.set k true).filter (fun b => !b)).length + 1 = (l.filter (fun b => !b)).length := by
    intro l
    induction l with
    | nil => intro k hk; simp at hk
    | cons b r ih =>
      intro k hk hb
      cases k with
      | zero => simp at hb; subst hb; simp
      | succ k =>
        have := ih k (by simpa using hk) (by simpa using hb)
        cases b <;> simp [List.filter_cons] <;> omega
  exact this _ k (by simpa using hk) hv
theorem left_zero {L : Array Bool} (h : left L = 0) : ∀ j, j < L.size → L.getD j false = true := by
  intro j hj
  unfold left at h
  have h0 := List.length_eq_zero_iff.1 h
  rw [List.filter_eq_nil_iff] at h0
  have := h0 (L.toList[j]'(by simpa using hj)) (List.getElem_mem _)
  simpa [hj] using this
/-- As long as some has not come up, one may. -/
theorem ready_some (hlt : ∀ i, i < ops.size → ∀ k ∈ deps .any ops i, k < i) {L : Array Bool} (hs : L.size = ops.size) : ∀ (j : Nat), L.getD j true = false → Region.ready .any ops L ≠ [] := by
  intro j
  induction j using Nat.strongRecOn with
  | _ j ih =>
    intro hj
    have hjs : j < ops.size := by
      rcases Nat.lt_or_ge j L.size with h' | h'
      · omega
      · simp [Array.getElem?_eq_none h'] at hj
    by_cases h : ∀ k ∈ deps .any ops j, L.getD k false = true
    · intro e
      have : j ∈ Region.ready .any ops L := (ready_of (Array.getElem?_eq_getElem hjs)).2 ⟨hj, h⟩
      rw [e] at this; cases this
    · obtain ⟨k, hk⟩ := Classical.not_forall.1 h
      obtain ⟨hk1, hk2⟩ := Classical.not_imp.1 hk
      have hkj := hlt j hjs k hk1
      exact ih k hkj (by
        have hks : k < L.size := by omega
        simpa [hks] using hk2)

theorem any_inv (hlt : ∀ i, i < ops.size → ∀ k ∈ deps .any ops i, k < i)
    (hstep : ∀ (L : Array Bool) (a : Act) (w : World) (k : Nat) (o : Oper), ops[k]? = some o → Now .any ops k L → I L a w → StepTo P ops o a w (fun a' w' => I (L.setIfInBounds k true) a' w'))
    (hfin : ∀ (L : Array Bool) (a : Act) (w : World), (∀ j, j < ops.size → L.getD j false = true) → I L a w → Q .normal a w) :
    ∀ (n : Nat) (L : Array Bool) (a : Act) (w : World), left L = n → L.size = ops.size → Down .any ops L → I L a w → wpAny P .any ops Q n L a w := by
  intro n
  induction n with
  | zero =>
    intro L a w hl hs hd hi
    have hall := left_zero hl
    refine ⟨?_, hfin L a w (fun j hj => hall j (by omega)) hi⟩
    unfold Region.ready
    rw [List.filter_eq_nil_iff]
    intro j hj
    have hj' : j < L.size := by have := List.mem_range.1 hj; omega
    have := hall j hj'
    have h2 : L.getD j true = true := by simpa [hj'] using this
    simp [h2]
  | succ n ih =>
    intro L a w hl hs hd hi
    refine ⟨fun h0 => ?_, fun k hk => ?_⟩
    · exfalso
      have hex : ∃ j, L.getD j true = false := by
        refine Classical.byContradiction fun hno => ?_
        have : left L = 0 := by
          unfold left
          rw [List.length_eq_zero_iff, List.filter_eq_nil_iff]
          intro b hb
          obtain ⟨j, hj, rfl⟩ := List.getElem_of_mem hb
          have h1 : ¬ L.getD j true = false := fun e => hno ⟨j, e⟩
          have hj' : j < L.size := by simpa using hj
          have h2 : L[j] = true := by simpa [hj'] using h1
          simp [h2]
        omega
      obtain ⟨j, hj⟩ := hex
      exact ready_some hlt hs j hj h0
    · obtain ⟨_, o, ho, _⟩ := mem_ready.1 hk
      have hr := (ready_of ho).1 hk
      have hn : Now .any ops k L := ⟨hs, hr.1, hr.2, hd⟩
      refine wpOp_step ho (fun K hK => (hstep L a w k o ho hn hi).wp (fun a' w' h' => hK a' w' (ih _ a' w' (by have := left_set hr.1; omega) (by simpa using hs) ?_ h')))
      intro i hi' q hq
      by_cases e : k = i
      · subst e
        exact getD_set_true (hr.2 q hq)
      · rw [getD_set_ne false e] at hi'
        exact getD_set_true (hd i hi' q hq)

theorem wp_region_inv {id : Nat} {a : Act} {W : World} (I : Array Bool → Act → World → Prop) (hm : P.follows .mixedOrders = true) (hlt : (List.range ops.size).all (fun i => (deps .any ops i).all (fun k => decide (k < i))) = true)
    (h0 : I (Array.replicate ops.size false) a W.drew)
    (hstep : ∀ (L : Array Bool) (a : Act) (w : World) (k : Nat) (o : Oper), ops[k]? = some o → Now .any ops k L → I L a w → StepTo P ops o a w (fun a' w' => I (L.setIfInBounds k true) a' w'))
    (hfin : ∀ (L : Array Bool) (a : Act) (w : World), (∀ j, j < ops.size → L.getD j false = true) → I L a w → Q .normal a w) : (Code.region id ops true).wp P Q a W := by
  refine wp_region_any hm ?_
  have hl : left (Array.replicate ops.size false) = ops.size := by unfold left; simp
  have := any_inv (P := P) (Q := Q) (I := I) (fun i hi k hk => by
    simp only [List.all_eq_true, List.mem_range, decide_eq_true_eq] at hlt
    exact hlt i hi k hk) hstep hfin ops.size (Array.replicate ops.size false) a W.drew hl (by simp) (fun i hi => by
      exfalso
      by_cases h : i < ops.size
      · simp [h] at hi
      · simp [h] at hi) h0
  exact this

/-- The steps, one by one. -/
def InvSteps (P : Program) (ops : Array Oper) (I : Array Bool → Act → World → Prop) : Nat → List Oper → Prop
  | _, [] => True
  | k, o :: r => (∀ (L : Array Bool) (a : Act) (w : World), Now .any ops k L → I L a w → StepTo P ops o a w (fun a' w' => I (L.setIfInBounds k true) a' w')) ∧ InvSteps P ops I (k + 1) r
theorem inv_steps : ∀ (l : List Oper) (k : Nat), InvSteps P ops I k l → ∀ (i : Nat) (o : Oper), l[i]? = some o → ∀ (L : Array Bool) (a : Act) (w : World), Now .any ops (k + i) L → I L a w → StepTo P ops o a w (fun a' w' => I (L.setIfInBounds (k + i) true) a' w')
  | [], k, h, i, o, ho => by simp at ho
  | x :: r, k, h, 0, o, ho => by simp at ho; subst ho; exact h.1
  | x :: r, k, h, i + 1, o, ho => by
    have := inv_steps r (k + 1) h.2 i o (by simpa using ho)
    rw [show k + (i + 1) = k + 1 + i by omega]
    exact this
theorem wp_region_invs {id : Nat} {a : Act} {W : World} (I : Array Bool → Act → World → Prop) (hm : P.follows .mixedOrders = true) (hlt : (List.range ops.size).all (fun i => (deps .any ops i).all (fun k => decide (k < i))) = true)
    (h0 : I (Array.replicate ops.size false) a W.drew)
    (hfin : ∀ (L : Array Bool) (a : Act) (w : World), (∀ j, j < ops.size → L.getD j false = true) → I L a w → Q .normal a w)
    (hs : InvSteps P ops I 0 ops.toList) : (Code.region id ops true).wp P Q a W :=
  wp_region_inv I hm hlt h0 (fun L a w k o ho hn hi => by
    have := inv_steps ops.toList 0 hs k o (by simpa using ho) L a w (by rw [Nat.zero_add]; exact hn) hi
    rwa [Nat.zero_add] at this) hfin
theorem getD_up {L : Array Bool} {k : Nat} (h : L.getD k true = false) : (L.setIfInBounds k true).getD k false = true := by
  have hk : k < L.size := by
    rcases Nat.lt_or_ge k L.size with h' | h'
    · exact h'
    · simp [Array.getElem?_eq_none h'] at h
  simp [hk]
end
end Go
set_option linter.unusedVariables false
set_option linter.unusedSimpArgs false
namespace Go.Proofs.Ytboekafmplomhaa
open Go.RowKit

theorem RowIs.addr2 {w : World} {a : Option Addr} {n c g : Nat} {e : TypeId} {s m : Nat} {xs : List Value} (h : RowIs w (.slice a n c) (some g) e s m xs) : a = some ⟨g, 0, none⟩ ∧ n = m := by
  obtain ⟨_, ⟨_, _, h3⟩ | ⟨g', cap, cur, h1, h2, _⟩⟩ := h
  · cases h3
  · cases h2
    injection h1 with e1 e2
    exact ⟨e1, e2⟩
theorem not_upA {ops : Array Oper} {L : Array Bool} {i k : Nat} (hd : Down .any ops L) (ha : anc ops i k = true) (h : L.getD k true = false) : L.getD i false = false := by
  cases hc : L.getD i false with
  | false => rfl
  | true => have := up_of hd hc ha; rw [getD_false_of h] at this; cases this
theorem up_ne {L : Array Bool} (k j : Nat) (h : k ≠ j) : (L.setIfInBounds k true).getD j false = L.getD j false := getD_set_ne false h
def gx (c : Bool) (v y : Value) : Value := if c then v else y
theorem gx_true (v y : Value) : gx true v y = v := rfl
theorem gx_false (v y : Value) : gx false v y = y := rfl

/-- The worlds of the region: reads first; then Ite, a row of one, append. -/
structure MdI (Z : World) (B p : Nat) (F : List Nat) (S1 : Sto) (r : Int) (all : List Int) (b : Nat → Bool) (w : World) (q : Nat) (v' : Value) : Prop where
  a : b 44 = false → Below Z.heap.size Z w
  i : b 44 = true → b 45 = false → ∃ F1, StoIs w p F1 S1 ∧ StoStep Z w F F1
  c : b 45 = true → b 46 = false → ∃ w1 F1, StoIs w1 p F1 S1 ∧ StoStep Z w1 F F1 ∧ w = w1.alloc (.cells #[.int .i64 r] 3) ∧ q = w1.heap.size
  d : b 46 = true → ∃ F1 G', Held B w p F1 S1 v' (some G') (all ++ [r]) ∧ Below B Z w
section
variable {Z w w' : World} {B p q g n sc : Nat} {F : List Nat} {S S1 : Sto} {r : Int} {all : List Int} {b b' : Nat → Bool} {v' : Value}
theorem MdI.congr (h : MdI Z B p F S1 r all b w q v') (h4 : b' 44 = b 44) (h5 : b' 45 = b 45) (h6 : b' 46 = b 46) : MdI Z B p F S1 r all b' w q v' := by
  obtain ⟨a1, a2, a3, a4⟩ := h
  exact ⟨by rw [h4]; exact a1, by rw [h4, h5]; exact a2, by rw [h5, h6]; exact a3, by rw [h6]; exact a4⟩
theorem MdI.ext (h : MdI Z B p F S1 r all b w q v') (f : b 44 = false) (f' : b' 44 = false) (g5 : b' 45 = false) (g6 : b' 46 = false) (m : Array Obj) (d : Nat) : MdI Z B p F S1 r all b' (w.ext m d) q v' :=
  ⟨fun _ => Below.ext_mk (h.a f) (h.a f).size m d, fun e => by (rw [f'] at e; cases e), fun e => by (rw [g5] at e; cases e), fun e => by (rw [g6] at e; cases e)⟩
theorem MdI.ite (h : MdI Z B p F S1 r all b w q v') (f : b 44 = false) (f' : b' 44 = true) (f5 : b' 45 = false) (f6 : b' 46 = false) {F2 : List Nat} (hS : StoIs w' p F2 S1) (st : StoStep w w' F F2) : MdI Z B p F S1 r all b' w' q v' :=
  ⟨fun e => by (rw [f'] at e; cases e), fun _ _ => ⟨F2, hS, (StoStep.of_below (h.a f)).trans st⟩, fun e => by (rw [f5] at e; cases e), fun e => by (rw [f6] at e; cases e)⟩
theorem MdI.lit (h : MdI Z B p F S1 r all b w q v') (f : b 44 = true) (f5 : b 45 = false) (f' : b' 44 = true) (f5' : b' 45 = true) (f6 : b' 46 = false) : MdI Z B p F S1 r all b' (w.alloc (.cells #[.int .i64 r] 3)) w.heap.size v' := by
  obtain ⟨F2, hS, st⟩ := h.i f f5
  exact ⟨fun e => by (rw [f'] at e; cases e), fun _ e => by (rw [f5'] at e; cases e), fun _ _ => ⟨w, F2, hS, st, rfl, rfl⟩, fun e => by (rw [f6] at e; cases e)⟩
theorem MdI.app (h : MdI Z B p F S1 r all b w q v') {sv : Value} {G : Option Nat} (H : Held B Z p F S sv G all) (hB : B ≤ Z.heap.size) (hk : all.length ≤ 1000) (f5 : b 45 = true) (f6 : b 46 = false) :
    ∃ v2 w3 G2, (Builtin.append_ #[28, 28] 28 #[sv, .slice (some ⟨q, 0, none⟩) 1 1]).run Try.prog w = .ok v2 w3 ∧ (∃ F1, Held B w3 p F1 S1 v2 (some G2) (all ++ [r])) ∧ Below B Z w3 := by
  obtain ⟨w1, F1, hS, st, rfl, rfl⟩ := h.c f5 f6
  obtain ⟨v2, w3, G2, r1, r2, r3⟩ := H.grow hB hS st hk r
  exact ⟨v2, w3, G2, r1, ⟨F1, r2⟩, r3⟩
theorem MdI.fin (h : MdI Z B p F S1 r all b w q v') (f6 : b' 46 = true) (f4 : b' 44 = true) (f5 : b' 45 = true) {v2 : Value} {w3 : World} {G2 : Nat} (H : ∃ F1, Held B w3 p F1 S1 v2 (some G2) (all ++ [r])) (hb : Below B Z w3) : MdI Z B p F S1 r all b' w3 q v2 := by
  obtain ⟨F1, H⟩ := H
  exact ⟨fun e => by (rw [f4] at e; cases e), fun _ e => by (rw [f5] at e; cases e), fun _ e => by (rw [f6] at e; cases e), fun _ => ⟨F1, G2, H, hb⟩⟩
end
-- printed by genmade.py
def mdAct (p g n sc lb lo ll lc i m i1 i2 i3 b1 b2 b3 c1 c2 c3 : Nat) (fv : Value) (k1 k2 k3 x1 x2 x3 r : Int) (y0 y1 y2 y3 y4 y5 y6 y7 y8 y9 y10 y11 y12 y13 y14 y15 y16 y17 y18 y19 y20 y21 y22 y23 y24 y25 y26 y27 y28 y29 y30 y31 y32 y33 y34 y35 y36 y37 y38 y39 y40 y41 y42 y43 y44 y45 y46 y47 y48 y49 y50 y51 y52 y53 y54 y55 y56 y57 y58 y59 y60 y61 y62 y63 y64 y65 y66 y67 y68 y69 y70 y71 y72 y73 y74 y75 y76 y77 y78 y79 y80 y81 y82 y83 y84 y85 y86 y87 y88 y89 y90 y91 y92 y93 y94 y95 y96 y97 y98 y99 y100 y101 y102 y103 : Value) (b : Nat → Bool) (q : Nat) (v' : Value) : Act :=
  ⟨#[y0, y1, y2, y3, y4, y5, y6, y7, gx (b 47) (v') y8, y9, y10, y11, y12, y13, y14, y15, y16, y17, y18, y19, y20, y21, y22, y23, y24, y25, y26, y27, y28, y29, y30, y31, y32, y33, y34, y35, y36, y37, y38, y39, y40, y41, y42, y43, y44, y45, y46, y47, y48, y49, y50, y51, y52, y53, y54, gx (b 0) (.slice (some ⟨g, 0, none⟩) n sc) y55, gx (b 1) (.pointer (some ⟨p, 0, none⟩)) y56, gx (b 2) (.slice (some ⟨g, 0, none⟩) n sc) y57, gx (b 3) (.int .i64 (n : Nat)) y58, gx (b 4) (.int .i64 (m : Nat)) y59, gx (b 5) (fv) y60, gx (b 6) (.slice (some ⟨lb, lo, none⟩) ll lc) y61, gx (b 7) (.int .i64 (i : Nat)) y62, gx (b 8) (.int .i64 (i1 : Nat)) y63, gx (b 9) (.pointer (some ⟨lb, lo + i1, none⟩)) y64, gx (b 10) (.int .i64 k1) y65, gx (b 11) (.int .i64 (n : Nat)) y66, gx (b 12) (.int .i64 (b1 : Nat)) y67, gx (b 13) (.int .i64 (c1 : Nat)) y68, gx (b 14) (.pointer (some ⟨g, c1, none⟩)) y69, gx (b 15) (.int .i64 x1) y70, gx (b 16) (.slice (some ⟨g, 0, none⟩) n sc) y71, gx (b 17) (.int .i64 (n : Nat)) y72, gx (b 18) (.int .i64 (m : Nat)) y73, gx (b 19) (fv) y74, gx (b 20) (.slice (some ⟨lb, lo, none⟩) ll lc) y75, gx (b 21) (.int .i64 (i : Nat)) y76, gx (b 22) (.int .i64 (i2 : Nat)) y77, gx (b 23) (.pointer (some ⟨lb, lo + i2, none⟩)) y78, gx (b 24) (.int .i64 k2) y79, gx (b 25) (.int .i64 (n : Nat)) y80, gx (b 26) (.int .i64 (b2 : Nat)) y81, gx (b 27) (.int .i64 (c2 : Nat)) y82, gx (b 28) (.pointer (some ⟨g, c2, none⟩)) y83, gx (b 29) (.int .i64 x2) y84, gx (b 30) (.slice (some ⟨g, 0, none⟩) n sc) y85, gx (b 31) (.int .i64 (n : Nat)) y86, gx (b 32) (.int .i64 (m : Nat)) y87, gx (b 33) (fv) y88, gx (b 34) (.slice (some ⟨lb, lo, none⟩) ll lc) y89, gx (b 35) (.int .i64 (i : Nat)) y90, gx (b 36) (.int .i64 (i3 : Nat)) y91, gx (b 37) (.pointer (some ⟨lb, lo + i3, none⟩)) y92, gx (b 38) (.int .i64 k3) y93, gx (b 39) (.int .i64 (n : Nat)) y94, gx (b 40) (.int .i64 (b3 : Nat)) y95, gx (b 41) (.int .i64 (c3 : Nat)) y96, gx (b 42) (.pointer (some ⟨g, c3, none⟩)) y97, gx (b 43) (.int .i64 x3) y98, gx (b 44) (.int .i64 r) y99, gx (b 45) (.slice (some ⟨q, 0, none⟩) 1 1) y100, gx (b 46) (v') y101, y102, y103], []⟩
def mdInv (Z : World) (B : Nat) (p g n sc lb lo ll lc i m i1 i2 i3 b1 b2 b3 c1 c2 c3 : Nat) (fv : Value) (k1 k2 k3 x1 x2 x3 r : Int) (F : List Nat) (S1 : Sto) (all : List Int) (y0 y1 y2 y3 y4 y5 y6 y7 y8 y9 y10 y11 y12 y13 y14 y15 y16 y17 y18 y19 y20 y21 y22 y23 y24 y25 y26 y27 y28 y29 y30 y31 y32 y33 y34 y35 y36 y37 y38 y39 y40 y41 y42 y43 y44 y45 y46 y47 y48 y49 y50 y51 y52 y53 y54 y55 y56 y57 y58 y59 y60 y61 y62 y63 y64 y65 y66 y67 y68 y69 y70 y71 y72 y73 y74 y75 y76 y77 y78 y79 y80 y81 y82 y83 y84 y85 y86 y87 y88 y89 y90 y91 y92 y93 y94 y95 y96 y97 y98 y99 y100 y101 y102 y103 : Value) (L : Array Bool) (a : Act) (w : World) : Prop :=
  ∃ q v', a = mdAct p g n sc lb lo ll lc i m i1 i2 i3 b1 b2 b3 c1 c2 c3 fv k1 k2 k3 x1 x2 x3 r y0 y1 y2 y3 y4 y5 y6 y7 y8 y9 y10 y11 y12 y13 y14 y15 y16 y17 y18 y19 y20 y21 y22 y23 y24 y25 y26 y27 y28 y29 y30 y31 y32 y33 y34 y35 y36 y37 y38 y39 y40 y41 y42 y43 y44 y45 y46 y47 y48 y49 y50 y51 y52 y53 y54 y55 y56 y57 y58 y59 y60 y61 y62 y63 y64 y65 y66 y67 y68 y69 y70 y71 y72 y73 y74 y75 y76 y77 y78 y79 y80 y81 y82 y83 y84 y85 y86 y87 y88 y89 y90 y91 y92 y93 y94 y95 y96 y97 y98 y99 y100 y101 y102 y103 (fun k => L.getD k false) q v' ∧ MdI Z B p F S1 r all (fun k => L.getD k false) w q v'
theorem wp_made {ops : Array Oper} {id : Nat} {Q : Exit → Act → World → Prop} {y0 y1 y2 y3 y4 y5 y6 y7 y8 y9 y10 y11 y12 y13 y14 y15 y16 y17 y18 y19 y20 y21 y22 y23 y24 y25 y26 y27 y28 y29 y30 y31 y32 y33 y34 y35 y36 y37 y38 y39 y40 y41 y42 y43 y44 y45 y46 y47 y48 y49 y50 y51 y52 y53 y54 y55 y56 y57 y58 y59 y60 y61 y62 y63 y64 y65 y66 y67 y68 y69 y70 y71 y72 y73 y74 y75 y76 y77 y78 y79 y80 y81 y82 y83 y84 y85 y86 y87 y88 y89 y90 y91 y92 y93 y94 y95 y96 y97 y98 y99 y100 y101 y102 y103 : Value} (Z : World) (B : Nat) (p g n sc lb lo ll lc i m i1 i2 i3 b1 b2 b3 c1 c2 c3 : Nat) (fv : Value) (k1 k2 k3 x1 x2 x3 r : Int) (F : List Nat) (S1 : Sto) (all : List Int)
    (hm : Try.prog.follows .mixedOrders = true) (hlt : (List.range ops.size).all (fun i => (deps .any ops i).all (fun k => decide (k < i))) = true)
    (h0 : mdInv Z B p g n sc lb lo ll lc i m i1 i2 i3 b1 b2 b3 c1 c2 c3 fv k1 k2 k3 x1 x2 x3 r F S1 all y0 y1 y2 y3 y4 y5 y6 y7 y8 y9 y10 y11 y12 y13 y14 y15 y16 y17 y18 y19 y20 y21 y22 y23 y24 y25 y26 y27 y28 y29 y30 y31 y32 y33 y34 y35 y36 y37 y38 y39 y40 y41 y42 y43 y44 y45 y46 y47 y48 y49 y50 y51 y52 y53 y54 y55 y56 y57 y58 y59 y60 y61 y62 y63 y64 y65 y66 y67 y68 y69 y70 y71 y72 y73 y74 y75 y76 y77 y78 y79 y80 y81 y82 y83 y84 y85 y86 y87 y88 y89 y90 y91 y92 y93 y94 y95 y96 y97 y98 y99 y100 y101 y102 y103 (Array.replicate ops.size false) ⟨#[y0, y1, y2, y3, y4, y5, y6, y7, y8, y9, y10, y11, y12, y13, y14, y15, y16, y17, y18, y19, y20, y21, y22, y23, y24, y25, y26, y27, y28, y29, y30, y31, y32, y33, y34, y35, y36, y37, y38, y39, y40, y41, y42, y43, y44, y45, y46, y47, y48, y49, y50, y51, y52, y53, y54, y55, y56, y57, y58, y59, y60, y61, y62, y63, y64, y65, y66, y67, y68, y69, y70, y71, y72, y73, y74, y75, y76, y77, y78, y79, y80, y81, y82, y83, y84, y85, y86, y87, y88, y89, y90, y91, y92, y93, y94, y95, y96, y97, y98, y99, y100, y101, y102, y103], []⟩ Z.drew)
    (hfin : ∀ (L : Array Bool) (a : Act) (w : World), (∀ j, j < ops.size → L.getD j false = true) → mdInv Z B p g n sc lb lo ll lc i m i1 i2 i3 b1 b2 b3 c1 c2 c3 fv k1 k2 k3 x1 x2 x3 r F S1 all y0 y1 y2 y3 y4 y5 y6 y7 y8 y9 y10 y11 y12 y13 y14 y15 y16 y17 y18 y19 y20 y21 y22 y23 y24 y25 y26 y27 y28 y29 y30 y31 y32 y33 y34 y35 y36 y37 y38 y39 y40 y41 y42 y43 y44 y45 y46 y47 y48 y49 y50 y51 y52 y53 y54 y55 y56 y57 y58 y59 y60 y61 y62 y63 y64 y65 y66 y67 y68 y69 y70 y71 y72 y73 y74 y75 y76 y77 y78 y79 y80 y81 y82 y83 y84 y85 y86 y87 y88 y89 y90 y91 y92 y93 y94 y95 y96 y97 y98 y99 y100 y101 y102 y103 L a w → Q .normal a w)
    (hs' : InvSteps Try.prog ops (mdInv Z B p g n sc lb lo ll lc i m i1 i2 i3 b1 b2 b3 c1 c2 c3 fv k1 k2 k3 x1 x2 x3 r F S1 all y0 y1 y2 y3 y4 y5 y6 y7 y8 y9 y10 y11 y12 y13 y14 y15 y16 y17 y18 y19 y20 y21 y22 y23 y24 y25 y26 y27 y28 y29 y30 y31 y32 y33 y34 y35 y36 y37 y38 y39 y40 y41 y42 y43 y44 y45 y46 y47 y48 y49 y50 y51 y52 y53 y54 y55 y56 y57 y58 y59 y60 y61 y62 y63 y64 y65 y66 y67 y68 y69 y70 y71 y72 y73 y74 y75 y76 y77 y78 y79 y80 y81 y82 y83 y84 y85 y86 y87 y88 y89 y90 y91 y92 y93 y94 y95 y96 y97 y98 y99 y100 y101 y102 y103) 0 ops.toList) : (Code.region id ops true).wp Try.prog Q ⟨#[y0, y1, y2, y3, y4, y5, y6, y7, y8, y9, y10, y11, y12, y13, y14, y15, y16, y17, y18, y19, y20, y21, y22, y23, y24, y25, y26, y27, y28, y29, y30, y31, y32, y33, y34, y35, y36, y37, y38, y39, y40, y41, y42, y43, y44, y45, y46, y47, y48, y49, y50, y51, y52, y53, y54, y55, y56, y57, y58, y59, y60, y61, y62, y63, y64, y65, y66, y67, y68, y69, y70, y71, y72, y73, y74, y75, y76, y77, y78, y79, y80, y81, y82, y83, y84, y85, y86, y87, y88, y89, y90, y91, y92, y93, y94, y95, y96, y97, y98, y99, y100, y101, y102, y103], []⟩ Z :=
  wp_region_invs (mdInv Z B p g n sc lb lo ll lc i m i1 i2 i3 b1 b2 b3 c1 c2 c3 fv k1 k2 k3 x1 x2 x3 r F S1 all y0 y1 y2 y3 y4 y5 y6 y7 y8 y9 y10 y11 y12 y13 y14 y15 y16 y17 y18 y19 y20 y21 y22 y23 y24 y25 y26 y27 y28 y29 y30 y31 y32 y33 y34 y35 y36 y37 y38 y39 y40 y41 y42 y43 y44 y45 y46 y47 y48 y49 y50 y51 y52 y53 y54 y55 y56 y57 y58 y59 y60 y61 y62 y63 y64 y65 y66 y67 y68 y69 y70 y71 y72 y73 y74 y75 y76 y77 y78 y79 y80 y81 y82 y83 y84 y85 y86 y87 y88 y89 y90 y91 y92 y93 y94 y95 y96 y97 y98 y99 y100 y101 y102 y103) hm hlt h0 hfin hs'
end Go.Proofs.Ytboekafmplomhaa
