/-
  Package cube: Cover's round (a path's prime is added to the list) over a live store.
-/
import Derived.Test.YtboekafmplomhaaZCuF
import Derived.Test.YtboekafmplomhaaZCuX
import Derived.Test.YtboekafmplomhaaZCuP
import Derived.Laws.IdiomStrings
import Derived.Test.YtboekafmplomhaaZCuD
set_option linter.unusedVariables false
set_option linter.unusedSimpArgs false
namespace Go.Proofs.Ytboekafmplomhaa
open Go.RowKit

def gy (c : Bool) (v y : Value) : Value := if c then v else y
theorem gy_true (v y : Value) : gy true v y = v := rfl
theorem gy_false (v y : Value) : gy false v y = y := rfl
theorem up_other {L : Array Bool} (k j : Nat) (h : k ≠ j) : (L.setIfInBounds k true).getD j false = L.getD j false := getD_set_ne false h

theorem not_upC {ops : Array Oper} {L : Array Bool} {i k : Nat} (hd : Down .any ops L) (hk : k ∈ deps .any ops i) (h : L.getD k true = false) : L.getD i false = false := by
  cases hc : L.getD i false with
  | false => rfl
  | true =>
    have := hd i hc k hk
    rw [getD_false_of h] at this; cases this

/-- The list, one cube longer, at the list's new row. -/
structure CvE (Z : World) (p : Nat) (F : List Nat) (S4 : Sto) (G : Option Nat) (l : List Cu) (lb : Nat) (w : World) (v' : Value) : Prop where
  ex : ∃ (F4 : List Nat) (G' : Nat), StoIs w p F4 S4 ∧ RowIs w v' (some G') 85 2 l.length (cus l) ∧ (G = some G' ∨ (Z.heap.size ≤ G' ∧ G' < w.heap.size)) ∧ G' ∉ F4 ∧ StoStep Z w (F ++ G.toList) (F4 ++ [G'])
  form : ∃ a n c, v' = .slice a n c

/-- The worlds of the round's region. -/
def CvR (Z : World) (p : Nat) (F : List Nat) (S4 : Sto) (x' : Cu) (G : Option Nat) (l : List Cu) (lb : Nat) (b : Nat → Bool) (w : World) (q : Nat) (v' : Value) : Prop :=
  (b 4 = false ∧ b 5 = false ∧ b 6 = false ∧ b 7 = false ∧ Below Z.heap.size Z w) ∨
  (b 4 = true ∧ b 5 = false ∧ b 6 = false ∧ b 7 = false ∧ ∃ F4, StoIs w p F4 S4 ∧ StoStep Z w F F4) ∨
  (b 4 = true ∧ b 5 = true ∧ b 6 = false ∧ b 7 = false ∧ ∃ w1 F4, StoIs w1 p F4 S4 ∧ StoStep Z w1 F F4 ∧ w = w1.alloc (.cells #[.int .u64 x'.1, .int .u64 x'.2] 85) ∧ q = w1.heap.size) ∨
  (b 4 = true ∧ b 5 = true ∧ b 6 = true ∧ b 7 = false ∧ CvE Z p F S4 G l lb w v') ∨
  (b 4 = true ∧ b 5 = true ∧ b 6 = true ∧ b 7 = true ∧ ∃ w1, CvE Z p F S4 G l lb w1 v' ∧ w = w1.setCell ⟨lb, 0, none⟩ v')
theorem CvR.congr {Z : World} {p : Nat} {F : List Nat} {S4 : Sto} {x' : Cu} {G : Option Nat} {l : List Cu} {lb : Nat} {b b' : Nat → Bool} {w : World} {q : Nat} {v' : Value} (h : CvR Z p F S4 x' G l lb b w q v')
    (h4 : b' 4 = b 4) (h5 : b' 5 = b 5) (h6 : b' 6 = b 6) (h7 : b' 7 = b 7) : CvR Z p F S4 x' G l lb b' w q v' := by
  unfold CvR at *
  rw [h4, h5, h6, h7]
  exact h
/-- While the list's box is not turned, what lay beside the store and the row lies. -/
theorem CvR.same {Z : World} {p : Nat} {F : List Nat} {S4 : Sto} {x' : Cu} {G : Option Nat} {l : List Cu} {lb : Nat} {b : Nat → Bool} {w : World} {q : Nat} {v' : Value} (h : CvR Z p F S4 x' G l lb b w q v')
    (h7 : b 7 = false) {k : Nat} (hk : k < Z.heap.size) (hn : k ∉ F) (hg : G ≠ some k) : w.heap[k]? = Z.heap[k]? ∧ k < w.heap.size := by
  rcases h with ⟨-, -, -, -, hb⟩ | ⟨-, -, -, -, F4, -, st⟩ | ⟨-, -, -, -, w1, F4, -, st, rfl, -⟩ | ⟨-, -, -, -, hE⟩ | ⟨-, -, -, h, -⟩
  · exact ⟨hb.block k hk, Nat.lt_of_lt_of_le hk hb.size⟩
  · exact ⟨st.block k hk hn, Nat.lt_of_lt_of_le hk st.size⟩
  · have := st.size
    exact ⟨(Below.heap_alloc _ _ _ (by omega)).trans (st.block k hk hn), by simp; omega⟩
  · obtain ⟨F4, G', -, -, -, -, st⟩ := hE.ex
    refine ⟨st.block k hk (fun hm => ?_), Nat.lt_of_lt_of_le hk st.size⟩
    rcases List.mem_append.1 hm with h1 | h1
    · exact hn h1
    · cases G with
      | none => cases h1
      | some g => simp at h1; exact hg (by rw [h1])
  · rw [h7] at h; cases h

/-- The slots of the round. -/
def cvAct (x0 x1 x2 x3 x4 x5 x6 x7 x8 x9 x10 x11 x12 x13 x14 x15 x16 x17 x18 x19 x20 x21 x22 x23 x24 x25 y26 y27 y28 y29 y30 y31 y32 z33 z34 z35 z36 z37 z38 z39 z40 z41 z42 z43 z44 z45 z46 z47 z48 z49 : Value) (ds : List Deferred) (b : Nat → Bool) (v26 v27 v28 v29 v30 v31 v32 : Value) : Act :=
  { tmps := #[x0, x1, x2, x3, x4, x5, x6, x7, x8, x9, x10, x11, x12, x13, x14, x15, x16, x17, x18, x19, x20, x21, x22, x23, x24, x25, gy (b 0) v26 y26, gy (b 1) v27 y27, gy (b 2) v28 y28, gy (b 3) v29 y29, gy (b 4) v30 y30, gy (b 5) v31 y31, gy (b 6) v32 y32, z33, z34, z35, z36, z37, z38, z39, z40, z41, z42, z43, z44, z45, z46, z47, z48, z49], defers := ds }

/-- What holds while Cover works. -/
structure CvI (w : World) (F : List Nat) (p sb ab lb : Nat) (a : Int) (S1 : Sto) (F1 : List Nat) (l : List Cu) (sv : Value) (G : Option Nat) (Ds : List Nat) (W : World) : Prop where
  st : StoIs W p F1 S1
  gs : Gs S1
  step : StoStep w W F F1
  bs : Blk W sb 23 [.pointer (some ⟨p, 0, none⟩)]
  ba : Blk W ab 3 [.int .i64 a]
  bl : Blk W lb 80 [sv]
  row : RowIs W sv G 85 2 l.length (cus l)
  gold : ∀ g, G = some g → w.heap.size ≤ g
  ns : sb ∉ F1
  na : ab ∉ F1
  nl : lb ∉ F1
  ng : ∀ g, G = some g → g ∉ F1
  nd : Ds.Nodup
  marks : ∀ D ∈ Ds, W.heap[D]? = some (.deferred (some [])) ∧ w.heap.size ≤ D ∧ D ∉ F1
  cu : ∀ c ∈ l, CuOk c
/-- Its own blocks. -/
def CvK (sb ab lb : Nat) (G : Option Nat) (Ds F1 : List Nat) : List Nat := sb :: ab :: lb :: (G.toList ++ (Ds ++ F1))
theorem CvI.lt {w : World} {F : List Nat} {p sb ab lb : Nat} {a : Int} {S1 : Sto} {F1 : List Nat} {l : List Cu} {sv : Value} {G : Option Nat} {Ds : List Nat} {W : World} (h : CvI w F p sb ab lb a S1 F1 l sv G Ds W) :
    ∀ k ∈ CvK sb ab lb G Ds F1, k < W.heap.size := by
  intro k hk
  simp only [CvK, List.mem_cons, List.mem_append] at hk
  rcases hk with rfl | rfl | rfl | hk | hk | hk
  · exact h.bs.lt
  · exact h.ba.lt
  · exact h.bl.lt
  · cases G with
    | none => cases hk
    | some g => simp at hk; subst hk; exact h.row.lt _ rfl
  · exact (Array.getElem?_eq_some_iff.1 (h.marks k hk).1).1
  · exact h.st.lt k hk
/-- Other blocks turn. -/
theorem CvI.keep {w : World} {F : List Nat} {p sb ab lb : Nat} {a : Int} {S1 : Sto} {F1 : List Nat} {l : List Cu} {sv : Value} {G : Option Nat} {Ds : List Nat} {W W' : World} (h : CvI w F p sb ab lb a S1 F1 l sv G Ds W)
    {B B' : List Nat} (st : StoStep W W' B B') (hB : ∀ q ∈ B, w.heap.size ≤ q ∧ q ∉ CvK sb ab lb G Ds F1) : CvI w F p sb ab lb a S1 F1 l sv G Ds W' := by
  have hk : ∀ k ∈ CvK sb ab lb G Ds F1, W'.heap[k]? = W.heap[k]? := fun k hk => st.block k (h.lt k hk) (fun hm => (hB k hm).2 hk)
  have hs := h.step
  refine ⟨h.st.keep (fun k hm => hk k (by simp [CvK, hm])), h.gs, ⟨st.os.trans hs.os, st.tape.trans hs.tape, st.output.trans hs.output, Nat.le_trans hs.size st.size, fun k h1 h2 => ?_, fun k hm => ?_⟩,
    h.bs.keep (hk _ (by simp [CvK])), h.ba.keep (hk _ (by simp [CvK])), h.bl.keep (hk _ (by simp [CvK])), h.row.keep (fun g hg => hk g (by simp [CvK, hg])), h.gold, h.ns, h.na, h.nl, h.ng, h.nd, fun D hD => ⟨(hk D (by simp [CvK, hD])).trans (h.marks D hD).1, (h.marks D hD).2⟩, h.cu⟩
  · exact (st.block k (Nat.lt_of_lt_of_le h1 hs.size) (fun hm => by have := (hB k hm).1; omega)).trans (hs.block k h1 h2)
  · exact (hs.fresh k hm).imp id (fun q => ⟨q.1, Nat.lt_of_lt_of_le q.2 st.size⟩)
/-- A call turns the store. -/
theorem CvI.turn {w : World} {F : List Nat} {p sb ab lb : Nat} {a : Int} {S1 : Sto} {F1 : List Nat} {l : List Cu} {sv : Value} {G : Option Nat} {Ds : List Nat} {W W' : World} (h : CvI w F p sb ab lb a S1 F1 l sv G Ds W)
    {S4 : Sto} {F4 : List Nat} (h4 : StoIs W' p F4 S4) (g4 : Gs S4) (st : StoStep W W' F1 F4) : CvI w F p sb ab lb a S4 F4 l sv G Ds W' := by
  have kk : ∀ k, k < W.heap.size → k ∉ F1 → W'.heap[k]? = W.heap[k]? ∧ k ∉ F4 := fun k h1 h2 => ⟨st.block k h1 h2, st.keeps h1 h2⟩
  exact ⟨h4, g4, h.step.trans st, h.bs.keep (kk _ h.bs.lt h.ns).1, h.ba.keep (kk _ h.ba.lt h.na).1, h.bl.keep (kk _ h.bl.lt h.nl).1, h.row.keep (fun g hg => (kk g (h.row.lt g hg) (h.ng g hg)).1), h.gold,
    (kk _ h.bs.lt h.ns).2, (kk _ h.ba.lt h.na).2, (kk _ h.bl.lt h.nl).2, fun g hg => (kk g (h.row.lt g hg) (h.ng g hg)).2, h.nd, fun D hD => by
      obtain ⟨m1, m2, m3⟩ := h.marks D hD
      have := kk D (Array.getElem?_eq_some_iff.1 m1).1 m3
      exact ⟨this.1.trans m1, m2, this.2⟩, h.cu⟩
/-- One mark more. -/
theorem CvI.mark {w : World} {F : List Nat} {p sb ab lb : Nat} {a : Int} {S1 : Sto} {F1 : List Nat} {l : List Cu} {sv : Value} {G : Option Nat} {Ds : List Nat} {W : World} (h : CvI w F p sb ab lb a S1 F1 l sv G Ds W)
    {D : Nat} (hD : W.heap[D]? = some (.deferred (some []))) (hw : w.heap.size ≤ D) (hn : D ∉ CvK sb ab lb G Ds F1) : CvI w F p sb ab lb a S1 F1 l sv G (D :: Ds) W :=
  ⟨h.st, h.gs, h.step, h.bs, h.ba, h.bl, h.row, h.gold, h.ns, h.na, h.nl, h.ng, List.nodup_cons.2 ⟨fun hm => hn (by simp [CvK, hm]), h.nd⟩, fun E hE => by
    rcases List.mem_cons.1 hE with rfl | hE
    · exact ⟨hD, hw, fun hm => hn (by simp [CvK, hm])⟩
    · exact h.marks E hE, h.cu⟩
theorem pathsN_ne {S : Sto} (hW : Wf S) : ∀ (n : Nat) (a : Int) (c : Cu), S.has a → a ≠ 0 → a < n → pathsN S n a c ≠ []
  | 0, a, c, h, h0, hn => by have := h.1; omega
  | n + 1, a, c, h, h0, hn => by
    have hr : rightOf S a = a := by unfold rightOf; rw [if_neg (by have := h.1; have := h.2; omega)]
    by_cases h2 : a < 2
    · have : a = 1 := by have := h.1; omega
      subst this
      have : (atV S 1).2 = false := by unfold atV; rw [hr]; rfl
      rw [pathsN, this]
      simp
    · obtain ⟨i, m, rfl, hm⟩ := has_node h h2
      have ha : atV S ((i : Int) + 2) = (m, true) := by
        unfold atV
        rw [hr, if_neg h2, show ((i : Int) + 2 - 2).toNat = i by omega, hm]
        rfl
      have hch := hW.child hm
      have ok := hW.node i m hm
      rw [pathsN, ha]
      simp only [↓reduceIte]
      intro he
      obtain ⟨e1, e2⟩ := List.append_eq_nil_iff.1 he
      have hlo := ok.lo
      have hhi := ok.hi
      have hne := ok.ne
      by_cases hz : m.2.1 = 0
      · exact pathsN_ne hW n m.2.2 _ hch.2 (by omega) (by omega) e2
      · exact pathsN_ne hW n m.2.1 _ hch.1 hz (by omega) e1
theorem pathsL_ne {S : Sto} (hW : Wf S) {a : Int} (h : S.has a) (h0 : a ≠ 0) : pathsL S a ≠ [] := pathsN_ne hW _ a _ h h0 (by have := h.2; omega)
theorem CvI.gne {w : World} {F : List Nat} {p sb ab lb : Nat} {a : Int} {S1 : Sto} {F1 : List Nat} {l : List Cu} {sv : Value} {G : Option Nat} {Ds : List Nat} {W : World} (h : CvI w F p sb ab lb a S1 F1 l sv G Ds W) :
    (G ≠ some sb ∧ G ≠ some ab ∧ G ≠ some lb ∧ ∀ D ∈ Ds, G ≠ some D) ∧ (∀ D ∈ Ds, D ≠ sb ∧ D ≠ ab ∧ D ≠ lb) := by
  have hr : ∀ g, G = some g → ∃ cur, W.heap[g]? = some (.cells cur 85 (0, 0)) := fun g hg => by
    obtain ⟨-, ⟨-, -, h2⟩ | ⟨g', cap, cur, -, h2, h3, -⟩⟩ := h.row
    · rw [hg] at h2; cases h2
    · rw [hg] at h2; cases h2; exact ⟨cur, h3⟩
  refine ⟨⟨fun e => ?_, fun e => ?_, fun e => ?_, fun D hD e => ?_⟩, fun D hD => ⟨?_, ?_, ?_⟩⟩
  · obtain ⟨cur, h1⟩ := hr _ e; have h2 := h.bs; unfold Blk at h2; rw [h2] at h1; cases h1
  · obtain ⟨cur, h1⟩ := hr _ e; have h2 := h.ba; unfold Blk at h2; rw [h2] at h1; cases h1
  · obtain ⟨cur, h1⟩ := hr _ e; have h2 := h.bl; unfold Blk at h2; rw [h2] at h1; cases h1
  · obtain ⟨cur, h1⟩ := hr _ e; have h2 := (h.marks D hD).1; rw [h2] at h1; cases h1
  · rintro rfl; have h1 := (h.marks _ hD).1; have h2 := h.bs; unfold Blk at h2; rw [h2] at h1; cases h1
  · rintro rfl; have h1 := (h.marks _ hD).1; have h2 := h.ba; unfold Blk at h2; rw [h2] at h1; cases h1
  · rintro rfl; have h1 := (h.marks _ hD).1; have h2 := h.bl; unfold Blk at h2; rw [h2] at h1; cases h1
/-- One cube more in the list. -/
theorem CvI.append {w : World} {F : List Nat} {p sb ab lb : Nat} {a : Int} {S1 S4 : Sto} {F1 : List Nat} {l : List Cu} {sv : Value} {G : Option Nat} {Ds : List Nat} {W w1 : World} {x' : Cu} {v' : Value} (h : CvI w F p sb ab lb a S1 F1 l sv G Ds W)
    (hE : CvE W p F1 S4 G (l ++ [x']) lb w1 v') (g4 : Gs S4) (hx : CuOk x') (hwl : w.heap.size ≤ lb) (hsl : sb ≠ lb) (hal : ab ≠ lb) :
    ∃ F4 G', CvI w F p sb ab lb a S4 F4 (l ++ [x']) v' (some G') Ds (w1.setCell ⟨lb, 0, none⟩ v') ∧
      ∀ q, q < W.heap.size → q ∉ CvK sb ab lb G Ds F1 → q ∉ CvK sb ab lb (some G') Ds F4 ∧ (w1.setCell ⟨lb, 0, none⟩ v').heap[q]? = W.heap[q]? := by
  obtain ⟨F4, G', h4, row, alt, ng, st⟩ := hE.ex
  obtain ⟨⟨gn1, gn2, gn3, gn4⟩, dn⟩ := h.gne
  have hin : ∀ k, k < W.heap.size → k ∉ F1 → G ≠ some k → w1.heap[k]? = W.heap[k]? ∧ k ∉ F4 ∧ k ≠ G' := fun k h1 h2 h3 => by
    have hk : k ∉ F1 ++ G.toList := fun hm => by
      rcases List.mem_append.1 hm with hm | hm
      · exact h2 hm
      · cases G with
        | none => cases hm
        | some g => simp at hm; exact h3 (by rw [hm])
    have h5 := st.keeps h1 hk
    exact ⟨st.block k h1 hk, fun hm => h5 (by simp [hm]), fun e => h5 (by simp [e])⟩
  have hl := hin lb h.bl.lt h.nl gn3
  have hs := hin sb h.bs.lt h.ns gn1
  have ha := hin ab h.ba.lt h.na gn2
  have hd : ∀ D ∈ Ds, w1.heap[D]? = W.heap[D]? ∧ D ∉ F4 ∧ D ≠ G' := fun D hD => by
    obtain ⟨m1, m2, m3⟩ := h.marks D hD
    exact hin D (Array.getElem?_eq_some_iff.1 m1).1 m3 (gn4 D hD)
  have hws := h.step.size
  have stw : StoStep w w1 F F4 := by
    refine ⟨st.os.trans h.step.os, st.tape.trans h.step.tape, st.output.trans h.step.output, Nat.le_trans hws st.size, fun k h1 h2 => ?_, fun k hm => ?_⟩
    · refine (st.block k (by omega) (fun hm => ?_)).trans (h.step.block k h1 h2)
      rcases List.mem_append.1 hm with hm | hm
      · rcases h.step.fresh k hm with h5 | h5
        · exact h2 h5
        · omega
      · cases G with
        | none => cases hm
        | some g => simp at hm; have := h.gold g rfl; omega
    · rcases st.fresh k (List.mem_append_left _ hm) with h5 | h5
      · rcases List.mem_append.1 h5 with h5 | h5
        · rcases h.step.fresh k h5 with h6 | h6
          · exact .inl h6
          · exact .inr ⟨h6.1, Nat.lt_of_lt_of_le h6.2 st.size⟩
        · cases G with
          | none => cases h5
          | some g =>
            simp at h5
            subst h5
            exact .inr ⟨h.gold k rfl, Nat.lt_of_lt_of_le (h.row.lt k rfl) st.size⟩
      · exact .inr ⟨by omega, h5.2⟩
  refine ⟨F4, G', ⟨h4.poke hl.2.1 0 _, g4, stw.poke hwl 0 _, (h.bs.keep hs.1).far (fun e => hsl e.symm) 0 _, (h.ba.keep ha.1).far (fun e => hal e.symm) 0 _, (h.bl.keep hl.1).set_ 0 _, row.keep (fun g hg => by cases hg; exact Below.heap_setCell _ _ _ _ (fun e => hl.2.2 e.symm)),
    fun g hg => ?_, hs.2.1, ha.2.1, hl.2.1, fun g hg => by cases hg; exact ng, h.nd, fun D hD => ⟨(Below.heap_setCell _ _ _ _ (dn D hD).2.2).trans ((hd D hD).1.trans (h.marks D hD).1), (h.marks D hD).2.1, (hd D hD).2.1⟩, fun c hc => ?_⟩, fun q hq hn => ?_⟩
  · cases hg
    rcases alt with e | e
    · exact h.gold G' e
    · omega
  · rcases List.mem_append.1 hc with hc | hc
    · exact h.cu c hc
    · simp at hc; subst hc; exact hx
  · simp only [CvK, List.mem_cons, List.mem_append, not_or, Option.mem_toList] at hn ⊢
    have hq2 := hin q hq hn.2.2.2.2.2 (fun e => hn.2.2.2.1 e)
    refine ⟨⟨hn.1, hn.2.1, hn.2.2.1, fun e => hq2.2.2 (by cases e; rfl), hn.2.2.2.2.1, hq2.2.1⟩, (Below.heap_setCell _ _ _ _ hn.2.2.1).trans hq2.1⟩
/-- The marks among the deferred calls. -/
def markD (D : Nat) : Deferred := { target := .collected D, args := #[] }
theorem leaves_marks {P : Program} {fn : Func} {tmps : Array Value} {R : Ending → World → Prop} : ∀ (Ds : List Nat) (W : World), Ds.Nodup → (∀ D ∈ Ds, W.heap[D]? = some (.deferred (some []))) →
    (∀ W', StoStep W W' Ds Ds → ∃ v, (results fn tmps).run P W' = .ok v W' ∧ R (.returned v) W') → LeavesInM Fence.wide 1 P fn tmps R (Ds.map markD) .returning W
  | [], W, _, _, h => h W (StoStep.refl _ _)
  | D :: Ds, W, hn, hm, h => by
    obtain ⟨h1, h2⟩ := List.nodup_cons.1 hn
    refine ⟨by simp, .inl ⟨D, _, rfl, run_takeDeferred (hm D (by simp)), leaves_marks Ds _ h2 (fun E hE => ?_) (fun W' st => ?_)⟩⟩
    · exact (World.putObj_heap_other (by rintro rfl; exact h1 hE)).trans (hm E (by simp [hE]))
    · refine h W' ?_
      have s1 : StoStep W (W.putObj D (.deferred none)) (D :: Ds) (D :: Ds) := step_putObj W (by simp) _
      exact ⟨st.os.trans s1.os, st.tape.trans s1.tape, st.output.trans s1.output, Nat.le_trans s1.size st.size, fun k hk hq => (st.block k (by have := s1.size; omega) (fun hm => hq (by simp [hm]))).trans (s1.block k hk hq), fun k hk => .inl hk⟩
end Go.Proofs.Ytboekafmplomhaa
set_option linter.unusedVariables false
set_option linter.unusedSimpArgs false
namespace Go.Proofs.Ytboekafmplomhaa
open Go.RowKit

def coverV (S : Sto) (a most : Int) : Sto × List Cu × Bool :=
  if (coverN a (heldV most) ((heldV most).toNat + 1) (andV S a 1).1 (andV S a 1).2 []).2.2 then
    if (coverN a (heldV most) ((heldV most).toNat + 1) (andV S a 1).1 (andV S a 1).2 []).1.full then ((coverN a (heldV most) ((heldV most).toNat + 1) (andV S a 1).1 (andV S a 1).2 []).1, [], false)
    else coverN a (heldV most) ((heldV most).toNat + 1) (andV S a 1).1 (andV S a 1).2 []
  else coverN a (heldV most) ((heldV most).toNat + 1) (andV S a 1).1 (andV S a 1).2 []

/-- How many cubes may come yet. -/
def covM (H lb : Nat) (w : World) : Nat := match w.cell? ⟨lb, 0, none⟩ with | some (.slice _ n _) => H + 1 - n | _ => 0
theorem covM_is {H lb : Nat} {w : World} {a : Option Addr} {n c : Nat} (h : w.cell? ⟨lb, 0, none⟩ = some (.slice a n c)) : covM H lb w = H + 1 - n := by
  unfold covM
  rw [h]
/-- What Cover tells. -/
def CoverAt (w : World) (p : Nat) (F : List Nat) (R : Sto × List Cu × Bool) (e : Ending) (w' : World) : Prop :=
  ∃ sv G F', e = .returned (.tuple #[sv, .bool R.2.2]) ∧ RowIs w' sv G 85 2 R.2.1.length (cus R.2.1) ∧ (∀ g, G = some g → w.heap.size ≤ g ∧ g ∉ F') ∧ StoIs w' p F' R.1 ∧ Gs R.1 ∧ StoStep w w' F F'

theorem andV_has {S : Sto} (h : Gs S) (x y : Int) : (andV S x y).1.has (andV S x y).2 := (iteV_ok h.1 h.2 (below64 h.1) (by omega) x y 0).has

theorem cover_leave {w W : World} {p : Nat} {F : List Nat} {a : Int} {S1 : Sto} {F1 : List Nat} {l : List Cu} {la : Option Addr} {n lc : Nat} {G : Option Nat} {Ds : List Nat} {b : Bool}
    (C : CvI w F p w.heap.size (w.heap.size + 1) (w.heap.size + 1 + 1) a S1 F1 l (.slice la n lc) G Ds W) (R : Sto × List Cu × Bool) (hR : R = (S1, l, b)) (x0 x1 x2 x3 x4 x5 x8 x9 x10 x11 x12 x13 x14 x15 x16 x17 x18 x19 x20 x21 x22 x23 x24 x25 x26 x27 x28 x29 x30 x31 x32 x33 x34 x35 x36 x37 x38 x39 x40 x41 x42 x43 x44 x45 x46 x47 x48 x49 : Value) :
    bodyPostM Fence.wide 1 Try.prog Try.f55 (CoverAt w p F R) .ret { tmps := #[x0, x1, x2, x3, x4, x5, .pointer (some ⟨w.heap.size + 1 + 1, 0, none⟩), .bool b, x8, x9, x10, x11, x12, x13, x14, x15, x16, x17, x18, x19, x20, x21, x22, x23, x24, x25, x26, x27, x28, x29, x30, x31, x32, x33, x34, x35, x36, x37, x38, x39, x40, x41, x42, x43, x44, x45, x46, x47, x48, x49], defers := Ds.map markD } W := by
  subst hR
  refine leaves_marks Ds W C.nd (fun D hD => (C.marks D hD).1) (fun Z st => ?_)
  have hN : ∀ D ∈ Ds, w.heap.size ≤ D ∧ D ∉ CvK w.heap.size (w.heap.size + 1) (w.heap.size + 1 + 1) G [] F1 := fun D hD => by
    obtain ⟨m1, m2, m3⟩ := C.marks D hD
    refine ⟨m2, fun hm => ?_⟩
    simp only [CvK, List.mem_cons, List.mem_append, List.not_mem_nil, false_or] at hm
    rcases hm with e | e | e | hm | hm
    · have := C.bs; rw [← e] at this; unfold Blk at this; rw [this] at m1; cases m1
    · have := C.ba; rw [← e] at this; unfold Blk at this; rw [this] at m1; cases m1
    · have := C.bl; rw [← e] at this; unfold Blk at this; rw [this] at m1; cases m1
    · obtain ⟨-, ⟨-, -, hg⟩ | ⟨g, cap, cur, -, hg, h3, -⟩⟩ := C.row
      · rw [hg] at hm; cases hm
      · rw [hg] at hm; simp at hm; subst hm; rw [h3] at m1; cases m1
    · exact m3 hm
  have C2 : CvI w F p w.heap.size (w.heap.size + 1) (w.heap.size + 1 + 1) a S1 F1 l (.slice la n lc) G [] Z := CvI.keep ⟨C.st, C.gs, C.step, C.bs, C.ba, C.bl, C.row, C.gold, C.ns, C.na, C.nl, C.ng, List.nodup_nil, (fun D hD => by cases hD), C.cu⟩ st hN
  have c0 := C2.bl.cell 0
  simp only [List.getElem?_cons_zero] at c0
  refine ⟨.tuple #[.slice la n lc, .bool b], ?_, _, G, F1, rfl, C2.row, fun g hg => ⟨C2.gold g hg, C2.ng g hg⟩, C2.st, C2.gs, C2.step⟩
  simp [results, Try.results55, go_sem, c0]

set_option maxHeartbeats 8000000 in
set_option maxRecDepth 4000 in
theorem ccover_live {w : World} {p : Nat} {F : List Nat} {S : Sto} (h : StoIs w p F S) (hG : Gs S) (a most : Int) :
    Calls Try.prog 55 #[.pointer (some ⟨p, 0, none⟩), .int .i64 a, .int .i64 most] w (CoverAt w p F (coverV S a most)) := by
  have hFu := hid (fun W F S (h : StoIs W p F S) (hG : Gs S) => full_any h (by have := hG.1.cap2; omega))
  have hNo := hid (fun W F S (h : StoIs W p F S) (hG : Gs S) (v : Int) => not_call h hG.1 v)
  have hAn := hid (fun W F S (h : StoIs W p F S) (hG : Gs S) (x y : Int) => and_call h hG.1 x y)
  unfold Tells at hNo hAn
  obtain ⟨TGT, hT⟩ : ∃ T, T = coverN a (heldV most) ((heldV most).toNat + 1) (andV S a 1).1 (andV S a 1).2 [] := ⟨_, rfl⟩
  have hC : Hid (coverV S a most = if TGT.2.2 then (if TGT.1.full then (TGT.1, [], false) else TGT) else TGT) := hid (by rw [hT]; rfl)
  refine calls_of_marks Try.func55 rfl ?_
  simp only [Try.ntmps55, List.size_toArray, List.length_cons, List.length_nil, Nat.reduceAdd, Nat.reduceSub, Array.replicate_succ, Array.replicate_zero, List.push_toArray, List.append_toArray, List.nil_append, List.cons_append]
  go_upto_region 1 with (fail)
  refine wp_gen (fun V hV => ?_)
  have hbV : Below w.heap.size w V := by rw [hV]; (repeat' (first | (with_reducible exact Below.refl _ _) | (with_reducible refine Below.ext_mk ?_ ?_ _ _) | (with_reducible refine Below.alloc ?_ ?_ _) | (with_reducible refine Below.drew ?_) | (with_reducible refine Below.setCell ?_ ?_ _) | go_size))
  have bs : Blk V w.heap.size 23 [.pointer (some ⟨p, 0, none⟩)] := by
    rw [hV]; exact (Blk.new w 23 [.pointer (some ⟨p, 0, none⟩)]).below (by (repeat' (first | (with_reducible exact Below.refl _ _) | (with_reducible refine Below.ext_mk ?_ ?_ _ _) | (with_reducible refine Below.alloc ?_ ?_ _) | (with_reducible refine Below.drew ?_) | (with_reducible refine Below.setCell ?_ ?_ _) | go_size)))
  have ba : Blk V (w.heap.size + 1) 3 [.int .i64 a] := by
    rw [hV]
    have := Blk.new (w.alloc (.cells #[.pointer (some ⟨p, 0, none⟩)] 23)) 3 [.int .i64 a]
    rw [World.size_alloc] at this
    exact this.below (by (repeat' (first | (with_reducible exact Below.refl _ _) | (with_reducible refine Below.ext_mk ?_ ?_ _ _) | (with_reducible refine Below.alloc ?_ ?_ _) | (with_reducible refine Below.drew ?_) | (with_reducible refine Below.setCell ?_ ?_ _) | go_size)))
  have bl : Blk V (w.heap.size + 1 + 1) 80 [.slice none 0 0] := by
    rw [hV]
    have := Blk.new ((w.alloc (.cells #[.pointer (some ⟨p, 0, none⟩)] 23)).alloc (.cells #[.int .i64 a] 3)) 80 [.slice none 0 0]
    rw [World.size_alloc, World.size_alloc] at this
    exact this
  clear hV
  have nF : ∀ k, w.heap.size ≤ k → k ∉ F := fun k hk hm => by have := h.lt _ hm; omega
  have s0 := bs.cell 0
  have a0 := ba.cell 0
  simp only [List.getElem?_cons_zero] at s0 a0
  have zs := bs.lt
  have za := ba.lt
  have A1 := hAn.out V F S (h.below hbV) hG a 1
  have G1 := andV_gs hG a 1
  have H1 := andV_has hG a 1
  generalize andV S a 1 = R1 at *
  obtain ⟨S1, r1⟩ := R1
  simp only at A1 G1 H1 hT
  go_wp2_with (go_at_call 27; refine A1.mono ?_; rintro e w1 ⟨rfl, F1, hS1, st1⟩)
  have C0 : CvI w F p w.heap.size (w.heap.size + 1) (w.heap.size + 1 + 1) a S F [] (.slice none 0 0) none [] V :=
    ⟨h.below hbV, hG, StoStep.of_below hbV, bs, ba, bl, ⟨rfl, .inl ⟨rfl, rfl, rfl⟩⟩, fun g hg => (by cases hg), nF _ (by omega), nF _ (by omega), nF _ (by omega), fun g hg => (by cases hg), List.nodup_nil, fun D hD => (by cases hD), fun c hc => (by cases hc)⟩
  have C1 := C0.turn hS1 G1 st1
  have HT := hid hT
  clear hT C0 s0 a0 zs za bs ba bl A1 hS1 st1
  refine wp_loop (fun a' wr => ∃ (u9 u10 u11 u12 u13 u14 u15 u16 u17 u18 u19 u20 u21 u22 u23 u24 u25 u26 u27 u28 u29 u30 u31 u32 u33 u34 u35 u36 u37 u38 u39 u40 u41 u42 u43 u44 u45 u46 u47 u48 u49 : Value) (rest : Int) (S1 : Sto) (F1 : List Nat) (l : List Cu) (sv : Value) (G : Option Nat) (Ds : List Nat) (k : Nat), a' = { tmps := #[.pointer (some ⟨p, 0, none⟩), .int .i64 a, .int .i64 most, .pointer (some ⟨w.heap.size, 0, none⟩), .pointer (some ⟨w.heap.size + 1, 0, none⟩), undef, .pointer (some ⟨w.heap.size + 1 + 1, 0, none⟩), .bool false, .int .i64 rest, u9, u10, u11, u12, u13, u14, u15, u16, u17, u18, u19, u20, u21, u22, u23, u24, u25, u26, u27, u28, u29, u30, u31, u32, u33, u34, u35, u36, u37, u38, u39, u40, u41, u42, u43, u44, u45, u46, u47, u48, u49], defers := Ds.map markD } ∧ CvI w F p w.heap.size (w.heap.size + 1) (w.heap.size + 1 + 1) a S1 F1 l sv G Ds wr ∧ S1.has rest ∧ (l.length : Int) + k = heldV most + 1 ∧ 1 ≤ k ∧ coverN a (heldV most) k S1 rest l = TGT) (fun a' wr => covM (heldV most).toNat (w.heap.size + 1 + 1) wr) ?_ ?_
  · have hh : 0 ≤ heldV most := by unfold heldV; omega
    exact ⟨_, _, _, _, _, _, _, _, _, _, _, _, _, _, _, _, _, _, _, _, _, _, _, _, _, _, _, _, _, _, _, _, _, _, _, _, _, _, _, _, _, r1, S1, F1, [], _, none, [], (heldV most).toNat + 1, rfl, C1, H1, (by simp; omega), (by omega), HT.out.symm⟩
  · rintro a' wr ⟨u9, u10, u11, u12, u13, u14, u15, u16, u17, u18, u19, u20, u21, u22, u23, u24, u25, u26, u27, u28, u29, u30, u31, u32, u33, u34, u35, u36, u37, u38, u39, u40, u41, u42, u43, u44, u45, u46, u47, u48, u49, rest, S1, F1, l, sv, G, Ds, k, rfl, C, hr, hk, hk1, hN⟩
    have HC := hid C
    have HN := hid hN
    clear C1 HT H1 G1 hN
    obtain ⟨la, lc, rfl, hlm⟩ := C.row.form
    have c0 := C.bl.cell 0
    have s0 := C.bs.cell 0
    have a0 := C.ba.cell 0
    simp only [List.getElem?_cons_zero] at c0 s0 a0
    have zl := C.bl.lt
    have zs := C.bs.lt
    have za := C.ba.lt
    have FU := hFu.out _ _ _ C.st C.gs
    have f0 := C.bl.free 0
    have e0 := Blk.same1 C.bl
    clear C
    by_cases h0 : rest = 0
    · subst h0
      have eT : TGT = (S1, l, true) := by rw [← HN.out]; cases k <;> simp [coverN]
      cases hf : S1.full
      · rw [hf] at FU
        have hf' := hid hf
        clear hf
        go_wp2_with (go_at_call 22; refine FU.mono ?_; rintro e w' ⟨rfl, m1, d1, rfl⟩)
        exact cover_leave (HC.out.keep (B := []) (B' := []) (step_below (by (repeat' (first | (with_reducible exact Below.refl _ _) | (with_reducible refine Below.ext_mk ?_ ?_ _ _) | (with_reducible refine Below.alloc ?_ ?_ _) | (with_reducible refine Below.drew ?_) | (with_reducible refine Below.setCell ?_ ?_ _) | go_size))) (fun k hk => by cases hk)) (fun q hq => by cases hq)) _ (by rw [hC.out, eT]; simp [hf'.out]) _ _ _ _ _ _ _ _ _ _ _ _ _ _ _ _ _ _ _ _ _ _ _ _ _ _ _ _ _ _ _ _ _ _ _ _ _ _ _ _ _ _ _ _ _ _ _ _
      · rw [hf] at FU
        have hf' := hid hf
        clear hf
        go_wp2_with (go_at_call 22; refine FU.mono ?_; rintro e w' ⟨rfl, m1, d1, rfl⟩)
        have C := HC.out
        have nD : ∀ D ∈ Ds, D ≠ w.heap.size + 1 + 1 := fun D hD e => by
          have m1 := (C.marks D hD).1
          have := C.bl; rw [← e] at this; unfold Blk at this; rw [this] at m1; cases m1
        have C2 : CvI w F p w.heap.size (w.heap.size + 1) (w.heap.size + 1 + 1) a S1 F1 [] (.slice none 0 0) none Ds (wr.setCell ⟨w.heap.size + 1 + 1, 0, none⟩ (.slice none 0 0)) :=
          ⟨C.st.poke C.nl 0 _, C.gs, C.step.poke (by omega) 0 _, C.bs.far (by omega) 0 _, C.ba.far (by omega) 0 _, C.bl.set_ 0 _, ⟨rfl, .inl ⟨rfl, rfl, rfl⟩⟩, fun g hg => (by cases hg), C.ns, C.na, C.nl, fun g hg => (by cases hg), C.nd,
            fun D hD => ⟨(Below.heap_setCell _ _ _ _ (nD D hD)).trans (C.marks D hD).1, (C.marks D hD).2⟩, fun c hc => (by cases hc)⟩
        exact cover_leave (C2.keep (B := []) (B' := []) (step_below (by (repeat' (first | (with_reducible exact Below.refl _ _) | (with_reducible refine Below.ext_mk ?_ ?_ _ _) | (with_reducible refine Below.alloc ?_ ?_ _) | (with_reducible refine Below.drew ?_) | (with_reducible refine Below.setCell ?_ ?_ _) | go_size))) (fun k hk => by cases hk)) (fun q hq => by cases hq)) _ (by rw [hC.out, eT]; simp [hf'.out]) _ _ _ _ _ _ _ _ _ _ _ _ _ _ _ _ _ _ _ _ _ _ _ _ _ _ _ _ _ _ _ _ _ _ _ _ _ _ _ _ _ _ _ _ _ _ _ _
    · have h0' : (rest != 0) = true := by simpa using h0
      by_cases hl : (l.length : Int) = heldV most
      · have hl' : ((l.length : Int) == heldV most) = true := by simpa using hl
        have eT : TGT = (S1, l, false) := by
          obtain rfl : k = 1 := by omega
          rw [← HN.out, coverN, if_neg h0, if_pos hl]
        clear h0 hl
        go_upto_region 3 with (fail)
        refine wp_region_ext (by kernel_rfl) (by kernel_rfl) (fun F hF => ?_)
        have HF := hid hF; clear hF
        repeat (first
          | (apply text_skip; (focus rfl); simp only [Act.put, List.setIfInBounds_toArray, List.set_cons_zero, List.set_cons_succ])
          | (apply text_val; (focus rfl); (focus (intro _ _; go_simp; with_reducible rfl)); simp only [Act.put, List.setIfInBounds_toArray, List.set_cons_zero, List.set_cons_succ])
          | (apply text_call; (focus rfl); (focus (intro _ _; go_simp; exact ⟨rfl, rfl⟩)); (focus (intro _ _; with_reducible (exact held_any _ _))); simp only [Act.put, List.setIfInBounds_toArray, List.set_cons_zero, List.set_cons_succ])
          | (apply text_if; (focus (first | exact wanted_t rfl rfl | exact wanted_f rfl rfl | exact wanted_gt rfl rfl | exact wanted_gf rfl rfl)); (focus (intro hc _ _; (try simp only [Bool.and_eq_true, Bool.not_eq_true', Bool.true_and] at hc); go_simp; with_reducible rfl)); simp only [Act.put, List.setIfInBounds_toArray, List.set_cons_zero, List.set_cons_succ])
          | (apply text_if_call; (focus (first | exact wanted_t rfl rfl | exact wanted_f rfl rfl | exact wanted_gt rfl rfl | exact wanted_gf rfl rfl)); (focus (intro hc _ _; (try simp only [Bool.and_eq_true, Bool.not_eq_true', Bool.true_and] at hc); go_simp; exact ⟨rfl, rfl⟩)); (focus (intro hc _ _; with_reducible (exact held_any _ _))); simp only [Act.put, List.setIfInBounds_toArray, List.set_cons_zero, List.set_cons_succ]))
        refine text_nil (HF.out _ (fun mx dx => ?_))
        clear HF F
        go_wp2
        exact cover_leave (HC.out.keep (B := []) (B' := []) (step_below (by (repeat' (first | (with_reducible exact Below.refl _ _) | (with_reducible refine Below.ext_mk ?_ ?_ _ _) | (with_reducible refine Below.alloc ?_ ?_ _) | (with_reducible refine Below.drew ?_) | (with_reducible refine Below.setCell ?_ ?_ _) | go_size))) (fun k hk => by cases hk)) (fun q hq => by cases hq)) _ (by rw [hC.out, eT]; simp) _ _ _ _ _ _ _ _ _ _ _ _ _ _ _ _ _ _ _ _ _ _ _ _ _ _ _ _ _ _ _ _ _ _ _ _ _ _ _ _ _ _ _ _ _ _ _ _
      · have hl' : ((l.length : Int) == heldV most) = false := by simpa using hl
        obtain ⟨k, rfl⟩ : ∃ k', k = k' + 1 := ⟨k - 1, by omega⟩
        have hkk : 1 ≤ k := by omega
        have HL := hid (And.intro h0 hl)
        clear h0 hl
        go_upto_region 3 with (fail)
        refine wp_region_ext (by kernel_rfl) (by kernel_rfl) (fun F hF => ?_)
        have HF := hid hF; clear hF
        repeat (first
          | (apply text_skip; (focus rfl); simp only [Act.put, List.setIfInBounds_toArray, List.set_cons_zero, List.set_cons_succ])
          | (apply text_val; (focus rfl); (focus (intro _ _; go_simp; with_reducible rfl)); simp only [Act.put, List.setIfInBounds_toArray, List.set_cons_zero, List.set_cons_succ])
          | (apply text_call; (focus rfl); (focus (intro _ _; go_simp; exact ⟨rfl, rfl⟩)); (focus (intro _ _; with_reducible (exact held_any _ _))); simp only [Act.put, List.setIfInBounds_toArray, List.set_cons_zero, List.set_cons_succ])
          | (apply text_if; (focus (first | exact wanted_t rfl rfl | exact wanted_f rfl rfl | exact wanted_gt rfl rfl | exact wanted_gf rfl rfl)); (focus (intro hc _ _; (try simp only [Bool.and_eq_true, Bool.not_eq_true', Bool.true_and] at hc); go_simp; with_reducible rfl)); simp only [Act.put, List.setIfInBounds_toArray, List.set_cons_zero, List.set_cons_succ])
          | (apply text_if_call; (focus (first | exact wanted_t rfl rfl | exact wanted_f rfl rfl | exact wanted_gt rfl rfl | exact wanted_gf rfl rfl)); (focus (intro hc _ _; (try simp only [Bool.and_eq_true, Bool.not_eq_true', Bool.true_and] at hc); go_simp; exact ⟨rfl, rfl⟩)); (focus (intro hc _ _; with_reducible (exact held_any _ _))); simp only [Act.put, List.setIfInBounds_toArray, List.set_cons_zero, List.set_cons_succ]))
        refine text_nil (HF.out _ (fun mx dx => ?_))
        clear HF F
        go_upto_region 5 with (fail)
        have C0 := HC.out.keep (W' := wr.ext mx dx) (B := []) (B' := []) (step_below (by (repeat' (first | (with_reducible exact Below.refl _ _) | (with_reducible refine Below.ext_mk ?_ ?_ _ _) | (with_reducible refine Below.alloc ?_ ?_ _) | (with_reducible refine Below.drew ?_) | (with_reducible refine Below.setCell ?_ ?_ _) | go_size))) (fun k hk => by cases hk)) (fun q hq => by cases hq)
        clear HC s0 a0 zl zs za f0 e0 FU
        generalize wr.ext mx dx = X0 at *
        have s0 := C0.bs.cell 0
        simp only [List.getElem?_cons_zero] at s0
        have zs := C0.bs.lt
        have H0 := hid C0
        clear C0
        go_wp2_with (go_at_call 115; refine (paths_any _ _ _).mono ?_; rintro e X ⟨rfl, z2, hb2, b1, b2, b3⟩)
        have C := H0.out.keep (B := []) (B' := []) (step_below hb2 (fun k hk => by cases hk)) (fun q hq => by cases hq)
        have hsX : w.heap.size ≤ X.heap.size := C.step.size
        have zX0 := H0.out.step.size
        have zl0 := H0.out.bl.lt
        have KX0 := H0.out.lt
        have PW : PathW X X0.heap.size (X0.heap.size + 2) p F1 S1 := ⟨b1, b3, C.st⟩
        have NE := pathsL_ne C.gs.1 hr HL.out.1
        have CX := hid C
        clear H0
        refine wpIn_wide.1 (wpIn_rangeFunc_b (n := 0) (gf := 141) (lb := #[.pointer (some ⟨X0.heap.size + 2, 0, none⟩), .pointer (some ⟨X0.heap.size + 1, 0, none⟩)]) rfl (fun _ _ => by kernel_rfl)
          (paths_seq C.gs.1 rest (X0.heap.size + 1) X PW b2) (fun q hq => by
            simp only [List.mem_cons] at hq
            rcases hq with rfl | hq
            · exact b2.lt
            · exact PW.lt q hq) (fun _ => rfl)
          (fun pre B W => pre = [] ∧ Below X.heap.size X W ∧ ∀ q ∈ B, X.heap.size ≤ q)
          (fun c pre B W => c = .exit 2 ∧ ∃ x F4 sv' G', pre = [x] ∧ CuOk x ∧ CvI w F p w.heap.size (w.heap.size + 1) (w.heap.size + 1 + 1) a (primeV S1 a x).1 F4 (l ++ [(primeV S1 a x).2]) sv' G' Ds W ∧ ∀ q ∈ B, w.heap.size ≤ q ∧ q ∉ CvK w.heap.size (w.heap.size + 1) (w.heap.size + 1 + 1) G' Ds F4)
          ?abi ?abx ⟨rfl, Below.refl _ _, fun q hq => by cases hq⟩
          (fun pre x B a' W => pre = [] ∧ CuOk x ∧ Below X.heap.size X W ∧ (∀ q ∈ B, X.heap.size ≤ q) ∧ ∃ cb, X.heap.size ≤ cb ∧ cb ∉ B ∧ Blk W cb 85 [.int .u64 x.1, .int .u64 x.2] ∧ a' = { tmps := #[.pointer (some ⟨p, 0, none⟩), .int .i64 a, .int .i64 most, .pointer (some ⟨w.heap.size, 0, none⟩), .pointer (some ⟨w.heap.size + 1, 0, none⟩), undef, .pointer (some ⟨w.heap.size + 1 + 1, 0, none⟩), .bool false, .int .i64 rest, .pointer (some ⟨cb, 0, none⟩), u10, u11, u12, u13, .int .i64 rest, .bool true, .slice la l.length lc, .int .i64 (l.length : Int), .int .i64 most, .int .i64 (heldV most), .bool false, u21, .pointer (some ⟨p, 0, none⟩), .int .i64 rest, .func (.func 141) #[] #[.pointer (some ⟨X0.heap.size + 2, 0, none⟩), .pointer (some ⟨X0.heap.size + 1, 0, none⟩)], cv x, u26, u27, u28, u29, u30, u31, u32, u33, u34, u35, u36, u37, u38, u39, u40, u41, u42, u43, u44, u45, u46, u47, u48, u49], defers := [] })
          ?assign ?body ?done ?stop)
        case abi =>
          rintro pre B B' W W' ⟨rfl, hb, hB⟩ st
          exact ⟨rfl, hb.trans (st.below hB hb.size), fun q hq => by
            rcases st.fresh q hq with h1 | h1
            · exact hB q h1
            · have := hb.size; omega⟩
        case abx =>
          rintro c pre B B' W W' ⟨rfl, x, F4, sv', G', rfl, hx, hC4, hB⟩ st
          refine ⟨rfl, x, F4, sv', G', rfl, hx, hC4.keep st hB, fun q hq => ?_⟩
          rcases st.fresh q hq with h1 | h1
          · exact hB q h1
          · exact ⟨by have := hC4.step.size; omega, fun hm => by have := hC4.lt q hm; omega⟩
        case assign =>
          rintro l' pre B x W K ⟨rfl, hb, hBX⟩ hok hl2 hB hK
          rw [fold_one]
          simp only [List.setIfInBounds_toArray, List.set_cons_succ, List.set_cons_zero]
          refine wpIn_region_doc (by kernel_rfl) (fun F' hF0 => ?_)
          have HF := hid hF0
          clear hF0
          refine doc_val rfl (by first | (go_simp; done) | (go_simp; exact ⟨rfl, rfl⟩) | (go_simp; with_reducible rfl)) ?_
          simp only [Act.put, List.setIfInBounds_toArray, List.set_cons_zero, List.set_cons_succ]
          refine doc_skip rfl (by first | (go_simp; done) | (go_simp; exact ⟨rfl, rfl⟩) | (go_simp; with_reducible rfl)) ?_
          simp only [Act.put, List.setIfInBounds_toArray, List.set_cons_zero, List.set_cons_succ]
          refine doc_end (HF.out _ _ ?_)
          clear HF F'
          simp only [Exit.then]
          refine hK _ _ ?_ ?_
          · exact Kept.of_below (by (repeat' (first | (with_reducible exact Below.refl _ _) | (with_reducible refine Below.ext_mk ?_ ?_ _ _) | (with_reducible refine Below.alloc ?_ ?_ _) | (with_reducible refine Below.drew ?_) | (with_reducible refine Below.setCell ?_ ?_ _) | go_size))) (fun q hq => by
              have := hb.size
              rcases List.mem_append.1 hq with h1 | h1
              · simp only [List.mem_cons] at h1
                rcases h1 with rfl | h1
                · have := b2.lt; omega
                · have := PW.lt q h1; omega
              · exact (hB q h1).2)
          · intro W2 st
            have hs := st.size
            have hsz := hb.size
            simp only [World.size_alloc] at hs
            have hnew : W.heap.size ∉ B := fun hm => by have := (hB _ hm).2; omega
            have hb3 : Below X.heap.size X (W.alloc (.cells #[.int .u64 x.1, .int .u64 x.2] 85)) := hb.trans ((Below.refl _ W).alloc hsz _)
            exact ⟨rfl, hok, hb3.trans (st.below hBX (by simp; omega)), hBX, W.heap.size, hsz, hnew, (Blk.new W 85 [.int .u64 x.1, .int .u64 x.2]).keep (st.block _ (by simp) hnew), rfl⟩
        case body =>
          rintro l' pre B x a' W hl2 hloop hB hTB ⟨rfl, hok, hb, hBX, cb, zcb, ncb, bcb, rfl⟩
          have CW := CX.out.keep (B := []) (B' := []) (step_below hb (fun k hk => by cases hk)) (fun q hq => by cases hq)
          have GN := CW.gne
          have KW := CX.out.lt
          have hsW := hb.size
          have ncK : ∀ k ∈ CvK w.heap.size (w.heap.size + 1) (w.heap.size + 1 + 1) G Ds F1, k < X.heap.size := KW
          have ncF : cb ∉ F1 := fun hm => by have := KW cb (by simp [CvK, hm]); omega
          have ncG : G ≠ some cb := fun e => by have := KW cb (by simp [CvK, e]); omega
          have PR0 := fun W' F' (h : StoIs W' p F' S1) => cprime_live h CW.gs hok a
          have GP := primeV_gs CW.gs a x
          have CP := primeV_cu S1 a hok
          generalize hR4 : primeV S1 a x = R4 at PR0 GP CP
          obtain ⟨S4, x'⟩ := R4
          have HR4 := hid hR4
          clear hR4
          simp only at PR0 GP CP
          have PR := hid PR0
          clear PR0
          have HL5 : heldV most ≤ 4096 := by unfold heldV; omega
          have HL4 : Hid ((l.length : Int) ≤ 4096) := hid (by omega)
          clear HL5
          refine wpIn_block ?_
          apply wpIn_seq_k; intro K1 hK1
          refine wpIn_region_invs (fun L a' w' => ∃ (q : Nat) (v' : Value), a' = cvAct (.pointer (some ⟨p, 0, none⟩)) (.int .i64 a) (.int .i64 most) (.pointer (some ⟨w.heap.size, 0, none⟩)) (.pointer (some ⟨w.heap.size + 1, 0, none⟩)) undef (.pointer (some ⟨w.heap.size + 1 + 1, 0, none⟩)) (.bool false) (.int .i64 rest) (.pointer (some ⟨cb, 0, none⟩)) u10 u11 u12 u13 (.int .i64 rest) (.bool true) (.slice la l.length lc) (.int .i64 (l.length : Int)) (.int .i64 most) (.int .i64 (heldV most)) (.bool false) u21 (.pointer (some ⟨p, 0, none⟩)) (.int .i64 rest) (.func (.func 141) #[] #[.pointer (some ⟨X0.heap.size + 2, 0, none⟩), .pointer (some ⟨X0.heap.size + 1, 0, none⟩)]) (cv x) u26 u27 u28 u29 u30 u31 u32 u33 u34 u35 u36 u37 u38 u39 u40 u41 u42 u43 u44 u45 u46 u47 u48 u49 [] (fun i => L.getD i false) (.slice la l.length lc) (.pointer (some ⟨p, 0, none⟩)) (.int .i64 a) (cv x) (cv x') (.slice (some ⟨q, 0, none⟩) 1 1) v' ∧ CvR W p F1 S4 x' G (l ++ [x']) (w.heap.size + 1 + 1) (fun i => L.getD i false) w' q v') (by kernel_rfl) (by kernel_rfl) (by kernel_rfl) ⟨0, undef, rfl, .inl ⟨rfl, rfl, rfl, rfl, by (repeat' (first | (with_reducible exact Below.refl _ _) | (with_reducible refine Below.ext_mk ?_ ?_ _ _) | (with_reducible refine Below.alloc ?_ ?_ _) | (with_reducible refine Below.drew ?_) | (with_reducible refine Below.setCell ?_ ?_ _) | go_size))⟩⟩ ?_ ?_
          · rintro L a' w' hall ⟨q, v', rfl, hR⟩
            have h7 := hall 7 (by decide)
            obtain ⟨w1, hE, rfl⟩ : ∃ w1, CvE W p F1 S4 G (l ++ [x']) (w.heap.size + 1 + 1) w1 v' ∧ w' = w1.setCell ⟨w.heap.size + 1 + 1, 0, none⟩ v' := by
              rcases hR with ⟨-, -, -, h, -⟩ | ⟨-, -, -, h, -⟩ | ⟨-, -, -, h, -⟩ | ⟨-, -, -, h, -⟩ | ⟨-, -, -, -, h⟩
              · simp only at h; rw [h7] at h; cases h
              · simp only at h; rw [h7] at h; cases h
              · simp only at h; rw [h7] at h; cases h
              · simp only at h; rw [h7] at h; cases h
              · exact h
            obtain ⟨F4, G', C4, hq⟩ := CW.append hE GP CP (by omega) (by omega) (by omega)
            have hBq : ∀ q ∈ B, q < W.heap.size ∧ q ∉ CvK w.heap.size (w.heap.size + 1) (w.heap.size + 1 + 1) G Ds F1 := fun q hq' => ⟨(hB q hq').2, fun hm => by have := KW q hm; have := hBX q hq'; omega⟩
            simp only [Exit.then]
            apply hK1
            refine wpIn_exit ?_
            simp only [Exit.inBlock, postB]
            refine ⟨⟨by have := hE.ex; obtain ⟨F4', G'', -, -, -, -, st⟩ := this; have := st.size; simp; omega, fun q hq' => (hq q (hBq q hq').1 (hBq q hq').2).2⟩, trivial, x, F4, v', some G', by simp, hok, ?_, fun q hq' => ⟨by have := hBX q hq'; omega, (hq q (hBq q hq').1 (hBq q hq').2).1⟩⟩
            rw [HR4.out]
            exact C4
          · refine ⟨fun L a' w' hn hI => ?_, ?_⟩
            · obtain ⟨q, v', rfl, hR⟩ := hI
              have hup := getD_up hn.2.1
              have f7 := not_upC hn.2.2.2 (i := 7) (k := 0) (by decide +kernel) hn.2.1
              have hs := hR.same f7 (CW.bl).lt CW.nl GN.1.2.2.1
              have d0 := (cell_same hs.1 0).trans ((CW.bl).cell 0)
              simp only [List.getElem?_cons_zero, List.getElem?_cons_succ] at d0
              have zz := hs.2
              refine st_val (v := .slice la l.length lc) (W1 := w') rfl (by unfold cvAct; go_simp) ?_
              refine ⟨q, v', ?_, hR.congr (up_other 0 4 (by decide)) (up_other 0 5 (by decide)) (up_other 0 6 (by decide)) (up_other 0 7 (by decide))⟩
              unfold cvAct
              simp only [Act.put, List.setIfInBounds_toArray, List.set_cons_zero, List.set_cons_succ, hup, gy_true, up_other 0 1 (by decide), up_other 0 2 (by decide), up_other 0 3 (by decide), up_other 0 4 (by decide), up_other 0 5 (by decide), up_other 0 6 (by decide), up_other 0 7 (by decide)]
            · refine ⟨fun L a' w' hn hI => ?_, ?_⟩
              · obtain ⟨q, v', rfl, hR⟩ := hI
                have hup := getD_up hn.2.1
                have f7 := not_upC hn.2.2.2 (i := 7) (k := 1) (by decide +kernel) hn.2.1
                have hs := hR.same f7 (CW.bs).lt CW.ns GN.1.1
                have d0 := (cell_same hs.1 0).trans ((CW.bs).cell 0)
                simp only [List.getElem?_cons_zero, List.getElem?_cons_succ] at d0
                have zz := hs.2
                refine st_val (v := .pointer (some ⟨p, 0, none⟩)) (W1 := w') rfl (by unfold cvAct; go_simp) ?_
                refine ⟨q, v', ?_, hR.congr (up_other 1 4 (by decide)) (up_other 1 5 (by decide)) (up_other 1 6 (by decide)) (up_other 1 7 (by decide))⟩
                unfold cvAct
                simp only [Act.put, List.setIfInBounds_toArray, List.set_cons_zero, List.set_cons_succ, hup, gy_true, up_other 1 0 (by decide), up_other 1 2 (by decide), up_other 1 3 (by decide), up_other 1 4 (by decide), up_other 1 5 (by decide), up_other 1 6 (by decide), up_other 1 7 (by decide)]
              · refine ⟨fun L a' w' hn hI => ?_, ?_⟩
                · obtain ⟨q, v', rfl, hR⟩ := hI
                  have hup := getD_up hn.2.1
                  have f7 := not_upC hn.2.2.2 (i := 7) (k := 2) (by decide +kernel) hn.2.1
                  have hs := hR.same f7 (CW.ba).lt CW.na GN.1.2.1
                  have d0 := (cell_same hs.1 0).trans ((CW.ba).cell 0)
                  simp only [List.getElem?_cons_zero, List.getElem?_cons_succ] at d0
                  have zz := hs.2
                  refine st_val (v := .int .i64 a) (W1 := w') rfl (by unfold cvAct; go_simp) ?_
                  refine ⟨q, v', ?_, hR.congr (up_other 2 4 (by decide)) (up_other 2 5 (by decide)) (up_other 2 6 (by decide)) (up_other 2 7 (by decide))⟩
                  unfold cvAct
                  simp only [Act.put, List.setIfInBounds_toArray, List.set_cons_zero, List.set_cons_succ, hup, gy_true, up_other 2 0 (by decide), up_other 2 1 (by decide), up_other 2 3 (by decide), up_other 2 4 (by decide), up_other 2 5 (by decide), up_other 2 6 (by decide), up_other 2 7 (by decide)]
                · refine ⟨fun L a' w' hn hI => ?_, ?_⟩
                  · obtain ⟨q, v', rfl, hR⟩ := hI
                    have hup := getD_up hn.2.1
                    have f7 := not_upC hn.2.2.2 (i := 7) (k := 3) (by decide +kernel) hn.2.1
                    have hs := hR.same f7 (bcb).lt ncF ncG
                    have d0 := (cell_same hs.1 0).trans ((bcb).cell 0)
                    have d1 := (cell_same hs.1 1).trans ((bcb).cell 1)
                    simp only [List.getElem?_cons_zero, List.getElem?_cons_succ] at d0 d1
                    have zz := hs.2
                    refine st_val (v := cv x) (W1 := w') rfl (by unfold cvAct; go_simp) ?_
                    refine ⟨q, v', ?_, hR.congr (up_other 3 4 (by decide)) (up_other 3 5 (by decide)) (up_other 3 6 (by decide)) (up_other 3 7 (by decide))⟩
                    unfold cvAct
                    simp only [Act.put, List.setIfInBounds_toArray, List.set_cons_zero, List.set_cons_succ, hup, gy_true, up_other 3 0 (by decide), up_other 3 1 (by decide), up_other 3 2 (by decide), up_other 3 4 (by decide), up_other 3 5 (by decide), up_other 3 6 (by decide), up_other 3 7 (by decide)]
                  · refine ⟨fun L a' w' hn hI => ?_, ?_⟩
                    · obtain ⟨q, v', rfl, hR⟩ := hI
                      have hup := getD_up hn.2.1
                      have d1 : L.getD 1 false = true := hn.2.2.1 1 (by decide +kernel)
                      have d2 : L.getD 2 false = true := hn.2.2.1 2 (by decide +kernel)
                      have d3 : L.getD 3 false = true := hn.2.2.1 3 (by decide +kernel)
                      have f4 := getD_false_of hn.2.1
                      obtain ⟨g5, g6, g7, hbw⟩ : L.getD 5 false = false ∧ L.getD 6 false = false ∧ L.getD 7 false = false ∧ Below W.heap.size W w' := by
                        rcases hR with ⟨-, h5, h6, h7, hb⟩ | ⟨h4, -⟩ | ⟨h4, -⟩ | ⟨h4, -⟩ | ⟨h4, -⟩
                        · exact ⟨h5, h6, h7, hb⟩
                        all_goals (simp only at h4; rw [f4] at h4; cases h4)
                      refine st_call (f := 61) (args := #[.pointer (some ⟨p, 0, none⟩), .int .i64 a, cv x]) (W1 := w') rfl (by unfold cvAct; simp only [gy_true, d1, d2, d3]; first | (go_simp; done) | (go_simp; exact ⟨rfl, rfl⟩)) ((PR.out w' F1 (CW.st.below hbw)).mono ?_)
                      rintro e w2 ⟨rfl, F4, h4, st4⟩
                      refine ⟨_, rfl, q, v', ?_, .inr (.inl ⟨hup, (up_other 4 5 (by decide)).trans g5, (up_other 4 6 (by decide)).trans g6, (up_other 4 7 (by decide)).trans g7, F4, h4, (StoStep.of_below hbw).trans st4⟩)⟩
                      unfold cvAct
                      simp only [Act.put, List.setIfInBounds_toArray, List.set_cons_zero, List.set_cons_succ, hup, gy_true, up_other 4 0 (by decide), up_other 4 1 (by decide), up_other 4 2 (by decide), up_other 4 3 (by decide), up_other 4 5 (by decide), up_other 4 6 (by decide), up_other 4 7 (by decide)]
                    · refine ⟨fun L a' w' hn hI => ?_, ?_⟩
                      · obtain ⟨q, v', rfl, hR⟩ := hI
                        have hup := getD_up hn.2.1
                        have d4 : L.getD 4 false = true := hn.2.2.1 4 (by decide +kernel)
                        have f5 := getD_false_of hn.2.1
                        obtain ⟨g6, g7, F4, h4, st4⟩ : L.getD 6 false = false ∧ L.getD 7 false = false ∧ ∃ F4, StoIs w' p F4 S4 ∧ StoStep W w' F1 F4 := by
                          rcases hR with ⟨h4, -⟩ | ⟨-, -, h6, h7, h⟩ | ⟨-, h5, -⟩ | ⟨-, h5, -⟩ | ⟨-, h5, -⟩
                          · simp only at h4; rw [d4] at h4; cases h4
                          · exact ⟨h6, h7, h⟩
                          all_goals (simp only at h5; rw [f5] at h5; cases h5)
                        refine st_val (v := .slice (some ⟨w'.heap.size, 0, none⟩) 1 1) (W1 := w'.alloc (.cells #[.int .u64 x'.1, .int .u64 x'.2] 85)) rfl (by unfold cvAct; simp only [gy_true, d4]; go_simp) ?_
                        refine ⟨w'.heap.size, v', ?_, .inr (.inr (.inl ⟨(up_other 5 4 (by decide)).trans d4, hup, (up_other 5 6 (by decide)).trans g6, (up_other 5 7 (by decide)).trans g7, w', F4, h4, st4, rfl, rfl⟩))⟩
                        unfold cvAct
                        simp only [f5, gy_false]
                        simp only [Act.put, List.setIfInBounds_toArray, List.set_cons_zero, List.set_cons_succ, hup, gy_true, gy_false, f5, up_other 5 0 (by decide), up_other 5 1 (by decide), up_other 5 2 (by decide), up_other 5 3 (by decide), up_other 5 4 (by decide), up_other 5 6 (by decide), up_other 5 7 (by decide)]
                      · refine ⟨fun L a' w' hn hI => ?_, ?_⟩
                        · obtain ⟨q, v', rfl, hR⟩ := hI
                          have hup := getD_up hn.2.1
                          have d0 : L.getD 0 false = true := hn.2.2.1 0 (by decide +kernel)
                          have d5 : L.getD 5 false = true := hn.2.2.1 5 (by decide +kernel)
                          have f6 := getD_false_of hn.2.1
                          obtain ⟨g4, g7, w1, F4, h4, st4, rfl, rfl⟩ : L.getD 4 false = true ∧ L.getD 7 false = false ∧ ∃ w1 F4, StoIs w1 p F4 S4 ∧ StoStep W w1 F1 F4 ∧ w' = w1.alloc (.cells #[.int .u64 x'.1, .int .u64 x'.2] 85) ∧ q = w1.heap.size := by
                            rcases hR with ⟨-, h5, -⟩ | ⟨-, h5, -⟩ | ⟨h4, -, -, h7, h⟩ | ⟨-, -, h6, -⟩ | ⟨-, -, h6, -⟩
                            · simp only at h5; rw [d5] at h5; cases h5
                            · simp only at h5; rw [d5] at h5; cases h5
                            · exact ⟨h4, h7, h⟩
                            all_goals (simp only at h6; rw [f6] at h6; cases h6)
                          have row1 : RowIs w1 (.slice la l.length lc) G 85 2 l.length (cus l) := CW.row.keep (fun g hg => st4.block g (CW.row.lt g hg) (CW.ng g hg))
                          obtain ⟨v2, G', w2, r1, r2, r3, r4, ro, rt, rp, rz⟩ := cu_one row1 (by have := HL4.out; omega) x'
                          have zw := st4.size
                          refine st_val (v := v2) (W1 := w2) rfl (by unfold cvAct; simp only [gy_true, d0, d5]; exact run_append_op _ _ _ _ _ _ _ _ _ r1) ?_
                          refine ⟨w1.heap.size, v2, ?_, .inr (.inr (.inr (.inl ⟨(up_other 6 4 (by decide)).trans g4, (up_other 6 5 (by decide)).trans d5, hup, (up_other 6 7 (by decide)).trans g7, ⟨F4, G', ?_, r2, ?_, ?_, ?_⟩, ?_⟩)))⟩
                          · unfold cvAct
                            simp only [f6, gy_false]
                            simp only [Act.put, List.setIfInBounds_toArray, List.set_cons_zero, List.set_cons_succ, hup, gy_true, gy_false, f6, up_other 6 0 (by decide), up_other 6 1 (by decide), up_other 6 2 (by decide), up_other 6 3 (by decide), up_other 6 4 (by decide), up_other 6 5 (by decide), up_other 6 7 (by decide)]
                          · exact h4.keep (fun k hk => r4 k (h4.lt k hk) (fun e => st4.keeps (CW.row.lt k e) (CW.ng k e) hk))
                          · rcases r3 with e | e
                            · exact .inl e
                            · exact .inr ⟨by omega, e.2⟩
                          · rcases r3 with e | e
                            · exact st4.keeps (CW.row.lt _ e) (CW.ng _ e)
                            · exact fun hm => by have := h4.lt _ hm; omega
                          · refine ⟨ro.trans st4.os, rt.trans st4.tape, rp.trans st4.output, by omega, fun k h1 h2 => ?_, fun k hk => ?_⟩
                            · exact (r4 k (by omega) (fun e => h2 (by rw [e]; simp))).trans (st4.block k h1 (fun hm => h2 (by simp [hm])))
                            · rcases List.mem_append.1 hk with hk | hk
                              · rcases st4.fresh k hk with h5 | h5
                                · exact .inl (by simp [h5])
                                · exact .inr ⟨h5.1, by omega⟩
                              · simp at hk
                                subst hk
                                rcases r3 with e | e
                                · exact .inl (by rw [e]; simp)
                                · exact .inr ⟨by omega, e.2⟩
                          · obtain ⟨a1, c1, h5, -⟩ := r2.form
                            exact ⟨a1, _, c1, h5⟩
                        · refine ⟨fun L a' w' hn hI => ?_, ?_⟩
                          · obtain ⟨q, v', rfl, hR⟩ := hI
                            have hup := getD_up hn.2.1
                            have d6 : L.getD 6 false = true := hn.2.2.1 6 (by decide +kernel)
                            have f7 := getD_false_of hn.2.1
                            have hs := hR.same f7 CW.bl.lt CW.nl GN.1.2.2.1
                            have d0 := (cell_same hs.1 0).trans (CW.bl.cell 0)
                            have g0 := (frozen_same hs.1 0).trans (CW.bl.free 0)
                            simp only [List.getElem?_cons_zero] at d0
                            have zz := hs.2
                            obtain ⟨g4, g5, hE⟩ : L.getD 4 false = true ∧ L.getD 5 false = true ∧ CvE W p F1 S4 G (l ++ [x']) (w.heap.size + 1 + 1) w' v' := by
                              rcases hR with ⟨-, -, h6, -⟩ | ⟨-, -, h6, -⟩ | ⟨-, -, h6, -⟩ | ⟨h4, h5, -, -, h⟩ | ⟨-, -, -, h7, -⟩
                              · simp only at h6; rw [d6] at h6; cases h6
                              · simp only at h6; rw [d6] at h6; cases h6
                              · simp only at h6; rw [d6] at h6; cases h6
                              · exact ⟨h4, h5, h⟩
                              · simp only at h7; rw [f7] at h7; cases h7
                            obtain ⟨a1, n1, c1, rfl⟩ := hE.form
                            refine st_skip (W1 := w'.setCell ⟨w.heap.size + 1 + 1, 0, none⟩ (.slice a1 n1 c1)) rfl (by unfold cvAct; simp only [gy_true, d6]; go_simp) ?_
                            refine ⟨q, _, ?_, .inr (.inr (.inr (.inr ⟨(up_other 7 4 (by decide)).trans g4, (up_other 7 5 (by decide)).trans g5, (up_other 7 6 (by decide)).trans d6, hup, w', hE, rfl⟩)))⟩
                            unfold cvAct
                            simp only [Act.put, up_other 7 0 (by decide), up_other 7 1 (by decide), up_other 7 2 (by decide), up_other 7 3 (by decide), up_other 7 4 (by decide), up_other 7 5 (by decide), up_other 7 6 (by decide)]
                          · trivial
        case done =>
          rintro D B xs W hD hDB rfl ⟨e, -, -⟩ hK
          exact absurd e NE
        case stop =>
          rintro D B c pre W hD hDB hpre ⟨rfl, x, F4, sv', G', rfl, hx, C4, hBK⟩ hK
          have ehd : (pathsL S1 rest).headD (0, 0) = x := by
            obtain ⟨t, ht⟩ := hpre
            rw [← ht]; rfl
          have GP := primeV_gs CX.out.gs a x
          have CP := primeV_cu S1 a hx
          have eN : coverN a (heldV most) (k + 1) S1 rest l = coverN a (heldV most) k
              (andV (notV (ofV (primeV S1 a x).1 (primeV S1 a x).2).1 (ofV (primeV S1 a x).1 (primeV S1 a x).2).2).1 rest (notV (ofV (primeV S1 a x).1 (primeV S1 a x).2).1 (ofV (primeV S1 a x).1 (primeV S1 a x).2).2).2).1
              (andV (notV (ofV (primeV S1 a x).1 (primeV S1 a x).2).1 (ofV (primeV S1 a x).1 (primeV S1 a x).2).2).1 rest (notV (ofV (primeV S1 a x).1 (primeV S1 a x).2).1 (ofV (primeV S1 a x).1 (primeV S1 a x).2).2).2).2
              (l ++ [(primeV S1 a x).2]) := by
            rw [coverN, if_neg HL.out.1, if_neg HL.out.2, ehd]
          rw [HN.out] at eN
          have C5 := C4.mark hK (hBK D hDB).1 (hBK D hDB).2
          generalize primeV S1 a x = R4 at *
          obtain ⟨S4, x'⟩ := R4
          simp only at GP CP C4 C5 eN
          have O5 := fun W' F' (h : StoIs W' p F' S4) => cof_live h GP CP
          have G5 := ofV_gs GP x'
          unfold Tells at O5
          generalize ofV S4 x' = R5 at *
          obtain ⟨S5, r5⟩ := R5
          simp only at O5 G5 eN
          have N6 := fun W' F' (h : StoIs W' p F' S5) => hNo.out W' F' S5 h G5 r5
          have G6 := notV_gs G5 r5
          generalize notV S5 r5 = R6 at *
          obtain ⟨S6, r6⟩ := R6
          simp only at N6 G6 eN
          have A7 := fun W' F' (h : StoIs W' p F' S6) => hAn.out W' F' S6 h G6 rest r6
          have G7 := andV_gs G6 rest r6
          have H7 := andV_has G6 rest r6
          generalize andV S6 rest r6 = R7 at *
          obtain ⟨S7, r7⟩ := R7
          simp only at A7 G7 H7 eN
          have EN := hid eN
          clear eN ehd NE C4 hBK hK hpre CX PW b1 b2 b3 C
          obtain ⟨la', lc', rfl, hlm'⟩ := C5.row.form
          obtain ⟨g, cap, e1, rfl, k0, kf0⟩ := C5.row.at (i := l.length) (j := 0) (by simp) (by omega)
          obtain ⟨g', cap', e1', e2', k1, kf1⟩ := C5.row.at (i := l.length) (j := 1) (by simp) (by omega)
          cases e2'
          clear e1'
          obtain ⟨t0, t1⟩ := cus_at (l ++ [x']) l.length x' (by simp)
          rw [Nat.add_zero, t0] at k0
          rw [t1] at k1
          have ela : la' = some ⟨g, 0, none⟩ := by injection e1
          subst ela
          have LC := hid C5
          obtain ⟨n, hn⟩ : ∃ n, n = (l ++ [x']).length := ⟨_, rfl⟩
          have hn2 : n = l.length + 1 := by rw [hn]; simp
          have blW := C5.bl
          have bsW := C5.bs
          rw [← hn] at blW
          have wsub : IntKind.i64.wrap ((n : Int) - 1) = (l.length : Int) := by rw [hn2]; exact (IntWalk.i64_in _ (by unfold maxLen at hlm; omega)).trans (by omega)
          have hlt1 : (l.length : Int) < (n : Int) := by omega
          have hlt0 : (0 : Int) ≤ (l.length : Int) := by omega
          have HN2 := hid (And.intro hn hn2)
          have zg := C5.row.lt g rfl
          have ngF := C5.ng g rfl
          have nsF := C5.ns
          have nlF := C5.nl
          have stI := C5.st
          clear hn hn2 e1 t0 t1 C5 kf0 kf1 hlm
          refine wpIn_wide.2 ?_
          go_upto_region 8 with (fail)
          refine wp_region_stage [8, 9] (StgW W p F4 S4 S5 S6) (by kernel_rfl) (by kernel_rfl) (by kernel_rfl) (by kernel_rfl) ⟨F4, stI.below (by (repeat' (first | (with_reducible exact Below.refl _ _) | (with_reducible refine Below.ext_mk ?_ ?_ _ _) | (with_reducible refine Below.alloc ?_ ?_ _) | (with_reducible refine Below.drew ?_) | (with_reducible refine Below.setCell ?_ ?_ _) | go_size))), StoStep.of_below (by (repeat' (first | (with_reducible exact Below.refl _ _) | (with_reducible refine Below.ext_mk ?_ ?_ _ _) | (with_reducible refine Below.alloc ?_ ?_ _) | (with_reducible refine Below.drew ?_) | (with_reducible refine Below.setCell ?_ ?_ _) | go_size)))⟩ (fun F' hF => ?_)
          have HF := hid hF
          clear hF
          refine sg_read (v := .pointer (some ⟨p, 0, none⟩)) _ _ rfl rfl rfl rfl (fun i W' _ _ hR => ?_) ?_
          · have q := (hR.blk bsW nsF).cell 0
            have zq := (hR.blk bsW nsF).lt
            simp only [List.getElem?_cons_zero, List.getElem?_cons_succ] at q
            clear hR
            go_simp
          simp only [Act.put, List.setIfInBounds_toArray, List.set_cons_zero, List.set_cons_succ]
          refine sg_read (v := .pointer (some ⟨p, 0, none⟩)) _ _ rfl rfl rfl rfl (fun i W' _ _ hR => ?_) ?_
          · have q := (hR.blk bsW nsF).cell 0
            have zq := (hR.blk bsW nsF).lt
            simp only [List.getElem?_cons_zero, List.getElem?_cons_succ] at q
            clear hR
            go_simp
          simp only [Act.put, List.setIfInBounds_toArray, List.set_cons_zero, List.set_cons_succ]
          refine sg_read (v := .slice (some ⟨g, 0, none⟩) n lc') _ _ rfl rfl rfl rfl (fun i W' _ _ hR => ?_) ?_
          · have q := (hR.blk blW nlF).cell 0
            have zq := (hR.blk blW nlF).lt
            simp only [List.getElem?_cons_zero, List.getElem?_cons_succ] at q
            clear hR
            go_simp
          simp only [Act.put, List.setIfInBounds_toArray, List.set_cons_zero, List.set_cons_succ]
          refine sg_read (v := .slice (some ⟨g, 0, none⟩) n lc') _ _ rfl rfl rfl rfl (fun i W' _ _ hR => ?_) ?_
          · have q := (hR.blk blW nlF).cell 0
            have zq := (hR.blk blW nlF).lt
            simp only [List.getElem?_cons_zero, List.getElem?_cons_succ] at q
            clear hR
            go_simp
          simp only [Act.put, List.setIfInBounds_toArray, List.set_cons_zero, List.set_cons_succ]
          (apply sg_any; (focus rfl); (focus rfl); (focus (intro _; go_simp; with_reducible rfl)); simp only [Act.put, List.setIfInBounds_toArray, List.set_cons_zero, List.set_cons_succ])
          (apply sg_any; (focus rfl); (focus rfl); (focus (intro _; go_simp; with_reducible rfl)); simp only [Act.put, List.setIfInBounds_toArray, List.set_cons_zero, List.set_cons_succ])
          (apply sg_any; (focus rfl); (focus rfl); (focus (intro _; go_simp; with_reducible rfl)); simp only [Act.put, List.setIfInBounds_toArray, List.set_cons_zero, List.set_cons_succ])
          refine sg_read (v := cv x') _ _ rfl rfl rfl rfl (fun i W' _ _ hR => ?_) ?_
          · have hs := hR.same zg ngF
            have q0 := (cell_same hs.1 (l.length * 2)).trans k0
            have q1 := (cell_same hs.1 (l.length * 2 + 1)).trans k1
            have zq := hs.2
            clear hR
            go_simp
          simp only [Act.put, List.setIfInBounds_toArray, List.set_cons_zero, List.set_cons_succ]
          refine sg_turn_call 0 (v := .int .i64 r5) (f := 59) (args := #[.pointer (some ⟨p, 0, none⟩), cv x']) rfl rfl (fun _ => by first | (go_simp; done) | (go_simp; exact ⟨rfl, rfl⟩)) (fun W' hR => by
            obtain ⟨Fi, hS, st⟩ := hR
            refine (O5 W' Fi hS).mono ?_
            rintro e w' ⟨rfl, F2, t1, t2⟩
            exact ⟨rfl, F2, t1, st.trans t2⟩) ?_
          simp only [Act.put, List.setIfInBounds_toArray, List.set_cons_zero, List.set_cons_succ]
          refine sg_turn_call 1 (v := .int .i64 r6) (f := 26) (args := #[.pointer (some ⟨p, 0, none⟩), .int .i64 r5]) rfl rfl (fun _ => by first | (go_simp; done) | (go_simp; exact ⟨rfl, rfl⟩)) (fun W' hR => by
            obtain ⟨Fi, hS, st⟩ := hR
            refine (N6 W' Fi hS).mono ?_
            rintro e w' ⟨rfl, F2, t1, t2⟩
            exact ⟨rfl, F2, t1, st.trans t2⟩) ?_
          simp only [Act.put, List.setIfInBounds_toArray, List.set_cons_zero, List.set_cons_succ]
          (apply sg_any; (focus rfl); (focus rfl); (focus (intro _; go_simp; with_reducible rfl)); simp only [Act.put, List.setIfInBounds_toArray, List.set_cons_zero, List.set_cons_succ])
          refine sg_end (HF.out _ (fun w2 hR => ?_))
          obtain ⟨F6, hS6, st6⟩ := hR
          have C6 := LC.out.turn hS6 G6 st6
          clear HF F' k0 k1 blW bsW
          have s6 := C6.bs.cell 0
          simp only [List.getElem?_cons_zero] at s6
          have zs6 := C6.bs.lt
          have A8 := A7 _ _ hS6
          go_wp2_with (go_at_call 27; refine A8.mono ?_; rintro e w7 ⟨rfl, F7, hS7, st7⟩; have C7 := C6.turn hS7 G7 st7; have c7 := C7.bl.cell 0; simp only [List.getElem?_cons_zero] at c7)
          refine ⟨⟨_, _, _, _, _, _, _, _, _, _, _, _, _, _, _, _, _, _, _, _, _, _, _, _, _, _, _, _, _, _, _, _, _, _, _, _, _, _, _, _, _, r7, S7, F7, l ++ [x'], _, some g, D :: Ds, k, rfl, C7, H7, ?_, hkk, EN.out.symm⟩, ?_⟩
          · simp only [List.length_append, List.length_cons, List.length_nil]; omega
          · show covM _ _ w7 < covM _ _ wr
            rw [covM_is c7, covM_is c0]
            simp only [List.length_append, List.length_cons, List.length_nil]
            omega
end Go.Proofs.Ytboekafmplomhaa
set_option linter.unusedVariables false
set_option linter.unusedSimpArgs false
namespace Go.Proofs.Ytboekafmplomhaa
open Go.RowKit

def kO : Sto × Int := orV qB.1 2 3
theorem kO_gs : Gs kO.1 := orV_gs ⟨qB_ok.wf, qB_ok.sated⟩ _ _
theorem kO_is : kO.2 = 4 := by decide +kernel
theorem kO_paths : pathsV kO.1 4 9 = ([(3, 2), (1, 1)], true) := by decide +kernel
theorem kO_cover : (coverV kO.1 4 9).2 = ([(2, 2), (1, 1)], true) := by decide +kernel
theorem kT1 : textV (3, 2) 2 = [48, 49] := by decide +kernel
theorem kT2 : textV (1, 1) 2 = [49, 42] := by decide +kernel
theorem kT3 : textV (2, 2) 2 = [42, 49] := by decide +kernel

section
variable {w : World} {p : Nat} {F : List Nat}
theorem kx_a (h : StoIs w p F (newS 20)) : Calls Try.prog 24 #[.pointer (some ⟨p, 0, none⟩), .int .i64 0] w (fun e w' => e = .returned (.int .i64 2) ∧ Turned w p F qA.1 w') := by
  have M := var_call h (newS_wf (by omega) (by omega)) 0
  unfold Tells at M
  rw [show (varV (newS 20) 0).2 = 2 from qA_is] at M
  exact M
theorem kx_b (h : StoIs w p F qA.1) : Calls Try.prog 24 #[.pointer (some ⟨p, 0, none⟩), .int .i64 1] w (fun e w' => e = .returned (.int .i64 3) ∧ Turned w p F qB.1 w') := by
  have M := var_call h qA_ok.wf 1
  unfold Tells at M
  rw [show (varV qA.1 1).2 = 3 from qB_is] at M
  exact M
theorem kx_o (h : StoIs w p F qB.1) : Calls Try.prog 28 #[.pointer (some ⟨p, 0, none⟩), .int .i64 2, .int .i64 3] w (fun e w' => e = .returned (.int .i64 4) ∧ Turned w p F kO.1 w') := by
  have M := or_call h qB_ok.wf 2 3
  unfold Tells at M
  rw [show (orV qB.1 2 3).2 = 4 from kO_is] at M
  exact M
theorem kx_p (h : StoIs w p F kO.1) : Calls Try.prog 54 #[.pointer (some ⟨p, 0, none⟩), .int .i64 4, .int .i64 9] w (fun e w' => ∃ sv G, e = .returned (.tuple #[sv, .bool true]) ∧
    RowIs w' sv G 85 2 2 (cus [(3, 2), (1, 1)]) ∧ (∀ g, G = some g → w.heap.size ≤ g) ∧ Below w.heap.size w w') := by
  have M := cpaths_live h kO_gs.1 4 9
  rw [kO_paths] at M
  exact M
theorem kx_c (h : StoIs w p F kO.1) : Calls Try.prog 55 #[.pointer (some ⟨p, 0, none⟩), .int .i64 4, .int .i64 9] w (fun e w' => ∃ sv G F', e = .returned (.tuple #[sv, .bool true]) ∧
    RowIs w' sv G 85 2 2 (cus [(2, 2), (1, 1)]) ∧ StoStep w w' F F') := by
  refine (ccover_live h kO_gs 4 9).mono ?_
  rintro e w' ⟨sv, G, F', h1, h2, h3, h4, h5, h6⟩
  rw [kO_cover] at h1 h2
  exact ⟨sv, G, F', h1, h2, h6⟩
end
theorem kx_t1 (w : World) : Calls Try.prog 68 #[.agg #[.int .u64 3, .int .u64 2], .int .i64 2] w (Pure (.string ⟨#[48, 49]⟩) w) := by
  have M := ctext_any (c := (3, 2)) ⟨by decide, by decide⟩ 2 w
  rw [kT1] at M
  exact M
theorem kx_t2 (w : World) : Calls Try.prog 68 #[.agg #[.int .u64 1, .int .u64 1], .int .i64 2] w (Pure (.string ⟨#[49, 42]⟩) w) := by
  have M := ctext_any (c := (1, 1)) ⟨by decide, by decide⟩ 2 w
  rw [kT2] at M
  exact M
theorem kx_t3 (w : World) : Calls Try.prog 68 #[.agg #[.int .u64 2, .int .u64 2], .int .i64 2] w (Pure (.string ⟨#[42, 49]⟩) w) := by
  have M := ctext_any (c := (2, 2)) ⟨by decide, by decide⟩ 2 w
  rw [kT3] at M
  exact M
/-- A row of two cubes. -/
theorem two_cubes {w : World} {sv : Value} {G : Option Nat} {a b : Cu} (h : RowIs w sv G 85 2 2 (cus [a, b])) :
    ∃ g cap, sv = .slice (some ⟨g, 0, none⟩) 2 cap ∧ G = some g ∧ g < w.heap.size ∧ w.cell? ⟨g, 0, none⟩ = some (.int .u64 a.1) ∧ w.cell? ⟨g, 1, none⟩ = some (.int .u64 a.2) ∧ w.cell? ⟨g, 2, none⟩ = some (.int .u64 b.1) ∧ w.cell? ⟨g, 3, none⟩ = some (.int .u64 b.2) := by
  obtain ⟨g, cap, e1, rfl, c0, -⟩ := h.at (i := 0) (j := 0) (by omega) (by omega)
  obtain ⟨g1, cap1, -, e2, c1, -⟩ := h.at (i := 0) (j := 1) (by omega) (by omega)
  obtain ⟨g2, cap2, -, e3, c2, -⟩ := h.at (i := 1) (j := 0) (by omega) (by omega)
  obtain ⟨g3, cap3, -, e4, c3, -⟩ := h.at (i := 1) (j := 1) (by omega) (by omega)
  cases e2; cases e3; cases e4
  exact ⟨g, cap, e1, rfl, h.lt g rfl, c0, c1, c2, c3⟩

set_option maxHeartbeats 8000000 in
set_option maxRecDepth 4000 in
theorem known32 (w : World) : Calls Try.prog 60 #[] w (Pure (.bool true) w) := by
  go_enter Try.func60, Try.ntmps60
  go_upto_region 7 with (first
    | ((with_reducible refine (new_call 20 (by omega) (by omega) _).mono ?_); rintro e w1 ⟨p, F, rfl, hS, hb, hF⟩)
    | ((with_reducible refine (kx_a hS).mono ?_); rintro e w2 ⟨rfl, F1, hS1, st1⟩)
    | ((with_reducible refine (kx_b hS1).mono ?_); rintro e w3 ⟨rfl, F2, hS2, st2⟩)
    | ((with_reducible refine (kx_o hS2).mono ?_); rintro e w4 ⟨rfl, F3, hS3, st3⟩)
    | ((with_reducible refine (kx_p hS3).mono ?_); rintro e w5 ⟨sv1, G1, rfl, r1, g1, b5⟩; have hS5 := hS3.below b5)
    | ((with_reducible refine (kx_c hS5).mono ?_); rintro e w6 ⟨sv2, G2, F6, rfl, r2, st6⟩))
  have r1' := r1.keep (fun g hg => st6.block g (r1.lt g hg) (fun hm => by have := g1 g hg; have := hS3.lt g hm; omega))
  obtain ⟨g, cap, rfl, -, zg, c0, c1, c2, c3⟩ := two_cubes r1'
  obtain ⟨g', cap', rfl, -, zg', d0, d1, d2, d3⟩ := two_cubes r2
  have stA := st1.trans (st2.trans st3)
  have hB := hb.trans ((stA.trans ((StoStep.of_below b5).trans st6)).below hF hb.size)
  have hsB := hB.size
  have t1 := kx_t1
  have t2 := kx_t2
  have t3 := kx_t3
  clear r1 r1' r2 st1 st2 st3 st6 stA hS hS1 hS2 hS3 hS5 hb hF b5 g1
  refine wp_region_doc (fun F' hF => ?_)
  have HF := hid hF
  clear hF
  iterate 13 (refine doc_val rfl (by first | (go_simp; done) | (go_simp; exact ⟨rfl, rfl⟩) | (go_simp; with_reducible rfl)) ?_; simp only [Act.put, List.setIfInBounds_toArray, List.set_cons_zero, List.set_cons_succ])
  refine doc_call rfl (by first | (go_simp; done) | (go_simp; exact ⟨rfl, rfl⟩) | (go_simp; with_reducible rfl)) ((t1 _).mono ?_)
  rintro e W1 ⟨rfl, m1, d1', rfl⟩
  refine ⟨_, rfl, ?_⟩
  simp only [Act.put, List.setIfInBounds_toArray, List.set_cons_zero, List.set_cons_succ]
  iterate 6 (refine doc_val rfl (by first | (go_simp; done) | (go_simp; exact ⟨rfl, rfl⟩) | (go_simp; with_reducible rfl)) ?_; simp only [Act.put, List.setIfInBounds_toArray, List.set_cons_zero, List.set_cons_succ])
  refine doc_call rfl (by first | (go_simp; done) | (go_simp; exact ⟨rfl, rfl⟩) | (go_simp; with_reducible rfl)) ((t2 _).mono ?_)
  rintro e W1 ⟨rfl, m2, d2', rfl⟩
  refine ⟨_, rfl, ?_⟩
  simp only [Act.put, List.setIfInBounds_toArray, List.set_cons_zero, List.set_cons_succ]
  iterate 11 (refine doc_val rfl (by first | (go_simp; done) | (go_simp; exact ⟨rfl, rfl⟩) | (go_simp; with_reducible rfl)) ?_; simp only [Act.put, List.setIfInBounds_toArray, List.set_cons_zero, List.set_cons_succ])
  refine doc_call rfl (by first | (go_simp; done) | (go_simp; exact ⟨rfl, rfl⟩) | (go_simp; with_reducible rfl)) ((t3 _).mono ?_)
  rintro e W1 ⟨rfl, m3, d3', rfl⟩
  refine ⟨_, rfl, ?_⟩
  simp only [Act.put, List.setIfInBounds_toArray, List.set_cons_zero, List.set_cons_succ]
  iterate 6 (refine doc_val rfl (by first | (go_simp; done) | (go_simp; exact ⟨rfl, rfl⟩) | (go_simp; with_reducible rfl)) ?_; simp only [Act.put, List.setIfInBounds_toArray, List.set_cons_zero, List.set_cons_succ])
  refine doc_call rfl (by first | (go_simp; done) | (go_simp; exact ⟨rfl, rfl⟩) | (go_simp; with_reducible rfl)) ((t2 _).mono ?_)
  rintro e W1 ⟨rfl, m4, d4', rfl⟩
  refine ⟨_, rfl, ?_⟩
  simp only [Act.put, List.setIfInBounds_toArray, List.set_cons_zero, List.set_cons_succ]
  iterate 3 (refine doc_val rfl (by first | (go_simp; done) | (go_simp; exact ⟨rfl, rfl⟩) | (go_simp; with_reducible rfl)) ?_; simp only [Act.put, List.setIfInBounds_toArray, List.set_cons_zero, List.set_cons_succ])
  refine doc_end (HF.out _ _ ?_)
  clear HF F'
  go_wp2
  go_returns
  exact Pure.of rfl (by (repeat' (first | (with_reducible exact hB) | (with_reducible exact Below.refl _ _) | (with_reducible refine Below.ext_mk ?_ ?_ _ _) | (with_reducible refine Below.alloc ?_ ?_ _) | (with_reducible refine Below.drew ?_) | (with_reducible refine Below.setCell ?_ ?_ _) | go_size)))
end Go.Proofs.Ytboekafmplomhaa
set_option linter.unusedVariables false
set_option linter.unusedSimpArgs false
namespace Go.Proofs.Ytboekafmplomhaa
open Go.RowKit

theorem rbitc_any {n v : Nat} (hn : n < 18446744073709551616) (hv : v ≤ 64) (w : World) : Calls Try.prog 120 #[.int .u64 n, .int .i64 v] w (Pure (.bool (Nat.testBit n v)) w) := by
  go_enter Try.func120, Try.ntmps120
  go_wp2
  go_loopw [0, 5] (fun x i wr => ∃ j : Nat, j ≤ v ∧ x = .int .u64 ((n / 2 ^ j : Nat) : Int) ∧ i = .int .i64 j ∧ Below w.heap.size w wr) (fun _ i _ => v - (intOf i).toNat)
  case atStart => exact ⟨0, by omega, by simp, rfl, Below.refl _ _⟩
  case round =>
    obtain ⟨j, hj, rfl, rfl, hb⟩ := hrel
    have hm : n / 2 ^ j < 18446744073709551616 := Nat.lt_of_le_of_lt (Nat.div_le_self _ _) hn
    have hd : n / 2 ^ (j + 1) = n / 2 ^ j / 2 := by rw [Nat.pow_succ, Nat.div_div_eq_div_mul]
    have ht : j = v → Nat.testBit n v = decide (n / 2 ^ j % 2 = 1) := fun e => by rw [e, Nat.testBit_eq_decide_div_mod_eq]
    generalize n / 2 ^ j = m at *
    by_cases hlt : j < v
    · have hj1 : (j : Int) < (v : Int) := by omega
      clear ht
      have HD := hid hd
      clear hd
      go_wp2
      go_roundw
      case rel => 
        refine ⟨j + 1, by omega, ?_, by go_num, hb⟩
        rw [HD.out]
        exact congrArg (Value.int IntKind.u64) (by omega)
      case measure => first | (simp [intOf]; done) | (simp [intOf]; omega)
    · have hj1 : ¬ (j : Int) < (v : Int) := by omega
      have HT := hid (ht (by omega))
      clear ht hd
      go_wp2
      go_returns
      refine Pure.of ?_ hb
      rw [HT.out]
      refine congrArg Value.bool ?_
      have h : ((m : Int) % 2) = ((m % 2 : Nat) : Int) := by omega
      show (((m : Int) % 2) == 1) = _
      rw [h]
      rcases (show m % 2 = 0 ∨ m % 2 = 1 by omega) with e | e <;> rw [e] <;> rfl

theorem mayC_iff {c : Cu} (hc : CuOk c) : mayC c = true ↔ ∀ v, v < 64 → Nat.testBit c.2 v = true → Nat.testBit c.1 v = true := by
  unfold mayC
  rw [decide_eq_true_iff]
  have hb : ∀ v, Nat.testBit (c.2 &&& (18446744073709551615 - c.1)) v = (Nat.testBit c.2 v && (decide (v < 64) && !Nat.testBit c.1 v)) := fun v => by
    rw [Nat.testBit_and]
    have := Nat.testBit_two_pow_sub_succ (x := c.1) (n := 64) (by simpa using hc.1) v
    rw [show 2 ^ 64 - (c.1 + 1) = 18446744073709551615 - c.1 by omega] at this
    rw [this]
  constructor
  · intro h v hv h2
    have := hb v
    rw [h, h2] at this
    simp [hv] at this
    exact this
  · intro h
    apply Nat.eq_of_testBit_eq
    intro v
    rw [hb]
    simp only [Nat.zero_testBit]
    by_cases hv : v < 64
    · by_cases h2 : Nat.testBit c.2 v = true
      · simp [h v hv h2]
      · simp [h2]
    · simp [hv]

set_option maxHeartbeats 1000000 in
theorem rmayc_any {c : Cu} (hc : CuOk c) (w : World) : Calls Try.prog 67 #[cv c] w (Pure (.bool (mayC c)) w) := by
  go_enter Try.func67, Try.ntmps67
  go_upto_region 1 with (fail)
  refine wp_gen (fun V hV => ?_)
  have hbV : Below w.heap.size w V := by rw [hV]; (repeat' (first | (with_reducible exact Below.refl _ _) | (with_reducible refine Below.ext_mk ?_ ?_ _ _) | (with_reducible refine Below.alloc ?_ ?_ _) | (with_reducible refine Below.drew ?_) | (with_reducible refine Below.setCell ?_ ?_ _) | go_size))
  have bV : Blk V w.heap.size 85 [.int .u64 c.1, .int .u64 c.2] := by rw [hV]; exact Blk.new w 85 [.int .u64 c.1, .int .u64 c.2]
  clear hV
  have hsV := hbV.size
  go_wp2
  go_loopw [3] (fun i wr => ∃ k : Nat, k ≤ 64 ∧ i = .int .i64 k ∧ Below V.heap.size V wr ∧ (∀ v, v < k → Nat.testBit c.2 v = true → Nat.testBit c.1 v = true)) (fun i _ => 64 - (intOf i).toNat)
  case atStart => exact ⟨0, by omega, rfl, Below.refl _ _, fun v hv => by omega⟩
  case round =>
    obtain ⟨k, hk, rfl, hb, hal⟩ := hrel
    have hbs := hb.size
    have HA := hid hal
    have hbw := hbV.trans (hb.mono hbV.size)
    clear hal
    by_cases hlt : k < 64
    · have hk1 : (k : Int) < 64 := by omega
      have B1 := fun W => rbitc_any (v := k) hc.1 (by omega) W
      have B2 := fun W => rbitc_any (v := k) hc.2 (by omega) W
      have bz := bV.below hb
      have c0 := bz.cell 0
      have c1 := bz.cell 1
      have zc := bz.lt
      simp only [List.getElem?_cons_zero, List.getElem?_cons_succ] at c0 c1
      by_cases t2 : Nat.testBit c.2 k = true
      · rw [t2] at B2
        by_cases t1 : Nat.testBit c.1 k = true
        · rw [t1] at B1
          have HT := hid t1
          clear t1 t2
          go_upto_region 4 with (fail)
          refine wp_region_doc (fun F hF => ?_)
          have HF := hid hF
          clear hF
          iterate 3 (refine doc_val rfl (by first | (go_simp; done) | (go_simp; exact ⟨rfl, rfl⟩) | (go_simp; with_reducible rfl)) ?_; simp only [Act.put, List.setIfInBounds_toArray, List.set_cons_zero, List.set_cons_succ])
          refine doc_call rfl (by first | (go_simp; done) | (go_simp; exact ⟨rfl, rfl⟩) | (go_simp; with_reducible rfl)) (Calls.mono (B2 _) ?_)
          rintro _ _ ⟨rfl, mz, dz, rfl⟩
          refine ⟨_, rfl, ?_⟩
          simp only [Act.put, List.setIfInBounds_toArray, List.set_cons_zero, List.set_cons_succ]
          iterate 4 (refine doc_val rfl (by first | (go_simp; done) | (go_simp; exact ⟨rfl, rfl⟩) | (go_simp; with_reducible rfl)) ?_; simp only [Act.put, List.setIfInBounds_toArray, List.set_cons_zero, List.set_cons_succ])
          refine doc_call rfl (by first | (go_simp; done) | (go_simp; exact ⟨rfl, rfl⟩) | (go_simp; with_reducible rfl)) (Calls.mono (B1 _) ?_)
          rintro _ _ ⟨rfl, mz, dz, rfl⟩
          refine ⟨_, rfl, ?_⟩
          simp only [Act.put, List.setIfInBounds_toArray, List.set_cons_zero, List.set_cons_succ]
          iterate 2 (refine doc_val rfl (by first | (go_simp; done) | (go_simp; exact ⟨rfl, rfl⟩) | (go_simp; with_reducible rfl)) ?_; simp only [Act.put, List.setIfInBounds_toArray, List.set_cons_zero, List.set_cons_succ])
          refine doc_end (HF.out _ _ ?_)
          clear HF F
          go_wp2
          go_roundw
          case rel =>
            refine ⟨k + 1, by omega, by go_num, by (repeat' (first | (with_reducible exact hb) | (with_reducible exact Below.refl _ _) | (with_reducible refine Below.ext_mk ?_ ?_ _ _) | (with_reducible refine Below.alloc ?_ ?_ _) | (with_reducible refine Below.drew ?_) | (with_reducible refine Below.setCell ?_ ?_ _) | go_size)), fun v hv h2 => ?_⟩
            rcases Nat.lt_or_ge v k with h3 | h3
            · exact HA.out v h3 h2
            · rw [show v = k by omega]; exact HT.out
          case measure => first | (simp [intOf]; done) | (simp [intOf]; omega)
        · have t1' : Nat.testBit c.1 k = false := by simpa using t1
          rw [t1'] at B1
          have HM : mayC c = false := by
            cases hm : mayC c with
            | false => rfl
            | true => exact absurd ((mayC_iff hc).1 hm k hlt t2) t1
          have HM2 := hid HM
          clear t1 t2 t1' HM
          go_upto_region 4 with (fail)
          refine wp_region_doc (fun F hF => ?_)
          have HF := hid hF
          clear hF
          iterate 3 (refine doc_val rfl (by first | (go_simp; done) | (go_simp; exact ⟨rfl, rfl⟩) | (go_simp; with_reducible rfl)) ?_; simp only [Act.put, List.setIfInBounds_toArray, List.set_cons_zero, List.set_cons_succ])
          refine doc_call rfl (by first | (go_simp; done) | (go_simp; exact ⟨rfl, rfl⟩) | (go_simp; with_reducible rfl)) (Calls.mono (B2 _) ?_)
          rintro _ _ ⟨rfl, mz, dz, rfl⟩
          refine ⟨_, rfl, ?_⟩
          simp only [Act.put, List.setIfInBounds_toArray, List.set_cons_zero, List.set_cons_succ]
          iterate 4 (refine doc_val rfl (by first | (go_simp; done) | (go_simp; exact ⟨rfl, rfl⟩) | (go_simp; with_reducible rfl)) ?_; simp only [Act.put, List.setIfInBounds_toArray, List.set_cons_zero, List.set_cons_succ])
          refine doc_call rfl (by first | (go_simp; done) | (go_simp; exact ⟨rfl, rfl⟩) | (go_simp; with_reducible rfl)) (Calls.mono (B1 _) ?_)
          rintro _ _ ⟨rfl, mz, dz, rfl⟩
          refine ⟨_, rfl, ?_⟩
          simp only [Act.put, List.setIfInBounds_toArray, List.set_cons_zero, List.set_cons_succ]
          iterate 2 (refine doc_val rfl (by first | (go_simp; done) | (go_simp; exact ⟨rfl, rfl⟩) | (go_simp; with_reducible rfl)) ?_; simp only [Act.put, List.setIfInBounds_toArray, List.set_cons_zero, List.set_cons_succ])
          refine doc_end (HF.out _ _ ?_)
          clear HF F
          go_wp2
          go_returns
          exact Pure.of (by rw [HM2.out]; rfl) (by (repeat' (first | (with_reducible exact hbw) | (with_reducible exact Below.refl _ _) | (with_reducible refine Below.ext_mk ?_ ?_ _ _) | (with_reducible refine Below.alloc ?_ ?_ _) | (with_reducible refine Below.drew ?_) | (with_reducible refine Below.setCell ?_ ?_ _) | go_size)))
      · have t2' : Nat.testBit c.2 k = false := by simpa using t2
        rw [t2'] at B2
        have HT := hid t2
        clear t2 t2'
        go_upto_region 4 with (fail)
        refine wp_region_doc (fun F hF => ?_)
        have HF := hid hF
        clear hF
        iterate 3 (refine doc_val rfl (by first | (go_simp; done) | (go_simp; exact ⟨rfl, rfl⟩) | (go_simp; with_reducible rfl)) ?_; simp only [Act.put, List.setIfInBounds_toArray, List.set_cons_zero, List.set_cons_succ])
        refine doc_call rfl (by first | (go_simp; done) | (go_simp; exact ⟨rfl, rfl⟩) | (go_simp; with_reducible rfl)) (Calls.mono (B2 _) ?_)
        rintro _ _ ⟨rfl, mz, dz, rfl⟩
        refine ⟨_, rfl, ?_⟩
        simp only [Act.put, List.setIfInBounds_toArray, List.set_cons_zero, List.set_cons_succ]
        iterate 1 (refine doc_val rfl (by first | (go_simp; done) | (go_simp; exact ⟨rfl, rfl⟩) | (go_simp; with_reducible rfl)) ?_; simp only [Act.put, List.setIfInBounds_toArray, List.set_cons_zero, List.set_cons_succ])
        iterate 5 (refine doc_not rfl ?_; simp only [Act.put, List.setIfInBounds_toArray, List.set_cons_zero, List.set_cons_succ])
        iterate 1 (refine doc_val rfl (by first | (go_simp; done) | (go_simp; exact ⟨rfl, rfl⟩) | (go_simp; with_reducible rfl)) ?_; simp only [Act.put, List.setIfInBounds_toArray, List.set_cons_zero, List.set_cons_succ])
        refine doc_end (HF.out _ _ ?_)
        clear HF F
        go_wp2
        go_roundw
        case rel =>
          refine ⟨k + 1, by omega, by go_num, by (repeat' (first | (with_reducible exact hb) | (with_reducible exact Below.refl _ _) | (with_reducible refine Below.ext_mk ?_ ?_ _ _) | (with_reducible refine Below.alloc ?_ ?_ _) | (with_reducible refine Below.drew ?_) | (with_reducible refine Below.setCell ?_ ?_ _) | go_size)), fun v hv h2 => ?_⟩
          rcases Nat.lt_or_ge v k with h3 | h3
          · exact HA.out v h3 h2
          · rw [show v = k by omega] at h2; exact absurd h2 HT.out
        case measure => first | (simp [intOf]; done) | (simp [intOf]; omega)
    · obtain rfl : k = 64 := by omega
      have HM := hid ((mayC_iff hc).2 HA.out)
      clear HA
      go_wp2
      go_returns
      exact Pure.of (by rw [HM.out]; rfl) (hbV.trans (hb.mono hbV.size))

set_option maxHeartbeats 1000000 in
theorem rtextc_any {c : Cu} (hc : CuOk c) (n : Int) (w : World) : Calls Try.prog 69 #[cv c, .int .i64 n] w (Pure (.string ⟨(textV c n).toArray⟩) w) := by
  have M := rmayc_any hc
  go_enter Try.func69, Try.ntmps69
  go_upto_region 1 with (fail)
  refine wp_gen (fun V hV => ?_)
  have hbV : Below w.heap.size w V := by rw [hV]; (repeat' (first | (with_reducible exact Below.refl _ _) | (with_reducible refine Below.ext_mk ?_ ?_ _ _) | (with_reducible refine Below.alloc ?_ ?_ _) | (with_reducible refine Below.drew ?_) | (with_reducible refine Below.setCell ?_ ?_ _) | go_size))
  have bV : Blk V w.heap.size 85 [.int .u64 c.1, .int .u64 c.2] := by rw [hV]; exact Blk.new w 85 [.int .u64 c.1, .int .u64 c.2]
  clear hV
  have hsV := hbV.size
  have v0 := bV.cell 0
  have v1 := bV.cell 1
  have vz := bV.lt
  simp only [List.getElem?_cons_zero, List.getElem?_cons_succ] at v0 v1
  by_cases hm : mayC c = true
  · rw [hm] at M
    have HT : Hid (textV c n = (List.range (cntV n)).map (charL c)) := hid (by unfold textV; rw [if_pos hm])
    clear hm
    by_cases h64 : 64 < n
    · have hd : decide (64 < n) = true := by simpa using h64
      have H64 := hid h64
      clear h64
      go_upto_region 6 with (go_at_call 67; refine (M _).mono ?_; rintro e w' ⟨rfl, m1, d1, rfl⟩)
      have h64 := H64.out
      clear hd H64
      have H64 := hid h64
      clear h64
      go_wp2
      go_loopw [5, 6] (fun x i wr => ∃ k : Nat, k ≤ cntV n ∧ x = .string ⟨((List.range k).map (charL c)).toArray⟩ ∧ i = .int .i64 k ∧ Below V.heap.size V wr) (fun _ i _ => cntV n - (intOf i).toNat)
      case atStart => exact ⟨0, by omega, rfl, rfl, by (repeat' (first | (with_reducible exact Below.refl _ _) | (with_reducible refine Below.ext_mk ?_ ?_ _ _) | (with_reducible refine Below.alloc ?_ ?_ _) | (with_reducible refine Below.drew ?_) | (with_reducible refine Below.setCell ?_ ?_ _) | go_size))⟩
      case round =>
        obtain ⟨k, hk, rfl, rfl, hb⟩ := hrel
        have hbs := hb.size
        have hbw := hbV.trans (hb.mono hbV.size)
        by_cases hlt : k < cntV n
        · have hk1 : (k : Int) < 64 := by have := H64.out; unfold cntV at hlt; omega
          have hk64 : k < 64 := by unfold cntV at hlt; omega
          have B1 := fun W => rbitc_any (v := k) hc.1 (by omega) W
          have B2 := fun W => rbitc_any (v := k) hc.2 (by omega) W
          have bz := bV.below hb
          have c0 := bz.cell 0
          have c1 := bz.cell 1
          have zc := bz.lt
          simp only [List.getElem?_cons_zero, List.getElem?_cons_succ] at c0 c1
          clear v0 v1 vz
          by_cases t1 : Nat.testBit c.1 k = true
          · rw [t1] at B1
            by_cases t2 : Nat.testBit c.2 k = true
            · rw [t2] at B2
              have s0 : (⟨((List.range k).map (charL c)).toArray⟩ : ByteArray) ++ ⟨#[49]⟩ = ⟨((List.range (k + 1)).map (charL c)).toArray⟩ := by
                have ec : charL c k = 49 := by unfold charL; simp [t1, t2]
                rw [range_snoc, ec]
                apply ByteArray.ext
                simp
              clear t1 t2
              go_wp2_with (first | ((with_reducible refine (B1 _).mono ?_); rintro e w' ⟨rfl, m2, d2, rfl⟩) | ((with_reducible refine (B2 _).mono ?_); rintro e w' ⟨rfl, m3, d3, rfl⟩))
              go_roundw
              case rel => exact ⟨k + 1, by omega, by rw [range_snoc], by go_num, by (repeat' (first | (with_reducible exact hb) | (with_reducible exact Below.refl _ _) | (with_reducible refine Below.ext_mk ?_ ?_ _ _) | (with_reducible refine Below.alloc ?_ ?_ _) | (with_reducible refine Below.drew ?_) | (with_reducible refine Below.setCell ?_ ?_ _) | go_size))⟩
              case measure => first | (simp [intOf]; done) | (simp [intOf]; omega)
            · have t2' : Nat.testBit c.2 k = false := by simpa using t2
              rw [t2'] at B2
              have s0 : (⟨((List.range k).map (charL c)).toArray⟩ : ByteArray) ++ ⟨#[48]⟩ = ⟨((List.range (k + 1)).map (charL c)).toArray⟩ := by
                have ec : charL c k = 48 := by unfold charL; simp [t1, t2]
                rw [range_snoc, ec]
                apply ByteArray.ext
                simp
              clear t1 t2 t2'
              go_wp2_with (first | ((with_reducible refine (B1 _).mono ?_); rintro e w' ⟨rfl, m2, d2, rfl⟩) | ((with_reducible refine (B2 _).mono ?_); rintro e w' ⟨rfl, m3, d3, rfl⟩))
              go_roundw
              case rel => exact ⟨k + 1, by omega, by rw [range_snoc], by go_num, by (repeat' (first | (with_reducible exact hb) | (with_reducible exact Below.refl _ _) | (with_reducible refine Below.ext_mk ?_ ?_ _ _) | (with_reducible refine Below.alloc ?_ ?_ _) | (with_reducible refine Below.drew ?_) | (with_reducible refine Below.setCell ?_ ?_ _) | go_size))⟩
              case measure => first | (simp [intOf]; done) | (simp [intOf]; omega)
          · have t1' : Nat.testBit c.1 k = false := by simpa using t1
            rw [t1'] at B1
            have s0 : (⟨((List.range k).map (charL c)).toArray⟩ : ByteArray) ++ ⟨#[42]⟩ = ⟨((List.range (k + 1)).map (charL c)).toArray⟩ := by
              have ec : charL c k = 42 := by unfold charL; simp [t1]
              rw [range_snoc, ec]
              apply ByteArray.ext
              simp
            clear t1 t1'
            go_wp2_with (first | ((with_reducible refine (B1 _).mono ?_); rintro e w' ⟨rfl, m2, d2, rfl⟩))
            go_roundw
            case rel => exact ⟨k + 1, by omega, by rw [range_snoc], by go_num, by (repeat' (first | (with_reducible exact hb) | (with_reducible exact Below.refl _ _) | (with_reducible refine Below.ext_mk ?_ ?_ _ _) | (with_reducible refine Below.alloc ?_ ?_ _) | (with_reducible refine Below.drew ?_) | (with_reducible refine Below.setCell ?_ ?_ _) | go_size))⟩
            case measure => first | (simp [intOf]; done) | (simp [intOf]; omega)
        · have hk1 : ¬ (k : Int) < 64 := by have := H64.out; unfold cntV at hlt hk; omega
          have ek : k = cntV n := by omega
          have HK := hid ek
          clear ek v0 v1 vz
          go_wp2
          go_returns
          exact Pure.of (by rw [HT.out, ← HK.out]; rfl) hbw
    · have hd : decide (64 < n) = false := by simpa using h64
      have H64 := hid h64
      clear h64
      go_upto_region 6 with (go_at_call 67; refine (M _).mono ?_; rintro e w' ⟨rfl, m1, d1, rfl⟩)
      have h64 := H64.out
      clear hd H64
      have H64 := hid h64
      clear h64
      go_wp2
      go_loopw [5, 6] (fun x i wr => ∃ k : Nat, k ≤ cntV n ∧ x = .string ⟨((List.range k).map (charL c)).toArray⟩ ∧ i = .int .i64 k ∧ Below V.heap.size V wr) (fun _ i _ => cntV n - (intOf i).toNat)
      case atStart => exact ⟨0, by omega, rfl, rfl, by (repeat' (first | (with_reducible exact Below.refl _ _) | (with_reducible refine Below.ext_mk ?_ ?_ _ _) | (with_reducible refine Below.alloc ?_ ?_ _) | (with_reducible refine Below.drew ?_) | (with_reducible refine Below.setCell ?_ ?_ _) | go_size))⟩
      case round =>
        obtain ⟨k, hk, rfl, rfl, hb⟩ := hrel
        have hbs := hb.size
        have hbw := hbV.trans (hb.mono hbV.size)
        by_cases hlt : k < cntV n
        · have hk1 : (k : Int) < n := by have := H64.out; unfold cntV at hlt; omega
          have hk64 : k < 64 := by unfold cntV at hlt; omega
          have B1 := fun W => rbitc_any (v := k) hc.1 (by omega) W
          have B2 := fun W => rbitc_any (v := k) hc.2 (by omega) W
          have bz := bV.below hb
          have c0 := bz.cell 0
          have c1 := bz.cell 1
          have zc := bz.lt
          simp only [List.getElem?_cons_zero, List.getElem?_cons_succ] at c0 c1
          clear v0 v1 vz
          by_cases t1 : Nat.testBit c.1 k = true
          · rw [t1] at B1
            by_cases t2 : Nat.testBit c.2 k = true
            · rw [t2] at B2
              have s0 : (⟨((List.range k).map (charL c)).toArray⟩ : ByteArray) ++ ⟨#[49]⟩ = ⟨((List.range (k + 1)).map (charL c)).toArray⟩ := by
                have ec : charL c k = 49 := by unfold charL; simp [t1, t2]
                rw [range_snoc, ec]
                apply ByteArray.ext
                simp
              clear t1 t2
              go_wp2_with (first | ((with_reducible refine (B1 _).mono ?_); rintro e w' ⟨rfl, m2, d2, rfl⟩) | ((with_reducible refine (B2 _).mono ?_); rintro e w' ⟨rfl, m3, d3, rfl⟩))
              go_roundw
              case rel => exact ⟨k + 1, by omega, by rw [range_snoc], by go_num, by (repeat' (first | (with_reducible exact hb) | (with_reducible exact Below.refl _ _) | (with_reducible refine Below.ext_mk ?_ ?_ _ _) | (with_reducible refine Below.alloc ?_ ?_ _) | (with_reducible refine Below.drew ?_) | (with_reducible refine Below.setCell ?_ ?_ _) | go_size))⟩
              case measure => first | (simp [intOf]; done) | (simp [intOf]; omega)
            · have t2' : Nat.testBit c.2 k = false := by simpa using t2
              rw [t2'] at B2
              have s0 : (⟨((List.range k).map (charL c)).toArray⟩ : ByteArray) ++ ⟨#[48]⟩ = ⟨((List.range (k + 1)).map (charL c)).toArray⟩ := by
                have ec : charL c k = 48 := by unfold charL; simp [t1, t2]
                rw [range_snoc, ec]
                apply ByteArray.ext
                simp
              clear t1 t2 t2'
              go_wp2_with (first | ((with_reducible refine (B1 _).mono ?_); rintro e w' ⟨rfl, m2, d2, rfl⟩) | ((with_reducible refine (B2 _).mono ?_); rintro e w' ⟨rfl, m3, d3, rfl⟩))
              go_roundw
              case rel => exact ⟨k + 1, by omega, by rw [range_snoc], by go_num, by (repeat' (first | (with_reducible exact hb) | (with_reducible exact Below.refl _ _) | (with_reducible refine Below.ext_mk ?_ ?_ _ _) | (with_reducible refine Below.alloc ?_ ?_ _) | (with_reducible refine Below.drew ?_) | (with_reducible refine Below.setCell ?_ ?_ _) | go_size))⟩
              case measure => first | (simp [intOf]; done) | (simp [intOf]; omega)
          · have t1' : Nat.testBit c.1 k = false := by simpa using t1
            rw [t1'] at B1
            have s0 : (⟨((List.range k).map (charL c)).toArray⟩ : ByteArray) ++ ⟨#[42]⟩ = ⟨((List.range (k + 1)).map (charL c)).toArray⟩ := by
              have ec : charL c k = 42 := by unfold charL; simp [t1]
              rw [range_snoc, ec]
              apply ByteArray.ext
              simp
            clear t1 t1'
            go_wp2_with (first | ((with_reducible refine (B1 _).mono ?_); rintro e w' ⟨rfl, m2, d2, rfl⟩))
            go_roundw
            case rel => exact ⟨k + 1, by omega, by rw [range_snoc], by go_num, by (repeat' (first | (with_reducible exact hb) | (with_reducible exact Below.refl _ _) | (with_reducible refine Below.ext_mk ?_ ?_ _ _) | (with_reducible refine Below.alloc ?_ ?_ _) | (with_reducible refine Below.drew ?_) | (with_reducible refine Below.setCell ?_ ?_ _) | go_size))⟩
            case measure => first | (simp [intOf]; done) | (simp [intOf]; omega)
        · have hk1 : ¬ (k : Int) < n := by have := H64.out; unfold cntV at hlt hk; omega
          have ek : k = cntV n := by omega
          have HK := hid ek
          clear ek v0 v1 vz
          go_wp2
          go_returns
          exact Pure.of (by rw [HT.out, ← HK.out]; rfl) hbw
  · have hm' : mayC c = false := by simpa using hm
    rw [hm'] at M
    go_wp2_with (go_at_call 67; refine (M _).mono ?_; rintro e w' ⟨rfl, m1, d1, rfl⟩)
    go_returns
    exact Pure.of (by unfold textV; rw [if_neg hm]; rfl) (by (repeat' (first | (with_reducible exact hbV) | (with_reducible exact Below.refl _ _) | (with_reducible refine Below.ext_mk ?_ ?_ _ _) | (with_reducible refine Below.alloc ?_ ?_ _) | (with_reducible refine Below.drew ?_) | (with_reducible refine Below.setCell ?_ ?_ _) | go_size)))
end Go.Proofs.Ytboekafmplomhaa
set_option linter.unusedVariables false
set_option linter.unusedSimpArgs false
namespace Go.Proofs.Ytboekafmplomhaa
open Go.RowKit

theorem or_add {n v : Nat} (h : n < 2 ^ v) : setB n v = n + 2 ^ v := by
  have := Nat.two_pow_add_eq_or_of_lt h 1
  unfold setB
  rw [Nat.or_comm]
  rw [Nat.mul_one] at this
  omega
theorem wrap_nat {x : Nat} (h : x < 18446744073709551616) : IntKind.u64.wrap (x : Int) = (x : Int) := by
  unfold IntKind.wrap
  simp [IntKind.bits, IntKind.signed]
  omega
theorem bit_lt {n v : Nat} (h : n < 2 ^ v) : Nat.testBit n v = false := Nat.testBit_lt_two_pow h
theorem add_lt {n v : Nat} (h : n < 2 ^ v) (hv : v < 64) : n + 2 ^ v < 2 ^ (v + 1) := by rw [Nat.pow_succ]; omega
theorem pow64 {v : Nat} (hv : v ≤ 64) : (2 : Nat) ^ v ≤ 18446744073709551616 := by
  have : (2 : Nat) ^ v ≤ 2 ^ 64 := Nat.pow_le_pow_right (by omega) hv
  simpa using this

set_option maxHeartbeats 2000000 in
theorem rwithc_any {c : Cu} {v : Nat} (hv : v < 64) (hM : c.1 < 2 ^ v) (hV : c.2 < 2 ^ v) (sa : Nat) (has : sa < 2) (w : World) :
    Calls Try.prog 119 #[cv c, .int .i64 v, .int .i64 sa] w (Pure (cv (setB c.1 v, if sa = 1 then setB c.2 v else c.2)) w) := by
  obtain ⟨r2, hr⟩ : ∃ r, r = (if sa = 1 then setB c.2 v else c.2) := ⟨_, rfl⟩
  rw [← hr]
  have HR := hid hr
  clear hr
  have hp := pow_lt64 hv
  have hp2 := pow64 (show v + 1 ≤ 64 by omega)
  rw [Nat.pow_succ] at hp2
  have hc : CuOk c := ⟨by omega, by omega⟩
  have B1 := fun W => rbitc_any (v := v) hc.1 (by omega) W
  have B2 := fun W => rbitc_any (v := v) hc.2 (by omega) W
  rw [bit_lt hM] at B1
  rw [bit_lt hV] at B2
  have e1 : IntKind.u64.wrap ((c.1 : Int) + ((2 ^ v : Nat) : Int)) = ((setB c.1 v : Nat) : Int) := by
    rw [or_add hM]
    rw [show ((c.1 : Int) + ((2 ^ v : Nat) : Int)) = ((c.1 + 2 ^ v : Nat) : Int) by simp]
    exact wrap_nat (by omega)
  have e2 : IntKind.u64.wrap ((c.2 : Int) + ((2 ^ v : Nat) : Int)) = ((setB c.2 v : Nat) : Int) := by
    rw [or_add hV]
    rw [show ((c.2 : Int) + ((2 ^ v : Nat) : Int)) = ((c.2 + 2 ^ v : Nat) : Int) by simp]
    exact wrap_nat (by omega)
  go_enter Try.func119, Try.ntmps119
  go_upto_region 1 with (fail)
  refine wp_gen (fun V hVV => ?_)
  have hbV : Below w.heap.size w V := by rw [hVV]; (repeat' (first | (with_reducible exact Below.refl _ _) | (with_reducible refine Below.ext_mk ?_ ?_ _ _) | (with_reducible refine Below.alloc ?_ ?_ _) | (with_reducible refine Below.drew ?_) | (with_reducible refine Below.setCell ?_ ?_ _) | go_size))
  have bV : Blk V w.heap.size 85 [.int .u64 c.1, .int .u64 c.2] := by rw [hVV]; exact (Blk.new w 85 [.int .u64 c.1, .int .u64 c.2]).below (by (repeat' (first | (with_reducible exact Below.refl _ _) | (with_reducible refine Below.ext_mk ?_ ?_ _ _) | (with_reducible refine Below.alloc ?_ ?_ _) | (with_reducible refine Below.drew ?_) | (with_reducible refine Below.setCell ?_ ?_ _) | go_size)))
  have bR : Blk V (w.heap.size + 1) 85 [.int .u64 0, .int .u64 0] := by
    rw [hVV]
    have := Blk.new (w.alloc (.cells #[.int .u64 c.1, .int .u64 c.2] 85)) 85 [.int .u64 0, .int .u64 0]
    rw [World.size_alloc] at this
    exact this
  clear hVV
  have hsV := hbV.size
  go_wp2
  go_loopw [7, 8] (fun x i wr => ∃ j : Nat, j ≤ v ∧ x = .int .u64 ((2 ^ j : Nat) : Int) ∧ i = .int .i64 j ∧ Below V.heap.size V wr) (fun _ i _ => v - (intOf i).toNat)
  case atStart => exact ⟨0, by omega, by simp, rfl, Below.refl _ _⟩
  case round =>
    obtain ⟨j, hj, rfl, rfl, hb⟩ := hrel
    by_cases hlt : j < v
    · have hj1 : (j : Int) < (v : Int) := by omega
      have e3 : IntKind.u64.wrap (((2 ^ j : Nat) : Int) * 2) = ((2 ^ (j + 1) : Nat) : Int) := by
        rw [show (((2 ^ j : Nat) : Int) * 2) = ((2 ^ (j + 1) : Nat) : Int) by rw [Nat.pow_succ]; omega]
        exact wrap_nat (pow_lt64 (by omega))
      have E3 := hid e3
      clear e1 e2 e3
      have hm : (2 ^ j : Nat) ≤ 2 ^ v := Nat.pow_le_pow_right (by omega) (by omega)
      generalize hmm : (2 ^ j : Nat) = m at *
      clear hmm
      have e3 := E3.out
      generalize hmm : (2 ^ (j + 1) : Nat) = m' at *
      have HM := hid hmm
      clear hmm E3
      go_wp2
      go_roundw
      case rel => exact ⟨j + 1, by omega, by rw [HM.out], by go_num, hb⟩
      case measure => first | (simp [intOf]; done) | (simp [intOf]; omega)
    · obtain rfl : j = v := by omega
      have hj1 : ¬ (j : Int) < (j : Int) := by omega
      generalize hmm : (2 ^ j : Nat) = m at *
      clear hmm
      have bz := bV.below hb
      have br := bR.below hb
      have hbw := hbV.trans (hb.mono hbV.size)
      have hbs := hb.size
      have c0 := bz.cell 0
      have c1 := bz.cell 1
      have f0 := bz.free 0
      have f1 := bz.free 1
      have g0 := br.free 0
      have g1 := br.free 1
      have p0 := br.cell 0
      have p1 := br.cell 1
      simp only [List.getElem?_cons_zero, List.getElem?_cons_succ] at c0 c1 p0 p1
      have zc := bz.lt
      have zr := br.lt
      clear bV bR
      rcases (show sa = 0 ∨ sa = 1 by omega) with rfl | rfl
      · have e4 : r2 = c.2 := HR.out
        subst e4
        go_wp2_with (first | ((with_reducible refine (B1 _).mono ?_); rintro e w' ⟨rfl, m2, d2, rfl⟩) | ((with_reducible refine (B2 _).mono ?_); rintro e w' ⟨rfl, m3, d3, rfl⟩))
        refine body_gen (fun Z hZ => ?_)
        have bZ : Blk Z (w.heap.size + 1) 85 [.int .u64 (setB c.1 j : Nat), .int .u64 (c.2 : Nat)] := by rw [hZ]; exact (((br.far (b := w.heap.size) (by omega) 0 _).set_ 0 _).set_ 1 _).ext _ _
        have hbZ : Below w.heap.size w Z := by rw [hZ]; (repeat' (first | (with_reducible exact hbw) | (with_reducible exact Below.refl _ _) | (with_reducible refine Below.ext_mk ?_ ?_ _ _) | (with_reducible refine Below.alloc ?_ ?_ _) | (with_reducible refine Below.drew ?_) | (with_reducible refine Below.setCell ?_ ?_ _) | go_size))
        have u0 := bZ.cell 0
        have u1 := bZ.cell 1
        simp only [List.getElem?_cons_zero, List.getElem?_cons_succ] at u0 u1
        clear hZ
        refine bodyPost_ret (v := cv (setB c.1 j, c.2)) (by simp [results, Try.results119, go_sem, u0, u1]) rfl ?_
        exact Pure.of rfl hbZ
      · have e4 : r2 = setB c.2 j := HR.out
        subst e4
        go_wp2_with (first | ((with_reducible refine (B1 _).mono ?_); rintro e w' ⟨rfl, m2, d2, rfl⟩) | ((with_reducible refine (B2 _).mono ?_); rintro e w' ⟨rfl, m3, d3, rfl⟩))
        refine body_gen (fun Z hZ => ?_)
        have bZ : Blk Z (w.heap.size + 1) 85 [.int .u64 (setB c.1 j : Nat), .int .u64 (setB c.2 j : Nat)] := by rw [hZ]; exact ((((br.far (b := w.heap.size) (by omega) 0 _).far (b := w.heap.size) (by omega) 1 _).set_ 0 _).set_ 1 _).ext _ _
        have hbZ : Below w.heap.size w Z := by rw [hZ]; (repeat' (first | (with_reducible exact hbw) | (with_reducible exact Below.refl _ _) | (with_reducible refine Below.ext_mk ?_ ?_ _ _) | (with_reducible refine Below.alloc ?_ ?_ _) | (with_reducible refine Below.drew ?_) | (with_reducible refine Below.setCell ?_ ?_ _) | go_size))
        have u0 := bZ.cell 0
        have u1 := bZ.cell 1
        simp only [List.getElem?_cons_zero, List.getElem?_cons_succ] at u0 u1
        clear hZ
        refine bodyPost_ret (v := cv (setB c.1 j, setB c.2 j)) (by simp [results, Try.results119, go_sem, u0, u1]) rfl ?_
        exact Pure.of rfl hbZ
end Go.Proofs.Ytboekafmplomhaa
set_option linter.unusedVariables false
set_option linter.unusedSimpArgs false
namespace Go.Proofs.Ytboekafmplomhaa
open Go.RowKit

/-- What a text's bytes say, from variable k on. -/
def parseL : Nat → Cu → List UInt8 → Cu × Int
  | _, c, [] => (c, 0)
  | k, c, x :: l =>
    if x = 49 then parseL (k + 1) (setB c.1 k, setB c.2 k) l
    else if x = 48 then parseL (k + 1) (setB c.1 k, c.2) l
    else if x = 42 then parseL (k + 1) c l
    else ((0, 0), 4)
def parseV (l : List UInt8) : Cu × Int := if 64 < l.length then ((0, 0), 3) else parseL 0 (0, 0) l

theorem u8_ne {x : UInt8} {n : Nat} (hn : n < 256) : x = UInt8.ofNat n ↔ x.toNat = n := by
  constructor
  · rintro rfl; simp; omega
  · intro h
    apply UInt8.toNat_inj.1
    rw [h]; simp; omega

set_option maxHeartbeats 2000000 in
theorem rparsec_any (l : List UInt8) (hl : l.length ≤ 100) (w : World) : Calls Try.prog 66 #[.string ⟨l.toArray⟩] w (Pure (.tuple #[cv (parseV l).1, .int .i64 (parseV l).2]) w) := by
  have hsz : (⟨l.toArray⟩ : ByteArray).size = l.length := by simp [ByteArray.size]
  go_enter Try.func66, Try.ntmps66
  go_upto_region 2 with (fail)
  refine wp_gen (fun V hV => ?_)
  have hbV : Below w.heap.size w V := by rw [hV]; (repeat' (first | (with_reducible exact Below.refl _ _) | (with_reducible refine Below.ext_mk ?_ ?_ _ _) | (with_reducible refine Below.alloc ?_ ?_ _) | (with_reducible refine Below.drew ?_) | (with_reducible refine Below.setCell ?_ ?_ _) | go_size))
  have bR : Blk V w.heap.size 85 [.int .u64 0, .int .u64 0] := by
    rw [hV]; exact (Blk.new w 85 [.int .u64 0, .int .u64 0]).below (by (repeat' (first | (with_reducible exact Below.refl _ _) | (with_reducible refine Below.ext_mk ?_ ?_ _ _) | (with_reducible refine Below.alloc ?_ ?_ _) | (with_reducible refine Below.drew ?_) | (with_reducible refine Below.setCell ?_ ?_ _) | go_size)))
  have bC : Blk V (w.heap.size + 1) 85 [.int .u64 0, .int .u64 0] := by
    rw [hV]
    have := Blk.new (w.alloc (.cells #[.int .u64 0, .int .u64 0] 85)) 85 [.int .u64 0, .int .u64 0]
    rw [World.size_alloc] at this
    exact this
  clear hV
  have hsV := hbV.size
  have zR := bR.lt
  have zC := bC.lt
  have c0 := bC.cell 0
  have c1 := bC.cell 1
  have r0 := bR.cell 0
  have r1 := bR.cell 1
  have g0 := bR.free 0
  have g1 := bR.free 1
  simp only [List.getElem?_cons_zero, List.getElem?_cons_succ] at c0 c1 r0 r1
  by_cases h64 : 64 < l.length
  · have h64' : (64 : Int) < (l.length : Int) := by omega
    go_wp2
    refine body_gen (fun Z hZ => ?_)
    have bZ : Blk Z w.heap.size 85 [.int .u64 0, .int .u64 0] := by rw [hZ]; exact (bR.set_ 0 _).set_ 1 _
    have hbZ : Below w.heap.size w Z := by rw [hZ]; (repeat' (first | (with_reducible exact hbV) | (with_reducible exact Below.refl _ _) | (with_reducible refine Below.ext_mk ?_ ?_ _ _) | (with_reducible refine Below.alloc ?_ ?_ _) | (with_reducible refine Below.drew ?_) | (with_reducible refine Below.setCell ?_ ?_ _) | go_size))
    have u0 := bZ.cell 0
    have u1 := bZ.cell 1
    simp only [List.getElem?_cons_zero, List.getElem?_cons_succ] at u0 u1
    clear hZ
    have e : parseV l = ((0, 0), 3) := by unfold parseV; rw [if_pos h64]
    rw [e]
    refine bodyPost_ret (v := .tuple #[cv (0, 0), .int .i64 3]) (by simp [results, Try.results66, go_sem, u0, u1]) rfl ?_
    exact Pure.of rfl hbZ
  · have h64' : ¬ (64 : Int) < (l.length : Int) := by omega
    clear c0 c1 r0 r1 g0 g1 zC zR
    go_wp2
    go_loopw [5] (fun i wr => ∃ (k : Nat) (c : Cu), k ≤ l.length ∧ i = .int .i64 k ∧ Below w.heap.size w wr ∧ Blk wr w.heap.size 85 [.int .u64 0, .int .u64 0] ∧ Blk wr (w.heap.size + 1) 85 [.int .u64 c.1, .int .u64 c.2] ∧
      c.1 < 2 ^ k ∧ c.2 < 2 ^ k ∧ parseL k c (l.drop k) = parseL 0 (0, 0) l) (fun i _ => l.length - (intOf i).toNat)
    case atStart => exact ⟨0, (0, 0), by omega, rfl, hbV, bR, bC, by simp, by simp, rfl⟩
    case round =>
      obtain ⟨k, c, hk, rfl, hb, hR, hC, hM, hV, hp⟩ := hrel
      have HP := hid hp
      clear hp
      by_cases hlt : k < l.length
      · have hk1 : (k : Int) < (l.length : Int) := by omega
        obtain ⟨x, hx⟩ : ∃ x, x = l[k] := ⟨_, rfl⟩
        have ed : l.drop k = x :: l.drop (k + 1) := by rw [hx]; exact List.drop_eq_getElem_cons hlt
        rw [ed] at HP
        have hix : ∀ W : World, (Instr.index 9 (.string ⟨l.toArray⟩) (.int .i64 (k : Int))).run Try.prog W = .ok (.int .u8 (x.toNat : Int)) W := fun W => by
          rw [run_index_string W _ _ _ _ Try.underlying9, dif_pos ⟨by omega, by rw [hsz]; exact hk1⟩, hx]
          rfl
        have HX := hid hx
        clear hx ed
        have c0 := hC.cell 0
        have c1 := hC.cell 1
        have g0 := hC.free 0
        have g1 := hC.free 1
        have zC := hC.lt
        simp only [List.getElem?_cons_zero, List.getElem?_cons_succ] at c0 c1
        by_cases h48 : x = 48
        · subst h48
          have W0 : ∀ W, Calls Try.prog 119 #[cv c, .int .i64 k, .int .i64 0] W (Pure (cv (setB c.1 k, c.2)) W) := fun W => rwithc_any (v := k) (by omega) hM hV 0 (by omega) W
          have e6 : IntKind.u8.wrap 0 = 0 := by decide
          have e7 : IntKind.i64.wrap 0 = 0 := by decide
          rw [show (((48 : UInt8).toNat : Nat) : Int) = 48 from rfl] at hix
          have hk64 : k < 64 := by omega
          have eP : parseL k c (48 :: l.drop (k + 1)) = parseL (k + 1) (setB c.1 k, c.2) (l.drop (k + 1)) := by rw [parseL]; simp
          have EP := hid eP
          have HMV := hid (And.intro hM hV)
          clear hsz eP
          go_upto_region 7 with (fail)
          refine wp_region_doc (fun F hF => ?_)
          have HF := hid hF
          clear hF
          iterate 5 (refine doc_val rfl (by first | (go_simp; done) | (go_simp; exact ⟨rfl, rfl⟩) | (go_simp; with_reducible rfl)) ?_; simp only [Act.put, List.setIfInBounds_toArray, List.set_cons_zero, List.set_cons_succ])
          iterate 4 (refine doc_not rfl ?_; simp only [Act.put, List.setIfInBounds_toArray, List.set_cons_zero, List.set_cons_succ])
          iterate 2 (refine doc_val rfl (by first | (go_simp; done) | (go_simp; exact ⟨rfl, rfl⟩) | (go_simp; with_reducible rfl)) ?_; simp only [Act.put, List.setIfInBounds_toArray, List.set_cons_zero, List.set_cons_succ])
          iterate 4 (refine doc_not rfl ?_; simp only [Act.put, List.setIfInBounds_toArray, List.set_cons_zero, List.set_cons_succ])
          iterate 1 (refine doc_val rfl (by first | (go_simp; done) | (go_simp; exact ⟨rfl, rfl⟩) | (go_simp; with_reducible rfl)) ?_; simp only [Act.put, List.setIfInBounds_toArray, List.set_cons_zero, List.set_cons_succ])
          refine doc_end (HF.out _ _ ?_)
          clear HF F
          go_upto_region 10 with (fail)
          refine wp_region_store 8 (by kernel_rfl) (by kernel_rfl) (by kernel_rfl) rfl (fun F hF G hG => ?_)
          simp only [List.take_succ_cons, List.take_zero, List.drop_succ_cons, List.drop_zero] at hG ⊢
          have HF := hid hF; clear hF
          have HG := hid hG; clear hG
          repeat (first
            | (apply text_skip; (focus rfl); simp only [Act.put, List.setIfInBounds_toArray, List.set_cons_zero, List.set_cons_succ])
            | (apply text_val; (focus rfl); (focus (intro _ _; go_simp; with_reducible rfl)); simp only [Act.put, List.setIfInBounds_toArray, List.set_cons_zero, List.set_cons_succ])
            | (apply text_call; (focus rfl); (focus (intro _ _; go_simp; exact ⟨rfl, rfl⟩)); (focus (intro _ _; with_reducible (exact W0 _))); simp only [Act.put, List.setIfInBounds_toArray, List.set_cons_zero, List.set_cons_succ])
            | (apply text_if; (focus (first | exact wanted_t rfl rfl | exact wanted_f rfl rfl | exact wanted_gt rfl rfl | exact wanted_gf rfl rfl)); (focus (intro hc _ _; (try simp only [Bool.and_eq_true, Bool.not_eq_true', Bool.true_and] at hc); go_simp; with_reducible rfl)); simp only [Act.put, List.setIfInBounds_toArray, List.set_cons_zero, List.set_cons_succ])
            | (apply text_if_call; (focus (first | exact wanted_t rfl rfl | exact wanted_f rfl rfl | exact wanted_gt rfl rfl | exact wanted_gf rfl rfl)); (focus (intro hc _ _; (try simp only [Bool.and_eq_true, Bool.not_eq_true', Bool.true_and] at hc); go_simp; exact ⟨rfl, rfl⟩)); (focus (intro hc _ _; with_reducible (exact W0 _))); simp only [Act.put, List.setIfInBounds_toArray, List.set_cons_zero, List.set_cons_succ]))
          refine text_nil (HG.out _ ?_)
          clear HG G
          apply store_step; (focus rfl); (focus (intro _ _; apply Exists.intro; apply Exists.intro; go_simp; with_reducible rfl))
          try simp only [Act.put, List.setIfInBounds_toArray, List.set_cons_zero, List.set_cons_succ]
          repeat (apply both_val; (focus rfl); (focus (intro _; go_simp; with_reducible rfl)); simp only [Act.put, List.setIfInBounds_toArray, List.set_cons_zero, List.set_cons_succ])
          refine both_nil (HF.out _ _ (fun mx dx => ?_))
          clear HF F
          simp only [List.getElem_toArray, List.getElem_cons_succ, List.getElem_cons_zero]
          go_wp2
          go_roundw
          case rel =>
            refine ⟨k + 1, (setB c.1 k, c.2), by omega, by go_num, by (repeat' (first | (with_reducible exact hb) | (with_reducible exact Below.refl _ _) | (with_reducible refine Below.ext_mk ?_ ?_ _ _) | (with_reducible refine Below.alloc ?_ ?_ _) | (with_reducible refine Below.drew ?_) | (with_reducible refine Below.setCell ?_ ?_ _) | go_size)), ((hR.far (b := w.heap.size + 1) (by omega) 0 _).far (b := w.heap.size + 1) (by omega) 1 _).ext _ _, ((hC.set_ 0 _).set_ 1 _).ext _ _, ?_, ?_, ?_⟩
            · show setB c.1 k < _; rw [or_add HMV.out.1]; exact add_lt HMV.out.1 hk64
            · show c.2 < _; have := HMV.out.2; rw [Nat.pow_succ]; omega
            · rw [← HP.out, EP.out]
          case measure => first | (simp [intOf]; done) | (simp [intOf]; omega)
        · by_cases h49 : x = 49
          · subst h49
            have W0 : ∀ W, Calls Try.prog 119 #[cv c, .int .i64 k, .int .i64 1] W (Pure (cv (setB c.1 k, setB c.2 k)) W) := fun W => rwithc_any (v := k) (by omega) hM hV 1 (by omega) W
            have e6 : IntKind.u8.wrap 1 = 1 := by decide
            have e7 : IntKind.i64.wrap 1 = 1 := by decide
            rw [show (((49 : UInt8).toNat : Nat) : Int) = 49 from rfl] at hix
            have hk64 : k < 64 := by omega
            have eP : parseL k c (49 :: l.drop (k + 1)) = parseL (k + 1) (setB c.1 k, setB c.2 k) (l.drop (k + 1)) := by rw [parseL]; simp
            have EP := hid eP
            have HMV := hid (And.intro hM hV)
            clear hsz eP
            go_upto_region 7 with (fail)
            refine wp_region_doc (fun F hF => ?_)
            have HF := hid hF
            clear hF
            iterate 11 (refine doc_val rfl (by first | (go_simp; done) | (go_simp; exact ⟨rfl, rfl⟩) | (go_simp; with_reducible rfl)) ?_; simp only [Act.put, List.setIfInBounds_toArray, List.set_cons_zero, List.set_cons_succ])
            iterate 4 (refine doc_not rfl ?_; simp only [Act.put, List.setIfInBounds_toArray, List.set_cons_zero, List.set_cons_succ])
            iterate 1 (refine doc_val rfl (by first | (go_simp; done) | (go_simp; exact ⟨rfl, rfl⟩) | (go_simp; with_reducible rfl)) ?_; simp only [Act.put, List.setIfInBounds_toArray, List.set_cons_zero, List.set_cons_succ])
            refine doc_end (HF.out _ _ ?_)
            clear HF F
            go_upto_region 10 with (fail)
            refine wp_region_store 8 (by kernel_rfl) (by kernel_rfl) (by kernel_rfl) rfl (fun F hF G hG => ?_)
            simp only [List.take_succ_cons, List.take_zero, List.drop_succ_cons, List.drop_zero] at hG ⊢
            have HF := hid hF; clear hF
            have HG := hid hG; clear hG
            repeat (first
              | (apply text_skip; (focus rfl); simp only [Act.put, List.setIfInBounds_toArray, List.set_cons_zero, List.set_cons_succ])
              | (apply text_val; (focus rfl); (focus (intro _ _; go_simp; with_reducible rfl)); simp only [Act.put, List.setIfInBounds_toArray, List.set_cons_zero, List.set_cons_succ])
              | (apply text_call; (focus rfl); (focus (intro _ _; go_simp; exact ⟨rfl, rfl⟩)); (focus (intro _ _; with_reducible (exact W0 _))); simp only [Act.put, List.setIfInBounds_toArray, List.set_cons_zero, List.set_cons_succ])
              | (apply text_if; (focus (first | exact wanted_t rfl rfl | exact wanted_f rfl rfl | exact wanted_gt rfl rfl | exact wanted_gf rfl rfl)); (focus (intro hc _ _; (try simp only [Bool.and_eq_true, Bool.not_eq_true', Bool.true_and] at hc); go_simp; with_reducible rfl)); simp only [Act.put, List.setIfInBounds_toArray, List.set_cons_zero, List.set_cons_succ])
              | (apply text_if_call; (focus (first | exact wanted_t rfl rfl | exact wanted_f rfl rfl | exact wanted_gt rfl rfl | exact wanted_gf rfl rfl)); (focus (intro hc _ _; (try simp only [Bool.and_eq_true, Bool.not_eq_true', Bool.true_and] at hc); go_simp; exact ⟨rfl, rfl⟩)); (focus (intro hc _ _; with_reducible (exact W0 _))); simp only [Act.put, List.setIfInBounds_toArray, List.set_cons_zero, List.set_cons_succ]))
            refine text_nil (HG.out _ ?_)
            clear HG G
            apply store_step; (focus rfl); (focus (intro _ _; apply Exists.intro; apply Exists.intro; go_simp; with_reducible rfl))
            try simp only [Act.put, List.setIfInBounds_toArray, List.set_cons_zero, List.set_cons_succ]
            repeat (apply both_val; (focus rfl); (focus (intro _; go_simp; with_reducible rfl)); simp only [Act.put, List.setIfInBounds_toArray, List.set_cons_zero, List.set_cons_succ])
            refine both_nil (HF.out _ _ (fun mx dx => ?_))
            clear HF F
            simp only [List.getElem_toArray, List.getElem_cons_succ, List.getElem_cons_zero]
            go_wp2
            go_roundw
            case rel =>
              refine ⟨k + 1, (setB c.1 k, setB c.2 k), by omega, by go_num, by (repeat' (first | (with_reducible exact hb) | (with_reducible exact Below.refl _ _) | (with_reducible refine Below.ext_mk ?_ ?_ _ _) | (with_reducible refine Below.alloc ?_ ?_ _) | (with_reducible refine Below.drew ?_) | (with_reducible refine Below.setCell ?_ ?_ _) | go_size)), ((hR.far (b := w.heap.size + 1) (by omega) 0 _).far (b := w.heap.size + 1) (by omega) 1 _).ext _ _, ((hC.set_ 0 _).set_ 1 _).ext _ _, ?_, ?_, ?_⟩
              · show setB c.1 k < _; rw [or_add HMV.out.1]; exact add_lt HMV.out.1 hk64
              · show setB c.2 k < _; rw [or_add HMV.out.2]; exact add_lt HMV.out.2 hk64
              · rw [← HP.out, EP.out]
            case measure => first | (simp [intOf]; done) | (simp [intOf]; omega)
          · by_cases h42 : x = 42
            · subst h42
              rw [show (((42 : UInt8).toNat : Nat) : Int) = 42 from rfl] at hix
              have eP : parseL k c (42 :: l.drop (k + 1)) = parseL (k + 1) c (l.drop (k + 1)) := by rw [parseL]; simp
              have EP := hid eP
              have HMV := hid (And.intro hM hV)
              clear hsz eP
              go_upto_region 7 with (fail)
              refine wp_region_doc (fun F hF => ?_)
              have HF := hid hF
              clear hF
              iterate 16 (refine doc_val rfl (by first | (go_simp; done) | (go_simp; exact ⟨rfl, rfl⟩) | (go_simp; with_reducible rfl)) ?_; simp only [Act.put, List.setIfInBounds_toArray, List.set_cons_zero, List.set_cons_succ])
              refine doc_end (HF.out _ _ ?_)
              clear HF F
              go_wp2
              go_roundw
              case rel =>
                refine ⟨k + 1, c, by omega, by go_num, by (repeat' (first | (with_reducible exact hb) | (with_reducible exact Below.refl _ _) | (with_reducible refine Below.ext_mk ?_ ?_ _ _) | (with_reducible refine Below.alloc ?_ ?_ _) | (with_reducible refine Below.drew ?_) | (with_reducible refine Below.setCell ?_ ?_ _) | go_size)), hR, hC, ?_, ?_, by rw [← HP.out, EP.out]⟩
                · have := HMV.out.1; rw [Nat.pow_succ]; omega
                · have := HMV.out.2; rw [Nat.pow_succ]; omega
              case measure => first | (simp [intOf]; done) | (simp [intOf]; omega)
            · have n48 : ((x.toNat : Int) != 48) = true := by
                have : x.toNat ≠ 48 := fun e => h48 (UInt8.toNat_inj.1 (by rw [e]; rfl))
                simp; omega
              have n49 : ((x.toNat : Int) != 49) = true := by
                have : x.toNat ≠ 49 := fun e => h49 (UInt8.toNat_inj.1 (by rw [e]; rfl))
                simp; omega
              have n42 : ((x.toNat : Int) != 42) = true := by
                have : x.toNat ≠ 42 := fun e => h42 (UInt8.toNat_inj.1 (by rw [e]; rfl))
                simp; omega
              have eP : parseL k c (x :: l.drop (k + 1)) = ((0, 0), 4) := by rw [parseL, if_neg h49, if_neg h48, if_neg h42]
              have e : parseV l = ((0, 0), 4) := by unfold parseV; rw [if_neg h64, ← HP.out, eP]
              have EV := hid e
              have r0 := hR.cell 0
              have r1 := hR.cell 1
              have f0 := hR.free 0
              have f1 := hR.free 1
              have zR := hR.lt
              have hbs := hb.size
              simp only [List.getElem?_cons_zero, List.getElem?_cons_succ] at r0 r1
              generalize ((x.toNat : Nat) : Int) = y at *
              clear hsz eP e h48 h49 h42
              go_upto_region 7 with (fail)
              refine wp_region_doc (fun F hF => ?_)
              have HF := hid hF
              clear hF
              iterate 16 (refine doc_val rfl (by first | (go_simp; done) | (go_simp; exact ⟨rfl, rfl⟩) | (go_simp; with_reducible rfl)) ?_; simp only [Act.put, List.setIfInBounds_toArray, List.set_cons_zero, List.set_cons_succ])
              refine doc_end (HF.out _ _ ?_)
              clear HF F
              go_wp2
              refine body_gen (fun Z hZ => ?_)
              have bZ : Blk Z w.heap.size 85 [.int .u64 0, .int .u64 0] := by rw [hZ]; exact (hR.set_ 0 _).set_ 1 _
              have hbZ : Below w.heap.size w Z := by rw [hZ]; (repeat' (first | (with_reducible exact hb) | (with_reducible exact Below.refl _ _) | (with_reducible refine Below.ext_mk ?_ ?_ _ _) | (with_reducible refine Below.alloc ?_ ?_ _) | (with_reducible refine Below.drew ?_) | (with_reducible refine Below.setCell ?_ ?_ _) | go_size))
              have u0 := bZ.cell 0
              have u1 := bZ.cell 1
              simp only [List.getElem?_cons_zero, List.getElem?_cons_succ] at u0 u1
              clear hZ
              rw [EV.out]
              refine bodyPost_ret (v := .tuple #[cv (0, 0), .int .i64 4]) (by simp [results, Try.results66, go_sem, u0, u1]) rfl ?_
              exact Pure.of rfl hbZ
      · have ek : k = l.length := by omega
        have hk1 : ¬ (k : Int) < (l.length : Int) := by omega
        have e : parseV l = (c, 0) := by
          unfold parseV
          rw [if_neg h64, ← HP.out, List.drop_eq_nil_of_le (by omega), parseL]
        have EV := hid e
        have c0 := hC.cell 0
        have c1 := hC.cell 1
        have r0 := hR.cell 0
        have r1 := hR.cell 1
        have f0 := hR.free 0
        have f1 := hR.free 1
        have zR := hR.lt
        have zC := hC.lt
        have hbs := hb.size
        simp only [List.getElem?_cons_zero, List.getElem?_cons_succ] at c0 c1 r0 r1
        clear e ek
        go_wp2
        refine body_gen (fun Z hZ => ?_)
        have bZ : Blk Z w.heap.size 85 [.int .u64 c.1, .int .u64 c.2] := by rw [hZ]; exact (hR.set_ 0 _).set_ 1 _
        have hbZ : Below w.heap.size w Z := by rw [hZ]; (repeat' (first | (with_reducible exact hb) | (with_reducible exact Below.refl _ _) | (with_reducible refine Below.ext_mk ?_ ?_ _ _) | (with_reducible refine Below.alloc ?_ ?_ _) | (with_reducible refine Below.drew ?_) | (with_reducible refine Below.setCell ?_ ?_ _) | go_size))
        have u0 := bZ.cell 0
        have u1 := bZ.cell 1
        simp only [List.getElem?_cons_zero, List.getElem?_cons_succ] at u0 u1
        clear hZ
        rw [EV.out]
        refine bodyPost_ret (v := .tuple #[cv c, .int .i64 0]) (by simp [results, Try.results66, go_sem, u0, u1]) rfl ?_
        exact Pure.of rfl hbZ
end Go.Proofs.Ytboekafmplomhaa
set_option linter.unusedVariables false
set_option linter.unusedSimpArgs false
namespace Go.Proofs.Ytboekafmplomhaa
open Go.RowKit

/-- The bytes of a string, in a row of their own. -/
theorem bytes_world (w : World) (l : List UInt8) : ∃ (bb : Nat) (cap : Nat) (ob : Obj) (W : World),
    (convert 9 100 (.string ⟨l.toArray⟩)).run Try.prog w = .ok (.slice (some ⟨bb, 0, none⟩) l.length cap) W ∧ bb = w.heap.size ∧ Below w.heap.size w W ∧ W.heap[bb]? = some ob ∧
    (∀ (X : World), X.heap[bb]? = some ob → ∀ (k : Nat) (hk : k < l.length), X.cell? ⟨bb, k, none⟩ = some (.int .u8 (l[k].toNat : Int))) := by
  have hr := run_bytes_of_string (P := Try.prog) w 9 100 5 ⟨l.toArray⟩ Try.underlying9 Try.underlying100 Try.underlying5
  have hsz : (⟨l.toArray⟩ : ByteArray).size = l.length := by simp [ByteArray.size]
  rw [hsz] at hr
  refine ⟨w.heap.size, _, _, _, hr, rfl, by (repeat' (first | (with_reducible exact Below.refl _ _) | (with_reducible refine Below.ext_mk ?_ ?_ _ _) | (with_reducible refine Below.alloc ?_ ?_ _) | (with_reducible refine Below.drew ?_) | (with_reducible refine Below.setCell ?_ ?_ _) | go_size)), World.alloc_heap_new w.drew _, fun X hX k hk => ?_⟩
  simp only [World.cell?, hX]
  unfold bytesRow
  rw [Array.getElem?_append_left (by simp; exact hk)]
  simp [hk]

set_option maxHeartbeats 2000000 in
theorem parsec_any (l : List UInt8) (hl : l.length ≤ 100) (w : World) : Calls Try.prog 65 #[.string ⟨l.toArray⟩] w (Pure (.tuple #[cv (parseV l).1, .int .i64 (parseV l).2]) w) := by
  have hsz : (⟨l.toArray⟩ : ByteArray).size = l.length := by simp [ByteArray.size]
  go_enter Try.func65, Try.ntmps65
  go_upto_region 1 with (fail)
  refine wp_gen (fun V hV => ?_)
  have hbV : Below w.heap.size w V := by rw [hV]; (repeat' (first | (with_reducible exact Below.refl _ _) | (with_reducible refine Below.ext_mk ?_ ?_ _ _) | (with_reducible refine Below.alloc ?_ ?_ _) | (with_reducible refine Below.drew ?_) | (with_reducible refine Below.setCell ?_ ?_ _) | go_size))
  have bR : Blk V w.heap.size 85 [.int .u64 0, .int .u64 0] := by
    rw [hV]; exact (Blk.new w 85 [.int .u64 0, .int .u64 0])
  clear hV
  have hsV := hbV.size
  have zR := bR.lt
  have r0 := bR.cell 0
  have r1 := bR.cell 1
  have g0 := bR.free 0
  have g1 := bR.free 1
  simp only [List.getElem?_cons_zero, List.getElem?_cons_succ] at r0 r1
  by_cases h64 : 64 < l.length
  · have h64' : (64 : Int) < (l.length : Int) := by omega
    go_wp2
    refine body_gen (fun Z hZ => ?_)
    have bZ : Blk Z w.heap.size 85 [.int .u64 0, .int .u64 0] := by rw [hZ]; exact (bR.set_ 0 _).set_ 1 _
    have hbZ : Below w.heap.size w Z := by rw [hZ]; (repeat' (first | (with_reducible exact hbV) | (with_reducible exact Below.refl _ _) | (with_reducible refine Below.ext_mk ?_ ?_ _ _) | (with_reducible refine Below.alloc ?_ ?_ _) | (with_reducible refine Below.drew ?_) | (with_reducible refine Below.setCell ?_ ?_ _) | go_size))
    have u0 := bZ.cell 0
    have u1 := bZ.cell 1
    simp only [List.getElem?_cons_zero, List.getElem?_cons_succ] at u0 u1
    clear hZ
    have e : parseV l = ((0, 0), 3) := by unfold parseV; rw [if_pos h64]
    rw [e]
    refine bodyPost_ret (v := .tuple #[cv (0, 0), .int .i64 3]) (by simp [results, Try.results65, go_sem, u0, u1]) rfl ?_
    exact Pure.of rfl hbZ
  · have h64' : ¬ (64 : Int) < (l.length : Int) := by omega
    clear r0 r1 g0 g1
    obtain ⟨bb, cap, ob, W, hcv, hbb, hbW, hob, hcell⟩ := bytes_world V l
    have HC := hid hcell
    have zbb : w.heap.size < bb := by omega
    have bRW := bR.below hbW
    have hbw := hbV.trans (hbW.mono hbV.size)
    clear hcell hbb bR hbV hbW zR hsV
    go_wp2
    clear hcv
    go_loopw [13] (fun i wr => ∃ (k : Nat) (c : Cu), k ≤ l.length ∧ i = .int .i64 k ∧ Below w.heap.size w wr ∧ Blk wr w.heap.size 85 [.int .u64 c.1, .int .u64 c.2] ∧ wr.heap[bb]? = some ob ∧ CuOk c ∧ parseL k c (l.drop k) = parseL 0 (0, 0) l) (fun i _ => l.length - (intOf i).toNat)
    case atStart => exact ⟨0, (0, 0), by omega, rfl, hbw, bRW, hob, cuOk_zero, rfl⟩
    case round =>
      obtain ⟨k, c, hk, rfl, hb, hC, hB, hcu, hp⟩ := hrel
      have HP := hid hp
      have hbs := hb.size
      have zbr := (Array.getElem?_eq_some_iff.1 hB).1
      clear hp
      have c0 := hC.cell 0
      have c1 := hC.cell 1
      have g0 := hC.free 0
      have g1 := hC.free 1
      have zC := hC.lt
      simp only [List.getElem?_cons_zero, List.getElem?_cons_succ] at c0 c1
      by_cases hlt : k < l.length
      · have hk1 : (k : Int) < (l.length : Int) := by omega
        have hk64 : k < 64 := by omega
        have b0 := HC.out wr hB k hlt
        obtain ⟨x, hx⟩ : ∃ x, x = l[k] := ⟨_, rfl⟩
        have ed : l.drop k = x :: l.drop (k + 1) := by rw [hx]; exact List.drop_eq_getElem_cons hlt
        rw [ed] at HP
        rw [← hx] at b0
        have HX := hid hx
        have w1 : IntKind.u64.wrap (2 ^ k) = 2 ^ k := wrap_pow hk64
        have o1 := or_pow hcu.1 hk64
        have o2 := or_pow hcu.2 hk64
        have hk0 : (0 : Int) ≤ (k : Int) := by omega
        clear hx ed hsz
        by_cases h49 : x = 49
        · subst h49
          rw [show (((49 : UInt8).toNat : Nat) : Int) = 49 from rfl] at b0
          have eP : parseL k c (49 :: l.drop (k + 1)) = parseL (k + 1) (setB c.1 k, setB c.2 k) (l.drop (k + 1)) := by rw [parseL]; simp
          have EP := hid eP
          clear eP
          go_upto_region 9 with (fail)
          refine wp_region_store 6 (by kernel_rfl) (by kernel_rfl) (by kernel_rfl) rfl (fun F hF G hG => ?_)
          simp only [List.take_succ_cons, List.take_zero, List.drop_succ_cons, List.drop_zero] at hG ⊢
          have HF := hid hF; clear hF
          have HG := hid hG; clear hG
          repeat (first
            | (apply text_skip; (focus rfl); simp only [Act.put, List.setIfInBounds_toArray, List.set_cons_zero, List.set_cons_succ])
            | (apply text_val; (focus rfl); (focus (intro _ _; go_simp; with_reducible rfl)); simp only [Act.put, List.setIfInBounds_toArray, List.set_cons_zero, List.set_cons_succ])
            | (apply text_if; (focus (first | exact wanted_t rfl rfl | exact wanted_f rfl rfl | exact wanted_gt rfl rfl | exact wanted_gf rfl rfl)); (focus (intro hc _ _; (try simp only [Bool.and_eq_true, Bool.not_eq_true', Bool.true_and] at hc); go_simp; with_reducible rfl)); simp only [Act.put, List.setIfInBounds_toArray, List.set_cons_zero, List.set_cons_succ]))
          refine text_nil (HG.out _ ?_)
          clear HG G
          apply store_step; (focus rfl); (focus (intro _ _; apply Exists.intro; apply Exists.intro; go_simp; with_reducible rfl))
          try simp only [Act.put, List.setIfInBounds_toArray, List.set_cons_zero, List.set_cons_succ]
          repeat (apply both_val; (focus rfl); (focus (intro _; go_simp; with_reducible rfl)); simp only [Act.put, List.setIfInBounds_toArray, List.set_cons_zero, List.set_cons_succ])
          refine both_nil (HF.out _ _ (fun mx dx => ?_))
          clear HF F
          simp only [List.getElem_toArray, List.getElem_cons_succ, List.getElem_cons_zero]
          go_upto_region 10 with (fail)
          refine wp_gen (fun Y hY => ?_)
          have hC2 : Blk Y w.heap.size 85 [.int .u64 c.1, .int .u64 (setB c.2 k : Nat)] := by rw [hY]; exact (hC.set_ 1 _).ext _ _
          have hB2 : Y.heap[bb]? = some ob := by rw [hY]; exact (World.heap_ext _ _ _ (by simp; omega)).trans ((Below.heap_setCell _ _ _ _ (by show bb ≠ w.heap.size; omega)).trans hB)
          have hb2 : Below w.heap.size w Y := by rw [hY]; (repeat' (first | (with_reducible exact hb) | (with_reducible exact Below.refl _ _) | (with_reducible refine Below.ext_mk ?_ ?_ _ _) | (with_reducible refine Below.alloc ?_ ?_ _) | (with_reducible refine Below.drew ?_) | (with_reducible refine Below.setCell ?_ ?_ _) | go_size))
          clear hY c0 c1 g0 g1 zC
          have c0 := hC2.cell 0
          have c1 := hC2.cell 1
          have g0 := hC2.free 0
          have g1 := hC2.free 1
          have zC := hC2.lt
          simp only [List.getElem?_cons_zero, List.getElem?_cons_succ] at c0 c1
          refine wp_region_store 6 (by kernel_rfl) (by kernel_rfl) (by kernel_rfl) rfl (fun F hF G hG => ?_)
          simp only [List.take_succ_cons, List.take_zero, List.drop_succ_cons, List.drop_zero] at hG ⊢
          have HF := hid hF; clear hF
          have HG := hid hG; clear hG
          repeat (first
            | (apply text_skip; (focus rfl); simp only [Act.put, List.setIfInBounds_toArray, List.set_cons_zero, List.set_cons_succ])
            | (apply text_val; (focus rfl); (focus (intro _ _; go_simp; with_reducible rfl)); simp only [Act.put, List.setIfInBounds_toArray, List.set_cons_zero, List.set_cons_succ])
            | (apply text_if; (focus (first | exact wanted_t rfl rfl | exact wanted_f rfl rfl | exact wanted_gt rfl rfl | exact wanted_gf rfl rfl)); (focus (intro hc _ _; (try simp only [Bool.and_eq_true, Bool.not_eq_true', Bool.true_and] at hc); go_simp; with_reducible rfl)); simp only [Act.put, List.setIfInBounds_toArray, List.set_cons_zero, List.set_cons_succ]))
          refine text_nil (HG.out _ ?_)
          clear HG G
          apply store_step; (focus rfl); (focus (intro _ _; apply Exists.intro; apply Exists.intro; go_simp; with_reducible rfl))
          try simp only [Act.put, List.setIfInBounds_toArray, List.set_cons_zero, List.set_cons_succ]
          repeat (apply both_val; (focus rfl); (focus (intro _; go_simp; with_reducible rfl)); simp only [Act.put, List.setIfInBounds_toArray, List.set_cons_zero, List.set_cons_succ])
          refine both_nil (HF.out _ _ (fun mx dx => ?_))
          clear HF F
          simp only [List.getElem_toArray, List.getElem_cons_succ, List.getElem_cons_zero]
          have hbs2 := hb2.size
          go_wp2
          go_roundw
          case rel =>
            refine ⟨k + 1, (setB c.1 k, setB c.2 k), by omega, by go_num, by (repeat' (first | (with_reducible exact hb2) | (with_reducible exact Below.refl _ _) | (with_reducible refine Below.ext_mk ?_ ?_ _ _) | (with_reducible refine Below.alloc ?_ ?_ _) | (with_reducible refine Below.drew ?_) | (with_reducible refine Below.setCell ?_ ?_ _) | go_size)), (hC2.set_ 0 _).ext _ _, (World.heap_ext _ _ _ (by simp; have := (Array.getElem?_eq_some_iff.1 hB2).1; omega)).trans ((Below.heap_setCell _ _ _ _ (by show bb ≠ w.heap.size; omega)).trans hB2), ⟨?_, ?_⟩, by rw [← HP.out, EP.out]⟩
            · exact setB_lt hcu.1 hk64
            · exact setB_lt hcu.2 hk64
          case measure => first | (simp [intOf]; done) | (simp [intOf]; omega)
        · by_cases h48 : x = 48
          · subst h48
            rw [show (((48 : UInt8).toNat : Nat) : Int) = 48 from rfl] at b0
            have eP : parseL k c (48 :: l.drop (k + 1)) = parseL (k + 1) (setB c.1 k, c.2) (l.drop (k + 1)) := by rw [parseL]; simp
            have EP := hid eP
            clear eP
            go_upto_region 12 with (fail)
            refine wp_region_store 6 (by kernel_rfl) (by kernel_rfl) (by kernel_rfl) rfl (fun F hF G hG => ?_)
            simp only [List.take_succ_cons, List.take_zero, List.drop_succ_cons, List.drop_zero] at hG ⊢
            have HF := hid hF; clear hF
            have HG := hid hG; clear hG
            repeat (first
              | (apply text_skip; (focus rfl); simp only [Act.put, List.setIfInBounds_toArray, List.set_cons_zero, List.set_cons_succ])
              | (apply text_val; (focus rfl); (focus (intro _ _; go_simp; with_reducible rfl)); simp only [Act.put, List.setIfInBounds_toArray, List.set_cons_zero, List.set_cons_succ])
              | (apply text_if; (focus (first | exact wanted_t rfl rfl | exact wanted_f rfl rfl | exact wanted_gt rfl rfl | exact wanted_gf rfl rfl)); (focus (intro hc _ _; (try simp only [Bool.and_eq_true, Bool.not_eq_true', Bool.true_and] at hc); go_simp; with_reducible rfl)); simp only [Act.put, List.setIfInBounds_toArray, List.set_cons_zero, List.set_cons_succ]))
            refine text_nil (HG.out _ ?_)
            clear HG G
            apply store_step; (focus rfl); (focus (intro _ _; apply Exists.intro; apply Exists.intro; go_simp; with_reducible rfl))
            try simp only [Act.put, List.setIfInBounds_toArray, List.set_cons_zero, List.set_cons_succ]
            repeat (apply both_val; (focus rfl); (focus (intro _; go_simp; with_reducible rfl)); simp only [Act.put, List.setIfInBounds_toArray, List.set_cons_zero, List.set_cons_succ])
            refine both_nil (HF.out _ _ (fun mx dx => ?_))
            clear HF F
            simp only [List.getElem_toArray, List.getElem_cons_succ, List.getElem_cons_zero]
            go_wp2
            go_roundw
            case rel =>
              refine ⟨k + 1, (setB c.1 k, c.2), by omega, by go_num, by (repeat' (first | (with_reducible exact hb) | (with_reducible exact Below.refl _ _) | (with_reducible refine Below.ext_mk ?_ ?_ _ _) | (with_reducible refine Below.alloc ?_ ?_ _) | (with_reducible refine Below.drew ?_) | (with_reducible refine Below.setCell ?_ ?_ _) | go_size)), (hC.set_ 0 _).ext _ _, (World.heap_ext _ _ _ (by simp; omega)).trans ((Below.heap_setCell _ _ _ _ (by show bb ≠ w.heap.size; omega)).trans hB), ⟨?_, ?_⟩, by rw [← HP.out, EP.out]⟩
              · exact setB_lt hcu.1 hk64
              · exact hcu.2
            case measure => first | (simp [intOf]; done) | (simp [intOf]; omega)
          · by_cases h42 : x = 42
            · subst h42
              rw [show (((42 : UInt8).toNat : Nat) : Int) = 42 from rfl] at b0
              have eP : parseL k c (42 :: l.drop (k + 1)) = parseL (k + 1) c (l.drop (k + 1)) := by rw [parseL]; simp
              have EP := hid eP
              clear eP
              go_wp2
              go_roundw
              case rel =>
                refine ⟨k + 1, c, by omega, by go_num, by (repeat' (first | (with_reducible exact hb) | (with_reducible exact Below.refl _ _) | (with_reducible refine Below.ext_mk ?_ ?_ _ _) | (with_reducible refine Below.alloc ?_ ?_ _) | (with_reducible refine Below.drew ?_) | (with_reducible refine Below.setCell ?_ ?_ _) | go_size)), hC, hB, ⟨?_, ?_⟩, by rw [← HP.out, EP.out]⟩
                · exact hcu.1
                · exact hcu.2
              case measure => first | (simp [intOf]; done) | (simp [intOf]; omega)
            · have n48 : ((x.toNat : Int) == 48) = false := by
                have : x.toNat ≠ 48 := fun e => h48 (UInt8.toNat_inj.1 (by rw [e]; rfl))
                simp; omega
              have n49 : ((x.toNat : Int) == 49) = false := by
                have : x.toNat ≠ 49 := fun e => h49 (UInt8.toNat_inj.1 (by rw [e]; rfl))
                simp; omega
              have n42 : ((x.toNat : Int) == 42) = false := by
                have : x.toNat ≠ 42 := fun e => h42 (UInt8.toNat_inj.1 (by rw [e]; rfl))
                simp; omega
              have eP : parseL k c (x :: l.drop (k + 1)) = ((0, 0), 4) := by rw [parseL, if_neg h49, if_neg h48, if_neg h42]
              have e : parseV l = ((0, 0), 4) := by unfold parseV; rw [if_neg h64, ← HP.out, eP]
              have EV := hid e
              generalize ((x.toNat : Nat) : Int) = y at *
              clear eP e h48 h49 h42
              go_wp2
              refine body_gen (fun Z hZ => ?_)
              have bZ : Blk Z w.heap.size 85 [.int .u64 0, .int .u64 0] := by rw [hZ]; exact (hC.set_ 0 _).set_ 1 _
              have hbZ : Below w.heap.size w Z := by rw [hZ]; (repeat' (first | (with_reducible exact hb) | (with_reducible exact Below.refl _ _) | (with_reducible refine Below.ext_mk ?_ ?_ _ _) | (with_reducible refine Below.alloc ?_ ?_ _) | (with_reducible refine Below.drew ?_) | (with_reducible refine Below.setCell ?_ ?_ _) | go_size))
              have u0 := bZ.cell 0
              have u1 := bZ.cell 1
              simp only [List.getElem?_cons_zero, List.getElem?_cons_succ] at u0 u1
              clear hZ
              rw [EV.out]
              refine bodyPost_ret (v := .tuple #[cv (0, 0), .int .i64 4]) (by simp [results, Try.results65, go_sem, u0, u1]) rfl ?_
              exact Pure.of rfl hbZ
      · have ek : k = l.length := by omega
        have hk1 : ¬ (k : Int) < (l.length : Int) := by omega
        have e : parseV l = (c, 0) := by
          unfold parseV
          rw [if_neg h64, ← HP.out, List.drop_eq_nil_of_le (by omega), parseL]
        have EV := hid e
        clear e ek hsz
        go_wp2
        refine body_gen (fun Z hZ => ?_)
        have bZ : Blk Z w.heap.size 85 [.int .u64 c.1, .int .u64 c.2] := by rw [hZ]; exact (hC.set_ 0 _).set_ 1 _
        have hbZ : Below w.heap.size w Z := by rw [hZ]; (repeat' (first | (with_reducible exact hb) | (with_reducible exact Below.refl _ _) | (with_reducible refine Below.ext_mk ?_ ?_ _ _) | (with_reducible refine Below.alloc ?_ ?_ _) | (with_reducible refine Below.drew ?_) | (with_reducible refine Below.setCell ?_ ?_ _) | go_size))
        have u0 := bZ.cell 0
        have u1 := bZ.cell 1
        simp only [List.getElem?_cons_zero, List.getElem?_cons_succ] at u0 u1
        clear hZ
        rw [EV.out]
        refine bodyPost_ret (v := .tuple #[cv c, .int .i64 0]) (by simp [results, Try.results65, go_sem, u0, u1]) rfl ?_
        exact Pure.of rfl hbZ
end Go.Proofs.Ytboekafmplomhaa
set_option linter.unusedVariables false
set_option linter.unusedSimpArgs false
namespace Go.Proofs.Ytboekafmplomhaa
open Go.RowKit

theorem testBit_setB (n k v : Nat) : Nat.testBit (setB n k) v = (Nat.testBit n v || decide (k = v)) := by
  unfold setB
  rw [Nat.testBit_or, Nat.testBit_two_pow]

theorem parse_text : ∀ (l : List UInt8) (k : Nat) (c c' : Cu), parseL k c l = (c', 0) → k + l.length ≤ 64 → c.1 < 2 ^ k → c.2 < 2 ^ k → (∀ v, Nat.testBit c.2 v = true → Nat.testBit c.1 v = true) →
    (∀ v, v < k → Nat.testBit c'.1 v = Nat.testBit c.1 v ∧ Nat.testBit c'.2 v = Nat.testBit c.2 v) ∧ (∀ i (hi : i < l.length), charL c' (k + i) = l[i]) ∧ (∀ v, Nat.testBit c'.2 v = true → Nat.testBit c'.1 v = true) ∧
      c'.1 < 2 ^ (k + l.length) ∧ c'.2 < 2 ^ (k + l.length)
  | [], k, c, c', h, hk, h1, h2, hm => by
    rw [parseL] at h
    cases h
    exact ⟨fun v _ => ⟨rfl, rfl⟩, fun i hi => by simp at hi, hm, by simpa using h1, by simpa using h2⟩
  | x :: l, k, c, c', h, hk, h1, h2, hm => by
    simp only [List.length_cons] at hk
    have p1 : 2 ^ k < 2 ^ (k + 1) := Nat.pow_lt_pow_right (by omega) (by omega)
    have key : ∀ (d : Cu) (hd : parseL (k + 1) d l = (c', 0)) (b1 : d.1 < 2 ^ (k + 1)) (b2 : d.2 < 2 ^ (k + 1)) (hm' : ∀ v, Nat.testBit d.2 v = true → Nat.testBit d.1 v = true)
        (ho : ∀ v, v < k → Nat.testBit d.1 v = Nat.testBit c.1 v ∧ Nat.testBit d.2 v = Nat.testBit c.2 v) (hx : charL d k = x),
        (∀ v, v < k → Nat.testBit c'.1 v = Nat.testBit c.1 v ∧ Nat.testBit c'.2 v = Nat.testBit c.2 v) ∧ (∀ i (hi : i < (x :: l).length), charL c' (k + i) = (x :: l)[i]) ∧ (∀ v, Nat.testBit c'.2 v = true → Nat.testBit c'.1 v = true) ∧
          c'.1 < 2 ^ (k + (x :: l).length) ∧ c'.2 < 2 ^ (k + (x :: l).length) := fun d hd b1 b2 hm' ho hx => by
      obtain ⟨r1, r2, r3, r4, r5⟩ := parse_text l (k + 1) d c' hd (by omega) b1 b2 hm'
      refine ⟨fun v hv => ⟨(r1 v (by omega)).1.trans (ho v hv).1, (r1 v (by omega)).2.trans (ho v hv).2⟩, fun i hi => ?_, r3, ?_, ?_⟩
      · cases i with
        | zero =>
          obtain ⟨q1, q2⟩ := r1 k (by omega)
          simp only [Nat.add_zero, List.getElem_cons_zero]
          rw [← hx]
          unfold charL
          rw [q1, q2]
        | succ i =>
          have := r2 i (by simpa using hi)
          simp only [List.getElem_cons_succ]
          rw [← this]
          congr 1
          omega
      · rw [show k + (x :: l).length = k + 1 + l.length by simp only [List.length_cons]; omega]; exact r4
      · rw [show k + (x :: l).length = k + 1 + l.length by simp only [List.length_cons]; omega]; exact r5
    rw [parseL] at h
    by_cases h49 : x = 49
    · rw [if_pos h49] at h
      refine key (setB c.1 k, setB c.2 k) h ?_ ?_ ?_ ?_ ?_
      · show setB c.1 k < _; rw [or_add h1]; exact add_lt h1 (by omega)
      · show setB c.2 k < _; rw [or_add h2]; exact add_lt h2 (by omega)
      · intro v
        show Nat.testBit (setB c.2 k) v = true → Nat.testBit (setB c.1 k) v = true
        rw [testBit_setB, testBit_setB]
        intro hv
        rcases Bool.or_eq_true_iff.1 hv with h3 | h3
        · simp [hm v h3]
        · simp [h3]
      · intro v hv
        show Nat.testBit (setB c.1 k) v = _ ∧ Nat.testBit (setB c.2 k) v = _
        rw [testBit_setB, testBit_setB]
        simp [show k ≠ v by omega]
      · unfold charL
        show (if Nat.testBit (setB c.1 k) k = true then if Nat.testBit (setB c.2 k) k = true then 49 else 48 else 42) = x
        rw [testBit_setB, testBit_setB]
        simp [h49]
    · rw [if_neg h49] at h
      by_cases h48 : x = 48
      · rw [if_pos h48] at h
        refine key (setB c.1 k, c.2) h ?_ ?_ ?_ ?_ ?_
        · show setB c.1 k < _; rw [or_add h1]; exact add_lt h1 (by omega)
        · show c.2 < _; omega
        · intro v
          show Nat.testBit c.2 v = true → Nat.testBit (setB c.1 k) v = true
          rw [testBit_setB]
          intro hv
          simp [hm v hv]
        · intro v hv
          show Nat.testBit (setB c.1 k) v = _ ∧ _
          rw [testBit_setB]
          simp [show k ≠ v by omega]
        · unfold charL
          show (if Nat.testBit (setB c.1 k) k = true then if Nat.testBit c.2 k = true then 49 else 48 else 42) = x
          rw [testBit_setB, Nat.testBit_lt_two_pow h2]
          simp [h48]
      · rw [if_neg h48] at h
        by_cases h42 : x = 42
        · rw [if_pos h42] at h
          refine key c h (by omega) (by omega) hm (fun v _ => ⟨rfl, rfl⟩) ?_
          unfold charL
          rw [Nat.testBit_lt_two_pow h1]
          simp [h42]
        · rw [if_neg h42] at h
          exact absurd (congrArg Prod.snd h) (by simp)

/-- What is read is told as it was. -/
theorem parsed_told {l : List UInt8} {c : Cu} (h : parseV l = (c, 0)) : CuOk c ∧ textV c l.length = l := by
  unfold parseV at h
  by_cases h64 : 64 < l.length
  · rw [if_pos h64] at h
    exact absurd (congrArg Prod.snd h) (by simp)
  · rw [if_neg h64] at h
    obtain ⟨-, r2, r3, r4, r5⟩ := parse_text l 0 (0, 0) c h (by omega) (by simp) (by simp) (by simp)
    have hp : (2 : Nat) ^ (0 + l.length) ≤ 18446744073709551616 := pow64 (by omega)
    have hc : CuOk c := ⟨by omega, by omega⟩
    refine ⟨hc, ?_⟩
    have hm : mayC c = true := (mayC_iff hc).2 (fun v _ => r3 v)
    have hn : cntV (l.length : Int) = l.length := by unfold cntV; omega
    unfold textV
    rw [if_pos hm, hn]
    apply List.ext_getElem
    · simp
    · intro i h1 h2
      simp only [List.getElem_map, List.getElem_range]
      have := r2 i h2
      rwa [Nat.zero_add] at this

theorem bit_val {n k : Nat} : n / 2 ^ k % 2 = if Nat.testBit n k = true then 1 else 0 := by
  rw [Nat.testBit_eq_decide_div_mod_eq]
  have : n / 2 ^ k % 2 < 2 := Nat.mod_lt _ (by omega)
  by_cases h : n / 2 ^ k % 2 = 1
  · simp [h]
  · simp [h]; omega
theorem mask_step {n k : Nat} (hb : Nat.testBit n k = true) : setB (n % 2 ^ k) k = n % 2 ^ (k + 1) := by
  rw [or_add (Nat.mod_lt _ (Nat.two_pow_pos k)), Nat.mod_pow_succ, bit_val, if_pos hb, Nat.mul_one]
theorem mask_none {n k : Nat} (hb : Nat.testBit n k = false) : n % 2 ^ k = n % 2 ^ (k + 1) := by
  rw [Nat.mod_pow_succ, bit_val, if_neg (by rw [hb]; decide), Nat.mul_zero, Nat.add_zero]
theorem text_parsed {c : Cu} (hc : CuOk c) (hm : mayC c = true) : ∀ (m k : Nat), k + m = 64 → parseL k (c.1 % 2 ^ k, c.2 % 2 ^ k) ((List.range' k m).map (charL c)) = (c, 0)
  | 0, k, hk => by
    obtain rfl : k = 64 := by omega
    simp only [List.range'_zero, List.map_nil, parseL]
    rw [Nat.mod_eq_of_lt (by simpa using hc.1), Nat.mod_eq_of_lt (by simpa using hc.2)]
  | m + 1, k, hk => by
    have ih := text_parsed hc hm m (k + 1) (by omega)
    rw [List.range'_succ, List.map_cons, parseL]
    by_cases t1 : Nat.testBit c.1 k = true
    · by_cases t2 : Nat.testBit c.2 k = true
      · have e : charL c k = 49 := by unfold charL; simp [t1, t2]
        rw [e]
        simp only [↓reduceIte]
        rw [mask_step t1, mask_step t2]
        exact ih
      · have t2' : Nat.testBit c.2 k = false := by simpa using t2
        have e : charL c k = 48 := by unfold charL; simp [t1, t2']
        rw [e]
        simp only [show ¬ (48 : UInt8) = 49 by decide, ↓reduceIte]
        rw [mask_step t1, mask_none t2']
        exact ih
    · have t1' : Nat.testBit c.1 k = false := by simpa using t1
      have t2' : Nat.testBit c.2 k = false := by
        cases h : Nat.testBit c.2 k with
        | false => rfl
        | true => exact absurd ((mayC_iff hc).1 hm k (by omega) h) t1
      have e : charL c k = 42 := by unfold charL; simp [t1']
      rw [e]
      simp only [show ¬ (42 : UInt8) = 49 by decide, show ¬ (42 : UInt8) = 48 by decide, ↓reduceIte]
      rw [mask_none t1', mask_none t2']
      exact ih
/-- A cube's text is read as the cube. -/
theorem told_parsed {c : Cu} (hc : CuOk c) (hm : mayC c = true) : parseV (textV c 64) = (c, 0) := by
  have hn : cntV 64 = 64 := by decide
  unfold textV
  rw [if_pos hm, hn]
  unfold parseV
  rw [if_neg (by simp)]
  have := text_parsed hc hm 64 0 (by omega)
  rw [List.range_eq_range']
  simpa [Nat.mod_one] using this
theorem textV_length (c : Cu) (n : Int) : (textV c n).length ≤ 64 := by
  unfold textV
  split
  · simp; unfold cntV; omega
  · simp
end Go.Proofs.Ytboekafmplomhaa
set_option linter.unusedVariables false
set_option linter.unusedSimpArgs false
namespace Go.Proofs.Ytboekafmplomhaa
open Go.RowKit

set_option maxHeartbeats 4000000 in
set_option maxRecDepth 100000 in
theorem cubeTexts_any {w : World} {c : Cu} (hc : CuOk c) (n : Int) (l : List UInt8) :
    Calls Try.prog 11 #[cv c, .int .i64 n, .string ⟨l.toArray⟩] w (Pure (.bool true) w) := by
  have KN := hid (fun W => known32 W)
  have hsz : (⟨l.toArray⟩ : ByteArray).size = l.length := by simp [ByteArray.size]
  go_enter Try.func11, Try.ntmps11
  go_upto_region 1 with (fail)
  refine wp_gen (fun V hV => ?_)
  have hbV : Below w.heap.size w V := by rw [hV]; (repeat' (first | (with_reducible exact Below.refl _ _) | (with_reducible refine Below.ext_mk ?_ ?_ _ _) | (with_reducible refine Below.alloc ?_ ?_ _) | (with_reducible refine Below.drew ?_) | (with_reducible refine Below.setCell ?_ ?_ _) | go_size))
  have bc : Blk V w.heap.size 85 [.int .u64 c.1, .int .u64 c.2] := by rw [hV]; exact Blk.new w 85 [.int .u64 c.1, .int .u64 c.2]
  clear hV
  have hsV := hbV.size
  by_cases h100 : 100 < l.length
  · have h1 : (100 : Int) < (l.length : Int) := by omega
    go_wp2_with (go_at_call 60; refine (KN.out _).mono ?_; rintro e w' ⟨rfl, m1, d1, rfl⟩)
    go_returns
    exact Pure.of rfl (by (repeat' (first | (with_reducible exact hbV) | (with_reducible exact Below.refl _ _) | (with_reducible refine Below.ext_mk ?_ ?_ _ _) | (with_reducible refine Below.alloc ?_ ?_ _) | (with_reducible refine Below.drew ?_) | (with_reducible refine Below.setCell ?_ ?_ _) | go_size)))
  · have h1 : ¬ (100 : Int) < (l.length : Int) := by omega
    have hle : l.length ≤ 100 := by omega
    have gP := hid (fun W => parsec_any l hle W)
    have gR := hid (fun W => rparsec_any l hle W)
    obtain ⟨⟨d, e⟩, hde⟩ : ∃ r, r = parseV l := ⟨_, rfl⟩
    rw [← hde] at gP gR
    have HE := hid hde
    clear hde
    obtain ⟨cb, hcb⟩ : ∃ cb, cb = w.heap.size := ⟨_, rfl⟩
    rw [← hcb] at bc ⊢
    clear hcb
    go_upto_region 5 with (first
      | (go_at_call 65; refine (gP.out _).mono ?_; rintro e1 w' ⟨rfl, m1, d1, rfl⟩)
      | (go_at_call 66; refine (gR.out _).mono ?_; rintro e1 w' ⟨rfl, m2, d2, rfl⟩))
    refine wp_gen (fun X hX => ?_)
    have hbX : Below w.heap.size w X := by rw [hX]; (repeat' (first | (with_reducible exact hbV) | (with_reducible exact Below.refl _ _) | (with_reducible refine Below.ext_mk ?_ ?_ _ _) | (with_reducible refine Below.alloc ?_ ?_ _) | (with_reducible refine Below.drew ?_) | (with_reducible refine Below.setCell ?_ ?_ _) | go_size))
    have bcX : Blk X cb 85 [.int .u64 c.1, .int .u64 c.2] := by rw [hX]; exact bc.below (by (repeat' (first | (with_reducible exact Below.refl _ _) | (with_reducible refine Below.ext_mk ?_ ?_ _ _) | (with_reducible refine Below.alloc ?_ ?_ _) | (with_reducible refine Below.drew ?_) | (with_reducible refine Below.setCell ?_ ?_ _) | go_size)))
    have b1 : Blk X (V.heap.size + m1.size) 85 [.int .u64 d.1, .int .u64 d.2] := by
      rw [hX]
      have := Blk.new (V.ext m1 d1) 85 [.int .u64 d.1, .int .u64 d.2]
      simp only [World.size_ext] at this
      exact this.below (by (repeat' (first | (with_reducible exact Below.refl _ _) | (with_reducible refine Below.ext_mk ?_ ?_ _ _) | (with_reducible refine Below.alloc ?_ ?_ _) | (with_reducible refine Below.drew ?_) | (with_reducible refine Below.setCell ?_ ?_ _) | go_size)))
    have b2 : Blk X (V.heap.size + m1.size + 1 + m2.size) 85 [.int .u64 d.1, .int .u64 d.2] := by
      rw [hX]
      have := Blk.new (((V.ext m1 d1).alloc (Obj.cells #[Value.int IntKind.u64 ↑d.fst, Value.int IntKind.u64 ↑d.snd] 85)).ext m2 d2) 85 [.int .u64 d.1, .int .u64 d.2]
      simp only [World.size_ext, World.size_alloc] at this
      exact this
    clear hX bc
    generalize V.heap.size + m1.size + 1 + m2.size = p2 at *
    generalize V.heap.size + m1.size = p1 at *
    clear hbV hsV
    have hsX := hbX.size
    have z0 := bcX.lt
    have z1 := b1.lt
    have z2 := b2.lt
    have c0 := bcX.cell 0
    have c1 := bcX.cell 1
    have u0 := b1.cell 0
    have u1 := b1.cell 1
    have v0 := b2.cell 0
    have v1 := b2.cell 1
    simp only [List.getElem?_cons_zero, List.getElem?_cons_succ] at c0 c1 u0 u1 v0 v1
    obtain ⟨T, hT⟩ : ∃ T : ByteArray, T = ⟨(textV c n).toArray⟩ := ⟨_, rfl⟩
    have gt := hid (fun W => hT ▸ ctext_any hc n W)
    have rt := hid (fun W => hT ▸ rtextc_any hc n W)
    have gm := hid (fun W => cmay_any hc W)
    have rm := hid (fun W => rmayc_any hc W)
    clear hT
    refine wp_region_ext (by kernel_rfl) (by kernel_rfl) (fun F hF => ?_)
    have HF := hid hF; clear hF
    repeat (first
      | (apply text_skip; (focus rfl); simp only [Act.put, List.setIfInBounds_toArray, List.set_cons_zero, List.set_cons_succ])
      | (apply text_val; (focus rfl); (focus (intro _ _; go_simp; with_reducible rfl)); simp only [Act.put, List.setIfInBounds_toArray, List.set_cons_zero, List.set_cons_succ])
      | (apply text_call; (focus rfl); (focus (intro _ _; go_simp; exact ⟨rfl, rfl⟩)); (focus (intro _ _; with_reducible (exact gm.out _))); simp only [Act.put, List.setIfInBounds_toArray, List.set_cons_zero, List.set_cons_succ])
      | (apply text_call; (focus rfl); (focus (intro _ _; go_simp; exact ⟨rfl, rfl⟩)); (focus (intro _ _; with_reducible (exact rm.out _))); simp only [Act.put, List.setIfInBounds_toArray, List.set_cons_zero, List.set_cons_succ])
      | (apply text_call; (focus rfl); (focus (intro _ _; go_simp; exact ⟨rfl, rfl⟩)); (focus (intro _ _; with_reducible (exact gt.out _))); simp only [Act.put, List.setIfInBounds_toArray, List.set_cons_zero, List.set_cons_succ])
      | (apply text_call; (focus rfl); (focus (intro _ _; go_simp; exact ⟨rfl, rfl⟩)); (focus (intro _ _; with_reducible (exact rt.out _))); simp only [Act.put, List.setIfInBounds_toArray, List.set_cons_zero, List.set_cons_succ])
      | (apply text_if; (focus (first | exact wanted_t rfl rfl | exact wanted_f rfl rfl | exact wanted_gt rfl rfl | exact wanted_gf rfl rfl)); (focus (intro hc _ _; (try simp only [Bool.and_eq_true, Bool.not_eq_true', Bool.true_and] at hc); go_simp; with_reducible rfl)); simp only [Act.put, List.setIfInBounds_toArray, List.set_cons_zero, List.set_cons_succ])
      | (apply text_if_call; (focus (first | exact wanted_t rfl rfl | exact wanted_f rfl rfl | exact wanted_gt rfl rfl | exact wanted_gf rfl rfl)); (focus (intro hc _ _; (try simp only [Bool.and_eq_true, Bool.not_eq_true', Bool.true_and] at hc); go_simp; exact ⟨rfl, rfl⟩)); (focus (intro hc _ _; with_reducible (exact gm.out _))); simp only [Act.put, List.setIfInBounds_toArray, List.set_cons_zero, List.set_cons_succ])
      | (apply text_if_call; (focus (first | exact wanted_t rfl rfl | exact wanted_f rfl rfl | exact wanted_gt rfl rfl | exact wanted_gf rfl rfl)); (focus (intro hc _ _; (try simp only [Bool.and_eq_true, Bool.not_eq_true', Bool.true_and] at hc); go_simp; exact ⟨rfl, rfl⟩)); (focus (intro hc _ _; with_reducible (exact rm.out _))); simp only [Act.put, List.setIfInBounds_toArray, List.set_cons_zero, List.set_cons_succ])
      | (apply text_if_call; (focus (first | exact wanted_t rfl rfl | exact wanted_f rfl rfl | exact wanted_gt rfl rfl | exact wanted_gf rfl rfl)); (focus (intro hc _ _; (try simp only [Bool.and_eq_true, Bool.not_eq_true', Bool.true_and] at hc); go_simp; exact ⟨rfl, rfl⟩)); (focus (intro hc _ _; with_reducible (exact gt.out _))); simp only [Act.put, List.setIfInBounds_toArray, List.set_cons_zero, List.set_cons_succ])
      | (apply text_if_call; (focus (first | exact wanted_t rfl rfl | exact wanted_f rfl rfl | exact wanted_gt rfl rfl | exact wanted_gf rfl rfl)); (focus (intro hc _ _; (try simp only [Bool.and_eq_true, Bool.not_eq_true', Bool.true_and] at hc); go_simp; exact ⟨rfl, rfl⟩)); (focus (intro hc _ _; with_reducible (exact rt.out _))); simp only [Act.put, List.setIfInBounds_toArray, List.set_cons_zero, List.set_cons_succ]))
    refine text_nil (HF.out _ (fun mx dx => ?_))
    clear HF F
    go_upto_region 7 with (fail)
    refine wp_gen (fun Y hY => ?_)
    have hbY : Below w.heap.size w Y := by rw [hY]; (repeat' (first | (with_reducible exact hbX) | (with_reducible exact Below.refl _ _) | (with_reducible refine Below.ext_mk ?_ ?_ _ _) | (with_reducible refine Below.alloc ?_ ?_ _) | (with_reducible refine Below.drew ?_) | (with_reducible refine Below.setCell ?_ ?_ _) | go_size))
    have bcY : Blk Y cb 85 [.int .u64 c.1, .int .u64 c.2] := by rw [hY]; exact bcX.ext _ _
    have b1Y : Blk Y p1 85 [.int .u64 d.1, .int .u64 d.2] := by rw [hY]; exact b1.ext _ _
    clear hY z0 z1 z2 c0 c1 u0 u1 v0 v1 b1 b2 bcX hbX hsX gt rt gR rm
    have hsY := hbY.size
    have z0 := bcY.lt
    have z1 := b1Y.lt
    have c0 := bcY.cell 0
    have c1 := bcY.cell 1
    have u0 := b1Y.cell 0
    have u1 := b1Y.cell 1
    simp only [List.getElem?_cons_zero, List.getElem?_cons_succ] at c0 c1 u0 u1
    have gT := hid (fun W => ctext_any hc 64 W)
    have gQ := hid (fun W => parsec_any (textV c 64) (by have := textV_length c 64; omega) W)
    obtain ⟨⟨r, e2⟩, hr⟩ : ∃ r, r = parseV (textV c 64) := ⟨_, rfl⟩
    rw [← hr] at gQ
    have HR := hid (fun hm => by
      have := hr.trans (told_parsed hc hm)
      exact (⟨congrArg Prod.fst this, congrArg Prod.snd this⟩ : r = c ∧ e2 = 0))
    clear hr
    obtain ⟨T2, hT2⟩ : ∃ T : ByteArray, T = ⟨(textV c 64).toArray⟩ := ⟨_, rfl⟩
    rw [← hT2] at gT gQ
    clear hT2
    by_cases he : e = 0
    · subst he
      obtain ⟨hcd, htold⟩ := parsed_told HE.out.symm
      have gt := hid (fun W => htold ▸ ctext_any hcd l.length W)
      clear htold HE gP
      refine wp_region_doc (fun F hF => ?_)
      have HF := hid hF
      clear hF
      iterate 6 (refine doc_val rfl (by first | (go_simp; done) | (go_simp; exact ⟨rfl, rfl⟩) | (go_simp; with_reducible rfl)) ?_; simp only [Act.put, List.setIfInBounds_toArray, List.set_cons_zero, List.set_cons_succ])
      refine doc_call rfl (by first | (go_simp; done) | (go_simp; exact ⟨rfl, rfl⟩) | (go_simp; with_reducible rfl)) (Calls.mono (gt.out _) ?_)
      rintro _ _ ⟨rfl, mz, dz, rfl⟩
      refine ⟨_, rfl, ?_⟩
      simp only [Act.put, List.setIfInBounds_toArray, List.set_cons_zero, List.set_cons_succ]
      iterate 3 (refine doc_val rfl (by first | (go_simp; done) | (go_simp; exact ⟨rfl, rfl⟩) | (go_simp; with_reducible rfl)) ?_; simp only [Act.put, List.setIfInBounds_toArray, List.set_cons_zero, List.set_cons_succ])
      refine doc_end (HF.out _ _ ?_)
      clear HF F
      go_upto_region 9 with (fail)
      refine wp_gen (fun Z hZ => ?_)
      have hbZ : Below w.heap.size w Z := by rw [hZ]; first | exact hbY | (repeat' (first | (with_reducible exact hbY) | (with_reducible exact Below.refl _ _) | (with_reducible refine Below.ext_mk ?_ ?_ _ _) | (with_reducible refine Below.alloc ?_ ?_ _) | (with_reducible refine Below.drew ?_) | (with_reducible refine Below.setCell ?_ ?_ _) | go_size))
      have bcZ : Blk Z cb 85 [.int .u64 c.1, .int .u64 c.2] := by rw [hZ]; first | exact bcY | exact bcY.ext _ _
      clear hZ hbY bcY b1Y hsY z0 z1 c0 c1 u0 u1
      have hsZ := hbZ.size
      have z0 := bcZ.lt
      have c0 := bcZ.cell 0
      have c1 := bcZ.cell 1
      simp only [List.getElem?_cons_zero, List.getElem?_cons_succ] at c0 c1
      go_upto_region 10 with (first
        | (go_at_call 68; refine (gT.out _).mono ?_; rintro e1 w' ⟨rfl, m3, d3, rfl⟩)
        | (go_at_call 65; refine (gQ.out _).mono ?_; rintro e1 w' ⟨rfl, m4, d4, rfl⟩))
      refine wp_gen (fun A hA => ?_)
      have hbA : Below w.heap.size w A := by rw [hA]; (repeat' (first | (with_reducible exact hbZ) | (with_reducible exact Below.refl _ _) | (with_reducible refine Below.ext_mk ?_ ?_ _ _) | (with_reducible refine Below.alloc ?_ ?_ _) | (with_reducible refine Below.drew ?_) | (with_reducible refine Below.setCell ?_ ?_ _) | go_size))
      have bcA : Blk A cb 85 [.int .u64 c.1, .int .u64 c.2] := by rw [hA]; exact bcZ.below (by (repeat' (first | (with_reducible exact Below.refl _ _) | (with_reducible refine Below.ext_mk ?_ ?_ _ _) | (with_reducible refine Below.alloc ?_ ?_ _) | (with_reducible refine Below.drew ?_) | (with_reducible refine Below.setCell ?_ ?_ _) | go_size)))
      have b3 : Blk A (Z.heap.size + (m3.size + m4.size)) 85 [.int .u64 r.1, .int .u64 r.2] := by
        rw [hA]
        first
          | (have := Blk.new ((Z.ext m3 d3).ext m4 d4) 85 [.int .u64 r.1, .int .u64 r.2]; simp only [World.size_ext, World.ext_ext, Array.size_append] at this ⊢; exact this)
      clear hA hbZ bcZ hsZ z0 c0 c1 gT gQ
      have hsA := hbA.size
      have z0 := bcA.lt
      have z3 := b3.lt
      have c0 := bcA.cell 0
      have c1 := bcA.cell 1
      have u0 := b3.cell 0
      have u1 := b3.cell 1
      simp only [List.getElem?_cons_zero, List.getElem?_cons_succ] at c0 c1 u0 u1
      generalize Z.heap.size + (m3.size + m4.size) = p3 at *
      cases hm : mayC c
      · rw [hm] at gm
        refine wp_region_doc (fun F hF => ?_)
        have HF := hid hF
        clear hF
        iterate 1 (refine doc_val rfl (by first | (go_simp; done) | (go_simp; exact ⟨rfl, rfl⟩) | (go_simp; with_reducible rfl)) ?_; simp only [Act.put, List.setIfInBounds_toArray, List.set_cons_zero, List.set_cons_succ])
        refine doc_call rfl (by first | (go_simp; done) | (go_simp; exact ⟨rfl, rfl⟩) | (go_simp; with_reducible rfl)) (Calls.mono (gm.out _) ?_)
        rintro _ _ ⟨rfl, mz, dz, rfl⟩
        refine ⟨_, rfl, ?_⟩
        simp only [Act.put, List.setIfInBounds_toArray, List.set_cons_zero, List.set_cons_succ]
        iterate 2 (refine doc_val rfl (by first | (go_simp; done) | (go_simp; exact ⟨rfl, rfl⟩) | (go_simp; with_reducible rfl)) ?_; simp only [Act.put, List.setIfInBounds_toArray, List.set_cons_zero, List.set_cons_succ])
        iterate 7 (refine doc_not rfl ?_; simp only [Act.put, List.setIfInBounds_toArray, List.set_cons_zero, List.set_cons_succ])
        iterate 2 (refine doc_val rfl (by first | (go_simp; done) | (go_simp; exact ⟨rfl, rfl⟩) | (go_simp; with_reducible rfl)) ?_; simp only [Act.put, List.setIfInBounds_toArray, List.set_cons_zero, List.set_cons_succ])
        refine doc_call rfl (by first | (go_simp; done) | (go_simp; exact ⟨rfl, rfl⟩) | (go_simp; with_reducible rfl)) (Calls.mono (KN.out _) ?_)
        rintro _ _ ⟨rfl, mz, dz, rfl⟩
        refine ⟨_, rfl, ?_⟩
        simp only [Act.put, List.setIfInBounds_toArray, List.set_cons_zero, List.set_cons_succ]
        iterate 2 (refine doc_val rfl (by first | (go_simp; done) | (go_simp; exact ⟨rfl, rfl⟩) | (go_simp; with_reducible rfl)) ?_; simp only [Act.put, List.setIfInBounds_toArray, List.set_cons_zero, List.set_cons_succ])
        refine doc_end (HF.out _ _ ?_)
        clear HF F
        go_wp2
        go_returns
        exact Pure.of rfl (by (repeat' (first | (with_reducible exact hbA) | (with_reducible exact Below.refl _ _) | (with_reducible refine Below.ext_mk ?_ ?_ _ _) | (with_reducible refine Below.alloc ?_ ?_ _) | (with_reducible refine Below.drew ?_) | (with_reducible refine Below.setCell ?_ ?_ _) | go_size)))
      · rw [hm] at gm
        obtain ⟨hr1, hr2⟩ := HR.out hm
        subst hr1
        subst hr2
        clear HR
        refine wp_region_doc (fun F hF => ?_)
        have HF := hid hF
        clear hF
        iterate 1 (refine doc_val rfl (by first | (go_simp; done) | (go_simp; exact ⟨rfl, rfl⟩) | (go_simp; with_reducible rfl)) ?_; simp only [Act.put, List.setIfInBounds_toArray, List.set_cons_zero, List.set_cons_succ])
        refine doc_call rfl (by first | (go_simp; done) | (go_simp; exact ⟨rfl, rfl⟩) | (go_simp; with_reducible rfl)) (Calls.mono (gm.out _) ?_)
        rintro _ _ ⟨rfl, mz, dz, rfl⟩
        refine ⟨_, rfl, ?_⟩
        simp only [Act.put, List.setIfInBounds_toArray, List.set_cons_zero, List.set_cons_succ]
        iterate 11 (refine doc_val rfl (by first | (go_simp; done) | (go_simp; exact ⟨rfl, rfl⟩) | (go_simp; with_reducible rfl)) ?_; simp only [Act.put, List.setIfInBounds_toArray, List.set_cons_zero, List.set_cons_succ])
        refine doc_call rfl (by first | (go_simp; done) | (go_simp; exact ⟨rfl, rfl⟩) | (go_simp; with_reducible rfl)) (Calls.mono (KN.out _) ?_)
        rintro _ _ ⟨rfl, mz, dz, rfl⟩
        refine ⟨_, rfl, ?_⟩
        simp only [Act.put, List.setIfInBounds_toArray, List.set_cons_zero, List.set_cons_succ]
        iterate 2 (refine doc_val rfl (by first | (go_simp; done) | (go_simp; exact ⟨rfl, rfl⟩) | (go_simp; with_reducible rfl)) ?_; simp only [Act.put, List.setIfInBounds_toArray, List.set_cons_zero, List.set_cons_succ])
        refine doc_end (HF.out _ _ ?_)
        clear HF F
        go_wp2
        go_returns
        exact Pure.of rfl (by (repeat' (first | (with_reducible exact hbA) | (with_reducible exact Below.refl _ _) | (with_reducible refine Below.ext_mk ?_ ?_ _ _) | (with_reducible refine Below.alloc ?_ ?_ _) | (with_reducible refine Below.drew ?_) | (with_reducible refine Below.setCell ?_ ?_ _) | go_size)))
    · have he' : (e == 0) = false := by simpa using he
      clear HE
      refine wp_region_doc (fun F hF => ?_)
      have HF := hid hF
      clear hF
      iterate 3 (refine doc_val rfl (by first | (go_simp; done) | (go_simp; exact ⟨rfl, rfl⟩) | (go_simp; with_reducible rfl)) ?_; simp only [Act.put, List.setIfInBounds_toArray, List.set_cons_zero, List.set_cons_succ])
      iterate 6 (refine doc_not rfl ?_; simp only [Act.put, List.setIfInBounds_toArray, List.set_cons_zero, List.set_cons_succ])
      iterate 1 (refine doc_val rfl (by first | (go_simp; done) | (go_simp; exact ⟨rfl, rfl⟩) | (go_simp; with_reducible rfl)) ?_; simp only [Act.put, List.setIfInBounds_toArray, List.set_cons_zero, List.set_cons_succ])
      refine doc_end (HF.out _ _ ?_)
      clear HF F
      go_upto_region 9 with (fail)
      refine wp_gen (fun Z hZ => ?_)
      have hbZ : Below w.heap.size w Z := by rw [hZ]; first | exact hbY | (repeat' (first | (with_reducible exact hbY) | (with_reducible exact Below.refl _ _) | (with_reducible refine Below.ext_mk ?_ ?_ _ _) | (with_reducible refine Below.alloc ?_ ?_ _) | (with_reducible refine Below.drew ?_) | (with_reducible refine Below.setCell ?_ ?_ _) | go_size))
      have bcZ : Blk Z cb 85 [.int .u64 c.1, .int .u64 c.2] := by rw [hZ]; first | exact bcY | exact bcY.ext _ _
      clear hZ hbY bcY b1Y hsY z0 z1 c0 c1 u0 u1
      have hsZ := hbZ.size
      have z0 := bcZ.lt
      have c0 := bcZ.cell 0
      have c1 := bcZ.cell 1
      simp only [List.getElem?_cons_zero, List.getElem?_cons_succ] at c0 c1
      go_upto_region 10 with (first
        | (go_at_call 68; refine (gT.out _).mono ?_; rintro e1 w' ⟨rfl, m3, d3, rfl⟩)
        | (go_at_call 65; refine (gQ.out _).mono ?_; rintro e1 w' ⟨rfl, m4, d4, rfl⟩))
      refine wp_gen (fun A hA => ?_)
      have hbA : Below w.heap.size w A := by rw [hA]; (repeat' (first | (with_reducible exact hbZ) | (with_reducible exact Below.refl _ _) | (with_reducible refine Below.ext_mk ?_ ?_ _ _) | (with_reducible refine Below.alloc ?_ ?_ _) | (with_reducible refine Below.drew ?_) | (with_reducible refine Below.setCell ?_ ?_ _) | go_size))
      have bcA : Blk A cb 85 [.int .u64 c.1, .int .u64 c.2] := by rw [hA]; exact bcZ.below (by (repeat' (first | (with_reducible exact Below.refl _ _) | (with_reducible refine Below.ext_mk ?_ ?_ _ _) | (with_reducible refine Below.alloc ?_ ?_ _) | (with_reducible refine Below.drew ?_) | (with_reducible refine Below.setCell ?_ ?_ _) | go_size)))
      have b3 : Blk A (Z.heap.size + (m3.size + m4.size)) 85 [.int .u64 r.1, .int .u64 r.2] := by
        rw [hA]
        first
          | (have := Blk.new ((Z.ext m3 d3).ext m4 d4) 85 [.int .u64 r.1, .int .u64 r.2]; simp only [World.size_ext, World.ext_ext, Array.size_append] at this ⊢; exact this)
      clear hA hbZ bcZ hsZ z0 c0 c1 gT gQ
      have hsA := hbA.size
      have z0 := bcA.lt
      have z3 := b3.lt
      have c0 := bcA.cell 0
      have c1 := bcA.cell 1
      have u0 := b3.cell 0
      have u1 := b3.cell 1
      simp only [List.getElem?_cons_zero, List.getElem?_cons_succ] at c0 c1 u0 u1
      generalize Z.heap.size + (m3.size + m4.size) = p3 at *
      cases hm : mayC c
      · rw [hm] at gm
        refine wp_region_doc (fun F hF => ?_)
        have HF := hid hF
        clear hF
        iterate 1 (refine doc_val rfl (by first | (go_simp; done) | (go_simp; exact ⟨rfl, rfl⟩) | (go_simp; with_reducible rfl)) ?_; simp only [Act.put, List.setIfInBounds_toArray, List.set_cons_zero, List.set_cons_succ])
        refine doc_call rfl (by first | (go_simp; done) | (go_simp; exact ⟨rfl, rfl⟩) | (go_simp; with_reducible rfl)) (Calls.mono (gm.out _) ?_)
        rintro _ _ ⟨rfl, mz, dz, rfl⟩
        refine ⟨_, rfl, ?_⟩
        simp only [Act.put, List.setIfInBounds_toArray, List.set_cons_zero, List.set_cons_succ]
        iterate 2 (refine doc_val rfl (by first | (go_simp; done) | (go_simp; exact ⟨rfl, rfl⟩) | (go_simp; with_reducible rfl)) ?_; simp only [Act.put, List.setIfInBounds_toArray, List.set_cons_zero, List.set_cons_succ])
        iterate 7 (refine doc_not rfl ?_; simp only [Act.put, List.setIfInBounds_toArray, List.set_cons_zero, List.set_cons_succ])
        iterate 2 (refine doc_val rfl (by first | (go_simp; done) | (go_simp; exact ⟨rfl, rfl⟩) | (go_simp; with_reducible rfl)) ?_; simp only [Act.put, List.setIfInBounds_toArray, List.set_cons_zero, List.set_cons_succ])
        refine doc_call rfl (by first | (go_simp; done) | (go_simp; exact ⟨rfl, rfl⟩) | (go_simp; with_reducible rfl)) (Calls.mono (KN.out _) ?_)
        rintro _ _ ⟨rfl, mz, dz, rfl⟩
        refine ⟨_, rfl, ?_⟩
        simp only [Act.put, List.setIfInBounds_toArray, List.set_cons_zero, List.set_cons_succ]
        iterate 2 (refine doc_val rfl (by first | (go_simp; done) | (go_simp; exact ⟨rfl, rfl⟩) | (go_simp; with_reducible rfl)) ?_; simp only [Act.put, List.setIfInBounds_toArray, List.set_cons_zero, List.set_cons_succ])
        refine doc_end (HF.out _ _ ?_)
        clear HF F
        go_wp2
        go_returns
        exact Pure.of rfl (by (repeat' (first | (with_reducible exact hbA) | (with_reducible exact Below.refl _ _) | (with_reducible refine Below.ext_mk ?_ ?_ _ _) | (with_reducible refine Below.alloc ?_ ?_ _) | (with_reducible refine Below.drew ?_) | (with_reducible refine Below.setCell ?_ ?_ _) | go_size)))
      · rw [hm] at gm
        obtain ⟨hr1, hr2⟩ := HR.out hm
        subst hr1
        subst hr2
        clear HR
        refine wp_region_doc (fun F hF => ?_)
        have HF := hid hF
        clear hF
        iterate 1 (refine doc_val rfl (by first | (go_simp; done) | (go_simp; exact ⟨rfl, rfl⟩) | (go_simp; with_reducible rfl)) ?_; simp only [Act.put, List.setIfInBounds_toArray, List.set_cons_zero, List.set_cons_succ])
        refine doc_call rfl (by first | (go_simp; done) | (go_simp; exact ⟨rfl, rfl⟩) | (go_simp; with_reducible rfl)) (Calls.mono (gm.out _) ?_)
        rintro _ _ ⟨rfl, mz, dz, rfl⟩
        refine ⟨_, rfl, ?_⟩
        simp only [Act.put, List.setIfInBounds_toArray, List.set_cons_zero, List.set_cons_succ]
        iterate 11 (refine doc_val rfl (by first | (go_simp; done) | (go_simp; exact ⟨rfl, rfl⟩) | (go_simp; with_reducible rfl)) ?_; simp only [Act.put, List.setIfInBounds_toArray, List.set_cons_zero, List.set_cons_succ])
        refine doc_call rfl (by first | (go_simp; done) | (go_simp; exact ⟨rfl, rfl⟩) | (go_simp; with_reducible rfl)) (Calls.mono (KN.out _) ?_)
        rintro _ _ ⟨rfl, mz, dz, rfl⟩
        refine ⟨_, rfl, ?_⟩
        simp only [Act.put, List.setIfInBounds_toArray, List.set_cons_zero, List.set_cons_succ]
        iterate 2 (refine doc_val rfl (by first | (go_simp; done) | (go_simp; exact ⟨rfl, rfl⟩) | (go_simp; with_reducible rfl)) ?_; simp only [Act.put, List.setIfInBounds_toArray, List.set_cons_zero, List.set_cons_succ])
        refine doc_end (HF.out _ _ ?_)
        clear HF F
        go_wp2
        go_returns
        exact Pure.of rfl (by (repeat' (first | (with_reducible exact hbA) | (with_reducible exact Below.refl _ _) | (with_reducible refine Below.ext_mk ?_ ?_ _ _) | (with_reducible refine Below.alloc ?_ ?_ _) | (with_reducible refine Below.drew ?_) | (with_reducible refine Below.setCell ?_ ?_ _) | go_size)))
end Go.Proofs.Ytboekafmplomhaa
