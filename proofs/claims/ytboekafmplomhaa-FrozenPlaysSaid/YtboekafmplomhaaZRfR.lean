/-
  The document's parts: the walk.
-/
import Derived.Test.YtboekafmplomhaaZRfQ
set_option linter.unusedVariables false
set_option linter.unusedSimpArgs false
namespace Go.Proofs.Ytboekafmplomhaa
open Go.RowKit

theorem fr_result2 {w : World} {fn : Func} {p q : Tmp} {tmps : Array Value} {g : Nat} {e : TypeId} {x y z : Value} (h : fn.results = #[.cell p 153, .tmp q]) (hp : tmps.getD p undef = .pointer (some ⟨g, 0, none⟩)) (hg : Blk w g e [x, y, z]) :
    (results fn tmps).run Try.prog w = .ok (.tuple #[.agg #[x, y, z], tmps.getD q undef]) w := by
  have hp' : tmps[p]?.getD undef = .pointer (some ⟨g, 0, none⟩) := by simpa using hp
  have hi : (Try.prog.info? 153).map (·.size) = some 3 := by kernel_rfl
  have hl := run_loadVar_row (P := Try.prog) w g e 153 [x, y, z].toArray (0, 0) _ hg Try.underlying153 rfl (by simpa using hi)
  simp [results, h, hp', asAddr, hl]

/-- What parts tells. -/
def PartsPost (B : Nat) (w : World) (R : Option (List Nd × List Int)) (e : Ending) (w' : World) : Prop :=
  ∃ (a1 : Option Addr) (n1 c1 : Nat) (a2 : Option Addr) (n2 c2 : Nat) (a3 : Option Addr) (n3 c3 : Nat) (b : Bool), e = .returned (.tuple #[.agg #[.slice a1 n1 c1, .slice a2 n2 c2, .slice a3 n3 c3], .bool b]) ∧ Below B w w' ∧
    b = R.isSome ∧ ∀ P, R = some P → ∃ old G, FrIs w' (.agg #[.slice a1 n1 c1, .slice a2 n2 c2, .slice a3 n3 c3]) P.1 old P.2 ∧ RowIs w' (.slice a1 n1 c1) G 39 3 P.1.length (flat P.1) ∧ (∀ g, G = some g → B ≤ g) ∧ ∃ G3, RowIs w' (.slice a3 n3 c3) G3 3 1 P.2.length (ints P.2) ∧ ∀ g, G3 = some g → B ≤ g
/-- The state of parts: nodes, old numbers, roots in rows of their own. -/
structure PartsW (B fb rb : Nat) (w : World) (a1 : Option Addr) (c1 : Nat) (a2 : Option Addr) (c2 : Nat) (a3 : Option Addr) (c3 : Nat) (ns : List Nd) (old rs : List Int) (G1 G2 G3 : Option Nat) : Prop where
  bF : Blk w fb 153 [.slice a1 ns.length c1, .slice a2 old.length c2, .slice a3 rs.length c3]
  bR : Blk w rb 153 [.slice none 0 0, .slice none 0 0, .slice none 0 0]
  r1 : RowIs w (.slice a1 ns.length c1) G1 39 3 ns.length (flat ns)
  r2 : RowIs w (.slice a2 old.length c2) G2 3 1 old.length (ints old)
  r3 : RowIs w (.slice a3 rs.length c3) G3 3 1 rs.length (ints rs)
  g1 : ∀ g, G1 = some g → B ≤ g
  g2 : ∀ g, G2 = some g → B ≤ g
  g3 : ∀ g, G3 = some g → B ≤ g
  g23 : ∀ g, G2 = some g → G3 ≠ some g
section
variable {B fb rb : Nat} {w w' : World} {a1 a2 a3 : Option Addr} {c1 c2 c3 : Nat} {ns : List Nd} {old rs : List Int} {G1 G2 G3 : Option Nat}
theorem PartsW.below (h : PartsW B fb rb w a1 c1 a2 c2 a3 c3 ns old rs G1 G2 G3) (hb : Below w.heap.size w w') : PartsW B fb rb w' a1 c1 a2 c2 a3 c3 ns old rs G1 G2 G3 where
  bF := h.bF.below hb
  bR := h.bR.below hb
  r1 := RowIs.keep h.r1 (fun g hg => hb.block g (RowIs.lt h.r1 g hg))
  r2 := RowIs.keep h.r2 (fun g hg => hb.block g (RowIs.lt h.r2 g hg))
  r3 := RowIs.keep h.r3 (fun g hg => hb.block g (RowIs.lt h.r3 g hg))
  g1 := h.g1
  g2 := h.g2
  g3 := h.g3
  g23 := h.g23
theorem RowIs.ne2 {w : World} {sv sv' : Value} {g g' : Nat} {e e' : TypeId} {s s' n n' : Nat} {xs xs' : List Value} (h : RowIs w sv (some g) e s n xs) (h' : RowIs w sv' (some g') e' s' n' xs') (he : e ≠ e') : g ≠ g' := by
  intro x
  subst x
  obtain ⟨_, ⟨_, _, h3⟩ | ⟨g1, cap, cur, h1, h2, h3, _⟩⟩ := h
  · cases h3
  obtain ⟨_, ⟨_, _, h4⟩ | ⟨g2, cap', cur', h5, h6, h7, _⟩⟩ := h'
  · cases h4
  cases h2
  cases h6
  rw [h3] at h7
  simp at h7
  exact he h7.2
theorem tB_int : (39 : TypeId) ≠ 3 := by decide
theorem tB_fr : (39 : TypeId) ≠ 153 := by decide
theorem tI_fr : (3 : TypeId) ≠ 153 := by decide
/-- The end of parts: the result is laid. -/
theorem PartsW.fin (h : PartsW B fb rb w a1 c1 a2 c2 a3 c3 ns old rs G1 G2 G3) (hfr : fb ≠ rb) {w0 : World} (hb : Below B w0 w) (hB : B ≤ rb) :
    Below B w0 (w.setRow rb [.slice a1 ns.length c1, .slice a2 old.length c2, .slice a3 rs.length c3].toArray) ∧ Blk (w.setRow rb [.slice a1 ns.length c1, .slice a2 old.length c2, .slice a3 rs.length c3].toArray) rb 153 [.slice a1 ns.length c1, .slice a2 old.length c2, .slice a3 rs.length c3] ∧
    FrIs (w.setRow rb [.slice a1 ns.length c1, .slice a2 old.length c2, .slice a3 rs.length c3].toArray) (.agg #[.slice a1 ns.length c1, .slice a2 old.length c2, .slice a3 rs.length c3]) ns old rs ∧
    RowIs (w.setRow rb [.slice a1 ns.length c1, .slice a2 old.length c2, .slice a3 rs.length c3].toArray) (.slice a1 ns.length c1) G1 39 3 ns.length (flat ns) ∧
    RowIs (w.setRow rb [.slice a1 ns.length c1, .slice a2 old.length c2, .slice a3 rs.length c3].toArray) (.slice a3 rs.length c3) G3 3 1 rs.length (ints rs) := by
  have hk : ∀ k, k ≠ rb → (w.setRow rb [.slice a1 ns.length c1, .slice a2 old.length c2, .slice a3 rs.length c3].toArray).heap[k]? = w.heap[k]? := fun k hk => heap_setRow_ne _ (fun q => hk q.symm)
  have k1 := RowIs.keep h.r1 (w' := w.setRow rb [.slice a1 ns.length c1, .slice a2 old.length c2, .slice a3 rs.length c3].toArray) (fun g hg => hk g (by subst hg; exact RowIs.neBlk h.r1 h.bR tB_fr))
  have k2 := RowIs.keep h.r2 (w' := w.setRow rb [.slice a1 ns.length c1, .slice a2 old.length c2, .slice a3 rs.length c3].toArray) (fun g hg => hk g (by subst hg; exact RowIs.neBlk h.r2 h.bR tI_fr))
  have k3 := RowIs.keep h.r3 (w' := w.setRow rb [.slice a1 ns.length c1, .slice a2 old.length c2, .slice a3 rs.length c3].toArray) (fun g hg => hk g (by subst hg; exact RowIs.neBlk h.r3 h.bR tI_fr))
  exact ⟨Below.setRow hb hB _, h.bR.row _, ⟨a1, c1, a2, c2, a3, c3, rfl, RowIs.rd k1, RowIs.rd k2, RowIs.rd k3⟩, k1, k3⟩
/-- One more node. -/
theorem PartsW.node (h : PartsW B fb rb w a1 c1 a2 c2 a3 c3 ns old rs G1 G2 G3) (hfr : fb ≠ rb) (hns : ns.length ≤ 8388608) (hB : B ≤ w.heap.size) (hfB : B ≤ fb) (n : Nd) {w0 : World} (hb : Below B w0 w) :
    ∃ (a1' : Option Addr) (c1' : Nat) (w1 : World) (G1' : Option Nat), (Builtin.append_ #[43, 43] 43 #[.slice a1 ns.length c1, .slice (some ⟨w.heap.size, 0, none⟩) 1 1]).run Try.prog (w.alloc (.cells #[.int .i64 n.1, .int .i64 n.2.1, .int .i64 n.2.2] 39)) = .ok (.slice a1' (ns ++ [n]).length c1') w1 ∧
      Blk w1 fb 153 [.slice a1 ns.length c1, .slice a2 old.length c2, .slice a3 rs.length c3] ∧
      PartsW B fb rb (w1.setCell ⟨fb, 0, none⟩ (.slice a1' (ns ++ [n]).length c1')) a1' c1' a2 c2 a3 c3 (ns ++ [n]) old rs G1' G2 G3 ∧ Below B w0 (w1.setCell ⟨fb, 0, none⟩ (.slice a1' (ns ++ [n]).length c1')) := by
  obtain ⟨v', w1, G', p1, p2, p3, p4⟩ := node_one h.r1 hns n
  obtain ⟨a1', c1', rfl, _⟩ := RowIs.form p2
  have hGB : B ≤ G' := by
    rcases p3 with e | e
    · exact h.g1 _ e
    · omega
  have hk1 : ∀ k, k < w.heap.size → G1 ≠ some k → w1.heap[k]? = w.heap[k]? := fun k hk hn => p4.block k hk (by simpa using hn)
  have bF1 := h.bF.keep (hk1 fb h.bF.lt (fun e => RowIs.neBlk (e ▸ h.r1) h.bF tB_fr rfl))
  have bR1 := h.bR.keep (hk1 rb h.bR.lt (fun e => RowIs.neBlk (e ▸ h.r1) h.bR tB_fr rfl))
  have k2 := RowIs.keep h.r2 (fun g hg => hk1 g (RowIs.lt h.r2 g hg) (fun e => RowIs.ne2 (e ▸ h.r1) (hg ▸ h.r2) tB_int rfl))
  have k3 := RowIs.keep h.r3 (fun g hg => hk1 g (RowIs.lt h.r3 g hg) (fun e => RowIs.ne2 (e ▸ h.r1) (hg ▸ h.r3) tB_int rfl))
  have hb1 : Below B w0 w1 := hb.trans (p4.below (fun k hk => h.g1 k (by simpa using hk)) hB)
  have hk2 : ∀ k, k ≠ fb → (w1.setCell ⟨fb, 0, none⟩ (.slice a1' (ns ++ [n]).length c1')).heap[k]? = w1.heap[k]? := fun k hk => Below.heap_setCell _ _ _ _ hk
  refine ⟨a1', c1', w1, some G', p1, bF1, ?_, hb1.setCell (p := ⟨fb, 0, none⟩) hfB _⟩
  exact { bF := bF1.set_ 0 _, bR := bR1.keep (hk2 rb (fun q => hfr q.symm))
          r1 := RowIs.keep p2 (fun g hg => hk2 g (by cases hg; exact RowIs.neBlk p2 bF1 tB_fr))
          r2 := RowIs.keep k2 (fun g hg => hk2 g (by subst hg; exact RowIs.neBlk k2 bF1 tI_fr))
          r3 := RowIs.keep k3 (fun g hg => hk2 g (by subst hg; exact RowIs.neBlk k3 bF1 tI_fr))
          g1 := fun g hg => by cases hg; exact hGB
          g2 := h.g2, g3 := h.g3, g23 := h.g23 }
/-- One more old number. -/
theorem PartsW.old1 (h : PartsW B fb rb w a1 c1 a2 c2 a3 c3 ns old rs G1 G2 G3) (hfr : fb ≠ rb) (hns : old.length ≤ 8388608) (hB : B ≤ w.heap.size) (hfB : B ≤ fb) (n : Int) {w0 : World} (hb : Below B w0 w) :
    ∃ (a2' : Option Addr) (c2' : Nat) (w1 : World) (G2' : Option Nat), (Builtin.append_ #[28, 28] 28 #[.slice a2 old.length c2, .slice (some ⟨w.heap.size, 0, none⟩) 1 1]).run Try.prog (w.alloc (.cells #[.int .i64 n] 3)) = .ok (.slice a2' (old ++ [n]).length c2') w1 ∧
      Blk w1 fb 153 [.slice a1 ns.length c1, .slice a2 old.length c2, .slice a3 rs.length c3] ∧
      PartsW B fb rb (w1.setCell ⟨fb, 1, none⟩ (.slice a2' (old ++ [n]).length c2')) a1 c1 a2' c2' a3 c3 ns (old ++ [n]) rs G1 G2' G3 ∧ Below B w0 (w1.setCell ⟨fb, 1, none⟩ (.slice a2' (old ++ [n]).length c2')) := by
  obtain ⟨v', w1, G', p1, p2, p3, p4⟩ := int_one h.r2 hns n
  obtain ⟨a1', c1', rfl, _⟩ := RowIs.form p2
  have hGB : B ≤ G' := by
    rcases p3 with e | e
    · exact h.g2 _ e
    · omega
  have hk1 : ∀ k, k < w.heap.size → G2 ≠ some k → w1.heap[k]? = w.heap[k]? := fun k hk hn => p4.block k hk (by simpa using hn)
  have bF1 := h.bF.keep (hk1 fb h.bF.lt (fun e => RowIs.neBlk (e ▸ h.r2) h.bF tI_fr rfl))
  have bR1 := h.bR.keep (hk1 rb h.bR.lt (fun e => RowIs.neBlk (e ▸ h.r2) h.bR tI_fr rfl))
  have k1 := RowIs.keep h.r1 (fun g hg => hk1 g (RowIs.lt h.r1 g hg) (fun e => RowIs.ne2 (hg ▸ h.r1) (e ▸ h.r2) tB_int rfl))
  have k3 := RowIs.keep h.r3 (fun g hg => hk1 g (RowIs.lt h.r3 g hg) (fun e => h.g23 g e hg))
  have hb1 : Below B w0 w1 := hb.trans (p4.below (fun k hk => h.g2 k (by simpa using hk)) hB)
  have hk2 : ∀ k, k ≠ fb → (w1.setCell ⟨fb, 1, none⟩ (.slice a1' (old ++ [n]).length c1')).heap[k]? = w1.heap[k]? := fun k hk => Below.heap_setCell _ _ _ _ hk
  refine ⟨a1', c1', w1, some G', p1, bF1, ?_, hb1.setCell (p := ⟨fb, 1, none⟩) hfB _⟩
  exact { bF := bF1.set_ 1 _, bR := bR1.keep (hk2 rb (fun q => hfr q.symm))
          r1 := RowIs.keep k1 (fun g hg => hk2 g (by subst hg; exact RowIs.neBlk k1 bF1 tB_fr))
          r2 := RowIs.keep p2 (fun g hg => hk2 g (by cases hg; exact RowIs.neBlk p2 bF1 tI_fr))
          r3 := RowIs.keep k3 (fun g hg => hk2 g (by subst hg; exact RowIs.neBlk k3 bF1 tI_fr))
          g1 := h.g1
          g2 := fun g hg => by cases hg; exact hGB
          g3 := h.g3
          g23 := fun g hg e => by
            cases hg
            rcases p3 with q | q
            · exact h.g23 _ q e
            · have := RowIs.lt h.r3 _ e; omega }
/-- One more root. -/
theorem PartsW.root (h : PartsW B fb rb w a1 c1 a2 c2 a3 c3 ns old rs G1 G2 G3) (hfr : fb ≠ rb) (hns : rs.length ≤ 8388608) (hB : B ≤ w.heap.size) (hfB : B ≤ fb) (n : Int) {w0 : World} (hb : Below B w0 w) :
    ∃ (a3' : Option Addr) (c3' : Nat) (w1 : World) (G3' : Option Nat), (Builtin.append_ #[28, 28] 28 #[.slice a3 rs.length c3, .slice (some ⟨w.heap.size, 0, none⟩) 1 1]).run Try.prog (w.alloc (.cells #[.int .i64 n] 3)) = .ok (.slice a3' (rs ++ [n]).length c3') w1 ∧
      Blk w1 fb 153 [.slice a1 ns.length c1, .slice a2 old.length c2, .slice a3 rs.length c3] ∧
      PartsW B fb rb (w1.setCell ⟨fb, 2, none⟩ (.slice a3' (rs ++ [n]).length c3')) a1 c1 a2 c2 a3' c3' ns old (rs ++ [n]) G1 G2 G3' ∧ Below B w0 (w1.setCell ⟨fb, 2, none⟩ (.slice a3' (rs ++ [n]).length c3')) := by
  obtain ⟨v', w1, G', p1, p2, p3, p4⟩ := int_one h.r3 hns n
  obtain ⟨a1', c1', rfl, _⟩ := RowIs.form p2
  have hGB : B ≤ G' := by
    rcases p3 with e | e
    · exact h.g3 _ e
    · omega
  have hk1 : ∀ k, k < w.heap.size → G3 ≠ some k → w1.heap[k]? = w.heap[k]? := fun k hk hn => p4.block k hk (by simpa using hn)
  have bF1 := h.bF.keep (hk1 fb h.bF.lt (fun e => RowIs.neBlk (e ▸ h.r3) h.bF tI_fr rfl))
  have bR1 := h.bR.keep (hk1 rb h.bR.lt (fun e => RowIs.neBlk (e ▸ h.r3) h.bR tI_fr rfl))
  have k1 := RowIs.keep h.r1 (fun g hg => hk1 g (RowIs.lt h.r1 g hg) (fun e => RowIs.ne2 (hg ▸ h.r1) (e ▸ h.r3) tB_int rfl))
  have k2 := RowIs.keep h.r2 (fun g hg => hk1 g (RowIs.lt h.r2 g hg) (fun e => h.g23 g hg e))
  have hb1 : Below B w0 w1 := hb.trans (p4.below (fun k hk => h.g3 k (by simpa using hk)) hB)
  have hk2 : ∀ k, k ≠ fb → (w1.setCell ⟨fb, 2, none⟩ (.slice a1' (rs ++ [n]).length c1')).heap[k]? = w1.heap[k]? := fun k hk => Below.heap_setCell _ _ _ _ hk
  refine ⟨a1', c1', w1, some G', p1, bF1, ?_, hb1.setCell (p := ⟨fb, 2, none⟩) hfB _⟩
  exact { bF := bF1.set_ 2 _, bR := bR1.keep (hk2 rb (fun q => hfr q.symm))
          r1 := RowIs.keep k1 (fun g hg => hk2 g (by subst hg; exact RowIs.neBlk k1 bF1 tB_fr))
          r2 := RowIs.keep k2 (fun g hg => hk2 g (by subst hg; exact RowIs.neBlk k2 bF1 tI_fr))
          r3 := RowIs.keep p2 (fun g hg => hk2 g (by cases hg; exact RowIs.neBlk p2 bF1 tI_fr))
          g1 := h.g1, g2 := h.g2
          g3 := fun g hg => by cases hg; exact hGB
          g23 := fun g hg e => by
            cases e
            rcases p3 with q | q
            · exact h.g23 _ hg q
            · have := RowIs.lt h.r2 _ hg; omega }
end
end Go.Proofs.Ytboekafmplomhaa
