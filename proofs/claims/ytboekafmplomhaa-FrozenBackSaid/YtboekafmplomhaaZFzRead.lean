/-
  Package frozen: the drawn region of Read: its slots, and what holds in it. (Printed by genread.py.)
-/
import Derived.Test.YtboekafmplomhaaZFzCan
import Derived.Test.YtboekafmplomhaaZMadeD
import Derived.Deep.CutBlock
set_option linter.unusedVariables false
set_option linter.unusedSimpArgs false
namespace Go.Proofs.Ytboekafmplomhaa
open Go.RowKit

/-- The worlds of the region: reads first; then Ite, a row of one, append. -/
structure RmI (Z : World) (p g : Nat) (F : List Nat) (S1 : Sto) (r : Int) (all : List Int) (b : Nat → Bool) (w : World) (q : Nat) (v' : Value) : Prop where
  a : b 13 = false → Below Z.heap.size Z w
  i : b 13 = true → b 14 = false → ∃ F1, StoIs w p F1 S1 ∧ StoStep Z w F F1
  c : b 14 = true → b 15 = false → ∃ w1 F1, StoIs w1 p F1 S1 ∧ StoStep Z w1 F F1 ∧ w = w1.alloc (.cells #[.int .i64 r] 3) ∧ q = w1.heap.size
  d : b 15 = true → ∃ F1 G', StoIs w p F1 S1 ∧ RowIs w v' (some G') 3 1 (all ++ [r]).length (ints (all ++ [r])) ∧ G' ∉ F1 ∧ (G' = g ∨ Z.heap.size ≤ G') ∧ StoStep Z w (g :: F) (G' :: F1)
section
variable {Z w w' : World} {p q g : Nat} {F : List Nat} {S S1 : Sto} {r : Int} {all : List Int} {b b' : Nat → Bool} {v' : Value}
theorem RmI.congr (h : RmI Z p g F S1 r all b w q v') (h4 : b' 13 = b 13) (h5 : b' 14 = b 14) (h6 : b' 15 = b 15) : RmI Z p g F S1 r all b' w q v' := by
  obtain ⟨a1, a2, a3, a4⟩ := h
  exact ⟨by rw [h4]; exact a1, by rw [h4, h5]; exact a2, by rw [h5, h6]; exact a3, by rw [h6]; exact a4⟩
theorem RmI.ite (h : RmI Z p g F S1 r all b w q v') (f : b 13 = false) (f' : b' 13 = true) (f5 : b' 14 = false) (f6 : b' 15 = false) {F2 : List Nat} (hS : StoIs w' p F2 S1) (st : StoStep w w' F F2) : RmI Z p g F S1 r all b' w' q v' :=
  ⟨fun e => by (rw [f'] at e; cases e), fun _ _ => ⟨F2, hS, (StoStep.of_below (h.a f)).trans st⟩, fun e => by (rw [f5] at e; cases e), fun e => by (rw [f6] at e; cases e)⟩
theorem RmI.lit (h : RmI Z p g F S1 r all b w q v') (f : b 13 = true) (f5 : b 14 = false) (f' : b' 13 = true) (f5' : b' 14 = true) (f6 : b' 15 = false) : RmI Z p g F S1 r all b' (w.alloc (.cells #[.int .i64 r] 3)) w.heap.size v' := by
  obtain ⟨F2, hS, st⟩ := h.i f f5
  exact ⟨fun e => by (rw [f'] at e; cases e), fun _ e => by (rw [f5'] at e; cases e), fun _ _ => ⟨w, F2, hS, st, rfl, rfl⟩, fun e => by (rw [f6] at e; cases e)⟩
/-- The row of what was made grows, behind a call of the store. -/
theorem made_grow {w1 : World} {F1 : List Nat} {sv : Value} (hrow : RowIs Z sv (some g) 3 1 all.length (ints all)) (hg : g ∉ F) (hk : all.length ≤ 8388608) (hS : StoIs w1 p F1 S1) (st : StoStep Z w1 F F1) :
    ∃ v2 w3 G2, (Builtin.append_ #[28, 28] 28 #[sv, .slice (some ⟨w1.heap.size, 0, none⟩) 1 1]).run Try.prog (w1.alloc (.cells #[.int .i64 r] 3)) = .ok v2 w3 ∧
      (∃ F1 G', StoIs w3 p F1 S1 ∧ RowIs w3 v2 (some G') 3 1 (all ++ [r]).length (ints (all ++ [r])) ∧ G' ∉ F1 ∧ (G' = g ∨ Z.heap.size ≤ G') ∧ StoStep Z w3 (g :: F) (G' :: F1)) ∧ G2 = 0 := by
  have hlt := RowIs.lt hrow g rfl
  have hg1 : g ∉ F1 := st.keeps hlt hg
  have row1 : RowIs w1 sv (some g) 3 1 all.length (ints all) := RowIs.keep hrow (fun k hk => by cases hk; exact st.block g hlt hg)
  obtain ⟨v', w3, G', q1, q2, q3, q4⟩ := int_one row1 hk r
  have hne : ∀ k ∈ F1, k ∉ (some g).toList := fun k hk hm => by simp at hm; subst hm; exact hg1 hk
  have hGF : G' ∉ F1 := fun hm => by
    rcases q3 with e | e
    · cases e; exact hg1 hm
    · have := hS.lt G' hm; omega
  refine ⟨v', w3, 0, q1, ⟨F1, G', hS.keep (fun k hk => q4.block k (hS.lt k hk) (hne k hk)), q2, hGF, ?_, ?_⟩, rfl⟩
  · rcases q3 with e | e
    · cases e; exact .inl rfl
    · exact .inr (Nat.le_trans st.size e)
  · refine ⟨q4.os.trans st.os, q4.tape.trans st.tape, q4.output.trans st.output, Nat.le_trans st.size q4.size, fun k h1 h2 => ?_, fun k hk => ?_⟩
    · simp only [List.mem_cons, not_or] at h2
      exact (q4.block k (Nat.lt_of_lt_of_le h1 st.size) (by simp; exact h2.1)).trans (st.block k h1 h2.2)
    · rcases List.mem_cons.1 hk with rfl | hk
      · rcases q4.fresh k (by simp) with h | h
        · simp at h; exact .inl (by simp [h])
        · exact .inr ⟨by have := st.size; omega, h.2⟩
      · rcases st.fresh k hk with h | h
        · exact .inl (List.mem_cons_of_mem _ h)
        · exact .inr ⟨h.1, Nat.lt_of_lt_of_le h.2 q4.size⟩
theorem RmI.app (h : RmI Z p g F S1 r all b w q v') {sv : Value} (hrow : RowIs Z sv (some g) 3 1 all.length (ints all)) (hg : g ∉ F) (hk : all.length ≤ 8388608) (f5 : b 14 = true) (f6 : b 15 = false) :
    ∃ v2 w3 G2, (Builtin.append_ #[28, 28] 28 #[sv, .slice (some ⟨q, 0, none⟩) 1 1]).run Try.prog w = .ok v2 w3 ∧
      (∃ F1 G', StoIs w3 p F1 S1 ∧ RowIs w3 v2 (some G') 3 1 (all ++ [r]).length (ints (all ++ [r])) ∧ G' ∉ F1 ∧ (G' = g ∨ Z.heap.size ≤ G') ∧ StoStep Z w3 (g :: F) (G' :: F1)) ∧ G2 = 0 := by
  obtain ⟨w1, F1, hS, st, rfl, rfl⟩ := h.c f5 f6
  exact made_grow hrow hg hk hS st
theorem RmI.fin (h : RmI Z p g F S1 r all b w q v') (f6 : b' 15 = true) (f4 : b' 13 = true) (f5 : b' 14 = true) {v2 : Value} {w3 : World}
    (H : ∃ F1 G', StoIs w3 p F1 S1 ∧ RowIs w3 v2 (some G') 3 1 (all ++ [r]).length (ints (all ++ [r])) ∧ G' ∉ F1 ∧ (G' = g ∨ Z.heap.size ≤ G') ∧ StoStep Z w3 (g :: F) (G' :: F1)) : RmI Z p g F S1 r all b' w3 q v2 :=
  ⟨fun e => by (rw [f4] at e; cases e), fun _ e => by (rw [f5] at e; cases e), fun _ e => by (rw [f6] at e; cases e), fun _ => H⟩
end
def rmAct (p g n sc hi lo Bx : Nat) (vv k1 k2 r : Int) (y0 y1 y2 y3 y4 y5 y6 y7 y8 y9 y10 y11 y12 y13 y14 y15 y16 y17 y18 y19 y20 y21 y22 y23 y24 y25 y26 y27 y28 y29 y30 y31 y32 y33 y34 y35 y36 y37 y38 y39 y40 y41 y42 y43 y44 y45 y46 y47 y48 y49 y50 y51 y52 y53 y54 y55 y56 y57 y58 y59 y60 y61 y62 y63 y64 y65 y66 y67 y68 y69 y70 y71 y72 y73 y74 y75 y76 y77 y78 y79 y80 y81 y82 y83 y84 y85 y86 y87 y88 y89 y90 y91 y92 y93 y94 y95 y96 y97 y98 y99 y100 y101 y102 y103 y104 y105 y106 : Value) (b : Nat → Bool) (q : Nat) (v' : Value) : Act :=
  ⟨#[y0, y1, y2, y3, y4, y5, y6, gx (b 16) (v') y7, y8, y9, y10, y11, y12, y13, y14, y15, y16, y17, y18, y19, y20, y21, y22, y23, y24, y25, y26, y27, y28, y29, y30, y31, y32, y33, y34, y35, y36, y37, y38, y39, y40, y41, y42, y43, y44, y45, y46, y47, y48, y49, y50, y51, y52, y53, y54, y55, y56, y57, y58, y59, y60, y61, y62, y63, y64, y65, y66, y67, y68, gx (b 0) (.slice (some ⟨g, 0, none⟩) n sc) y69, gx (b 1) (.pointer (some ⟨p, 0, none⟩)) y70, gx (b 2) (.int .i64 vv) y71, gx (b 3) (.slice (some ⟨g, 0, none⟩) n sc) y72, gx (b 4) (.pointer (some ⟨Bx, 2, none⟩)) y73, gx (b 5) (.int .i64 (hi : Nat)) y74, gx (b 6) (.pointer (some ⟨g, hi, none⟩)) y75, gx (b 7) (.int .i64 k1) y76, gx (b 8) (.slice (some ⟨g, 0, none⟩) n sc) y77, gx (b 9) (.pointer (some ⟨Bx, 1, none⟩)) y78, gx (b 10) (.int .i64 (lo : Nat)) y79, gx (b 11) (.pointer (some ⟨g, lo, none⟩)) y80, gx (b 12) (.int .i64 k2) y81, gx (b 13) (.int .i64 r) y82, gx (b 14) (.slice (some ⟨q, 0, none⟩) 1 1) y83, gx (b 15) (v') y84, y85, y86, y87, y88, y89, y90, y91, y92, y93, y94, y95, y96, y97, y98, y99, y100, y101, y102, y103, y104, y105, y106], []⟩
def rmInv (Z : World) (p g n sc hi lo Bx : Nat) (vv k1 k2 r : Int) (F : List Nat) (S1 : Sto) (all : List Int) (y0 y1 y2 y3 y4 y5 y6 y7 y8 y9 y10 y11 y12 y13 y14 y15 y16 y17 y18 y19 y20 y21 y22 y23 y24 y25 y26 y27 y28 y29 y30 y31 y32 y33 y34 y35 y36 y37 y38 y39 y40 y41 y42 y43 y44 y45 y46 y47 y48 y49 y50 y51 y52 y53 y54 y55 y56 y57 y58 y59 y60 y61 y62 y63 y64 y65 y66 y67 y68 y69 y70 y71 y72 y73 y74 y75 y76 y77 y78 y79 y80 y81 y82 y83 y84 y85 y86 y87 y88 y89 y90 y91 y92 y93 y94 y95 y96 y97 y98 y99 y100 y101 y102 y103 y104 y105 y106 : Value) (L : Array Bool) (a : Act) (w : World) : Prop :=
  ∃ q v', a = rmAct p g n sc hi lo Bx vv k1 k2 r y0 y1 y2 y3 y4 y5 y6 y7 y8 y9 y10 y11 y12 y13 y14 y15 y16 y17 y18 y19 y20 y21 y22 y23 y24 y25 y26 y27 y28 y29 y30 y31 y32 y33 y34 y35 y36 y37 y38 y39 y40 y41 y42 y43 y44 y45 y46 y47 y48 y49 y50 y51 y52 y53 y54 y55 y56 y57 y58 y59 y60 y61 y62 y63 y64 y65 y66 y67 y68 y69 y70 y71 y72 y73 y74 y75 y76 y77 y78 y79 y80 y81 y82 y83 y84 y85 y86 y87 y88 y89 y90 y91 y92 y93 y94 y95 y96 y97 y98 y99 y100 y101 y102 y103 y104 y105 y106 (fun i => L.getD i false) q v' ∧ RmI Z p g F S1 r all (fun i => L.getD i false) w q v'
theorem wp_rm {ops : Array Oper} {id : Nat} {Q : Exit → Act → World → Prop} {y0 y1 y2 y3 y4 y5 y6 y7 y8 y9 y10 y11 y12 y13 y14 y15 y16 y17 y18 y19 y20 y21 y22 y23 y24 y25 y26 y27 y28 y29 y30 y31 y32 y33 y34 y35 y36 y37 y38 y39 y40 y41 y42 y43 y44 y45 y46 y47 y48 y49 y50 y51 y52 y53 y54 y55 y56 y57 y58 y59 y60 y61 y62 y63 y64 y65 y66 y67 y68 y69 y70 y71 y72 y73 y74 y75 y76 y77 y78 y79 y80 y81 y82 y83 y84 y85 y86 y87 y88 y89 y90 y91 y92 y93 y94 y95 y96 y97 y98 y99 y100 y101 y102 y103 y104 y105 y106 : Value} (Z : World) (p g n sc hi lo Bx : Nat) (vv k1 k2 r : Int) (F : List Nat) (S1 : Sto) (all : List Int)
    (hm : Try.prog.follows .mixedOrders = true) (hlt : (List.range ops.size).all (fun i => (deps .any ops i).all (fun k => decide (k < i))) = true)
    (h0 : rmInv Z p g n sc hi lo Bx vv k1 k2 r F S1 all y0 y1 y2 y3 y4 y5 y6 y7 y8 y9 y10 y11 y12 y13 y14 y15 y16 y17 y18 y19 y20 y21 y22 y23 y24 y25 y26 y27 y28 y29 y30 y31 y32 y33 y34 y35 y36 y37 y38 y39 y40 y41 y42 y43 y44 y45 y46 y47 y48 y49 y50 y51 y52 y53 y54 y55 y56 y57 y58 y59 y60 y61 y62 y63 y64 y65 y66 y67 y68 y69 y70 y71 y72 y73 y74 y75 y76 y77 y78 y79 y80 y81 y82 y83 y84 y85 y86 y87 y88 y89 y90 y91 y92 y93 y94 y95 y96 y97 y98 y99 y100 y101 y102 y103 y104 y105 y106 (Array.replicate ops.size false) ⟨#[y0, y1, y2, y3, y4, y5, y6, y7, y8, y9, y10, y11, y12, y13, y14, y15, y16, y17, y18, y19, y20, y21, y22, y23, y24, y25, y26, y27, y28, y29, y30, y31, y32, y33, y34, y35, y36, y37, y38, y39, y40, y41, y42, y43, y44, y45, y46, y47, y48, y49, y50, y51, y52, y53, y54, y55, y56, y57, y58, y59, y60, y61, y62, y63, y64, y65, y66, y67, y68, y69, y70, y71, y72, y73, y74, y75, y76, y77, y78, y79, y80, y81, y82, y83, y84, y85, y86, y87, y88, y89, y90, y91, y92, y93, y94, y95, y96, y97, y98, y99, y100, y101, y102, y103, y104, y105, y106], []⟩ Z.drew)
    (hfin : ∀ (L : Array Bool) (a : Act) (w : World), (∀ j, j < ops.size → L.getD j false = true) → rmInv Z p g n sc hi lo Bx vv k1 k2 r F S1 all y0 y1 y2 y3 y4 y5 y6 y7 y8 y9 y10 y11 y12 y13 y14 y15 y16 y17 y18 y19 y20 y21 y22 y23 y24 y25 y26 y27 y28 y29 y30 y31 y32 y33 y34 y35 y36 y37 y38 y39 y40 y41 y42 y43 y44 y45 y46 y47 y48 y49 y50 y51 y52 y53 y54 y55 y56 y57 y58 y59 y60 y61 y62 y63 y64 y65 y66 y67 y68 y69 y70 y71 y72 y73 y74 y75 y76 y77 y78 y79 y80 y81 y82 y83 y84 y85 y86 y87 y88 y89 y90 y91 y92 y93 y94 y95 y96 y97 y98 y99 y100 y101 y102 y103 y104 y105 y106 L a w → Q .normal a w)
    (hs' : InvSteps Try.prog ops (rmInv Z p g n sc hi lo Bx vv k1 k2 r F S1 all y0 y1 y2 y3 y4 y5 y6 y7 y8 y9 y10 y11 y12 y13 y14 y15 y16 y17 y18 y19 y20 y21 y22 y23 y24 y25 y26 y27 y28 y29 y30 y31 y32 y33 y34 y35 y36 y37 y38 y39 y40 y41 y42 y43 y44 y45 y46 y47 y48 y49 y50 y51 y52 y53 y54 y55 y56 y57 y58 y59 y60 y61 y62 y63 y64 y65 y66 y67 y68 y69 y70 y71 y72 y73 y74 y75 y76 y77 y78 y79 y80 y81 y82 y83 y84 y85 y86 y87 y88 y89 y90 y91 y92 y93 y94 y95 y96 y97 y98 y99 y100 y101 y102 y103 y104 y105 y106) 0 ops.toList) : (Code.region id ops true).wp Try.prog Q ⟨#[y0, y1, y2, y3, y4, y5, y6, y7, y8, y9, y10, y11, y12, y13, y14, y15, y16, y17, y18, y19, y20, y21, y22, y23, y24, y25, y26, y27, y28, y29, y30, y31, y32, y33, y34, y35, y36, y37, y38, y39, y40, y41, y42, y43, y44, y45, y46, y47, y48, y49, y50, y51, y52, y53, y54, y55, y56, y57, y58, y59, y60, y61, y62, y63, y64, y65, y66, y67, y68, y69, y70, y71, y72, y73, y74, y75, y76, y77, y78, y79, y80, y81, y82, y83, y84, y85, y86, y87, y88, y89, y90, y91, y92, y93, y94, y95, y96, y97, y98, y99, y100, y101, y102, y103, y104, y105, y106], []⟩ Z :=
  wp_region_invs (rmInv Z p g n sc hi lo Bx vv k1 k2 r F S1 all y0 y1 y2 y3 y4 y5 y6 y7 y8 y9 y10 y11 y12 y13 y14 y15 y16 y17 y18 y19 y20 y21 y22 y23 y24 y25 y26 y27 y28 y29 y30 y31 y32 y33 y34 y35 y36 y37 y38 y39 y40 y41 y42 y43 y44 y45 y46 y47 y48 y49 y50 y51 y52 y53 y54 y55 y56 y57 y58 y59 y60 y61 y62 y63 y64 y65 y66 y67 y68 y69 y70 y71 y72 y73 y74 y75 y76 y77 y78 y79 y80 y81 y82 y83 y84 y85 y86 y87 y88 y89 y90 y91 y92 y93 y94 y95 y96 y97 y98 y99 y100 y101 y102 y103 y104 y105 y106) hm hlt h0 hfin hs'
end Go.Proofs.Ytboekafmplomhaa
set_option linter.unusedVariables false
set_option linter.unusedSimpArgs false
namespace Go.Proofs.Ytboekafmplomhaa
open Go.RowKit

theorem str_eq {l m : List Nat} (hl : ∀ x ∈ l, x < 256) (hm : ∀ x ∈ m, x < 256) : ((strOf l).toList == (strOf m).toList) = decide (l = m) := by
  by_cases h : l = m
  · subst h
    rw [decide_eq_true rfl]
    exact beq_self_eq_true _
  · rw [decide_eq_false h]
    refine beq_eq_false_iff_ne.2 (fun e => h ?_)
    rw [ByteArray.toList_eq, ByteArray.toList_eq] at e
    exact (strOf_inj hl hm).1 (ByteArray.ext (Array.ext' e))
theorem sealB_byte {l : List Nat} (h : ∀ y ∈ l, y < 256) : ∀ y ∈ sealB l, y < 256 := fun y hy => by
  unfold sealB at hy
  rcases List.mem_append.1 hy with hy | hy
  · exact h y hy
  · simp only [sum4, List.mem_cons, List.not_mem_nil, or_false] at hy
    omega
set_option maxRecDepth 100000 in
set_option maxHeartbeats 4000000 in
theorem sumRight_any {w : World} {sv : Value} {l : List Nat} (h : Rd w 1 sv (byts l)) (hl : ∀ y ∈ l, y < 256) (h9 : 9 ≤ l.length) (hk : l.length ≤ 8388608) :
    Calls Try.prog 126 #[sv] w (fun e w' => e = .returned (.bool (decide (sealB (l.take (l.length - 4)) = l))) ∧ Below w.heap.size w w') := by
  obtain ⟨la, lc, rfl, hlc, hlm⟩ := h.lenB
  obtain ⟨b, off, rfl, hb, _⟩ := Rd.byteAt h (i := 0) (by omega)
  obtain ⟨n, hn⟩ : ∃ n, n = l.length - 4 := ⟨_, rfl⟩
  have wn : IntKind.i64.wrap ((l.length : Int) - 4) = (n : Int) := by rw [IntWalk.i64_in _ (by omega)]; omega
  rw [← hn]
  have htl : (l.take n).length = n := by simp; omega
  have hT : Rd w.drew 1 (.slice (some ⟨b, off, none⟩) n n) (byts (l.take n)) := (Rd.takeB h (i := n) (c' := n) (by omega) (by omega)).below (Below.drew (Below.refl _ _))
  obtain ⟨v', W1, C1, o1, b1⟩ := sealed_own (l := l.take n) (B := w.drew.heap.size) (w := w.drew) (sv := .slice (some ⟨b, off, none⟩) n n) (.inr ⟨b, off, by rw [htl], hT, by omega⟩) (fun y hy => hl y (List.mem_of_mem_take hy)) (Nat.le_refl _) (by omega)
  have s1 := str_any o1.rd
  have hd : Below w.heap.size w w.drew := Below.drew (Below.refl _ _)
  have b2 := b1.mono (Nat.le_refl _ : w.heap.size ≤ w.drew.heap.size)
  have s2 := str_any (h.below hd)
  have s3 := str_any (h.below (hd.trans b2))
  obtain ⟨sa, sc, rfl⟩ := o1.form
  have hEQ := str_eq (l := sealB (l.take n)) (m := l) (sealB_byte (fun y hy => hl y (List.mem_of_mem_take hy))) hl
  have C1 := hid C1
  have HBW := hid (hd.trans b2)
  obtain ⟨vv, hvv⟩ : ∃ v, v = decide (sealB (l.take n) = l) := ⟨_, rfl⟩
  rw [← hvv] at hEQ ⊢
  generalize strOf (sealB (l.take n)) = t1 at *
  generalize strOf l = t2 at *
  have S1 := hid s1
  have S2 := hid s2
  have S3 := hid s3
  have HV := hid hEQ
  have hnl : (n : Int) ≤ (lc : Int) := by omega
  have hn0 : (0 : Int) ≤ (n : Int) := by omega
  generalize hsl : Value.slice sa (sealB (l.take n)).length sc = sv2 at *
  have HN := hid hn
  have hn1 : n ≤ lc := by omega
  clear hn h o1 b1 b2 hd hT htl hEQ hvv s1 s2 s3 hsl
  go_enter Try.func126, Try.ntmps126
  go_upto_region 2 with (fail)
  refine wp_region_stage [4] (fun i W => (i = 0 → W = w.drew) ∧ (i = 1 → W = W1)) (by kernel_rfl) (by kernel_rfl) (by kernel_rfl) (by kernel_rfl) ⟨fun _ => rfl, fun h => by omega⟩ (fun F' hF' => ?_)
  have HF := hid hF'
  clear hF'
  repeat (apply sg_any; (focus rfl); (focus rfl); (focus (intro _; go_simp; with_reducible rfl)); simp only [Act.put, List.setIfInBounds_toArray, List.set_cons_zero, List.set_cons_succ])
  refine sg_turn_call 0 (v := sv2) (f := 144) (args := #[.slice (some ⟨b, off, none⟩) n n]) rfl rfl (fun _ => by first | (go_simp; done) | (go_simp; exact ⟨rfl, rfl⟩)) (fun W hR => by
    rw [hR.1 rfl]
    refine C1.out.mono ?_
    rintro e w' ⟨rfl, rfl⟩
    exact ⟨rfl, fun h => by omega, fun _ => rfl⟩) ?_
  simp only [Act.put, List.setIfInBounds_toArray, List.set_cons_zero, List.set_cons_succ]
  refine sg_read (v := .string t1) 1 1 rfl (by decide +kernel) (by decide +kernel) rfl (fun ii w' l' u hR => by
    rw [hR.2 (by omega)]; clear hR; have h := S1.out; go_simp) ?_
  simp only [Act.put, List.setIfInBounds_toArray, List.set_cons_zero, List.set_cons_succ]
  refine sg_any rfl rfl (fun _ => by go_simp; with_reducible rfl) ?_
  simp only [Act.put, List.setIfInBounds_toArray, List.set_cons_zero, List.set_cons_succ]
  refine sg_read (v := .string t2) 0 1 rfl (by decide +kernel) (by decide +kernel) rfl (fun ii w' l' u hR => by
    rcases (show ii = 0 ∨ ii = 1 by omega) with rfl | rfl
    · rw [hR.1 rfl]; clear hR; have h := S2.out; go_simp
    · rw [hR.2 rfl]; clear hR; have h := S3.out; go_simp) ?_
  simp only [Act.put, List.setIfInBounds_toArray, List.set_cons_zero, List.set_cons_succ]
  repeat (apply sg_any; (focus rfl); (focus rfl); (focus (intro _; go_simp; with_reducible rfl)); simp only [Act.put, List.setIfInBounds_toArray, List.set_cons_zero, List.set_cons_succ])
  refine sg_end (HF.out _ (fun w3 hR => ?_))
  obtain rfl := hR.2 rfl
  clear hR HF F' S1 S2 S3 C1
  go_wp2_with fail
  go_returns
  exact ⟨by rw [← HV.out]; rfl, HBW.out⟩
end Go.Proofs.Ytboekafmplomhaa
set_option linter.unusedVariables false
set_option linter.unusedSimpArgs false
namespace Go.Proofs.Ytboekafmplomhaa
open Go.RowKit

/-- A node made. -/
def makeN (S : Sto) (made : List Int) (x : Nd) : Sto × Int := iteV (varV S x.1).1 (varV S x.1).2 (made.getD x.2.2.toNat 0) (made.getD x.2.1.toNat 0)
def loadN : Sto → List Int → List Nd → Sto × List Int
  | S, made, [] => (S, made)
  | S, made, x :: r => loadN (makeN S made x).1 (made ++ [(makeN S made x).2]) r
theorem makeN_good {S : Sto} (hW : Wf S) (hs : Sated S) (made : List Int) (x : Nd) : Wf (makeN S made x).1 ∧ Sated (makeN S made x).1 := by
  obtain ⟨h1, h2⟩ := varV_good hW hs x.1
  exact iteV_good h1 h2 _ _ _
noncomputable def readB (S : Sto) (l : List Nat) : Sto × List Int × Int :=
  match parseV ((l.drop 3).take (l.length - 7)) with
  | none => (S, [], 4)
  | some (ns, rs) =>
    if canV ns rs = false then (S, [], 4) else
    if (loadN S [0, 1] ns).1.full = true then ((loadN S [0, 1] ns).1, [], 12) else ((loadN S [0, 1] ns).1, rs.map (fun r => (loadN S [0, 1] ns).2.getD r.toNat 0), 0)
noncomputable def readV (S : Sto) (l : List Nat) : Sto × List Int × Int :=
  if 8388608 < l.length then (S, [], 3) else
  if l.length < 9 then (S, [], 13) else
  if l.take 3 ≠ [81, 66, 1] then (S, [], 4) else
  if sealB (l.take (l.length - 4)) ≠ l then (S, [], 15) else readB S l
def ReadPost (w : World) (p : Nat) (F : List Nat) (R : Sto × List Int × Int) (e : Ending) (w' : World) : Prop :=
  ∃ sv G F', e = .returned (.tuple #[sv, .int .i64 R.2.2]) ∧ RowIs w' sv G 3 1 R.2.1.length (ints R.2.1) ∧ (∀ g, G = some g → w.heap.size ≤ g ∧ g ∉ F') ∧ StoIs w' p F' R.1 ∧ StoStep w w' F F'
theorem ReadPost.no {w w' : World} {p : Nat} {F : List Nat} {S : Sto} {k : Int} (h : StoIs w p F S) (hb : Below w.heap.size w w') : ReadPost w p F (S, [], k) (.returned (.tuple #[.slice none 0 0, .int .i64 k])) w' :=
  ⟨_, none, F, rfl, ⟨rfl, .inl ⟨rfl, rfl, rfl⟩⟩, fun g hg => (by cases hg), h.below hb, StoStep.of_below hb⟩
theorem magic_eq {l : List Nat} (hl : ∀ x ∈ l, x < 256) : ((strOf (l.take 3)).toList == ([81, 66, 1] : List UInt8)) = decide (l.take 3 = [81, 66, 1]) := by
  have e : ([81, 66, 1] : List UInt8) = (strOf [81, 66, 1]).toList := by rw [ByteArray.toList_eq]; rfl
  rw [e]
  exact str_eq (fun x hx => hl x (List.mem_of_mem_take hx)) (by decide)
theorem StoStep.cons {w w' : World} {F F' : List Nat} (st : StoStep w w' F F') (g : Nat) : StoStep w w' (g :: F) (g :: F') :=
  ⟨st.os, st.tape, st.output, st.size, fun k h1 h2 => st.block k h1 (fun hm => h2 (List.mem_cons_of_mem _ hm)), fun k hk => by
    rcases List.mem_cons.1 hk with rfl | hk
    · exact .inl (List.mem_cons_self ..)
    · exact (st.fresh k hk).imp (fun h => List.mem_cons_of_mem _ h) id⟩
theorem StoStep.off {w X wr : World} {g0 g : Nat} {F F' : List Nat} (st : StoStep X wr (g0 :: F) (g :: F')) (hb : Below w.heap.size w X) (h0 : w.heap.size ≤ g0) (hl : ∀ k ∈ F', k < wr.heap.size) : StoStep w wr F F' := by
  have hz := hb.size
  have s0 := StoStep.of_below (F := F) hb
  refine ⟨st.os.trans s0.os, st.tape.trans s0.tape, st.output.trans s0.output, Nat.le_trans hz st.size, fun k h1 h2 => ?_, fun k hm => ?_⟩
  · exact (st.block k (by omega) (by simp only [List.mem_cons, not_or]; exact ⟨by omega, h2⟩)).trans (s0.block k h1 h2)
  · rcases st.fresh k (List.mem_cons_of_mem _ hm) with h | h
    · rcases List.mem_cons.1 h with rfl | h
      · exact .inr ⟨h0, hl _ hm⟩
      · exact .inl h
    · exact .inr ⟨Nat.le_trans hz h.1, hl _ hm⟩
theorem next_w {j : Nat} (h : j ≤ 8388608) : wrap64 ((j : Int) + 1) = ((j + 1 : Nat) : Int) := by
  have h := IntWalk.i64_in ((j : Int) + 1) (by omega)
  rw [IntKind.wrap_i64] at h
  simp only [wrap64]
  omega
theorem meas_w {n j : Nat} (h : j < n) (hn : n ≤ 8388608) : n - (intOf (.int .i64 (wrap64 ((j : Int) + 1)))).toNat < n - (intOf (.int .i64 (j : Int))).toNat := by
  rw [next_w (by omega)]
  simp only [intOf, Int.toNat_natCast]
  omega
theorem rd_byte {w : World} {lb lo lc : Nat} {l : List Nat} (h : Rd w 1 (.slice (some ⟨lb, lo, none⟩) l.length lc) (byts l)) (i : Nat) (hi : i < l.length) : w.cell? ⟨lb, lo + i, none⟩ = some (.int .u8 (l[i] : Nat)) ∧ lb < w.heap.size := by
  obtain ⟨b', off', e, hb, hc⟩ := Rd.byteAt h hi
  cases e
  exact ⟨hc, hb⟩
section
variable {S : Sto} {w : World} {p : Nat} {F : List Nat}
set_option maxRecDepth 100000 in
set_option maxHeartbeats 16000000 in
theorem read_live (h : StoIs w p F S) (hW : Wf S) (hs : Sated S) {sv : Value} {l : List Nat} (hl : Rd w 1 sv (byts l)) (hb : ∀ y ∈ l, y < 256) :
    Calls Try.prog 73 #[.pointer (some ⟨p, 0, none⟩), sv] w (ReadPost w p F (readV S l)) := by
  have hc : S.cap ≠ 0 := by have := hW.cap2; omega
  obtain ⟨la, lc, rfl, hlc, hlm⟩ := hl.lenB
  have FU := fun W (hb : Below w.heap.size w W) => full_any (h.below hb) hc
  have LE := fun W (hb : Below w.heap.size w W) => len_any (h.below hb) hc
  have hz : S.full = true → ((S.nodes.length : Int) == 0) = false := fun hf => by
    have h1 := hs hf
    have h2 := hW.cap2
    exact beq_eq_false_iff_ne.2 (by omega)
  have H := hid h
  have HL := hid hl
  have HB := hid hb
  have HW := hid (And.intro hW hs)
  generalize (S.nodes.length : Int) = nl at *
  generalize S.full = fu at *
  obtain ⟨RV, hRV⟩ : ∃ R, R = readV S l := ⟨_, rfl⟩
  rw [← hRV]
  have HRV := hid hRV
  clear h hl hb hs hW hRV
  go_enter Try.func73, Try.ntmps73
  go_upto_block 0 with (fail)
  go_cut [] (fun wx => Below w.heap.size w wx ∧ RV = readB S l ∧ 9 ≤ l.length ∧ l.length ≤ 8388608)
  case first =>
    go_upto_region 1 with (fail)
    cases fu
    · refine wp_region_seq (fun F hF => ?_)
      have HF := hid hF; clear hF
      repeat (first
        | (apply text_skip; (focus rfl); simp only [Act.put, List.setIfInBounds_toArray, List.set_cons_zero, List.set_cons_succ])
        | (apply text_val; (focus rfl); (focus (intro _ _; go_simp; with_reducible rfl)); simp only [Act.put, List.setIfInBounds_toArray, List.set_cons_zero, List.set_cons_succ])
        | (apply text_call; (focus rfl); (focus (intro _ _; go_simp; exact ⟨rfl, rfl⟩)); (focus (intro _ _; with_reducible (first | exact FU _ (by (repeat' (first | (with_reducible exact Below.refl _ _) | (with_reducible refine Below.ext_mk ?_ ?_ _ _) | (with_reducible refine Below.alloc ?_ ?_ _) | (with_reducible refine Below.drew ?_) | (with_reducible refine Below.setCell ?_ ?_ _) | go_size)))))); simp only [Act.put, List.setIfInBounds_toArray, List.set_cons_zero, List.set_cons_succ])
        | (apply text_if; (focus (first | exact wanted_t rfl rfl | exact wanted_f rfl rfl | exact wanted_gt rfl rfl | exact wanted_gf rfl rfl)); (focus (intro hc _ _; (try simp only [Bool.and_eq_true, Bool.not_eq_true', Bool.true_and] at hc); go_simp; with_reducible rfl)); simp only [Act.put, List.setIfInBounds_toArray, List.set_cons_zero, List.set_cons_succ])
        | (apply text_if_call; (focus (first | exact wanted_t rfl rfl | exact wanted_f rfl rfl | exact wanted_gt rfl rfl | exact wanted_gf rfl rfl)); (focus (intro hc _ _; (try simp only [Bool.and_eq_true, Bool.not_eq_true', Bool.true_and] at hc); go_simp; exact ⟨rfl, rfl⟩)); (focus (intro hc _ _; with_reducible (first | exact FU _ (by (repeat' (first | (with_reducible exact Below.refl _ _) | (with_reducible refine Below.ext_mk ?_ ?_ _ _) | (with_reducible refine Below.alloc ?_ ?_ _) | (with_reducible refine Below.drew ?_) | (with_reducible refine Below.setCell ?_ ?_ _) | go_size)))))); simp only [Act.put, List.setIfInBounds_toArray, List.set_cons_zero, List.set_cons_succ]))
      refine text_nil (HF.out _ (fun mx dx => ?_))
      clear HF F
      clear FU LE hz
      go_upto_region 3 with (fail)
      refine wp_gen (fun V hV => ?_)
      have hbV : Below w.heap.size w V := by rw [hV]; (repeat' (first | (with_reducible exact Below.refl _ _) | (with_reducible refine Below.ext_mk ?_ ?_ _ _) | (with_reducible refine Below.alloc ?_ ?_ _) | (with_reducible refine Below.drew ?_) | (with_reducible refine Below.setCell ?_ ?_ _) | go_size))
      clear hV
      by_cases h1 : 8388608 < l.length
      · have e : RV = (S, [], 3) := by rw [HRV.out]; unfold readV; rw [if_pos h1]
        subst e
        have h1' : (8388608 : Int) < (l.length : Int) := by omega
        have HBV := hid hbV
        clear hbV
        go_wp2
        go_returns
        exact ReadPost.no H.out HBV.out
      · have h1' : ¬ (8388608 : Int) < (l.length : Int) := by omega
        by_cases h2 : l.length < 9
        · have e : RV = (S, [], 13) := by rw [HRV.out]; unfold readV; rw [if_neg h1, if_pos h2]
          subst e
          have h2' : (l.length : Int) < 9 := by omega
          have HBV := hid hbV
          clear hbV
          go_wp2
          go_returns
          exact ReadPost.no H.out HBV.out
        · have h2' : ¬ (l.length : Int) < 9 := by omega
          have hRV : RV = if l.take 3 ≠ [81, 66, 1] then (S, [], 4) else if sealB (l.take (l.length - 4)) ≠ l then (S, [], 15) else readB S l := by rw [HRV.out]; unfold readV; rw [if_neg h1, if_neg h2]
          have s7 := str_any (Rd.takeB (HL.out.below hbV) (i := 3) (c' := lc) (by omega) (by omega))
          have m7 := magic_eq HB.out
          have l3 : (3 : Int) ≤ (lc : Int) := by omega
          have l3' : 3 ≤ lc := by omega
          have SR := hid (sumRight_any (HL.out.below hbV) HB.out (by omega) (by omega))
          generalize strOf (l.take 3) = t1 at s7 m7
          have HBV := hid hbV
          clear hbV
          obtain ⟨lb, lo, rfl, hlb, _⟩ := Rd.byteAt HL.out (i := 0) (by omega)
          by_cases h3 : l.take 3 = [81, 66, 1]
          · rw [if_neg (fun q => q h3)] at hRV
            rw [decide_eq_true h3] at m7
            by_cases h4 : sealB (l.take (l.length - 4)) = l
            · rw [if_neg (fun q => q h4)] at hRV
              rw [decide_eq_true h4] at SR
              have HRV2 := hid hRV
              clear hRV h3 h4 HRV
              go_wp2_with ((with_reducible refine (SR.out).mono ?_); clear SR; rintro e w2 ⟨rfl, b2⟩)
              have b3 := hid (HBV.out.trans (b2.mono HBV.out.size))
              clear b2
              go_wp2_with fail
              go_meet
              case rel => exact ⟨b3.out, HRV2.out, by omega, by omega⟩
            · rw [if_pos h4] at hRV
              rw [decide_eq_false h4] at SR
              subst hRV
              clear h3 h4 HRV
              go_wp2_with ((with_reducible refine (SR.out).mono ?_); clear SR; rintro e w2 ⟨rfl, b2⟩)
              have b3 := hid (HBV.out.trans (b2.mono HBV.out.size))
              clear b2
              go_wp2
              go_returns
              exact ReadPost.no H.out b3.out
          · rw [if_pos h3] at hRV
            rw [decide_eq_false h3] at m7
            subst hRV
            clear h3 SR HRV
            go_wp2
            go_returns
            exact ReadPost.no H.out HBV.out
    · have hz1 := hz rfl
      refine wp_region_seq (fun F hF => ?_)
      have HF := hid hF; clear hF
      repeat (first
        | (apply text_skip; (focus rfl); simp only [Act.put, List.setIfInBounds_toArray, List.set_cons_zero, List.set_cons_succ])
        | (apply text_val; (focus rfl); (focus (intro _ _; go_simp; with_reducible rfl)); simp only [Act.put, List.setIfInBounds_toArray, List.set_cons_zero, List.set_cons_succ])
        | (apply text_call; (focus rfl); (focus (intro _ _; go_simp; exact ⟨rfl, rfl⟩)); (focus (intro _ _; with_reducible (first | exact FU _ (by (repeat' (first | (with_reducible exact Below.refl _ _) | (with_reducible refine Below.ext_mk ?_ ?_ _ _) | (with_reducible refine Below.alloc ?_ ?_ _) | (with_reducible refine Below.drew ?_) | (with_reducible refine Below.setCell ?_ ?_ _) | go_size))) | exact LE _ (by (repeat' (first | (with_reducible exact Below.refl _ _) | (with_reducible refine Below.ext_mk ?_ ?_ _ _) | (with_reducible refine Below.alloc ?_ ?_ _) | (with_reducible refine Below.drew ?_) | (with_reducible refine Below.setCell ?_ ?_ _) | go_size)))))); simp only [Act.put, List.setIfInBounds_toArray, List.set_cons_zero, List.set_cons_succ])
        | (apply text_if; (focus (first | exact wanted_t rfl rfl | exact wanted_f rfl rfl | exact wanted_gt rfl rfl | exact wanted_gf rfl rfl)); (focus (intro hc _ _; (try simp only [Bool.and_eq_true, Bool.not_eq_true', Bool.true_and] at hc); go_simp; with_reducible rfl)); simp only [Act.put, List.setIfInBounds_toArray, List.set_cons_zero, List.set_cons_succ])
        | (apply text_if_call; (focus (first | exact wanted_t rfl rfl | exact wanted_f rfl rfl | exact wanted_gt rfl rfl | exact wanted_gf rfl rfl)); (focus (intro hc _ _; (try simp only [Bool.and_eq_true, Bool.not_eq_true', Bool.true_and] at hc); go_simp; exact ⟨rfl, rfl⟩)); (focus (intro hc _ _; with_reducible (first | exact FU _ (by (repeat' (first | (with_reducible exact Below.refl _ _) | (with_reducible refine Below.ext_mk ?_ ?_ _ _) | (with_reducible refine Below.alloc ?_ ?_ _) | (with_reducible refine Below.drew ?_) | (with_reducible refine Below.setCell ?_ ?_ _) | go_size))) | exact LE _ (by (repeat' (first | (with_reducible exact Below.refl _ _) | (with_reducible refine Below.ext_mk ?_ ?_ _ _) | (with_reducible refine Below.alloc ?_ ?_ _) | (with_reducible refine Below.drew ?_) | (with_reducible refine Below.setCell ?_ ?_ _) | go_size)))))); simp only [Act.put, List.setIfInBounds_toArray, List.set_cons_zero, List.set_cons_succ]))
      refine text_nil (HF.out _ (fun mx dx => ?_))
      clear HF F
      clear FU LE hz hz1
      go_upto_region 3 with (fail)
      refine wp_gen (fun V hV => ?_)
      have hbV : Below w.heap.size w V := by rw [hV]; (repeat' (first | (with_reducible exact Below.refl _ _) | (with_reducible refine Below.ext_mk ?_ ?_ _ _) | (with_reducible refine Below.alloc ?_ ?_ _) | (with_reducible refine Below.drew ?_) | (with_reducible refine Below.setCell ?_ ?_ _) | go_size))
      clear hV
      by_cases h1 : 8388608 < l.length
      · have e : RV = (S, [], 3) := by rw [HRV.out]; unfold readV; rw [if_pos h1]
        subst e
        have h1' : (8388608 : Int) < (l.length : Int) := by omega
        have HBV := hid hbV
        clear hbV
        go_wp2
        go_returns
        exact ReadPost.no H.out HBV.out
      · have h1' : ¬ (8388608 : Int) < (l.length : Int) := by omega
        by_cases h2 : l.length < 9
        · have e : RV = (S, [], 13) := by rw [HRV.out]; unfold readV; rw [if_neg h1, if_pos h2]
          subst e
          have h2' : (l.length : Int) < 9 := by omega
          have HBV := hid hbV
          clear hbV
          go_wp2
          go_returns
          exact ReadPost.no H.out HBV.out
        · have h2' : ¬ (l.length : Int) < 9 := by omega
          have hRV : RV = if l.take 3 ≠ [81, 66, 1] then (S, [], 4) else if sealB (l.take (l.length - 4)) ≠ l then (S, [], 15) else readB S l := by rw [HRV.out]; unfold readV; rw [if_neg h1, if_neg h2]
          have s7 := str_any (Rd.takeB (HL.out.below hbV) (i := 3) (c' := lc) (by omega) (by omega))
          have m7 := magic_eq HB.out
          have l3 : (3 : Int) ≤ (lc : Int) := by omega
          have l3' : 3 ≤ lc := by omega
          have SR := hid (sumRight_any (HL.out.below hbV) HB.out (by omega) (by omega))
          generalize strOf (l.take 3) = t1 at s7 m7
          have HBV := hid hbV
          clear hbV
          obtain ⟨lb, lo, rfl, hlb, _⟩ := Rd.byteAt HL.out (i := 0) (by omega)
          by_cases h3 : l.take 3 = [81, 66, 1]
          · rw [if_neg (fun q => q h3)] at hRV
            rw [decide_eq_true h3] at m7
            by_cases h4 : sealB (l.take (l.length - 4)) = l
            · rw [if_neg (fun q => q h4)] at hRV
              rw [decide_eq_true h4] at SR
              have HRV2 := hid hRV
              clear hRV h3 h4 HRV
              go_wp2_with ((with_reducible refine (SR.out).mono ?_); clear SR; rintro e w2 ⟨rfl, b2⟩)
              have b3 := hid (HBV.out.trans (b2.mono HBV.out.size))
              clear b2
              go_wp2_with fail
              go_meet
              case rel => exact ⟨b3.out, HRV2.out, by omega, by omega⟩
            · rw [if_pos h4] at hRV
              rw [decide_eq_false h4] at SR
              subst hRV
              clear h3 h4 HRV
              go_wp2_with ((with_reducible refine (SR.out).mono ?_); clear SR; rintro e w2 ⟨rfl, b2⟩)
              have b3 := hid (HBV.out.trans (b2.mono HBV.out.size))
              clear b2
              go_wp2
              go_returns
              exact ReadPost.no H.out b3.out
          · rw [if_pos h3] at hRV
            rw [decide_eq_false h3] at m7
            subst hRV
            clear h3 SR HRV
            go_wp2
            go_returns
            exact ReadPost.no H.out HBV.out
  case rest =>
    obtain ⟨hbw, hrv, hl9, hlm2⟩ := hcut
    obtain ⟨lb, lo, rfl, hlb, _⟩ := Rd.byteAt HL.out (i := 0) (by omega)
    obtain ⟨m, hm⟩ : ∃ m, m = l.length - 4 := ⟨_, rfl⟩
    have wm : IntKind.i64.wrap ((l.length : Int) - 4) = (m : Int) := by rw [IntWalk.i64_in _ (by omega)]; omega
    have k1 : ¬ lc = 3 := by omega
    have k2 : (m : Int) ≤ (lc : Int) := by omega
    have k3 : (3 : Int) ≤ (m : Int) := by omega
    have k4 : m ≤ lc := by omega
    have k5 : 3 ≤ m := by omega
    have HM := hid hm
    clear hm
    go_upto_region 12 with (fail)
    refine wp_gen (fun V hV => ?_)
    have hbV : Below wc.heap.size wc V := by rw [hV]; (repeat' (first | (with_reducible exact Below.refl _ _) | (with_reducible refine Below.ext_mk ?_ ?_ _ _) | (with_reducible refine Below.alloc ?_ ?_ _) | (with_reducible refine Below.drew ?_) | (with_reducible refine Below.setCell ?_ ?_ _) | go_size))
    have bV : Blk V wc.heap.size 150 [.slice (some ⟨lb, lo + 3, none⟩) (m - 3) (lc - 3), .bool false, .slice none 0 0, .slice none 0 0] := by rw [hV]; exact World.heap_alloc_last wc _
    obtain ⟨Rb, hRb⟩ : ∃ R, R = wc.heap.size := ⟨_, rfl⟩
    rw [← hRb] at bV ⊢
    obtain ⟨l', hl'⟩ : ∃ l', l' = (l.drop 3).take (l.length - 7) := ⟨_, rfl⟩
    have hll : l'.length = m - 3 := by rw [hl', HM.out]; simp; omega
    have R0 : Rdr wc.heap.size V Rb lb (lo + 3) (m - 3) (lc - 3) l' 0 false [] [] (.slice none 0 0) (.slice none 0 0) none none :=
      { cur := { len := hll, cap := by have := HM.out; omega, max := by have := HM.out; omega, lt := by have := hbw.size; have := hbV.size; omega
                 at_ := fun i hi => by
                   have h := (rd_byte (HL.out.below (hbw.trans (hbV.mono hbw.size))) (3 + i) (by have := HM.out; omega)).1
                   rw [show lo + 3 + i = lo + (3 + i) by omega, h]
                   congr 3
                   simp only [hl', List.getElem_take, List.getElem_drop]
                 byte := fun y hy => HB.out y (by rw [hl'] at hy; exact List.mem_of_mem_drop (List.mem_of_mem_take hy)) }
        blk := bV, nrow := ⟨rfl, .inl ⟨rfl, rfl, rfl⟩⟩, rrow := ⟨rfl, .inl ⟨rfl, rfl, rfl⟩⟩, hj := by omega, bB := by have := hbw.size; omega, RB := by omega, g1 := fun g hg => (by cases hg), g2 := fun g hg => (by cases hg) }
    have AL := hid (all_any R0 hbV.size)
    have hP : RV = match parseV l' with | none => (S, [], 4) | some (ns, rs) => if canV ns rs = false then (S, [], 4) else
        if (loadN S [0, 1] ns).1.full = true then ((loadN S [0, 1] ns).1, [], 12) else ((loadN S [0, 1] ns).1, rs.map (fun r => (loadN S [0, 1] ns).2.getD r.toNat 0), 0) := by rw [hrv, hl']; rfl
    have HP := hid hP
    have HBV := hid (hbw.trans (hbV.mono hbw.size))
    have HWC := hid (And.intro hbw (And.intro hRb hbV))
    have HLL := hid (And.intro hl' hll)
    clear R0 bV hV hrv hP hl' hll hRb hbV hbw HRV k1 k2 k3 k4 k5 wm LE hz
    refine wp_region_doc (fun F' hF => ?_)
    have HF := hid hF
    clear hF
    refine doc_val rfl (by first | (go_simp; done) | (go_simp; exact ⟨rfl, rfl⟩) | (go_simp; with_reducible rfl)) ?_
    simp only [Act.put, List.setIfInBounds_toArray, List.set_cons_zero, List.set_cons_succ]
    refine doc_call rfl (by first | (go_simp; done) | (go_simp; exact ⟨rfl, rfl⟩) | (go_simp; with_reducible rfl)) ((AL.out).mono ?_)
    rintro e1 w2 ⟨hb2, ⟨rfl, hno⟩ | ⟨ns, rs, nv, rv, G1, G2, j1, rfl, hyes, hR2, hns, hrs⟩⟩
    · have hRV : RV = (S, [], 4) := by rw [HP.out, hno]
      subst hRV
      refine ⟨_, rfl, ?_⟩
      simp only [Act.put, List.setIfInBounds_toArray, List.set_cons_zero, List.set_cons_succ]
      iterate 2 (refine doc_val rfl (by first | (go_simp; done) | (go_simp; exact ⟨rfl, rfl⟩) | (go_simp; with_reducible rfl)) ?_; simp only [Act.put, List.setIfInBounds_toArray, List.set_cons_zero, List.set_cons_succ])
      iterate 3 (refine doc_not rfl ?_; simp only [Act.put, List.setIfInBounds_toArray, List.set_cons_zero, List.set_cons_succ])
      refine doc_val rfl (by first | (go_simp; done) | (go_simp; exact ⟨rfl, rfl⟩) | (go_simp; with_reducible rfl)) ?_
      simp only [Act.put, List.setIfInBounds_toArray, List.set_cons_zero, List.set_cons_succ]
      refine doc_end (HF.out _ _ ?_)
      have HB2 := hid (HBV.out.trans ((hb2.mono HWC.out.1.size)))
      clear HF F' AL HP hb2 hno
      go_wp2
      go_returns
      exact ReadPost.no H.out HB2.out
    · refine ⟨_, rfl, ?_⟩
      simp only [Act.put, List.setIfInBounds_toArray, List.set_cons_zero, List.set_cons_succ]
      obtain ⟨hN, hro, hns1, -⟩ := parseV_ok hyes
      have CA := hid (canonical_any hR2 hN hro hns hrs)
      have hP := HP.out
      rw [hyes] at hP
      simp only at hP
      have HB2 := hid (HBV.out.trans ((hb2.mono HWC.out.1.size)))
      have HW2 := hid (HWC.out.2.2.trans hb2)
      have HYES := hid (And.intro hyes (And.intro hN (And.intro hro (And.intro hns1 hrs))))
      have R2 := hid hR2
      clear HP AL hb2 hyes hN hro hns hns1 hrs hR2
      iterate 3 (refine doc_val rfl (by first | (go_simp; done) | (go_simp; exact ⟨rfl, rfl⟩) | (go_simp; with_reducible rfl)) ?_; simp only [Act.put, List.setIfInBounds_toArray, List.set_cons_zero, List.set_cons_succ])
      refine doc_call rfl (by first | (go_simp; done) | (go_simp; exact ⟨rfl, rfl⟩) | (go_simp; with_reducible rfl)) ((CA.out).mono ?_)
      rintro e1 w3 ⟨rfl, hb3⟩
      refine ⟨_, rfl, ?_⟩
      simp only [Act.put, List.setIfInBounds_toArray, List.set_cons_zero, List.set_cons_succ]
      have R3 := R2.out.below hb3
      have HB3 := hid (HB2.out.trans (hb3.mono HB2.out.size))
      cases hcv : canV ns rs
      · rw [if_pos hcv] at hP
        subst hP
        iterate 2 (refine doc_val rfl (by first | (go_simp; done) | (go_simp; exact ⟨rfl, rfl⟩) | (go_simp; with_reducible rfl)) ?_; simp only [Act.put, List.setIfInBounds_toArray, List.set_cons_zero, List.set_cons_succ])
        refine doc_end (HF.out _ _ ?_)
        clear HF F' CA hb3 R3 hcv
        go_wp2
        go_returns
        exact ReadPost.no H.out HB3.out
      · rw [if_neg (by rw [hcv]; simp)] at hP
        have HP := hid hP
        have R3 := hid R3
        iterate 2 (refine doc_val rfl (by first | (go_simp; done) | (go_simp; exact ⟨rfl, rfl⟩) | (go_simp; with_reducible rfl)) ?_; simp only [Act.put, List.setIfInBounds_toArray, List.set_cons_zero, List.set_cons_succ])
        refine doc_end (HF.out _ _ ?_)
        clear HF F' CA hb3 hcv hP R2 HB2
        go_upto_region 15 with (fail)
        refine wp_gen (fun X hX => ?_)
        have hbX : Below w3.heap.size w3 X := by rw [hX]; (repeat' (first | (with_reducible exact Below.refl _ _) | (with_reducible refine Below.ext_mk ?_ ?_ _ _) | (with_reducible refine Below.alloc ?_ ?_ _) | (with_reducible refine Below.drew ?_) | (with_reducible refine Below.setCell ?_ ?_ _) | go_size))
        have row0 : RowIs X (.slice (some ⟨w3.heap.size, 0, none⟩) 2 2) (some w3.heap.size) 3 1 2 (ints [0, 1]) := by
          rw [hX]
          exact ⟨rfl, .inr ⟨w3.heap.size, 2, #[.int .i64 0, .int .i64 1], rfl, rfl, World.heap_alloc_last w3 _, Nat.le_refl _, by unfold maxLen; omega, rfl, rfl⟩⟩
        clear hX
        obtain ⟨g0, hg0⟩ : ∃ g, g = w3.heap.size := ⟨_, rfl⟩
        rw [← hg0] at row0 ⊢
        have RX := R3.out.below hbX
        obtain ⟨na, nc, rfl, _⟩ := RowIs.form RX.nrow
        obtain ⟨ra, rc, rfl, _⟩ := RowIs.form RX.rrow
        have HBX := hid (HB3.out.trans (hbX.mono HB3.out.size))
        have hwB : w.heap.size ≤ wc.heap.size := HWC.out.1.size
        -- the blocks that stay
        have KS := hid (show (∀ k, k = Rb ∨ G1 = some k ∨ G2 = some k → k < X.heap.size ∧ k ∉ g0 :: F) ∧ g0 < X.heap.size ∧ w.heap.size ≤ g0 from by
          have h3 := R3.out
          have hsz := HB3.out.size
          refine ⟨fun k hk => ?_, RowIs.lt row0 g0 rfl, by omega⟩
          have hk2 : k < w3.heap.size ∧ wc.heap.size ≤ k := by
            rcases hk with rfl | hk | hk
            · exact ⟨h3.blk.lt, h3.RB⟩
            · exact ⟨RowIs.lt h3.nrow k hk, (h3.g1 k hk).1⟩
            · exact ⟨RowIs.lt h3.rrow k hk, (h3.g2 k hk).1⟩
          refine ⟨Nat.lt_of_lt_of_le hk2.1 hbX.size, fun hm => ?_⟩
          rcases List.mem_cons.1 hm with e | hm
          · omega
          · have := H.out.lt k hm; omega)
        have gF : g0 ∉ F := fun hm => by have := H.out.lt g0 hm; have := KS.out.2.2; omega
        have c2 := RX.blk.cell 2
        have cz := RX.blk.lt
        simp only [List.getElem?_cons_zero, List.getElem?_cons_succ] at c2
        have RX := hid RX
        have ROW0 := hid row0
        clear hbX row0 hg0 R3 hwB
        go_wp2_with fail
        go_loopw [7, 61] (fun mv iv wr => ∃ (j : Nat) (S1 : Sto) (F1 : List Nat) (all : List Int) (g sc : Nat), j ≤ ns.length ∧ iv = .int .i64 j ∧ mv = .slice (some ⟨g, 0, none⟩) all.length sc ∧ StoIs wr p F1 S1 ∧ (Wf S1 ∧ Sated S1) ∧
          RowIs wr mv (some g) 3 1 all.length (ints all) ∧ g ∉ F1 ∧ StoStep X wr (g0 :: F) (g :: F1) ∧ all.length = j + 2 ∧ loadN S1 all (ns.drop j) = loadN S [0, 1] ns) (fun _ iv _ => ns.length - (intOf iv).toNat)
        case atStart => exact ⟨0, S, F, [0, 1], g0, 2, by omega, rfl, rfl, H.out.below HBX.out, HW.out, ROW0.out, gF, StoStep.refl _ _, rfl, rfl⟩
        case round =>
          obtain ⟨j, S1, F1, all, g, sc, hj, rfl, rfl, hS1, hG1, hrow, hgF, hst, hal, hld⟩ := hrel
          have HS1 := hid hS1
          have HG1 := hid hG1
          have HR1 := hid hrow
          have HGF1 := hid hgF
          have HST := hid hst
          have HLD := hid hld
          have hal2 : all.length ≤ 8388609 := by have := HYES.out.2.2.2.1; omega
          have HAL := hid hal
          clear hS1 hG1 hrow hgF hst hld c2 cz hal
          by_cases hlt : j < ns.length
          · have hj1 : (j : Int) < (ns.length : Int) := by omega
            have hx := List.getElem?_eq_getElem hlt
            have nrowW : RowIs wr (.slice na ns.length nc) G1 39 3 ns.length (flat ns) := RowIs.keep RX.out.nrow (fun k hk => HST.out.block k (RowIs.lt RX.out.nrow k hk) (KS.out.1 k (.inr (.inl hk))).2)
            obtain ⟨b', off', rfl, hb1, q0, q1, q2⟩ := Rd.nodeAt (RowIs.rd nrowW) hx
            obtain ⟨n1, n2, n3, n4, n5, n6, -⟩ := HYES.out.2.1.ok j _ hx
            have LD := hid (List.drop_eq_getElem_cons hlt)
            have HLT := hid (And.intro hlt hj1)
            have HJW := hid (next_w (show j ≤ 8388608 by have := HYES.out.2.2.2.1; omega))
            have HMS := hid (meas_w hlt (by have := HYES.out.2.2.2.1; omega))
            generalize ns[j] = x at *
            obtain ⟨vx, lo', hi'⟩ := x
            simp only at q0 q1 q2 n1 n2 n3 n4 n5 n6
            obtain ⟨lo, rfl⟩ : ∃ v : Nat, lo' = v := ⟨lo'.toNat, by omega⟩
            obtain ⟨hi, rfl⟩ : ∃ v : Nat, hi' = v := ⟨hi'.toNat, by omega⟩
            clear hx nrowW
            go_upto_region 18 with (fail)
            refine wp_gen (fun Y hY => ?_)
            have hbY : Below wr.heap.size wr Y := by rw [hY]; (repeat' (first | (with_reducible exact Below.refl _ _) | (with_reducible refine Below.ext_mk ?_ ?_ _ _) | (with_reducible refine Below.alloc ?_ ?_ _) | (with_reducible refine Below.drew ?_) | (with_reducible refine Below.setCell ?_ ?_ _) | go_size))
            have bY : Blk Y wr.heap.size 39 [.int .i64 vx, .int .i64 lo, .int .i64 hi] := by rw [hY]; exact World.heap_alloc_last wr _
            obtain ⟨Bx, hBx⟩ : ∃ b, b = wr.heap.size := ⟨_, rfl⟩
            rw [← hBx] at bY ⊢
            have c0 := bY.cell 0
            have zB0 := bY.lt
            simp only [List.getElem?_cons_zero] at c0
            have SY := HS1.out.below hbY
            have VC := hid (var_call SY HG1.out.1 vx)
            unfold Tells at VC
            obtain ⟨hVW, hVS⟩ := varV_good HG1.out.1 HG1.out.2 vx
            have BXF : Bx ∉ F1 := fun hm => by have := HS1.out.lt Bx hm; omega
            have rowY : RowIs Y (.slice (some ⟨g, 0, none⟩) all.length sc) (some g) 3 1 all.length (ints all) := RowIs.keep HR1.out (fun k hk => hbY.block k (RowIs.lt HR1.out k hk))
            obtain ⟨V1, hV1⟩ : ∃ V, V = varV S1 vx := ⟨_, rfl⟩
            rw [← hV1] at VC hVW hVS
            have HV1 := hid hV1
            have BY := hid bY
            have HBY := hid (And.intro hbY (And.intro hBx BXF))
            have ROWY := hid rowY
            have HVG := hid (And.intro hVW hVS)
            clear hY q0 q1 q2 hb1 SY hV1 hbY hBx BXF rowY bY hVW hVS n1 n2
            refine wp_region_doc (fun F' hF => ?_)
            have HF := hid hF
            clear hF
            iterate 3 (refine doc_val rfl (by first | (go_simp; done) | (go_simp; exact ⟨rfl, rfl⟩) | (go_simp; with_reducible rfl)) ?_; simp only [Act.put, List.setIfInBounds_toArray, List.set_cons_zero, List.set_cons_succ])
            refine doc_call rfl (by first | (go_simp; done) | (go_simp; exact ⟨rfl, rfl⟩) | (go_simp; with_reducible rfl)) ((VC.out).mono ?_)
            rintro _ w4 ⟨rfl, F2, hS2, st2⟩
            refine ⟨_, rfl, ?_⟩
            simp only [Act.put, List.setIfInBounds_toArray, List.set_cons_zero, List.set_cons_succ]
            refine doc_val rfl (by first | (go_simp; done) | (go_simp; exact ⟨rfl, rfl⟩) | (go_simp; with_reducible rfl)) ?_
            simp only [Act.put, List.setIfInBounds_toArray, List.set_cons_zero, List.set_cons_succ]
            refine doc_end (HF.out _ _ ?_)
            clear HF F' VC c0 zB0
            have b4 := BY.out.keep (st2.block Bx BY.out.lt HBY.out.2.2)
            have HB1 := hid (b4.cell 1)
            have HB2 := hid (b4.cell 2)
            have zB := b4.lt
            have zgY := RowIs.lt ROWY.out g rfl
            have row4 : RowIs w4 (.slice (some ⟨g, 0, none⟩) all.length sc) (some g) 3 1 all.length (ints all) := RowIs.keep ROWY.out (fun k hk => by cases hk; exact st2.block g zgY HGF1.out)
            have hg2 : g ∉ F2 := st2.keeps zgY HGF1.out
            have zg := RowIs.lt row4 g rfl
            obtain ⟨x1, hx1⟩ : ∃ x, x = all.getD hi 0 := ⟨_, rfl⟩
            obtain ⟨x2, hx2⟩ : ∃ x, x = all.getD lo 0 := ⟨_, rfl⟩
            have rowc : ∀ c, c < all.length → w4.cell? ⟨g, c, none⟩ = some (.int .i64 (all.getD c 0)) := fun c hc => by
              obtain ⟨g', cap', e1, e2, e3, _⟩ := row4.at hc (j := 0) (by omega)
              cases e2
              simp only [Nat.mul_one, Nat.add_zero] at e3
              rw [e3]; simp [ints, List.getD_eq_getElem?_getD, hc]
            have lhi : hi < all.length := by have := HAL.out; omega
            have hal3 : all.length ≤ 8388608 := by have := HAL.out; have := HLT.out.1; have := HYES.out.2.2.2.1; omega
            have llo : lo < all.length := by have := HAL.out; omega
            have hc1 := rowc hi lhi
            have hc2 := rowc lo llo
            rw [← hx1] at hc1
            rw [← hx2] at hc2
            have HC1 := hid hc1
            have HC2 := hid hc2
            have lhi1 : (hi : Int) < (all.length : Int) := by omega
            have llo1 : (lo : Int) < (all.length : Int) := by omega
            have HROW := hid row4
            have HGF := hid hg2
            have IC := hid (fun W (hb : Below w4.heap.size w4 W) => ite_call (hS2.below hb) HVG.out.1 V1.2 x1 x2)
            unfold Tells at IC
            obtain ⟨R, hR⟩ : ∃ R, R = iteV V1.1 V1.2 x1 x2 := ⟨_, rfl⟩
            rw [← hR] at IC
            have HMK := hid (show makeN S1 all (vx, (lo : Int), (hi : Int)) = R by
              rw [hR, hx1, hx2]; unfold makeN; rw [← HV1.out]; rfl)
            have HRG := hid (show Wf R.1 ∧ Sated R.1 by rw [hR]; exact iteV_good HVG.out.1 HVG.out.2 _ _ _)
            have HX12 := hid (And.intro hx1 hx2)
            have ST4 := hid (HST.out.trans ((StoStep.of_below (F := g :: F1) HBY.out.1).trans (st2.cons g)))
            obtain ⟨v1, vv⟩ := V1
            simp only at IC
            clear b4 row4 hg2 rowc hc1 hc2 hR hx1 hx2 st2 hS2 zgY lhi llo n3 n4 n5 n6
            go_upto_region 19 with (fail)
            refine wp_rm w4 p g all.length sc hi lo Bx vv x1 x2 R.2 F2 R.1 all (by kernel_rfl) (by kernel_rfl) ?_ ?_ ?_
            · refine ⟨0, undef, ?_, ⟨fun _ => Below.drew (Below.refl _ _), fun h => by simp at h, fun h => by simp at h, fun h => by simp at h⟩⟩
              unfold rmAct
              rfl
            · rintro L a W' hall ⟨q, v', rfl, hQ⟩
              obtain ⟨F3, G', hS3, hr3, hg3, hgg, st3⟩ := hQ.d (hall 15 (by decide))
              have e0 := hall 0 (by decide)
              have e1 := hall 1 (by decide)
              have e2 := hall 2 (by decide)
              have e3 := hall 3 (by decide)
              have e4 := hall 4 (by decide)
              have e5 := hall 5 (by decide)
              have e6 := hall 6 (by decide)
              have e7 := hall 7 (by decide)
              have e8 := hall 8 (by decide)
              have e9 := hall 9 (by decide)
              have e10 := hall 10 (by decide)
              have e11 := hall 11 (by decide)
              have e12 := hall 12 (by decide)
              have e13 := hall 13 (by decide)
              have e14 := hall 14 (by decide)
              have e15 := hall 15 (by decide)
              have e16 := hall 16 (by decide)
              unfold rmAct
              simp only [e0, e1, e2, e3, e4, e5, e6, e7, e8, e9, e10, e11, e12, e13, e14, e15, e16, gx_true]
              clear e0 e1 e2 e3 e4 e5 e6 e7 e8 e9 e10 e11 e12 e13 e14 e15 e16 hall hQ
              obtain ⟨a', sc', rfl, hm'⟩ := RowIs.form hr3
              obtain ⟨rfl, -⟩ := RowIs.addr2 hr3
              have HS3 := hid hS3
              have HR3 := hid hr3
              have HG3 := hid hg3
              have HST3 := hid (ST4.out.trans st3)
              clear hS3 hr3 hg3 hgg st3
              go_wp2_with fail
              go_roundw
              case rel =>
                refine ⟨j + 1, R.1, F3, all ++ [R.2], G', sc', HLT.out.1, by rw [HJW.out], rfl, HS3.out, HRG.out, HR3.out, HG3.out, HST3.out, by have := HAL.out; simp; omega, ?_⟩
                have h := HLD.out
                rw [LD.out, loadN, HMK.out] at h
                exact h
              case measure => exact HMS.out
            -- GENERATED by genread.py
            refine ⟨fun L a w2 hn hI => ?_, ?_⟩
            · obtain ⟨q, v', rfl, hI⟩ := hI
              have hup := getD_up hn.2.1
              have f16 := not_upA hn.2.2.2 (i := 16) (k := 0) (by decide +kernel) hn.2.1
              refine st_val (v := .slice (some ⟨g, 0, none⟩) all.length sc) (W1 := w2) rfl (by unfold rmAct; simp only [gx_true, f16, gx_false]; go_simp) ?_
              refine ⟨q, v', ?_, hI.congr (up_ne _ _ (by decide)) (up_ne _ _ (by decide)) (up_ne _ _ (by decide))⟩
              unfold rmAct
              simp only [Act.put, List.setIfInBounds_toArray, List.set_cons_zero, List.set_cons_succ, hup, gx_true, up_ne 0 1 (by decide), up_ne 0 2 (by decide), up_ne 0 3 (by decide), up_ne 0 4 (by decide), up_ne 0 5 (by decide), up_ne 0 6 (by decide), up_ne 0 7 (by decide), up_ne 0 8 (by decide), up_ne 0 9 (by decide), up_ne 0 10 (by decide), up_ne 0 11 (by decide), up_ne 0 12 (by decide), up_ne 0 13 (by decide), up_ne 0 14 (by decide), up_ne 0 15 (by decide), up_ne 0 16 (by decide)]
            refine ⟨fun L a w2 hn hI => ?_, ?_⟩
            · obtain ⟨q, v', rfl, hI⟩ := hI
              have hup := getD_up hn.2.1
              refine st_val (v := .pointer (some ⟨p, 0, none⟩)) (W1 := w2) rfl (by unfold rmAct; simp only [gx_true]; go_simp) ?_
              refine ⟨q, v', ?_, hI.congr (up_ne _ _ (by decide)) (up_ne _ _ (by decide)) (up_ne _ _ (by decide))⟩
              unfold rmAct
              simp only [Act.put, List.setIfInBounds_toArray, List.set_cons_zero, List.set_cons_succ, hup, gx_true, up_ne 1 0 (by decide), up_ne 1 2 (by decide), up_ne 1 3 (by decide), up_ne 1 4 (by decide), up_ne 1 5 (by decide), up_ne 1 6 (by decide), up_ne 1 7 (by decide), up_ne 1 8 (by decide), up_ne 1 9 (by decide), up_ne 1 10 (by decide), up_ne 1 11 (by decide), up_ne 1 12 (by decide), up_ne 1 13 (by decide), up_ne 1 14 (by decide), up_ne 1 15 (by decide), up_ne 1 16 (by decide)]
            refine ⟨fun L a w2 hn hI => ?_, ?_⟩
            · obtain ⟨q, v', rfl, hI⟩ := hI
              have hup := getD_up hn.2.1
              refine st_val (v := .int .i64 vv) (W1 := w2) rfl (by unfold rmAct; simp only [gx_true]; go_simp) ?_
              refine ⟨q, v', ?_, hI.congr (up_ne _ _ (by decide)) (up_ne _ _ (by decide)) (up_ne _ _ (by decide))⟩
              unfold rmAct
              simp only [Act.put, List.setIfInBounds_toArray, List.set_cons_zero, List.set_cons_succ, hup, gx_true, up_ne 2 0 (by decide), up_ne 2 1 (by decide), up_ne 2 3 (by decide), up_ne 2 4 (by decide), up_ne 2 5 (by decide), up_ne 2 6 (by decide), up_ne 2 7 (by decide), up_ne 2 8 (by decide), up_ne 2 9 (by decide), up_ne 2 10 (by decide), up_ne 2 11 (by decide), up_ne 2 12 (by decide), up_ne 2 13 (by decide), up_ne 2 14 (by decide), up_ne 2 15 (by decide), up_ne 2 16 (by decide)]
            refine ⟨fun L a w2 hn hI => ?_, ?_⟩
            · obtain ⟨q, v', rfl, hI⟩ := hI
              have hup := getD_up hn.2.1
              have f16 := not_upA hn.2.2.2 (i := 16) (k := 3) (by decide +kernel) hn.2.1
              refine st_val (v := .slice (some ⟨g, 0, none⟩) all.length sc) (W1 := w2) rfl (by unfold rmAct; simp only [gx_true, f16, gx_false]; go_simp) ?_
              refine ⟨q, v', ?_, hI.congr (up_ne _ _ (by decide)) (up_ne _ _ (by decide)) (up_ne _ _ (by decide))⟩
              unfold rmAct
              simp only [Act.put, List.setIfInBounds_toArray, List.set_cons_zero, List.set_cons_succ, hup, gx_true, up_ne 3 0 (by decide), up_ne 3 1 (by decide), up_ne 3 2 (by decide), up_ne 3 4 (by decide), up_ne 3 5 (by decide), up_ne 3 6 (by decide), up_ne 3 7 (by decide), up_ne 3 8 (by decide), up_ne 3 9 (by decide), up_ne 3 10 (by decide), up_ne 3 11 (by decide), up_ne 3 12 (by decide), up_ne 3 13 (by decide), up_ne 3 14 (by decide), up_ne 3 15 (by decide), up_ne 3 16 (by decide)]
            refine ⟨fun L a w2 hn hI => ?_, ?_⟩
            · obtain ⟨q, v', rfl, hI⟩ := hI
              have hup := getD_up hn.2.1
              refine st_val (v := .pointer (some ⟨Bx, 2, none⟩)) (W1 := w2) rfl (by unfold rmAct; simp only [gx_true]; go_simp) ?_
              refine ⟨q, v', ?_, hI.congr (up_ne _ _ (by decide)) (up_ne _ _ (by decide)) (up_ne _ _ (by decide))⟩
              unfold rmAct
              simp only [Act.put, List.setIfInBounds_toArray, List.set_cons_zero, List.set_cons_succ, hup, gx_true, up_ne 4 0 (by decide), up_ne 4 1 (by decide), up_ne 4 2 (by decide), up_ne 4 3 (by decide), up_ne 4 5 (by decide), up_ne 4 6 (by decide), up_ne 4 7 (by decide), up_ne 4 8 (by decide), up_ne 4 9 (by decide), up_ne 4 10 (by decide), up_ne 4 11 (by decide), up_ne 4 12 (by decide), up_ne 4 13 (by decide), up_ne 4 14 (by decide), up_ne 4 15 (by decide), up_ne 4 16 (by decide)]
            refine ⟨fun L a w2 hn hI => ?_, ?_⟩
            · obtain ⟨q, v', rfl, hI⟩ := hI
              have hup := getD_up hn.2.1
              have d4 : L.getD 4 false = true := hn.2.2.1 4 (by decide +kernel)
              have f13 := not_upA hn.2.2.2 (i := 13) (k := 5) (by decide +kernel) hn.2.1
              have hB := hI.a f13
              have zbw : Bx < w2.heap.size := Nat.lt_of_lt_of_le zB hB.size
              have kc := (hB.cell (p := ⟨Bx, 2, none⟩) zB).trans HB2.out
              refine st_val (v := .int .i64 (hi : Nat)) (W1 := w2) rfl (by unfold rmAct; simp only [gx_true, d4]; go_simp) ?_
              refine ⟨q, v', ?_, hI.congr (up_ne _ _ (by decide)) (up_ne _ _ (by decide)) (up_ne _ _ (by decide))⟩
              unfold rmAct
              simp only [Act.put, List.setIfInBounds_toArray, List.set_cons_zero, List.set_cons_succ, hup, gx_true, up_ne 5 0 (by decide), up_ne 5 1 (by decide), up_ne 5 2 (by decide), up_ne 5 3 (by decide), up_ne 5 4 (by decide), up_ne 5 6 (by decide), up_ne 5 7 (by decide), up_ne 5 8 (by decide), up_ne 5 9 (by decide), up_ne 5 10 (by decide), up_ne 5 11 (by decide), up_ne 5 12 (by decide), up_ne 5 13 (by decide), up_ne 5 14 (by decide), up_ne 5 15 (by decide), up_ne 5 16 (by decide)]
            refine ⟨fun L a w2 hn hI => ?_, ?_⟩
            · obtain ⟨q, v', rfl, hI⟩ := hI
              have hup := getD_up hn.2.1
              have d3 : L.getD 3 false = true := hn.2.2.1 3 (by decide +kernel)
              have d5 : L.getD 5 false = true := hn.2.2.1 5 (by decide +kernel)
              refine st_val (v := .pointer (some ⟨g, hi, none⟩)) (W1 := w2) rfl (by unfold rmAct; simp only [gx_true, d3, d5]; go_simp) ?_
              refine ⟨q, v', ?_, hI.congr (up_ne _ _ (by decide)) (up_ne _ _ (by decide)) (up_ne _ _ (by decide))⟩
              unfold rmAct
              simp only [Act.put, List.setIfInBounds_toArray, List.set_cons_zero, List.set_cons_succ, hup, gx_true, up_ne 6 0 (by decide), up_ne 6 1 (by decide), up_ne 6 2 (by decide), up_ne 6 3 (by decide), up_ne 6 4 (by decide), up_ne 6 5 (by decide), up_ne 6 7 (by decide), up_ne 6 8 (by decide), up_ne 6 9 (by decide), up_ne 6 10 (by decide), up_ne 6 11 (by decide), up_ne 6 12 (by decide), up_ne 6 13 (by decide), up_ne 6 14 (by decide), up_ne 6 15 (by decide), up_ne 6 16 (by decide)]
            refine ⟨fun L a w2 hn hI => ?_, ?_⟩
            · obtain ⟨q, v', rfl, hI⟩ := hI
              have hup := getD_up hn.2.1
              have d6 : L.getD 6 false = true := hn.2.2.1 6 (by decide +kernel)
              have f13 := not_upA hn.2.2.2 (i := 13) (k := 7) (by decide +kernel) hn.2.1
              have hB := hI.a f13
              have zgw : g < w2.heap.size := Nat.lt_of_lt_of_le zg hB.size
              have kc := (hB.cell (p := ⟨g, hi, none⟩) zg).trans HC1.out
              refine st_val (v := .int .i64 x1) (W1 := w2) rfl (by unfold rmAct; simp only [gx_true, d6]; go_simp) ?_
              refine ⟨q, v', ?_, hI.congr (up_ne _ _ (by decide)) (up_ne _ _ (by decide)) (up_ne _ _ (by decide))⟩
              unfold rmAct
              simp only [Act.put, List.setIfInBounds_toArray, List.set_cons_zero, List.set_cons_succ, hup, gx_true, up_ne 7 0 (by decide), up_ne 7 1 (by decide), up_ne 7 2 (by decide), up_ne 7 3 (by decide), up_ne 7 4 (by decide), up_ne 7 5 (by decide), up_ne 7 6 (by decide), up_ne 7 8 (by decide), up_ne 7 9 (by decide), up_ne 7 10 (by decide), up_ne 7 11 (by decide), up_ne 7 12 (by decide), up_ne 7 13 (by decide), up_ne 7 14 (by decide), up_ne 7 15 (by decide), up_ne 7 16 (by decide)]
            refine ⟨fun L a w2 hn hI => ?_, ?_⟩
            · obtain ⟨q, v', rfl, hI⟩ := hI
              have hup := getD_up hn.2.1
              have f16 := not_upA hn.2.2.2 (i := 16) (k := 8) (by decide +kernel) hn.2.1
              refine st_val (v := .slice (some ⟨g, 0, none⟩) all.length sc) (W1 := w2) rfl (by unfold rmAct; simp only [gx_true, f16, gx_false]; go_simp) ?_
              refine ⟨q, v', ?_, hI.congr (up_ne _ _ (by decide)) (up_ne _ _ (by decide)) (up_ne _ _ (by decide))⟩
              unfold rmAct
              simp only [Act.put, List.setIfInBounds_toArray, List.set_cons_zero, List.set_cons_succ, hup, gx_true, up_ne 8 0 (by decide), up_ne 8 1 (by decide), up_ne 8 2 (by decide), up_ne 8 3 (by decide), up_ne 8 4 (by decide), up_ne 8 5 (by decide), up_ne 8 6 (by decide), up_ne 8 7 (by decide), up_ne 8 9 (by decide), up_ne 8 10 (by decide), up_ne 8 11 (by decide), up_ne 8 12 (by decide), up_ne 8 13 (by decide), up_ne 8 14 (by decide), up_ne 8 15 (by decide), up_ne 8 16 (by decide)]
            refine ⟨fun L a w2 hn hI => ?_, ?_⟩
            · obtain ⟨q, v', rfl, hI⟩ := hI
              have hup := getD_up hn.2.1
              refine st_val (v := .pointer (some ⟨Bx, 1, none⟩)) (W1 := w2) rfl (by unfold rmAct; simp only [gx_true]; go_simp) ?_
              refine ⟨q, v', ?_, hI.congr (up_ne _ _ (by decide)) (up_ne _ _ (by decide)) (up_ne _ _ (by decide))⟩
              unfold rmAct
              simp only [Act.put, List.setIfInBounds_toArray, List.set_cons_zero, List.set_cons_succ, hup, gx_true, up_ne 9 0 (by decide), up_ne 9 1 (by decide), up_ne 9 2 (by decide), up_ne 9 3 (by decide), up_ne 9 4 (by decide), up_ne 9 5 (by decide), up_ne 9 6 (by decide), up_ne 9 7 (by decide), up_ne 9 8 (by decide), up_ne 9 10 (by decide), up_ne 9 11 (by decide), up_ne 9 12 (by decide), up_ne 9 13 (by decide), up_ne 9 14 (by decide), up_ne 9 15 (by decide), up_ne 9 16 (by decide)]
            refine ⟨fun L a w2 hn hI => ?_, ?_⟩
            · obtain ⟨q, v', rfl, hI⟩ := hI
              have hup := getD_up hn.2.1
              have d9 : L.getD 9 false = true := hn.2.2.1 9 (by decide +kernel)
              have f13 := not_upA hn.2.2.2 (i := 13) (k := 10) (by decide +kernel) hn.2.1
              have hB := hI.a f13
              have zbw : Bx < w2.heap.size := Nat.lt_of_lt_of_le zB hB.size
              have kc := (hB.cell (p := ⟨Bx, 1, none⟩) zB).trans HB1.out
              refine st_val (v := .int .i64 (lo : Nat)) (W1 := w2) rfl (by unfold rmAct; simp only [gx_true, d9]; go_simp) ?_
              refine ⟨q, v', ?_, hI.congr (up_ne _ _ (by decide)) (up_ne _ _ (by decide)) (up_ne _ _ (by decide))⟩
              unfold rmAct
              simp only [Act.put, List.setIfInBounds_toArray, List.set_cons_zero, List.set_cons_succ, hup, gx_true, up_ne 10 0 (by decide), up_ne 10 1 (by decide), up_ne 10 2 (by decide), up_ne 10 3 (by decide), up_ne 10 4 (by decide), up_ne 10 5 (by decide), up_ne 10 6 (by decide), up_ne 10 7 (by decide), up_ne 10 8 (by decide), up_ne 10 9 (by decide), up_ne 10 11 (by decide), up_ne 10 12 (by decide), up_ne 10 13 (by decide), up_ne 10 14 (by decide), up_ne 10 15 (by decide), up_ne 10 16 (by decide)]
            refine ⟨fun L a w2 hn hI => ?_, ?_⟩
            · obtain ⟨q, v', rfl, hI⟩ := hI
              have hup := getD_up hn.2.1
              have d8 : L.getD 8 false = true := hn.2.2.1 8 (by decide +kernel)
              have d10 : L.getD 10 false = true := hn.2.2.1 10 (by decide +kernel)
              refine st_val (v := .pointer (some ⟨g, lo, none⟩)) (W1 := w2) rfl (by unfold rmAct; simp only [gx_true, d8, d10]; go_simp) ?_
              refine ⟨q, v', ?_, hI.congr (up_ne _ _ (by decide)) (up_ne _ _ (by decide)) (up_ne _ _ (by decide))⟩
              unfold rmAct
              simp only [Act.put, List.setIfInBounds_toArray, List.set_cons_zero, List.set_cons_succ, hup, gx_true, up_ne 11 0 (by decide), up_ne 11 1 (by decide), up_ne 11 2 (by decide), up_ne 11 3 (by decide), up_ne 11 4 (by decide), up_ne 11 5 (by decide), up_ne 11 6 (by decide), up_ne 11 7 (by decide), up_ne 11 8 (by decide), up_ne 11 9 (by decide), up_ne 11 10 (by decide), up_ne 11 12 (by decide), up_ne 11 13 (by decide), up_ne 11 14 (by decide), up_ne 11 15 (by decide), up_ne 11 16 (by decide)]
            refine ⟨fun L a w2 hn hI => ?_, ?_⟩
            · obtain ⟨q, v', rfl, hI⟩ := hI
              have hup := getD_up hn.2.1
              have d11 : L.getD 11 false = true := hn.2.2.1 11 (by decide +kernel)
              have f13 := not_upA hn.2.2.2 (i := 13) (k := 12) (by decide +kernel) hn.2.1
              have hB := hI.a f13
              have zgw : g < w2.heap.size := Nat.lt_of_lt_of_le zg hB.size
              have kc := (hB.cell (p := ⟨g, lo, none⟩) zg).trans HC2.out
              refine st_val (v := .int .i64 x2) (W1 := w2) rfl (by unfold rmAct; simp only [gx_true, d11]; go_simp) ?_
              refine ⟨q, v', ?_, hI.congr (up_ne _ _ (by decide)) (up_ne _ _ (by decide)) (up_ne _ _ (by decide))⟩
              unfold rmAct
              simp only [Act.put, List.setIfInBounds_toArray, List.set_cons_zero, List.set_cons_succ, hup, gx_true, up_ne 12 0 (by decide), up_ne 12 1 (by decide), up_ne 12 2 (by decide), up_ne 12 3 (by decide), up_ne 12 4 (by decide), up_ne 12 5 (by decide), up_ne 12 6 (by decide), up_ne 12 7 (by decide), up_ne 12 8 (by decide), up_ne 12 9 (by decide), up_ne 12 10 (by decide), up_ne 12 11 (by decide), up_ne 12 13 (by decide), up_ne 12 14 (by decide), up_ne 12 15 (by decide), up_ne 12 16 (by decide)]
            refine ⟨fun L a w2 hn hI => ?_, ?_⟩
            · obtain ⟨q, v', rfl, hI⟩ := hI
              have hup := getD_up hn.2.1
              have d1 : L.getD 1 false = true := hn.2.2.1 1 (by decide +kernel)
              have d2 : L.getD 2 false = true := hn.2.2.1 2 (by decide +kernel)
              have d7 : L.getD 7 false = true := hn.2.2.1 7 (by decide +kernel)
              have d12 : L.getD 12 false = true := hn.2.2.1 12 (by decide +kernel)
              have f13 := getD_false_of hn.2.1
              have f14 := not_upA hn.2.2.2 (i := 14) (k := 13) (by decide +kernel) hn.2.1
              have f15 := not_upA hn.2.2.2 (i := 15) (k := 13) (by decide +kernel) hn.2.1
              refine st_call (f := 25) (args := #[.pointer (some ⟨p, 0, none⟩), .int .i64 vv, .int .i64 x1, .int .i64 x2]) (W1 := w2) rfl (by unfold rmAct; simp only [gx_true, d1, d2, d7, d12]; first | (go_simp; done) | (go_simp; exact ⟨rfl, rfl⟩) | (go_simp; with_reducible rfl)) ((IC.out w2 (hI.a f13)).mono ?_)
              rintro e' w3 ⟨rfl, F2, hS2, st2⟩
              refine ⟨_, rfl, q, v', ?_, hI.ite f13 hup ((up_ne _ _ (by decide)).trans f14) ((up_ne _ _ (by decide)).trans f15) hS2 st2⟩
              unfold rmAct
              simp only [Act.put, List.setIfInBounds_toArray, List.set_cons_zero, List.set_cons_succ, hup, gx_true, up_ne 13 0 (by decide), up_ne 13 1 (by decide), up_ne 13 2 (by decide), up_ne 13 3 (by decide), up_ne 13 4 (by decide), up_ne 13 5 (by decide), up_ne 13 6 (by decide), up_ne 13 7 (by decide), up_ne 13 8 (by decide), up_ne 13 9 (by decide), up_ne 13 10 (by decide), up_ne 13 11 (by decide), up_ne 13 12 (by decide), up_ne 13 14 (by decide), up_ne 13 15 (by decide), up_ne 13 16 (by decide)]
            refine ⟨fun L a w2 hn hI => ?_, ?_⟩
            · obtain ⟨q, v', rfl, hI⟩ := hI
              have hup := getD_up hn.2.1
              have d13 : L.getD 13 false = true := hn.2.2.1 13 (by decide +kernel)
              have f14 := getD_false_of hn.2.1
              have f15 := not_upA hn.2.2.2 (i := 15) (k := 14) (by decide +kernel) hn.2.1
              have f16 := not_upA hn.2.2.2 (i := 16) (k := 14) (by decide +kernel) hn.2.1
              refine st_val (v := .slice (some ⟨w2.heap.size, 0, none⟩) 1 1) (W1 := w2.alloc (.cells #[.int .i64 R.2] 3)) rfl (by unfold rmAct; simp only [gx_true, d13]; go_simp) ?_
              refine ⟨w2.heap.size, v', ?_, hI.lit d13 f14 ((up_ne _ _ (by decide)).trans d13) hup ((up_ne _ _ (by decide)).trans f15)⟩
              unfold rmAct
              simp only [Act.put, List.setIfInBounds_toArray, List.set_cons_zero, List.set_cons_succ, hup, gx_true, f15, f16, gx_false, up_ne 14 0 (by decide), up_ne 14 1 (by decide), up_ne 14 2 (by decide), up_ne 14 3 (by decide), up_ne 14 4 (by decide), up_ne 14 5 (by decide), up_ne 14 6 (by decide), up_ne 14 7 (by decide), up_ne 14 8 (by decide), up_ne 14 9 (by decide), up_ne 14 10 (by decide), up_ne 14 11 (by decide), up_ne 14 12 (by decide), up_ne 14 13 (by decide), up_ne 14 15 (by decide), up_ne 14 16 (by decide)]
            refine ⟨fun L a w2 hn hI => ?_, ?_⟩
            · obtain ⟨q, v', rfl, hI⟩ := hI
              have hup := getD_up hn.2.1
              have d0 : L.getD 0 false = true := hn.2.2.1 0 (by decide +kernel)
              have d14 : L.getD 14 false = true := hn.2.2.1 14 (by decide +kernel)
              have f15 := getD_false_of hn.2.1
              have f16 := not_upA hn.2.2.2 (i := 16) (k := 15) (by decide +kernel) hn.2.1
              obtain ⟨v2, w3, G2, r1, r2, -⟩ := hI.app HROW.out HGF.out (by omega) d14 f15
              refine st_val (v := v2) (W1 := w3) rfl (by unfold rmAct; simp only [gx_true, d0, d14]; exact run_append_op _ _ _ _ _ _ _ _ _ r1) ?_
              refine ⟨q, v2, ?_, hI.fin hup ((up_ne _ _ (by decide)).trans (hn.2.2.1 13 (by decide +kernel))) ((up_ne _ _ (by decide)).trans d14) r2⟩
              unfold rmAct
              simp only [Act.put, List.setIfInBounds_toArray, List.set_cons_zero, List.set_cons_succ, hup, gx_true, f16, gx_false, up_ne 15 0 (by decide), up_ne 15 1 (by decide), up_ne 15 2 (by decide), up_ne 15 3 (by decide), up_ne 15 4 (by decide), up_ne 15 5 (by decide), up_ne 15 6 (by decide), up_ne 15 7 (by decide), up_ne 15 8 (by decide), up_ne 15 9 (by decide), up_ne 15 10 (by decide), up_ne 15 11 (by decide), up_ne 15 12 (by decide), up_ne 15 13 (by decide), up_ne 15 14 (by decide), up_ne 15 16 (by decide)]
            refine ⟨fun L a w2 hn hI => ?_, ?_⟩
            · obtain ⟨q, v', rfl, hI⟩ := hI
              have hup := getD_up hn.2.1
              have d15 : L.getD 15 false = true := hn.2.2.1 15 (by decide +kernel)
              refine st_val (v := v') (W1 := w2) rfl (by unfold rmAct; simp only [gx_true, d15]; go_simp) ?_
              refine ⟨q, v', ?_, hI.congr (up_ne _ _ (by decide)) (up_ne _ _ (by decide)) (up_ne _ _ (by decide))⟩
              unfold rmAct
              simp only [Act.put, List.setIfInBounds_toArray, List.set_cons_zero, List.set_cons_succ, hup, gx_true, up_ne 16 0 (by decide), up_ne 16 1 (by decide), up_ne 16 2 (by decide), up_ne 16 3 (by decide), up_ne 16 4 (by decide), up_ne 16 5 (by decide), up_ne 16 6 (by decide), up_ne 16 7 (by decide), up_ne 16 8 (by decide), up_ne 16 9 (by decide), up_ne 16 10 (by decide), up_ne 16 11 (by decide), up_ne 16 12 (by decide), up_ne 16 13 (by decide), up_ne 16 14 (by decide), up_ne 16 15 (by decide)]
            trivial
            -- END GENERATED
          · obtain rfl : j = ns.length := by omega
            have HRES := hid (show loadN S [0, 1] ns = (S1, all) by have h := HLD.out; rw [List.drop_length, loadN] at h; exact h.symm)
            have hP := HP.out
            rw [HRES.out] at hP
            simp only at hP
            have hc1 : S1.cap ≠ 0 := by have := HG1.out.1.cap2; omega
            have HSW := hid (StoStep.off HST.out HBX.out KS.out.2.2 (fun k hk => HS1.out.lt k hk))
            have FU1 := hid (full_any HS1.out hc1)
            clear hc1 FU
            go_upto_region 21 with (fail)
            cases hfu : S1.full
            · rw [if_neg (by rw [hfu]; simp)] at hP
              rw [hfu] at FU1
              have HP := hid hP
              clear hP hfu
              go_upto_region 24 with ((with_reducible refine (FU1.out).mono ?_); clear FU1; rintro e w5 ⟨rfl, m5, d5, rfl⟩)
              refine wp_gen (fun Z hZ => ?_)
              have hb5 : Below wr.heap.size wr Z := by rw [hZ]; (repeat' (first | (with_reducible exact Below.refl _ _) | (with_reducible refine Below.ext_mk ?_ ?_ _ _) | (with_reducible refine Below.alloc ?_ ?_ _) | (with_reducible refine Below.drew ?_) | (with_reducible refine Below.setCell ?_ ?_ _) | go_size))
              obtain ⟨og, hog⟩ : ∃ g, g = wr.heap.size + m5.size := ⟨_, rfl⟩
              have rowZ : RowIs Z (.slice (some ⟨og, 0, none⟩) 0 0) (some og) 3 1 0 (ints []) := by
                rw [hZ, hog]
                have h := World.heap_alloc_last (wr.ext m5 d5) (.cells #[] 3)
                rw [World.size_ext] at h
                exact ⟨rfl, .inr ⟨_, 0, #[], rfl, rfl, h, Nat.le_refl _, by unfold maxLen; omega, rfl, rfl⟩⟩
              rw [← hog]
              have hog2 : wr.heap.size ≤ og := by omega
              have HR3 := hid (RowIs.keep HR1.out (fun k hk => hb5.block k (RowIs.lt HR1.out k hk)))
              have kG2 : ∀ k, k = Rb ∨ G1 = some k ∨ G2 = some k → k < wr.heap.size ∧ wr.heap[k]? = X.heap[k]? := fun k hk => by
                obtain ⟨h1, h2⟩ := KS.out.1 k hk
                exact ⟨Nat.lt_of_lt_of_le h1 HST.out.size, HST.out.block k h1 h2⟩
              have RZ := hid (RowIs.keep (RowIs.keep RX.out.rrow (fun k hk => (kG2 k (.inr (.inr hk))).2)) (fun k hk => hb5.block k (kG2 k (.inr (.inr hk))).1))
              have c3 := ((cell_of_heap 3 (hb5.block Rb (kG2 Rb (.inl rfl)).1)).trans (cell_of_heap 3 (kG2 Rb (.inl rfl)).2)).trans (RX.out.blk.cell 3)
              have cz : Rb < Z.heap.size := Nat.lt_of_lt_of_le (kG2 Rb (.inl rfl)).1 hb5.size
              simp only [List.getElem?_cons_zero, List.getElem?_cons_succ] at c3
              have HB5 := hid (And.intro hb5 (And.intro hog2 (fun k hk => (kG2 k hk).1)))
              have ROWZ := hid rowZ
              have HLA := hid (show all.length = ns.length + 2 from HAL.out)
              clear hZ hog hog2 hb5 rowZ kG2 HLD
              obtain ⟨w6, hw6⟩ : ∃ w6, w6 = wr := ⟨_, rfl⟩
              subst hw6
              go_wp2_with fail
              go_loopw [11, 94] (fun ov iv wv => ∃ (j : Nat) (og' sc' : Nat), j ≤ rs.length ∧ iv = .int .i64 j ∧ ov = .slice (some ⟨og', 0, none⟩) j sc' ∧ RowIs wv ov (some og') 3 1 ((rs.take j).map (fun r => all.getD r.toNat 0)).length (ints ((rs.take j).map (fun r => all.getD r.toNat 0))) ∧
                StoStep Z wv [og] [og']) (fun _ iv _ => rs.length - (intOf iv).toNat)
              case atStart => exact ⟨0, og, 0, by omega, rfl, rfl, ROWZ.out, StoStep.refl _ _⟩
              case round =>
                obtain ⟨j, og', sc', hj, rfl, rfl, hrow, hst⟩ := hrel
                have HRW := hid hrow
                have HSZ := hid hst
                have hbz := HB5.out.1.trans (hst.below (B := w6.heap.size) (fun k hk => by simp at hk; have := HB5.out.2.1; omega) HB5.out.1.size)
                have HBZ := hid hbz
                clear hrow hst c3 cz
                by_cases hlt : j < rs.length
                · have hj1 : (j : Int) < (rs.length : Int) := by omega
                  have hog : ∀ k, k < w6.heap.size → k ∉ [og] := fun k hk hm => by simp at hm; have := HB5.out.2.1; omega
                  have rootW := RowIs.keep RZ.out (fun k hk => HSZ.out.block k (RowIs.lt RZ.out k hk) (hog k (HB5.out.2.2 k (.inr (.inr hk)))))
                  have madeW := RowIs.keep HR3.out (fun k hk => HSZ.out.block k (RowIs.lt HR3.out k hk) (hog k (by cases hk; exact RowIs.lt HR1.out g rfl)))
                  obtain ⟨b', off', rfl, hb1, q0⟩ := Rd.intAt (RowIs.rd rootW) hlt
                  obtain ⟨a0, a1⟩ := HYES.out.2.2.1 rs[j] (List.getElem_mem _)
                  have TK := hid (show (rs.take (j + 1)).map (fun r => all.getD r.toNat 0) = (rs.take j).map (fun r => all.getD r.toNat 0) ++ [all.getD (rs[j]).toNat 0] by
                    rw [List.take_add_one, List.getElem?_eq_getElem hlt, List.map_append]; rfl)
                  have HLT := hid (And.intro hlt (meas_w hlt (by have := HYES.out.2.2.2.2; omega)))
                  have HJW := hid (next_w (show j ≤ 8388608 by have := HYES.out.2.2.2.2; omega))
                  generalize rs[j] = r at *
                  obtain ⟨r, rfl⟩ : ∃ v : Nat, r = v := ⟨r.toNat, by omega⟩
                  rw [Int.toNat_natCast] at TK
                  have lr : r < all.length := by have := HLA.out; omega
                  have lr1 : (r : Int) < (all.length : Int) := by omega
                  obtain ⟨x1, hx1⟩ : ∃ x, x = all.getD r 0 := ⟨_, rfl⟩
                  have qc : wr.cell? ⟨g, r, none⟩ = some (.int .i64 x1) := by
                    obtain ⟨g', cap', e1, e2, e3, _⟩ := madeW.at lr (j := 0) (by omega)
                    cases e2
                    simp only [Nat.mul_one, Nat.add_zero] at e3
                    rw [e3, hx1]; simp [ints, List.getD_eq_getElem?_getD, lr]
                  have qz := RowIs.lt madeW g rfl
                  rw [← hx1] at TK
                  have hln : ((rs.take j).map (fun r => all.getD r.toNat 0)).length = j := by simp; omega
                  obtain ⟨v', W3, G', p1, p2, p3, p4⟩ := int_one HRW.out (by have := HYES.out.2.2.2.2; omega) x1
                  rw [← TK.out] at p2
                  obtain ⟨ga, gc, rfl, _⟩ := RowIs.form p2
                  obtain ⟨rfl, -⟩ := RowIs.addr2 p2
                  have hln2 : ((rs.take (j + 1)).map (fun r => all.getD r.toNat 0)).length = j + 1 := by simp; omega
                  rw [hln2] at p1
                  have HLN2 := hid hln2
                  have P1 := hid p1
                  have P2 := hid p2
                  have P4 := hid (HSZ.out.trans (show StoStep wr W3 [og'] [G'] from p4))
                  clear p1 p2 p3 p4 rootW madeW hx1 hln hln2 lr a0 a1 hbz hog
                  go_upto_region 27 with (fail)
                  refine wp_region_doc (fun F' hF => ?_)
                  have HF := hid hF
                  clear hF
                  iterate 6 (refine doc_val rfl (by first | (go_simp; done) | (go_simp; exact ⟨rfl, rfl⟩) | (go_simp; with_reducible rfl)) ?_; simp only [Act.put, List.setIfInBounds_toArray, List.set_cons_zero, List.set_cons_succ])
                  refine doc_val rfl (run_append_op _ _ _ _ _ _ _ _ _ P1.out) ?_
                  simp only [Act.put, List.setIfInBounds_toArray, List.set_cons_zero, List.set_cons_succ]
                  refine doc_val rfl (by first | (go_simp; done) | (go_simp; exact ⟨rfl, rfl⟩) | (go_simp; with_reducible rfl)) ?_
                  simp only [Act.put, List.setIfInBounds_toArray, List.set_cons_zero, List.set_cons_succ]
                  refine doc_end (HF.out _ _ ?_)
                  clear HF F' P1 q0 qc qz hb1
                  go_wp2_with fail
                  go_roundw
                  case rel =>
                    refine ⟨j + 1, G', gc, HLT.out.1, by rw [HJW.out], rfl, ?_, P4.out⟩
                    have h := P2.out
                    rw [HLN2.out] at h ⊢
                    exact h
                  case measure => exact HLT.out.2
                · obtain rfl : j = rs.length := by omega
                  have hP := HP.out
                  have hog3 : w.heap.size ≤ og' ∧ og' ∉ F1 := by
                    have h1 := HSZ.out.fresh og' (by simp)
                    have h2 := HSW.out.size
                    have h3 := HB5.out.2.1
                    have h4 := HB5.out.1.size
                    have h5 : w6.heap.size ≤ og' := by
                      rcases h1 with h | h
                      · simp at h; omega
                      · omega
                    exact ⟨by omega, fun hm => by have := HS1.out.lt og' hm; omega⟩
                  have HO := hid hog3
                  have HRW2 := hid (show RowIs wr (.slice (some ⟨og', 0, none⟩) rs.length sc') (some og') 3 1 (rs.map (fun r => all.getD r.toNat 0)).length (ints (rs.map (fun r => all.getD r.toNat 0))) by
                    have h := HRW.out; rw [List.take_length] at h; exact h)
                  subst hP
                  clear hog3 hbz
                  go_wp2_with fail
                  go_returns
                  exact ⟨_, some og', F1, rfl, HRW2.out, fun k hk => by cases hk; exact HO.out, HS1.out.below HBZ.out, HSW.out.trans (StoStep.of_below HBZ.out)⟩
            · rw [if_pos hfu] at hP
              rw [hfu] at FU1
              subst hP
              clear hfu
              go_wp2_with ((with_reducible refine (FU1.out).mono ?_); clear FU1; rintro e w5 ⟨rfl, m5, d5, rfl⟩)
              go_wp2
              go_returns
              have hb5 : Below wr.heap.size wr (wr.ext m5 d5) := Below.ext_mk (Below.refl _ _) (Nat.le_refl _) _ _
              exact ⟨_, none, F1, rfl, ⟨rfl, .inl ⟨rfl, rfl, rfl⟩⟩, fun g hg => (by cases hg), HS1.out.below hb5, HSW.out.trans (StoStep.of_below hb5)⟩
end
end Go.Proofs.Ytboekafmplomhaa
namespace Go.Proofs.Ytboekafmplomhaa
open Go.RowKit
set_option maxHeartbeats 4000000 in
theorem read_no {w : World} {q : Option Addr} (h : NoSto w q) (sv : Value) : Calls Try.prog 73 #[.pointer q, sv] w (Pure (.tuple #[.slice none 0 0, .int .i64 1]) w) := by
  have FU := fun W (hb : Below w.heap.size w W) => full_no (h.below hb)
  have LE := fun W (hb : Below w.heap.size w W) => len_no (h.below hb)
  clear h
  go_enter Try.func73, Try.ntmps73
  go_upto_region 1 with (fail)
  refine wp_region_seq (fun F hF => ?_)
  have HF := hid hF; clear hF
  repeat (first
    | (apply text_skip; (focus rfl); simp only [Act.put, List.setIfInBounds_toArray, List.set_cons_zero, List.set_cons_succ])
    | (apply text_val; (focus rfl); (focus (intro _ _; go_simp; with_reducible rfl)); simp only [Act.put, List.setIfInBounds_toArray, List.set_cons_zero, List.set_cons_succ])
    | (apply text_call; (focus rfl); (focus (intro _ _; go_simp; exact ⟨rfl, rfl⟩)); (focus (intro _ _; with_reducible (first | exact FU _ (by (repeat' (first | (with_reducible exact Below.refl _ _) | (with_reducible refine Below.ext_mk ?_ ?_ _ _) | (with_reducible refine Below.alloc ?_ ?_ _) | (with_reducible refine Below.drew ?_) | (with_reducible refine Below.setCell ?_ ?_ _) | go_size))) | exact LE _ (by (repeat' (first | (with_reducible exact Below.refl _ _) | (with_reducible refine Below.ext_mk ?_ ?_ _ _) | (with_reducible refine Below.alloc ?_ ?_ _) | (with_reducible refine Below.drew ?_) | (with_reducible refine Below.setCell ?_ ?_ _) | go_size)))))); simp only [Act.put, List.setIfInBounds_toArray, List.set_cons_zero, List.set_cons_succ])
    | (apply text_if; (focus (first | exact wanted_t rfl rfl | exact wanted_f rfl rfl | exact wanted_gt rfl rfl | exact wanted_gf rfl rfl)); (focus (intro hc _ _; (try simp only [Bool.and_eq_true, Bool.not_eq_true', Bool.true_and] at hc); go_simp; with_reducible rfl)); simp only [Act.put, List.setIfInBounds_toArray, List.set_cons_zero, List.set_cons_succ])
    | (apply text_if_call; (focus (first | exact wanted_t rfl rfl | exact wanted_f rfl rfl | exact wanted_gt rfl rfl | exact wanted_gf rfl rfl)); (focus (intro hc _ _; (try simp only [Bool.and_eq_true, Bool.not_eq_true', Bool.true_and] at hc); go_simp; exact ⟨rfl, rfl⟩)); (focus (intro hc _ _; with_reducible (first | exact FU _ (by (repeat' (first | (with_reducible exact Below.refl _ _) | (with_reducible refine Below.ext_mk ?_ ?_ _ _) | (with_reducible refine Below.alloc ?_ ?_ _) | (with_reducible refine Below.drew ?_) | (with_reducible refine Below.setCell ?_ ?_ _) | go_size))) | exact LE _ (by (repeat' (first | (with_reducible exact Below.refl _ _) | (with_reducible refine Below.ext_mk ?_ ?_ _ _) | (with_reducible refine Below.alloc ?_ ?_ _) | (with_reducible refine Below.drew ?_) | (with_reducible refine Below.setCell ?_ ?_ _) | go_size)))))); simp only [Act.put, List.setIfInBounds_toArray, List.set_cons_zero, List.set_cons_succ]))
  refine text_nil (HF.out _ (fun mx dx => ?_))
  clear HF F
  go_wp2
  go_returns
  exact Pure.of rfl (by (repeat' (first | (with_reducible exact Below.refl _ _) | (with_reducible refine Below.ext_mk ?_ ?_ _ _) | (with_reducible refine Below.alloc ?_ ?_ _) | (with_reducible refine Below.drew ?_) | (with_reducible refine Below.setCell ?_ ?_ _) | go_size)))
end Go.Proofs.Ytboekafmplomhaa
