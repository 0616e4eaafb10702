/-
  The diagrams that numbers say: the slots of the drawn region, and what holds in it.
-/
import Derived.Test.YtboekafmplomhaaZMadeP
import Derived.Test.YtboekafmplomhaaZMeansR
import Derived.Test.YtboekafmplomhaaZKnown15
import Derived.Test.YtboekafmplomhaaZInv
import Derived.Test.YtboekafmplomhaaZStage
set_option linter.unusedVariables false
set_option linter.unusedSimpArgs false
namespace Go.Proofs.Ytboekafmplomhaa
open Go.RowKit

theorem RowIs.addr2 {w : World} {a : Option Addr} {n c g : Nat} {e : TypeId} {s m : Nat} {xs : List Value} (h : RowIs w (.slice a n c) (some g) e s m xs) : a = some ⟨g, 0, none⟩ ∧ n = m := by
  obtain ⟨_, ⟨_, _, h3⟩ | ⟨g', cap, cur, h1, h2, _⟩⟩ := h
  · cases h3
  · cases h2
    injection h1 with e1 e2
    exact ⟨e1, e2⟩
theorem not_up {ops : Array Oper} {L : Array Bool} {i k : Nat} (hd : Down .any ops L) (hk : k ∈ deps .any ops i) (h : L.getD k true = false) : L.getD i false = false := by
  cases hc : L.getD i false with
  | false => rfl
  | true =>
    have := hd i hc k hk
    rw [getD_false_of h] at this; cases this
theorem not_upA {ops : Array Oper} {L : Array Bool} {i k : Nat} (hd : Down .any ops L) (ha : anc ops i k = true) (h : L.getD k true = false) : L.getD i false = false := by
  cases hc : L.getD i false with
  | false => rfl
  | true => have := up_of hd hc ha; rw [getD_false_of h] at this; cases this
theorem up_ne {L : Array Bool} (k j : Nat) (h : k ≠ j) : (L.setIfInBounds k true).getD j false = L.getD j false := getD_set_ne false h
def gx (c : Bool) (v y : Value) : Value := if c then v else y
theorem gx_true (v y : Value) : gx true v y = v := rfl
theorem gx_false (v y : Value) : gx false v y = y := rfl

/-- The worlds of the region: reads first; then Ite, a row of one, append. -/
structure MdI (Z : World) (B p : Nat) (F : List Nat) (S1 : Sto) (r : Int) (all : List Int) (b : Nat → Bool) (w : World) (q : Nat) (v' : Value) : Prop where
  a : b 44 = false → Below Z.heap.size Z w
  i : b 44 = true → b 45 = false → ∃ F1, StoIs w p F1 S1 ∧ StoStep Z w F F1
  c : b 45 = true → b 46 = false → ∃ w1 F1, StoIs w1 p F1 S1 ∧ StoStep Z w1 F F1 ∧ w = w1.alloc (.cells #[.int .i64 r] 3) ∧ q = w1.heap.size
  d : b 46 = true → ∃ F1 G', Held B w p F1 S1 v' (some G') (all ++ [r]) ∧ Below B Z w
section
variable {Z w w' : World} {B p q g n sc : Nat} {F : List Nat} {S S1 : Sto} {r : Int} {all : List Int} {b b' : Nat → Bool} {v' : Value}
theorem MdI.congr (h : MdI Z B p F S1 r all b w q v') (h4 : b' 44 = b 44) (h5 : b' 45 = b 45) (h6 : b' 46 = b 46) : MdI Z B p F S1 r all b' w q v' := by
  obtain ⟨a1, a2, a3, a4⟩ := h
  exact ⟨by rw [h4]; exact a1, by rw [h4, h5]; exact a2, by rw [h5, h6]; exact a3, by rw [h6]; exact a4⟩
theorem MdI.ext (h : MdI Z B p F S1 r all b w q v') (f : b 44 = false) (f' : b' 44 = false) (g5 : b' 45 = false) (g6 : b' 46 = false) (m : Array Obj) (d : Nat) : MdI Z B p F S1 r all b' (w.ext m d) q v' :=
  ⟨fun _ => Below.ext_mk (h.a f) (h.a f).size m d, fun e => by (rw [f'] at e; cases e), fun e => by (rw [g5] at e; cases e), fun e => by (rw [g6] at e; cases e)⟩
theorem MdI.ite (h : MdI Z B p F S1 r all b w q v') (f : b 44 = false) (f' : b' 44 = true) (f5 : b' 45 = false) (f6 : b' 46 = false) {F2 : List Nat} (hS : StoIs w' p F2 S1) (st : StoStep w w' F F2) : MdI Z B p F S1 r all b' w' q v' :=
  ⟨fun e => by (rw [f'] at e; cases e), fun _ _ => ⟨F2, hS, (StoStep.of_below (h.a f)).trans st⟩, fun e => by (rw [f5] at e; cases e), fun e => by (rw [f6] at e; cases e)⟩
theorem MdI.lit (h : MdI Z B p F S1 r all b w q v') (f : b 44 = true) (f5 : b 45 = false) (f' : b' 44 = true) (f5' : b' 45 = true) (f6 : b' 46 = false) : MdI Z B p F S1 r all b' (w.alloc (.cells #[.int .i64 r] 3)) w.heap.size v' := by
  obtain ⟨F2, hS, st⟩ := h.i f f5
  exact ⟨fun e => by (rw [f'] at e; cases e), fun _ e => by (rw [f5'] at e; cases e), fun _ _ => ⟨w, F2, hS, st, rfl, rfl⟩, fun e => by (rw [f6] at e; cases e)⟩
theorem MdI.app (h : MdI Z B p F S1 r all b w q v') {sv : Value} {G : Option Nat} (H : Held B Z p F S sv G all) (hB : B ≤ Z.heap.size) (hk : all.length ≤ 1000) (f5 : b 45 = true) (f6 : b 46 = false) :
    ∃ v2 w3 G2, (Builtin.append_ #[28, 28] 28 #[sv, .slice (some ⟨q, 0, none⟩) 1 1]).run Try.prog w = .ok v2 w3 ∧ (∃ F1, Held B w3 p F1 S1 v2 (some G2) (all ++ [r])) ∧ Below B Z w3 := by
  obtain ⟨w1, F1, hS, st, rfl, rfl⟩ := h.c f5 f6
  obtain ⟨v2, w3, G2, r1, r2, r3⟩ := H.grow hB hS st hk r
  exact ⟨v2, w3, G2, r1, ⟨F1, r2⟩, r3⟩
theorem MdI.fin (h : MdI Z B p F S1 r all b w q v') (f6 : b' 46 = true) (f4 : b' 44 = true) (f5 : b' 45 = true) {v2 : Value} {w3 : World} {G2 : Nat} (H : ∃ F1, Held B w3 p F1 S1 v2 (some G2) (all ++ [r])) (hb : Below B Z w3) : MdI Z B p F S1 r all b' w3 q v2 := by
  obtain ⟨F1, H⟩ := H
  exact ⟨fun e => by (rw [f4] at e; cases e), fun _ e => by (rw [f5] at e; cases e), fun _ e => by (rw [f6] at e; cases e), fun _ => ⟨F1, G2, H, hb⟩⟩
end
-- printed by genmade.py
def mdAct (p g n sc lb lo ll lc i m i1 i2 i3 b1 b2 b3 c1 c2 c3 : Nat) (fv : Value) (k1 k2 k3 x1 x2 x3 r : Int) (y0 y1 y2 y3 y4 y5 y6 y7 y8 y9 y10 y11 y12 y13 y14 y15 y16 y17 y18 y19 y20 y21 y22 y23 y24 y25 y26 y27 y28 y29 y30 y31 y32 y33 y34 y35 y36 y37 y38 y39 y40 y41 y42 y43 y44 y45 y46 y47 y48 y49 y50 y51 y52 y53 y54 y55 y56 y57 y58 y59 y60 y61 y62 y63 y64 y65 y66 y67 y68 y69 y70 y71 y72 y73 y74 y75 y76 y77 y78 y79 y80 y81 y82 y83 y84 y85 y86 y87 y88 y89 y90 y91 y92 y93 y94 y95 y96 y97 y98 y99 y100 y101 y102 y103 : Value) (b : Nat → Bool) (q : Nat) (v' : Value) : Act :=
  ⟨#[y0, y1, y2, y3, y4, y5, y6, y7, gx (b 47) (v') y8, y9, y10, y11, y12, y13, y14, y15, y16, y17, y18, y19, y20, y21, y22, y23, y24, y25, y26, y27, y28, y29, y30, y31, y32, y33, y34, y35, y36, y37, y38, y39, y40, y41, y42, y43, y44, y45, y46, y47, y48, y49, y50, y51, y52, y53, y54, gx (b 0) (.slice (some ⟨g, 0, none⟩) n sc) y55, gx (b 1) (.pointer (some ⟨p, 0, none⟩)) y56, gx (b 2) (.slice (some ⟨g, 0, none⟩) n sc) y57, gx (b 3) (.int .i64 (n : Nat)) y58, gx (b 4) (.int .i64 (m : Nat)) y59, gx (b 5) (fv) y60, gx (b 6) (.slice (some ⟨lb, lo, none⟩) ll lc) y61, gx (b 7) (.int .i64 (i : Nat)) y62, gx (b 8) (.int .i64 (i1 : Nat)) y63, gx (b 9) (.pointer (some ⟨lb, lo + i1, none⟩)) y64, gx (b 10) (.int .i64 k1) y65, gx (b 11) (.int .i64 (n : Nat)) y66, gx (b 12) (.int .i64 (b1 : Nat)) y67, gx (b 13) (.int .i64 (c1 : Nat)) y68, gx (b 14) (.pointer (some ⟨g, c1, none⟩)) y69, gx (b 15) (.int .i64 x1) y70, gx (b 16) (.slice (some ⟨g, 0, none⟩) n sc) y71, gx (b 17) (.int .i64 (n : Nat)) y72, gx (b 18) (.int .i64 (m : Nat)) y73, gx (b 19) (fv) y74, gx (b 20) (.slice (some ⟨lb, lo, none⟩) ll lc) y75, gx (b 21) (.int .i64 (i : Nat)) y76, gx (b 22) (.int .i64 (i2 : Nat)) y77, gx (b 23) (.pointer (some ⟨lb, lo + i2, none⟩)) y78, gx (b 24) (.int .i64 k2) y79, gx (b 25) (.int .i64 (n : Nat)) y80, gx (b 26) (.int .i64 (b2 : Nat)) y81, gx (b 27) (.int .i64 (c2 : Nat)) y82, gx (b 28) (.pointer (some ⟨g, c2, none⟩)) y83, gx (b 29) (.int .i64 x2) y84, gx (b 30) (.slice (some ⟨g, 0, none⟩) n sc) y85, gx (b 31) (.int .i64 (n : Nat)) y86, gx (b 32) (.int .i64 (m : Nat)) y87, gx (b 33) (fv) y88, gx (b 34) (.slice (some ⟨lb, lo, none⟩) ll lc) y89, gx (b 35) (.int .i64 (i : Nat)) y90, gx (b 36) (.int .i64 (i3 : Nat)) y91, gx (b 37) (.pointer (some ⟨lb, lo + i3, none⟩)) y92, gx (b 38) (.int .i64 k3) y93, gx (b 39) (.int .i64 (n : Nat)) y94, gx (b 40) (.int .i64 (b3 : Nat)) y95, gx (b 41) (.int .i64 (c3 : Nat)) y96, gx (b 42) (.pointer (some ⟨g, c3, none⟩)) y97, gx (b 43) (.int .i64 x3) y98, gx (b 44) (.int .i64 r) y99, gx (b 45) (.slice (some ⟨q, 0, none⟩) 1 1) y100, gx (b 46) (v') y101, y102, y103], []⟩
def mdInv (Z : World) (B : Nat) (p g n sc lb lo ll lc i m i1 i2 i3 b1 b2 b3 c1 c2 c3 : Nat) (fv : Value) (k1 k2 k3 x1 x2 x3 r : Int) (F : List Nat) (S1 : Sto) (all : List Int) (y0 y1 y2 y3 y4 y5 y6 y7 y8 y9 y10 y11 y12 y13 y14 y15 y16 y17 y18 y19 y20 y21 y22 y23 y24 y25 y26 y27 y28 y29 y30 y31 y32 y33 y34 y35 y36 y37 y38 y39 y40 y41 y42 y43 y44 y45 y46 y47 y48 y49 y50 y51 y52 y53 y54 y55 y56 y57 y58 y59 y60 y61 y62 y63 y64 y65 y66 y67 y68 y69 y70 y71 y72 y73 y74 y75 y76 y77 y78 y79 y80 y81 y82 y83 y84 y85 y86 y87 y88 y89 y90 y91 y92 y93 y94 y95 y96 y97 y98 y99 y100 y101 y102 y103 : Value) (L : Array Bool) (a : Act) (w : World) : Prop :=
  ∃ q v', a = mdAct p g n sc lb lo ll lc i m i1 i2 i3 b1 b2 b3 c1 c2 c3 fv k1 k2 k3 x1 x2 x3 r y0 y1 y2 y3 y4 y5 y6 y7 y8 y9 y10 y11 y12 y13 y14 y15 y16 y17 y18 y19 y20 y21 y22 y23 y24 y25 y26 y27 y28 y29 y30 y31 y32 y33 y34 y35 y36 y37 y38 y39 y40 y41 y42 y43 y44 y45 y46 y47 y48 y49 y50 y51 y52 y53 y54 y55 y56 y57 y58 y59 y60 y61 y62 y63 y64 y65 y66 y67 y68 y69 y70 y71 y72 y73 y74 y75 y76 y77 y78 y79 y80 y81 y82 y83 y84 y85 y86 y87 y88 y89 y90 y91 y92 y93 y94 y95 y96 y97 y98 y99 y100 y101 y102 y103 (fun k => L.getD k false) q v' ∧ MdI Z B p F S1 r all (fun k => L.getD k false) w q v'
theorem wp_made {ops : Array Oper} {id : Nat} {Q : Exit → Act → World → Prop} {y0 y1 y2 y3 y4 y5 y6 y7 y8 y9 y10 y11 y12 y13 y14 y15 y16 y17 y18 y19 y20 y21 y22 y23 y24 y25 y26 y27 y28 y29 y30 y31 y32 y33 y34 y35 y36 y37 y38 y39 y40 y41 y42 y43 y44 y45 y46 y47 y48 y49 y50 y51 y52 y53 y54 y55 y56 y57 y58 y59 y60 y61 y62 y63 y64 y65 y66 y67 y68 y69 y70 y71 y72 y73 y74 y75 y76 y77 y78 y79 y80 y81 y82 y83 y84 y85 y86 y87 y88 y89 y90 y91 y92 y93 y94 y95 y96 y97 y98 y99 y100 y101 y102 y103 : Value} (Z : World) (B : Nat) (p g n sc lb lo ll lc i m i1 i2 i3 b1 b2 b3 c1 c2 c3 : Nat) (fv : Value) (k1 k2 k3 x1 x2 x3 r : Int) (F : List Nat) (S1 : Sto) (all : List Int)
    (hm : Try.prog.follows .mixedOrders = true) (hlt : (List.range ops.size).all (fun i => (deps .any ops i).all (fun k => decide (k < i))) = true)
    (h0 : mdInv Z B p g n sc lb lo ll lc i m i1 i2 i3 b1 b2 b3 c1 c2 c3 fv k1 k2 k3 x1 x2 x3 r F S1 all y0 y1 y2 y3 y4 y5 y6 y7 y8 y9 y10 y11 y12 y13 y14 y15 y16 y17 y18 y19 y20 y21 y22 y23 y24 y25 y26 y27 y28 y29 y30 y31 y32 y33 y34 y35 y36 y37 y38 y39 y40 y41 y42 y43 y44 y45 y46 y47 y48 y49 y50 y51 y52 y53 y54 y55 y56 y57 y58 y59 y60 y61 y62 y63 y64 y65 y66 y67 y68 y69 y70 y71 y72 y73 y74 y75 y76 y77 y78 y79 y80 y81 y82 y83 y84 y85 y86 y87 y88 y89 y90 y91 y92 y93 y94 y95 y96 y97 y98 y99 y100 y101 y102 y103 (Array.replicate ops.size false) ⟨#[y0, y1, y2, y3, y4, y5, y6, y7, y8, y9, y10, y11, y12, y13, y14, y15, y16, y17, y18, y19, y20, y21, y22, y23, y24, y25, y26, y27, y28, y29, y30, y31, y32, y33, y34, y35, y36, y37, y38, y39, y40, y41, y42, y43, y44, y45, y46, y47, y48, y49, y50, y51, y52, y53, y54, y55, y56, y57, y58, y59, y60, y61, y62, y63, y64, y65, y66, y67, y68, y69, y70, y71, y72, y73, y74, y75, y76, y77, y78, y79, y80, y81, y82, y83, y84, y85, y86, y87, y88, y89, y90, y91, y92, y93, y94, y95, y96, y97, y98, y99, y100, y101, y102, y103], []⟩ Z.drew)
    (hfin : ∀ (L : Array Bool) (a : Act) (w : World), (∀ j, j < ops.size → L.getD j false = true) → mdInv Z B p g n sc lb lo ll lc i m i1 i2 i3 b1 b2 b3 c1 c2 c3 fv k1 k2 k3 x1 x2 x3 r F S1 all y0 y1 y2 y3 y4 y5 y6 y7 y8 y9 y10 y11 y12 y13 y14 y15 y16 y17 y18 y19 y20 y21 y22 y23 y24 y25 y26 y27 y28 y29 y30 y31 y32 y33 y34 y35 y36 y37 y38 y39 y40 y41 y42 y43 y44 y45 y46 y47 y48 y49 y50 y51 y52 y53 y54 y55 y56 y57 y58 y59 y60 y61 y62 y63 y64 y65 y66 y67 y68 y69 y70 y71 y72 y73 y74 y75 y76 y77 y78 y79 y80 y81 y82 y83 y84 y85 y86 y87 y88 y89 y90 y91 y92 y93 y94 y95 y96 y97 y98 y99 y100 y101 y102 y103 L a w → Q .normal a w)
    (hs' : InvSteps Try.prog ops (mdInv Z B p g n sc lb lo ll lc i m i1 i2 i3 b1 b2 b3 c1 c2 c3 fv k1 k2 k3 x1 x2 x3 r F S1 all y0 y1 y2 y3 y4 y5 y6 y7 y8 y9 y10 y11 y12 y13 y14 y15 y16 y17 y18 y19 y20 y21 y22 y23 y24 y25 y26 y27 y28 y29 y30 y31 y32 y33 y34 y35 y36 y37 y38 y39 y40 y41 y42 y43 y44 y45 y46 y47 y48 y49 y50 y51 y52 y53 y54 y55 y56 y57 y58 y59 y60 y61 y62 y63 y64 y65 y66 y67 y68 y69 y70 y71 y72 y73 y74 y75 y76 y77 y78 y79 y80 y81 y82 y83 y84 y85 y86 y87 y88 y89 y90 y91 y92 y93 y94 y95 y96 y97 y98 y99 y100 y101 y102 y103) 0 ops.toList) : (Code.region id ops true).wp Try.prog Q ⟨#[y0, y1, y2, y3, y4, y5, y6, y7, y8, y9, y10, y11, y12, y13, y14, y15, y16, y17, y18, y19, y20, y21, y22, y23, y24, y25, y26, y27, y28, y29, y30, y31, y32, y33, y34, y35, y36, y37, y38, y39, y40, y41, y42, y43, y44, y45, y46, y47, y48, y49, y50, y51, y52, y53, y54, y55, y56, y57, y58, y59, y60, y61, y62, y63, y64, y65, y66, y67, y68, y69, y70, y71, y72, y73, y74, y75, y76, y77, y78, y79, y80, y81, y82, y83, y84, y85, y86, y87, y88, y89, y90, y91, y92, y93, y94, y95, y96, y97, y98, y99, y100, y101, y102, y103], []⟩ Z :=
  wp_region_invs (mdInv Z B p g n sc lb lo ll lc i m i1 i2 i3 b1 b2 b3 c1 c2 c3 fv k1 k2 k3 x1 x2 x3 r F S1 all y0 y1 y2 y3 y4 y5 y6 y7 y8 y9 y10 y11 y12 y13 y14 y15 y16 y17 y18 y19 y20 y21 y22 y23 y24 y25 y26 y27 y28 y29 y30 y31 y32 y33 y34 y35 y36 y37 y38 y39 y40 y41 y42 y43 y44 y45 y46 y47 y48 y49 y50 y51 y52 y53 y54 y55 y56 y57 y58 y59 y60 y61 y62 y63 y64 y65 y66 y67 y68 y69 y70 y71 y72 y73 y74 y75 y76 y77 y78 y79 y80 y81 y82 y83 y84 y85 y86 y87 y88 y89 y90 y91 y92 y93 y94 y95 y96 y97 y98 y99 y100 y101 y102 y103) hm hlt h0 hfin hs'
end Go.Proofs.Ytboekafmplomhaa
