/-
  The document's Read: its drawn regions: slots and worlds. (Printed by genfrz.py.)
-/
import Derived.Test.YtboekafmplomhaaZRfS
import Derived.Test.YtboekafmplomhaaZRfU
import Derived.Test.YtboekafmplomhaaZRfV
import Derived.Test.YtboekafmplomhaaZRfW
import Derived.Test.YtboekafmplomhaaZFzRead
import Derived.Test.YtboekafmplomhaaZRefOps
set_option linter.unusedVariables false
set_option linter.unusedSimpArgs false
namespace Go.Proofs.Ytboekafmplomhaa
open Go.RowKit

set_option maxRecDepth 100000 in
set_option maxHeartbeats 4000000 in
theorem rsealed_det {w : World} {sv : Value} {l : List Nat} (h : Rd w 1 sv (byts l)) (hl : ∀ y ∈ l, y < 256) (hk : l.length ≤ 10000000) :
    ∃ v w1, Calls Try.prog 78 #[sv] w (fun e w' => e = .returned v ∧ w' = w1) ∧ OwnB w.heap.size w1 v (sealB l) ∧ Below w.heap.size w w1 := by
  have SU := hid (rsum_any h hl)
  have hs := sumV_lt l
  have hseal : sealB l = l ++ sum4 (sumV l) := rfl
  rw [hseal]
  obtain ⟨v1, w1, q1, q2, q3⟩ := copy_bytes h hk
  generalize sumV l = s at *
  obtain ⟨x1, hx1⟩ : ∃ x, x = s / 16777216 % 256 := ⟨_, rfl⟩
  obtain ⟨x2, hx2⟩ : ∃ x, x = s / 65536 % 256 := ⟨_, rfl⟩
  obtain ⟨x3, hx3⟩ : ∃ x, x = s / 256 % 256 := ⟨_, rfl⟩
  obtain ⟨x4, hx4⟩ : ∃ x, x = s % 256 := ⟨_, rfl⟩
  have e4 : sum4 s = [x1, x2, x3, x4] := by rw [hx1, hx2, hx3, hx4]; rfl
  rw [e4]
  obtain ⟨y2, hy2⟩ : ∃ y, y = s / 65536 := ⟨_, rfl⟩
  obtain ⟨y3, hy3⟩ : ∃ y, y = s / 256 := ⟨_, rfl⟩
  have a1 : (s : Int).tdiv 16777216 = (x1 : Int) := by rw [Int.tdiv_eq_ediv_of_nonneg (by omega)]; omega
  have a2 : (s : Int).tdiv 65536 = (y2 : Int) := by rw [Int.tdiv_eq_ediv_of_nonneg (by omega)]; omega
  have a3 : (s : Int).tdiv 256 = (y3 : Int) := by rw [Int.tdiv_eq_ediv_of_nonneg (by omega)]; omega
  have a1' : (s : Int) / 16777216 = (x1 : Int) := by omega
  have a2' : (s : Int) / 65536 = (y2 : Int) := by omega
  have a3' : (s : Int) / 256 = (y3 : Int) := by omega
  have b2 : (y2 : Int).tmod 256 = (x2 : Int) := by rw [Int.tmod_eq_emod_of_nonneg (by omega)]; omega
  have b3 : (y3 : Int).tmod 256 = (x3 : Int) := by rw [Int.tmod_eq_emod_of_nonneg (by omega)]; omega
  have b4 : (s : Int).tmod 256 = (x4 : Int) := by rw [Int.tmod_eq_emod_of_nonneg (by omega)]; omega
  have c1 : IntKind.u32.wrap (x1 : Int) = (x1 : Int) := IntWalk.u32_in _ (by omega)
  have c2 : IntKind.u32.wrap (x2 : Int) = (x2 : Int) := IntWalk.u32_in _ (by omega)
  have c3 : IntKind.u32.wrap (x3 : Int) = (x3 : Int) := IntWalk.u32_in _ (by omega)
  have c4 : IntKind.u32.wrap (x4 : Int) = (x4 : Int) := IntWalk.u32_in _ (by omega)
  have c5 : IntKind.u32.wrap (y2 : Int) = (y2 : Int) := IntWalk.u32_in _ (by omega)
  have c6 : IntKind.u32.wrap (y3 : Int) = (y3 : Int) := IntWalk.u32_in _ (by omega)
  have d1 : IntKind.u8.wrap (x1 : Int) = (x1 : Int) := by rw [IntKind.wrap_u8]; omega
  have d2 : IntKind.u8.wrap (x2 : Int) = (x2 : Int) := by rw [IntKind.wrap_u8]; omega
  have d3 : IntKind.u8.wrap (x3 : Int) = (x3 : Int) := by rw [IntKind.wrap_u8]; omega
  have d4 : IntKind.u8.wrap (x4 : Int) = (x4 : Int) := by rw [IntKind.wrap_u8]; omega
  obtain ⟨v2, w2, p1, p2, p3, -⟩ := q2.grow q3.size (by omega) [x1, x2, x3, x4] (by simp) (by simp)
  have HR := hid (And.intro p2 (q3.trans p3))
  have P1 : Hid ((Builtin.append_ #[100, 100] 100 #[v1, .slice (some ⟨w1.heap.size, 0, none⟩) 4 4]).run Try.prog (w1.alloc (.cells #[.int .u8 (x1 : Nat), .int .u8 (x2 : Nat), .int .u8 (x3 : Nat), .int .u8 (x4 : Nat)] 5)) = .ok v2 w2) := hid p1
  have Q1 := hid q1
  refine ⟨v2, w2, ?_, HR.out⟩
  clear HR
  clear hx1 hx2 hx3 hx4 e4 hy2 hy3 h hl hseal q1 q2 q3 p1 p2 p3 hs
  go_enter Try.func78, Try.ntmps78
  go_upto_region 2 with ((with_reducible refine (SU.out).mono ?_); clear SU; rintro e _ ⟨rfl, rfl⟩)
  refine wp_region_doc (fun F' hF => ?_)
  have HF := hid hF
  clear hF
  iterate 2 (refine doc_val rfl (by first | (go_simp; done) | (go_simp; exact ⟨rfl, rfl⟩) | (go_simp; with_reducible rfl)) ?_; simp only [Act.put, List.setIfInBounds_toArray, List.set_cons_zero, List.set_cons_succ])
  refine doc_val rfl (run_append_op _ _ _ _ _ _ _ _ _ Q1.out) ?_
  simp only [Act.put, List.setIfInBounds_toArray, List.set_cons_zero, List.set_cons_succ]
  refine doc_val rfl (by first | (go_simp; done) | (go_simp; exact ⟨rfl, rfl⟩) | (go_simp; with_reducible rfl)) ?_
  simp only [Act.put, List.setIfInBounds_toArray, List.set_cons_zero, List.set_cons_succ]
  refine doc_end (HF.out _ _ ?_)
  clear HF F'
  go_upto_region 3 with (fail)
  refine wp_region_doc (fun F' hF => ?_)
  have HF := hid hF
  clear hF
  iterate 16 (refine doc_val rfl (by first | (go_simp; done) | (go_simp; exact ⟨rfl, rfl⟩) | (go_simp; with_reducible rfl)) ?_; simp only [Act.put, List.setIfInBounds_toArray, List.set_cons_zero, List.set_cons_succ])
  refine doc_val rfl (run_append_op _ _ _ _ _ _ _ _ _ P1.out) ?_
  simp only [Act.put, List.setIfInBounds_toArray, List.set_cons_zero, List.set_cons_succ]
  refine doc_val rfl (by first | (go_simp; done) | (go_simp; exact ⟨rfl, rfl⟩) | (go_simp; with_reducible rfl)) ?_
  simp only [Act.put, List.setIfInBounds_toArray, List.set_cons_zero, List.set_cons_succ]
  refine doc_end (HF.out _ _ ?_)
  clear HF F'
  go_wp2_with fail
  go_returns
  exact ⟨rfl, rfl⟩

/-- The worlds of the region that orders and writes. -/
structure OrI (Z : World) (ns : List Nd) (old rs : List Int) (bs : List Nat) (b : Nat → Bool) (w : World) (v1 v2 : Value) : Prop where
  lo : Below Z.heap.size Z w
  c : b 3 = true → FrIs w v1 ns old rs
  d : b 4 = true → OwnB Z.heap.size w v2 bs
theorem OrI.congr {Z w : World} {ns : List Nd} {old rs : List Int} {bs : List Nat} {b b' : Nat → Bool} {v1 v2 : Value} (h : OrI Z ns old rs bs b w v1 v2) (h4 : b' 3 = b 3) (h5 : b' 4 = b 4) : OrI Z ns old rs bs b' w v1 v2 :=
  ⟨h.lo, by rw [h4]; exact h.c, by rw [h5]; exact h.d⟩
theorem OrI.one {Z w w' : World} {ns : List Nd} {old rs : List Int} {bs : List Nat} {b b' : Nat → Bool} {v1 v2 x : Value} (h : OrI Z ns old rs bs b w v1 v2) (h5 : b' 4 = false) (hx : FrIs w' x ns old rs) (hb : Below w.heap.size w w') : OrI Z ns old rs bs b' w' x v2 :=
  ⟨h.lo.trans (hb.mono h.lo.size), fun _ => hx, fun e => by (rw [h5] at e; cases e)⟩
theorem OrI.two {Z w w' : World} {ns : List Nd} {old rs : List Int} {bs : List Nat} {b b' : Nat → Bool} {v1 v2 x : Value} (h : OrI Z ns old rs bs b w v1 v2) (h4 : b 3 = true) (hx : OwnB w.heap.size w' x bs) (hb : Below w.heap.size w w') : OrI Z ns old rs bs b' w' v1 x :=
  ⟨h.lo.trans (hb.mono h.lo.size), fun _ => (h.c h4).below hb, fun _ => hx.mono h.lo.size⟩
def orAct (u0 u1 u2 u5 u6 u7 u8 : Value) (y0 y1 y2 y3 y4 y5 y6 y7 y8 y9 y10 y11 y12 y13 y14 y15 y16 y17 y18 y19 y20 y21 y22 y23 y24 y25 y26 y27 y28 y29 y30 y31 y32 y33 y34 y35 y36 y37 y38 y39 y40 y41 y42 y43 y44 y45 y46 y47 y48 y49 y50 y51 y52 y53 y54 y55 y56 y57 y58 y59 y60 y61 y62 y63 y64 y65 y66 y67 y68 y69 y70 y71 y72 y73 y74 y75 y76 y77 y78 y79 y80 y81 y82 y83 y84 y85 y86 y87 y88 y89 y90 y91 y92 y93 y94 y95 y96 y97 y98 y99 y100 y101 y102 y103 y104 y105 y106 y107 y108 y109 y110 y111 y112 y113 y114 y115 y116 y117 y118 y119 y120 y121 y122 y123 y124 y125 y126 y127 y128 y129 y130 y131 y132 y133 y134 y135 y136 y137 y138 y139 y140 : Value) (b : Nat → Bool) (v1 v2 : Value) : Act :=
  ⟨#[y0, y1, y2, y3, y4, y5, y6, y7, y8, y9, y10, y11, y12, y13, y14, y15, y16, y17, y18, y19, y20, y21, y22, y23, y24, y25, y26, y27, y28, y29, y30, y31, y32, y33, y34, y35, y36, y37, y38, y39, y40, y41, y42, y43, y44, y45, y46, y47, y48, y49, y50, y51, y52, y53, y54, y55, y56, y57, y58, y59, y60, y61, y62, y63, y64, y65, y66, y67, y68, gx (b 0) (u0) y69, gx (b 1) (u1) y70, gx (b 2) (u2) y71, gx (b 3) (v1) y72, gx (b 4) (v2) y73, gx (b 5) (u5) y74, gx (b 6) (u6) y75, gx (b 7) (u7) y76, gx (b 8) (u8) y77, y78, y79, y80, y81, y82, y83, y84, y85, y86, y87, y88, y89, y90, y91, y92, y93, y94, y95, y96, y97, y98, y99, y100, y101, y102, y103, y104, y105, y106, y107, y108, y109, y110, y111, y112, y113, y114, y115, y116, y117, y118, y119, y120, y121, y122, y123, y124, y125, y126, y127, y128, y129, y130, y131, y132, y133, y134, y135, y136, y137, y138, y139, y140], []⟩
def orInv (Z : World) (u0 u1 u2 u5 u6 u7 u8 : Value) (ns : List Nd) (old rs : List Int) (bs : List Nat) (y0 y1 y2 y3 y4 y5 y6 y7 y8 y9 y10 y11 y12 y13 y14 y15 y16 y17 y18 y19 y20 y21 y22 y23 y24 y25 y26 y27 y28 y29 y30 y31 y32 y33 y34 y35 y36 y37 y38 y39 y40 y41 y42 y43 y44 y45 y46 y47 y48 y49 y50 y51 y52 y53 y54 y55 y56 y57 y58 y59 y60 y61 y62 y63 y64 y65 y66 y67 y68 y69 y70 y71 y72 y73 y74 y75 y76 y77 y78 y79 y80 y81 y82 y83 y84 y85 y86 y87 y88 y89 y90 y91 y92 y93 y94 y95 y96 y97 y98 y99 y100 y101 y102 y103 y104 y105 y106 y107 y108 y109 y110 y111 y112 y113 y114 y115 y116 y117 y118 y119 y120 y121 y122 y123 y124 y125 y126 y127 y128 y129 y130 y131 y132 y133 y134 y135 y136 y137 y138 y139 y140 : Value) (L : Array Bool) (a : Act) (w : World) : Prop :=
  ∃ v1 v2, a = orAct u0 u1 u2 u5 u6 u7 u8 y0 y1 y2 y3 y4 y5 y6 y7 y8 y9 y10 y11 y12 y13 y14 y15 y16 y17 y18 y19 y20 y21 y22 y23 y24 y25 y26 y27 y28 y29 y30 y31 y32 y33 y34 y35 y36 y37 y38 y39 y40 y41 y42 y43 y44 y45 y46 y47 y48 y49 y50 y51 y52 y53 y54 y55 y56 y57 y58 y59 y60 y61 y62 y63 y64 y65 y66 y67 y68 y69 y70 y71 y72 y73 y74 y75 y76 y77 y78 y79 y80 y81 y82 y83 y84 y85 y86 y87 y88 y89 y90 y91 y92 y93 y94 y95 y96 y97 y98 y99 y100 y101 y102 y103 y104 y105 y106 y107 y108 y109 y110 y111 y112 y113 y114 y115 y116 y117 y118 y119 y120 y121 y122 y123 y124 y125 y126 y127 y128 y129 y130 y131 y132 y133 y134 y135 y136 y137 y138 y139 y140 (fun k => L.getD k false) v1 v2 ∧ OrI Z ns old rs bs (fun k => L.getD k false) w v1 v2
theorem wp_or {ops : Array Oper} {id : Nat} {Q : Exit → Act → World → Prop} {y0 y1 y2 y3 y4 y5 y6 y7 y8 y9 y10 y11 y12 y13 y14 y15 y16 y17 y18 y19 y20 y21 y22 y23 y24 y25 y26 y27 y28 y29 y30 y31 y32 y33 y34 y35 y36 y37 y38 y39 y40 y41 y42 y43 y44 y45 y46 y47 y48 y49 y50 y51 y52 y53 y54 y55 y56 y57 y58 y59 y60 y61 y62 y63 y64 y65 y66 y67 y68 y69 y70 y71 y72 y73 y74 y75 y76 y77 y78 y79 y80 y81 y82 y83 y84 y85 y86 y87 y88 y89 y90 y91 y92 y93 y94 y95 y96 y97 y98 y99 y100 y101 y102 y103 y104 y105 y106 y107 y108 y109 y110 y111 y112 y113 y114 y115 y116 y117 y118 y119 y120 y121 y122 y123 y124 y125 y126 y127 y128 y129 y130 y131 y132 y133 y134 y135 y136 y137 y138 y139 y140 : Value} (Z : World) (u0 u1 u2 u5 u6 u7 u8 : Value) (ns : List Nd) (old rs : List Int) (bs : List Nat)
    (hm : Try.prog.follows .mixedOrders = true) (hlt : (List.range ops.size).all (fun i => (deps .any ops i).all (fun k => decide (k < i))) = true)
    (h0 : orInv Z u0 u1 u2 u5 u6 u7 u8 ns old rs bs y0 y1 y2 y3 y4 y5 y6 y7 y8 y9 y10 y11 y12 y13 y14 y15 y16 y17 y18 y19 y20 y21 y22 y23 y24 y25 y26 y27 y28 y29 y30 y31 y32 y33 y34 y35 y36 y37 y38 y39 y40 y41 y42 y43 y44 y45 y46 y47 y48 y49 y50 y51 y52 y53 y54 y55 y56 y57 y58 y59 y60 y61 y62 y63 y64 y65 y66 y67 y68 y69 y70 y71 y72 y73 y74 y75 y76 y77 y78 y79 y80 y81 y82 y83 y84 y85 y86 y87 y88 y89 y90 y91 y92 y93 y94 y95 y96 y97 y98 y99 y100 y101 y102 y103 y104 y105 y106 y107 y108 y109 y110 y111 y112 y113 y114 y115 y116 y117 y118 y119 y120 y121 y122 y123 y124 y125 y126 y127 y128 y129 y130 y131 y132 y133 y134 y135 y136 y137 y138 y139 y140 (Array.replicate ops.size false) ⟨#[y0, y1, y2, y3, y4, y5, y6, y7, y8, y9, y10, y11, y12, y13, y14, y15, y16, y17, y18, y19, y20, y21, y22, y23, y24, y25, y26, y27, y28, y29, y30, y31, y32, y33, y34, y35, y36, y37, y38, y39, y40, y41, y42, y43, y44, y45, y46, y47, y48, y49, y50, y51, y52, y53, y54, y55, y56, y57, y58, y59, y60, y61, y62, y63, y64, y65, y66, y67, y68, y69, y70, y71, y72, y73, y74, y75, y76, y77, y78, y79, y80, y81, y82, y83, y84, y85, y86, y87, y88, y89, y90, y91, y92, y93, y94, y95, y96, y97, y98, y99, y100, y101, y102, y103, y104, y105, y106, y107, y108, y109, y110, y111, y112, y113, y114, y115, y116, y117, y118, y119, y120, y121, y122, y123, y124, y125, y126, y127, y128, y129, y130, y131, y132, y133, y134, y135, y136, y137, y138, y139, y140], []⟩ Z.drew)
    (hfin : ∀ (L : Array Bool) (a : Act) (w : World), (∀ j, j < ops.size → L.getD j false = true) → orInv Z u0 u1 u2 u5 u6 u7 u8 ns old rs bs y0 y1 y2 y3 y4 y5 y6 y7 y8 y9 y10 y11 y12 y13 y14 y15 y16 y17 y18 y19 y20 y21 y22 y23 y24 y25 y26 y27 y28 y29 y30 y31 y32 y33 y34 y35 y36 y37 y38 y39 y40 y41 y42 y43 y44 y45 y46 y47 y48 y49 y50 y51 y52 y53 y54 y55 y56 y57 y58 y59 y60 y61 y62 y63 y64 y65 y66 y67 y68 y69 y70 y71 y72 y73 y74 y75 y76 y77 y78 y79 y80 y81 y82 y83 y84 y85 y86 y87 y88 y89 y90 y91 y92 y93 y94 y95 y96 y97 y98 y99 y100 y101 y102 y103 y104 y105 y106 y107 y108 y109 y110 y111 y112 y113 y114 y115 y116 y117 y118 y119 y120 y121 y122 y123 y124 y125 y126 y127 y128 y129 y130 y131 y132 y133 y134 y135 y136 y137 y138 y139 y140 L a w → Q .normal a w)
    (hs' : InvSteps Try.prog ops (orInv Z u0 u1 u2 u5 u6 u7 u8 ns old rs bs y0 y1 y2 y3 y4 y5 y6 y7 y8 y9 y10 y11 y12 y13 y14 y15 y16 y17 y18 y19 y20 y21 y22 y23 y24 y25 y26 y27 y28 y29 y30 y31 y32 y33 y34 y35 y36 y37 y38 y39 y40 y41 y42 y43 y44 y45 y46 y47 y48 y49 y50 y51 y52 y53 y54 y55 y56 y57 y58 y59 y60 y61 y62 y63 y64 y65 y66 y67 y68 y69 y70 y71 y72 y73 y74 y75 y76 y77 y78 y79 y80 y81 y82 y83 y84 y85 y86 y87 y88 y89 y90 y91 y92 y93 y94 y95 y96 y97 y98 y99 y100 y101 y102 y103 y104 y105 y106 y107 y108 y109 y110 y111 y112 y113 y114 y115 y116 y117 y118 y119 y120 y121 y122 y123 y124 y125 y126 y127 y128 y129 y130 y131 y132 y133 y134 y135 y136 y137 y138 y139 y140) 0 ops.toList) : (Code.region id ops true).wp Try.prog Q ⟨#[y0, y1, y2, y3, y4, y5, y6, y7, y8, y9, y10, y11, y12, y13, y14, y15, y16, y17, y18, y19, y20, y21, y22, y23, y24, y25, y26, y27, y28, y29, y30, y31, y32, y33, y34, y35, y36, y37, y38, y39, y40, y41, y42, y43, y44, y45, y46, y47, y48, y49, y50, y51, y52, y53, y54, y55, y56, y57, y58, y59, y60, y61, y62, y63, y64, y65, y66, y67, y68, y69, y70, y71, y72, y73, y74, y75, y76, y77, y78, y79, y80, y81, y82, y83, y84, y85, y86, y87, y88, y89, y90, y91, y92, y93, y94, y95, y96, y97, y98, y99, y100, y101, y102, y103, y104, y105, y106, y107, y108, y109, y110, y111, y112, y113, y114, y115, y116, y117, y118, y119, y120, y121, y122, y123, y124, y125, y126, y127, y128, y129, y130, y131, y132, y133, y134, y135, y136, y137, y138, y139, y140], []⟩ Z :=
  wp_region_invs (orInv Z u0 u1 u2 u5 u6 u7 u8 ns old rs bs y0 y1 y2 y3 y4 y5 y6 y7 y8 y9 y10 y11 y12 y13 y14 y15 y16 y17 y18 y19 y20 y21 y22 y23 y24 y25 y26 y27 y28 y29 y30 y31 y32 y33 y34 y35 y36 y37 y38 y39 y40 y41 y42 y43 y44 y45 y46 y47 y48 y49 y50 y51 y52 y53 y54 y55 y56 y57 y58 y59 y60 y61 y62 y63 y64 y65 y66 y67 y68 y69 y70 y71 y72 y73 y74 y75 y76 y77 y78 y79 y80 y81 y82 y83 y84 y85 y86 y87 y88 y89 y90 y91 y92 y93 y94 y95 y96 y97 y98 y99 y100 y101 y102 y103 y104 y105 y106 y107 y108 y109 y110 y111 y112 y113 y114 y115 y116 y117 y118 y119 y120 y121 y122 y123 y124 y125 y126 y127 y128 y129 y130 y131 y132 y133 y134 y135 y136 y137 y138 y139 y140) hm hlt h0 hfin hs'
/-- The worlds of the region: reads first; then Ite, a row of one, append. -/
structure RrI (Z : World) (p g : Nat) (F : List Nat) (S1 : RSt) (r : Int) (all : List Int) (b : Nat → Bool) (w : World) (q : Nat) (v' : Value) : Prop where
  a : b 21 = false → Below Z.heap.size Z w
  i : b 21 = true → b 22 = false → ∃ F1, RIs w p F1 S1 ∧ StoStep Z w F F1
  c : b 22 = true → b 23 = false → ∃ w1 F1, RIs w1 p F1 S1 ∧ StoStep Z w1 F F1 ∧ w = w1.alloc (.cells #[.int .i64 r] 3) ∧ q = w1.heap.size
  d : b 23 = true → ∃ F1 G', RIs w p F1 S1 ∧ RowIs w v' (some G') 3 1 (all ++ [r]).length (ints (all ++ [r])) ∧ G' ∉ F1 ∧ (G' = g ∨ Z.heap.size ≤ G') ∧ StoStep Z w (g :: F) (G' :: F1)
section
variable {Z w w' : World} {p q g : Nat} {F : List Nat} {S S1 : RSt} {r : Int} {all : List Int} {b b' : Nat → Bool} {v' : Value}
theorem RrI.congr (h : RrI Z p g F S1 r all b w q v') (h4 : b' 21 = b 21) (h5 : b' 22 = b 22) (h6 : b' 23 = b 23) : RrI Z p g F S1 r all b' w q v' := by
  obtain ⟨a1, a2, a3, a4⟩ := h
  exact ⟨by rw [h4]; exact a1, by rw [h4, h5]; exact a2, by rw [h5, h6]; exact a3, by rw [h6]; exact a4⟩
theorem RrI.ite (h : RrI Z p g F S1 r all b w q v') (f : b 21 = false) (f' : b' 21 = true) (f5 : b' 22 = false) (f6 : b' 23 = false) {F2 : List Nat} (hS : RIs w' p F2 S1) (st : StoStep w w' F F2) : RrI Z p g F S1 r all b' w' q v' :=
  ⟨fun e => by (rw [f'] at e; cases e), fun _ _ => ⟨F2, hS, (StoStep.of_below (h.a f)).trans st⟩, fun e => by (rw [f5] at e; cases e), fun e => by (rw [f6] at e; cases e)⟩
theorem RrI.lit (h : RrI Z p g F S1 r all b w q v') (f : b 21 = true) (f5 : b 22 = false) (f' : b' 21 = true) (f5' : b' 22 = true) (f6 : b' 23 = false) : RrI Z p g F S1 r all b' (w.alloc (.cells #[.int .i64 r] 3)) w.heap.size v' := by
  obtain ⟨F2, hS, st⟩ := h.i f f5
  exact ⟨fun e => by (rw [f'] at e; cases e), fun _ e => by (rw [f5'] at e; cases e), fun _ _ => ⟨w, F2, hS, st, rfl, rfl⟩, fun e => by (rw [f6] at e; cases e)⟩
/-- The row of what was made grows, behind a call of the store. -/
theorem rmade_grow {w1 : World} {F1 : List Nat} {sv : Value} (hrow : RowIs Z sv (some g) 3 1 all.length (ints all)) (hg : g ∉ F) (hk : all.length ≤ 8388608) (hS : RIs w1 p F1 S1) (st : StoStep Z w1 F F1) :
    ∃ v2 w3 G2, (Builtin.append_ #[28, 28] 28 #[sv, .slice (some ⟨w1.heap.size, 0, none⟩) 1 1]).run Try.prog (w1.alloc (.cells #[.int .i64 r] 3)) = .ok v2 w3 ∧
      (∃ F1 G', RIs w3 p F1 S1 ∧ RowIs w3 v2 (some G') 3 1 (all ++ [r]).length (ints (all ++ [r])) ∧ G' ∉ F1 ∧ (G' = g ∨ Z.heap.size ≤ G') ∧ StoStep Z w3 (g :: F) (G' :: F1)) ∧ G2 = 0 := by
  have hlt := RowIs.lt hrow g rfl
  have hg1 : g ∉ F1 := st.keeps hlt hg
  have row1 : RowIs w1 sv (some g) 3 1 all.length (ints all) := RowIs.keep hrow (fun k hk => by cases hk; exact st.block g hlt hg)
  obtain ⟨v', w3, G', q1, q2, q3, q4⟩ := int_one row1 hk r
  have hne : ∀ k ∈ F1, k ∉ (some g).toList := fun k hk hm => by simp at hm; subst hm; exact hg1 hk
  have hGF : G' ∉ F1 := fun hm => by
    rcases q3 with e | e
    · cases e; exact hg1 hm
    · have := hS.lt G' hm; omega
  refine ⟨v', w3, 0, q1, ⟨F1, G', hS.keep (fun k hk => q4.block k (hS.lt k hk) (hne k hk)), q2, hGF, ?_, ?_⟩, rfl⟩
  · rcases q3 with e | e
    · cases e; exact .inl rfl
    · exact .inr (Nat.le_trans st.size e)
  · refine ⟨q4.os.trans st.os, q4.tape.trans st.tape, q4.output.trans st.output, Nat.le_trans st.size q4.size, fun k h1 h2 => ?_, fun k hk => ?_⟩
    · simp only [List.mem_cons, not_or] at h2
      exact (q4.block k (Nat.lt_of_lt_of_le h1 st.size) (by simp; exact h2.1)).trans (st.block k h1 h2.2)
    · rcases List.mem_cons.1 hk with rfl | hk
      · rcases q4.fresh k (by simp) with h | h
        · simp at h; exact .inl (by simp [h])
        · exact .inr ⟨by have := st.size; omega, h.2⟩
      · rcases st.fresh k hk with h | h
        · exact .inl (List.mem_cons_of_mem _ h)
        · exact .inr ⟨h.1, Nat.lt_of_lt_of_le h.2 q4.size⟩
theorem RrI.app (h : RrI Z p g F S1 r all b w q v') {sv : Value} (hrow : RowIs Z sv (some g) 3 1 all.length (ints all)) (hg : g ∉ F) (hk : all.length ≤ 8388608) (f5 : b 22 = true) (f6 : b 23 = false) :
    ∃ v2 w3 G2, (Builtin.append_ #[28, 28] 28 #[sv, .slice (some ⟨q, 0, none⟩) 1 1]).run Try.prog w = .ok v2 w3 ∧
      (∃ F1 G', RIs w3 p F1 S1 ∧ RowIs w3 v2 (some G') 3 1 (all ++ [r]).length (ints (all ++ [r])) ∧ G' ∉ F1 ∧ (G' = g ∨ Z.heap.size ≤ G') ∧ StoStep Z w3 (g :: F) (G' :: F1)) ∧ G2 = 0 := by
  obtain ⟨w1, F1, hS, st, rfl, rfl⟩ := h.c f5 f6
  exact rmade_grow hrow hg hk hS st
theorem RrI.fin (h : RrI Z p g F S1 r all b w q v') (f6 : b' 23 = true) (f4 : b' 21 = true) (f5 : b' 22 = true) {v2 : Value} {w3 : World}
    (H : ∃ F1 G', RIs w3 p F1 S1 ∧ RowIs w3 v2 (some G') 3 1 (all ++ [r]).length (ints (all ++ [r])) ∧ G' ∉ F1 ∧ (G' = g ∨ Z.heap.size ≤ G') ∧ StoStep Z w3 (g :: F) (G' :: F1)) : RrI Z p g F S1 r all b' w3 q v2 :=
  ⟨fun e => by (rw [f4] at e; cases e), fun _ e => by (rw [f5] at e; cases e), fun _ e => by (rw [f6] at e; cases e), fun _ => H⟩
end
def rrAct (u0 u1 u2 u3 u4 u5 u6 u7 u8 u9 u10 u11 u12 u13 u14 u15 u16 u17 u18 u19 u20 : Value) (r : Int) (y0 y1 y2 y3 y4 y5 y6 y7 y8 y9 y10 y11 y12 y13 y14 y15 y16 y17 y18 y19 y20 y21 y22 y23 y24 y25 y26 y27 y28 y29 y30 y31 y32 y33 y34 y35 y36 y37 y38 y39 y40 y41 y42 y43 y44 y45 y46 y47 y48 y49 y50 y51 y52 y53 y54 y55 y56 y57 y58 y59 y60 y61 y62 y63 y64 y65 y66 y67 y68 y69 y70 y71 y72 y73 y74 y75 y76 y77 y78 y79 y80 y81 y82 y83 y84 y85 y86 y87 y88 y89 y90 y91 y92 y93 y94 y95 y96 y97 y98 y99 y100 y101 y102 y103 y104 y105 y106 y107 y108 y109 y110 y111 y112 y113 y114 y115 y116 y117 y118 y119 y120 y121 y122 y123 y124 y125 y126 y127 y128 y129 y130 y131 y132 y133 y134 y135 y136 y137 y138 y139 y140 : Value) (b : Nat → Bool) (q : Nat) (v' : Value) : Act :=
  ⟨#[y0, y1, y2, y3, y4, y5, y6, y7, y8, y9, gx (b 24) (v') y10, y11, y12, y13, y14, y15, y16, y17, y18, y19, y20, y21, y22, y23, y24, y25, y26, y27, y28, y29, y30, y31, y32, y33, y34, y35, y36, y37, y38, y39, y40, y41, y42, y43, y44, y45, y46, y47, y48, y49, y50, y51, y52, y53, y54, y55, y56, y57, y58, y59, y60, y61, y62, y63, y64, y65, y66, y67, y68, y69, y70, y71, y72, y73, y74, y75, y76, y77, y78, y79, y80, y81, y82, y83, y84, y85, y86, y87, y88, y89, y90, y91, y92, y93, gx (b 0) (u0) y94, gx (b 1) (u1) y95, gx (b 2) (u2) y96, gx (b 3) (u3) y97, gx (b 4) (u4) y98, gx (b 5) (u5) y99, gx (b 6) (u6) y100, gx (b 7) (u7) y101, gx (b 8) (u8) y102, gx (b 9) (u9) y103, gx (b 10) (u10) y104, gx (b 11) (u11) y105, gx (b 12) (u12) y106, gx (b 13) (u13) y107, gx (b 14) (u14) y108, gx (b 15) (u15) y109, gx (b 16) (u16) y110, gx (b 17) (u17) y111, gx (b 18) (u18) y112, gx (b 19) (u19) y113, gx (b 20) (u20) y114, gx (b 21) (.int .i64 r) y115, gx (b 22) (.slice (some ⟨q, 0, none⟩) 1 1) y116, gx (b 23) (v') y117, y118, y119, y120, y121, y122, y123, y124, y125, y126, y127, y128, y129, y130, y131, y132, y133, y134, y135, y136, y137, y138, y139, y140], []⟩
def rrInv (Z : World) (u0 u1 u2 u3 u4 u5 u6 u7 u8 u9 u10 u11 u12 u13 u14 u15 u16 u17 u18 u19 u20 : Value) (r : Int) (p g : Nat) (F : List Nat) (S1 : RSt) (all : List Int) (y0 y1 y2 y3 y4 y5 y6 y7 y8 y9 y10 y11 y12 y13 y14 y15 y16 y17 y18 y19 y20 y21 y22 y23 y24 y25 y26 y27 y28 y29 y30 y31 y32 y33 y34 y35 y36 y37 y38 y39 y40 y41 y42 y43 y44 y45 y46 y47 y48 y49 y50 y51 y52 y53 y54 y55 y56 y57 y58 y59 y60 y61 y62 y63 y64 y65 y66 y67 y68 y69 y70 y71 y72 y73 y74 y75 y76 y77 y78 y79 y80 y81 y82 y83 y84 y85 y86 y87 y88 y89 y90 y91 y92 y93 y94 y95 y96 y97 y98 y99 y100 y101 y102 y103 y104 y105 y106 y107 y108 y109 y110 y111 y112 y113 y114 y115 y116 y117 y118 y119 y120 y121 y122 y123 y124 y125 y126 y127 y128 y129 y130 y131 y132 y133 y134 y135 y136 y137 y138 y139 y140 : Value) (L : Array Bool) (a : Act) (w : World) : Prop :=
  ∃ q v', a = rrAct u0 u1 u2 u3 u4 u5 u6 u7 u8 u9 u10 u11 u12 u13 u14 u15 u16 u17 u18 u19 u20 r y0 y1 y2 y3 y4 y5 y6 y7 y8 y9 y10 y11 y12 y13 y14 y15 y16 y17 y18 y19 y20 y21 y22 y23 y24 y25 y26 y27 y28 y29 y30 y31 y32 y33 y34 y35 y36 y37 y38 y39 y40 y41 y42 y43 y44 y45 y46 y47 y48 y49 y50 y51 y52 y53 y54 y55 y56 y57 y58 y59 y60 y61 y62 y63 y64 y65 y66 y67 y68 y69 y70 y71 y72 y73 y74 y75 y76 y77 y78 y79 y80 y81 y82 y83 y84 y85 y86 y87 y88 y89 y90 y91 y92 y93 y94 y95 y96 y97 y98 y99 y100 y101 y102 y103 y104 y105 y106 y107 y108 y109 y110 y111 y112 y113 y114 y115 y116 y117 y118 y119 y120 y121 y122 y123 y124 y125 y126 y127 y128 y129 y130 y131 y132 y133 y134 y135 y136 y137 y138 y139 y140 (fun i => L.getD i false) q v' ∧ RrI Z p g F S1 r all (fun i => L.getD i false) w q v'
theorem wp_rr {ops : Array Oper} {id : Nat} {Q : Exit → Act → World → Prop} {y0 y1 y2 y3 y4 y5 y6 y7 y8 y9 y10 y11 y12 y13 y14 y15 y16 y17 y18 y19 y20 y21 y22 y23 y24 y25 y26 y27 y28 y29 y30 y31 y32 y33 y34 y35 y36 y37 y38 y39 y40 y41 y42 y43 y44 y45 y46 y47 y48 y49 y50 y51 y52 y53 y54 y55 y56 y57 y58 y59 y60 y61 y62 y63 y64 y65 y66 y67 y68 y69 y70 y71 y72 y73 y74 y75 y76 y77 y78 y79 y80 y81 y82 y83 y84 y85 y86 y87 y88 y89 y90 y91 y92 y93 y94 y95 y96 y97 y98 y99 y100 y101 y102 y103 y104 y105 y106 y107 y108 y109 y110 y111 y112 y113 y114 y115 y116 y117 y118 y119 y120 y121 y122 y123 y124 y125 y126 y127 y128 y129 y130 y131 y132 y133 y134 y135 y136 y137 y138 y139 y140 : Value} (Z : World) (u0 u1 u2 u3 u4 u5 u6 u7 u8 u9 u10 u11 u12 u13 u14 u15 u16 u17 u18 u19 u20 : Value) (r : Int) (p g : Nat) (F : List Nat) (S1 : RSt) (all : List Int)
    (hm : Try.prog.follows .mixedOrders = true) (hlt : (List.range ops.size).all (fun i => (deps .any ops i).all (fun k => decide (k < i))) = true)
    (h0 : rrInv Z u0 u1 u2 u3 u4 u5 u6 u7 u8 u9 u10 u11 u12 u13 u14 u15 u16 u17 u18 u19 u20 r p g F S1 all y0 y1 y2 y3 y4 y5 y6 y7 y8 y9 y10 y11 y12 y13 y14 y15 y16 y17 y18 y19 y20 y21 y22 y23 y24 y25 y26 y27 y28 y29 y30 y31 y32 y33 y34 y35 y36 y37 y38 y39 y40 y41 y42 y43 y44 y45 y46 y47 y48 y49 y50 y51 y52 y53 y54 y55 y56 y57 y58 y59 y60 y61 y62 y63 y64 y65 y66 y67 y68 y69 y70 y71 y72 y73 y74 y75 y76 y77 y78 y79 y80 y81 y82 y83 y84 y85 y86 y87 y88 y89 y90 y91 y92 y93 y94 y95 y96 y97 y98 y99 y100 y101 y102 y103 y104 y105 y106 y107 y108 y109 y110 y111 y112 y113 y114 y115 y116 y117 y118 y119 y120 y121 y122 y123 y124 y125 y126 y127 y128 y129 y130 y131 y132 y133 y134 y135 y136 y137 y138 y139 y140 (Array.replicate ops.size false) ⟨#[y0, y1, y2, y3, y4, y5, y6, y7, y8, y9, y10, y11, y12, y13, y14, y15, y16, y17, y18, y19, y20, y21, y22, y23, y24, y25, y26, y27, y28, y29, y30, y31, y32, y33, y34, y35, y36, y37, y38, y39, y40, y41, y42, y43, y44, y45, y46, y47, y48, y49, y50, y51, y52, y53, y54, y55, y56, y57, y58, y59, y60, y61, y62, y63, y64, y65, y66, y67, y68, y69, y70, y71, y72, y73, y74, y75, y76, y77, y78, y79, y80, y81, y82, y83, y84, y85, y86, y87, y88, y89, y90, y91, y92, y93, y94, y95, y96, y97, y98, y99, y100, y101, y102, y103, y104, y105, y106, y107, y108, y109, y110, y111, y112, y113, y114, y115, y116, y117, y118, y119, y120, y121, y122, y123, y124, y125, y126, y127, y128, y129, y130, y131, y132, y133, y134, y135, y136, y137, y138, y139, y140], []⟩ Z.drew)
    (hfin : ∀ (L : Array Bool) (a : Act) (w : World), (∀ j, j < ops.size → L.getD j false = true) → rrInv Z u0 u1 u2 u3 u4 u5 u6 u7 u8 u9 u10 u11 u12 u13 u14 u15 u16 u17 u18 u19 u20 r p g F S1 all y0 y1 y2 y3 y4 y5 y6 y7 y8 y9 y10 y11 y12 y13 y14 y15 y16 y17 y18 y19 y20 y21 y22 y23 y24 y25 y26 y27 y28 y29 y30 y31 y32 y33 y34 y35 y36 y37 y38 y39 y40 y41 y42 y43 y44 y45 y46 y47 y48 y49 y50 y51 y52 y53 y54 y55 y56 y57 y58 y59 y60 y61 y62 y63 y64 y65 y66 y67 y68 y69 y70 y71 y72 y73 y74 y75 y76 y77 y78 y79 y80 y81 y82 y83 y84 y85 y86 y87 y88 y89 y90 y91 y92 y93 y94 y95 y96 y97 y98 y99 y100 y101 y102 y103 y104 y105 y106 y107 y108 y109 y110 y111 y112 y113 y114 y115 y116 y117 y118 y119 y120 y121 y122 y123 y124 y125 y126 y127 y128 y129 y130 y131 y132 y133 y134 y135 y136 y137 y138 y139 y140 L a w → Q .normal a w)
    (hs' : InvSteps Try.prog ops (rrInv Z u0 u1 u2 u3 u4 u5 u6 u7 u8 u9 u10 u11 u12 u13 u14 u15 u16 u17 u18 u19 u20 r p g F S1 all y0 y1 y2 y3 y4 y5 y6 y7 y8 y9 y10 y11 y12 y13 y14 y15 y16 y17 y18 y19 y20 y21 y22 y23 y24 y25 y26 y27 y28 y29 y30 y31 y32 y33 y34 y35 y36 y37 y38 y39 y40 y41 y42 y43 y44 y45 y46 y47 y48 y49 y50 y51 y52 y53 y54 y55 y56 y57 y58 y59 y60 y61 y62 y63 y64 y65 y66 y67 y68 y69 y70 y71 y72 y73 y74 y75 y76 y77 y78 y79 y80 y81 y82 y83 y84 y85 y86 y87 y88 y89 y90 y91 y92 y93 y94 y95 y96 y97 y98 y99 y100 y101 y102 y103 y104 y105 y106 y107 y108 y109 y110 y111 y112 y113 y114 y115 y116 y117 y118 y119 y120 y121 y122 y123 y124 y125 y126 y127 y128 y129 y130 y131 y132 y133 y134 y135 y136 y137 y138 y139 y140) 0 ops.toList) : (Code.region id ops true).wp Try.prog Q ⟨#[y0, y1, y2, y3, y4, y5, y6, y7, y8, y9, y10, y11, y12, y13, y14, y15, y16, y17, y18, y19, y20, y21, y22, y23, y24, y25, y26, y27, y28, y29, y30, y31, y32, y33, y34, y35, y36, y37, y38, y39, y40, y41, y42, y43, y44, y45, y46, y47, y48, y49, y50, y51, y52, y53, y54, y55, y56, y57, y58, y59, y60, y61, y62, y63, y64, y65, y66, y67, y68, y69, y70, y71, y72, y73, y74, y75, y76, y77, y78, y79, y80, y81, y82, y83, y84, y85, y86, y87, y88, y89, y90, y91, y92, y93, y94, y95, y96, y97, y98, y99, y100, y101, y102, y103, y104, y105, y106, y107, y108, y109, y110, y111, y112, y113, y114, y115, y116, y117, y118, y119, y120, y121, y122, y123, y124, y125, y126, y127, y128, y129, y130, y131, y132, y133, y134, y135, y136, y137, y138, y139, y140], []⟩ Z :=
  wp_region_invs (rrInv Z u0 u1 u2 u3 u4 u5 u6 u7 u8 u9 u10 u11 u12 u13 u14 u15 u16 u17 u18 u19 u20 r p g F S1 all y0 y1 y2 y3 y4 y5 y6 y7 y8 y9 y10 y11 y12 y13 y14 y15 y16 y17 y18 y19 y20 y21 y22 y23 y24 y25 y26 y27 y28 y29 y30 y31 y32 y33 y34 y35 y36 y37 y38 y39 y40 y41 y42 y43 y44 y45 y46 y47 y48 y49 y50 y51 y52 y53 y54 y55 y56 y57 y58 y59 y60 y61 y62 y63 y64 y65 y66 y67 y68 y69 y70 y71 y72 y73 y74 y75 y76 y77 y78 y79 y80 y81 y82 y83 y84 y85 y86 y87 y88 y89 y90 y91 y92 y93 y94 y95 y96 y97 y98 y99 y100 y101 y102 y103 y104 y105 y106 y107 y108 y109 y110 y111 y112 y113 y114 y115 y116 y117 y118 y119 y120 y121 y122 y123 y124 y125 y126 y127 y128 y129 y130 y131 y132 y133 y134 y135 y136 y137 y138 y139 y140) hm hlt h0 hfin hs'
end Go.Proofs.Ytboekafmplomhaa
set_option linter.unusedVariables false
set_option linter.unusedSimpArgs false
namespace Go.Proofs.Ytboekafmplomhaa
open Go.RowKit

def RReadPost (w : World) (p : Nat) (F : List Nat) (R : Sto × List Int × Int) (e : Ending) (w' : World) : Prop :=
  ∃ sv G F', e = .returned (.tuple #[sv, .int .i64 R.2.2]) ∧ RowIs w' sv G 3 1 R.2.1.length (ints R.2.1) ∧ (∀ g, G = some g → w.heap.size ≤ g ∧ g ∉ F') ∧ RIs w' p F' (rOf R.1) ∧ StoStep w w' F F'
theorem RReadPost.no {w w' : World} {p : Nat} {F : List Nat} {S : Sto} {k : Int} (h : RIs w p F (rOf S)) (hb : Below w.heap.size w w') : RReadPost w p F (S, [], k) (.returned (.tuple #[.slice none 0 0, .int .i64 k])) w' :=
  ⟨_, none, F, rfl, ⟨rfl, .inl ⟨rfl, rfl, rfl⟩⟩, fun g hg => (by cases hg), h.below hb, StoStep.of_below hb⟩
theorem readB_no {S : Sto} {l : List Nat} (h : ∀ ns rs, parseV ((l.drop 3).take (l.length - 7)) = some (ns, rs) → canV ns rs = false) : readB S l = (S, [], 4) := by
  unfold readB
  split
  · rfl
  · rename_i ns rs e
    rw [if_pos (h ns rs e)]
theorem take3 {l : List Nat} (h : 9 ≤ l.length) : l.take 3 = [l[0], l[1], l[2]] := by
  match l, h with
  | a :: b :: c :: r, h => rfl
section
variable {S : Sto} {w : World} {q0 : Nat} {F : List Nat}
set_option maxRecDepth 100000 in
set_option maxHeartbeats 16000000 in
theorem rread_any (h : RIs w q0 F (rOf S)) (hW : Wf S) (hs : Sated S) {sv : Value} {l : List Nat} (hl : Rd w 1 sv (byts l)) (hb : ∀ y ∈ l, y < 256) (hk : l.length ≤ 100000) :
    Calls Try.prog 79 #[.pointer (some ⟨q0, 0, none⟩), sv] w (RReadPost w q0 F (readV S l)) := by
  obtain ⟨la, lc, rfl, hlc, hlm⟩ := hl.lenB
  have H := hid h
  have HL := hid hl
  have HB := hid hb
  have HW := hid (And.intro hW hs)
  obtain ⟨RV, hRV⟩ : ∃ R, R = readV S l := ⟨_, rfl⟩
  rw [← hRV]
  have HRV := hid hRV
  clear h hl hb hs hW hRV
  have h1 : ¬ 8388608 < l.length := by omega
  have h1' : ¬ (8388608 : Int) < (l.length : Int) := by omega
  by_cases h2 : l.length < 9
  · have e : RV = (S, [], 13) := by rw [HRV.out]; unfold readV; rw [if_neg h1, if_pos h2]
    subst e
    have h2' : (l.length : Int) < 9 := by omega
    clear HRV
    go_enter Try.func79, Try.ntmps79
    go_wp2
    go_returns
    exact RReadPost.no H.out (by (repeat' (first | (with_reducible exact Below.refl _ _) | (with_reducible refine Below.ext_mk ?_ ?_ _ _) | (with_reducible refine Below.alloc ?_ ?_ _) | (with_reducible refine Below.drew ?_) | (with_reducible refine Below.setCell ?_ ?_ _) | go_size)))
  have h2' : ¬ (l.length : Int) < 9 := by omega
  have hRV : RV = if l.take 3 ≠ [81, 66, 1] then (S, [], 4) else if sealB (l.take (l.length - 4)) ≠ l then (S, [], 15) else readB S l := by rw [HRV.out]; unfold readV; rw [if_neg h1, if_neg h2]
  rw [take3 (by omega)] at hRV
  obtain ⟨lb, lo, rfl, hlb, -⟩ := Rd.byteAt HL.out (i := 0) (by omega)
  have k0 := (rd_byte HL.out 0 (by omega)).1
  have k1 := (rd_byte HL.out 1 (by omega)).1
  have k2 := (rd_byte HL.out 2 (by omega)).1
  rw [Nat.add_zero] at k0
  have i1 : (1 : Int) < (l.length : Int) := by omega
  have i2 : (2 : Int) < (l.length : Int) := by omega
  have i0 : (0 : Int) < (l.length : Int) := by omega
  have HT3 := hid (take3 (l := l) (by omega))
  generalize l[0] = x0 at *
  generalize l[1] = x1 at *
  generalize l[2] = x2 at *
  by_cases h3 : [x0, x1, x2] = [81, 66, 1]
  case neg =>
    have e : RV = (S, [], 4) := by rw [hRV, if_pos h3]
    subst e
    clear HRV hRV HT3
    go_enter Try.func79, Try.ntmps79
    by_cases e0 : x0 = 81
    · subst e0
      by_cases e1 : x1 = 66
      · subst e1
        have e2 : x2 ≠ 1 := fun e => h3 (by rw [e])
        have e2' : ((x2 : Int) == 1) = false := beq_eq_false_iff_ne.2 (by omega)
        clear h3
        go_wp2
        go_returns
        exact RReadPost.no H.out (by (repeat' (first | (with_reducible exact Below.refl _ _) | (with_reducible refine Below.ext_mk ?_ ?_ _ _) | (with_reducible refine Below.alloc ?_ ?_ _) | (with_reducible refine Below.drew ?_) | (with_reducible refine Below.setCell ?_ ?_ _) | go_size)))
      · have e1' : ((x1 : Int) != 66) = true := bne_iff_ne.2 (by omega)
        clear h3
        go_wp2
        go_returns
        exact RReadPost.no H.out (by (repeat' (first | (with_reducible exact Below.refl _ _) | (with_reducible refine Below.ext_mk ?_ ?_ _ _) | (with_reducible refine Below.alloc ?_ ?_ _) | (with_reducible refine Below.drew ?_) | (with_reducible refine Below.setCell ?_ ?_ _) | go_size)))
    · have e0' : ((x0 : Int) != 81) = true := bne_iff_ne.2 (by omega)
      clear h3
      go_wp2
      go_returns
      exact RReadPost.no H.out (by (repeat' (first | (with_reducible exact Below.refl _ _) | (with_reducible refine Below.ext_mk ?_ ?_ _ _) | (with_reducible refine Below.alloc ?_ ?_ _) | (with_reducible refine Below.drew ?_) | (with_reducible refine Below.setCell ?_ ?_ _) | go_size)))
  rw [if_neg (fun e => e h3)] at hRV
  injection h3 with e0 h3
  injection h3 with e1 h3
  injection h3 with e2 h3
  subst e0
  subst e1
  subst e2
  clear h3
  obtain ⟨m, hm⟩ : ∃ m, m = l.length - 4 := ⟨_, rfl⟩
  have wm : IntKind.i64.wrap ((l.length : Int) - 4) = (m : Int) := by rw [IntWalk.i64_in _ (by omega)]; omega
  have km : (m : Int) ≤ (lc : Int) := by omega
  have km0 : (0 : Int) ≤ (m : Int) := by omega
  have km1 : m ≤ lc := by omega
  obtain ⟨P, hP⟩ : ∃ P, P = l.take m := ⟨_, rfl⟩
  have hPl : P.length = m := by rw [hP, List.length_take]; omega
  have hRd : Rd w 1 (.slice (some ⟨lb, lo, none⟩) m lc) (byts P) := by rw [hP]; exact Rd.takeB HL.out (by omega) (by omega)
  have hPb : ∀ y ∈ P, y < 256 := fun y hy => HB.out y (by rw [hP] at hy; exact List.mem_of_mem_take hy)
  rw [← hm, ← hP] at hRV
  obtain ⟨v1, w1, c1, o1, b1⟩ := rsealed_det (hRd.below (w' := w.drew) (Below.drew (Below.refl _ _))) hPb (by omega)
  have s1 := str_any o1.rd
  have s2 := str_any (HL.out.below (w' := w.drew) (Below.drew (Below.refl _ _)))
  have s3 := str_any ((HL.out.below (w' := w.drew) (Below.drew (Below.refl _ _))).below b1)
  have hEQ : ((strOf (sealB P)).toList == (strOf l).toList) = decide (sealB P = l) := str_eq (sealB_byte hPb) HB.out
  generalize strOf (sealB P) = t1 at s1 hEQ
  generalize strOf l = t2 at s2 s3 hEQ
  have C1 := hid c1
  have HBW := hid ((Below.drew (Below.refl w.heap.size w)).trans (b1.mono (Nat.le_refl _)))
  have S1 := hid s1
  have S2 := hid s2
  have S3 := hid s3
  have HEQ := hid hEQ
  have HPR := hid (And.intro hP (And.intro hPl (And.intro hRd (And.intro hPb hm))))
  have HRV2 := hid hRV
  have hm5 : 5 ≤ m := by omega
  have hm9 : m ≤ 100000 := by omega
  clear c1 b1 o1 s1 s2 s3 hEQ hP hPl hRd hPb hm HRV hRV h1 h2
  go_enter Try.func79, Try.ntmps79
  go_upto_region 8 with (fail)
  clear wm k0 k1 k2
  refine wp_region_stage [1] (fun i W => (i = 0 → W = w.drew) ∧ (i = 1 → W = w1)) (by kernel_rfl) (by kernel_rfl) (by kernel_rfl) (by kernel_rfl) ⟨fun _ => rfl, fun h => by omega⟩ (fun F' hF' => ?_)
  have HF := hid hF'
  clear hF'
  repeat (apply sg_any; (focus rfl); (focus rfl); (focus (intro _; go_simp; with_reducible rfl)); simp only [Act.put, List.setIfInBounds_toArray, List.set_cons_zero, List.set_cons_succ])
  refine sg_turn_call 0 (v := v1) (f := 78) (args := #[.slice (some ⟨lb, lo, none⟩) m lc]) rfl rfl (fun _ => by first | (go_simp; done) | (go_simp; exact ⟨rfl, rfl⟩)) (fun W hR => by
    rw [hR.1 rfl]
    refine C1.out.mono ?_
    rintro e w' ⟨rfl, rfl⟩
    exact ⟨rfl, fun h => by omega, fun _ => rfl⟩) ?_
  simp only [Act.put, List.setIfInBounds_toArray, List.set_cons_zero, List.set_cons_succ]
  refine sg_read (v := .string t1) 1 1 rfl (by decide +kernel) (by decide +kernel) rfl (fun ii w' l' u hR => by
    rw [hR.2 (by omega)]; clear hR; have h := S1.out; go_simp) ?_
  simp only [Act.put, List.setIfInBounds_toArray, List.set_cons_zero, List.set_cons_succ]
  refine sg_any rfl rfl (fun _ => by go_simp; with_reducible rfl) ?_
  simp only [Act.put, List.setIfInBounds_toArray, List.set_cons_zero, List.set_cons_succ]
  refine sg_read (v := .string t2) 0 1 rfl (by decide +kernel) (by decide +kernel) rfl (fun ii w' l' u hR => by
    rcases (show ii = 0 ∨ ii = 1 by omega) with rfl | rfl
    · rw [hR.1 rfl]; clear hR; have h := S2.out; go_simp
    · rw [hR.2 rfl]; clear hR; have h := S3.out; go_simp) ?_
  simp only [Act.put, List.setIfInBounds_toArray, List.set_cons_zero, List.set_cons_succ]
  by_cases h4 : sealB P = l
  case neg =>
    have e : RV = (S, [], 15) := by rw [HRV2.out, if_pos h4]
    have m7 : (t1.toList == t2.toList) = false := by rw [HEQ.out]; exact decide_eq_false h4
    subst e
    repeat (apply sg_any; (focus rfl); (focus rfl); (focus (intro _; go_simp; with_reducible rfl)); simp only [Act.put, List.setIfInBounds_toArray, List.set_cons_zero, List.set_cons_succ])
    refine sg_end (HF.out _ (fun w3 hR => ?_))
    obtain rfl := hR.2 rfl
    clear hR HF F' S1 S2 S3 C1
    go_wp2
    go_returns
    exact RReadPost.no H.out HBW.out
  have m7 : (t1.toList == t2.toList) = true := by rw [HEQ.out]; exact decide_eq_true h4
  have hRV := HRV2.out
  rw [if_neg (fun e => e h4)] at hRV
  have HRV3 := hid hRV
  repeat (apply sg_any; (focus rfl); (focus rfl); (focus (intro _; go_simp; with_reducible rfl)); simp only [Act.put, List.setIfInBounds_toArray, List.set_cons_zero, List.set_cons_succ])
  refine sg_end (HF.out _ (fun w3 hR => ?_))
  obtain rfl := hR.2 rfl
  have H4 := hid h4
  clear hR HF F' S1 S2 S3 C1 HRV2 hRV m7 HEQ h4
  have hpt := HPR.out
  obtain ⟨hP, hPl, hRd, hPb, hm⟩ := hpt
  have hl' : (l.drop 3).take (l.length - 7) = P.drop 3 := by rw [hP, List.drop_take]; congr 1; omega
  have PA0 := parts_any (hRd.below HBW.out) hPb (by omega) (by omega)
  obtain ⟨Rp, hRp⟩ : ∃ R, R = rparts (P.drop 3) := ⟨_, rfl⟩
  rw [← hRp] at PA0
  have PA := hid PA0
  have HRP := hid hRp
  have HL' := hid hl'
  clear hP hPl hRd hPb hm PA0 hRp hl'
  go_upto_region 11 with ((with_reducible refine (PA.out).mono ?_); clear PA; rintro e w2 ⟨a1, n1, d1, a2, n2, d2, a3, n3, d3, b, rfl, hb2, hbR, hPP⟩)
  refine wp_gen (fun V hV => ?_)
  have hbV0 : Below w2.heap.size w2 V := by rw [hV]; (repeat' (first | (with_reducible exact Below.refl _ _) | (with_reducible refine Below.ext_mk ?_ ?_ _ _) | (with_reducible refine Below.alloc ?_ ?_ _) | (with_reducible refine Below.drew ?_) | (with_reducible refine Below.setCell ?_ ?_ _) | go_size))
  have hbV : Below w.heap.size w V := (HBW.out.trans (hb2.mono HBW.out.size)).trans (hbV0.mono (HBW.out.trans (hb2.mono HBW.out.size)).size)
  have bV : Blk V w2.heap.size 153 [.slice a1 n1 d1, .slice a2 n2 d2, .slice a3 n3 d3] := by rw [hV]; exact Blk.new w2 _ [.slice a1 n1 d1, .slice a2 n2 d2, .slice a3 n3 d3]
  obtain ⟨fb, hfb⟩ : ∃ b, b = w2.heap.size := ⟨_, rfl⟩
  rw [← hfb] at bV ⊢
  clear hV
  have HBV := hid hbV
  cases hc : Rp with
  | none =>
    rw [hc] at hbR
    have hno : parseV (P.drop 3) = none := by
      cases hq : parseV (P.drop 3) with
      | none => rfl
      | some Q => have := ((parse_same (P.drop 3) Q).2 hq).1; rw [← HRP.out, hc] at this; cases this
    have e : RV = (S, [], 4) := by rw [HRV3.out]; exact readB_no (fun ns rs h => by rw [HL'.out, hno] at h; cases h)
    subst e
    subst hbR
    clear hb2 hPP hbV0 hbV bV hfb hc
    go_wp2
    go_returns
    exact RReadPost.no H.out HBV.out
  | some Q =>
  obtain ⟨ns, rs⟩ := Q
  rw [hc] at hbR
  obtain ⟨old, G, hFr, hGr, hGb, G3, hG3, hG3b⟩ := hPP (ns, rs) hc
  obtain ⟨_, _, _, _, _, _, e, -, -, -⟩ := hFr
  obtain ⟨⟨rfl, rfl, rfl⟩, ⟨rfl, rfl, rfl⟩, rfl, rfl, rfl⟩ := by simpa using e
  subst hbR
  have hGV := RowIs.keep hGr (w' := V) (fun k hk => hbV0.block k (RowIs.lt hGr k hk))
  have hG3V := RowIs.keep hG3 (w' := V) (fun k hk => hbV0.block k (RowIs.lt hG3 k hk))
  simp only at hGV hG3V
  have hwB : w.heap.size ≤ w3.heap.size := HBW.out.size
  have hGw : ∀ g, G = some g → w.heap.size ≤ g := fun g hg => Nat.le_trans hwB (hGb g hg)
  have hG3w : ∀ g, G3 = some g → w.heap.size ≤ g := fun g hg => Nat.le_trans hwB (hG3b g hg)
  have hfbw : w.heap.size ≤ fb := by have := hb2.size; omega
  obtain ⟨u1, u2, u3, u4, u5⟩ := rparts_inv (fun y hy => HPR.out.2.2.2.1 y (List.mem_of_mem_drop hy)) (show rparts (P.drop 3) = some (ns, rs) by rw [← HRP.out, hc])
  have hnl : ns.length ≤ 100000 := by have := HPR.out.2.1; rw [List.length_drop] at u5; omega
  have hR3 := HRP.out.symm
  rw [hc] at hR3
  have RI := hid (rright2_any (RowIs.rd hGV) u2 (by omega))
  have c0 := bV.cell 0
  have zfb := bV.lt
  simp only [List.getElem?_cons_zero, List.getElem?_cons_succ] at c0
  have HG := hid (And.intro hGV (And.intro hG3V (And.intro hGw (And.intro hG3w hfbw))))
  have HIN := hid (And.intro u2 (And.intro u3 u4))
  have HRP2 := hid hR3
  have BV := hid bV
  clear hb2 hbV0 hbV bV hfb hc hPP hGr hGb hG3 hG3b e hGV hG3V hGw hG3w hfbw hwB u1 u2 u3 u4 u5 hR3 HRP
  cases hrv : rightV ns with
  | false =>
    have e : RV = (S, [], 4) := by
      rw [HRV3.out]
      refine readB_no (fun ns' rs' h => ?_)
      rw [HL'.out] at h
      obtain ⟨e1, e2⟩ := (parse_same (P.drop 3) (ns', rs')).2 h
      rw [HRP2.out] at e1
      cases e1
      unfold rightV at hrv
      simp only at e2
      rw [e2, Bool.true_and] at hrv
      unfold canV
      rw [hrv, Bool.false_and]
    rw [hrv] at RI
    subst e
    clear hrv
    go_wp2_with ((with_reducible refine (RI.out).mono ?_); clear RI; rintro e w4 ⟨rfl, m4, x4, rfl⟩)
    go_wp2
    go_returns
    exact RReadPost.no H.out (Below.ext_mk HBV.out HBV.out.size m4 x4)
  | true =>
  rw [hrv] at RI
  have hyes : parseV (P.drop 3) = some (ns, rs) ∧ ns.Nodup := by
    unfold rightV at hrv
    rw [Bool.and_eq_true] at hrv
    exact ⟨(parse_same (P.drop 3) (ns, rs)).1 ⟨HRP2.out, hrv.1⟩, of_decide_eq_true hrv.2⟩
  have HYES := hid hyes
  clear hrv hyes
  have wn : IntKind.i64.wrap ((ns.length : Int) + 2) = (ns.length : Int) + 2 := IntWalk.i64_in _ (by omega)
  go_upto_region 14 with ((with_reducible refine (RI.out).mono ?_); clear RI; rintro e w4 ⟨rfl, m4, x4, rfl⟩)
  refine wp_gen (fun Z hZ => ?_)
  have hbZ0 : Below V.heap.size V Z := by rw [hZ]; (repeat' (first | (with_reducible exact Below.refl _ _) | (with_reducible refine Below.ext_mk ?_ ?_ _ _) | (with_reducible refine Below.alloc ?_ ?_ _) | (with_reducible refine Below.drew ?_) | (with_reducible refine Below.setCell ?_ ?_ _) | go_size))
  obtain ⟨cp, hcp⟩ : ∃ c : Int, c = (ns.length : Int) + 2 := ⟨_, rfl⟩
  have hq : Z.heap[V.heap.size + m4.size]? = some (.cells #[.int .i64 cp, .slice a1 ns.length d1, .bool false] 72 (0, 0)) := by
    rw [hZ, hcp]
    have h := World.heap_alloc_last (V.ext m4 x4) (.cells #[.int .i64 ((ns.length : Int) + 2), .slice a1 ns.length d1, .bool false] 72)
    rw [World.size_ext] at h
    exact h
  obtain ⟨tb, htb⟩ : ∃ b, b = V.heap.size + m4.size := ⟨_, rfl⟩
  rw [← htb] at hq ⊢
  have hGZ := RowIs.keep HG.out.1 (w' := Z) (fun k hk => hbZ0.block k (RowIs.lt HG.out.1 k hk))
  have hG3Z := RowIs.keep HG.out.2.1 (w' := Z) (fun k hk => hbZ0.block k (RowIs.lt HG.out.2.1 k hk))
  have RT : RIs Z tb (tb :: G.toList) (rNs ns cp) := ⟨.slice a1 ns.length d1, G, hq, hGZ, rfl, by
    cases hg : G with
    | none => simp
    | some g => have := RowIs.lt HG.out.1 g hg; simp; omega⟩
  have hbZ : Below w.heap.size w Z := HBV.out.trans (hbZ0.mono HBV.out.size)
  obtain ⟨hN, hr, hn8, hr64⟩ := parseV_ok HYES.out.1
  have hr2 : ∀ x ∈ rs, okR ns x := hr
  have hor := ord_docR hN cp hr2
  obtain ⟨A, hA⟩ : ∃ A, A = rordV (rNs ns cp) (ns.length + 2) rs := ⟨_, rfl⟩
  rw [← hA] at hor
  have hol := ordR_len hN hr2
  have hnl2 : ns.length ≤ 100000 := hnl
  have ORD := hid (fun W (hb : Below Z.heap.size Z W) => rorder_any (R := rNs ns cp) (fun i n hn => by
    obtain ⟨_, _, h3, h4, h5, h6, _⟩ := hN.ok i n hn
    exact ⟨h3, h4, h5, h6⟩) (show ns.length ≤ 1048576 by omega) (RT.below hb) ((RowIs.rd hG3Z).below hb) (by omega) (by show (rordV (rNs ns cp) (ns.length + 2) rs).1.length ≤ 8388608; rw [← hA, hor.1]; omega) (by show (rordV (rNs ns cp) (ns.length + 2) rs).2.1.length ≤ 8388608; rw [← hA, hor.2.1]; omega))
  have e1 : rordV (rNs ns cp) ((rNs ns cp).L.length + 2) rs = A := hA.symm
  rw [e1] at ORD
  obtain ⟨o1, o2, o3⟩ := ordR_in hN hr2
  have hWrt : Wrt A.1 A.2.2 := by
    rw [hor.1, hor.2.2]
    refine ⟨by omega, by omega, fun x hx => ?_, fun r hr' => ?_⟩
    · obtain ⟨i, hi, rfl⟩ := List.mem_iff_getElem.1 hx
      obtain ⟨p1, p2, p3, p4, p5, p6⟩ := o1.ok i _ (List.getElem?_eq_getElem hi)
      exact ⟨p1, p2, p3, by omega, p5, by omega⟩
    · have := o2 r hr'; omega
  obtain ⟨bs, hbs⟩ : ∃ bs, bs = writeB A.1 A.2.2 := ⟨_, rfl⟩
  have BYT := hid (fun W fv (hF : FrIs W fv A.1 A.2.1 A.2.2) => rbytes_any hF hWrt)
  rw [← hbs] at BYT
  have hbb : ∀ y ∈ bs, y < 256 := by rw [hbs]; exact sealB_byte (bodyB_byte _ _)
  obtain ⟨dd, hdd⟩ : ∃ d, d = !canV ns rs := ⟨_, rfl⟩
  have hiff : bs = l ↔ (ordR ns rs).1 = ns := by
    have h := bytes_iff HPR.out.2.2.2.1 HYES.out.1 (by rw [HPR.out.1, List.take_take, Nat.min_eq_left (by omega)]; exact HT3.out) (by have := HPR.out.2.1; omega) HYES.out.2
    rw [H4.out] at h
    rw [hbs, hor.1, hor.2.2]
    exact h
  have m8 : ((strOf bs).toList == (strOf l).toList) = !dd := by
    rw [str_eq hbb HB.out, hdd, Bool.not_not]
    unfold canV
    rw [decide_eq_true HYES.out.2, Bool.true_and]
    exact decide_eq_decide.2 hiff
  obtain ⟨s1, hs1⟩ : ∃ s, s = strOf bs := ⟨_, rfl⟩
  obtain ⟨s2, hs2⟩ : ∃ s, s = strOf l := ⟨_, rfl⟩
  rw [← hs1, ← hs2] at m8
  have STB := hid hs1.symm
  have STL := hid hs2.symm
  have HLZ := hid (HL.out.below hbZ)
  have FB2 := hid (((BV.out.below hbZ0).cell 2))
  have FB0 := hid (((BV.out.below hbZ0).cell 0))
  have zfbZ : fb < Z.heap.size := (BV.out.below hbZ0).lt
  simp only [List.getElem?_cons_zero, List.getElem?_cons_succ] at FB2 FB0
  have HDD := hid hdd
  have HGZ := hid (And.intro hGZ hG3Z)
  have HZ := hid (And.intro hbZ0 hbZ)
  have HNS := hid (And.intro hN (And.intro hr (And.intro hn8 hr64)))
  have M8 := hid m8
  clear hZ hq htb hGZ hG3Z RT hbZ hbZ0 hN hr hr2 hn8 hr64 hor hA hol e1 o1 o2 o3 hWrt hbs hbb hdd hiff hs1 hs2 m8 hcp wn c0 zfb hnl2
  refine wp_or Z (.pointer (some ⟨tb, 0, none⟩)) (.pointer (some ⟨fb, 2, none⟩)) (.slice a3 rs.length d3) (.string s1) (.slice (some ⟨lb, lo, none⟩) l.length lc) (.string s2) (.bool dd) A.1 A.2.1 A.2.2 bs (by kernel_rfl) (by kernel_rfl) ?_ ?_ ?_
  · refine ⟨undef, undef, ?_, ⟨Below.drew (Below.refl _ _), fun h => by simp at h, fun h => by simp at h⟩⟩
    unfold orAct
    rfl
  · rintro L a W' hall ⟨v1', v2', rfl, hQ⟩
    have e0 := hall 0 (by decide)
    have e1 := hall 1 (by decide)
    have e2 := hall 2 (by decide)
    have e3 := hall 3 (by decide)
    have e4 := hall 4 (by decide)
    have e5 := hall 5 (by decide)
    have e6 := hall 6 (by decide)
    have e7 := hall 7 (by decide)
    have e8 := hall 8 (by decide)
    unfold orAct
    simp only [e0, e1, e2, e3, e4, e5, e6, e7, e8, gx_true]
    have hbW := hQ.lo
    clear e0 e1 e2 e3 e4 e5 e6 e7 e8 hall hQ
    have hrb := HRV3.out
    unfold readB at hrb
    rw [HL'.out, HYES.out.1] at hrb
    simp only at hrb
    have HBW2 := hid (HZ.out.2.trans (hbW.mono HZ.out.2.size))
    cases hd : dd with
    | true =>
      have hcv : canV ns rs = false := by have := HDD.out; rw [hd] at this; simpa using this.symm
      rw [if_pos hcv] at hrb
      subst hrb
      subst hd
      clear hbW hcv
      go_wp2
      go_returns
      exact RReadPost.no H.out HBW2.out
    | false =>
    have hcv : canV ns rs = true := by have := HDD.out; rw [hd] at this; simpa using this.symm
    rw [if_neg (by rw [hcv]; simp)] at hrb
    have HP := hid hrb
    subst hd
    clear hrb hcv HRV3 HDD M8 STB STL BYT ORD
    go_upto_region 17 with (fail)
    refine wp_gen (fun X hX => ?_)
    have hbX0 : Below W'.heap.size W' X := by rw [hX]; (repeat' (first | (with_reducible exact Below.refl _ _) | (with_reducible refine Below.ext_mk ?_ ?_ _ _) | (with_reducible refine Below.alloc ?_ ?_ _) | (with_reducible refine Below.drew ?_) | (with_reducible refine Below.setCell ?_ ?_ _) | go_size))
    have row0 : RowIs X (.slice (some ⟨W'.heap.size, 0, none⟩) 2 2) (some W'.heap.size) 3 1 2 (ints [0, 1]) := by
      rw [hX]
      exact ⟨rfl, .inr ⟨W'.heap.size, 2, #[.int .i64 0, .int .i64 1], rfl, rfl, World.heap_alloc_last W' _, Nat.le_refl _, by unfold maxLen; omega, rfl, rfl⟩⟩
    obtain ⟨g0, hg0⟩ : ∃ g, g = W'.heap.size := ⟨_, rfl⟩
    rw [← hg0] at row0 ⊢
    have hbZX : Below Z.heap.size Z X := hbW.trans (hbX0.mono hbW.size)
    have hbX : Below w.heap.size w X := HZ.out.2.trans (hbZX.mono HZ.out.2.size)
    have hVZ := HZ.out.1.size
    have hZX := hbZX.size
    have hzW := hbW.size
    have hwZ := HZ.out.2.size
    have hwV := HBV.out.size
    have GX := RowIs.keep HGZ.out.1 (w' := X) (fun k hk => hbZX.block k (RowIs.lt HGZ.out.1 k hk))
    have G3X := RowIs.keep HGZ.out.2 (w' := X) (fun k hk => hbZX.block k (RowIs.lt HGZ.out.2 k hk))
    have BX := ((BV.out.below HZ.out.1).below hbZX)
    have KS := hid (show (∀ k, k = fb ∨ G = some k ∨ G3 = some k → k < X.heap.size ∧ k ∉ g0 :: F) ∧ g0 < X.heap.size ∧ w.heap.size ≤ g0 from by
      have l1 := BV.out.lt
      refine ⟨fun k hk => ?_, RowIs.lt row0 g0 rfl, by omega⟩
      have hk2 : k < Z.heap.size ∧ w.heap.size ≤ k := by
        rcases hk with rfl | hk | hk
        · exact ⟨by omega, HG.out.2.2.2.2⟩
        · exact ⟨RowIs.lt HGZ.out.1 k hk, HG.out.2.2.1 k hk⟩
        · exact ⟨RowIs.lt HGZ.out.2 k hk, HG.out.2.2.2.1 k hk⟩
      refine ⟨by omega, fun hm => ?_⟩
      rcases List.mem_cons.1 hm with e | hm
      · omega
      · have := H.out.lt k hm; omega)
    have gF : g0 ∉ F := fun hm => by have := H.out.lt g0 hm; have := KS.out.2.2; omega
    have HBX := hid hbX
    have GX := hid GX
    have G3X := hid G3X
    have BX := hid BX
    have ROW0 := hid row0
    have c0 := BX.out.cell 0
    have cz := BX.out.lt
    simp only [List.getElem?_cons_zero, List.getElem?_cons_succ] at c0
    clear hX hbX0 row0 hg0 hbZX hbX hVZ hZX hzW hwZ hwV hbW FB0 FB2 zfbZ HLZ
    go_wp2_with fail
    go_loopw [10, 11] (fun mv iv wr => ∃ (j : Nat) (S1 : Sto) (F1 : List Nat) (all : List Int) (g sc : Nat), j ≤ ns.length ∧ iv = .int .i64 j ∧ mv = .slice (some ⟨g, 0, none⟩) all.length sc ∧ RIs wr q0 F1 (rOf S1) ∧ (Wf S1 ∧ Sated S1) ∧
      RowIs wr mv (some g) 3 1 all.length (ints all) ∧ g ∉ F1 ∧ StoStep X wr (g0 :: F) (g :: F1) ∧ all.length = j + 2 ∧ loadN S1 all (ns.drop j) = loadN S [0, 1] ns) (fun _ iv _ => ns.length - (intOf iv).toNat)
    case atStart => exact ⟨0, S, F, [0, 1], g0, 2, by omega, rfl, rfl, H.out.below HBX.out, HW.out, ROW0.out, gF, StoStep.refl _ _, rfl, rfl⟩
    case round =>
      obtain ⟨j, S1, F1, all, g, sc, hj, rfl, rfl, hS1, hG1, hrow, hgF, hst, hal, hld⟩ := hrel
      have HS1 := hid hS1
      have HG1 := hid hG1
      have HR1 := hid hrow
      have HGF1 := hid hgF
      have HST := hid hst
      have HLD := hid hld
      have hal2 : all.length ≤ 8388608 := by omega
      have HAL := hid hal
      have bW := BX.out.keep (HST.out.block fb (KS.out.1 fb (.inl rfl)).1 (KS.out.1 fb (.inl rfl)).2)
      have k0 := bW.cell 0
      have kz := bW.lt
      simp only [List.getElem?_cons_zero, List.getElem?_cons_succ] at k0
      have BW := hid bW
      clear hS1 hG1 hrow hgF hst hld c0 cz hal bW
      by_cases hlt : j < ns.length
      · have hj1 : (j : Int) < (ns.length : Int) := by omega
        have hj0 : (0 : Int) ≤ (j : Int) := by omega
        have hx := List.getElem?_eq_getElem hlt
        have nrowW := RowIs.keep GX.out (w' := wr) (fun k hk => HST.out.block k (RowIs.lt GX.out k hk) (KS.out.1 k (.inr (.inl hk))).2)
        obtain ⟨b', off', rfl, hb1, q1, q2, q3⟩ := Rd.nodeAt (RowIs.rd nrowW) hx
        have NW := hid (RowIs.rd nrowW)
        obtain ⟨n1, n2, n3, n4, n5, n6, -⟩ := HNS.out.1.ok j _ hx
        have LD := hid (List.drop_eq_getElem_cons hlt)
        have HX := hid hx
        have HLT := hid (And.intro hlt hj1)
        have HJW := hid (next_w (show j ≤ 8388608 by omega))
        have HMS := hid (meas_w hlt (by omega))
        generalize ns[j] = x at *
        obtain ⟨vx, lo', hi'⟩ := x
        simp only at q1 q2 q3 n1 n2 n3 n4 n5 n6
        obtain ⟨lw, rfl⟩ : ∃ v : Nat, lo' = v := ⟨lo'.toNat, by omega⟩
        obtain ⟨hi, rfl⟩ : ∃ v : Nat, hi' = v := ⟨hi'.toNat, by omega⟩
        have VC0 := rVar_call HS1.out HG1.out.1 vx
        unfold RSame at VC0
        obtain ⟨hVW, hVS⟩ := varV_good HG1.out.1 HG1.out.2 vx
        obtain ⟨V1, hV1⟩ : ∃ V, V = varV S1 vx := ⟨_, rfl⟩
        rw [← hV1] at VC0 hVW hVS
        have HV1 := hid hV1
        have HVG := hid (And.intro hVW hVS)
        have VC := hid VC0
        clear VC0 hV1 hVW hVS hx nrowW
        go_upto_region 21 with ((with_reducible refine (VC.out).mono ?_); clear VC; rintro e w4 ⟨rfl, F2, hS2, st2⟩)
        have zgX := RowIs.lt HR1.out g rfl
        have row4 : RowIs w4 (.slice (some ⟨g, 0, none⟩) all.length sc) (some g) 3 1 all.length (ints all) := RowIs.keep HR1.out (fun k hk => by cases hk; exact st2.block g zgX HGF1.out)
        have hg2 : g ∉ F2 := st2.keeps zgX HGF1.out
        have zg := RowIs.lt row4 g rfl
        have ST40 := HST.out.trans (st2.cons g)
        have bW4 := BX.out.keep (ST40.block fb (KS.out.1 fb (.inl rfl)).1 (KS.out.1 fb (.inl rfl)).2)
        have nrow4 := RowIs.keep GX.out (w' := w4) (fun k hk => ST40.block k (RowIs.lt GX.out k hk) (KS.out.1 k (.inr (.inl hk))).2)
        have zfbZ : fb < w4.heap.size := bW4.lt
        have FB0 := hid (bW4.cell 0)
        simp only [List.getElem?_cons_zero, List.getElem?_cons_succ] at FB0
        obtain ⟨b2, off2, e2, znb, -, r2, r3⟩ := Rd.nodeAt (RowIs.rd nrow4) HX.out
        cases e2
        have NQ1 := hid r2
        have NQ2 := hid r3
        obtain ⟨x1, hx1⟩ : ∃ x, x = all.getD hi 0 := ⟨_, rfl⟩
        obtain ⟨x2, hx2⟩ : ∃ x, x = all.getD lw 0 := ⟨_, rfl⟩
        have rowc : ∀ c, c < all.length → w4.cell? ⟨g, c, none⟩ = some (.int .i64 (all.getD c 0)) := fun c hc => by
          obtain ⟨g', cap', e1, e2, e3, _⟩ := row4.at hc (j := 0) (by omega)
          cases e2
          simp only [Nat.mul_one, Nat.add_zero] at e3
          rw [e3]; simp [ints, List.getD_eq_getElem?_getD, hc]
        have lhi : hi < all.length := by have := HAL.out; omega
        have llo : lw < all.length := by have := HAL.out; omega
        have hc1 := rowc hi lhi
        have hc2 := rowc lw llo
        rw [← hx1] at hc1
        rw [← hx2] at hc2
        have HC1 := hid hc1
        have HC2 := hid hc2
        have lhi1 : (hi : Int) < (all.length : Int) := by omega
        have llo1 : (lw : Int) < (all.length : Int) := by omega
        have HROW := hid row4
        have HGF := hid hg2
        obtain ⟨vv, hvv⟩ : ∃ v, v = V1.2 := ⟨_, rfl⟩
        have IC := hid (fun W (hb : Below w4.heap.size w4 W) => rIte_call (hS2.below hb) HVG.out.1 vv x1 x2)
        unfold RSame at IC
        obtain ⟨R, hR⟩ : ∃ R, R = iteV V1.1 vv x1 x2 := ⟨_, rfl⟩
        rw [← hR] at IC
        have HMK := hid (show makeN S1 all (vx, (lw : Int), (hi : Int)) = R by
          rw [hR, hx1, hx2, hvv]; unfold makeN; rw [← HV1.out]; rfl)
        have HRG := hid (show Wf R.1 ∧ Sated R.1 by rw [hR]; exact iteV_good HVG.out.1 HVG.out.2 _ _ _)
        have ST4 := hid ST40
        rw [← hvv]
        clear bW4 nrow4 row4 hg2 rowc hc1 hc2 hR hx1 hx2 hvv st2 hS2 zgX lhi llo n3 n4 n5 n6 ST40 r2 r3 q1 q2 q3 k0 kz hb1 n1 n2
        refine wp_rr w4 (.slice (some ⟨g, 0, none⟩) all.length sc) (.pointer (some ⟨q0, 0, none⟩)) (.int .i64 vv) (.slice (some ⟨g, 0, none⟩) all.length sc) (.pointer (some ⟨fb, 0, none⟩)) (.slice (some ⟨b', off', none⟩) ns.length d1) (.int .i64 (j : Nat)) (.pointer (some ⟨b', off' + j * 3, none⟩)) (.pointer (some ⟨b', off' + j * 3 + 2, none⟩)) (.int .i64 (hi : Nat)) (.pointer (some ⟨g, hi, none⟩)) (.int .i64 x1) (.slice (some ⟨g, 0, none⟩) all.length sc) (.pointer (some ⟨fb, 0, none⟩)) (.slice (some ⟨b', off', none⟩) ns.length d1) (.int .i64 (j : Nat)) (.pointer (some ⟨b', off' + j * 3, none⟩)) (.pointer (some ⟨b', off' + j * 3 + 1, none⟩)) (.int .i64 (lw : Nat)) (.pointer (some ⟨g, lw, none⟩)) (.int .i64 x2)
          R.2 q0 g F2 (rOf R.1) all (by kernel_rfl) (by kernel_rfl) ?_ ?_ ?_
        · refine ⟨0, undef, ?_, ⟨fun _ => Below.drew (Below.refl _ _), fun h => by simp at h, fun h => by simp at h, fun h => by simp at h⟩⟩
          unfold rrAct
          rfl
        · rintro L a W9 hall ⟨q, v', rfl, hQ⟩
          obtain ⟨F3, G', hS3, hr3, hg3, hgg, st3⟩ := hQ.d (hall 23 (by decide))
          have e0 := hall 0 (by decide)
          have e1 := hall 1 (by decide)
          have e2 := hall 2 (by decide)
          have e3 := hall 3 (by decide)
          have e4 := hall 4 (by decide)
          have e5 := hall 5 (by decide)
          have e6 := hall 6 (by decide)
          have e7 := hall 7 (by decide)
          have e8 := hall 8 (by decide)
          have e9 := hall 9 (by decide)
          have e10 := hall 10 (by decide)
          have e11 := hall 11 (by decide)
          have e12 := hall 12 (by decide)
          have e13 := hall 13 (by decide)
          have e14 := hall 14 (by decide)
          have e15 := hall 15 (by decide)
          have e16 := hall 16 (by decide)
          have e17 := hall 17 (by decide)
          have e18 := hall 18 (by decide)
          have e19 := hall 19 (by decide)
          have e20 := hall 20 (by decide)
          have e21 := hall 21 (by decide)
          have e22 := hall 22 (by decide)
          have e23 := hall 23 (by decide)
          have e24 := hall 24 (by decide)
          unfold rrAct
          simp only [e0, e1, e2, e3, e4, e5, e6, e7, e8, e9, e10, e11, e12, e13, e14, e15, e16, e17, e18, e19, e20, e21, e22, e23, e24, gx_true]
          clear e0 e1 e2 e3 e4 e5 e6 e7 e8 e9 e10 e11 e12 e13 e14 e15 e16 e17 e18 e19 e20 e21 e22 e23 e24 hall hQ
          obtain ⟨a', sc', rfl, hm'⟩ := RowIs.form hr3
          obtain ⟨rfl, -⟩ := RowIs.addr2 hr3
          have HS3 := hid hS3
          have HR3 := hid hr3
          have HG3 := hid hg3
          have HST3 := hid (ST4.out.trans st3)
          clear hS3 hr3 hg3 hgg st3
          go_wp2_with fail
          go_roundw
          case rel =>
            refine ⟨j + 1, R.1, F3, all ++ [R.2], G', sc', HLT.out.1, by go_num, rfl, HS3.out, HRG.out, HR3.out, HG3.out, HST3.out, by have := HAL.out; simp; omega, ?_⟩
            have h := HLD.out
            rw [LD.out, loadN, HMK.out] at h
            exact h
          case measure => have := HLT.out; simp [intOf]; omega
        -- GENERATED GEN21
        refine ⟨fun L a w2 hn hI => ?_, ?_⟩
        · obtain ⟨q, v', rfl, hI⟩ := hI
          have hup := getD_up hn.2.1
          have f24 := not_upA hn.2.2.2 (i := 24) (k := 0) (by decide +kernel) hn.2.1
          refine st_val (v := .slice (some ⟨g, 0, none⟩) all.length sc) (W1 := w2) rfl (by unfold rrAct; simp only [gx_true, f24, gx_false]; go_simp) ?_
          refine ⟨q, v', ?_, hI.congr (up_ne _ _ (by decide)) (up_ne _ _ (by decide)) (up_ne _ _ (by decide))⟩
          unfold rrAct
          simp only [Act.put, List.setIfInBounds_toArray, List.set_cons_zero, List.set_cons_succ, hup, gx_true, up_ne 0 1 (by decide), up_ne 0 2 (by decide), up_ne 0 3 (by decide), up_ne 0 4 (by decide), up_ne 0 5 (by decide), up_ne 0 6 (by decide), up_ne 0 7 (by decide), up_ne 0 8 (by decide), up_ne 0 9 (by decide), up_ne 0 10 (by decide), up_ne 0 11 (by decide), up_ne 0 12 (by decide), up_ne 0 13 (by decide), up_ne 0 14 (by decide), up_ne 0 15 (by decide), up_ne 0 16 (by decide), up_ne 0 17 (by decide), up_ne 0 18 (by decide), up_ne 0 19 (by decide), up_ne 0 20 (by decide), up_ne 0 21 (by decide), up_ne 0 22 (by decide), up_ne 0 23 (by decide), up_ne 0 24 (by decide)]
        refine ⟨fun L a w2 hn hI => ?_, ?_⟩
        · obtain ⟨q, v', rfl, hI⟩ := hI
          have hup := getD_up hn.2.1
          refine st_val (v := .pointer (some ⟨q0, 0, none⟩)) (W1 := w2) rfl (by unfold rrAct; simp only [gx_true]; go_simp) ?_
          refine ⟨q, v', ?_, hI.congr (up_ne _ _ (by decide)) (up_ne _ _ (by decide)) (up_ne _ _ (by decide))⟩
          unfold rrAct
          simp only [Act.put, List.setIfInBounds_toArray, List.set_cons_zero, List.set_cons_succ, hup, gx_true, up_ne 1 0 (by decide), up_ne 1 2 (by decide), up_ne 1 3 (by decide), up_ne 1 4 (by decide), up_ne 1 5 (by decide), up_ne 1 6 (by decide), up_ne 1 7 (by decide), up_ne 1 8 (by decide), up_ne 1 9 (by decide), up_ne 1 10 (by decide), up_ne 1 11 (by decide), up_ne 1 12 (by decide), up_ne 1 13 (by decide), up_ne 1 14 (by decide), up_ne 1 15 (by decide), up_ne 1 16 (by decide), up_ne 1 17 (by decide), up_ne 1 18 (by decide), up_ne 1 19 (by decide), up_ne 1 20 (by decide), up_ne 1 21 (by decide), up_ne 1 22 (by decide), up_ne 1 23 (by decide), up_ne 1 24 (by decide)]
        refine ⟨fun L a w2 hn hI => ?_, ?_⟩
        · obtain ⟨q, v', rfl, hI⟩ := hI
          have hup := getD_up hn.2.1
          refine st_val (v := .int .i64 vv) (W1 := w2) rfl (by unfold rrAct; simp only [gx_true]; go_simp) ?_
          refine ⟨q, v', ?_, hI.congr (up_ne _ _ (by decide)) (up_ne _ _ (by decide)) (up_ne _ _ (by decide))⟩
          unfold rrAct
          simp only [Act.put, List.setIfInBounds_toArray, List.set_cons_zero, List.set_cons_succ, hup, gx_true, up_ne 2 0 (by decide), up_ne 2 1 (by decide), up_ne 2 3 (by decide), up_ne 2 4 (by decide), up_ne 2 5 (by decide), up_ne 2 6 (by decide), up_ne 2 7 (by decide), up_ne 2 8 (by decide), up_ne 2 9 (by decide), up_ne 2 10 (by decide), up_ne 2 11 (by decide), up_ne 2 12 (by decide), up_ne 2 13 (by decide), up_ne 2 14 (by decide), up_ne 2 15 (by decide), up_ne 2 16 (by decide), up_ne 2 17 (by decide), up_ne 2 18 (by decide), up_ne 2 19 (by decide), up_ne 2 20 (by decide), up_ne 2 21 (by decide), up_ne 2 22 (by decide), up_ne 2 23 (by decide), up_ne 2 24 (by decide)]
        refine ⟨fun L a w2 hn hI => ?_, ?_⟩
        · obtain ⟨q, v', rfl, hI⟩ := hI
          have hup := getD_up hn.2.1
          have f24 := not_upA hn.2.2.2 (i := 24) (k := 3) (by decide +kernel) hn.2.1
          refine st_val (v := .slice (some ⟨g, 0, none⟩) all.length sc) (W1 := w2) rfl (by unfold rrAct; simp only [gx_true, f24, gx_false]; go_simp) ?_
          refine ⟨q, v', ?_, hI.congr (up_ne _ _ (by decide)) (up_ne _ _ (by decide)) (up_ne _ _ (by decide))⟩
          unfold rrAct
          simp only [Act.put, List.setIfInBounds_toArray, List.set_cons_zero, List.set_cons_succ, hup, gx_true, up_ne 3 0 (by decide), up_ne 3 1 (by decide), up_ne 3 2 (by decide), up_ne 3 4 (by decide), up_ne 3 5 (by decide), up_ne 3 6 (by decide), up_ne 3 7 (by decide), up_ne 3 8 (by decide), up_ne 3 9 (by decide), up_ne 3 10 (by decide), up_ne 3 11 (by decide), up_ne 3 12 (by decide), up_ne 3 13 (by decide), up_ne 3 14 (by decide), up_ne 3 15 (by decide), up_ne 3 16 (by decide), up_ne 3 17 (by decide), up_ne 3 18 (by decide), up_ne 3 19 (by decide), up_ne 3 20 (by decide), up_ne 3 21 (by decide), up_ne 3 22 (by decide), up_ne 3 23 (by decide), up_ne 3 24 (by decide)]
        refine ⟨fun L a w2 hn hI => ?_, ?_⟩
        · obtain ⟨q, v', rfl, hI⟩ := hI
          have hup := getD_up hn.2.1
          refine st_val (v := .pointer (some ⟨fb, 0, none⟩)) (W1 := w2) rfl (by unfold rrAct; simp only [gx_true]; go_simp) ?_
          refine ⟨q, v', ?_, hI.congr (up_ne _ _ (by decide)) (up_ne _ _ (by decide)) (up_ne _ _ (by decide))⟩
          unfold rrAct
          simp only [Act.put, List.setIfInBounds_toArray, List.set_cons_zero, List.set_cons_succ, hup, gx_true, up_ne 4 0 (by decide), up_ne 4 1 (by decide), up_ne 4 2 (by decide), up_ne 4 3 (by decide), up_ne 4 5 (by decide), up_ne 4 6 (by decide), up_ne 4 7 (by decide), up_ne 4 8 (by decide), up_ne 4 9 (by decide), up_ne 4 10 (by decide), up_ne 4 11 (by decide), up_ne 4 12 (by decide), up_ne 4 13 (by decide), up_ne 4 14 (by decide), up_ne 4 15 (by decide), up_ne 4 16 (by decide), up_ne 4 17 (by decide), up_ne 4 18 (by decide), up_ne 4 19 (by decide), up_ne 4 20 (by decide), up_ne 4 21 (by decide), up_ne 4 22 (by decide), up_ne 4 23 (by decide), up_ne 4 24 (by decide)]
        refine ⟨fun L a w2 hn hI => ?_, ?_⟩
        · obtain ⟨q, v', rfl, hI⟩ := hI
          have hup := getD_up hn.2.1
          have d4 : L.getD 4 false = true := hn.2.2.1 4 (by decide +kernel)
          have f21 := not_upA hn.2.2.2 (i := 21) (k := 5) (by decide +kernel) hn.2.1
          have hB := hI.a f21
          have zw : fb < w2.heap.size := Nat.lt_of_lt_of_le zfbZ hB.size
          have kc := (hB.cell (p := ⟨fb, 0, none⟩) zfbZ).trans FB0.out
          refine st_val (v := (.slice (some ⟨b', off', none⟩) ns.length d1)) (W1 := w2) rfl (by unfold rrAct; simp only [gx_true, d4]; go_simp) ?_
          refine ⟨q, v', ?_, hI.congr (up_ne _ _ (by decide)) (up_ne _ _ (by decide)) (up_ne _ _ (by decide))⟩
          unfold rrAct
          simp only [Act.put, List.setIfInBounds_toArray, List.set_cons_zero, List.set_cons_succ, hup, gx_true, up_ne 5 0 (by decide), up_ne 5 1 (by decide), up_ne 5 2 (by decide), up_ne 5 3 (by decide), up_ne 5 4 (by decide), up_ne 5 6 (by decide), up_ne 5 7 (by decide), up_ne 5 8 (by decide), up_ne 5 9 (by decide), up_ne 5 10 (by decide), up_ne 5 11 (by decide), up_ne 5 12 (by decide), up_ne 5 13 (by decide), up_ne 5 14 (by decide), up_ne 5 15 (by decide), up_ne 5 16 (by decide), up_ne 5 17 (by decide), up_ne 5 18 (by decide), up_ne 5 19 (by decide), up_ne 5 20 (by decide), up_ne 5 21 (by decide), up_ne 5 22 (by decide), up_ne 5 23 (by decide), up_ne 5 24 (by decide)]
        refine ⟨fun L a w2 hn hI => ?_, ?_⟩
        · obtain ⟨q, v', rfl, hI⟩ := hI
          have hup := getD_up hn.2.1
          refine st_val (v := .int .i64 (j : Nat)) (W1 := w2) rfl (by unfold rrAct; simp only [gx_true]; go_simp) ?_
          refine ⟨q, v', ?_, hI.congr (up_ne _ _ (by decide)) (up_ne _ _ (by decide)) (up_ne _ _ (by decide))⟩
          unfold rrAct
          simp only [Act.put, List.setIfInBounds_toArray, List.set_cons_zero, List.set_cons_succ, hup, gx_true, up_ne 6 0 (by decide), up_ne 6 1 (by decide), up_ne 6 2 (by decide), up_ne 6 3 (by decide), up_ne 6 4 (by decide), up_ne 6 5 (by decide), up_ne 6 7 (by decide), up_ne 6 8 (by decide), up_ne 6 9 (by decide), up_ne 6 10 (by decide), up_ne 6 11 (by decide), up_ne 6 12 (by decide), up_ne 6 13 (by decide), up_ne 6 14 (by decide), up_ne 6 15 (by decide), up_ne 6 16 (by decide), up_ne 6 17 (by decide), up_ne 6 18 (by decide), up_ne 6 19 (by decide), up_ne 6 20 (by decide), up_ne 6 21 (by decide), up_ne 6 22 (by decide), up_ne 6 23 (by decide), up_ne 6 24 (by decide)]
        refine ⟨fun L a w2 hn hI => ?_, ?_⟩
        · obtain ⟨q, v', rfl, hI⟩ := hI
          have hup := getD_up hn.2.1
          have d5 : L.getD 5 false = true := hn.2.2.1 5 (by decide +kernel)
          have d6 : L.getD 6 false = true := hn.2.2.1 6 (by decide +kernel)
          refine st_val (v := .pointer (some ⟨b', off' + j * 3, none⟩)) (W1 := w2) rfl (by unfold rrAct; simp only [gx_true, d5, d6]; go_simp) ?_
          refine ⟨q, v', ?_, hI.congr (up_ne _ _ (by decide)) (up_ne _ _ (by decide)) (up_ne _ _ (by decide))⟩
          unfold rrAct
          simp only [Act.put, List.setIfInBounds_toArray, List.set_cons_zero, List.set_cons_succ, hup, gx_true, up_ne 7 0 (by decide), up_ne 7 1 (by decide), up_ne 7 2 (by decide), up_ne 7 3 (by decide), up_ne 7 4 (by decide), up_ne 7 5 (by decide), up_ne 7 6 (by decide), up_ne 7 8 (by decide), up_ne 7 9 (by decide), up_ne 7 10 (by decide), up_ne 7 11 (by decide), up_ne 7 12 (by decide), up_ne 7 13 (by decide), up_ne 7 14 (by decide), up_ne 7 15 (by decide), up_ne 7 16 (by decide), up_ne 7 17 (by decide), up_ne 7 18 (by decide), up_ne 7 19 (by decide), up_ne 7 20 (by decide), up_ne 7 21 (by decide), up_ne 7 22 (by decide), up_ne 7 23 (by decide), up_ne 7 24 (by decide)]
        refine ⟨fun L a w2 hn hI => ?_, ?_⟩
        · obtain ⟨q, v', rfl, hI⟩ := hI
          have hup := getD_up hn.2.1
          have d7 : L.getD 7 false = true := hn.2.2.1 7 (by decide +kernel)
          refine st_val (v := .pointer (some ⟨b', off' + j * 3 + 2, none⟩)) (W1 := w2) rfl (by unfold rrAct; simp only [gx_true, d7]; go_simp) ?_
          refine ⟨q, v', ?_, hI.congr (up_ne _ _ (by decide)) (up_ne _ _ (by decide)) (up_ne _ _ (by decide))⟩
          unfold rrAct
          simp only [Act.put, List.setIfInBounds_toArray, List.set_cons_zero, List.set_cons_succ, hup, gx_true, up_ne 8 0 (by decide), up_ne 8 1 (by decide), up_ne 8 2 (by decide), up_ne 8 3 (by decide), up_ne 8 4 (by decide), up_ne 8 5 (by decide), up_ne 8 6 (by decide), up_ne 8 7 (by decide), up_ne 8 9 (by decide), up_ne 8 10 (by decide), up_ne 8 11 (by decide), up_ne 8 12 (by decide), up_ne 8 13 (by decide), up_ne 8 14 (by decide), up_ne 8 15 (by decide), up_ne 8 16 (by decide), up_ne 8 17 (by decide), up_ne 8 18 (by decide), up_ne 8 19 (by decide), up_ne 8 20 (by decide), up_ne 8 21 (by decide), up_ne 8 22 (by decide), up_ne 8 23 (by decide), up_ne 8 24 (by decide)]
        refine ⟨fun L a w2 hn hI => ?_, ?_⟩
        · obtain ⟨q, v', rfl, hI⟩ := hI
          have hup := getD_up hn.2.1
          have d8 : L.getD 8 false = true := hn.2.2.1 8 (by decide +kernel)
          have f21 := not_upA hn.2.2.2 (i := 21) (k := 9) (by decide +kernel) hn.2.1
          have hB := hI.a f21
          have zw : b' < w2.heap.size := Nat.lt_of_lt_of_le znb hB.size
          have kc := (hB.cell (p := ⟨b', off' + j * 3 + 2, none⟩) znb).trans NQ2.out
          refine st_val (v := .int .i64 (hi : Nat)) (W1 := w2) rfl (by unfold rrAct; simp only [gx_true, d8]; go_simp) ?_
          refine ⟨q, v', ?_, hI.congr (up_ne _ _ (by decide)) (up_ne _ _ (by decide)) (up_ne _ _ (by decide))⟩
          unfold rrAct
          simp only [Act.put, List.setIfInBounds_toArray, List.set_cons_zero, List.set_cons_succ, hup, gx_true, up_ne 9 0 (by decide), up_ne 9 1 (by decide), up_ne 9 2 (by decide), up_ne 9 3 (by decide), up_ne 9 4 (by decide), up_ne 9 5 (by decide), up_ne 9 6 (by decide), up_ne 9 7 (by decide), up_ne 9 8 (by decide), up_ne 9 10 (by decide), up_ne 9 11 (by decide), up_ne 9 12 (by decide), up_ne 9 13 (by decide), up_ne 9 14 (by decide), up_ne 9 15 (by decide), up_ne 9 16 (by decide), up_ne 9 17 (by decide), up_ne 9 18 (by decide), up_ne 9 19 (by decide), up_ne 9 20 (by decide), up_ne 9 21 (by decide), up_ne 9 22 (by decide), up_ne 9 23 (by decide), up_ne 9 24 (by decide)]
        refine ⟨fun L a w2 hn hI => ?_, ?_⟩
        · obtain ⟨q, v', rfl, hI⟩ := hI
          have hup := getD_up hn.2.1
          have d3 : L.getD 3 false = true := hn.2.2.1 3 (by decide +kernel)
          have d9 : L.getD 9 false = true := hn.2.2.1 9 (by decide +kernel)
          refine st_val (v := .pointer (some ⟨g, hi, none⟩)) (W1 := w2) rfl (by unfold rrAct; simp only [gx_true, d3, d9]; go_simp) ?_
          refine ⟨q, v', ?_, hI.congr (up_ne _ _ (by decide)) (up_ne _ _ (by decide)) (up_ne _ _ (by decide))⟩
          unfold rrAct
          simp only [Act.put, List.setIfInBounds_toArray, List.set_cons_zero, List.set_cons_succ, hup, gx_true, up_ne 10 0 (by decide), up_ne 10 1 (by decide), up_ne 10 2 (by decide), up_ne 10 3 (by decide), up_ne 10 4 (by decide), up_ne 10 5 (by decide), up_ne 10 6 (by decide), up_ne 10 7 (by decide), up_ne 10 8 (by decide), up_ne 10 9 (by decide), up_ne 10 11 (by decide), up_ne 10 12 (by decide), up_ne 10 13 (by decide), up_ne 10 14 (by decide), up_ne 10 15 (by decide), up_ne 10 16 (by decide), up_ne 10 17 (by decide), up_ne 10 18 (by decide), up_ne 10 19 (by decide), up_ne 10 20 (by decide), up_ne 10 21 (by decide), up_ne 10 22 (by decide), up_ne 10 23 (by decide), up_ne 10 24 (by decide)]
        refine ⟨fun L a w2 hn hI => ?_, ?_⟩
        · obtain ⟨q, v', rfl, hI⟩ := hI
          have hup := getD_up hn.2.1
          have d10 : L.getD 10 false = true := hn.2.2.1 10 (by decide +kernel)
          have f21 := not_upA hn.2.2.2 (i := 21) (k := 11) (by decide +kernel) hn.2.1
          have hB := hI.a f21
          have zw : g < w2.heap.size := Nat.lt_of_lt_of_le zg hB.size
          have kc := (hB.cell (p := ⟨g, hi, none⟩) zg).trans HC1.out
          refine st_val (v := .int .i64 x1) (W1 := w2) rfl (by unfold rrAct; simp only [gx_true, d10]; go_simp) ?_
          refine ⟨q, v', ?_, hI.congr (up_ne _ _ (by decide)) (up_ne _ _ (by decide)) (up_ne _ _ (by decide))⟩
          unfold rrAct
          simp only [Act.put, List.setIfInBounds_toArray, List.set_cons_zero, List.set_cons_succ, hup, gx_true, up_ne 11 0 (by decide), up_ne 11 1 (by decide), up_ne 11 2 (by decide), up_ne 11 3 (by decide), up_ne 11 4 (by decide), up_ne 11 5 (by decide), up_ne 11 6 (by decide), up_ne 11 7 (by decide), up_ne 11 8 (by decide), up_ne 11 9 (by decide), up_ne 11 10 (by decide), up_ne 11 12 (by decide), up_ne 11 13 (by decide), up_ne 11 14 (by decide), up_ne 11 15 (by decide), up_ne 11 16 (by decide), up_ne 11 17 (by decide), up_ne 11 18 (by decide), up_ne 11 19 (by decide), up_ne 11 20 (by decide), up_ne 11 21 (by decide), up_ne 11 22 (by decide), up_ne 11 23 (by decide), up_ne 11 24 (by decide)]
        refine ⟨fun L a w2 hn hI => ?_, ?_⟩
        · obtain ⟨q, v', rfl, hI⟩ := hI
          have hup := getD_up hn.2.1
          have f24 := not_upA hn.2.2.2 (i := 24) (k := 12) (by decide +kernel) hn.2.1
          refine st_val (v := .slice (some ⟨g, 0, none⟩) all.length sc) (W1 := w2) rfl (by unfold rrAct; simp only [gx_true, f24, gx_false]; go_simp) ?_
          refine ⟨q, v', ?_, hI.congr (up_ne _ _ (by decide)) (up_ne _ _ (by decide)) (up_ne _ _ (by decide))⟩
          unfold rrAct
          simp only [Act.put, List.setIfInBounds_toArray, List.set_cons_zero, List.set_cons_succ, hup, gx_true, up_ne 12 0 (by decide), up_ne 12 1 (by decide), up_ne 12 2 (by decide), up_ne 12 3 (by decide), up_ne 12 4 (by decide), up_ne 12 5 (by decide), up_ne 12 6 (by decide), up_ne 12 7 (by decide), up_ne 12 8 (by decide), up_ne 12 9 (by decide), up_ne 12 10 (by decide), up_ne 12 11 (by decide), up_ne 12 13 (by decide), up_ne 12 14 (by decide), up_ne 12 15 (by decide), up_ne 12 16 (by decide), up_ne 12 17 (by decide), up_ne 12 18 (by decide), up_ne 12 19 (by decide), up_ne 12 20 (by decide), up_ne 12 21 (by decide), up_ne 12 22 (by decide), up_ne 12 23 (by decide), up_ne 12 24 (by decide)]
        refine ⟨fun L a w2 hn hI => ?_, ?_⟩
        · obtain ⟨q, v', rfl, hI⟩ := hI
          have hup := getD_up hn.2.1
          refine st_val (v := .pointer (some ⟨fb, 0, none⟩)) (W1 := w2) rfl (by unfold rrAct; simp only [gx_true]; go_simp) ?_
          refine ⟨q, v', ?_, hI.congr (up_ne _ _ (by decide)) (up_ne _ _ (by decide)) (up_ne _ _ (by decide))⟩
          unfold rrAct
          simp only [Act.put, List.setIfInBounds_toArray, List.set_cons_zero, List.set_cons_succ, hup, gx_true, up_ne 13 0 (by decide), up_ne 13 1 (by decide), up_ne 13 2 (by decide), up_ne 13 3 (by decide), up_ne 13 4 (by decide), up_ne 13 5 (by decide), up_ne 13 6 (by decide), up_ne 13 7 (by decide), up_ne 13 8 (by decide), up_ne 13 9 (by decide), up_ne 13 10 (by decide), up_ne 13 11 (by decide), up_ne 13 12 (by decide), up_ne 13 14 (by decide), up_ne 13 15 (by decide), up_ne 13 16 (by decide), up_ne 13 17 (by decide), up_ne 13 18 (by decide), up_ne 13 19 (by decide), up_ne 13 20 (by decide), up_ne 13 21 (by decide), up_ne 13 22 (by decide), up_ne 13 23 (by decide), up_ne 13 24 (by decide)]
        refine ⟨fun L a w2 hn hI => ?_, ?_⟩
        · obtain ⟨q, v', rfl, hI⟩ := hI
          have hup := getD_up hn.2.1
          have d13 : L.getD 13 false = true := hn.2.2.1 13 (by decide +kernel)
          have f21 := not_upA hn.2.2.2 (i := 21) (k := 14) (by decide +kernel) hn.2.1
          have hB := hI.a f21
          have zw : fb < w2.heap.size := Nat.lt_of_lt_of_le zfbZ hB.size
          have kc := (hB.cell (p := ⟨fb, 0, none⟩) zfbZ).trans FB0.out
          refine st_val (v := (.slice (some ⟨b', off', none⟩) ns.length d1)) (W1 := w2) rfl (by unfold rrAct; simp only [gx_true, d13]; go_simp) ?_
          refine ⟨q, v', ?_, hI.congr (up_ne _ _ (by decide)) (up_ne _ _ (by decide)) (up_ne _ _ (by decide))⟩
          unfold rrAct
          simp only [Act.put, List.setIfInBounds_toArray, List.set_cons_zero, List.set_cons_succ, hup, gx_true, up_ne 14 0 (by decide), up_ne 14 1 (by decide), up_ne 14 2 (by decide), up_ne 14 3 (by decide), up_ne 14 4 (by decide), up_ne 14 5 (by decide), up_ne 14 6 (by decide), up_ne 14 7 (by decide), up_ne 14 8 (by decide), up_ne 14 9 (by decide), up_ne 14 10 (by decide), up_ne 14 11 (by decide), up_ne 14 12 (by decide), up_ne 14 13 (by decide), up_ne 14 15 (by decide), up_ne 14 16 (by decide), up_ne 14 17 (by decide), up_ne 14 18 (by decide), up_ne 14 19 (by decide), up_ne 14 20 (by decide), up_ne 14 21 (by decide), up_ne 14 22 (by decide), up_ne 14 23 (by decide), up_ne 14 24 (by decide)]
        refine ⟨fun L a w2 hn hI => ?_, ?_⟩
        · obtain ⟨q, v', rfl, hI⟩ := hI
          have hup := getD_up hn.2.1
          refine st_val (v := .int .i64 (j : Nat)) (W1 := w2) rfl (by unfold rrAct; simp only [gx_true]; go_simp) ?_
          refine ⟨q, v', ?_, hI.congr (up_ne _ _ (by decide)) (up_ne _ _ (by decide)) (up_ne _ _ (by decide))⟩
          unfold rrAct
          simp only [Act.put, List.setIfInBounds_toArray, List.set_cons_zero, List.set_cons_succ, hup, gx_true, up_ne 15 0 (by decide), up_ne 15 1 (by decide), up_ne 15 2 (by decide), up_ne 15 3 (by decide), up_ne 15 4 (by decide), up_ne 15 5 (by decide), up_ne 15 6 (by decide), up_ne 15 7 (by decide), up_ne 15 8 (by decide), up_ne 15 9 (by decide), up_ne 15 10 (by decide), up_ne 15 11 (by decide), up_ne 15 12 (by decide), up_ne 15 13 (by decide), up_ne 15 14 (by decide), up_ne 15 16 (by decide), up_ne 15 17 (by decide), up_ne 15 18 (by decide), up_ne 15 19 (by decide), up_ne 15 20 (by decide), up_ne 15 21 (by decide), up_ne 15 22 (by decide), up_ne 15 23 (by decide), up_ne 15 24 (by decide)]
        refine ⟨fun L a w2 hn hI => ?_, ?_⟩
        · obtain ⟨q, v', rfl, hI⟩ := hI
          have hup := getD_up hn.2.1
          have d14 : L.getD 14 false = true := hn.2.2.1 14 (by decide +kernel)
          have d15 : L.getD 15 false = true := hn.2.2.1 15 (by decide +kernel)
          refine st_val (v := .pointer (some ⟨b', off' + j * 3, none⟩)) (W1 := w2) rfl (by unfold rrAct; simp only [gx_true, d14, d15]; go_simp) ?_
          refine ⟨q, v', ?_, hI.congr (up_ne _ _ (by decide)) (up_ne _ _ (by decide)) (up_ne _ _ (by decide))⟩
          unfold rrAct
          simp only [Act.put, List.setIfInBounds_toArray, List.set_cons_zero, List.set_cons_succ, hup, gx_true, up_ne 16 0 (by decide), up_ne 16 1 (by decide), up_ne 16 2 (by decide), up_ne 16 3 (by decide), up_ne 16 4 (by decide), up_ne 16 5 (by decide), up_ne 16 6 (by decide), up_ne 16 7 (by decide), up_ne 16 8 (by decide), up_ne 16 9 (by decide), up_ne 16 10 (by decide), up_ne 16 11 (by decide), up_ne 16 12 (by decide), up_ne 16 13 (by decide), up_ne 16 14 (by decide), up_ne 16 15 (by decide), up_ne 16 17 (by decide), up_ne 16 18 (by decide), up_ne 16 19 (by decide), up_ne 16 20 (by decide), up_ne 16 21 (by decide), up_ne 16 22 (by decide), up_ne 16 23 (by decide), up_ne 16 24 (by decide)]
        refine ⟨fun L a w2 hn hI => ?_, ?_⟩
        · obtain ⟨q, v', rfl, hI⟩ := hI
          have hup := getD_up hn.2.1
          have d16 : L.getD 16 false = true := hn.2.2.1 16 (by decide +kernel)
          refine st_val (v := .pointer (some ⟨b', off' + j * 3 + 1, none⟩)) (W1 := w2) rfl (by unfold rrAct; simp only [gx_true, d16]; go_simp) ?_
          refine ⟨q, v', ?_, hI.congr (up_ne _ _ (by decide)) (up_ne _ _ (by decide)) (up_ne _ _ (by decide))⟩
          unfold rrAct
          simp only [Act.put, List.setIfInBounds_toArray, List.set_cons_zero, List.set_cons_succ, hup, gx_true, up_ne 17 0 (by decide), up_ne 17 1 (by decide), up_ne 17 2 (by decide), up_ne 17 3 (by decide), up_ne 17 4 (by decide), up_ne 17 5 (by decide), up_ne 17 6 (by decide), up_ne 17 7 (by decide), up_ne 17 8 (by decide), up_ne 17 9 (by decide), up_ne 17 10 (by decide), up_ne 17 11 (by decide), up_ne 17 12 (by decide), up_ne 17 13 (by decide), up_ne 17 14 (by decide), up_ne 17 15 (by decide), up_ne 17 16 (by decide), up_ne 17 18 (by decide), up_ne 17 19 (by decide), up_ne 17 20 (by decide), up_ne 17 21 (by decide), up_ne 17 22 (by decide), up_ne 17 23 (by decide), up_ne 17 24 (by decide)]
        refine ⟨fun L a w2 hn hI => ?_, ?_⟩
        · obtain ⟨q, v', rfl, hI⟩ := hI
          have hup := getD_up hn.2.1
          have d17 : L.getD 17 false = true := hn.2.2.1 17 (by decide +kernel)
          have f21 := not_upA hn.2.2.2 (i := 21) (k := 18) (by decide +kernel) hn.2.1
          have hB := hI.a f21
          have zw : b' < w2.heap.size := Nat.lt_of_lt_of_le znb hB.size
          have kc := (hB.cell (p := ⟨b', off' + j * 3 + 1, none⟩) znb).trans NQ1.out
          refine st_val (v := .int .i64 (lw : Nat)) (W1 := w2) rfl (by unfold rrAct; simp only [gx_true, d17]; go_simp) ?_
          refine ⟨q, v', ?_, hI.congr (up_ne _ _ (by decide)) (up_ne _ _ (by decide)) (up_ne _ _ (by decide))⟩
          unfold rrAct
          simp only [Act.put, List.setIfInBounds_toArray, List.set_cons_zero, List.set_cons_succ, hup, gx_true, up_ne 18 0 (by decide), up_ne 18 1 (by decide), up_ne 18 2 (by decide), up_ne 18 3 (by decide), up_ne 18 4 (by decide), up_ne 18 5 (by decide), up_ne 18 6 (by decide), up_ne 18 7 (by decide), up_ne 18 8 (by decide), up_ne 18 9 (by decide), up_ne 18 10 (by decide), up_ne 18 11 (by decide), up_ne 18 12 (by decide), up_ne 18 13 (by decide), up_ne 18 14 (by decide), up_ne 18 15 (by decide), up_ne 18 16 (by decide), up_ne 18 17 (by decide), up_ne 18 19 (by decide), up_ne 18 20 (by decide), up_ne 18 21 (by decide), up_ne 18 22 (by decide), up_ne 18 23 (by decide), up_ne 18 24 (by decide)]
        refine ⟨fun L a w2 hn hI => ?_, ?_⟩
        · obtain ⟨q, v', rfl, hI⟩ := hI
          have hup := getD_up hn.2.1
          have d12 : L.getD 12 false = true := hn.2.2.1 12 (by decide +kernel)
          have d18 : L.getD 18 false = true := hn.2.2.1 18 (by decide +kernel)
          refine st_val (v := .pointer (some ⟨g, lw, none⟩)) (W1 := w2) rfl (by unfold rrAct; simp only [gx_true, d12, d18]; go_simp) ?_
          refine ⟨q, v', ?_, hI.congr (up_ne _ _ (by decide)) (up_ne _ _ (by decide)) (up_ne _ _ (by decide))⟩
          unfold rrAct
          simp only [Act.put, List.setIfInBounds_toArray, List.set_cons_zero, List.set_cons_succ, hup, gx_true, up_ne 19 0 (by decide), up_ne 19 1 (by decide), up_ne 19 2 (by decide), up_ne 19 3 (by decide), up_ne 19 4 (by decide), up_ne 19 5 (by decide), up_ne 19 6 (by decide), up_ne 19 7 (by decide), up_ne 19 8 (by decide), up_ne 19 9 (by decide), up_ne 19 10 (by decide), up_ne 19 11 (by decide), up_ne 19 12 (by decide), up_ne 19 13 (by decide), up_ne 19 14 (by decide), up_ne 19 15 (by decide), up_ne 19 16 (by decide), up_ne 19 17 (by decide), up_ne 19 18 (by decide), up_ne 19 20 (by decide), up_ne 19 21 (by decide), up_ne 19 22 (by decide), up_ne 19 23 (by decide), up_ne 19 24 (by decide)]
        refine ⟨fun L a w2 hn hI => ?_, ?_⟩
        · obtain ⟨q, v', rfl, hI⟩ := hI
          have hup := getD_up hn.2.1
          have d19 : L.getD 19 false = true := hn.2.2.1 19 (by decide +kernel)
          have f21 := not_upA hn.2.2.2 (i := 21) (k := 20) (by decide +kernel) hn.2.1
          have hB := hI.a f21
          have zw : g < w2.heap.size := Nat.lt_of_lt_of_le zg hB.size
          have kc := (hB.cell (p := ⟨g, lw, none⟩) zg).trans HC2.out
          refine st_val (v := .int .i64 x2) (W1 := w2) rfl (by unfold rrAct; simp only [gx_true, d19]; go_simp) ?_
          refine ⟨q, v', ?_, hI.congr (up_ne _ _ (by decide)) (up_ne _ _ (by decide)) (up_ne _ _ (by decide))⟩
          unfold rrAct
          simp only [Act.put, List.setIfInBounds_toArray, List.set_cons_zero, List.set_cons_succ, hup, gx_true, up_ne 20 0 (by decide), up_ne 20 1 (by decide), up_ne 20 2 (by decide), up_ne 20 3 (by decide), up_ne 20 4 (by decide), up_ne 20 5 (by decide), up_ne 20 6 (by decide), up_ne 20 7 (by decide), up_ne 20 8 (by decide), up_ne 20 9 (by decide), up_ne 20 10 (by decide), up_ne 20 11 (by decide), up_ne 20 12 (by decide), up_ne 20 13 (by decide), up_ne 20 14 (by decide), up_ne 20 15 (by decide), up_ne 20 16 (by decide), up_ne 20 17 (by decide), up_ne 20 18 (by decide), up_ne 20 19 (by decide), up_ne 20 21 (by decide), up_ne 20 22 (by decide), up_ne 20 23 (by decide), up_ne 20 24 (by decide)]
        refine ⟨fun L a w2 hn hI => ?_, ?_⟩
        · obtain ⟨q, v', rfl, hI⟩ := hI
          have hup := getD_up hn.2.1
          have d1 : L.getD 1 false = true := hn.2.2.1 1 (by decide +kernel)
          have d2 : L.getD 2 false = true := hn.2.2.1 2 (by decide +kernel)
          have d11 : L.getD 11 false = true := hn.2.2.1 11 (by decide +kernel)
          have d20 : L.getD 20 false = true := hn.2.2.1 20 (by decide +kernel)
          have f21 := getD_false_of hn.2.1
          have f22 := not_upA hn.2.2.2 (i := 22) (k := 21) (by decide +kernel) hn.2.1
          have f23 := not_upA hn.2.2.2 (i := 23) (k := 21) (by decide +kernel) hn.2.1
          refine st_call (f := 105) (args := #[.pointer (some ⟨q0, 0, none⟩), .int .i64 vv, .int .i64 x1, .int .i64 x2]) (W1 := w2) rfl (by unfold rrAct; simp only [gx_true, d1, d2, d11, d20]; first | (go_simp; done) | (go_simp; exact ⟨rfl, rfl⟩) | (go_simp; with_reducible rfl)) ((IC.out w2 (hI.a f21)).mono ?_)
          rintro e' w3 ⟨rfl, F2, hS2, st2⟩
          refine ⟨_, rfl, q, v', ?_, hI.ite f21 hup ((up_ne _ _ (by decide)).trans f22) ((up_ne _ _ (by decide)).trans f23) hS2 st2⟩
          unfold rrAct
          simp only [Act.put, List.setIfInBounds_toArray, List.set_cons_zero, List.set_cons_succ, hup, gx_true, up_ne 21 0 (by decide), up_ne 21 1 (by decide), up_ne 21 2 (by decide), up_ne 21 3 (by decide), up_ne 21 4 (by decide), up_ne 21 5 (by decide), up_ne 21 6 (by decide), up_ne 21 7 (by decide), up_ne 21 8 (by decide), up_ne 21 9 (by decide), up_ne 21 10 (by decide), up_ne 21 11 (by decide), up_ne 21 12 (by decide), up_ne 21 13 (by decide), up_ne 21 14 (by decide), up_ne 21 15 (by decide), up_ne 21 16 (by decide), up_ne 21 17 (by decide), up_ne 21 18 (by decide), up_ne 21 19 (by decide), up_ne 21 20 (by decide), up_ne 21 22 (by decide), up_ne 21 23 (by decide), up_ne 21 24 (by decide)]
        refine ⟨fun L a w2 hn hI => ?_, ?_⟩
        · obtain ⟨q, v', rfl, hI⟩ := hI
          have hup := getD_up hn.2.1
          have d21 : L.getD 21 false = true := hn.2.2.1 21 (by decide +kernel)
          have f22 := getD_false_of hn.2.1
          have f23 := not_upA hn.2.2.2 (i := 23) (k := 22) (by decide +kernel) hn.2.1
          have f24 := not_upA hn.2.2.2 (i := 24) (k := 22) (by decide +kernel) hn.2.1
          refine st_val (v := .slice (some ⟨w2.heap.size, 0, none⟩) 1 1) (W1 := w2.alloc (.cells #[.int .i64 R.2] 3)) rfl (by unfold rrAct; simp only [gx_true, d21]; go_simp) ?_
          refine ⟨w2.heap.size, v', ?_, hI.lit d21 f22 ((up_ne _ _ (by decide)).trans d21) hup ((up_ne _ _ (by decide)).trans f23)⟩
          unfold rrAct
          simp only [Act.put, List.setIfInBounds_toArray, List.set_cons_zero, List.set_cons_succ, hup, gx_true, f23, f24, gx_false, up_ne 22 0 (by decide), up_ne 22 1 (by decide), up_ne 22 2 (by decide), up_ne 22 3 (by decide), up_ne 22 4 (by decide), up_ne 22 5 (by decide), up_ne 22 6 (by decide), up_ne 22 7 (by decide), up_ne 22 8 (by decide), up_ne 22 9 (by decide), up_ne 22 10 (by decide), up_ne 22 11 (by decide), up_ne 22 12 (by decide), up_ne 22 13 (by decide), up_ne 22 14 (by decide), up_ne 22 15 (by decide), up_ne 22 16 (by decide), up_ne 22 17 (by decide), up_ne 22 18 (by decide), up_ne 22 19 (by decide), up_ne 22 20 (by decide), up_ne 22 21 (by decide), up_ne 22 23 (by decide), up_ne 22 24 (by decide)]
        refine ⟨fun L a w2 hn hI => ?_, ?_⟩
        · obtain ⟨q, v', rfl, hI⟩ := hI
          have hup := getD_up hn.2.1
          have d0 : L.getD 0 false = true := hn.2.2.1 0 (by decide +kernel)
          have d22 : L.getD 22 false = true := hn.2.2.1 22 (by decide +kernel)
          have f23 := getD_false_of hn.2.1
          have f24 := not_upA hn.2.2.2 (i := 24) (k := 23) (by decide +kernel) hn.2.1
          obtain ⟨v2, w3, G2, r1, r2, -⟩ := hI.app HROW.out HGF.out (by omega) d22 f23
          refine st_val (v := v2) (W1 := w3) rfl (by unfold rrAct; simp only [gx_true, d0, d22]; exact run_append_op _ _ _ _ _ _ _ _ _ r1) ?_
          refine ⟨q, v2, ?_, hI.fin hup ((up_ne _ _ (by decide)).trans (hn.2.2.1 21 (by decide +kernel))) ((up_ne _ _ (by decide)).trans d22) r2⟩
          unfold rrAct
          simp only [Act.put, List.setIfInBounds_toArray, List.set_cons_zero, List.set_cons_succ, hup, gx_true, f24, gx_false, up_ne 23 0 (by decide), up_ne 23 1 (by decide), up_ne 23 2 (by decide), up_ne 23 3 (by decide), up_ne 23 4 (by decide), up_ne 23 5 (by decide), up_ne 23 6 (by decide), up_ne 23 7 (by decide), up_ne 23 8 (by decide), up_ne 23 9 (by decide), up_ne 23 10 (by decide), up_ne 23 11 (by decide), up_ne 23 12 (by decide), up_ne 23 13 (by decide), up_ne 23 14 (by decide), up_ne 23 15 (by decide), up_ne 23 16 (by decide), up_ne 23 17 (by decide), up_ne 23 18 (by decide), up_ne 23 19 (by decide), up_ne 23 20 (by decide), up_ne 23 21 (by decide), up_ne 23 22 (by decide), up_ne 23 24 (by decide)]
        refine ⟨fun L a w2 hn hI => ?_, ?_⟩
        · obtain ⟨q, v', rfl, hI⟩ := hI
          have hup := getD_up hn.2.1
          have d23 : L.getD 23 false = true := hn.2.2.1 23 (by decide +kernel)
          refine st_val (v := v') (W1 := w2) rfl (by unfold rrAct; simp only [gx_true, d23]; go_simp) ?_
          refine ⟨q, v', ?_, hI.congr (up_ne _ _ (by decide)) (up_ne _ _ (by decide)) (up_ne _ _ (by decide))⟩
          unfold rrAct
          simp only [Act.put, List.setIfInBounds_toArray, List.set_cons_zero, List.set_cons_succ, hup, gx_true, up_ne 24 0 (by decide), up_ne 24 1 (by decide), up_ne 24 2 (by decide), up_ne 24 3 (by decide), up_ne 24 4 (by decide), up_ne 24 5 (by decide), up_ne 24 6 (by decide), up_ne 24 7 (by decide), up_ne 24 8 (by decide), up_ne 24 9 (by decide), up_ne 24 10 (by decide), up_ne 24 11 (by decide), up_ne 24 12 (by decide), up_ne 24 13 (by decide), up_ne 24 14 (by decide), up_ne 24 15 (by decide), up_ne 24 16 (by decide), up_ne 24 17 (by decide), up_ne 24 18 (by decide), up_ne 24 19 (by decide), up_ne 24 20 (by decide), up_ne 24 21 (by decide), up_ne 24 22 (by decide), up_ne 24 23 (by decide)]
        trivial
        -- END GENERATED
      · obtain rfl : j = ns.length := by omega
        have HRES := hid (show loadN S [0, 1] ns = (S1, all) by have h := HLD.out; rw [List.drop_length, loadN] at h; exact h.symm)
        have hP := HP.out
        rw [HRES.out] at hP
        simp only at hP
        obtain ⟨_, _, y0, _, _, y2, _⟩ := HS1.out.cells
        have HSW := hid (StoStep.off HST.out HBX.out KS.out.2.2 (fun k hk => HS1.out.lt k hk))
        cases hfu : S1.full
        · rw [if_neg (by rw [hfu]; simp)] at hP
          have y2' : wr.cell? ⟨q0, 2, none⟩ = some (.bool false) := by rw [y2]; show some (Value.bool S1.full) = _; rw [hfu]
          have HP2 := hid hP
          clear hP hfu y2
          have k2 := BW.out.cell 2
          simp only [List.getElem?_cons_zero, List.getElem?_cons_succ] at k2
          have HLC0 := hid (show all.length = ns.length + 2 from HAL.out)
          have hr64 : rs.length ≤ 64 := HNS.out.2.2.2
          obtain ⟨ws, hws⟩ : ∃ w, w = wr := ⟨_, rfl⟩
          subst hws
          go_wp2_with fail
          go_loopw [13, 14] (fun ov iv wv => ∃ (j : Nat) (G2 : Option Nat), j ≤ rs.length ∧ iv = .int .i64 j ∧ RowIs wv ov G2 3 1 ((rs.take j).map (fun r => all.getD r.toNat 0)).length (ints ((rs.take j).map (fun r => all.getD r.toNat 0))) ∧ (∀ g, G2 = some g → ws.heap.size ≤ g) ∧ Below ws.heap.size ws wv) (fun _ iv _ => rs.length - (intOf iv).toNat)
          case atStart => exact ⟨0, none, by omega, rfl, ⟨rfl, .inl ⟨rfl, rfl, rfl⟩⟩, fun g hg => (by cases hg), by (repeat' (first | (with_reducible exact Below.refl _ _) | (with_reducible refine Below.ext_mk ?_ ?_ _ _) | (with_reducible refine Below.alloc ?_ ?_ _) | (with_reducible refine Below.drew ?_) | (with_reducible refine Below.setCell ?_ ?_ _) | go_size))⟩
          case round =>
            obtain ⟨j, G2, hj, rfl, hrow, hGb, hb⟩ := hrel
            have c2 := (hb.cell (p := ⟨fb, 2, none⟩) kz).trans k2
            have zc : fb < wr.heap.size := Nat.lt_of_lt_of_le kz hb.size
            have HROW2 := hid hrow
            have HGB2 := hid hGb
            have HB2 := hid hb
            by_cases hlt : j < rs.length
            · have hj1 : (j : Int) < (rs.length : Int) := by omega
              have hj0 : (0 : Int) ≤ (j : Int) := by omega
              have rr0 := RowIs.keep G3X.out (w' := ws) (fun k hk => HST.out.block k (RowIs.lt G3X.out k hk) (KS.out.1 k (.inr (.inr hk))).2)
              obtain ⟨b3, off3, rfl, hb3, q4⟩ := Rd.intAt ((RowIs.rd rr0).below hb) hlt
              obtain ⟨a0, a1'⟩ := HNS.out.2.1 rs[j] (List.getElem_mem _)
              have TK := hid (show (rs.take (j + 1)).map (fun r => all.getD r.toNat 0) = (rs.take j).map (fun r => all.getD r.toNat 0) ++ [all.getD (rs[j]).toNat 0] by
                rw [List.take_add_one, List.getElem?_eq_getElem hlt, List.map_append]; rfl)
              have HLT := hid hlt
              generalize rs[j] = r at *
              obtain ⟨r, rfl⟩ : ∃ v : Nat, r = v := ⟨r.toNat, by omega⟩
              rw [Int.toNat_natCast] at TK
              have lr : r < all.length := by have := HLC0.out; omega
              have lr1 : (r : Int) < (all.length : Int) := by omega
              have lr0 : (0 : Int) ≤ (r : Int) := by omega
              obtain ⟨x1, hx1⟩ : ∃ x, x = all.getD r 0 := ⟨_, rfl⟩
              have qc0 : ws.cell? ⟨g, r, none⟩ = some (.int .i64 x1) := by
                obtain ⟨g', cap', e1, e2, e3, _⟩ := HR1.out.at lr (j := 0) (by omega)
                cases e2
                simp only [Nat.mul_one, Nat.add_zero] at e3
                rw [e3, hx1]; simp [ints, List.getD_eq_getElem?_getD, lr]
              have qz0 := RowIs.lt HR1.out g rfl
              have qc := (hb.cell (p := ⟨g, r, none⟩) qz0).trans qc0
              have qz : g < wr.heap.size := Nat.lt_of_lt_of_le qz0 hb.size
              rw [← hx1] at TK
              have hln : ((rs.take j).map (fun r => all.getD r.toNat 0)).length = j := by simp; omega
              obtain ⟨v', W3, G', p1, p2, p3, p4⟩ := grow_int HROW2.out HGB2.out HB2.out.size (by omega) x1
              rw [← TK.out] at p2
              have P1 := hid p1
              have P2 := hid (And.intro p2 (And.intro p3 (HB2.out.trans p4)))
              clear p1 p2 p3 p4 hrow hGb hb rr0 hx1 lr qc0 qz0 a0 a1'
              go_upto_region 28 with (fail)
              refine wp_region_doc (fun F' hF => ?_)
              have HF := hid hF
              clear hF
              iterate 10 (refine doc_val rfl (by first | (go_simp; done) | (go_simp; exact ⟨rfl, rfl⟩) | (go_simp; with_reducible rfl)) ?_; simp only [Act.put, List.setIfInBounds_toArray, List.set_cons_zero, List.set_cons_succ])
              refine doc_val rfl (run_append_op _ _ _ _ _ _ _ _ _ P1.out) ?_
              simp only [Act.put, List.setIfInBounds_toArray, List.set_cons_zero, List.set_cons_succ]
              refine doc_val rfl (by first | (go_simp; done) | (go_simp; exact ⟨rfl, rfl⟩) | (go_simp; with_reducible rfl)) ?_
              simp only [Act.put, List.setIfInBounds_toArray, List.set_cons_zero, List.set_cons_succ]
              refine doc_end (HF.out _ _ ?_)
              clear HF F' P1 q4 qc qz hb3
              go_wp2_with fail
              go_roundw
              case rel => exact ⟨j + 1, some G', by have := HLT.out; omega, by go_num, P2.out.1, fun k hk => by cases hk; exact P2.out.2.1, P2.out.2.2⟩
              case measure => have := HLT.out; simp [intOf]; omega
            · obtain rfl : j = rs.length := by omega
              have hP := HP2.out
              have HO := hid (show ∀ k, G2 = some k → w.heap.size ≤ k ∧ k ∉ F1 from fun k hk => by
                have h1 := HGB2.out k hk
                have h2 := HSW.out.size
                exact ⟨by omega, fun hm => by have := HS1.out.lt k hm; omega⟩)
              have HRW2 := hid (show RowIs wr _ G2 3 1 (rs.map (fun r => all.getD r.toNat 0)).length (ints (rs.map (fun r => all.getD r.toNat 0))) by
                have h := HROW2.out; rw [List.take_length] at h; exact h)
              subst hP
              clear hrow hGb hb
              go_wp2_with fail
              go_returns
              exact ⟨_, G2, F1, rfl, HRW2.out, HO.out, HS1.out.below HB2.out, HSW.out.trans (StoStep.of_below HB2.out)⟩
        · rw [if_pos hfu] at hP
          have y2' : wr.cell? ⟨q0, 2, none⟩ = some (.bool true) := by rw [y2]; show some (Value.bool S1.full) = _; rw [hfu]
          subst hP
          clear hfu y2
          go_wp2
          go_returns
          exact ⟨_, none, F1, rfl, ⟨rfl, .inl ⟨rfl, rfl, rfl⟩⟩, fun g hg => (by cases hg), HS1.out, HSW.out⟩
  -- GENERATED GEN14
  refine ⟨fun L a w2 hn hI => ?_, ?_⟩
  · obtain ⟨v1, v2, rfl, hI⟩ := hI
    have hup := getD_up hn.2.1
    refine st_val (v := .pointer (some ⟨tb, 0, none⟩)) (W1 := w2) rfl (by unfold orAct; simp only [gx_true]; go_simp) ?_
    refine ⟨v1, v2, ?_, hI.congr (up_ne _ _ (by decide)) (up_ne _ _ (by decide))⟩
    unfold orAct
    simp only [Act.put, List.setIfInBounds_toArray, List.set_cons_zero, List.set_cons_succ, hup, gx_true, up_ne 0 1 (by decide), up_ne 0 2 (by decide), up_ne 0 3 (by decide), up_ne 0 4 (by decide), up_ne 0 5 (by decide), up_ne 0 6 (by decide), up_ne 0 7 (by decide), up_ne 0 8 (by decide)]
  refine ⟨fun L a w2 hn hI => ?_, ?_⟩
  · obtain ⟨v1, v2, rfl, hI⟩ := hI
    have hup := getD_up hn.2.1
    refine st_val (v := .pointer (some ⟨fb, 2, none⟩)) (W1 := w2) rfl (by unfold orAct; simp only [gx_true]; go_simp) ?_
    refine ⟨v1, v2, ?_, hI.congr (up_ne _ _ (by decide)) (up_ne _ _ (by decide))⟩
    unfold orAct
    simp only [Act.put, List.setIfInBounds_toArray, List.set_cons_zero, List.set_cons_succ, hup, gx_true, up_ne 1 0 (by decide), up_ne 1 2 (by decide), up_ne 1 3 (by decide), up_ne 1 4 (by decide), up_ne 1 5 (by decide), up_ne 1 6 (by decide), up_ne 1 7 (by decide), up_ne 1 8 (by decide)]
  refine ⟨fun L a w2 hn hI => ?_, ?_⟩
  · obtain ⟨v1, v2, rfl, hI⟩ := hI
    have hup := getD_up hn.2.1
    have d1 : L.getD 1 false = true := hn.2.2.1 1 (by decide +kernel)
    have kc := (hI.lo.cell (p := ⟨fb, 2, none⟩) zfbZ).trans FB2.out
    have zw : fb < w2.heap.size := Nat.lt_of_lt_of_le zfbZ hI.lo.size
    refine st_val (v := .slice a3 rs.length d3) (W1 := w2) rfl (by unfold orAct; simp only [gx_true, d1]; go_simp) ?_
    refine ⟨v1, v2, ?_, hI.congr (up_ne _ _ (by decide)) (up_ne _ _ (by decide))⟩
    unfold orAct
    simp only [Act.put, List.setIfInBounds_toArray, List.set_cons_zero, List.set_cons_succ, hup, gx_true, up_ne 2 0 (by decide), up_ne 2 1 (by decide), up_ne 2 3 (by decide), up_ne 2 4 (by decide), up_ne 2 5 (by decide), up_ne 2 6 (by decide), up_ne 2 7 (by decide), up_ne 2 8 (by decide)]
  refine ⟨fun L a w2 hn hI => ?_, ?_⟩
  · obtain ⟨v1, v2, rfl, hI⟩ := hI
    have hup := getD_up hn.2.1
    have d0 : L.getD 0 false = true := hn.2.2.1 0 (by decide +kernel)
    have d2 : L.getD 2 false = true := hn.2.2.1 2 (by decide +kernel)
    have f4 := not_upA hn.2.2.2 (i := 4) (k := 3) (by decide +kernel) hn.2.1
    refine st_call (f := 130) (args := #[.pointer (some ⟨tb, 0, none⟩), .slice a3 rs.length d3]) (W1 := w2) rfl (by unfold orAct; simp only [gx_true, d0, d2]; first | (go_simp; done) | (go_simp; exact ⟨rfl, rfl⟩) | (go_simp; with_reducible rfl)) ((ORD.out w2 hI.lo).mono ?_)
    rintro e' w3 ⟨fv, rfl, hx, hb3⟩
    refine ⟨_, rfl, fv, v2, ?_, hI.one ((up_ne _ _ (by decide)).trans f4) hx hb3⟩
    unfold orAct
    simp only [Act.put, List.setIfInBounds_toArray, List.set_cons_zero, List.set_cons_succ, hup, gx_true, f4, gx_false, up_ne 3 0 (by decide), up_ne 3 1 (by decide), up_ne 3 2 (by decide), up_ne 3 4 (by decide), up_ne 3 5 (by decide), up_ne 3 6 (by decide), up_ne 3 7 (by decide), up_ne 3 8 (by decide)]
  refine ⟨fun L a w2 hn hI => ?_, ?_⟩
  · obtain ⟨v1, v2, rfl, hI⟩ := hI
    have hup := getD_up hn.2.1
    have d3 : L.getD 3 false = true := hn.2.2.1 3 (by decide +kernel)
    have f5 := not_upA hn.2.2.2 (i := 5) (k := 4) (by decide +kernel) hn.2.1
    have CC := BYT.out w2 v1 (hI.c d3)
    refine st_call (f := 129) (args := #[v1]) (W1 := w2) rfl (by unfold orAct; simp only [gx_true, d3]; first | (go_simp; done) | (go_simp; exact ⟨rfl, rfl⟩) | (go_simp; with_reducible rfl)) (CC.mono ?_)
    rintro e' w3 ⟨x', rfl, hx, hb3⟩
    refine ⟨_, rfl, v1, x', ?_, hI.two d3 hx hb3⟩
    unfold orAct
    simp only [Act.put, List.setIfInBounds_toArray, List.set_cons_zero, List.set_cons_succ, hup, gx_true, d3, up_ne 4 0 (by decide), up_ne 4 1 (by decide), up_ne 4 2 (by decide), up_ne 4 3 (by decide), up_ne 4 5 (by decide), up_ne 4 6 (by decide), up_ne 4 7 (by decide), up_ne 4 8 (by decide)]
  refine ⟨fun L a w2 hn hI => ?_, ?_⟩
  · obtain ⟨v1, v2, rfl, hI⟩ := hI
    have hup := getD_up hn.2.1
    have d4 : L.getD 4 false = true := hn.2.2.1 4 (by decide +kernel)
    have sx := str_any (hI.d d4).rd
    rw [STB.out] at sx
    refine st_val (v := .string s1) (W1 := w2) rfl (by unfold orAct; simp only [gx_true, d4]; go_simp) ?_
    refine ⟨v1, v2, ?_, hI.congr (up_ne _ _ (by decide)) (up_ne _ _ (by decide))⟩
    unfold orAct
    simp only [Act.put, List.setIfInBounds_toArray, List.set_cons_zero, List.set_cons_succ, hup, gx_true, up_ne 5 0 (by decide), up_ne 5 1 (by decide), up_ne 5 2 (by decide), up_ne 5 3 (by decide), up_ne 5 4 (by decide), up_ne 5 6 (by decide), up_ne 5 7 (by decide), up_ne 5 8 (by decide)]
  refine ⟨fun L a w2 hn hI => ?_, ?_⟩
  · obtain ⟨v1, v2, rfl, hI⟩ := hI
    have hup := getD_up hn.2.1
    refine st_val (v := .slice (some ⟨lb, lo, none⟩) l.length lc) (W1 := w2) rfl (by unfold orAct; simp only [gx_true]; go_simp) ?_
    refine ⟨v1, v2, ?_, hI.congr (up_ne _ _ (by decide)) (up_ne _ _ (by decide))⟩
    unfold orAct
    simp only [Act.put, List.setIfInBounds_toArray, List.set_cons_zero, List.set_cons_succ, hup, gx_true, up_ne 6 0 (by decide), up_ne 6 1 (by decide), up_ne 6 2 (by decide), up_ne 6 3 (by decide), up_ne 6 4 (by decide), up_ne 6 5 (by decide), up_ne 6 7 (by decide), up_ne 6 8 (by decide)]
  refine ⟨fun L a w2 hn hI => ?_, ?_⟩
  · obtain ⟨v1, v2, rfl, hI⟩ := hI
    have hup := getD_up hn.2.1
    have d6 : L.getD 6 false = true := hn.2.2.1 6 (by decide +kernel)
    have sx := str_any (HLZ.out.below hI.lo)
    rw [STL.out] at sx
    refine st_val (v := .string s2) (W1 := w2) rfl (by unfold orAct; simp only [gx_true, d6]; go_simp) ?_
    refine ⟨v1, v2, ?_, hI.congr (up_ne _ _ (by decide)) (up_ne _ _ (by decide))⟩
    unfold orAct
    simp only [Act.put, List.setIfInBounds_toArray, List.set_cons_zero, List.set_cons_succ, hup, gx_true, up_ne 7 0 (by decide), up_ne 7 1 (by decide), up_ne 7 2 (by decide), up_ne 7 3 (by decide), up_ne 7 4 (by decide), up_ne 7 5 (by decide), up_ne 7 6 (by decide), up_ne 7 8 (by decide)]
  refine ⟨fun L a w2 hn hI => ?_, ?_⟩
  · obtain ⟨v1, v2, rfl, hI⟩ := hI
    have hup := getD_up hn.2.1
    have d5 : L.getD 5 false = true := hn.2.2.1 5 (by decide +kernel)
    have d7 : L.getD 7 false = true := hn.2.2.1 7 (by decide +kernel)
    have sx := M8.out
    refine st_val (v := .bool dd) (W1 := w2) rfl (by unfold orAct; simp only [gx_true, d5, d7]; go_simp) ?_
    refine ⟨v1, v2, ?_, hI.congr (up_ne _ _ (by decide)) (up_ne _ _ (by decide))⟩
    unfold orAct
    simp only [Act.put, List.setIfInBounds_toArray, List.set_cons_zero, List.set_cons_succ, hup, gx_true, up_ne 8 0 (by decide), up_ne 8 1 (by decide), up_ne 8 2 (by decide), up_ne 8 3 (by decide), up_ne 8 4 (by decide), up_ne 8 5 (by decide), up_ne 8 6 (by decide), up_ne 8 7 (by decide)]
  trivial
  -- END GENERATED
end
end Go.Proofs.Ytboekafmplomhaa
