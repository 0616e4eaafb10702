/-
  QuantMeans answers true: the walk.
-/
import Derived.Test.YtboekafmplomhaaZQMeansD
import Derived.Test.YtboekafmplomhaaZMade31
set_option linter.unusedVariables false
set_option linter.unusedSimpArgs false
namespace Go.Proofs.Ytboekafmplomhaa
open Go.RowKit

/-- The four diagrams, and what they mean in the store behind. -/
structure QmLaw (S : Sto) (n : Nat) (a b d1 d2 d3 d4 : Int) (x y : Nat) : Prop where
  liv : Liv S n
  ha : S.has a
  hb : S.has b
  h1 : S.has d1
  h2 : S.has d2
  h3 : S.has d3
  h4 : S.has d4
  e1 : ∀ β, ev S β d1 = (ev S (setb β x false) a || ev S (setb β x true) a)
  e2 : ∀ β, ev S β d2 = (ev S (setb β x false) a && ev S (setb β x true) a)
  e3 : ∀ β, ev S β d3 = ev S (setb β x (ev S β b)) a
  e4 : ∀ β, ev S β d4 = ev S (swapb β x y) a
theorem qm_law {S : Sto} {n : Nat} {a b : Int} {x y : Nat} (L : Liv S n) (hn : n + 5120 ≤ 1000000) (ha : S.has a) (hb : S.has b) (hx : x < 8) (hy : y < 8) {R1 R2 R3 R4 : Sto × Int}
    (q1 : bindV orV S a [(x : Int)] = R1) (q2 : bindV andV R1.1 a [(x : Int)] = R2) (q3 : composeV R2.1 a x b = R3) (q4 : swapV R3.1 a x y = R4) : QmLaw R4.1 (n + 5120) a b R1.2 R2.2 R3.2 R4.2 x y := by
  have E1 := exists_res L (by omega) ha x hx
  rw [q1] at E1
  have E2 := forall_res E1.liv (by omega) (E1.grows.has ha) x hx
  rw [q2] at E2
  have G12 := E1.grows.trans E2.grows
  have E3 := compose_res E2.liv (by omega) (G12.has ha) (G12.has hb) x hx
  rw [q3] at E3
  have G13 := G12.trans E3.grows
  have E4 := swap_res E3.liv (by omega) (G13.has ha) x y hx hy
  rw [q4] at E4
  have G14 := G13.trans E4.grows
  have G24 := (E2.grows.trans E3.grows).trans E4.grows
  have G34 := E3.grows.trans E4.grows
  have oa : ∀ β, ev R4.1 β a = ev S β a := fun β => ev_grows L.wf G14 β ha
  have ob : ∀ β, ev R4.1 β b = ev S β b := fun β => ev_grows L.wf G14 β hb
  refine ⟨⟨E4.liv.wf, E4.liv.sated, E4.liv.below, E4.liv.cap, by have := E4.liv.count; omega⟩, G14.has ha, G14.has hb, G24.has E1.has, G34.has E2.has, E4.grows.has E3.has, E4.has, fun β => ?_, fun β => ?_, fun β => ?_, fun β => ?_⟩
  · rw [ev_grows E1.liv.wf G24 β E1.has, E1.val, oa, oa]
  · rw [ev_grows E2.liv.wf G34 β E2.has, E2.val, oa, oa, ev_grows L.wf E1.grows _ ha, ev_grows L.wf E1.grows _ ha]
  · rw [ev_grows E3.liv.wf E4.grows β E3.has, E3.val, oa, ob, ev_grows L.wf G12 _ ha, ev_grows L.wf G12 _ hb]
  · rw [E4.val, oa, ev_grows L.wf G13 _ ha]
theorem Held.sto_below {B : Nat} {w : World} {p : Nat} {F : List Nat} {S : Sto} {sv : Value} {G : Option Nat} {all : List Int} (h : Held B w p F S sv G all) {w' : World} {F' : List Nat} (st : StoStep w w' F F') (hB : B ≤ w.heap.size) : Below B w w' := st.below h.from_ hB
theorem told8_any {w : World} {gb kb : Nat} {l : List Bool} (h : BitsAre w (.slice (some ⟨gb, 0, none⟩) 8 8) l) (h8 : l.length = 8) (hk : kb < w.heap.size) (ck : w.cell? ⟨kb, 0, none⟩ = some (.slice (some ⟨gb, 0, none⟩) 8 8)) (i : Nat) (hi : i < 8) (on : Bool) :
    Calls Try.prog 62 #[.int .i64 (i : Int), .bool on, .pointer (some ⟨kb, 0, none⟩)] w
      (fun e w' => ∃ (g c : Nat), e = .returned (.slice (some ⟨g, 0, none⟩) 8 c) ∧ BitsAre w' (.slice (some ⟨g, 0, none⟩) 8 c) (l.set i on) ∧ Below w.heap.size w w') := by
  refine (told_any h (by omega) hk ck i (by omega) on).mono ?_
  rintro e w' ⟨g, c, rfl, hR, _, hb⟩
  have q : (l.set i on).length = 8 := by simp [h8]
  rw [q] at hR ⊢
  refine ⟨g, c, rfl, ?_, hb⟩
  rw [← q] at hR ⊢
  exact RowIs.bits hR (by omega)
theorem clone8_any {w : World} {gb : Nat} {l : List Bool} (h : BitsAre w (.slice (some ⟨gb, 0, none⟩) 8 8) l) (h8 : l.length = 8) :
    Calls Try.prog 63 #[.slice (some ⟨gb, 0, none⟩) 8 8] w
      (fun e w' => ∃ (g c : Nat), e = .returned (.slice (some ⟨g, 0, none⟩) 8 c) ∧ RowIs w' (.slice (some ⟨g, 0, none⟩) 8 c) (some g) 4 1 8 (bools l) ∧ w.heap.size ≤ g ∧ Below w.heap.size w w') := by
  refine (cloneb_any h (by omega) (by omega)).mono ?_
  rintro e w' ⟨g, c, rfl, hR, hg, hb⟩
  rw [h8] at hR ⊢
  exact ⟨g, c, rfl, hR, hg, hb⟩

theorem impl_step {S : Sto} {a b : Int} {n : Nat} {t va vb : Bool} (h : t = true ↔ ∀ k, k < n → (ev S (bitsOf k) a = true → ev S (bitsOf k) b = true)) (ha : ev S (bitsOf n) a = va) (hb : ev S (bitsOf n) b = vb) :
    (t && (!va || vb)) = true ↔ ∀ k, k < n + 1 → (ev S (bitsOf k) a = true → ev S (bitsOf k) b = true) := by
  rw [Bool.and_eq_true, h]
  constructor
  · rintro ⟨h1, h2⟩ k hk hka
    by_cases e : k = n
    · subst e
      rw [ha] at hka
      rw [hb]
      subst hka
      simpa using h2
    · exact h1 k (by omega) hka
  · intro h1
    refine ⟨fun k hk => h1 k (by omega), ?_⟩
    have := h1 n (by omega)
    rw [ha, hb] at this
    cases va
    · rfl
    · rw [this rfl]; rfl
set_option maxRecDepth 100000 in
set_option maxHeartbeats 16000000 in
theorem quantMeans_any {w : World} {sv0 : Value} {l : List Int} (hl0 : Rd w 1 sv0 (ints l)) (hI : ∀ x ∈ l, -9223372036854775808 ≤ x ∧ x ≤ 9223372036854775807) (u v : Int) (hu : 0 ≤ u ∧ u ≤ 255) (hv : 0 ≤ v ∧ v ≤ 255) :
    Calls Try.prog 10 #[sv0, .int .u8 u, .int .u8 v] w (Pure (.bool true) w) := by
  obtain ⟨un, rfl⟩ : ∃ n : Nat, u = n := ⟨u.toNat, by omega⟩
  obtain ⟨vn, rfl⟩ : ∃ n : Nat, v = n := ⟨v.toNat, by omega⟩
  have MA := made31_any (cap := 1048576) (by omega) (by omega) hl0 hI
  obtain ⟨MO, ML⟩ := madeV_ok (cap := 1048576) (by omega) (by omega) l
  have MC : (madeV 1048576 l).1.cap = 1048576 := madeV_cap' (by omega) (by omega) l
  obtain ⟨la, lc, rfl, _, _⟩ := hl0.len
  unfold MadeAt31 at MA
  generalize madeV 1048576 l = R0 at *
  obtain ⟨S0, all⟩ := R0
  simp only at MO ML MC
  clear hl0 hI
  go_enter Try.func10, Try.ntmps10
  go_upto_region 4 with (go_at_call 44; refine MA.mono ?_; rintro e w1 ⟨p, F, sv, G, rfl, hH, hb1⟩; obtain ⟨sa, sc, rfl, _⟩ := RowIs.form hH.row)
  have hws := hb1.size
  obtain ⟨x, hx⟩ : ∃ x, x = un % 8 := ⟨_, rfl⟩
  obtain ⟨y, hy⟩ : ∃ y, y = vn % 8 := ⟨_, rfl⟩
  have hx8 : x < 8 := by omega
  have hy8 : y < 8 := by omega
  have ex1 : (un : Int).tmod 8 = (x : Int) := by rw [Int.tmod_eq_emod_of_nonneg (by omega)]; omega
  have ey1 : (vn : Int).tmod 8 = (y : Int) := by rw [Int.tmod_eq_emod_of_nonneg (by omega)]; omega
  have ex2 : IntKind.u8.wrap (x : Int) = (x : Int) := IntWalk.u8_in _ (by omega)
  have ey2 : IntKind.u8.wrap (y : Int) = (y : Int) := IntWalk.u8_in _ (by omega)
  have ex3 : IntKind.i64.wrap (x : Int) = (x : Int) := IntWalk.i64_in _ (by omega)
  have ey3 : IntKind.i64.wrap (y : Int) = (y : Int) := IntWalk.i64_in _ (by omega)
  clear hx hy hu hv
  have hlm : all.length ≤ 9223372036854775807 := by have := RowIs.form hH.row; obtain ⟨_, _, _, h⟩ := this; unfold maxLen at h; omega
  have rowc : ∀ c, c < all.length → ∃ g, sa = some ⟨g, 0, none⟩ ∧ g < w1.heap.size ∧ w1.cell? ⟨g, c, none⟩ = some (.int .i64 (all.getD c 0)) := fun c hc => by
    obtain ⟨g', cap', e1, e2, e3, e4⟩ := RowIs.one hH.row (i := c) (u := .int .i64 (all.getD c 0)) (by simp [ints, List.getD_eq_getElem?_getD, hc])
    injection e1 with e1
    exact ⟨g', e1, e3, e4⟩
  obtain ⟨m1, hm1⟩ : ∃ m, m = all.length - 1 := ⟨_, rfl⟩
  obtain ⟨m2, hm2⟩ : ∃ m, m = all.length / 2 := ⟨_, rfl⟩
  obtain ⟨ga, rfl, zga, ca⟩ := rowc m1 (by omega)
  obtain ⟨_, eg, _, cb⟩ := rowc m2 (by omega)
  cases eg
  have wm1 : IntKind.i64.wrap ((all.length : Int) - 1) = (m1 : Int) := by rw [IntWalk.i64_in _ (by omega)]; omega
  have wm2 : (all.length : Int).tdiv 2 = (m2 : Int) := by rw [Int.tdiv_eq_ediv_of_nonneg (by omega)]; omega
  have wm3 : IntKind.i64.wrap (m2 : Int) = (m2 : Int) := IntWalk.i64_in _ (by omega)
  have l1 : (m1 : Int) < (all.length : Int) := by omega
  have l2 : (m2 : Int) < (all.length : Int) := by omega
  have hma : all.getD m1 0 ∈ all := by rw [List.getD_eq_getElem?_getD, List.getElem?_eq_getElem (by omega)]; exact List.getElem_mem _
  have hmb : all.getD m2 0 ∈ all := by rw [List.getD_eq_getElem?_getD, List.getElem?_eq_getElem (by omega)]; exact List.getElem_mem _
  have hA := MO.has _ hma
  have hB := MO.has _ hmb
  have L0 : Liv S0 5120 := ⟨MO.wf, MO.sated, MO.below, MC, MO.count⟩
  have HHD := hid hH
  generalize all.getD m1 0 = a at *
  generalize all.getD m2 0 = b at *
  clear rowc hma hmb hm1 hm2 MO ML MC MA
  refine wp_region_ext (by kernel_rfl) (by kernel_rfl) (fun F hF => ?_)
  have HF := hid hF; clear hF
  repeat (first
    | (apply text_skip; (focus rfl); simp only [Act.put, List.setIfInBounds_toArray, List.set_cons_zero, List.set_cons_succ])
    | (apply text_val; (focus rfl); (focus (intro _ _; go_simp; with_reducible rfl)); simp only [Act.put, List.setIfInBounds_toArray, List.set_cons_zero, List.set_cons_succ])
    | (apply text_if; (focus (first | exact wanted_t rfl rfl | exact wanted_f rfl rfl | exact wanted_gt rfl rfl | exact wanted_gf rfl rfl)); (focus (intro hc _ _; (try simp only [Bool.and_eq_true, Bool.not_eq_true', Bool.true_and] at hc); go_simp; with_reducible rfl)); simp only [Act.put, List.setIfInBounds_toArray, List.set_cons_zero, List.set_cons_succ]))
  refine text_nil (HF.out _ (fun mx dx => ?_))
  clear HF F
  clear ca cb wm1 wm2 wm3 l1 l2 hlm
  go_upto_region 6 with (fail)
  refine wp_gen (fun V hV => ?_)
  have hbV : Below w1.heap.size w1 V := by rw [hV]; (repeat' (first | (with_reducible exact Below.refl _ _) | (with_reducible refine Below.ext_mk ?_ ?_ _ _) | (with_reducible refine Below.alloc ?_ ?_ _) | (with_reducible refine Below.drew ?_) | (with_reducible refine Below.setCell ?_ ?_ _) | go_size))
  clear hV ex1 ey1 ex2 ey2 ex3 ey3 zga
  have S1 := HHD.out.sto.below hbV
  have hFV : ∀ k ∈ F, w.heap.size ≤ k := HHD.out.from_
  have hbwV : Below w.heap.size w V := hb1.trans (hbV.mono hws)
  -- the four calls
  have W0 := L0.wf
  have T0 := L0.sated
  obtain ⟨R1, hR1⟩ : ∃ R, bindV orV S0 a [(x : Int)] = R := ⟨_, rfl⟩
  obtain ⟨R2, hR2⟩ : ∃ R, bindV andV R1.1 a [(x : Int)] = R := ⟨_, rfl⟩
  obtain ⟨R3, hR3⟩ : ∃ R, composeV R2.1 a x b = R := ⟨_, rfl⟩
  obtain ⟨R4, hR4⟩ : ∃ R, swapV R3.1 a x y = R := ⟨_, rfl⟩
  have E1 := exists_res L0 (by omega) hA x hx8
  rw [hR1] at E1
  have E2 := forall_res E1.liv (by omega) (E1.grows.has hA) x hx8
  rw [hR2] at E2
  have E3 := compose_res E2.liv (by omega) ((E1.grows.trans E2.grows).has hA) ((E1.grows.trans E2.grows).has hB) x hx8
  rw [hR3] at E3
  have C1 := exists_lit S1 W0 T0 a (x : Int) R1.2 (by rw [hR1])
  rw [hR1] at C1
  have C2 := hid (fun W F (h : StoIs W p F R1.1) => (forall_lit h E1.liv.wf E1.liv.sated a (x : Int) R2.2 (by rw [hR2])))
  rw [hR2] at C2
  have C3 := hid (fun W F (h : StoIs W p F R2.1) => compose_live h E2.liv.wf E2.liv.sated a (x : Int) b)
  rw [hR3] at C3
  have C4 := hid (fun W F (h : StoIs W p F R3.1) => swap_live h E3.liv.wf E3.liv.sated a (x : Int) (y : Int))
  rw [hR4] at C4
  unfold Tells at C3 C4
  have QL := hid (qm_law L0 (by omega) hA hB hx8 hy8 hR1 hR2 hR3 hR4)
  clear hR1 hR2 hR3 hR4 E1 E2 E3 W0 T0 hA hB L0
  refine wp_region_doc (fun F' hF => ?_)
  have HF := hid hF
  clear hF
  iterate 4 (refine doc_val rfl (by first | (go_simp; done) | (go_simp; exact ⟨rfl, rfl⟩) | (go_simp; with_reducible rfl)) ?_; simp only [Act.put, List.setIfInBounds_toArray, List.set_cons_zero, List.set_cons_succ])
  refine doc_call rfl (by first | (go_simp; done) | (go_simp; exact ⟨rfl, rfl⟩) | (go_simp; with_reducible rfl)) (C1.mono ?_)
  rintro _ w2 ⟨rfl, F2, hS2, st2⟩
  refine ⟨_, rfl, ?_⟩
  simp only [Act.put, List.setIfInBounds_toArray, List.set_cons_zero, List.set_cons_succ]
  iterate 4 (refine doc_val rfl (by first | (go_simp; done) | (go_simp; exact ⟨rfl, rfl⟩) | (go_simp; with_reducible rfl)) ?_; simp only [Act.put, List.setIfInBounds_toArray, List.set_cons_zero, List.set_cons_succ])
  refine doc_call rfl (by first | (go_simp; done) | (go_simp; exact ⟨rfl, rfl⟩) | (go_simp; with_reducible rfl)) ((C2.out _ _ hS2).mono ?_)
  rintro _ w3 ⟨rfl, F3, hS3, st3⟩
  refine ⟨_, rfl, ?_⟩
  simp only [Act.put, List.setIfInBounds_toArray, List.set_cons_zero, List.set_cons_succ]
  iterate 4 (refine doc_val rfl (by first | (go_simp; done) | (go_simp; exact ⟨rfl, rfl⟩) | (go_simp; with_reducible rfl)) ?_; simp only [Act.put, List.setIfInBounds_toArray, List.set_cons_zero, List.set_cons_succ])
  refine doc_call rfl (by first | (go_simp; done) | (go_simp; exact ⟨rfl, rfl⟩) | (go_simp; with_reducible rfl)) ((C3.out _ _ hS3).mono ?_)
  rintro _ w4 ⟨rfl, F4, hS4, st4⟩
  refine ⟨_, rfl, ?_⟩
  simp only [Act.put, List.setIfInBounds_toArray, List.set_cons_zero, List.set_cons_succ]
  iterate 4 (refine doc_val rfl (by first | (go_simp; done) | (go_simp; exact ⟨rfl, rfl⟩) | (go_simp; with_reducible rfl)) ?_; simp only [Act.put, List.setIfInBounds_toArray, List.set_cons_zero, List.set_cons_succ])
  refine doc_call rfl (by first | (go_simp; done) | (go_simp; exact ⟨rfl, rfl⟩) | (go_simp; with_reducible rfl)) ((C4.out _ _ hS4).mono ?_)
  rintro _ w5 ⟨rfl, F5, hS5, st5⟩
  refine ⟨_, rfl, ?_⟩
  simp only [Act.put, List.setIfInBounds_toArray, List.set_cons_zero, List.set_cons_succ]
  iterate 4 (refine doc_val rfl (by first | (go_simp; done) | (go_simp; exact ⟨rfl, rfl⟩) | (go_simp; with_reducible rfl)) ?_; simp only [Act.put, List.setIfInBounds_toArray, List.set_cons_zero, List.set_cons_succ])
  refine doc_end (HF.out _ _ ?_)
  clear HF F' C1 C2 C3 C4
  have st25 : StoStep V w5 F F5 := ((st2.trans st3).trans st4).trans st5
  have hb5 : Below w.heap.size w w5 := hbwV.trans (st25.below hFV hbwV.size)
  have hF5 : ∀ k ∈ F5, w.heap.size ≤ k := fun k hk => by
    rcases st25.fresh k hk with q | q
    · exact hFV k q
    · have := hbwV.size; omega
  have H5 := hid hS5
  have HF5 := hid hF5
  generalize R1.2 = d1 at *
  generalize R2.2 = d2 at *
  generalize R3.2 = d3 at *
  obtain ⟨S5, d4⟩ := R4
  simp only at QL H5 ⊢
  clear hS2 hS3 hS4 hS5 st2 st3 st4 st5 st25 S1 hFV hbV hbwV hb1 hws HHD hF5
  have Q := QL.out
  have HO := hid (fun W (hb : Below w5.heap.size w5 W) sv (l : List Bool) (hl : BitsAre W sv l) d (hd : S5.has d) => (show Calls Try.prog 19 #[.pointer (some ⟨p, 0, none⟩), .int .i64 d, sv] W (Pure (.bool (ev S5 (bitsB l) d)) W) from by
    have := holds_call (H5.out.below hb) QL.out.liv.wf d hl
    rwa [right_has hd] at this))
  have hx1 : (x : Int) < 8 := by omega
  have hy1 : (y : Int) < 8 := by omega
  clear Q
  go_wp2_with fail
  go_loopw [17, 70] (fun im iv wr => ∃ (n : Nat) (t : Bool), n ≤ 256 ∧ im = .bool t ∧ iv = .int .i64 n ∧ (t = true ↔ ∀ k, k < n → (ev S5 (bitsOf k) a = true → ev S5 (bitsOf k) b = true)) ∧ Below w5.heap.size w5 wr) (fun _ iv _ => 256 - (intOf iv).toNat)
  case atStart => exact ⟨0, true, by omega, rfl, rfl, by simp, Below.refl _ _⟩
  case round =>
    obtain ⟨n, t, hn, rfl, rfl, ht, hb⟩ := hrel
    have HT0 := hid ht
    clear ht
    by_cases hlt : n < 256
    · have hn1 : (n : Int) < 256 := by omega
      have hmk8 : ∀ w : World, (Instr.makeSlice 33 (.int .i64 8) (.int .i64 8)).run Try.prog w = .ok (.slice (some ⟨w.heap.size, 0, none⟩) 8 8) (w.alloc (.cells (madeCells (Value.bool false).cells (8 * infoBool.size)) 4)) := make_row 33 4 infoBool (.bool false) Try.underlying33 infoBool_is infoBool_zero .i64 .i64 8 8 (Nat.le_refl _) (by rw [infoBool_bytes]; omega) (by omega)
      rw [infoBool_size, Nat.mul_one] at hmk8
      go_upto_region 12 with (fail)
      refine wp_gen (fun X hX => ?_)
      have hbX : Below wr.heap.size wr X := by rw [hX]; (repeat' (first | (with_reducible exact Below.refl _ _) | (with_reducible refine Below.ext_mk ?_ ?_ _ _) | (with_reducible refine Below.alloc ?_ ?_ _) | (with_reducible refine Below.drew ?_) | (with_reducible refine Below.setCell ?_ ?_ _) | go_size))
      have hL : Arr X wr.heap.size 4 (bools (brow8 n 0)) := by
        rw [hX, brow8_start]
        exact (Arr.made (z := .bool false) rfl).below (Below.alloc (Below.refl _ _) (Nat.le_refl _) _)
      have hK : X.cell? ⟨wr.heap.size + 1, 0, none⟩ = some (.slice (some ⟨wr.heap.size, 0, none⟩) 8 8) := by rw [hX]; go_simp
      have zK : wr.heap.size + 1 < X.heap.size := by rw [hX]; first | (simp; done) | (simp; omega)
      have hb2 : Below w5.heap.size w5 X := hb.trans (hbX.mono hb.size)
      have hge : w5.heap.size ≤ wr.heap.size := hb.size
      obtain ⟨gb, hgb⟩ : ∃ g, g = wr.heap.size := ⟨_, rfl⟩
      obtain ⟨kb, hkb⟩ : ∃ k, k = wr.heap.size + 1 := ⟨_, rfl⟩
      rw [← hkb] at hK zK ⊢
      rw [← hgb] at hL hK hge ⊢
      have hne : kb ≠ gb := by omega
      clear hX hgb hkb hmk8 hb hbX
      go_wp2_with fail
      go_loopw [76] (fun iv wr => ∃ v : Nat, v ≤ 8 ∧ iv = .int .i64 v ∧ Arr wr gb 4 (bools (brow8 n v)) ∧ wr.cell? ⟨kb, 0, none⟩ = some (.slice (some ⟨gb, 0, none⟩) 8 8) ∧ kb < wr.heap.size ∧ Below w5.heap.size w5 wr) (fun iv _ => 8 - (intOf iv).toNat)
      case atStart => exact ⟨0, by omega, rfl, hL, hK, zK, hb2⟩
      case round =>
        obtain ⟨v, hv, rfl, hA, ck, zk, hb3⟩ := hrel
        by_cases hv8 : v < 8
        · have hv1 : (v : Int) < 8 := by omega
          have hv0 : (0 : Int) ≤ (v : Int) := by omega
          have hbit := bit256 ⟨n, hlt⟩ ⟨v, hv8⟩
          simp only at hbit
          have hc := hA.cell v
          rw [show (bools (brow8 n v))[v]? = some (.bool ((brow8 n v).getD v false)) by simp [bools, brow8, hv8]] at hc
          have hf := hA.free v
          have hz := hA.lt
          have AA := hid hA
          clear hA hL hK zK hb2
          go_upto_region 15 with (fail)
          refine wp_region_store 8 (by kernel_rfl) (by kernel_rfl) (by kernel_rfl) rfl (fun F hF G hG => ?_)
          simp only [List.take_succ_cons, List.take_zero, List.drop_succ_cons, List.drop_zero] at hG ⊢
          have HF := hid hF; clear hF
          have HG := hid hG; clear hG
          repeat (first
            | (apply text_skip; (focus rfl); simp only [Act.put, List.setIfInBounds_toArray, List.set_cons_zero, List.set_cons_succ])
            | (apply text_val; (focus rfl); (focus (intro _ _; go_simp; with_reducible rfl)); simp only [Act.put, List.setIfInBounds_toArray, List.set_cons_zero, List.set_cons_succ])
            | (apply text_if; (focus (first | exact wanted_t rfl rfl | exact wanted_f rfl rfl | exact wanted_gt rfl rfl | exact wanted_gf rfl rfl)); (focus (intro hc _ _; (try simp only [Bool.and_eq_true, Bool.not_eq_true', Bool.true_and] at hc); go_simp; with_reducible rfl)); simp only [Act.put, List.setIfInBounds_toArray, List.set_cons_zero, List.set_cons_succ]))
          refine text_nil (HG.out _ ?_)
          clear HG G
          apply store_step; (focus rfl); (focus (intro _ _; apply Exists.intro; apply Exists.intro; go_simp; with_reducible rfl))
          try simp only [Act.put, List.setIfInBounds_toArray, List.set_cons_zero, List.set_cons_succ]
          repeat (apply both_val; (focus rfl); (focus (intro _; go_simp; with_reducible rfl)); simp only [Act.put, List.setIfInBounds_toArray, List.set_cons_zero, List.set_cons_succ])
          refine both_nil (HF.out _ _ (fun mx dx => ?_))
          clear HF F
          go_wp2_with fail
          go_roundw
          case rel =>
            refine ⟨v + 1, by omega, by go_num, ?_, ?_, ?_, ?_⟩
            · rw [← brow8_set n v hv8]
              exact ((AA.out.set_ _ _)).below (by (repeat' (first | (with_reducible exact Below.refl _ _) | (with_reducible refine Below.ext_mk ?_ ?_ _ _) | (with_reducible refine Below.alloc ?_ ?_ _) | (with_reducible refine Below.drew ?_) | (with_reducible refine Below.setCell ?_ ?_ _) | go_size)))
            · go_simp
            · simp; omega
            · exact (hb3.setCell hge _).trans (by (repeat' (first | (with_reducible exact Below.refl _ _) | (with_reducible refine Below.ext_mk ?_ ?_ _ _) | (with_reducible refine Below.alloc ?_ ?_ _) | (with_reducible refine Below.drew ?_) | (with_reducible refine Below.setCell ?_ ?_ _) | go_size)))
          case measure => simp [intOf]; omega
        · obtain rfl : v = 8 := by omega
          have hB8 : BitsAre wr (.slice (some ⟨gb, 0, none⟩) 8 8) (brow8 n 8) := by
            have := hA.bits (by rw [brow8_length]; omega)
            rwa [brow8_length] at this
          obtain ⟨l8, hl8⟩ : ∃ l8, l8 = brow8 n 8 := ⟨_, rfl⟩
          have hlen8 : l8.length = 8 := by rw [hl8]; exact brow8_length n 8
          have hβ : bitsB l8 = bitsOf n := by rw [hl8]; exact brow8_bits n hlt
          have hbx : ∀ i : Nat, i < 8 → l8[i]? = some (bitsOf n i) := fun i hi => by
            rw [hl8]; simp [brow8, hi]
          rw [← hl8] at hB8 hA
          have Q := QL.out
          -- what the diagrams are under these bits
          obtain ⟨lo, hlo⟩ : ∃ t, ev S5 (setb (bitsOf n) x false) a = t := ⟨_, rfl⟩
          obtain ⟨hi, hhi⟩ : ∃ t, ev S5 (setb (bitsOf n) x true) a = t := ⟨_, rfl⟩
          obtain ⟨vb, hvb⟩ : ∃ t, ev S5 (bitsOf n) b = t := ⟨_, rfl⟩
          obtain ⟨va, hva⟩ : ∃ t, ev S5 (bitsOf n) a = t := ⟨_, rfl⟩
          obtain ⟨hp, hhp⟩ : ∃ t, ev S5 (setb (bitsOf n) x vb) a = t := ⟨_, rfl⟩
          obtain ⟨hs, hhs⟩ : ∃ t, ev S5 (swapb (bitsOf n) x y) a = t := ⟨_, rfl⟩
          have V1 : ev S5 (bitsOf n) d1 = (lo || hi) := by rw [Q.e1, hlo, hhi]
          have V2 : ev S5 (bitsOf n) d2 = (lo && hi) := by rw [Q.e2, hlo, hhi]
          have V3 : ev S5 (bitsOf n) d3 = hp := by rw [Q.e3, hvb, hhp]
          have V4 : ev S5 (bitsOf n) d4 = hs := by rw [Q.e4, hhs]
          have s0 : bitsB (l8.set x false) = setb (bitsOf n) x false := by rw [bitsB_set _ _ (by omega), hβ]
          have s1 : bitsB (l8.set x true) = setb (bitsOf n) x true := by rw [bitsB_set _ _ (by omega), hβ]
          have sv : bitsB (l8.set x vb) = setb (bitsOf n) x vb := by rw [bitsB_set _ _ (by omega), hβ]
          have st : bitsB ((l8.set x (bitsOf n y)).set y (bitsOf n x)) = swapb (bitsOf n) x y := by
            rw [bitsB_set _ _ (by simp; omega), bitsB_set _ _ (by omega), hβ]; rfl
          have hmf : ∀ (fn : Fn) (first cap : Array Value) (w : World), (Instr.makeFunc fn first cap).run Try.prog w = .ok (.func fn first cap) w := fun _ _ _ _ => rfl
          have TD0 := hid (fun W (h : Below wr.heap.size wr W) on => told8_any (hB8.below h) hlen8 (Nat.lt_of_lt_of_le zk h.size) ((h.cell (p := ⟨kb, 0, none⟩) zk).trans ck) x hx8 on)
          have BB := hid hB8
          have AA := hid hA
          have EV := hid (And.intro V1 (And.intro V2 (And.intro V3 V4)))
          have SS := hid (And.intro s0 (And.intro s1 (And.intro sv st)))
          have HV := hid (And.intro hlo (And.intro hhi (And.intro hhp hhs)))
          have HVA := hid hva
          have HVB := hid hvb
          have HBX := hid hbx
          have Hβ := hid hβ
          clear hB8 hA hl8 hβ hbx Q V1 V2 V3 V4 s0 s1 sv st hlo hhi hva hhp hhs hvb hL hK zK hb2
          go_upto_region 18 with (fail)
          refine wp_region_doc (fun F' hF => ?_)
          have HF := hid hF
          clear hF
          iterate 4 (refine doc_val rfl (by first | (go_simp; done) | (go_simp; exact ⟨rfl, rfl⟩) | (go_simp; with_reducible rfl)) ?_; simp only [Act.put, List.setIfInBounds_toArray, List.set_cons_zero, List.set_cons_succ])
          refine doc_call rfl (by first | (go_simp; done) | (go_simp; exact ⟨rfl, rfl⟩) | (go_simp; with_reducible rfl)) ((TD0.out _ (Below.refl _ _) false).mono ?_)
          rintro _ W1 ⟨g1, c1, rfl, q1, hb4⟩
          refine ⟨_, rfl, ?_⟩
          simp only [Act.put, List.setIfInBounds_toArray, List.set_cons_zero, List.set_cons_succ]
          have N1 := HO.out W1 (hb3.trans (hb4.mono hb3.size)) _ _ q1 a QL.out.ha
          rw [SS.out.1, HV.out.1] at N1
          refine doc_call rfl (by first | (go_simp; done) | (go_simp; exact ⟨rfl, rfl⟩) | (go_simp; with_reducible rfl)) (N1.mono ?_)
          rintro _ _ ⟨rfl, m1, e1, rfl⟩
          refine ⟨_, rfl, ?_⟩
          simp only [Act.put, List.setIfInBounds_toArray, List.set_cons_zero, List.set_cons_succ]
          have hb5 : Below wr.heap.size wr (W1.ext m1 e1) := Below.ext_mk hb4 hb4.size m1 e1
          iterate 4 (refine doc_val rfl (by first | (go_simp; done) | (go_simp; exact ⟨rfl, rfl⟩) | (go_simp; with_reducible rfl)) ?_; simp only [Act.put, List.setIfInBounds_toArray, List.set_cons_zero, List.set_cons_succ])
          refine doc_call rfl (by first | (go_simp; done) | (go_simp; exact ⟨rfl, rfl⟩) | (go_simp; with_reducible rfl)) ((TD0.out _ hb5 true).mono ?_)
          rintro _ W2 ⟨g2, c2, rfl, q2, hb6⟩
          refine ⟨_, rfl, ?_⟩
          simp only [Act.put, List.setIfInBounds_toArray, List.set_cons_zero, List.set_cons_succ]
          have hb7 : Below wr.heap.size wr W2 := hb5.trans (hb6.mono hb5.size)
          have N2 := HO.out W2 (hb3.trans (hb7.mono hb3.size)) _ _ q2 a QL.out.ha
          rw [SS.out.2.1, HV.out.2.1] at N2
          refine doc_call rfl (by first | (go_simp; done) | (go_simp; exact ⟨rfl, rfl⟩) | (go_simp; with_reducible rfl)) (N2.mono ?_)
          rintro _ _ ⟨rfl, m2, e2, rfl⟩
          refine ⟨_, rfl, ?_⟩
          simp only [Act.put, List.setIfInBounds_toArray, List.set_cons_zero, List.set_cons_succ]
          iterate 2 (refine doc_val rfl (by first | (go_simp; done) | (go_simp; exact ⟨rfl, rfl⟩) | (go_simp; with_reducible rfl)) ?_; simp only [Act.put, List.setIfInBounds_toArray, List.set_cons_zero, List.set_cons_succ])
          refine doc_end (HF.out _ _ ?_)
          clear HF F' N1 N2
          have hb8 : Below wr.heap.size wr (W2.ext m2 e2) := Below.ext_mk hb7 hb7.size m2 e2
          generalize W2.ext m2 e2 = Y at *
          clear hb4 hb5 hb6 hb7 q1 q2
          have CK := hid ck
          have ZK := hid zk
          have ckY := (hb8.cell (p := ⟨kb, 0, none⟩) zk).trans ck
          have zkY := Nat.lt_of_lt_of_le zk hb8.size
          have CL := clone8_any (BB.out.below hb8) hlen8
          clear ck zk
          go_upto_region 20 with (go_at_call 63; refine CL.mono ?_; rintro e Z ⟨gt, ct, rfl, hRt, hgt, hbZ⟩)
          -- two bits exchanged
          have hbYw := hb8.size
          have hbZ0 : Below wr.heap.size wr Z := hb8.trans (hbZ.mono hbYw)
          have ckZ := (hbZ.cell (p := ⟨kb, 0, none⟩) zkY).trans ckY
          have zkZ := Nat.lt_of_lt_of_le zkY hbZ.size
          have AZ := (AA.out.below hbZ0)
          have zgb := AA.out.lt
          have zgt := RowIs.lt hRt gt rfl
          have hkt : kb ≠ gt := by omega
          have hgbt : gb ≠ gt := by omega
          have lx : (x : Int) < 8 := by omega
          have cgy : Z.cell? ⟨gb, y, none⟩ = some (.bool (bitsOf n y)) := by rw [AZ.cell]; simp [bools, HBX.out y hy8]
          have cgx : Z.cell? ⟨gb, x, none⟩ = some (.bool (bitsOf n x)) := by rw [AZ.cell]; simp [bools, HBX.out x hx8]
          have zgbZ := AZ.lt
          have hRd : RowIs Z.drew (.slice (some ⟨gt, 0, none⟩) 8 ct) (some gt) 4 1 8 (bools l8) := RowIs.keep hRt (fun _ _ => rfl)
          have T1 := RowIs.setOne (.bool (bitsOf n y)) hRd hx8
          have fz1 := T1.2
          have T2 := RowIs.setOne (.bool (bitsOf n x)) T1.1 hy8
          have fz2 := T2.2
          have e8 : ((bools l8).set x (.bool (bitsOf n y))).set y (.bool (bitsOf n x)) = bools ((l8.set x (bitsOf n y)).set y (bitsOf n x)) := by simp [bools, List.map_set]
          rw [e8] at T2
          have zgt1 : gt < (Z.drew.setCell ⟨gt, x, none⟩ (.bool (bitsOf n y))).heap.size := by simp; exact zgt
          obtain ⟨Z1, hZ1⟩ : ∃ Z1, Z.drew.setCell ⟨gt, x, none⟩ (.bool (bitsOf n y)) = Z1 := ⟨_, rfl⟩
          have hZ1b : Below Y.heap.size Y Z1 := by rw [← hZ1]; exact (hbZ.trans (by (repeat' (first | (with_reducible exact Below.refl _ _) | (with_reducible refine Below.ext_mk ?_ ?_ _ _) | (with_reducible refine Below.alloc ?_ ?_ _) | (with_reducible refine Below.drew ?_) | (with_reducible refine Below.setCell ?_ ?_ _) | go_size)))).setCell hgt _
          rw [hZ1] at T1 T2 zgt1 fz2
          obtain ⟨Z2, hZ2⟩ : ∃ Z2, Z1.setCell ⟨gt, y, none⟩ (.bool (bitsOf n x)) = Z2 := ⟨_, rfl⟩
          have hZ2b : Below Y.heap.size Y Z2 := by rw [← hZ2]; exact hZ1b.setCell hgt _
          rw [hZ2] at T2
          have f1 : Z.frozen? ⟨gt, x, none⟩ = false := fz1
          have f2 := fz2
          have ct1 : Z.cell? ⟨gt, x, none⟩ = some ((bools l8)[x]'(by simp [bools, hlen8]; omega)) := by
            obtain ⟨g', cap', e1, e2, ct, -⟩ := RowIs.at hRt hx8 (j := 0) (by omega)
            cases e2
            simp only [Nat.mul_one, Nat.add_zero] at ct
            rw [ct]; exact List.getElem?_eq_getElem _
          have ct2 : Z1.cell? ⟨gt, y, none⟩ = some (((bools l8).set x (.bool (bitsOf n y)))[y]'(by simp [bools, hlen8]; omega)) := by
            obtain ⟨g', cap', e1, e2, ct, -⟩ := RowIs.at T1.1 hy8 (j := 0) (by omega)
            cases e2
            simp only [Nat.mul_one, Nat.add_zero] at ct
            rw [ct]; exact List.getElem?_eq_getElem _
          obtain ⟨o1, ho1⟩ : ∃ o, (bools l8)[x]'(by simp [bools, hlen8]; omega) = o := ⟨_, rfl⟩
          obtain ⟨o2, ho2⟩ : ∃ o, ((bools l8).set x (.bool (bitsOf n y)))[y]'(by simp [bools, hlen8]; omega) = o := ⟨_, rfl⟩
          rw [ho1] at ct1
          rw [ho2] at ct2
          clear ho1 ho2
          have DD := hid (fun W (hW : W = Z.drew ∨ W = Z1 ∨ W = Z2) => (show W.cell? ⟨kb, 0, none⟩ = some (.slice (some ⟨gb, 0, none⟩) 8 8) ∧ kb < W.heap.size ∧ W.cell? ⟨gb, y, none⟩ = some (.bool (bitsOf n y)) ∧ W.cell? ⟨gb, x, none⟩ = some (.bool (bitsOf n x)) ∧ gb < W.heap.size from by
            have hk : W.heap[kb]? = Z.heap[kb]? := by
              rcases hW with rfl | rfl | rfl
              · rfl
              · rw [← hZ1]; exact (Below.heap_setCell _ _ _ _ hkt)
              · rw [← hZ2, Below.heap_setCell _ _ _ _ hkt, ← hZ1]; exact (Below.heap_setCell _ _ _ _ hkt)
            have hg : W.heap[gb]? = Z.heap[gb]? := by
              rcases hW with rfl | rfl | rfl
              · rfl
              · rw [← hZ1]; exact (Below.heap_setCell _ _ _ _ hgbt)
              · rw [← hZ2, Below.heap_setCell _ _ _ _ hgbt, ← hZ1]; exact (Below.heap_setCell _ _ _ _ hgbt)
            have hz : W.heap.size = Z.heap.size := by
              rcases hW with rfl | rfl | rfl
              · rfl
              · rw [← hZ1]; simp [World.setCell]
              · rw [← hZ2, ← hZ1]; simp [World.setCell]
            exact ⟨(cell_of_heap 0 hk).trans ckZ, by omega, (cell_of_heap y hg).trans cgy, (cell_of_heap x hg).trans cgx, by omega⟩))
          have TT := hid T2.1
          have HZ2 := hid hZ2b
          clear fz1 fz2 T1 T2 hRt hRd AZ ckZ cgy cgx ckY zkY CL hZ1b hZ2b e8 hbZ hbZ0
          refine wp_region_stage [13, 15] (fun i w => (i = 0 → w = Z.drew) ∧ (i = 1 → w = Z1) ∧ (i = 2 → w = Z2)) (by kernel_rfl) (by kernel_rfl) (by kernel_rfl) (by kernel_rfl) ⟨fun _ => rfl, fun h => by omega, fun h => by omega⟩ (fun F' hF' => ?_)
          have HF := hid hF'
          clear hF'
          repeat (first
            | (apply sg_any; (focus rfl); (focus rfl); (focus (intro _; go_simp; with_reducible rfl)); simp only [Act.put, List.setIfInBounds_toArray, List.set_cons_zero, List.set_cons_succ])
            | (apply sg_read 0 0; (focus rfl); (focus (decide +kernel)); (focus (decide +kernel)); (focus rfl); (focus (intro ii w' l' u hR; have hw : w' = Z.drew ∨ w' = Z1 ∨ w' = Z2 := by { rcases (show ii = 0 by omega) with rfl; exact .inl (hR.1 rfl) }; obtain ⟨y1, y2, y3, y4, y5⟩ := DD.out w' hw; clear hR hw; go_simp; with_reducible rfl)); simp only [Act.put, List.setIfInBounds_toArray, List.set_cons_zero, List.set_cons_succ])
            | (apply sg_read 0 1; (focus rfl); (focus (decide +kernel)); (focus (decide +kernel)); (focus rfl); (focus (intro ii w' l' u hR; have hw : w' = Z.drew ∨ w' = Z1 ∨ w' = Z2 := by { rcases (show ii = 0 ∨ ii = 1 by omega) with rfl | rfl; exact .inl (hR.1 rfl); exact .inr (.inl (hR.2.1 rfl)) }; obtain ⟨y1, y2, y3, y4, y5⟩ := DD.out w' hw; clear hR hw; go_simp; with_reducible rfl)); simp only [Act.put, List.setIfInBounds_toArray, List.set_cons_zero, List.set_cons_succ])
            | (apply sg_read 0 2; (focus rfl); (focus (decide +kernel)); (focus (decide +kernel)); (focus rfl); (focus (intro ii w' l' u hR; have hw : w' = Z.drew ∨ w' = Z1 ∨ w' = Z2 := by { rcases (show ii = 0 ∨ ii = 1 ∨ ii = 2 by omega) with rfl | rfl | rfl; exact .inl (hR.1 rfl); exact .inr (.inl (hR.2.1 rfl)); exact .inr (.inr (hR.2.2 rfl)) }; obtain ⟨y1, y2, y3, y4, y5⟩ := DD.out w' hw; clear hR hw; go_simp; with_reducible rfl)); simp only [Act.put, List.setIfInBounds_toArray, List.set_cons_zero, List.set_cons_succ]))
          refine sg_do 0 rfl rfl (fun w' hR => ?_) ?_
          · obtain rfl := hR.1 rfl
            refine ⟨Z1, ?_, fun h => by omega, fun _ => rfl, fun h => by omega⟩
            rw [← hZ1]
            go_simp
          simp only [Act.put, List.setIfInBounds_toArray, List.set_cons_zero, List.set_cons_succ]
          repeat (first
            | (apply sg_any; (focus rfl); (focus rfl); (focus (intro _; go_simp; with_reducible rfl)); simp only [Act.put, List.setIfInBounds_toArray, List.set_cons_zero, List.set_cons_succ])
            | (apply sg_read 0 0; (focus rfl); (focus (decide +kernel)); (focus (decide +kernel)); (focus rfl); (focus (intro ii w' l' u hR; have hw : w' = Z.drew ∨ w' = Z1 ∨ w' = Z2 := by { rcases (show ii = 0 by omega) with rfl; exact .inl (hR.1 rfl) }; obtain ⟨y1, y2, y3, y4, y5⟩ := DD.out w' hw; clear hR hw; go_simp; with_reducible rfl)); simp only [Act.put, List.setIfInBounds_toArray, List.set_cons_zero, List.set_cons_succ])
            | (apply sg_read 0 1; (focus rfl); (focus (decide +kernel)); (focus (decide +kernel)); (focus rfl); (focus (intro ii w' l' u hR; have hw : w' = Z.drew ∨ w' = Z1 ∨ w' = Z2 := by { rcases (show ii = 0 ∨ ii = 1 by omega) with rfl | rfl; exact .inl (hR.1 rfl); exact .inr (.inl (hR.2.1 rfl)) }; obtain ⟨y1, y2, y3, y4, y5⟩ := DD.out w' hw; clear hR hw; go_simp; with_reducible rfl)); simp only [Act.put, List.setIfInBounds_toArray, List.set_cons_zero, List.set_cons_succ])
            | (apply sg_read 0 2; (focus rfl); (focus (decide +kernel)); (focus (decide +kernel)); (focus rfl); (focus (intro ii w' l' u hR; have hw : w' = Z.drew ∨ w' = Z1 ∨ w' = Z2 := by { rcases (show ii = 0 ∨ ii = 1 ∨ ii = 2 by omega) with rfl | rfl | rfl; exact .inl (hR.1 rfl); exact .inr (.inl (hR.2.1 rfl)); exact .inr (.inr (hR.2.2 rfl)) }; obtain ⟨y1, y2, y3, y4, y5⟩ := DD.out w' hw; clear hR hw; go_simp; with_reducible rfl)); simp only [Act.put, List.setIfInBounds_toArray, List.set_cons_zero, List.set_cons_succ]))
          refine sg_do 1 rfl rfl (fun w' hR => ?_) ?_
          · obtain rfl := hR.2.1 rfl
            refine ⟨Z2, ?_, fun h => by omega, fun h => by omega, fun _ => rfl⟩
            rw [← hZ2]
            go_simp
          simp only [Act.put, List.setIfInBounds_toArray, List.set_cons_zero, List.set_cons_succ]
          refine sg_end (HF.out _ (fun w' hR => ?_))
          obtain rfl := hR.2.2 rfl
          clear hR HF F' hZ1 hZ2 ct1 ct2 f1 f2 zgt1
          have hb9 : Below wr.heap.size wr w' := hb8.trans (HZ2.out.mono hb8.size)
          have hb10 : Below w5.heap.size w5 w' := hb3.trans (hb9.mono hb3.size)
          have HKB := hid ((hb9.cell (p := ⟨kb, 0, none⟩) ZK.out).trans CK.out)
          have zkb : kb < w'.heap.size := Nat.lt_of_lt_of_le ZK.out hb9.size
          have TB : BitsAre w' (.slice (some ⟨gt, 0, none⟩) 8 ct) ((l8.set x (bitsOf n y)).set y (bitsOf n x)) := by
            have e : ((l8.set x (bitsOf n y)).set y (bitsOf n x)).length = 8 := by simp [hlen8]
            have T := TT.out
            have T' : RowIs w' (.slice (some ⟨gt, 0, none⟩) 8 ct) (some gt) 4 1 ((l8.set x (bitsOf n y)).set y (bitsOf n x)).length (bools ((l8.set x (bitsOf n y)).set y (bitsOf n x))) := by rw [e]; exact T
            exact RowIs.bits T' (by omega)
          have HOb := hid (fun W (hb : Below w'.heap.size w' W) d (hd : S5.has d) => HO.out W (hb10.trans (hb.mono hb10.size)) _ _ ((BB.out.below hb9).below hb) d hd)
          have H1 := hid (fun W (hb : Below w'.heap.size w' W) => HOb.out W hb d1 QL.out.h1)
          have H2 := hid (fun W (hb : Below w'.heap.size w' W) => HOb.out W hb d2 QL.out.h2)
          have H3 := hid (fun W (hb : Below w'.heap.size w' W) => HOb.out W hb d3 QL.out.h3)
          have H4 := hid (fun W (hb : Below w'.heap.size w' W) => HOb.out W hb d4 QL.out.h4)
          have HB := hid (fun W (hb : Below w'.heap.size w' W) => HOb.out W hb b QL.out.hb)
          have HA := hid (fun W (hb : Below w'.heap.size w' W) => HOb.out W hb a QL.out.ha)
          rw [Hβ.out] at H1 H2 H3 H4 HB HA
          rw [EV.out.1] at H1
          rw [EV.out.2.1] at H2
          rw [EV.out.2.2.1] at H3
          rw [EV.out.2.2.2] at H4
          rw [HVB.out] at HB
          rw [HVA.out] at HA
          have TD := hid (fun W (hb : Below w'.heap.size w' W) => TD0.out W (hb9.trans (hb.mono hb9.size)) vb)
          have HN := hid (fun W (hb : Below w'.heap.size w' W) sv (h : BitsAre W sv (l8.set x vb)) => HO.out W (hb10.trans (hb.mono hb10.size)) sv _ h a QL.out.ha)
          rw [SS.out.2.2.1, HV.out.2.2.1] at HN
          have HT := hid (fun W (hb : Below w'.heap.size w' W) => HO.out W (hb10.trans (hb.mono hb10.size)) _ _ (TB.below hb) a QL.out.ha)
          rw [SS.out.2.2.2, HV.out.2.2.2] at HT
          have IS := hid (impl_step HT0.out HVA.out HVB.out)
          have HB10 := hid hb10
          clear TB hb8 hb9 hb10 hb3 TD0 HOb SS HV EV HT0 HVA HVB
          go_upto_region 21 with (fail)
          refine wp_qmeans w' p gb kb gt ct x d1 d2 d3 d4 a b lo hi hp vb hs l8 (by kernel_rfl) (by kernel_rfl) ?_ ?_ ?_
          · refine ⟨0, 0, ?_, Below.drew (Below.refl _ _), fun h => by simp at h⟩
            unfold qmAct
            rfl
          · rintro L A Z hall ⟨gq, cq, rfl, hB, -⟩
            have e0 := hall 0 (by decide)
            have e1 := hall 1 (by decide)
            have e2 := hall 2 (by decide)
            have e3 := hall 3 (by decide)
            have e4 := hall 4 (by decide)
            have e5 := hall 5 (by decide)
            have e6 := hall 6 (by decide)
            have e7 := hall 7 (by decide)
            have e8 := hall 8 (by decide)
            have e9 := hall 9 (by decide)
            have e10 := hall 10 (by decide)
            have e11 := hall 11 (by decide)
            have e12 := hall 12 (by decide)
            have e13 := hall 13 (by decide)
            have e14 := hall 14 (by decide)
            have e15 := hall 15 (by decide)
            have e16 := hall 16 (by decide)
            have e17 := hall 17 (by decide)
            have e18 := hall 18 (by decide)
            have e19 := hall 19 (by decide)
            have e20 := hall 20 (by decide)
            have e21 := hall 21 (by decide)
            have e22 := hall 22 (by decide)
            have e23 := hall 23 (by decide)
            have e24 := hall 24 (by decide)
            have e25 := hall 25 (by decide)
            have e26 := hall 26 (by decide)
            have e27 := hall 27 (by decide)
            have e28 := hall 28 (by decide)
            have e29 := hall 29 (by decide)
            have e30 := hall 30 (by decide)
            have e31 := hall 31 (by decide)
            have e32 := hall 32 (by decide)
            have e33 := hall 33 (by decide)
            have e34 := hall 34 (by decide)
            have e35 := hall 35 (by decide)
            have e36 := hall 36 (by decide)
            have e37 := hall 37 (by decide)
            have e38 := hall 38 (by decide)
            have e39 := hall 39 (by decide)
            have e40 := hall 40 (by decide)
            have e41 := hall 41 (by decide)
            have e42 := hall 42 (by decide)
            have e43 := hall 43 (by decide)
            have e44 := hall 44 (by decide)
            have e45 := hall 45 (by decide)
            have e46 := hall 46 (by decide)
            have e47 := hall 47 (by decide)
            unfold qmAct
            simp only [e0, e1, e2, e3, e4, e5, e6, e7, e8, e9, e10, e11, e12, e13, e14, e15, e16, e17, e18, e19, e20, e21, e22, e23, e24, e25, e26, e27, e28, e29, e30, e31, e32, e33, e34, e35, e36, e37, e38, e39, e40, e41, e42, e43, e44, e45, e46, e47, gx_true]
            clear e0 e1 e2 e3 e4 e5 e6 e7 e8 e9 e10 e11 e12 e13 e14 e15 e16 e17 e18 e19 e20 e21 e22 e23 e24 e25 e26 e27 e28 e29 e30 e31 e32 e33 e34 e35 e36 e37 e38 e39 e40 e41 e42 e43 e44 e45 e46 e47 hall H1 H2 H3 H4 TD HN HT
            have ckZ := (hB.cell (p := ⟨kb, 0, none⟩) zkb).trans HKB.out
            have zkZ := Nat.lt_of_lt_of_le zkb hB.size
            have HAZ := hid (fun W (hb : Below Z.heap.size Z W) => HA.out W (hB.trans (hb.mono hB.size)))
            have HBZ := hid (fun W (hb : Below Z.heap.size Z W) => HB.out W (hB.trans (hb.mono hB.size)))
            have hbZ : Below w5.heap.size w5 Z := HB10.out.trans (hB.mono HB10.out.size)
            have HHZ := hid hbZ
            clear HA HB hB HKB zkb hbZ HB10
            go_upto_region 23 with (fail)
            cases t
            · refine wp_region_doc (fun F hF => ?_)
              have HF := hid hF
              clear hF
              iterate 2 (refine doc_val rfl (by first | (go_simp; done) | (go_simp; exact ⟨rfl, rfl⟩) | (go_simp; with_reducible rfl)) ?_; simp only [Act.put, List.setIfInBounds_toArray, List.set_cons_zero, List.set_cons_succ])
              iterate 11 (refine doc_not rfl ?_; simp only [Act.put, List.setIfInBounds_toArray, List.set_cons_zero, List.set_cons_succ])
              iterate 2 (refine doc_val rfl (by first | (go_simp; done) | (go_simp; exact ⟨rfl, rfl⟩) | (go_simp; with_reducible rfl)) ?_; simp only [Act.put, List.setIfInBounds_toArray, List.set_cons_zero, List.set_cons_succ])
              refine doc_end (HF.out _ _ ?_)
              clear HF F
              go_wp2_with fail
              go_roundw
              case rel => exact ⟨n + 1, _, by omega, rfl, by go_num, IS.out, HHZ.out.trans (by have := HHZ.out.size; (repeat' (first | (with_reducible exact Below.refl _ _) | (with_reducible refine Below.ext_mk ?_ ?_ _ _) | (with_reducible refine Below.alloc ?_ ?_ _) | (with_reducible refine Below.drew ?_) | (with_reducible refine Below.setCell ?_ ?_ _) | go_size)))⟩
              case measure => simp [intOf]; omega
            · cases va
              · refine wp_region_doc (fun F hF => ?_)
                have HF := hid hF
                clear hF
                iterate 5 (refine doc_val rfl (by first | (go_simp; done) | (go_simp; exact ⟨rfl, rfl⟩) | (go_simp; with_reducible rfl)) ?_; simp only [Act.put, List.setIfInBounds_toArray, List.set_cons_zero, List.set_cons_succ])
                refine doc_call rfl (by first | (go_simp; done) | (go_simp; exact ⟨rfl, rfl⟩) | (go_simp; with_reducible rfl)) (Calls.mono (HAZ.out _ (by (repeat' (first | (with_reducible exact Below.refl _ _) | (with_reducible refine Below.ext_mk ?_ ?_ _ _) | (with_reducible refine Below.alloc ?_ ?_ _) | (with_reducible refine Below.drew ?_) | (with_reducible refine Below.setCell ?_ ?_ _) | go_size)))) ?_)
                rintro _ _ ⟨rfl, mz, dz, rfl⟩
                refine ⟨_, rfl, ?_⟩
                simp only [Act.put, List.setIfInBounds_toArray, List.set_cons_zero, List.set_cons_succ]
                iterate 2 (refine doc_val rfl (by first | (go_simp; done) | (go_simp; exact ⟨rfl, rfl⟩) | (go_simp; with_reducible rfl)) ?_; simp only [Act.put, List.setIfInBounds_toArray, List.set_cons_zero, List.set_cons_succ])
                iterate 4 (refine doc_not rfl ?_; simp only [Act.put, List.setIfInBounds_toArray, List.set_cons_zero, List.set_cons_succ])
                iterate 3 (refine doc_val rfl (by first | (go_simp; done) | (go_simp; exact ⟨rfl, rfl⟩) | (go_simp; with_reducible rfl)) ?_; simp only [Act.put, List.setIfInBounds_toArray, List.set_cons_zero, List.set_cons_succ])
                refine doc_end (HF.out _ _ ?_)
                clear HF F
                go_wp2_with fail
                go_roundw
                case rel => exact ⟨n + 1, _, by omega, rfl, by go_num, IS.out, HHZ.out.trans (by have := HHZ.out.size; (repeat' (first | (with_reducible exact Below.refl _ _) | (with_reducible refine Below.ext_mk ?_ ?_ _ _) | (with_reducible refine Below.alloc ?_ ?_ _) | (with_reducible refine Below.drew ?_) | (with_reducible refine Below.setCell ?_ ?_ _) | go_size)))⟩
                case measure => simp [intOf]; omega
              · refine wp_region_doc (fun F hF => ?_)
                have HF := hid hF
                clear hF
                iterate 5 (refine doc_val rfl (by first | (go_simp; done) | (go_simp; exact ⟨rfl, rfl⟩) | (go_simp; with_reducible rfl)) ?_; simp only [Act.put, List.setIfInBounds_toArray, List.set_cons_zero, List.set_cons_succ])
                refine doc_call rfl (by first | (go_simp; done) | (go_simp; exact ⟨rfl, rfl⟩) | (go_simp; with_reducible rfl)) (Calls.mono (HAZ.out _ (by (repeat' (first | (with_reducible exact Below.refl _ _) | (with_reducible refine Below.ext_mk ?_ ?_ _ _) | (with_reducible refine Below.alloc ?_ ?_ _) | (with_reducible refine Below.drew ?_) | (with_reducible refine Below.setCell ?_ ?_ _) | go_size)))) ?_)
                rintro _ _ ⟨rfl, mz, dz, rfl⟩
                refine ⟨_, rfl, ?_⟩
                simp only [Act.put, List.setIfInBounds_toArray, List.set_cons_zero, List.set_cons_succ]
                iterate 5 (refine doc_val rfl (by first | (go_simp; done) | (go_simp; exact ⟨rfl, rfl⟩) | (go_simp; with_reducible rfl)) ?_; simp only [Act.put, List.setIfInBounds_toArray, List.set_cons_zero, List.set_cons_succ])
                refine doc_call rfl (by first | (go_simp; done) | (go_simp; exact ⟨rfl, rfl⟩) | (go_simp; with_reducible rfl)) (Calls.mono (HBZ.out _ (by (repeat' (first | (with_reducible exact Below.refl _ _) | (with_reducible refine Below.ext_mk ?_ ?_ _ _) | (with_reducible refine Below.alloc ?_ ?_ _) | (with_reducible refine Below.drew ?_) | (with_reducible refine Below.setCell ?_ ?_ _) | go_size)))) ?_)
                rintro _ _ ⟨rfl, mz, dz, rfl⟩
                refine ⟨_, rfl, ?_⟩
                simp only [Act.put, List.setIfInBounds_toArray, List.set_cons_zero, List.set_cons_succ]
                iterate 3 (refine doc_val rfl (by first | (go_simp; done) | (go_simp; exact ⟨rfl, rfl⟩) | (go_simp; with_reducible rfl)) ?_; simp only [Act.put, List.setIfInBounds_toArray, List.set_cons_zero, List.set_cons_succ])
                refine doc_end (HF.out _ _ ?_)
                clear HF F
                go_wp2_with fail
                go_roundw
                case rel => exact ⟨n + 1, _, by omega, rfl, by go_num, IS.out, HHZ.out.trans (by have := HHZ.out.size; (repeat' (first | (with_reducible exact Below.refl _ _) | (with_reducible refine Below.ext_mk ?_ ?_ _ _) | (with_reducible refine Below.alloc ?_ ?_ _) | (with_reducible refine Below.drew ?_) | (with_reducible refine Below.setCell ?_ ?_ _) | go_size)))⟩
                case measure => simp [intOf]; omega
          · skip
            -- GENERATED21 by genqmeans.py
            refine ⟨fun L A w2 hn hI => ?_, ?_⟩
            · obtain ⟨gq, cq, rfl, hB, hR⟩ := hI
              have hup := getD_up hn.2.1
              refine st_val (v := .pointer (some ⟨p, 0, none⟩)) (W1 := w2) rfl (by unfold qmAct; simp only [gx_true]; go_simp) ?_
              refine ⟨gq, cq, ?_, hB, fun h2 => hR (by rwa [up_ne 0 33 (by decide)] at h2)⟩
              unfold qmAct
              simp only [Act.put, List.setIfInBounds_toArray, List.set_cons_zero, List.set_cons_succ, hup, gx_true, up_ne 0 1 (by decide), up_ne 0 2 (by decide), up_ne 0 3 (by decide), up_ne 0 4 (by decide), up_ne 0 5 (by decide), up_ne 0 6 (by decide), up_ne 0 7 (by decide), up_ne 0 8 (by decide), up_ne 0 9 (by decide), up_ne 0 10 (by decide), up_ne 0 11 (by decide), up_ne 0 12 (by decide), up_ne 0 13 (by decide), up_ne 0 14 (by decide), up_ne 0 15 (by decide), up_ne 0 16 (by decide), up_ne 0 17 (by decide), up_ne 0 18 (by decide), up_ne 0 19 (by decide), up_ne 0 20 (by decide), up_ne 0 21 (by decide), up_ne 0 22 (by decide), up_ne 0 23 (by decide), up_ne 0 24 (by decide), up_ne 0 25 (by decide), up_ne 0 26 (by decide), up_ne 0 27 (by decide), up_ne 0 28 (by decide), up_ne 0 29 (by decide), up_ne 0 30 (by decide), up_ne 0 31 (by decide), up_ne 0 32 (by decide), up_ne 0 33 (by decide), up_ne 0 34 (by decide), up_ne 0 35 (by decide), up_ne 0 36 (by decide), up_ne 0 37 (by decide), up_ne 0 38 (by decide), up_ne 0 39 (by decide), up_ne 0 40 (by decide), up_ne 0 41 (by decide), up_ne 0 42 (by decide), up_ne 0 43 (by decide), up_ne 0 44 (by decide), up_ne 0 45 (by decide), up_ne 0 46 (by decide), up_ne 0 47 (by decide)]
            refine ⟨fun L A w2 hn hI => ?_, ?_⟩
            · obtain ⟨gq, cq, rfl, hB, hR⟩ := hI
              have hup := getD_up hn.2.1
              refine st_val (v := .int .i64 d1) (W1 := w2) rfl (by unfold qmAct; simp only [gx_true]; go_simp) ?_
              refine ⟨gq, cq, ?_, hB, fun h2 => hR (by rwa [up_ne 1 33 (by decide)] at h2)⟩
              unfold qmAct
              simp only [Act.put, List.setIfInBounds_toArray, List.set_cons_zero, List.set_cons_succ, hup, gx_true, up_ne 1 0 (by decide), up_ne 1 2 (by decide), up_ne 1 3 (by decide), up_ne 1 4 (by decide), up_ne 1 5 (by decide), up_ne 1 6 (by decide), up_ne 1 7 (by decide), up_ne 1 8 (by decide), up_ne 1 9 (by decide), up_ne 1 10 (by decide), up_ne 1 11 (by decide), up_ne 1 12 (by decide), up_ne 1 13 (by decide), up_ne 1 14 (by decide), up_ne 1 15 (by decide), up_ne 1 16 (by decide), up_ne 1 17 (by decide), up_ne 1 18 (by decide), up_ne 1 19 (by decide), up_ne 1 20 (by decide), up_ne 1 21 (by decide), up_ne 1 22 (by decide), up_ne 1 23 (by decide), up_ne 1 24 (by decide), up_ne 1 25 (by decide), up_ne 1 26 (by decide), up_ne 1 27 (by decide), up_ne 1 28 (by decide), up_ne 1 29 (by decide), up_ne 1 30 (by decide), up_ne 1 31 (by decide), up_ne 1 32 (by decide), up_ne 1 33 (by decide), up_ne 1 34 (by decide), up_ne 1 35 (by decide), up_ne 1 36 (by decide), up_ne 1 37 (by decide), up_ne 1 38 (by decide), up_ne 1 39 (by decide), up_ne 1 40 (by decide), up_ne 1 41 (by decide), up_ne 1 42 (by decide), up_ne 1 43 (by decide), up_ne 1 44 (by decide), up_ne 1 45 (by decide), up_ne 1 46 (by decide), up_ne 1 47 (by decide)]
            refine ⟨fun L A w2 hn hI => ?_, ?_⟩
            · obtain ⟨gq, cq, rfl, hB, hR⟩ := hI
              have hup := getD_up hn.2.1
              have kc := (hB.cell (p := ⟨kb, 0, none⟩) zkb).trans HKB.out
              have zkw := Nat.lt_of_lt_of_le zkb hB.size
              refine st_val (v := .slice (some ⟨gb, 0, none⟩) 8 8) (W1 := w2) rfl (by unfold qmAct; simp only [gx_true]; go_simp) ?_
              refine ⟨gq, cq, ?_, hB, fun h2 => hR (by rwa [up_ne 2 33 (by decide)] at h2)⟩
              unfold qmAct
              simp only [Act.put, List.setIfInBounds_toArray, List.set_cons_zero, List.set_cons_succ, hup, gx_true, up_ne 2 0 (by decide), up_ne 2 1 (by decide), up_ne 2 3 (by decide), up_ne 2 4 (by decide), up_ne 2 5 (by decide), up_ne 2 6 (by decide), up_ne 2 7 (by decide), up_ne 2 8 (by decide), up_ne 2 9 (by decide), up_ne 2 10 (by decide), up_ne 2 11 (by decide), up_ne 2 12 (by decide), up_ne 2 13 (by decide), up_ne 2 14 (by decide), up_ne 2 15 (by decide), up_ne 2 16 (by decide), up_ne 2 17 (by decide), up_ne 2 18 (by decide), up_ne 2 19 (by decide), up_ne 2 20 (by decide), up_ne 2 21 (by decide), up_ne 2 22 (by decide), up_ne 2 23 (by decide), up_ne 2 24 (by decide), up_ne 2 25 (by decide), up_ne 2 26 (by decide), up_ne 2 27 (by decide), up_ne 2 28 (by decide), up_ne 2 29 (by decide), up_ne 2 30 (by decide), up_ne 2 31 (by decide), up_ne 2 32 (by decide), up_ne 2 33 (by decide), up_ne 2 34 (by decide), up_ne 2 35 (by decide), up_ne 2 36 (by decide), up_ne 2 37 (by decide), up_ne 2 38 (by decide), up_ne 2 39 (by decide), up_ne 2 40 (by decide), up_ne 2 41 (by decide), up_ne 2 42 (by decide), up_ne 2 43 (by decide), up_ne 2 44 (by decide), up_ne 2 45 (by decide), up_ne 2 46 (by decide), up_ne 2 47 (by decide)]
            refine ⟨fun L A w2 hn hI => ?_, ?_⟩
            · obtain ⟨gq, cq, rfl, hB, hR⟩ := hI
              have hup := getD_up hn.2.1
              have dp0 : L.getD 0 false = true := hn.2.2.1 0 (by decide +kernel)
              have dp1 : L.getD 1 false = true := hn.2.2.1 1 (by decide +kernel)
              have dp2 : L.getD 2 false = true := hn.2.2.1 2 (by decide +kernel)
              refine st_call (f := 19) (args := #[.pointer (some ⟨p, 0, none⟩), .int .i64 d1, .slice (some ⟨gb, 0, none⟩) 8 8]) (W1 := w2) rfl (by unfold qmAct; simp only [gx_true, dp0, dp1, dp2]; first | (go_simp; done) | (go_simp; exact ⟨rfl, rfl⟩) | (go_simp; with_reducible rfl)) ((H1.out w2 hB).mono ?_)
              rintro e' w3 ⟨rfl, m3, dd3, rfl⟩
              refine ⟨_, rfl, gq, cq, ?_, Below.ext_mk hB hB.size m3 dd3, fun h2 => (hR (by rwa [up_ne 3 33 (by decide)] at h2)).below (Below.ext_mk (Below.refl _ _) (Nat.le_refl _) m3 dd3)⟩
              unfold qmAct
              simp only [Act.put, List.setIfInBounds_toArray, List.set_cons_zero, List.set_cons_succ, hup, gx_true, up_ne 3 0 (by decide), up_ne 3 1 (by decide), up_ne 3 2 (by decide), up_ne 3 4 (by decide), up_ne 3 5 (by decide), up_ne 3 6 (by decide), up_ne 3 7 (by decide), up_ne 3 8 (by decide), up_ne 3 9 (by decide), up_ne 3 10 (by decide), up_ne 3 11 (by decide), up_ne 3 12 (by decide), up_ne 3 13 (by decide), up_ne 3 14 (by decide), up_ne 3 15 (by decide), up_ne 3 16 (by decide), up_ne 3 17 (by decide), up_ne 3 18 (by decide), up_ne 3 19 (by decide), up_ne 3 20 (by decide), up_ne 3 21 (by decide), up_ne 3 22 (by decide), up_ne 3 23 (by decide), up_ne 3 24 (by decide), up_ne 3 25 (by decide), up_ne 3 26 (by decide), up_ne 3 27 (by decide), up_ne 3 28 (by decide), up_ne 3 29 (by decide), up_ne 3 30 (by decide), up_ne 3 31 (by decide), up_ne 3 32 (by decide), up_ne 3 33 (by decide), up_ne 3 34 (by decide), up_ne 3 35 (by decide), up_ne 3 36 (by decide), up_ne 3 37 (by decide), up_ne 3 38 (by decide), up_ne 3 39 (by decide), up_ne 3 40 (by decide), up_ne 3 41 (by decide), up_ne 3 42 (by decide), up_ne 3 43 (by decide), up_ne 3 44 (by decide), up_ne 3 45 (by decide), up_ne 3 46 (by decide), up_ne 3 47 (by decide)]
            refine ⟨fun L A w2 hn hI => ?_, ?_⟩
            · obtain ⟨gq, cq, rfl, hB, hR⟩ := hI
              have hup := getD_up hn.2.1
              refine st_val (v := .bool lo) (W1 := w2) rfl (by unfold qmAct; simp only [gx_true]; go_simp) ?_
              refine ⟨gq, cq, ?_, hB, fun h2 => hR (by rwa [up_ne 4 33 (by decide)] at h2)⟩
              unfold qmAct
              simp only [Act.put, List.setIfInBounds_toArray, List.set_cons_zero, List.set_cons_succ, hup, gx_true, up_ne 4 0 (by decide), up_ne 4 1 (by decide), up_ne 4 2 (by decide), up_ne 4 3 (by decide), up_ne 4 5 (by decide), up_ne 4 6 (by decide), up_ne 4 7 (by decide), up_ne 4 8 (by decide), up_ne 4 9 (by decide), up_ne 4 10 (by decide), up_ne 4 11 (by decide), up_ne 4 12 (by decide), up_ne 4 13 (by decide), up_ne 4 14 (by decide), up_ne 4 15 (by decide), up_ne 4 16 (by decide), up_ne 4 17 (by decide), up_ne 4 18 (by decide), up_ne 4 19 (by decide), up_ne 4 20 (by decide), up_ne 4 21 (by decide), up_ne 4 22 (by decide), up_ne 4 23 (by decide), up_ne 4 24 (by decide), up_ne 4 25 (by decide), up_ne 4 26 (by decide), up_ne 4 27 (by decide), up_ne 4 28 (by decide), up_ne 4 29 (by decide), up_ne 4 30 (by decide), up_ne 4 31 (by decide), up_ne 4 32 (by decide), up_ne 4 33 (by decide), up_ne 4 34 (by decide), up_ne 4 35 (by decide), up_ne 4 36 (by decide), up_ne 4 37 (by decide), up_ne 4 38 (by decide), up_ne 4 39 (by decide), up_ne 4 40 (by decide), up_ne 4 41 (by decide), up_ne 4 42 (by decide), up_ne 4 43 (by decide), up_ne 4 44 (by decide), up_ne 4 45 (by decide), up_ne 4 46 (by decide), up_ne 4 47 (by decide)]
            refine ⟨fun L A w2 hn hI => ?_, ?_⟩
            · obtain ⟨gq, cq, rfl, hB, hR⟩ := hI
              have hup := getD_up hn.2.1
              have dp4 : L.getD 4 false = true := hn.2.2.1 4 (by decide +kernel)
              refine st_val (v := .bool lo) (W1 := w2) rfl (by unfold qmAct; simp only [gx_true, dp4]; go_simp) ?_
              refine ⟨gq, cq, ?_, hB, fun h2 => hR (by rwa [up_ne 5 33 (by decide)] at h2)⟩
              unfold qmAct
              simp only [Act.put, List.setIfInBounds_toArray, List.set_cons_zero, List.set_cons_succ, hup, gx_true, up_ne 5 0 (by decide), up_ne 5 1 (by decide), up_ne 5 2 (by decide), up_ne 5 3 (by decide), up_ne 5 4 (by decide), up_ne 5 6 (by decide), up_ne 5 7 (by decide), up_ne 5 8 (by decide), up_ne 5 9 (by decide), up_ne 5 10 (by decide), up_ne 5 11 (by decide), up_ne 5 12 (by decide), up_ne 5 13 (by decide), up_ne 5 14 (by decide), up_ne 5 15 (by decide), up_ne 5 16 (by decide), up_ne 5 17 (by decide), up_ne 5 18 (by decide), up_ne 5 19 (by decide), up_ne 5 20 (by decide), up_ne 5 21 (by decide), up_ne 5 22 (by decide), up_ne 5 23 (by decide), up_ne 5 24 (by decide), up_ne 5 25 (by decide), up_ne 5 26 (by decide), up_ne 5 27 (by decide), up_ne 5 28 (by decide), up_ne 5 29 (by decide), up_ne 5 30 (by decide), up_ne 5 31 (by decide), up_ne 5 32 (by decide), up_ne 5 33 (by decide), up_ne 5 34 (by decide), up_ne 5 35 (by decide), up_ne 5 36 (by decide), up_ne 5 37 (by decide), up_ne 5 38 (by decide), up_ne 5 39 (by decide), up_ne 5 40 (by decide), up_ne 5 41 (by decide), up_ne 5 42 (by decide), up_ne 5 43 (by decide), up_ne 5 44 (by decide), up_ne 5 45 (by decide), up_ne 5 46 (by decide), up_ne 5 47 (by decide)]
            refine ⟨fun L A w2 hn hI => ?_, ?_⟩
            · obtain ⟨gq, cq, rfl, hB, hR⟩ := hI
              have hup := getD_up hn.2.1
              have dp5 : L.getD 5 false = true := hn.2.2.1 5 (by decide +kernel)
              cases lo
              · refine st_val (v := .bool hi) (W1 := w2) (wanted_f (x := false) rfl (by unfold qmAct; simp only [gx_true, dp5]; rfl)) (by unfold qmAct; simp only [gx_true, dp5]; go_simp) ?_
                refine ⟨gq, cq, ?_, hB, fun h2 => hR (by rwa [up_ne 6 33 (by decide)] at h2)⟩
                unfold qmAct
                simp only [Act.put, List.setIfInBounds_toArray, List.set_cons_zero, List.set_cons_succ, hup, gx_true, up_ne 6 0 (by decide), up_ne 6 1 (by decide), up_ne 6 2 (by decide), up_ne 6 3 (by decide), up_ne 6 4 (by decide), up_ne 6 5 (by decide), up_ne 6 7 (by decide), up_ne 6 8 (by decide), up_ne 6 9 (by decide), up_ne 6 10 (by decide), up_ne 6 11 (by decide), up_ne 6 12 (by decide), up_ne 6 13 (by decide), up_ne 6 14 (by decide), up_ne 6 15 (by decide), up_ne 6 16 (by decide), up_ne 6 17 (by decide), up_ne 6 18 (by decide), up_ne 6 19 (by decide), up_ne 6 20 (by decide), up_ne 6 21 (by decide), up_ne 6 22 (by decide), up_ne 6 23 (by decide), up_ne 6 24 (by decide), up_ne 6 25 (by decide), up_ne 6 26 (by decide), up_ne 6 27 (by decide), up_ne 6 28 (by decide), up_ne 6 29 (by decide), up_ne 6 30 (by decide), up_ne 6 31 (by decide), up_ne 6 32 (by decide), up_ne 6 33 (by decide), up_ne 6 34 (by decide), up_ne 6 35 (by decide), up_ne 6 36 (by decide), up_ne 6 37 (by decide), up_ne 6 38 (by decide), up_ne 6 39 (by decide), up_ne 6 40 (by decide), up_ne 6 41 (by decide), up_ne 6 42 (by decide), up_ne 6 43 (by decide), up_ne 6 44 (by decide), up_ne 6 45 (by decide), up_ne 6 46 (by decide), up_ne 6 47 (by decide)]
                try rfl
              · refine st_not ((wanted_f (x := true) rfl (by unfold qmAct; simp only [gx_true, dp5]; rfl)).trans rfl) ?_
                refine ⟨gq, cq, ?_, hB, fun h2 => hR (by rwa [up_ne 6 33 (by decide)] at h2)⟩
                unfold qmAct
                simp only [Act.put, List.setIfInBounds_toArray, List.set_cons_zero, List.set_cons_succ, hup, gx_true, up_ne 6 0 (by decide), up_ne 6 1 (by decide), up_ne 6 2 (by decide), up_ne 6 3 (by decide), up_ne 6 4 (by decide), up_ne 6 5 (by decide), up_ne 6 7 (by decide), up_ne 6 8 (by decide), up_ne 6 9 (by decide), up_ne 6 10 (by decide), up_ne 6 11 (by decide), up_ne 6 12 (by decide), up_ne 6 13 (by decide), up_ne 6 14 (by decide), up_ne 6 15 (by decide), up_ne 6 16 (by decide), up_ne 6 17 (by decide), up_ne 6 18 (by decide), up_ne 6 19 (by decide), up_ne 6 20 (by decide), up_ne 6 21 (by decide), up_ne 6 22 (by decide), up_ne 6 23 (by decide), up_ne 6 24 (by decide), up_ne 6 25 (by decide), up_ne 6 26 (by decide), up_ne 6 27 (by decide), up_ne 6 28 (by decide), up_ne 6 29 (by decide), up_ne 6 30 (by decide), up_ne 6 31 (by decide), up_ne 6 32 (by decide), up_ne 6 33 (by decide), up_ne 6 34 (by decide), up_ne 6 35 (by decide), up_ne 6 36 (by decide), up_ne 6 37 (by decide), up_ne 6 38 (by decide), up_ne 6 39 (by decide), up_ne 6 40 (by decide), up_ne 6 41 (by decide), up_ne 6 42 (by decide), up_ne 6 43 (by decide), up_ne 6 44 (by decide), up_ne 6 45 (by decide), up_ne 6 46 (by decide), up_ne 6 47 (by decide)]
                try rfl
            refine ⟨fun L A w2 hn hI => ?_, ?_⟩
            · obtain ⟨gq, cq, rfl, hB, hR⟩ := hI
              have hup := getD_up hn.2.1
              have dp5 : L.getD 5 false = true := hn.2.2.1 5 (by decide +kernel)
              have dp6 : L.getD 6 false = true := hn.2.2.1 6 (by decide +kernel)
              cases lo
              · refine st_val (v := .bool (false || hi)) (W1 := w2) rfl (by unfold qmAct; simp only [Bool.false_eq_true, if_true, if_false, gx_true, dp5, dp6]; go_simp) ?_
                refine ⟨gq, cq, ?_, hB, fun h2 => hR (by rwa [up_ne 7 33 (by decide)] at h2)⟩
                unfold qmAct
                simp only [Act.put, List.setIfInBounds_toArray, List.set_cons_zero, List.set_cons_succ, hup, gx_true, up_ne 7 0 (by decide), up_ne 7 1 (by decide), up_ne 7 2 (by decide), up_ne 7 3 (by decide), up_ne 7 4 (by decide), up_ne 7 5 (by decide), up_ne 7 6 (by decide), up_ne 7 8 (by decide), up_ne 7 9 (by decide), up_ne 7 10 (by decide), up_ne 7 11 (by decide), up_ne 7 12 (by decide), up_ne 7 13 (by decide), up_ne 7 14 (by decide), up_ne 7 15 (by decide), up_ne 7 16 (by decide), up_ne 7 17 (by decide), up_ne 7 18 (by decide), up_ne 7 19 (by decide), up_ne 7 20 (by decide), up_ne 7 21 (by decide), up_ne 7 22 (by decide), up_ne 7 23 (by decide), up_ne 7 24 (by decide), up_ne 7 25 (by decide), up_ne 7 26 (by decide), up_ne 7 27 (by decide), up_ne 7 28 (by decide), up_ne 7 29 (by decide), up_ne 7 30 (by decide), up_ne 7 31 (by decide), up_ne 7 32 (by decide), up_ne 7 33 (by decide), up_ne 7 34 (by decide), up_ne 7 35 (by decide), up_ne 7 36 (by decide), up_ne 7 37 (by decide), up_ne 7 38 (by decide), up_ne 7 39 (by decide), up_ne 7 40 (by decide), up_ne 7 41 (by decide), up_ne 7 42 (by decide), up_ne 7 43 (by decide), up_ne 7 44 (by decide), up_ne 7 45 (by decide), up_ne 7 46 (by decide), up_ne 7 47 (by decide)]
              · refine st_val (v := .bool (true || hi)) (W1 := w2) rfl (by unfold qmAct; simp only [Bool.false_eq_true, if_true, if_false, gx_true, dp5, dp6]; go_simp) ?_
                refine ⟨gq, cq, ?_, hB, fun h2 => hR (by rwa [up_ne 7 33 (by decide)] at h2)⟩
                unfold qmAct
                simp only [Act.put, List.setIfInBounds_toArray, List.set_cons_zero, List.set_cons_succ, hup, gx_true, up_ne 7 0 (by decide), up_ne 7 1 (by decide), up_ne 7 2 (by decide), up_ne 7 3 (by decide), up_ne 7 4 (by decide), up_ne 7 5 (by decide), up_ne 7 6 (by decide), up_ne 7 8 (by decide), up_ne 7 9 (by decide), up_ne 7 10 (by decide), up_ne 7 11 (by decide), up_ne 7 12 (by decide), up_ne 7 13 (by decide), up_ne 7 14 (by decide), up_ne 7 15 (by decide), up_ne 7 16 (by decide), up_ne 7 17 (by decide), up_ne 7 18 (by decide), up_ne 7 19 (by decide), up_ne 7 20 (by decide), up_ne 7 21 (by decide), up_ne 7 22 (by decide), up_ne 7 23 (by decide), up_ne 7 24 (by decide), up_ne 7 25 (by decide), up_ne 7 26 (by decide), up_ne 7 27 (by decide), up_ne 7 28 (by decide), up_ne 7 29 (by decide), up_ne 7 30 (by decide), up_ne 7 31 (by decide), up_ne 7 32 (by decide), up_ne 7 33 (by decide), up_ne 7 34 (by decide), up_ne 7 35 (by decide), up_ne 7 36 (by decide), up_ne 7 37 (by decide), up_ne 7 38 (by decide), up_ne 7 39 (by decide), up_ne 7 40 (by decide), up_ne 7 41 (by decide), up_ne 7 42 (by decide), up_ne 7 43 (by decide), up_ne 7 44 (by decide), up_ne 7 45 (by decide), up_ne 7 46 (by decide), up_ne 7 47 (by decide)]
            refine ⟨fun L A w2 hn hI => ?_, ?_⟩
            · obtain ⟨gq, cq, rfl, hB, hR⟩ := hI
              have hup := getD_up hn.2.1
              have dp3 : L.getD 3 false = true := hn.2.2.1 3 (by decide +kernel)
              have dp7 : L.getD 7 false = true := hn.2.2.1 7 (by decide +kernel)
              refine st_val (v := .bool false) (W1 := w2) rfl (by unfold qmAct; simp only [gx_true, dp3, dp7]; go_simp) ?_
              refine ⟨gq, cq, ?_, hB, fun h2 => hR (by rwa [up_ne 8 33 (by decide)] at h2)⟩
              unfold qmAct
              simp only [Act.put, List.setIfInBounds_toArray, List.set_cons_zero, List.set_cons_succ, hup, gx_true, up_ne 8 0 (by decide), up_ne 8 1 (by decide), up_ne 8 2 (by decide), up_ne 8 3 (by decide), up_ne 8 4 (by decide), up_ne 8 5 (by decide), up_ne 8 6 (by decide), up_ne 8 7 (by decide), up_ne 8 9 (by decide), up_ne 8 10 (by decide), up_ne 8 11 (by decide), up_ne 8 12 (by decide), up_ne 8 13 (by decide), up_ne 8 14 (by decide), up_ne 8 15 (by decide), up_ne 8 16 (by decide), up_ne 8 17 (by decide), up_ne 8 18 (by decide), up_ne 8 19 (by decide), up_ne 8 20 (by decide), up_ne 8 21 (by decide), up_ne 8 22 (by decide), up_ne 8 23 (by decide), up_ne 8 24 (by decide), up_ne 8 25 (by decide), up_ne 8 26 (by decide), up_ne 8 27 (by decide), up_ne 8 28 (by decide), up_ne 8 29 (by decide), up_ne 8 30 (by decide), up_ne 8 31 (by decide), up_ne 8 32 (by decide), up_ne 8 33 (by decide), up_ne 8 34 (by decide), up_ne 8 35 (by decide), up_ne 8 36 (by decide), up_ne 8 37 (by decide), up_ne 8 38 (by decide), up_ne 8 39 (by decide), up_ne 8 40 (by decide), up_ne 8 41 (by decide), up_ne 8 42 (by decide), up_ne 8 43 (by decide), up_ne 8 44 (by decide), up_ne 8 45 (by decide), up_ne 8 46 (by decide), up_ne 8 47 (by decide)]
            refine ⟨fun L A w2 hn hI => ?_, ?_⟩
            · obtain ⟨gq, cq, rfl, hB, hR⟩ := hI
              have hup := getD_up hn.2.1
              have dp8 : L.getD 8 false = true := hn.2.2.1 8 (by decide +kernel)
              refine st_val (v := .bool false) (W1 := w2) rfl (by unfold qmAct; simp only [gx_true, dp8]; go_simp) ?_
              refine ⟨gq, cq, ?_, hB, fun h2 => hR (by rwa [up_ne 9 33 (by decide)] at h2)⟩
              unfold qmAct
              simp only [Act.put, List.setIfInBounds_toArray, List.set_cons_zero, List.set_cons_succ, hup, gx_true, up_ne 9 0 (by decide), up_ne 9 1 (by decide), up_ne 9 2 (by decide), up_ne 9 3 (by decide), up_ne 9 4 (by decide), up_ne 9 5 (by decide), up_ne 9 6 (by decide), up_ne 9 7 (by decide), up_ne 9 8 (by decide), up_ne 9 10 (by decide), up_ne 9 11 (by decide), up_ne 9 12 (by decide), up_ne 9 13 (by decide), up_ne 9 14 (by decide), up_ne 9 15 (by decide), up_ne 9 16 (by decide), up_ne 9 17 (by decide), up_ne 9 18 (by decide), up_ne 9 19 (by decide), up_ne 9 20 (by decide), up_ne 9 21 (by decide), up_ne 9 22 (by decide), up_ne 9 23 (by decide), up_ne 9 24 (by decide), up_ne 9 25 (by decide), up_ne 9 26 (by decide), up_ne 9 27 (by decide), up_ne 9 28 (by decide), up_ne 9 29 (by decide), up_ne 9 30 (by decide), up_ne 9 31 (by decide), up_ne 9 32 (by decide), up_ne 9 33 (by decide), up_ne 9 34 (by decide), up_ne 9 35 (by decide), up_ne 9 36 (by decide), up_ne 9 37 (by decide), up_ne 9 38 (by decide), up_ne 9 39 (by decide), up_ne 9 40 (by decide), up_ne 9 41 (by decide), up_ne 9 42 (by decide), up_ne 9 43 (by decide), up_ne 9 44 (by decide), up_ne 9 45 (by decide), up_ne 9 46 (by decide), up_ne 9 47 (by decide)]
            refine ⟨fun L A w2 hn hI => ?_, ?_⟩
            · obtain ⟨gq, cq, rfl, hB, hR⟩ := hI
              have hup := getD_up hn.2.1
              have dp9 : L.getD 9 false = true := hn.2.2.1 9 (by decide +kernel)
              refine st_val (v := .pointer (some ⟨p, 0, none⟩)) (W1 := w2) (wanted_f (x := false) rfl (by unfold qmAct; simp only [gx_true, dp9]; rfl)) (by unfold qmAct; simp only [gx_true, dp9]; go_simp) ?_
              refine ⟨gq, cq, ?_, hB, fun h2 => hR (by rwa [up_ne 10 33 (by decide)] at h2)⟩
              unfold qmAct
              simp only [Act.put, List.setIfInBounds_toArray, List.set_cons_zero, List.set_cons_succ, hup, gx_true, up_ne 10 0 (by decide), up_ne 10 1 (by decide), up_ne 10 2 (by decide), up_ne 10 3 (by decide), up_ne 10 4 (by decide), up_ne 10 5 (by decide), up_ne 10 6 (by decide), up_ne 10 7 (by decide), up_ne 10 8 (by decide), up_ne 10 9 (by decide), up_ne 10 11 (by decide), up_ne 10 12 (by decide), up_ne 10 13 (by decide), up_ne 10 14 (by decide), up_ne 10 15 (by decide), up_ne 10 16 (by decide), up_ne 10 17 (by decide), up_ne 10 18 (by decide), up_ne 10 19 (by decide), up_ne 10 20 (by decide), up_ne 10 21 (by decide), up_ne 10 22 (by decide), up_ne 10 23 (by decide), up_ne 10 24 (by decide), up_ne 10 25 (by decide), up_ne 10 26 (by decide), up_ne 10 27 (by decide), up_ne 10 28 (by decide), up_ne 10 29 (by decide), up_ne 10 30 (by decide), up_ne 10 31 (by decide), up_ne 10 32 (by decide), up_ne 10 33 (by decide), up_ne 10 34 (by decide), up_ne 10 35 (by decide), up_ne 10 36 (by decide), up_ne 10 37 (by decide), up_ne 10 38 (by decide), up_ne 10 39 (by decide), up_ne 10 40 (by decide), up_ne 10 41 (by decide), up_ne 10 42 (by decide), up_ne 10 43 (by decide), up_ne 10 44 (by decide), up_ne 10 45 (by decide), up_ne 10 46 (by decide), up_ne 10 47 (by decide)]
            refine ⟨fun L A w2 hn hI => ?_, ?_⟩
            · obtain ⟨gq, cq, rfl, hB, hR⟩ := hI
              have hup := getD_up hn.2.1
              have dp9 : L.getD 9 false = true := hn.2.2.1 9 (by decide +kernel)
              refine st_val (v := .int .i64 d2) (W1 := w2) (wanted_f (x := false) rfl (by unfold qmAct; simp only [gx_true, dp9]; rfl)) (by unfold qmAct; simp only [gx_true, dp9]; go_simp) ?_
              refine ⟨gq, cq, ?_, hB, fun h2 => hR (by rwa [up_ne 11 33 (by decide)] at h2)⟩
              unfold qmAct
              simp only [Act.put, List.setIfInBounds_toArray, List.set_cons_zero, List.set_cons_succ, hup, gx_true, up_ne 11 0 (by decide), up_ne 11 1 (by decide), up_ne 11 2 (by decide), up_ne 11 3 (by decide), up_ne 11 4 (by decide), up_ne 11 5 (by decide), up_ne 11 6 (by decide), up_ne 11 7 (by decide), up_ne 11 8 (by decide), up_ne 11 9 (by decide), up_ne 11 10 (by decide), up_ne 11 12 (by decide), up_ne 11 13 (by decide), up_ne 11 14 (by decide), up_ne 11 15 (by decide), up_ne 11 16 (by decide), up_ne 11 17 (by decide), up_ne 11 18 (by decide), up_ne 11 19 (by decide), up_ne 11 20 (by decide), up_ne 11 21 (by decide), up_ne 11 22 (by decide), up_ne 11 23 (by decide), up_ne 11 24 (by decide), up_ne 11 25 (by decide), up_ne 11 26 (by decide), up_ne 11 27 (by decide), up_ne 11 28 (by decide), up_ne 11 29 (by decide), up_ne 11 30 (by decide), up_ne 11 31 (by decide), up_ne 11 32 (by decide), up_ne 11 33 (by decide), up_ne 11 34 (by decide), up_ne 11 35 (by decide), up_ne 11 36 (by decide), up_ne 11 37 (by decide), up_ne 11 38 (by decide), up_ne 11 39 (by decide), up_ne 11 40 (by decide), up_ne 11 41 (by decide), up_ne 11 42 (by decide), up_ne 11 43 (by decide), up_ne 11 44 (by decide), up_ne 11 45 (by decide), up_ne 11 46 (by decide), up_ne 11 47 (by decide)]
            refine ⟨fun L A w2 hn hI => ?_, ?_⟩
            · obtain ⟨gq, cq, rfl, hB, hR⟩ := hI
              have hup := getD_up hn.2.1
              have dp9 : L.getD 9 false = true := hn.2.2.1 9 (by decide +kernel)
              have kc := (hB.cell (p := ⟨kb, 0, none⟩) zkb).trans HKB.out
              have zkw := Nat.lt_of_lt_of_le zkb hB.size
              refine st_val (v := .slice (some ⟨gb, 0, none⟩) 8 8) (W1 := w2) (wanted_f (x := false) rfl (by unfold qmAct; simp only [gx_true, dp9]; rfl)) (by unfold qmAct; simp only [gx_true, dp9]; go_simp) ?_
              refine ⟨gq, cq, ?_, hB, fun h2 => hR (by rwa [up_ne 12 33 (by decide)] at h2)⟩
              unfold qmAct
              simp only [Act.put, List.setIfInBounds_toArray, List.set_cons_zero, List.set_cons_succ, hup, gx_true, up_ne 12 0 (by decide), up_ne 12 1 (by decide), up_ne 12 2 (by decide), up_ne 12 3 (by decide), up_ne 12 4 (by decide), up_ne 12 5 (by decide), up_ne 12 6 (by decide), up_ne 12 7 (by decide), up_ne 12 8 (by decide), up_ne 12 9 (by decide), up_ne 12 10 (by decide), up_ne 12 11 (by decide), up_ne 12 13 (by decide), up_ne 12 14 (by decide), up_ne 12 15 (by decide), up_ne 12 16 (by decide), up_ne 12 17 (by decide), up_ne 12 18 (by decide), up_ne 12 19 (by decide), up_ne 12 20 (by decide), up_ne 12 21 (by decide), up_ne 12 22 (by decide), up_ne 12 23 (by decide), up_ne 12 24 (by decide), up_ne 12 25 (by decide), up_ne 12 26 (by decide), up_ne 12 27 (by decide), up_ne 12 28 (by decide), up_ne 12 29 (by decide), up_ne 12 30 (by decide), up_ne 12 31 (by decide), up_ne 12 32 (by decide), up_ne 12 33 (by decide), up_ne 12 34 (by decide), up_ne 12 35 (by decide), up_ne 12 36 (by decide), up_ne 12 37 (by decide), up_ne 12 38 (by decide), up_ne 12 39 (by decide), up_ne 12 40 (by decide), up_ne 12 41 (by decide), up_ne 12 42 (by decide), up_ne 12 43 (by decide), up_ne 12 44 (by decide), up_ne 12 45 (by decide), up_ne 12 46 (by decide), up_ne 12 47 (by decide)]
            refine ⟨fun L A w2 hn hI => ?_, ?_⟩
            · obtain ⟨gq, cq, rfl, hB, hR⟩ := hI
              have hup := getD_up hn.2.1
              have dp10 : L.getD 10 false = true := hn.2.2.1 10 (by decide +kernel)
              have dp11 : L.getD 11 false = true := hn.2.2.1 11 (by decide +kernel)
              have dp12 : L.getD 12 false = true := hn.2.2.1 12 (by decide +kernel)
              have dp9 : L.getD 9 false = true := hn.2.2.1 9 (by decide +kernel)
              refine st_call (f := 19) (args := #[.pointer (some ⟨p, 0, none⟩), .int .i64 d2, .slice (some ⟨gb, 0, none⟩) 8 8]) (W1 := w2) (wanted_f (x := false) rfl (by unfold qmAct; simp only [gx_true, dp10, dp11, dp12, dp9]; rfl)) (by unfold qmAct; simp only [gx_true, dp10, dp11, dp12, dp9]; first | (go_simp; done) | (go_simp; exact ⟨rfl, rfl⟩) | (go_simp; with_reducible rfl)) ((H2.out w2 hB).mono ?_)
              rintro e' w3 ⟨rfl, m3, dd3, rfl⟩
              refine ⟨_, rfl, gq, cq, ?_, Below.ext_mk hB hB.size m3 dd3, fun h2 => (hR (by rwa [up_ne 13 33 (by decide)] at h2)).below (Below.ext_mk (Below.refl _ _) (Nat.le_refl _) m3 dd3)⟩
              unfold qmAct
              simp only [Act.put, List.setIfInBounds_toArray, List.set_cons_zero, List.set_cons_succ, hup, gx_true, up_ne 13 0 (by decide), up_ne 13 1 (by decide), up_ne 13 2 (by decide), up_ne 13 3 (by decide), up_ne 13 4 (by decide), up_ne 13 5 (by decide), up_ne 13 6 (by decide), up_ne 13 7 (by decide), up_ne 13 8 (by decide), up_ne 13 9 (by decide), up_ne 13 10 (by decide), up_ne 13 11 (by decide), up_ne 13 12 (by decide), up_ne 13 14 (by decide), up_ne 13 15 (by decide), up_ne 13 16 (by decide), up_ne 13 17 (by decide), up_ne 13 18 (by decide), up_ne 13 19 (by decide), up_ne 13 20 (by decide), up_ne 13 21 (by decide), up_ne 13 22 (by decide), up_ne 13 23 (by decide), up_ne 13 24 (by decide), up_ne 13 25 (by decide), up_ne 13 26 (by decide), up_ne 13 27 (by decide), up_ne 13 28 (by decide), up_ne 13 29 (by decide), up_ne 13 30 (by decide), up_ne 13 31 (by decide), up_ne 13 32 (by decide), up_ne 13 33 (by decide), up_ne 13 34 (by decide), up_ne 13 35 (by decide), up_ne 13 36 (by decide), up_ne 13 37 (by decide), up_ne 13 38 (by decide), up_ne 13 39 (by decide), up_ne 13 40 (by decide), up_ne 13 41 (by decide), up_ne 13 42 (by decide), up_ne 13 43 (by decide), up_ne 13 44 (by decide), up_ne 13 45 (by decide), up_ne 13 46 (by decide), up_ne 13 47 (by decide)]
            refine ⟨fun L A w2 hn hI => ?_, ?_⟩
            · obtain ⟨gq, cq, rfl, hB, hR⟩ := hI
              have hup := getD_up hn.2.1
              have dp9 : L.getD 9 false = true := hn.2.2.1 9 (by decide +kernel)
              refine st_val (v := .bool lo) (W1 := w2) (wanted_f (x := false) rfl (by unfold qmAct; simp only [gx_true, dp9]; rfl)) (by unfold qmAct; simp only [gx_true, dp9]; go_simp) ?_
              refine ⟨gq, cq, ?_, hB, fun h2 => hR (by rwa [up_ne 14 33 (by decide)] at h2)⟩
              unfold qmAct
              simp only [Act.put, List.setIfInBounds_toArray, List.set_cons_zero, List.set_cons_succ, hup, gx_true, up_ne 14 0 (by decide), up_ne 14 1 (by decide), up_ne 14 2 (by decide), up_ne 14 3 (by decide), up_ne 14 4 (by decide), up_ne 14 5 (by decide), up_ne 14 6 (by decide), up_ne 14 7 (by decide), up_ne 14 8 (by decide), up_ne 14 9 (by decide), up_ne 14 10 (by decide), up_ne 14 11 (by decide), up_ne 14 12 (by decide), up_ne 14 13 (by decide), up_ne 14 15 (by decide), up_ne 14 16 (by decide), up_ne 14 17 (by decide), up_ne 14 18 (by decide), up_ne 14 19 (by decide), up_ne 14 20 (by decide), up_ne 14 21 (by decide), up_ne 14 22 (by decide), up_ne 14 23 (by decide), up_ne 14 24 (by decide), up_ne 14 25 (by decide), up_ne 14 26 (by decide), up_ne 14 27 (by decide), up_ne 14 28 (by decide), up_ne 14 29 (by decide), up_ne 14 30 (by decide), up_ne 14 31 (by decide), up_ne 14 32 (by decide), up_ne 14 33 (by decide), up_ne 14 34 (by decide), up_ne 14 35 (by decide), up_ne 14 36 (by decide), up_ne 14 37 (by decide), up_ne 14 38 (by decide), up_ne 14 39 (by decide), up_ne 14 40 (by decide), up_ne 14 41 (by decide), up_ne 14 42 (by decide), up_ne 14 43 (by decide), up_ne 14 44 (by decide), up_ne 14 45 (by decide), up_ne 14 46 (by decide), up_ne 14 47 (by decide)]
            refine ⟨fun L A w2 hn hI => ?_, ?_⟩
            · obtain ⟨gq, cq, rfl, hB, hR⟩ := hI
              have hup := getD_up hn.2.1
              have dp14 : L.getD 14 false = true := hn.2.2.1 14 (by decide +kernel)
              have dp9 : L.getD 9 false = true := hn.2.2.1 9 (by decide +kernel)
              refine st_val (v := .bool lo) (W1 := w2) (wanted_f (x := false) rfl (by unfold qmAct; simp only [gx_true, dp14, dp9]; rfl)) (by unfold qmAct; simp only [gx_true, dp14, dp9]; go_simp) ?_
              refine ⟨gq, cq, ?_, hB, fun h2 => hR (by rwa [up_ne 15 33 (by decide)] at h2)⟩
              unfold qmAct
              simp only [Act.put, List.setIfInBounds_toArray, List.set_cons_zero, List.set_cons_succ, hup, gx_true, up_ne 15 0 (by decide), up_ne 15 1 (by decide), up_ne 15 2 (by decide), up_ne 15 3 (by decide), up_ne 15 4 (by decide), up_ne 15 5 (by decide), up_ne 15 6 (by decide), up_ne 15 7 (by decide), up_ne 15 8 (by decide), up_ne 15 9 (by decide), up_ne 15 10 (by decide), up_ne 15 11 (by decide), up_ne 15 12 (by decide), up_ne 15 13 (by decide), up_ne 15 14 (by decide), up_ne 15 16 (by decide), up_ne 15 17 (by decide), up_ne 15 18 (by decide), up_ne 15 19 (by decide), up_ne 15 20 (by decide), up_ne 15 21 (by decide), up_ne 15 22 (by decide), up_ne 15 23 (by decide), up_ne 15 24 (by decide), up_ne 15 25 (by decide), up_ne 15 26 (by decide), up_ne 15 27 (by decide), up_ne 15 28 (by decide), up_ne 15 29 (by decide), up_ne 15 30 (by decide), up_ne 15 31 (by decide), up_ne 15 32 (by decide), up_ne 15 33 (by decide), up_ne 15 34 (by decide), up_ne 15 35 (by decide), up_ne 15 36 (by decide), up_ne 15 37 (by decide), up_ne 15 38 (by decide), up_ne 15 39 (by decide), up_ne 15 40 (by decide), up_ne 15 41 (by decide), up_ne 15 42 (by decide), up_ne 15 43 (by decide), up_ne 15 44 (by decide), up_ne 15 45 (by decide), up_ne 15 46 (by decide), up_ne 15 47 (by decide)]
            refine ⟨fun L A w2 hn hI => ?_, ?_⟩
            · obtain ⟨gq, cq, rfl, hB, hR⟩ := hI
              have hup := getD_up hn.2.1
              have dp15 : L.getD 15 false = true := hn.2.2.1 15 (by decide +kernel)
              cases lo
              · refine st_not ((wanted_t (x := false) rfl (by unfold qmAct; simp only [gx_true, dp15]; rfl)).trans rfl) ?_
                refine ⟨gq, cq, ?_, hB, fun h2 => hR (by rwa [up_ne 16 33 (by decide)] at h2)⟩
                unfold qmAct
                simp only [Act.put, List.setIfInBounds_toArray, List.set_cons_zero, List.set_cons_succ, hup, gx_true, up_ne 16 0 (by decide), up_ne 16 1 (by decide), up_ne 16 2 (by decide), up_ne 16 3 (by decide), up_ne 16 4 (by decide), up_ne 16 5 (by decide), up_ne 16 6 (by decide), up_ne 16 7 (by decide), up_ne 16 8 (by decide), up_ne 16 9 (by decide), up_ne 16 10 (by decide), up_ne 16 11 (by decide), up_ne 16 12 (by decide), up_ne 16 13 (by decide), up_ne 16 14 (by decide), up_ne 16 15 (by decide), up_ne 16 17 (by decide), up_ne 16 18 (by decide), up_ne 16 19 (by decide), up_ne 16 20 (by decide), up_ne 16 21 (by decide), up_ne 16 22 (by decide), up_ne 16 23 (by decide), up_ne 16 24 (by decide), up_ne 16 25 (by decide), up_ne 16 26 (by decide), up_ne 16 27 (by decide), up_ne 16 28 (by decide), up_ne 16 29 (by decide), up_ne 16 30 (by decide), up_ne 16 31 (by decide), up_ne 16 32 (by decide), up_ne 16 33 (by decide), up_ne 16 34 (by decide), up_ne 16 35 (by decide), up_ne 16 36 (by decide), up_ne 16 37 (by decide), up_ne 16 38 (by decide), up_ne 16 39 (by decide), up_ne 16 40 (by decide), up_ne 16 41 (by decide), up_ne 16 42 (by decide), up_ne 16 43 (by decide), up_ne 16 44 (by decide), up_ne 16 45 (by decide), up_ne 16 46 (by decide), up_ne 16 47 (by decide)]
                try rfl
              · refine st_val (v := .bool hi) (W1 := w2) (wanted_t (x := true) rfl (by unfold qmAct; simp only [gx_true, dp15]; rfl)) (by unfold qmAct; simp only [gx_true, dp15]; go_simp) ?_
                refine ⟨gq, cq, ?_, hB, fun h2 => hR (by rwa [up_ne 16 33 (by decide)] at h2)⟩
                unfold qmAct
                simp only [Act.put, List.setIfInBounds_toArray, List.set_cons_zero, List.set_cons_succ, hup, gx_true, up_ne 16 0 (by decide), up_ne 16 1 (by decide), up_ne 16 2 (by decide), up_ne 16 3 (by decide), up_ne 16 4 (by decide), up_ne 16 5 (by decide), up_ne 16 6 (by decide), up_ne 16 7 (by decide), up_ne 16 8 (by decide), up_ne 16 9 (by decide), up_ne 16 10 (by decide), up_ne 16 11 (by decide), up_ne 16 12 (by decide), up_ne 16 13 (by decide), up_ne 16 14 (by decide), up_ne 16 15 (by decide), up_ne 16 17 (by decide), up_ne 16 18 (by decide), up_ne 16 19 (by decide), up_ne 16 20 (by decide), up_ne 16 21 (by decide), up_ne 16 22 (by decide), up_ne 16 23 (by decide), up_ne 16 24 (by decide), up_ne 16 25 (by decide), up_ne 16 26 (by decide), up_ne 16 27 (by decide), up_ne 16 28 (by decide), up_ne 16 29 (by decide), up_ne 16 30 (by decide), up_ne 16 31 (by decide), up_ne 16 32 (by decide), up_ne 16 33 (by decide), up_ne 16 34 (by decide), up_ne 16 35 (by decide), up_ne 16 36 (by decide), up_ne 16 37 (by decide), up_ne 16 38 (by decide), up_ne 16 39 (by decide), up_ne 16 40 (by decide), up_ne 16 41 (by decide), up_ne 16 42 (by decide), up_ne 16 43 (by decide), up_ne 16 44 (by decide), up_ne 16 45 (by decide), up_ne 16 46 (by decide), up_ne 16 47 (by decide)]
                try rfl
            refine ⟨fun L A w2 hn hI => ?_, ?_⟩
            · obtain ⟨gq, cq, rfl, hB, hR⟩ := hI
              have hup := getD_up hn.2.1
              have dp15 : L.getD 15 false = true := hn.2.2.1 15 (by decide +kernel)
              have dp16 : L.getD 16 false = true := hn.2.2.1 16 (by decide +kernel)
              have dp9 : L.getD 9 false = true := hn.2.2.1 9 (by decide +kernel)
              cases lo
              · refine st_val (v := .bool (false && hi)) (W1 := w2) (wanted_f (x := false) rfl (by unfold qmAct; simp only [gx_true, dp15, dp16, dp9]; rfl)) (by unfold qmAct; simp only [Bool.false_eq_true, if_true, if_false, gx_true, dp15, dp16, dp9]; go_simp) ?_
                refine ⟨gq, cq, ?_, hB, fun h2 => hR (by rwa [up_ne 17 33 (by decide)] at h2)⟩
                unfold qmAct
                simp only [Act.put, List.setIfInBounds_toArray, List.set_cons_zero, List.set_cons_succ, hup, gx_true, up_ne 17 0 (by decide), up_ne 17 1 (by decide), up_ne 17 2 (by decide), up_ne 17 3 (by decide), up_ne 17 4 (by decide), up_ne 17 5 (by decide), up_ne 17 6 (by decide), up_ne 17 7 (by decide), up_ne 17 8 (by decide), up_ne 17 9 (by decide), up_ne 17 10 (by decide), up_ne 17 11 (by decide), up_ne 17 12 (by decide), up_ne 17 13 (by decide), up_ne 17 14 (by decide), up_ne 17 15 (by decide), up_ne 17 16 (by decide), up_ne 17 18 (by decide), up_ne 17 19 (by decide), up_ne 17 20 (by decide), up_ne 17 21 (by decide), up_ne 17 22 (by decide), up_ne 17 23 (by decide), up_ne 17 24 (by decide), up_ne 17 25 (by decide), up_ne 17 26 (by decide), up_ne 17 27 (by decide), up_ne 17 28 (by decide), up_ne 17 29 (by decide), up_ne 17 30 (by decide), up_ne 17 31 (by decide), up_ne 17 32 (by decide), up_ne 17 33 (by decide), up_ne 17 34 (by decide), up_ne 17 35 (by decide), up_ne 17 36 (by decide), up_ne 17 37 (by decide), up_ne 17 38 (by decide), up_ne 17 39 (by decide), up_ne 17 40 (by decide), up_ne 17 41 (by decide), up_ne 17 42 (by decide), up_ne 17 43 (by decide), up_ne 17 44 (by decide), up_ne 17 45 (by decide), up_ne 17 46 (by decide), up_ne 17 47 (by decide)]
              · refine st_val (v := .bool (true && hi)) (W1 := w2) (wanted_f (x := false) rfl (by unfold qmAct; simp only [gx_true, dp15, dp16, dp9]; rfl)) (by unfold qmAct; simp only [Bool.false_eq_true, if_true, if_false, gx_true, dp15, dp16, dp9]; go_simp) ?_
                refine ⟨gq, cq, ?_, hB, fun h2 => hR (by rwa [up_ne 17 33 (by decide)] at h2)⟩
                unfold qmAct
                simp only [Act.put, List.setIfInBounds_toArray, List.set_cons_zero, List.set_cons_succ, hup, gx_true, up_ne 17 0 (by decide), up_ne 17 1 (by decide), up_ne 17 2 (by decide), up_ne 17 3 (by decide), up_ne 17 4 (by decide), up_ne 17 5 (by decide), up_ne 17 6 (by decide), up_ne 17 7 (by decide), up_ne 17 8 (by decide), up_ne 17 9 (by decide), up_ne 17 10 (by decide), up_ne 17 11 (by decide), up_ne 17 12 (by decide), up_ne 17 13 (by decide), up_ne 17 14 (by decide), up_ne 17 15 (by decide), up_ne 17 16 (by decide), up_ne 17 18 (by decide), up_ne 17 19 (by decide), up_ne 17 20 (by decide), up_ne 17 21 (by decide), up_ne 17 22 (by decide), up_ne 17 23 (by decide), up_ne 17 24 (by decide), up_ne 17 25 (by decide), up_ne 17 26 (by decide), up_ne 17 27 (by decide), up_ne 17 28 (by decide), up_ne 17 29 (by decide), up_ne 17 30 (by decide), up_ne 17 31 (by decide), up_ne 17 32 (by decide), up_ne 17 33 (by decide), up_ne 17 34 (by decide), up_ne 17 35 (by decide), up_ne 17 36 (by decide), up_ne 17 37 (by decide), up_ne 17 38 (by decide), up_ne 17 39 (by decide), up_ne 17 40 (by decide), up_ne 17 41 (by decide), up_ne 17 42 (by decide), up_ne 17 43 (by decide), up_ne 17 44 (by decide), up_ne 17 45 (by decide), up_ne 17 46 (by decide), up_ne 17 47 (by decide)]
            refine ⟨fun L A w2 hn hI => ?_, ?_⟩
            · obtain ⟨gq, cq, rfl, hB, hR⟩ := hI
              have hup := getD_up hn.2.1
              have dp13 : L.getD 13 false = true := hn.2.2.1 13 (by decide +kernel)
              have dp17 : L.getD 17 false = true := hn.2.2.1 17 (by decide +kernel)
              have dp9 : L.getD 9 false = true := hn.2.2.1 9 (by decide +kernel)
              refine st_val (v := .bool false) (W1 := w2) (wanted_f (x := false) rfl (by unfold qmAct; simp only [gx_true, dp13, dp17, dp9]; rfl)) (by unfold qmAct; simp only [gx_true, dp13, dp17, dp9]; go_simp) ?_
              refine ⟨gq, cq, ?_, hB, fun h2 => hR (by rwa [up_ne 18 33 (by decide)] at h2)⟩
              unfold qmAct
              simp only [Act.put, List.setIfInBounds_toArray, List.set_cons_zero, List.set_cons_succ, hup, gx_true, up_ne 18 0 (by decide), up_ne 18 1 (by decide), up_ne 18 2 (by decide), up_ne 18 3 (by decide), up_ne 18 4 (by decide), up_ne 18 5 (by decide), up_ne 18 6 (by decide), up_ne 18 7 (by decide), up_ne 18 8 (by decide), up_ne 18 9 (by decide), up_ne 18 10 (by decide), up_ne 18 11 (by decide), up_ne 18 12 (by decide), up_ne 18 13 (by decide), up_ne 18 14 (by decide), up_ne 18 15 (by decide), up_ne 18 16 (by decide), up_ne 18 17 (by decide), up_ne 18 19 (by decide), up_ne 18 20 (by decide), up_ne 18 21 (by decide), up_ne 18 22 (by decide), up_ne 18 23 (by decide), up_ne 18 24 (by decide), up_ne 18 25 (by decide), up_ne 18 26 (by decide), up_ne 18 27 (by decide), up_ne 18 28 (by decide), up_ne 18 29 (by decide), up_ne 18 30 (by decide), up_ne 18 31 (by decide), up_ne 18 32 (by decide), up_ne 18 33 (by decide), up_ne 18 34 (by decide), up_ne 18 35 (by decide), up_ne 18 36 (by decide), up_ne 18 37 (by decide), up_ne 18 38 (by decide), up_ne 18 39 (by decide), up_ne 18 40 (by decide), up_ne 18 41 (by decide), up_ne 18 42 (by decide), up_ne 18 43 (by decide), up_ne 18 44 (by decide), up_ne 18 45 (by decide), up_ne 18 46 (by decide), up_ne 18 47 (by decide)]
            refine ⟨fun L A w2 hn hI => ?_, ?_⟩
            · obtain ⟨gq, cq, rfl, hB, hR⟩ := hI
              have hup := getD_up hn.2.1
              have dp9 : L.getD 9 false = true := hn.2.2.1 9 (by decide +kernel)
              have dp18 : L.getD 18 false = true := hn.2.2.1 18 (by decide +kernel)
              refine st_val (v := .bool false) (W1 := w2) rfl (by unfold qmAct; simp only [gx_true, dp9, dp18]; go_simp) ?_
              refine ⟨gq, cq, ?_, hB, fun h2 => hR (by rwa [up_ne 19 33 (by decide)] at h2)⟩
              unfold qmAct
              simp only [Act.put, List.setIfInBounds_toArray, List.set_cons_zero, List.set_cons_succ, hup, gx_true, up_ne 19 0 (by decide), up_ne 19 1 (by decide), up_ne 19 2 (by decide), up_ne 19 3 (by decide), up_ne 19 4 (by decide), up_ne 19 5 (by decide), up_ne 19 6 (by decide), up_ne 19 7 (by decide), up_ne 19 8 (by decide), up_ne 19 9 (by decide), up_ne 19 10 (by decide), up_ne 19 11 (by decide), up_ne 19 12 (by decide), up_ne 19 13 (by decide), up_ne 19 14 (by decide), up_ne 19 15 (by decide), up_ne 19 16 (by decide), up_ne 19 17 (by decide), up_ne 19 18 (by decide), up_ne 19 20 (by decide), up_ne 19 21 (by decide), up_ne 19 22 (by decide), up_ne 19 23 (by decide), up_ne 19 24 (by decide), up_ne 19 25 (by decide), up_ne 19 26 (by decide), up_ne 19 27 (by decide), up_ne 19 28 (by decide), up_ne 19 29 (by decide), up_ne 19 30 (by decide), up_ne 19 31 (by decide), up_ne 19 32 (by decide), up_ne 19 33 (by decide), up_ne 19 34 (by decide), up_ne 19 35 (by decide), up_ne 19 36 (by decide), up_ne 19 37 (by decide), up_ne 19 38 (by decide), up_ne 19 39 (by decide), up_ne 19 40 (by decide), up_ne 19 41 (by decide), up_ne 19 42 (by decide), up_ne 19 43 (by decide), up_ne 19 44 (by decide), up_ne 19 45 (by decide), up_ne 19 46 (by decide), up_ne 19 47 (by decide)]
            refine ⟨fun L A w2 hn hI => ?_, ?_⟩
            · obtain ⟨gq, cq, rfl, hB, hR⟩ := hI
              have hup := getD_up hn.2.1
              have dp19 : L.getD 19 false = true := hn.2.2.1 19 (by decide +kernel)
              refine st_val (v := .bool false) (W1 := w2) rfl (by unfold qmAct; simp only [gx_true, dp19]; go_simp) ?_
              refine ⟨gq, cq, ?_, hB, fun h2 => hR (by rwa [up_ne 20 33 (by decide)] at h2)⟩
              unfold qmAct
              simp only [Act.put, List.setIfInBounds_toArray, List.set_cons_zero, List.set_cons_succ, hup, gx_true, up_ne 20 0 (by decide), up_ne 20 1 (by decide), up_ne 20 2 (by decide), up_ne 20 3 (by decide), up_ne 20 4 (by decide), up_ne 20 5 (by decide), up_ne 20 6 (by decide), up_ne 20 7 (by decide), up_ne 20 8 (by decide), up_ne 20 9 (by decide), up_ne 20 10 (by decide), up_ne 20 11 (by decide), up_ne 20 12 (by decide), up_ne 20 13 (by decide), up_ne 20 14 (by decide), up_ne 20 15 (by decide), up_ne 20 16 (by decide), up_ne 20 17 (by decide), up_ne 20 18 (by decide), up_ne 20 19 (by decide), up_ne 20 21 (by decide), up_ne 20 22 (by decide), up_ne 20 23 (by decide), up_ne 20 24 (by decide), up_ne 20 25 (by decide), up_ne 20 26 (by decide), up_ne 20 27 (by decide), up_ne 20 28 (by decide), up_ne 20 29 (by decide), up_ne 20 30 (by decide), up_ne 20 31 (by decide), up_ne 20 32 (by decide), up_ne 20 33 (by decide), up_ne 20 34 (by decide), up_ne 20 35 (by decide), up_ne 20 36 (by decide), up_ne 20 37 (by decide), up_ne 20 38 (by decide), up_ne 20 39 (by decide), up_ne 20 40 (by decide), up_ne 20 41 (by decide), up_ne 20 42 (by decide), up_ne 20 43 (by decide), up_ne 20 44 (by decide), up_ne 20 45 (by decide), up_ne 20 46 (by decide), up_ne 20 47 (by decide)]
            refine ⟨fun L A w2 hn hI => ?_, ?_⟩
            · obtain ⟨gq, cq, rfl, hB, hR⟩ := hI
              have hup := getD_up hn.2.1
              have dp20 : L.getD 20 false = true := hn.2.2.1 20 (by decide +kernel)
              refine st_val (v := .pointer (some ⟨p, 0, none⟩)) (W1 := w2) (wanted_f (x := false) rfl (by unfold qmAct; simp only [gx_true, dp20]; rfl)) (by unfold qmAct; simp only [gx_true, dp20]; go_simp) ?_
              refine ⟨gq, cq, ?_, hB, fun h2 => hR (by rwa [up_ne 21 33 (by decide)] at h2)⟩
              unfold qmAct
              simp only [Act.put, List.setIfInBounds_toArray, List.set_cons_zero, List.set_cons_succ, hup, gx_true, up_ne 21 0 (by decide), up_ne 21 1 (by decide), up_ne 21 2 (by decide), up_ne 21 3 (by decide), up_ne 21 4 (by decide), up_ne 21 5 (by decide), up_ne 21 6 (by decide), up_ne 21 7 (by decide), up_ne 21 8 (by decide), up_ne 21 9 (by decide), up_ne 21 10 (by decide), up_ne 21 11 (by decide), up_ne 21 12 (by decide), up_ne 21 13 (by decide), up_ne 21 14 (by decide), up_ne 21 15 (by decide), up_ne 21 16 (by decide), up_ne 21 17 (by decide), up_ne 21 18 (by decide), up_ne 21 19 (by decide), up_ne 21 20 (by decide), up_ne 21 22 (by decide), up_ne 21 23 (by decide), up_ne 21 24 (by decide), up_ne 21 25 (by decide), up_ne 21 26 (by decide), up_ne 21 27 (by decide), up_ne 21 28 (by decide), up_ne 21 29 (by decide), up_ne 21 30 (by decide), up_ne 21 31 (by decide), up_ne 21 32 (by decide), up_ne 21 33 (by decide), up_ne 21 34 (by decide), up_ne 21 35 (by decide), up_ne 21 36 (by decide), up_ne 21 37 (by decide), up_ne 21 38 (by decide), up_ne 21 39 (by decide), up_ne 21 40 (by decide), up_ne 21 41 (by decide), up_ne 21 42 (by decide), up_ne 21 43 (by decide), up_ne 21 44 (by decide), up_ne 21 45 (by decide), up_ne 21 46 (by decide), up_ne 21 47 (by decide)]
            refine ⟨fun L A w2 hn hI => ?_, ?_⟩
            · obtain ⟨gq, cq, rfl, hB, hR⟩ := hI
              have hup := getD_up hn.2.1
              have dp20 : L.getD 20 false = true := hn.2.2.1 20 (by decide +kernel)
              refine st_val (v := .int .i64 d3) (W1 := w2) (wanted_f (x := false) rfl (by unfold qmAct; simp only [gx_true, dp20]; rfl)) (by unfold qmAct; simp only [gx_true, dp20]; go_simp) ?_
              refine ⟨gq, cq, ?_, hB, fun h2 => hR (by rwa [up_ne 22 33 (by decide)] at h2)⟩
              unfold qmAct
              simp only [Act.put, List.setIfInBounds_toArray, List.set_cons_zero, List.set_cons_succ, hup, gx_true, up_ne 22 0 (by decide), up_ne 22 1 (by decide), up_ne 22 2 (by decide), up_ne 22 3 (by decide), up_ne 22 4 (by decide), up_ne 22 5 (by decide), up_ne 22 6 (by decide), up_ne 22 7 (by decide), up_ne 22 8 (by decide), up_ne 22 9 (by decide), up_ne 22 10 (by decide), up_ne 22 11 (by decide), up_ne 22 12 (by decide), up_ne 22 13 (by decide), up_ne 22 14 (by decide), up_ne 22 15 (by decide), up_ne 22 16 (by decide), up_ne 22 17 (by decide), up_ne 22 18 (by decide), up_ne 22 19 (by decide), up_ne 22 20 (by decide), up_ne 22 21 (by decide), up_ne 22 23 (by decide), up_ne 22 24 (by decide), up_ne 22 25 (by decide), up_ne 22 26 (by decide), up_ne 22 27 (by decide), up_ne 22 28 (by decide), up_ne 22 29 (by decide), up_ne 22 30 (by decide), up_ne 22 31 (by decide), up_ne 22 32 (by decide), up_ne 22 33 (by decide), up_ne 22 34 (by decide), up_ne 22 35 (by decide), up_ne 22 36 (by decide), up_ne 22 37 (by decide), up_ne 22 38 (by decide), up_ne 22 39 (by decide), up_ne 22 40 (by decide), up_ne 22 41 (by decide), up_ne 22 42 (by decide), up_ne 22 43 (by decide), up_ne 22 44 (by decide), up_ne 22 45 (by decide), up_ne 22 46 (by decide), up_ne 22 47 (by decide)]
            refine ⟨fun L A w2 hn hI => ?_, ?_⟩
            · obtain ⟨gq, cq, rfl, hB, hR⟩ := hI
              have hup := getD_up hn.2.1
              have dp20 : L.getD 20 false = true := hn.2.2.1 20 (by decide +kernel)
              have kc := (hB.cell (p := ⟨kb, 0, none⟩) zkb).trans HKB.out
              have zkw := Nat.lt_of_lt_of_le zkb hB.size
              refine st_val (v := .slice (some ⟨gb, 0, none⟩) 8 8) (W1 := w2) (wanted_f (x := false) rfl (by unfold qmAct; simp only [gx_true, dp20]; rfl)) (by unfold qmAct; simp only [gx_true, dp20]; go_simp) ?_
              refine ⟨gq, cq, ?_, hB, fun h2 => hR (by rwa [up_ne 23 33 (by decide)] at h2)⟩
              unfold qmAct
              simp only [Act.put, List.setIfInBounds_toArray, List.set_cons_zero, List.set_cons_succ, hup, gx_true, up_ne 23 0 (by decide), up_ne 23 1 (by decide), up_ne 23 2 (by decide), up_ne 23 3 (by decide), up_ne 23 4 (by decide), up_ne 23 5 (by decide), up_ne 23 6 (by decide), up_ne 23 7 (by decide), up_ne 23 8 (by decide), up_ne 23 9 (by decide), up_ne 23 10 (by decide), up_ne 23 11 (by decide), up_ne 23 12 (by decide), up_ne 23 13 (by decide), up_ne 23 14 (by decide), up_ne 23 15 (by decide), up_ne 23 16 (by decide), up_ne 23 17 (by decide), up_ne 23 18 (by decide), up_ne 23 19 (by decide), up_ne 23 20 (by decide), up_ne 23 21 (by decide), up_ne 23 22 (by decide), up_ne 23 24 (by decide), up_ne 23 25 (by decide), up_ne 23 26 (by decide), up_ne 23 27 (by decide), up_ne 23 28 (by decide), up_ne 23 29 (by decide), up_ne 23 30 (by decide), up_ne 23 31 (by decide), up_ne 23 32 (by decide), up_ne 23 33 (by decide), up_ne 23 34 (by decide), up_ne 23 35 (by decide), up_ne 23 36 (by decide), up_ne 23 37 (by decide), up_ne 23 38 (by decide), up_ne 23 39 (by decide), up_ne 23 40 (by decide), up_ne 23 41 (by decide), up_ne 23 42 (by decide), up_ne 23 43 (by decide), up_ne 23 44 (by decide), up_ne 23 45 (by decide), up_ne 23 46 (by decide), up_ne 23 47 (by decide)]
            refine ⟨fun L A w2 hn hI => ?_, ?_⟩
            · obtain ⟨gq, cq, rfl, hB, hR⟩ := hI
              have hup := getD_up hn.2.1
              have dp21 : L.getD 21 false = true := hn.2.2.1 21 (by decide +kernel)
              have dp22 : L.getD 22 false = true := hn.2.2.1 22 (by decide +kernel)
              have dp23 : L.getD 23 false = true := hn.2.2.1 23 (by decide +kernel)
              have dp20 : L.getD 20 false = true := hn.2.2.1 20 (by decide +kernel)
              refine st_call (f := 19) (args := #[.pointer (some ⟨p, 0, none⟩), .int .i64 d3, .slice (some ⟨gb, 0, none⟩) 8 8]) (W1 := w2) (wanted_f (x := false) rfl (by unfold qmAct; simp only [gx_true, dp21, dp22, dp23, dp20]; rfl)) (by unfold qmAct; simp only [gx_true, dp21, dp22, dp23, dp20]; first | (go_simp; done) | (go_simp; exact ⟨rfl, rfl⟩) | (go_simp; with_reducible rfl)) ((H3.out w2 hB).mono ?_)
              rintro e' w3 ⟨rfl, m3, dd3, rfl⟩
              refine ⟨_, rfl, gq, cq, ?_, Below.ext_mk hB hB.size m3 dd3, fun h2 => (hR (by rwa [up_ne 24 33 (by decide)] at h2)).below (Below.ext_mk (Below.refl _ _) (Nat.le_refl _) m3 dd3)⟩
              unfold qmAct
              simp only [Act.put, List.setIfInBounds_toArray, List.set_cons_zero, List.set_cons_succ, hup, gx_true, up_ne 24 0 (by decide), up_ne 24 1 (by decide), up_ne 24 2 (by decide), up_ne 24 3 (by decide), up_ne 24 4 (by decide), up_ne 24 5 (by decide), up_ne 24 6 (by decide), up_ne 24 7 (by decide), up_ne 24 8 (by decide), up_ne 24 9 (by decide), up_ne 24 10 (by decide), up_ne 24 11 (by decide), up_ne 24 12 (by decide), up_ne 24 13 (by decide), up_ne 24 14 (by decide), up_ne 24 15 (by decide), up_ne 24 16 (by decide), up_ne 24 17 (by decide), up_ne 24 18 (by decide), up_ne 24 19 (by decide), up_ne 24 20 (by decide), up_ne 24 21 (by decide), up_ne 24 22 (by decide), up_ne 24 23 (by decide), up_ne 24 25 (by decide), up_ne 24 26 (by decide), up_ne 24 27 (by decide), up_ne 24 28 (by decide), up_ne 24 29 (by decide), up_ne 24 30 (by decide), up_ne 24 31 (by decide), up_ne 24 32 (by decide), up_ne 24 33 (by decide), up_ne 24 34 (by decide), up_ne 24 35 (by decide), up_ne 24 36 (by decide), up_ne 24 37 (by decide), up_ne 24 38 (by decide), up_ne 24 39 (by decide), up_ne 24 40 (by decide), up_ne 24 41 (by decide), up_ne 24 42 (by decide), up_ne 24 43 (by decide), up_ne 24 44 (by decide), up_ne 24 45 (by decide), up_ne 24 46 (by decide), up_ne 24 47 (by decide)]
            refine ⟨fun L A w2 hn hI => ?_, ?_⟩
            · obtain ⟨gq, cq, rfl, hB, hR⟩ := hI
              have hup := getD_up hn.2.1
              have dp20 : L.getD 20 false = true := hn.2.2.1 20 (by decide +kernel)
              refine st_val (v := .pointer (some ⟨p, 0, none⟩)) (W1 := w2) (wanted_f (x := false) rfl (by unfold qmAct; simp only [gx_true, dp20]; rfl)) (by unfold qmAct; simp only [gx_true, dp20]; go_simp) ?_
              refine ⟨gq, cq, ?_, hB, fun h2 => hR (by rwa [up_ne 25 33 (by decide)] at h2)⟩
              unfold qmAct
              simp only [Act.put, List.setIfInBounds_toArray, List.set_cons_zero, List.set_cons_succ, hup, gx_true, up_ne 25 0 (by decide), up_ne 25 1 (by decide), up_ne 25 2 (by decide), up_ne 25 3 (by decide), up_ne 25 4 (by decide), up_ne 25 5 (by decide), up_ne 25 6 (by decide), up_ne 25 7 (by decide), up_ne 25 8 (by decide), up_ne 25 9 (by decide), up_ne 25 10 (by decide), up_ne 25 11 (by decide), up_ne 25 12 (by decide), up_ne 25 13 (by decide), up_ne 25 14 (by decide), up_ne 25 15 (by decide), up_ne 25 16 (by decide), up_ne 25 17 (by decide), up_ne 25 18 (by decide), up_ne 25 19 (by decide), up_ne 25 20 (by decide), up_ne 25 21 (by decide), up_ne 25 22 (by decide), up_ne 25 23 (by decide), up_ne 25 24 (by decide), up_ne 25 26 (by decide), up_ne 25 27 (by decide), up_ne 25 28 (by decide), up_ne 25 29 (by decide), up_ne 25 30 (by decide), up_ne 25 31 (by decide), up_ne 25 32 (by decide), up_ne 25 33 (by decide), up_ne 25 34 (by decide), up_ne 25 35 (by decide), up_ne 25 36 (by decide), up_ne 25 37 (by decide), up_ne 25 38 (by decide), up_ne 25 39 (by decide), up_ne 25 40 (by decide), up_ne 25 41 (by decide), up_ne 25 42 (by decide), up_ne 25 43 (by decide), up_ne 25 44 (by decide), up_ne 25 45 (by decide), up_ne 25 46 (by decide), up_ne 25 47 (by decide)]
            refine ⟨fun L A w2 hn hI => ?_, ?_⟩
            · obtain ⟨gq, cq, rfl, hB, hR⟩ := hI
              have hup := getD_up hn.2.1
              have dp20 : L.getD 20 false = true := hn.2.2.1 20 (by decide +kernel)
              refine st_val (v := .int .i64 a) (W1 := w2) (wanted_f (x := false) rfl (by unfold qmAct; simp only [gx_true, dp20]; rfl)) (by unfold qmAct; simp only [gx_true, dp20]; go_simp) ?_
              refine ⟨gq, cq, ?_, hB, fun h2 => hR (by rwa [up_ne 26 33 (by decide)] at h2)⟩
              unfold qmAct
              simp only [Act.put, List.setIfInBounds_toArray, List.set_cons_zero, List.set_cons_succ, hup, gx_true, up_ne 26 0 (by decide), up_ne 26 1 (by decide), up_ne 26 2 (by decide), up_ne 26 3 (by decide), up_ne 26 4 (by decide), up_ne 26 5 (by decide), up_ne 26 6 (by decide), up_ne 26 7 (by decide), up_ne 26 8 (by decide), up_ne 26 9 (by decide), up_ne 26 10 (by decide), up_ne 26 11 (by decide), up_ne 26 12 (by decide), up_ne 26 13 (by decide), up_ne 26 14 (by decide), up_ne 26 15 (by decide), up_ne 26 16 (by decide), up_ne 26 17 (by decide), up_ne 26 18 (by decide), up_ne 26 19 (by decide), up_ne 26 20 (by decide), up_ne 26 21 (by decide), up_ne 26 22 (by decide), up_ne 26 23 (by decide), up_ne 26 24 (by decide), up_ne 26 25 (by decide), up_ne 26 27 (by decide), up_ne 26 28 (by decide), up_ne 26 29 (by decide), up_ne 26 30 (by decide), up_ne 26 31 (by decide), up_ne 26 32 (by decide), up_ne 26 33 (by decide), up_ne 26 34 (by decide), up_ne 26 35 (by decide), up_ne 26 36 (by decide), up_ne 26 37 (by decide), up_ne 26 38 (by decide), up_ne 26 39 (by decide), up_ne 26 40 (by decide), up_ne 26 41 (by decide), up_ne 26 42 (by decide), up_ne 26 43 (by decide), up_ne 26 44 (by decide), up_ne 26 45 (by decide), up_ne 26 46 (by decide), up_ne 26 47 (by decide)]
            refine ⟨fun L A w2 hn hI => ?_, ?_⟩
            · obtain ⟨gq, cq, rfl, hB, hR⟩ := hI
              have hup := getD_up hn.2.1
              have dp20 : L.getD 20 false = true := hn.2.2.1 20 (by decide +kernel)
              refine st_val (v := .func (.func 62) #[] #[.pointer (some ⟨kb, 0, none⟩)]) (W1 := w2) (wanted_f (x := false) rfl (by unfold qmAct; simp only [gx_true, dp20]; rfl)) (by unfold qmAct; simp only [gx_true, dp20]; go_simp) ?_
              refine ⟨gq, cq, ?_, hB, fun h2 => hR (by rwa [up_ne 27 33 (by decide)] at h2)⟩
              unfold qmAct
              simp only [Act.put, List.setIfInBounds_toArray, List.set_cons_zero, List.set_cons_succ, hup, gx_true, up_ne 27 0 (by decide), up_ne 27 1 (by decide), up_ne 27 2 (by decide), up_ne 27 3 (by decide), up_ne 27 4 (by decide), up_ne 27 5 (by decide), up_ne 27 6 (by decide), up_ne 27 7 (by decide), up_ne 27 8 (by decide), up_ne 27 9 (by decide), up_ne 27 10 (by decide), up_ne 27 11 (by decide), up_ne 27 12 (by decide), up_ne 27 13 (by decide), up_ne 27 14 (by decide), up_ne 27 15 (by decide), up_ne 27 16 (by decide), up_ne 27 17 (by decide), up_ne 27 18 (by decide), up_ne 27 19 (by decide), up_ne 27 20 (by decide), up_ne 27 21 (by decide), up_ne 27 22 (by decide), up_ne 27 23 (by decide), up_ne 27 24 (by decide), up_ne 27 25 (by decide), up_ne 27 26 (by decide), up_ne 27 28 (by decide), up_ne 27 29 (by decide), up_ne 27 30 (by decide), up_ne 27 31 (by decide), up_ne 27 32 (by decide), up_ne 27 33 (by decide), up_ne 27 34 (by decide), up_ne 27 35 (by decide), up_ne 27 36 (by decide), up_ne 27 37 (by decide), up_ne 27 38 (by decide), up_ne 27 39 (by decide), up_ne 27 40 (by decide), up_ne 27 41 (by decide), up_ne 27 42 (by decide), up_ne 27 43 (by decide), up_ne 27 44 (by decide), up_ne 27 45 (by decide), up_ne 27 46 (by decide), up_ne 27 47 (by decide)]
            refine ⟨fun L A w2 hn hI => ?_, ?_⟩
            · obtain ⟨gq, cq, rfl, hB, hR⟩ := hI
              have hup := getD_up hn.2.1
              have dp20 : L.getD 20 false = true := hn.2.2.1 20 (by decide +kernel)
              refine st_val (v := .int .i64 (x : Nat)) (W1 := w2) (wanted_f (x := false) rfl (by unfold qmAct; simp only [gx_true, dp20]; rfl)) (by unfold qmAct; simp only [gx_true, dp20]; go_simp) ?_
              refine ⟨gq, cq, ?_, hB, fun h2 => hR (by rwa [up_ne 28 33 (by decide)] at h2)⟩
              unfold qmAct
              simp only [Act.put, List.setIfInBounds_toArray, List.set_cons_zero, List.set_cons_succ, hup, gx_true, up_ne 28 0 (by decide), up_ne 28 1 (by decide), up_ne 28 2 (by decide), up_ne 28 3 (by decide), up_ne 28 4 (by decide), up_ne 28 5 (by decide), up_ne 28 6 (by decide), up_ne 28 7 (by decide), up_ne 28 8 (by decide), up_ne 28 9 (by decide), up_ne 28 10 (by decide), up_ne 28 11 (by decide), up_ne 28 12 (by decide), up_ne 28 13 (by decide), up_ne 28 14 (by decide), up_ne 28 15 (by decide), up_ne 28 16 (by decide), up_ne 28 17 (by decide), up_ne 28 18 (by decide), up_ne 28 19 (by decide), up_ne 28 20 (by decide), up_ne 28 21 (by decide), up_ne 28 22 (by decide), up_ne 28 23 (by decide), up_ne 28 24 (by decide), up_ne 28 25 (by decide), up_ne 28 26 (by decide), up_ne 28 27 (by decide), up_ne 28 29 (by decide), up_ne 28 30 (by decide), up_ne 28 31 (by decide), up_ne 28 32 (by decide), up_ne 28 33 (by decide), up_ne 28 34 (by decide), up_ne 28 35 (by decide), up_ne 28 36 (by decide), up_ne 28 37 (by decide), up_ne 28 38 (by decide), up_ne 28 39 (by decide), up_ne 28 40 (by decide), up_ne 28 41 (by decide), up_ne 28 42 (by decide), up_ne 28 43 (by decide), up_ne 28 44 (by decide), up_ne 28 45 (by decide), up_ne 28 46 (by decide), up_ne 28 47 (by decide)]
            refine ⟨fun L A w2 hn hI => ?_, ?_⟩
            · obtain ⟨gq, cq, rfl, hB, hR⟩ := hI
              have hup := getD_up hn.2.1
              have dp20 : L.getD 20 false = true := hn.2.2.1 20 (by decide +kernel)
              refine st_val (v := .pointer (some ⟨p, 0, none⟩)) (W1 := w2) (wanted_f (x := false) rfl (by unfold qmAct; simp only [gx_true, dp20]; rfl)) (by unfold qmAct; simp only [gx_true, dp20]; go_simp) ?_
              refine ⟨gq, cq, ?_, hB, fun h2 => hR (by rwa [up_ne 29 33 (by decide)] at h2)⟩
              unfold qmAct
              simp only [Act.put, List.setIfInBounds_toArray, List.set_cons_zero, List.set_cons_succ, hup, gx_true, up_ne 29 0 (by decide), up_ne 29 1 (by decide), up_ne 29 2 (by decide), up_ne 29 3 (by decide), up_ne 29 4 (by decide), up_ne 29 5 (by decide), up_ne 29 6 (by decide), up_ne 29 7 (by decide), up_ne 29 8 (by decide), up_ne 29 9 (by decide), up_ne 29 10 (by decide), up_ne 29 11 (by decide), up_ne 29 12 (by decide), up_ne 29 13 (by decide), up_ne 29 14 (by decide), up_ne 29 15 (by decide), up_ne 29 16 (by decide), up_ne 29 17 (by decide), up_ne 29 18 (by decide), up_ne 29 19 (by decide), up_ne 29 20 (by decide), up_ne 29 21 (by decide), up_ne 29 22 (by decide), up_ne 29 23 (by decide), up_ne 29 24 (by decide), up_ne 29 25 (by decide), up_ne 29 26 (by decide), up_ne 29 27 (by decide), up_ne 29 28 (by decide), up_ne 29 30 (by decide), up_ne 29 31 (by decide), up_ne 29 32 (by decide), up_ne 29 33 (by decide), up_ne 29 34 (by decide), up_ne 29 35 (by decide), up_ne 29 36 (by decide), up_ne 29 37 (by decide), up_ne 29 38 (by decide), up_ne 29 39 (by decide), up_ne 29 40 (by decide), up_ne 29 41 (by decide), up_ne 29 42 (by decide), up_ne 29 43 (by decide), up_ne 29 44 (by decide), up_ne 29 45 (by decide), up_ne 29 46 (by decide), up_ne 29 47 (by decide)]
            refine ⟨fun L A w2 hn hI => ?_, ?_⟩
            · obtain ⟨gq, cq, rfl, hB, hR⟩ := hI
              have hup := getD_up hn.2.1
              have dp20 : L.getD 20 false = true := hn.2.2.1 20 (by decide +kernel)
              refine st_val (v := .int .i64 b) (W1 := w2) (wanted_f (x := false) rfl (by unfold qmAct; simp only [gx_true, dp20]; rfl)) (by unfold qmAct; simp only [gx_true, dp20]; go_simp) ?_
              refine ⟨gq, cq, ?_, hB, fun h2 => hR (by rwa [up_ne 30 33 (by decide)] at h2)⟩
              unfold qmAct
              simp only [Act.put, List.setIfInBounds_toArray, List.set_cons_zero, List.set_cons_succ, hup, gx_true, up_ne 30 0 (by decide), up_ne 30 1 (by decide), up_ne 30 2 (by decide), up_ne 30 3 (by decide), up_ne 30 4 (by decide), up_ne 30 5 (by decide), up_ne 30 6 (by decide), up_ne 30 7 (by decide), up_ne 30 8 (by decide), up_ne 30 9 (by decide), up_ne 30 10 (by decide), up_ne 30 11 (by decide), up_ne 30 12 (by decide), up_ne 30 13 (by decide), up_ne 30 14 (by decide), up_ne 30 15 (by decide), up_ne 30 16 (by decide), up_ne 30 17 (by decide), up_ne 30 18 (by decide), up_ne 30 19 (by decide), up_ne 30 20 (by decide), up_ne 30 21 (by decide), up_ne 30 22 (by decide), up_ne 30 23 (by decide), up_ne 30 24 (by decide), up_ne 30 25 (by decide), up_ne 30 26 (by decide), up_ne 30 27 (by decide), up_ne 30 28 (by decide), up_ne 30 29 (by decide), up_ne 30 31 (by decide), up_ne 30 32 (by decide), up_ne 30 33 (by decide), up_ne 30 34 (by decide), up_ne 30 35 (by decide), up_ne 30 36 (by decide), up_ne 30 37 (by decide), up_ne 30 38 (by decide), up_ne 30 39 (by decide), up_ne 30 40 (by decide), up_ne 30 41 (by decide), up_ne 30 42 (by decide), up_ne 30 43 (by decide), up_ne 30 44 (by decide), up_ne 30 45 (by decide), up_ne 30 46 (by decide), up_ne 30 47 (by decide)]
            refine ⟨fun L A w2 hn hI => ?_, ?_⟩
            · obtain ⟨gq, cq, rfl, hB, hR⟩ := hI
              have hup := getD_up hn.2.1
              have dp20 : L.getD 20 false = true := hn.2.2.1 20 (by decide +kernel)
              have kc := (hB.cell (p := ⟨kb, 0, none⟩) zkb).trans HKB.out
              have zkw := Nat.lt_of_lt_of_le zkb hB.size
              refine st_val (v := .slice (some ⟨gb, 0, none⟩) 8 8) (W1 := w2) (wanted_f (x := false) rfl (by unfold qmAct; simp only [gx_true, dp20]; rfl)) (by unfold qmAct; simp only [gx_true, dp20]; go_simp) ?_
              refine ⟨gq, cq, ?_, hB, fun h2 => hR (by rwa [up_ne 31 33 (by decide)] at h2)⟩
              unfold qmAct
              simp only [Act.put, List.setIfInBounds_toArray, List.set_cons_zero, List.set_cons_succ, hup, gx_true, up_ne 31 0 (by decide), up_ne 31 1 (by decide), up_ne 31 2 (by decide), up_ne 31 3 (by decide), up_ne 31 4 (by decide), up_ne 31 5 (by decide), up_ne 31 6 (by decide), up_ne 31 7 (by decide), up_ne 31 8 (by decide), up_ne 31 9 (by decide), up_ne 31 10 (by decide), up_ne 31 11 (by decide), up_ne 31 12 (by decide), up_ne 31 13 (by decide), up_ne 31 14 (by decide), up_ne 31 15 (by decide), up_ne 31 16 (by decide), up_ne 31 17 (by decide), up_ne 31 18 (by decide), up_ne 31 19 (by decide), up_ne 31 20 (by decide), up_ne 31 21 (by decide), up_ne 31 22 (by decide), up_ne 31 23 (by decide), up_ne 31 24 (by decide), up_ne 31 25 (by decide), up_ne 31 26 (by decide), up_ne 31 27 (by decide), up_ne 31 28 (by decide), up_ne 31 29 (by decide), up_ne 31 30 (by decide), up_ne 31 32 (by decide), up_ne 31 33 (by decide), up_ne 31 34 (by decide), up_ne 31 35 (by decide), up_ne 31 36 (by decide), up_ne 31 37 (by decide), up_ne 31 38 (by decide), up_ne 31 39 (by decide), up_ne 31 40 (by decide), up_ne 31 41 (by decide), up_ne 31 42 (by decide), up_ne 31 43 (by decide), up_ne 31 44 (by decide), up_ne 31 45 (by decide), up_ne 31 46 (by decide), up_ne 31 47 (by decide)]
            refine ⟨fun L A w2 hn hI => ?_, ?_⟩
            · obtain ⟨gq, cq, rfl, hB, hR⟩ := hI
              have hup := getD_up hn.2.1
              have dp29 : L.getD 29 false = true := hn.2.2.1 29 (by decide +kernel)
              have dp30 : L.getD 30 false = true := hn.2.2.1 30 (by decide +kernel)
              have dp31 : L.getD 31 false = true := hn.2.2.1 31 (by decide +kernel)
              have dp20 : L.getD 20 false = true := hn.2.2.1 20 (by decide +kernel)
              refine st_call (f := 19) (args := #[.pointer (some ⟨p, 0, none⟩), .int .i64 b, .slice (some ⟨gb, 0, none⟩) 8 8]) (W1 := w2) (wanted_f (x := false) rfl (by unfold qmAct; simp only [gx_true, dp29, dp30, dp31, dp20]; rfl)) (by unfold qmAct; simp only [gx_true, dp29, dp30, dp31, dp20]; first | (go_simp; done) | (go_simp; exact ⟨rfl, rfl⟩) | (go_simp; with_reducible rfl)) ((HB.out w2 hB).mono ?_)
              rintro e' w3 ⟨rfl, m3, dd3, rfl⟩
              refine ⟨_, rfl, gq, cq, ?_, Below.ext_mk hB hB.size m3 dd3, fun h2 => (hR (by rwa [up_ne 32 33 (by decide)] at h2)).below (Below.ext_mk (Below.refl _ _) (Nat.le_refl _) m3 dd3)⟩
              unfold qmAct
              simp only [Act.put, List.setIfInBounds_toArray, List.set_cons_zero, List.set_cons_succ, hup, gx_true, up_ne 32 0 (by decide), up_ne 32 1 (by decide), up_ne 32 2 (by decide), up_ne 32 3 (by decide), up_ne 32 4 (by decide), up_ne 32 5 (by decide), up_ne 32 6 (by decide), up_ne 32 7 (by decide), up_ne 32 8 (by decide), up_ne 32 9 (by decide), up_ne 32 10 (by decide), up_ne 32 11 (by decide), up_ne 32 12 (by decide), up_ne 32 13 (by decide), up_ne 32 14 (by decide), up_ne 32 15 (by decide), up_ne 32 16 (by decide), up_ne 32 17 (by decide), up_ne 32 18 (by decide), up_ne 32 19 (by decide), up_ne 32 20 (by decide), up_ne 32 21 (by decide), up_ne 32 22 (by decide), up_ne 32 23 (by decide), up_ne 32 24 (by decide), up_ne 32 25 (by decide), up_ne 32 26 (by decide), up_ne 32 27 (by decide), up_ne 32 28 (by decide), up_ne 32 29 (by decide), up_ne 32 30 (by decide), up_ne 32 31 (by decide), up_ne 32 33 (by decide), up_ne 32 34 (by decide), up_ne 32 35 (by decide), up_ne 32 36 (by decide), up_ne 32 37 (by decide), up_ne 32 38 (by decide), up_ne 32 39 (by decide), up_ne 32 40 (by decide), up_ne 32 41 (by decide), up_ne 32 42 (by decide), up_ne 32 43 (by decide), up_ne 32 44 (by decide), up_ne 32 45 (by decide), up_ne 32 46 (by decide), up_ne 32 47 (by decide)]
            refine ⟨fun L A w2 hn hI => ?_, ?_⟩
            · obtain ⟨gq, cq, rfl, hB, hR⟩ := hI
              have hup := getD_up hn.2.1
              have dp27 : L.getD 27 false = true := hn.2.2.1 27 (by decide +kernel)
              have dp28 : L.getD 28 false = true := hn.2.2.1 28 (by decide +kernel)
              have dp32 : L.getD 32 false = true := hn.2.2.1 32 (by decide +kernel)
              have dp20 : L.getD 20 false = true := hn.2.2.1 20 (by decide +kernel)
              refine st_call (f := 62) (args := #[.int .i64 (x : Nat), .bool vb, .pointer (some ⟨kb, 0, none⟩)]) (W1 := w2) (wanted_f (x := false) rfl (by unfold qmAct; simp only [gx_true, dp27, dp28, dp32, dp20]; rfl)) (by unfold qmAct; simp only [gx_true, dp27, dp28, dp32, dp20]; first | (go_simp; done) | (go_simp; exact ⟨rfl, rfl⟩) | (go_simp; with_reducible rfl)) ((TD.out w2 hB).mono ?_)
              rintro e' w3 ⟨g3, c3, rfl, q1, q3⟩
              refine ⟨_, rfl, g3, c3, ?_, hB.trans (q3.mono hB.size), fun _ => q1⟩
              unfold qmAct
              simp only [Act.put, List.setIfInBounds_toArray, List.set_cons_zero, List.set_cons_succ, hup, gx_true, up_ne 33 0 (by decide), up_ne 33 1 (by decide), up_ne 33 2 (by decide), up_ne 33 3 (by decide), up_ne 33 4 (by decide), up_ne 33 5 (by decide), up_ne 33 6 (by decide), up_ne 33 7 (by decide), up_ne 33 8 (by decide), up_ne 33 9 (by decide), up_ne 33 10 (by decide), up_ne 33 11 (by decide), up_ne 33 12 (by decide), up_ne 33 13 (by decide), up_ne 33 14 (by decide), up_ne 33 15 (by decide), up_ne 33 16 (by decide), up_ne 33 17 (by decide), up_ne 33 18 (by decide), up_ne 33 19 (by decide), up_ne 33 20 (by decide), up_ne 33 21 (by decide), up_ne 33 22 (by decide), up_ne 33 23 (by decide), up_ne 33 24 (by decide), up_ne 33 25 (by decide), up_ne 33 26 (by decide), up_ne 33 27 (by decide), up_ne 33 28 (by decide), up_ne 33 29 (by decide), up_ne 33 30 (by decide), up_ne 33 31 (by decide), up_ne 33 32 (by decide), up_ne 33 34 (by decide), up_ne 33 35 (by decide), up_ne 33 36 (by decide), up_ne 33 37 (by decide), up_ne 33 38 (by decide), up_ne 33 39 (by decide), up_ne 33 40 (by decide), up_ne 33 41 (by decide), up_ne 33 42 (by decide), up_ne 33 43 (by decide), up_ne 33 44 (by decide), up_ne 33 45 (by decide), up_ne 33 46 (by decide), up_ne 33 47 (by decide)]
            refine ⟨fun L A w2 hn hI => ?_, ?_⟩
            · obtain ⟨gq, cq, rfl, hB, hR⟩ := hI
              have hup := getD_up hn.2.1
              have dp25 : L.getD 25 false = true := hn.2.2.1 25 (by decide +kernel)
              have dp26 : L.getD 26 false = true := hn.2.2.1 26 (by decide +kernel)
              have dp33 : L.getD 33 false = true := hn.2.2.1 33 (by decide +kernel)
              have dp20 : L.getD 20 false = true := hn.2.2.1 20 (by decide +kernel)
              refine st_call (f := 19) (args := #[.pointer (some ⟨p, 0, none⟩), .int .i64 a, .slice (some ⟨gq, 0, none⟩) 8 cq]) (W1 := w2) (wanted_f (x := false) rfl (by unfold qmAct; simp only [gx_true, dp25, dp26, dp33, dp20]; rfl)) (by unfold qmAct; simp only [gx_true, dp25, dp26, dp33, dp20]; first | (go_simp; done) | (go_simp; exact ⟨rfl, rfl⟩) | (go_simp; with_reducible rfl)) ((HN.out w2 hB _ (hR dp33)).mono ?_)
              rintro e' w3 ⟨rfl, m3, dd3, rfl⟩
              refine ⟨_, rfl, gq, cq, ?_, Below.ext_mk hB hB.size m3 dd3, fun h2 => (hR (by rwa [up_ne 34 33 (by decide)] at h2)).below (Below.ext_mk (Below.refl _ _) (Nat.le_refl _) m3 dd3)⟩
              unfold qmAct
              simp only [Act.put, List.setIfInBounds_toArray, List.set_cons_zero, List.set_cons_succ, hup, gx_true, up_ne 34 0 (by decide), up_ne 34 1 (by decide), up_ne 34 2 (by decide), up_ne 34 3 (by decide), up_ne 34 4 (by decide), up_ne 34 5 (by decide), up_ne 34 6 (by decide), up_ne 34 7 (by decide), up_ne 34 8 (by decide), up_ne 34 9 (by decide), up_ne 34 10 (by decide), up_ne 34 11 (by decide), up_ne 34 12 (by decide), up_ne 34 13 (by decide), up_ne 34 14 (by decide), up_ne 34 15 (by decide), up_ne 34 16 (by decide), up_ne 34 17 (by decide), up_ne 34 18 (by decide), up_ne 34 19 (by decide), up_ne 34 20 (by decide), up_ne 34 21 (by decide), up_ne 34 22 (by decide), up_ne 34 23 (by decide), up_ne 34 24 (by decide), up_ne 34 25 (by decide), up_ne 34 26 (by decide), up_ne 34 27 (by decide), up_ne 34 28 (by decide), up_ne 34 29 (by decide), up_ne 34 30 (by decide), up_ne 34 31 (by decide), up_ne 34 32 (by decide), up_ne 34 33 (by decide), up_ne 34 35 (by decide), up_ne 34 36 (by decide), up_ne 34 37 (by decide), up_ne 34 38 (by decide), up_ne 34 39 (by decide), up_ne 34 40 (by decide), up_ne 34 41 (by decide), up_ne 34 42 (by decide), up_ne 34 43 (by decide), up_ne 34 44 (by decide), up_ne 34 45 (by decide), up_ne 34 46 (by decide), up_ne 34 47 (by decide)]
            refine ⟨fun L A w2 hn hI => ?_, ?_⟩
            · obtain ⟨gq, cq, rfl, hB, hR⟩ := hI
              have hup := getD_up hn.2.1
              have dp24 : L.getD 24 false = true := hn.2.2.1 24 (by decide +kernel)
              have dp34 : L.getD 34 false = true := hn.2.2.1 34 (by decide +kernel)
              have dp20 : L.getD 20 false = true := hn.2.2.1 20 (by decide +kernel)
              refine st_val (v := .bool false) (W1 := w2) (wanted_f (x := false) rfl (by unfold qmAct; simp only [gx_true, dp24, dp34, dp20]; rfl)) (by unfold qmAct; simp only [gx_true, dp24, dp34, dp20]; go_simp) ?_
              refine ⟨gq, cq, ?_, hB, fun h2 => hR (by rwa [up_ne 35 33 (by decide)] at h2)⟩
              unfold qmAct
              simp only [Act.put, List.setIfInBounds_toArray, List.set_cons_zero, List.set_cons_succ, hup, gx_true, up_ne 35 0 (by decide), up_ne 35 1 (by decide), up_ne 35 2 (by decide), up_ne 35 3 (by decide), up_ne 35 4 (by decide), up_ne 35 5 (by decide), up_ne 35 6 (by decide), up_ne 35 7 (by decide), up_ne 35 8 (by decide), up_ne 35 9 (by decide), up_ne 35 10 (by decide), up_ne 35 11 (by decide), up_ne 35 12 (by decide), up_ne 35 13 (by decide), up_ne 35 14 (by decide), up_ne 35 15 (by decide), up_ne 35 16 (by decide), up_ne 35 17 (by decide), up_ne 35 18 (by decide), up_ne 35 19 (by decide), up_ne 35 20 (by decide), up_ne 35 21 (by decide), up_ne 35 22 (by decide), up_ne 35 23 (by decide), up_ne 35 24 (by decide), up_ne 35 25 (by decide), up_ne 35 26 (by decide), up_ne 35 27 (by decide), up_ne 35 28 (by decide), up_ne 35 29 (by decide), up_ne 35 30 (by decide), up_ne 35 31 (by decide), up_ne 35 32 (by decide), up_ne 35 33 (by decide), up_ne 35 34 (by decide), up_ne 35 36 (by decide), up_ne 35 37 (by decide), up_ne 35 38 (by decide), up_ne 35 39 (by decide), up_ne 35 40 (by decide), up_ne 35 41 (by decide), up_ne 35 42 (by decide), up_ne 35 43 (by decide), up_ne 35 44 (by decide), up_ne 35 45 (by decide), up_ne 35 46 (by decide), up_ne 35 47 (by decide)]
            refine ⟨fun L A w2 hn hI => ?_, ?_⟩
            · obtain ⟨gq, cq, rfl, hB, hR⟩ := hI
              have hup := getD_up hn.2.1
              have dp20 : L.getD 20 false = true := hn.2.2.1 20 (by decide +kernel)
              have dp35 : L.getD 35 false = true := hn.2.2.1 35 (by decide +kernel)
              refine st_val (v := .bool false) (W1 := w2) rfl (by unfold qmAct; simp only [gx_true, dp20, dp35]; go_simp) ?_
              refine ⟨gq, cq, ?_, hB, fun h2 => hR (by rwa [up_ne 36 33 (by decide)] at h2)⟩
              unfold qmAct
              simp only [Act.put, List.setIfInBounds_toArray, List.set_cons_zero, List.set_cons_succ, hup, gx_true, up_ne 36 0 (by decide), up_ne 36 1 (by decide), up_ne 36 2 (by decide), up_ne 36 3 (by decide), up_ne 36 4 (by decide), up_ne 36 5 (by decide), up_ne 36 6 (by decide), up_ne 36 7 (by decide), up_ne 36 8 (by decide), up_ne 36 9 (by decide), up_ne 36 10 (by decide), up_ne 36 11 (by decide), up_ne 36 12 (by decide), up_ne 36 13 (by decide), up_ne 36 14 (by decide), up_ne 36 15 (by decide), up_ne 36 16 (by decide), up_ne 36 17 (by decide), up_ne 36 18 (by decide), up_ne 36 19 (by decide), up_ne 36 20 (by decide), up_ne 36 21 (by decide), up_ne 36 22 (by decide), up_ne 36 23 (by decide), up_ne 36 24 (by decide), up_ne 36 25 (by decide), up_ne 36 26 (by decide), up_ne 36 27 (by decide), up_ne 36 28 (by decide), up_ne 36 29 (by decide), up_ne 36 30 (by decide), up_ne 36 31 (by decide), up_ne 36 32 (by decide), up_ne 36 33 (by decide), up_ne 36 34 (by decide), up_ne 36 35 (by decide), up_ne 36 37 (by decide), up_ne 36 38 (by decide), up_ne 36 39 (by decide), up_ne 36 40 (by decide), up_ne 36 41 (by decide), up_ne 36 42 (by decide), up_ne 36 43 (by decide), up_ne 36 44 (by decide), up_ne 36 45 (by decide), up_ne 36 46 (by decide), up_ne 36 47 (by decide)]
            refine ⟨fun L A w2 hn hI => ?_, ?_⟩
            · obtain ⟨gq, cq, rfl, hB, hR⟩ := hI
              have hup := getD_up hn.2.1
              have dp36 : L.getD 36 false = true := hn.2.2.1 36 (by decide +kernel)
              refine st_val (v := .bool false) (W1 := w2) rfl (by unfold qmAct; simp only [gx_true, dp36]; go_simp) ?_
              refine ⟨gq, cq, ?_, hB, fun h2 => hR (by rwa [up_ne 37 33 (by decide)] at h2)⟩
              unfold qmAct
              simp only [Act.put, List.setIfInBounds_toArray, List.set_cons_zero, List.set_cons_succ, hup, gx_true, up_ne 37 0 (by decide), up_ne 37 1 (by decide), up_ne 37 2 (by decide), up_ne 37 3 (by decide), up_ne 37 4 (by decide), up_ne 37 5 (by decide), up_ne 37 6 (by decide), up_ne 37 7 (by decide), up_ne 37 8 (by decide), up_ne 37 9 (by decide), up_ne 37 10 (by decide), up_ne 37 11 (by decide), up_ne 37 12 (by decide), up_ne 37 13 (by decide), up_ne 37 14 (by decide), up_ne 37 15 (by decide), up_ne 37 16 (by decide), up_ne 37 17 (by decide), up_ne 37 18 (by decide), up_ne 37 19 (by decide), up_ne 37 20 (by decide), up_ne 37 21 (by decide), up_ne 37 22 (by decide), up_ne 37 23 (by decide), up_ne 37 24 (by decide), up_ne 37 25 (by decide), up_ne 37 26 (by decide), up_ne 37 27 (by decide), up_ne 37 28 (by decide), up_ne 37 29 (by decide), up_ne 37 30 (by decide), up_ne 37 31 (by decide), up_ne 37 32 (by decide), up_ne 37 33 (by decide), up_ne 37 34 (by decide), up_ne 37 35 (by decide), up_ne 37 36 (by decide), up_ne 37 38 (by decide), up_ne 37 39 (by decide), up_ne 37 40 (by decide), up_ne 37 41 (by decide), up_ne 37 42 (by decide), up_ne 37 43 (by decide), up_ne 37 44 (by decide), up_ne 37 45 (by decide), up_ne 37 46 (by decide), up_ne 37 47 (by decide)]
            refine ⟨fun L A w2 hn hI => ?_, ?_⟩
            · obtain ⟨gq, cq, rfl, hB, hR⟩ := hI
              have hup := getD_up hn.2.1
              have dp37 : L.getD 37 false = true := hn.2.2.1 37 (by decide +kernel)
              refine st_val (v := .pointer (some ⟨p, 0, none⟩)) (W1 := w2) (wanted_f (x := false) rfl (by unfold qmAct; simp only [gx_true, dp37]; rfl)) (by unfold qmAct; simp only [gx_true, dp37]; go_simp) ?_
              refine ⟨gq, cq, ?_, hB, fun h2 => hR (by rwa [up_ne 38 33 (by decide)] at h2)⟩
              unfold qmAct
              simp only [Act.put, List.setIfInBounds_toArray, List.set_cons_zero, List.set_cons_succ, hup, gx_true, up_ne 38 0 (by decide), up_ne 38 1 (by decide), up_ne 38 2 (by decide), up_ne 38 3 (by decide), up_ne 38 4 (by decide), up_ne 38 5 (by decide), up_ne 38 6 (by decide), up_ne 38 7 (by decide), up_ne 38 8 (by decide), up_ne 38 9 (by decide), up_ne 38 10 (by decide), up_ne 38 11 (by decide), up_ne 38 12 (by decide), up_ne 38 13 (by decide), up_ne 38 14 (by decide), up_ne 38 15 (by decide), up_ne 38 16 (by decide), up_ne 38 17 (by decide), up_ne 38 18 (by decide), up_ne 38 19 (by decide), up_ne 38 20 (by decide), up_ne 38 21 (by decide), up_ne 38 22 (by decide), up_ne 38 23 (by decide), up_ne 38 24 (by decide), up_ne 38 25 (by decide), up_ne 38 26 (by decide), up_ne 38 27 (by decide), up_ne 38 28 (by decide), up_ne 38 29 (by decide), up_ne 38 30 (by decide), up_ne 38 31 (by decide), up_ne 38 32 (by decide), up_ne 38 33 (by decide), up_ne 38 34 (by decide), up_ne 38 35 (by decide), up_ne 38 36 (by decide), up_ne 38 37 (by decide), up_ne 38 39 (by decide), up_ne 38 40 (by decide), up_ne 38 41 (by decide), up_ne 38 42 (by decide), up_ne 38 43 (by decide), up_ne 38 44 (by decide), up_ne 38 45 (by decide), up_ne 38 46 (by decide), up_ne 38 47 (by decide)]
            refine ⟨fun L A w2 hn hI => ?_, ?_⟩
            · obtain ⟨gq, cq, rfl, hB, hR⟩ := hI
              have hup := getD_up hn.2.1
              have dp37 : L.getD 37 false = true := hn.2.2.1 37 (by decide +kernel)
              refine st_val (v := .int .i64 d4) (W1 := w2) (wanted_f (x := false) rfl (by unfold qmAct; simp only [gx_true, dp37]; rfl)) (by unfold qmAct; simp only [gx_true, dp37]; go_simp) ?_
              refine ⟨gq, cq, ?_, hB, fun h2 => hR (by rwa [up_ne 39 33 (by decide)] at h2)⟩
              unfold qmAct
              simp only [Act.put, List.setIfInBounds_toArray, List.set_cons_zero, List.set_cons_succ, hup, gx_true, up_ne 39 0 (by decide), up_ne 39 1 (by decide), up_ne 39 2 (by decide), up_ne 39 3 (by decide), up_ne 39 4 (by decide), up_ne 39 5 (by decide), up_ne 39 6 (by decide), up_ne 39 7 (by decide), up_ne 39 8 (by decide), up_ne 39 9 (by decide), up_ne 39 10 (by decide), up_ne 39 11 (by decide), up_ne 39 12 (by decide), up_ne 39 13 (by decide), up_ne 39 14 (by decide), up_ne 39 15 (by decide), up_ne 39 16 (by decide), up_ne 39 17 (by decide), up_ne 39 18 (by decide), up_ne 39 19 (by decide), up_ne 39 20 (by decide), up_ne 39 21 (by decide), up_ne 39 22 (by decide), up_ne 39 23 (by decide), up_ne 39 24 (by decide), up_ne 39 25 (by decide), up_ne 39 26 (by decide), up_ne 39 27 (by decide), up_ne 39 28 (by decide), up_ne 39 29 (by decide), up_ne 39 30 (by decide), up_ne 39 31 (by decide), up_ne 39 32 (by decide), up_ne 39 33 (by decide), up_ne 39 34 (by decide), up_ne 39 35 (by decide), up_ne 39 36 (by decide), up_ne 39 37 (by decide), up_ne 39 38 (by decide), up_ne 39 40 (by decide), up_ne 39 41 (by decide), up_ne 39 42 (by decide), up_ne 39 43 (by decide), up_ne 39 44 (by decide), up_ne 39 45 (by decide), up_ne 39 46 (by decide), up_ne 39 47 (by decide)]
            refine ⟨fun L A w2 hn hI => ?_, ?_⟩
            · obtain ⟨gq, cq, rfl, hB, hR⟩ := hI
              have hup := getD_up hn.2.1
              have dp37 : L.getD 37 false = true := hn.2.2.1 37 (by decide +kernel)
              have kc := (hB.cell (p := ⟨kb, 0, none⟩) zkb).trans HKB.out
              have zkw := Nat.lt_of_lt_of_le zkb hB.size
              refine st_val (v := .slice (some ⟨gb, 0, none⟩) 8 8) (W1 := w2) (wanted_f (x := false) rfl (by unfold qmAct; simp only [gx_true, dp37]; rfl)) (by unfold qmAct; simp only [gx_true, dp37]; go_simp) ?_
              refine ⟨gq, cq, ?_, hB, fun h2 => hR (by rwa [up_ne 40 33 (by decide)] at h2)⟩
              unfold qmAct
              simp only [Act.put, List.setIfInBounds_toArray, List.set_cons_zero, List.set_cons_succ, hup, gx_true, up_ne 40 0 (by decide), up_ne 40 1 (by decide), up_ne 40 2 (by decide), up_ne 40 3 (by decide), up_ne 40 4 (by decide), up_ne 40 5 (by decide), up_ne 40 6 (by decide), up_ne 40 7 (by decide), up_ne 40 8 (by decide), up_ne 40 9 (by decide), up_ne 40 10 (by decide), up_ne 40 11 (by decide), up_ne 40 12 (by decide), up_ne 40 13 (by decide), up_ne 40 14 (by decide), up_ne 40 15 (by decide), up_ne 40 16 (by decide), up_ne 40 17 (by decide), up_ne 40 18 (by decide), up_ne 40 19 (by decide), up_ne 40 20 (by decide), up_ne 40 21 (by decide), up_ne 40 22 (by decide), up_ne 40 23 (by decide), up_ne 40 24 (by decide), up_ne 40 25 (by decide), up_ne 40 26 (by decide), up_ne 40 27 (by decide), up_ne 40 28 (by decide), up_ne 40 29 (by decide), up_ne 40 30 (by decide), up_ne 40 31 (by decide), up_ne 40 32 (by decide), up_ne 40 33 (by decide), up_ne 40 34 (by decide), up_ne 40 35 (by decide), up_ne 40 36 (by decide), up_ne 40 37 (by decide), up_ne 40 38 (by decide), up_ne 40 39 (by decide), up_ne 40 41 (by decide), up_ne 40 42 (by decide), up_ne 40 43 (by decide), up_ne 40 44 (by decide), up_ne 40 45 (by decide), up_ne 40 46 (by decide), up_ne 40 47 (by decide)]
            refine ⟨fun L A w2 hn hI => ?_, ?_⟩
            · obtain ⟨gq, cq, rfl, hB, hR⟩ := hI
              have hup := getD_up hn.2.1
              have dp38 : L.getD 38 false = true := hn.2.2.1 38 (by decide +kernel)
              have dp39 : L.getD 39 false = true := hn.2.2.1 39 (by decide +kernel)
              have dp40 : L.getD 40 false = true := hn.2.2.1 40 (by decide +kernel)
              have dp37 : L.getD 37 false = true := hn.2.2.1 37 (by decide +kernel)
              refine st_call (f := 19) (args := #[.pointer (some ⟨p, 0, none⟩), .int .i64 d4, .slice (some ⟨gb, 0, none⟩) 8 8]) (W1 := w2) (wanted_f (x := false) rfl (by unfold qmAct; simp only [gx_true, dp38, dp39, dp40, dp37]; rfl)) (by unfold qmAct; simp only [gx_true, dp38, dp39, dp40, dp37]; first | (go_simp; done) | (go_simp; exact ⟨rfl, rfl⟩) | (go_simp; with_reducible rfl)) ((H4.out w2 hB).mono ?_)
              rintro e' w3 ⟨rfl, m3, dd3, rfl⟩
              refine ⟨_, rfl, gq, cq, ?_, Below.ext_mk hB hB.size m3 dd3, fun h2 => (hR (by rwa [up_ne 41 33 (by decide)] at h2)).below (Below.ext_mk (Below.refl _ _) (Nat.le_refl _) m3 dd3)⟩
              unfold qmAct
              simp only [Act.put, List.setIfInBounds_toArray, List.set_cons_zero, List.set_cons_succ, hup, gx_true, up_ne 41 0 (by decide), up_ne 41 1 (by decide), up_ne 41 2 (by decide), up_ne 41 3 (by decide), up_ne 41 4 (by decide), up_ne 41 5 (by decide), up_ne 41 6 (by decide), up_ne 41 7 (by decide), up_ne 41 8 (by decide), up_ne 41 9 (by decide), up_ne 41 10 (by decide), up_ne 41 11 (by decide), up_ne 41 12 (by decide), up_ne 41 13 (by decide), up_ne 41 14 (by decide), up_ne 41 15 (by decide), up_ne 41 16 (by decide), up_ne 41 17 (by decide), up_ne 41 18 (by decide), up_ne 41 19 (by decide), up_ne 41 20 (by decide), up_ne 41 21 (by decide), up_ne 41 22 (by decide), up_ne 41 23 (by decide), up_ne 41 24 (by decide), up_ne 41 25 (by decide), up_ne 41 26 (by decide), up_ne 41 27 (by decide), up_ne 41 28 (by decide), up_ne 41 29 (by decide), up_ne 41 30 (by decide), up_ne 41 31 (by decide), up_ne 41 32 (by decide), up_ne 41 33 (by decide), up_ne 41 34 (by decide), up_ne 41 35 (by decide), up_ne 41 36 (by decide), up_ne 41 37 (by decide), up_ne 41 38 (by decide), up_ne 41 39 (by decide), up_ne 41 40 (by decide), up_ne 41 42 (by decide), up_ne 41 43 (by decide), up_ne 41 44 (by decide), up_ne 41 45 (by decide), up_ne 41 46 (by decide), up_ne 41 47 (by decide)]
            refine ⟨fun L A w2 hn hI => ?_, ?_⟩
            · obtain ⟨gq, cq, rfl, hB, hR⟩ := hI
              have hup := getD_up hn.2.1
              have dp37 : L.getD 37 false = true := hn.2.2.1 37 (by decide +kernel)
              refine st_val (v := .pointer (some ⟨p, 0, none⟩)) (W1 := w2) (wanted_f (x := false) rfl (by unfold qmAct; simp only [gx_true, dp37]; rfl)) (by unfold qmAct; simp only [gx_true, dp37]; go_simp) ?_
              refine ⟨gq, cq, ?_, hB, fun h2 => hR (by rwa [up_ne 42 33 (by decide)] at h2)⟩
              unfold qmAct
              simp only [Act.put, List.setIfInBounds_toArray, List.set_cons_zero, List.set_cons_succ, hup, gx_true, up_ne 42 0 (by decide), up_ne 42 1 (by decide), up_ne 42 2 (by decide), up_ne 42 3 (by decide), up_ne 42 4 (by decide), up_ne 42 5 (by decide), up_ne 42 6 (by decide), up_ne 42 7 (by decide), up_ne 42 8 (by decide), up_ne 42 9 (by decide), up_ne 42 10 (by decide), up_ne 42 11 (by decide), up_ne 42 12 (by decide), up_ne 42 13 (by decide), up_ne 42 14 (by decide), up_ne 42 15 (by decide), up_ne 42 16 (by decide), up_ne 42 17 (by decide), up_ne 42 18 (by decide), up_ne 42 19 (by decide), up_ne 42 20 (by decide), up_ne 42 21 (by decide), up_ne 42 22 (by decide), up_ne 42 23 (by decide), up_ne 42 24 (by decide), up_ne 42 25 (by decide), up_ne 42 26 (by decide), up_ne 42 27 (by decide), up_ne 42 28 (by decide), up_ne 42 29 (by decide), up_ne 42 30 (by decide), up_ne 42 31 (by decide), up_ne 42 32 (by decide), up_ne 42 33 (by decide), up_ne 42 34 (by decide), up_ne 42 35 (by decide), up_ne 42 36 (by decide), up_ne 42 37 (by decide), up_ne 42 38 (by decide), up_ne 42 39 (by decide), up_ne 42 40 (by decide), up_ne 42 41 (by decide), up_ne 42 43 (by decide), up_ne 42 44 (by decide), up_ne 42 45 (by decide), up_ne 42 46 (by decide), up_ne 42 47 (by decide)]
            refine ⟨fun L A w2 hn hI => ?_, ?_⟩
            · obtain ⟨gq, cq, rfl, hB, hR⟩ := hI
              have hup := getD_up hn.2.1
              have dp37 : L.getD 37 false = true := hn.2.2.1 37 (by decide +kernel)
              refine st_val (v := .int .i64 a) (W1 := w2) (wanted_f (x := false) rfl (by unfold qmAct; simp only [gx_true, dp37]; rfl)) (by unfold qmAct; simp only [gx_true, dp37]; go_simp) ?_
              refine ⟨gq, cq, ?_, hB, fun h2 => hR (by rwa [up_ne 43 33 (by decide)] at h2)⟩
              unfold qmAct
              simp only [Act.put, List.setIfInBounds_toArray, List.set_cons_zero, List.set_cons_succ, hup, gx_true, up_ne 43 0 (by decide), up_ne 43 1 (by decide), up_ne 43 2 (by decide), up_ne 43 3 (by decide), up_ne 43 4 (by decide), up_ne 43 5 (by decide), up_ne 43 6 (by decide), up_ne 43 7 (by decide), up_ne 43 8 (by decide), up_ne 43 9 (by decide), up_ne 43 10 (by decide), up_ne 43 11 (by decide), up_ne 43 12 (by decide), up_ne 43 13 (by decide), up_ne 43 14 (by decide), up_ne 43 15 (by decide), up_ne 43 16 (by decide), up_ne 43 17 (by decide), up_ne 43 18 (by decide), up_ne 43 19 (by decide), up_ne 43 20 (by decide), up_ne 43 21 (by decide), up_ne 43 22 (by decide), up_ne 43 23 (by decide), up_ne 43 24 (by decide), up_ne 43 25 (by decide), up_ne 43 26 (by decide), up_ne 43 27 (by decide), up_ne 43 28 (by decide), up_ne 43 29 (by decide), up_ne 43 30 (by decide), up_ne 43 31 (by decide), up_ne 43 32 (by decide), up_ne 43 33 (by decide), up_ne 43 34 (by decide), up_ne 43 35 (by decide), up_ne 43 36 (by decide), up_ne 43 37 (by decide), up_ne 43 38 (by decide), up_ne 43 39 (by decide), up_ne 43 40 (by decide), up_ne 43 41 (by decide), up_ne 43 42 (by decide), up_ne 43 44 (by decide), up_ne 43 45 (by decide), up_ne 43 46 (by decide), up_ne 43 47 (by decide)]
            refine ⟨fun L A w2 hn hI => ?_, ?_⟩
            · obtain ⟨gq, cq, rfl, hB, hR⟩ := hI
              have hup := getD_up hn.2.1
              have dp37 : L.getD 37 false = true := hn.2.2.1 37 (by decide +kernel)
              refine st_val (v := .slice (some ⟨gt, 0, none⟩) 8 ct) (W1 := w2) (wanted_f (x := false) rfl (by unfold qmAct; simp only [gx_true, dp37]; rfl)) (by unfold qmAct; simp only [gx_true, dp37]; go_simp) ?_
              refine ⟨gq, cq, ?_, hB, fun h2 => hR (by rwa [up_ne 44 33 (by decide)] at h2)⟩
              unfold qmAct
              simp only [Act.put, List.setIfInBounds_toArray, List.set_cons_zero, List.set_cons_succ, hup, gx_true, up_ne 44 0 (by decide), up_ne 44 1 (by decide), up_ne 44 2 (by decide), up_ne 44 3 (by decide), up_ne 44 4 (by decide), up_ne 44 5 (by decide), up_ne 44 6 (by decide), up_ne 44 7 (by decide), up_ne 44 8 (by decide), up_ne 44 9 (by decide), up_ne 44 10 (by decide), up_ne 44 11 (by decide), up_ne 44 12 (by decide), up_ne 44 13 (by decide), up_ne 44 14 (by decide), up_ne 44 15 (by decide), up_ne 44 16 (by decide), up_ne 44 17 (by decide), up_ne 44 18 (by decide), up_ne 44 19 (by decide), up_ne 44 20 (by decide), up_ne 44 21 (by decide), up_ne 44 22 (by decide), up_ne 44 23 (by decide), up_ne 44 24 (by decide), up_ne 44 25 (by decide), up_ne 44 26 (by decide), up_ne 44 27 (by decide), up_ne 44 28 (by decide), up_ne 44 29 (by decide), up_ne 44 30 (by decide), up_ne 44 31 (by decide), up_ne 44 32 (by decide), up_ne 44 33 (by decide), up_ne 44 34 (by decide), up_ne 44 35 (by decide), up_ne 44 36 (by decide), up_ne 44 37 (by decide), up_ne 44 38 (by decide), up_ne 44 39 (by decide), up_ne 44 40 (by decide), up_ne 44 41 (by decide), up_ne 44 42 (by decide), up_ne 44 43 (by decide), up_ne 44 45 (by decide), up_ne 44 46 (by decide), up_ne 44 47 (by decide)]
            refine ⟨fun L A w2 hn hI => ?_, ?_⟩
            · obtain ⟨gq, cq, rfl, hB, hR⟩ := hI
              have hup := getD_up hn.2.1
              have dp42 : L.getD 42 false = true := hn.2.2.1 42 (by decide +kernel)
              have dp43 : L.getD 43 false = true := hn.2.2.1 43 (by decide +kernel)
              have dp44 : L.getD 44 false = true := hn.2.2.1 44 (by decide +kernel)
              have dp37 : L.getD 37 false = true := hn.2.2.1 37 (by decide +kernel)
              refine st_call (f := 19) (args := #[.pointer (some ⟨p, 0, none⟩), .int .i64 a, .slice (some ⟨gt, 0, none⟩) 8 ct]) (W1 := w2) (wanted_f (x := false) rfl (by unfold qmAct; simp only [gx_true, dp42, dp43, dp44, dp37]; rfl)) (by unfold qmAct; simp only [gx_true, dp42, dp43, dp44, dp37]; first | (go_simp; done) | (go_simp; exact ⟨rfl, rfl⟩) | (go_simp; with_reducible rfl)) ((HT.out w2 hB).mono ?_)
              rintro e' w3 ⟨rfl, m3, dd3, rfl⟩
              refine ⟨_, rfl, gq, cq, ?_, Below.ext_mk hB hB.size m3 dd3, fun h2 => (hR (by rwa [up_ne 45 33 (by decide)] at h2)).below (Below.ext_mk (Below.refl _ _) (Nat.le_refl _) m3 dd3)⟩
              unfold qmAct
              simp only [Act.put, List.setIfInBounds_toArray, List.set_cons_zero, List.set_cons_succ, hup, gx_true, up_ne 45 0 (by decide), up_ne 45 1 (by decide), up_ne 45 2 (by decide), up_ne 45 3 (by decide), up_ne 45 4 (by decide), up_ne 45 5 (by decide), up_ne 45 6 (by decide), up_ne 45 7 (by decide), up_ne 45 8 (by decide), up_ne 45 9 (by decide), up_ne 45 10 (by decide), up_ne 45 11 (by decide), up_ne 45 12 (by decide), up_ne 45 13 (by decide), up_ne 45 14 (by decide), up_ne 45 15 (by decide), up_ne 45 16 (by decide), up_ne 45 17 (by decide), up_ne 45 18 (by decide), up_ne 45 19 (by decide), up_ne 45 20 (by decide), up_ne 45 21 (by decide), up_ne 45 22 (by decide), up_ne 45 23 (by decide), up_ne 45 24 (by decide), up_ne 45 25 (by decide), up_ne 45 26 (by decide), up_ne 45 27 (by decide), up_ne 45 28 (by decide), up_ne 45 29 (by decide), up_ne 45 30 (by decide), up_ne 45 31 (by decide), up_ne 45 32 (by decide), up_ne 45 33 (by decide), up_ne 45 34 (by decide), up_ne 45 35 (by decide), up_ne 45 36 (by decide), up_ne 45 37 (by decide), up_ne 45 38 (by decide), up_ne 45 39 (by decide), up_ne 45 40 (by decide), up_ne 45 41 (by decide), up_ne 45 42 (by decide), up_ne 45 43 (by decide), up_ne 45 44 (by decide), up_ne 45 46 (by decide), up_ne 45 47 (by decide)]
            refine ⟨fun L A w2 hn hI => ?_, ?_⟩
            · obtain ⟨gq, cq, rfl, hB, hR⟩ := hI
              have hup := getD_up hn.2.1
              have dp41 : L.getD 41 false = true := hn.2.2.1 41 (by decide +kernel)
              have dp45 : L.getD 45 false = true := hn.2.2.1 45 (by decide +kernel)
              have dp37 : L.getD 37 false = true := hn.2.2.1 37 (by decide +kernel)
              refine st_val (v := .bool false) (W1 := w2) (wanted_f (x := false) rfl (by unfold qmAct; simp only [gx_true, dp41, dp45, dp37]; rfl)) (by unfold qmAct; simp only [gx_true, dp41, dp45, dp37]; go_simp) ?_
              refine ⟨gq, cq, ?_, hB, fun h2 => hR (by rwa [up_ne 46 33 (by decide)] at h2)⟩
              unfold qmAct
              simp only [Act.put, List.setIfInBounds_toArray, List.set_cons_zero, List.set_cons_succ, hup, gx_true, up_ne 46 0 (by decide), up_ne 46 1 (by decide), up_ne 46 2 (by decide), up_ne 46 3 (by decide), up_ne 46 4 (by decide), up_ne 46 5 (by decide), up_ne 46 6 (by decide), up_ne 46 7 (by decide), up_ne 46 8 (by decide), up_ne 46 9 (by decide), up_ne 46 10 (by decide), up_ne 46 11 (by decide), up_ne 46 12 (by decide), up_ne 46 13 (by decide), up_ne 46 14 (by decide), up_ne 46 15 (by decide), up_ne 46 16 (by decide), up_ne 46 17 (by decide), up_ne 46 18 (by decide), up_ne 46 19 (by decide), up_ne 46 20 (by decide), up_ne 46 21 (by decide), up_ne 46 22 (by decide), up_ne 46 23 (by decide), up_ne 46 24 (by decide), up_ne 46 25 (by decide), up_ne 46 26 (by decide), up_ne 46 27 (by decide), up_ne 46 28 (by decide), up_ne 46 29 (by decide), up_ne 46 30 (by decide), up_ne 46 31 (by decide), up_ne 46 32 (by decide), up_ne 46 33 (by decide), up_ne 46 34 (by decide), up_ne 46 35 (by decide), up_ne 46 36 (by decide), up_ne 46 37 (by decide), up_ne 46 38 (by decide), up_ne 46 39 (by decide), up_ne 46 40 (by decide), up_ne 46 41 (by decide), up_ne 46 42 (by decide), up_ne 46 43 (by decide), up_ne 46 44 (by decide), up_ne 46 45 (by decide), up_ne 46 47 (by decide)]
            refine ⟨fun L A w2 hn hI => ?_, ?_⟩
            · obtain ⟨gq, cq, rfl, hB, hR⟩ := hI
              have hup := getD_up hn.2.1
              have dp37 : L.getD 37 false = true := hn.2.2.1 37 (by decide +kernel)
              have dp46 : L.getD 46 false = true := hn.2.2.1 46 (by decide +kernel)
              refine st_val (v := .bool false) (W1 := w2) rfl (by unfold qmAct; simp only [gx_true, dp37, dp46]; go_simp) ?_
              refine ⟨gq, cq, ?_, hB, fun h2 => hR (by rwa [up_ne 47 33 (by decide)] at h2)⟩
              unfold qmAct
              simp only [Act.put, List.setIfInBounds_toArray, List.set_cons_zero, List.set_cons_succ, hup, gx_true, up_ne 47 0 (by decide), up_ne 47 1 (by decide), up_ne 47 2 (by decide), up_ne 47 3 (by decide), up_ne 47 4 (by decide), up_ne 47 5 (by decide), up_ne 47 6 (by decide), up_ne 47 7 (by decide), up_ne 47 8 (by decide), up_ne 47 9 (by decide), up_ne 47 10 (by decide), up_ne 47 11 (by decide), up_ne 47 12 (by decide), up_ne 47 13 (by decide), up_ne 47 14 (by decide), up_ne 47 15 (by decide), up_ne 47 16 (by decide), up_ne 47 17 (by decide), up_ne 47 18 (by decide), up_ne 47 19 (by decide), up_ne 47 20 (by decide), up_ne 47 21 (by decide), up_ne 47 22 (by decide), up_ne 47 23 (by decide), up_ne 47 24 (by decide), up_ne 47 25 (by decide), up_ne 47 26 (by decide), up_ne 47 27 (by decide), up_ne 47 28 (by decide), up_ne 47 29 (by decide), up_ne 47 30 (by decide), up_ne 47 31 (by decide), up_ne 47 32 (by decide), up_ne 47 33 (by decide), up_ne 47 34 (by decide), up_ne 47 35 (by decide), up_ne 47 36 (by decide), up_ne 47 37 (by decide), up_ne 47 38 (by decide), up_ne 47 39 (by decide), up_ne 47 40 (by decide), up_ne 47 41 (by decide), up_ne 47 42 (by decide), up_ne 47 43 (by decide), up_ne 47 44 (by decide), up_ne 47 45 (by decide), up_ne 47 46 (by decide)]
            trivial
            -- END GENERATED21
    · obtain rfl : n = 256 := by omega
      have hI2 := implies_res QL.out.liv (by omega) QL.out.ha QL.out.hb
      have et : t = (impliesV S5 a b).2 := by
        rw [Bool.eq_iff_iff, HT0.out, hI2.2.2]
      have HIL := fun W F (h : StoIs W p F S5) => implies_live h QL.out.liv.wf QL.out.liv.sated a b
      rw [← et] at HIL
      have fr1 : FreeOf S5 (x : Int) d1 := fun β => by rw [QL.out.e1, QL.out.e1]; simp only [setb_setb]
      have fr2 : FreeOf S5 (x : Int) d2 := fun β => by rw [QL.out.e2, QL.out.e2]; simp only [setb_setb]
      have SW := swap_res hI2.1 (by omega) (hI2.2.1.has QL.out.h4) x y hx8 hy8
      have hback : (swapV (impliesV S5 a b).1 d4 x y).2 = a := by
        refine (ev_eq SW.liv.wf SW.has (SW.grows.has (hI2.2.1.has QL.out.ha))).1 (fun β => ?_)
        rw [SW.val, ev_grows QL.out.liv.wf hI2.2.1 _ QL.out.h4, QL.out.e4, swapb_back, ev_grows QL.out.liv.wf (hI2.2.1.trans SW.grows) β QL.out.ha]
      have HSW := fun W F (h : StoIs W p F (impliesV S5 a b).1) => swap_live h hI2.1.wf hI2.1.sated d4 (x : Int) (y : Int)
      unfold Tells at HSW
      rw [hback] at HSW
      have HS1 := hid (H5.out.below hb)
      have hfree := QL.out.liv.free (by omega)
      have hbw : Below w.heap.size w wr := hb5.trans (hb.mono hb5.size)
      have SU1 := hid (fun W (hb : Below wr.heap.size wr W) => support_live (HS1.out.below hb) QL.out.liv.wf hfree d1)
      have SU2 := hid (fun W (hb : Below wr.heap.size wr W) => support_live (HS1.out.below hb) QL.out.liv.wf hfree d2)
      have N1 := hid (sup_free QL.out.liv.wf fr1 (S5.nodes.length + 2))
      have N2 := hid (sup_free QL.out.liv.wf fr2 (S5.nodes.length + 2))
      have hI2h := hid hI2
      clear hI2 et fr1 fr2 SW hback hfree hb
      generalize impliesV S5 a b = I6 at *
      go_upto_region 25 with (fail)
      refine wp_region_doc (fun F' hF => ?_)
      have HF := hid hF
      clear hF
      iterate 2 (refine doc_val rfl (by first | (go_simp; done) | (go_simp; exact ⟨rfl, rfl⟩) | (go_simp; with_reducible rfl)) ?_; simp only [Act.put, List.setIfInBounds_toArray, List.set_cons_zero, List.set_cons_succ])
      refine doc_call rfl (by first | (go_simp; done) | (go_simp; exact ⟨rfl, rfl⟩) | (go_simp; with_reducible rfl)) ((SU1.out _ (Below.refl _ _)).mono ?_)
      rintro _ u1 ⟨s1, rfl, r1, b1⟩
      refine ⟨_, rfl, ?_⟩
      simp only [Act.put, List.setIfInBounds_toArray, List.set_cons_zero, List.set_cons_succ]
      obtain ⟨a1, k1, rfl, _, _⟩ := r1.len
      refine doc_val rfl (by first | (go_simp; done) | (go_simp; exact ⟨rfl, rfl⟩) | (go_simp; with_reducible rfl)) ?_
      simp only [Act.put, List.setIfInBounds_toArray, List.set_cons_zero, List.set_cons_succ]
      refine doc_call rfl (by first | (go_simp; done) | (go_simp; exact ⟨rfl, rfl⟩) | (go_simp; with_reducible rfl)) ((contains_not r1 (x : Int) N1.out).mono ?_)
      rintro _ _ ⟨rfl, m1, e1, rfl⟩
      refine ⟨_, rfl, ?_⟩
      simp only [Act.put, List.setIfInBounds_toArray, List.set_cons_zero, List.set_cons_succ]
      have b2 : Below wr.heap.size wr (u1.ext m1 e1) := Below.ext_mk b1 b1.size m1 e1
      iterate 3 (refine doc_val rfl (by first | (go_simp; done) | (go_simp; exact ⟨rfl, rfl⟩) | (go_simp; with_reducible rfl)) ?_; simp only [Act.put, List.setIfInBounds_toArray, List.set_cons_zero, List.set_cons_succ])
      refine doc_call rfl (by first | (go_simp; done) | (go_simp; exact ⟨rfl, rfl⟩) | (go_simp; with_reducible rfl)) ((SU2.out _ b2).mono ?_)
      rintro _ u2 ⟨s2, rfl, r2, b3⟩
      refine ⟨_, rfl, ?_⟩
      simp only [Act.put, List.setIfInBounds_toArray, List.set_cons_zero, List.set_cons_succ]
      obtain ⟨a2, k2, rfl, _, _⟩ := r2.len
      refine doc_val rfl (by first | (go_simp; done) | (go_simp; exact ⟨rfl, rfl⟩) | (go_simp; with_reducible rfl)) ?_
      simp only [Act.put, List.setIfInBounds_toArray, List.set_cons_zero, List.set_cons_succ]
      refine doc_call rfl (by first | (go_simp; done) | (go_simp; exact ⟨rfl, rfl⟩) | (go_simp; with_reducible rfl)) ((contains_not r2 (x : Int) N2.out).mono ?_)
      rintro _ _ ⟨rfl, m2, e2, rfl⟩
      refine ⟨_, rfl, ?_⟩
      simp only [Act.put, List.setIfInBounds_toArray, List.set_cons_zero, List.set_cons_succ]
      have b4 : Below wr.heap.size wr (u2.ext m2 e2) := Below.ext_mk (b2.trans (b3.mono b2.size)) (b2.trans (b3.mono b2.size)).size m2 e2
      iterate 5 (refine doc_val rfl (by first | (go_simp; done) | (go_simp; exact ⟨rfl, rfl⟩) | (go_simp; with_reducible rfl)) ?_; simp only [Act.put, List.setIfInBounds_toArray, List.set_cons_zero, List.set_cons_succ])
      refine doc_call rfl (by first | (go_simp; done) | (go_simp; exact ⟨rfl, rfl⟩) | (go_simp; with_reducible rfl)) ((HIL _ _ (HS1.out.below b4)).mono ?_)
      rintro _ u3 ⟨rfl, F6, hS6, st6⟩
      refine ⟨_, rfl, ?_⟩
      simp only [Act.put, List.setIfInBounds_toArray, List.set_cons_zero, List.set_cons_succ]
      iterate 3 (refine doc_val rfl (by first | (go_simp; done) | (go_simp; exact ⟨rfl, rfl⟩) | (go_simp; with_reducible rfl)) ?_; simp only [Act.put, List.setIfInBounds_toArray, List.set_cons_zero, List.set_cons_succ])
      refine doc_end (HF.out _ _ ?_)
      clear HF F' r1 r2
      have bw4 : Below w.heap.size w (u2.ext m2 e2) := hbw.trans (b4.mono hbw.size)
      have bw6 : Below w.heap.size w u3 := bw4.trans (st6.below HF5.out bw4.size)
      have hF6 : ∀ k ∈ F6, w.heap.size ≤ k := fun k hk => by
        rcases st6.fresh k hk with q | q
        · exact HF5.out k q
        · have := bw4.size; omega
      have HF6 := hid hF6
      have HS6 := hid hS6
      clear hF6 hS6 st6 b1 b2 b3 b4 bw4 SU1 SU2 HIL HS1 hbw
      go_upto_region 27 with (fail)
      refine wp_region_doc (fun F' hF => ?_)
      have HF := hid hF
      clear hF
      iterate 4 (refine doc_val rfl (by first | (go_simp; done) | (go_simp; exact ⟨rfl, rfl⟩) | (go_simp; with_reducible rfl)) ?_; simp only [Act.put, List.setIfInBounds_toArray, List.set_cons_zero, List.set_cons_succ])
      refine doc_call rfl (by first | (go_simp; done) | (go_simp; exact ⟨rfl, rfl⟩) | (go_simp; with_reducible rfl)) ((HSW _ _ HS6.out).mono ?_)
      rintro _ u4 ⟨rfl, F7, hS7, st7⟩
      refine ⟨_, rfl, ?_⟩
      simp only [Act.put, List.setIfInBounds_toArray, List.set_cons_zero, List.set_cons_succ]
      iterate 3 (refine doc_val rfl (by first | (go_simp; done) | (go_simp; exact ⟨rfl, rfl⟩) | (go_simp; with_reducible rfl)) ?_; simp only [Act.put, List.setIfInBounds_toArray, List.set_cons_zero, List.set_cons_succ])
      refine doc_call rfl (by first | (go_simp; done) | (go_simp; exact ⟨rfl, rfl⟩) | (go_simp; with_reducible rfl)) ((known31 _).mono ?_)
      rintro _ _ ⟨rfl, m9, e9, rfl⟩
      refine ⟨_, rfl, ?_⟩
      simp only [Act.put, List.setIfInBounds_toArray, List.set_cons_zero, List.set_cons_succ]
      iterate 2 (refine doc_val rfl (by first | (go_simp; done) | (go_simp; exact ⟨rfl, rfl⟩) | (go_simp; with_reducible rfl)) ?_; simp only [Act.put, List.setIfInBounds_toArray, List.set_cons_zero, List.set_cons_succ])
      refine doc_end (HF.out _ _ ?_)
      clear HF F'
      have bw7 : Below w.heap.size w u4 := bw6.trans (st7.below HF6.out bw6.size)
      clear st7 hS7
      go_wp2_with fail
      go_returns
      exact Pure.of rfl (by have := bw7.size; (repeat' (first | (with_reducible exact bw7) | (with_reducible exact Below.refl _ _) | (with_reducible refine Below.ext_mk ?_ ?_ _ _) | (with_reducible refine Below.alloc ?_ ?_ _) | (with_reducible refine Below.drew ?_) | (with_reducible refine Below.setCell ?_ ?_ _) | go_size)))
end Go.Proofs.Ytboekafmplomhaa
