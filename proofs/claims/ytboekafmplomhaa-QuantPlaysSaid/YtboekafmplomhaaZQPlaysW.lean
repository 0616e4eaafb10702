/-
  QuantPlays answers true: the walk.
-/
import Derived.Test.YtboekafmplomhaaZQPlQ
import Derived.Test.YtboekafmplomhaaZMade31
import Derived.Test.YtboekafmplomhaaZKnown31B
set_option linter.unusedVariables false
set_option linter.unusedSimpArgs false
namespace Go.Proofs.Ytboekafmplomhaa
open Go.RowKit

set_option maxRecDepth 100000 in
set_option maxHeartbeats 16000000 in
theorem quantPlays_any {w : World} {sv0 sv1 : Value} {l vars : List Int} (hl0 : Rd w 1 sv0 (ints l)) (hI : ∀ x ∈ l, -9223372036854775808 ≤ x ∧ x ≤ 9223372036854775807) (hv0 : Rd w 1 sv1 (ints vars)) (cap u v other : Int) :
    Calls Try.prog 7 #[.int .i64 cap, sv0, sv1, .int .i64 u, .int .i64 v, .int .i64 other] w (Pure (.bool true) w) := by
  have KN := fun W => known31 W
  obtain ⟨la, lc, rfl, hlc, hlm⟩ := hl0.len
  obtain ⟨va, vc, rfl, hvc, hvm⟩ := hv0.len
  by_cases h1 : cap < 2
  · clear hl0 hI hv0
    go_enter Try.func7, Try.ntmps7
    go_upto_region 1 with (fail)
    refine wp_region_doc (fun F hF => ?_)
    have HF := hid hF
    clear hF
    repeat (first
      | (refine doc_not rfl ?_; simp only [Act.put, List.setIfInBounds_toArray, List.set_cons_zero, List.set_cons_succ])
      | (refine doc_val rfl (by first | (go_simp; done) | (go_simp; exact ⟨rfl, rfl⟩) | (go_simp; with_reducible rfl)) ?_; simp only [Act.put, List.setIfInBounds_toArray, List.set_cons_zero, List.set_cons_succ]))
    refine doc_end (HF.out _ _ ?_)
    clear HF F
    go_wp2_with ((with_reducible refine (KN _).mono ?_); rintro e W ⟨rfl, m1, d1, rfl⟩)
    go_returns
    exact Pure.of rfl (by (repeat' (first | (with_reducible exact Below.refl _ _) | (with_reducible refine Below.ext_mk ?_ ?_ _ _) | (with_reducible refine Below.alloc ?_ ?_ _) | (with_reducible refine Below.drew ?_) | (with_reducible refine Below.setCell ?_ ?_ _) | go_size)))
  by_cases h2 : 400 < cap
  · clear hl0 hI hv0
    go_enter Try.func7, Try.ntmps7
    go_upto_region 1 with (fail)
    refine wp_region_doc (fun F hF => ?_)
    have HF := hid hF
    clear hF
    repeat (first
      | (refine doc_not rfl ?_; simp only [Act.put, List.setIfInBounds_toArray, List.set_cons_zero, List.set_cons_succ])
      | (refine doc_val rfl (by first | (go_simp; done) | (go_simp; exact ⟨rfl, rfl⟩) | (go_simp; with_reducible rfl)) ?_; simp only [Act.put, List.setIfInBounds_toArray, List.set_cons_zero, List.set_cons_succ]))
    refine doc_end (HF.out _ _ ?_)
    clear HF F
    go_wp2_with ((with_reducible refine (KN _).mono ?_); rintro e W ⟨rfl, m1, d1, rfl⟩)
    go_returns
    exact Pure.of rfl (by (repeat' (first | (with_reducible exact Below.refl _ _) | (with_reducible refine Below.ext_mk ?_ ?_ _ _) | (with_reducible refine Below.alloc ?_ ?_ _) | (with_reducible refine Below.drew ?_) | (with_reducible refine Below.setCell ?_ ?_ _) | go_size)))
  by_cases h3 : (20 : Int) < (vars.length : Int)
  · clear hl0 hI hv0
    go_enter Try.func7, Try.ntmps7
    go_upto_region 1 with (fail)
    refine wp_region_doc (fun F hF => ?_)
    have HF := hid hF
    clear hF
    repeat (first
      | (refine doc_not rfl ?_; simp only [Act.put, List.setIfInBounds_toArray, List.set_cons_zero, List.set_cons_succ])
      | (refine doc_val rfl (by first | (go_simp; done) | (go_simp; exact ⟨rfl, rfl⟩) | (go_simp; with_reducible rfl)) ?_; simp only [Act.put, List.setIfInBounds_toArray, List.set_cons_zero, List.set_cons_succ]))
    refine doc_end (HF.out _ _ ?_)
    clear HF F
    go_wp2_with ((with_reducible refine (KN _).mono ?_); rintro e W ⟨rfl, m1, d1, rfl⟩)
    go_returns
    exact Pure.of rfl (by (repeat' (first | (with_reducible exact Below.refl _ _) | (with_reducible refine Below.ext_mk ?_ ?_ _ _) | (with_reducible refine Below.alloc ?_ ?_ _) | (with_reducible refine Below.drew ?_) | (with_reducible refine Below.setCell ?_ ?_ _) | go_size)))
  have MA := made31_any (cap := cap) (by omega) (by omega) hl0 hI
  obtain ⟨MO, ML⟩ := madeV_ok (cap := cap) (by omega) (by omega) l
  have MN := hid (made_new (cap := cap) (by omega) (by omega))
  have HMV := hid (show madeL 20 (newS cap) [0, 1] l = madeV cap l from rfl)
  unfold MadeAt31 at MA
  have HL := hid hl0
  have HI := hid hI
  have HV := hid hv0
  generalize madeV cap l = R0 at *
  obtain ⟨S0, all⟩ := R0
  simp only at MO ML
  clear hl0 hI hv0
  go_enter Try.func7, Try.ntmps7
  go_upto_region 1 with (fail)
  refine wp_region_doc (fun F hF => ?_)
  have HF := hid hF
  clear hF
  repeat (first
    | (refine doc_not rfl ?_; simp only [Act.put, List.setIfInBounds_toArray, List.set_cons_zero, List.set_cons_succ])
    | (refine doc_val rfl (by first | (go_simp; done) | (go_simp; exact ⟨rfl, rfl⟩) | (go_simp; with_reducible rfl)) ?_; simp only [Act.put, List.setIfInBounds_toArray, List.set_cons_zero, List.set_cons_succ]))
  refine doc_end (HF.out _ _ ?_)
  clear HF F
  go_upto_region 7 with (go_at_call 44; refine MA.mono ?_; rintro e w1 ⟨p, F, sv, G, rfl, hH, hb1⟩; obtain ⟨sa, sc, rfl, _⟩ := RowIs.form hH.row)
  refine wp_gen (fun V hV => ?_)
  have hws := hb1.size
  have hbV1 : Below w1.heap.size w1 V := by rw [hV]; (repeat' (first | (with_reducible exact Below.refl _ _) | (with_reducible refine Below.ext_mk ?_ ?_ _ _) | (with_reducible refine Below.alloc ?_ ?_ _) | (with_reducible refine Below.drew ?_) | (with_reducible refine Below.setCell ?_ ?_ _) | go_size))
  have hq : V.heap[w1.heap.size]? = some (.cells #[.int .i64 cap, .slice none 0 0, .bool false] 72 (0, 0)) := by rw [hV]; exact World.heap_alloc_last w1 _
  clear hV
  have R0 : RIs V w1.heap.size [w1.heap.size] (rOf (newS cap)) := ⟨.slice none 0 0, none, hq, ⟨rfl, .inl ⟨rfl, rfl, rfl⟩⟩, rfl, by simp [newS, rOf]⟩
  have hbV : Below w.heap.size w V := hb1.trans (hbV1.mono hws)
  have TW := twins_any R0 MN.out (HL.out.below hbV) HI.out (fun a n c b off hn e1 e2 => by
    simp only [List.mem_singleton]
    intro e3
    obtain ⟨a', n', c', f1, f2, f3, f4, f5⟩ := HL.out
    rw [f1] at e1
    cases e1
    obtain ⟨b', off', g1, g2, _⟩ := f5 hn
    rw [g1] at e2
    cases e2
    omega)
  rw [HMV.out] at TW
  unfold TwinsAt at TW
  have zq : w1.heap.size < V.heap.size := (Array.getElem?_eq_some_iff.1 hq).1
  have rowV : RowIs V (.slice sa all.length sc) G 3 1 all.length (ints all) := RowIs.keep hH.row (fun g hg => hbV1.block g (RowIs.lt hH.row g hg))
  have stoV : StoIs V p F S0 := hH.sto.below hbV1
  have ltF : ∀ k ∈ F, k < w1.heap.size := hH.sto.lt
  have ltG : ∀ g, G = some g → g < w1.heap.size := RowIs.lt hH.row
  have loF := hH.from_
  have gdS : Gd S0 := ⟨MO.wf, MO.sated⟩
  clear hq R0
  obtain ⟨q, hqq⟩ : ∃ q, q = w1.heap.size := ⟨_, rfl⟩
  rw [← hqq] at TW ⊢
  have HQ := hid hqq
  have HRV := hid rowV
  have HSV := hid stoV
  have HLT := hid ltF
  have HLG := hid ltG
  have HLO := hid loF
  have HBV := hid hbV
  clear rowV stoV ltF ltG loF hbV hH hbV1 hb1 hqq
  refine wp_region_doc (fun F' hF => ?_)
  have HF := hid hF
  clear hF
  iterate 3 (refine doc_val rfl (by first | (go_simp; done) | (go_simp; exact ⟨rfl, rfl⟩) | (go_simp; with_reducible rfl)) ?_; simp only [Act.put, List.setIfInBounds_toArray, List.set_cons_zero, List.set_cons_succ])
  refine doc_call rfl (by first | (go_simp; done) | (go_simp; exact ⟨rfl, rfl⟩) | (go_simp; with_reducible rfl)) (TW.mono ?_)
  rintro _ w2 ⟨G2, g2, sc2, rfl, hR2, hrow2, hg2, hgF2, st2⟩
  refine ⟨_, rfl, ?_⟩
  simp only [Act.put, List.setIfInBounds_toArray, List.set_cons_zero, List.set_cons_succ]
  simp only at hR2 hrow2
  have nq : ∀ k, k < w1.heap.size → k ∉ [q] := fun k hk hm => by
    have := HQ.out
    rw [List.mem_singleton] at hm
    omega
  have hrw : RowIs w2 (.slice sa all.length sc) G 3 1 all.length (ints all) := RowIs.keep HRV.out (fun g hg => st2.block g (by have := HLG.out g hg; omega) (nq g (HLG.out g hg)))
  have EQ := equal_ints (RowIs.rd hrw) (RowIs.rd hrow2)
  rw [decide_eq_true rfl] at EQ
  refine doc_call rfl (by first | (go_simp; done) | (go_simp; exact ⟨rfl, rfl⟩) | (go_simp; with_reducible rfl)) (EQ.mono ?_)
  rintro _ _ ⟨rfl, m3, d3, rfl⟩
  refine ⟨_, rfl, ?_⟩
  simp only [Act.put, List.setIfInBounds_toArray, List.set_cons_zero, List.set_cons_succ]
  iterate 1 (refine doc_val rfl (by first | (go_simp; done) | (go_simp; exact ⟨rfl, rfl⟩) | (go_simp; with_reducible rfl)) ?_; simp only [Act.put, List.setIfInBounds_toArray, List.set_cons_zero, List.set_cons_succ])
  refine doc_end (HF.out _ _ ?_)
  clear HF F' EQ
  have hbw : Below w.heap.size w V := HBV.out
  have two2 : Two w w2 p q F G2 S0 S0 := by
    refine ⟨HSV.out.keep (fun k hk => st2.block k (by have := HLT.out k hk; omega) (nq k (HLT.out k hk))), hR2, fun k hk => st2.keeps (by have := HLT.out k hk; omega) (nq k (HLT.out k hk)), ?_, HLO.out, ?_⟩
    · have hq2 : ∀ k ∈ [q], w.heap.size ≤ k := fun k hk => by
        rw [List.mem_singleton] at hk
        have := HQ.out
        omega
      exact hbw.trans (st2.below hq2 hbw.size)
    · have hq2 : ∀ k ∈ [q], w.heap.size ≤ k := fun k hk => by
        rw [List.mem_singleton] at hk
        have := HQ.out
        omega
      exact st2.low hq2 hbw.size
  have bx : Below w2.heap.size w2 (w2.ext m3 d3) := Below.ext_mk (Below.refl _ _) (Nat.le_refl _) m3 d3
  have hrx : RowIs (w2.ext m3 d3) (.slice sa all.length sc) G 3 1 all.length (ints all) := RowIs.keep hrw (fun g hg => bx.block g (RowIs.lt hrw g hg))
  have HTW := hid (two2.below bx)
  generalize w2.ext m3 d3 = X at *
  have HRX := hid hrx
  clear two2 hrw hR2 hrow2 hg2 hgF2 st2 nq bx hbw TW
  have hlm : all.length ≤ 9223372036854775807 := by have := RowIs.form hrx; obtain ⟨_, _, _, h⟩ := this; unfold maxLen at h; omega
  have rowc : ∀ c, c < all.length → ∃ g, sa = some ⟨g, 0, none⟩ ∧ g < X.heap.size ∧ X.cell? ⟨g, c, none⟩ = some (.int .i64 (all.getD c 0)) := fun c hc => by
    obtain ⟨g', cap', e1, e2, e3, e4⟩ := RowIs.one HRX.out (i := c) (u := .int .i64 (all.getD c 0)) (by simp [ints, List.getD_eq_getElem?_getD, hc])
    injection e1 with e1
    exact ⟨g', e1, e3, e4⟩
  clear hrx
  obtain ⟨m1, hm1⟩ : ∃ m, m = all.length - 1 := ⟨_, rfl⟩
  obtain ⟨m2, hm2⟩ : ∃ m, m = all.length / 2 := ⟨_, rfl⟩
  obtain ⟨ga, rfl, zga, ca⟩ := rowc m1 (by omega)
  obtain ⟨_, eg, _, cb⟩ := rowc m2 (by omega)
  cases eg
  have wm1 : IntKind.i64.wrap ((all.length : Int) - 1) = (m1 : Int) := by rw [IntWalk.i64_in _ (by omega)]; omega
  have wm2 : (all.length : Int).tdiv 2 = (m2 : Int) := by rw [Int.tdiv_eq_ediv_of_nonneg (by omega)]; omega
  have wm3 : IntKind.i64.wrap (m2 : Int) = (m2 : Int) := IntWalk.i64_in _ (by omega)
  have l1 : (m1 : Int) < (all.length : Int) := by omega
  have l2 : (m2 : Int) < (all.length : Int) := by omega
  generalize all.getD m1 0 = a at *
  generalize all.getD m2 0 = b at *
  clear rowc hm1 hm2 MO ML MA HRX
  go_upto_region 9 with (fail)
  refine wp_region_ext (by kernel_rfl) (by kernel_rfl) (fun F hF => ?_)
  have HF := hid hF; clear hF
  repeat (first
    | (apply text_skip; (focus rfl); simp only [Act.put, List.setIfInBounds_toArray, List.set_cons_zero, List.set_cons_succ])
    | (apply text_val; (focus rfl); (focus (intro _ _; go_simp; with_reducible rfl)); simp only [Act.put, List.setIfInBounds_toArray, List.set_cons_zero, List.set_cons_succ])
    | (apply text_if; (focus (first | exact wanted_t rfl rfl | exact wanted_f rfl rfl | exact wanted_gt rfl rfl | exact wanted_gf rfl rfl)); (focus (intro hc _ _; (try simp only [Bool.and_eq_true, Bool.not_eq_true', Bool.true_and] at hc); go_simp; with_reducible rfl)); simp only [Act.put, List.setIfInBounds_toArray, List.set_cons_zero, List.set_cons_succ]))
  refine text_nil (HF.out _ (fun mx dx => ?_))
  clear HF F
  clear ca cb wm1 wm2 wm3 l1 l2 hlm
  have htx := HTW.out.below (Below.ext_mk (Below.refl _ _) (Nat.le_refl _) mx dx)
  have HTW := hid htx
  generalize X.ext mx dx = Y at *
  go_wp2_with fail
  refine wp_gen (fun Z hZ => ?_)
  have hbZ : Below Y.heap.size Y Z := by rw [hZ]; (repeat' (first | (with_reducible exact Below.refl _ _) | (with_reducible refine Below.ext_mk ?_ ?_ _ _) | (with_reducible refine Below.alloc ?_ ?_ _) | (with_reducible refine Below.drew ?_) | (with_reducible refine Below.setCell ?_ ?_ _) | go_size))
  have hrZ : RowIs Z (.slice (some ⟨Y.heap.size, 0, none⟩) 3 3) (some Y.heap.size) 3 1 3 (ints [a, b, other]) := by
    rw [hZ]
    exact ⟨rfl, .inr ⟨Y.heap.size, 3, #[.int .i64 a, .int .i64 b, .int .i64 other], rfl, rfl, World.heap_alloc_last Y _, Nat.le_refl _, by unfold maxLen; omega, rfl, rfl⟩⟩
  have QW0 := hid (QW.start (l3 := [a, b, other]) rfl F G2 HTW.out gdS hbZ hrZ (Nat.le_refl _))
  obtain ⟨k, hk⟩ : ∃ k, k = Y.heap.size := ⟨_, rfl⟩
  rw [← hk] at QW0 ⊢
  clear hk hbZ hrZ hZ htx HTW
  go_loopw [66] (fun iv wr => ∃ (n : Nat) (S : Sto), n ≤ 3 ∧ iv = .int .i64 n ∧ QW w wr p q k [a, b, other] S S) (fun iv _ => 3 - (intOf iv).toNat)
  case atStart => exact ⟨0, S0, by omega, rfl, QW0.out⟩
  case round =>
    obtain ⟨n, S, hn, rfl, hQ⟩ := hrel
    have HQW := hid hQ
    clear hQ
    by_cases hlt : n < 3
    · have hn1 : (n : Int) < 3 := by omega
      obtain ⟨x, hx⟩ : ∃ x, [a, b, other][n]? = some x := ⟨_, List.getElem?_eq_getElem (by simpa using hlt)⟩
      obtain ⟨g', cap', e1, e2, e3, e4⟩ := RowIs.one HQW.out.row (i := n) (u := .int .i64 x) (by rw [show ints [a, b, other] = [a, b, other].map (fun y => Value.int .i64 y) from rfl, List.getElem?_map, hx]; rfl)
      cases e1
      clear e2 hx
      go_upto_region 13 with (fail)
      refine wp_gen (fun U hU => ?_)
      have q0 : QW w U p q k [a, b, other] S S := HQW.out.below (by rw [hU]; (repeat' (first | (with_reducible exact Below.refl _ _) | (with_reducible refine Below.ext_mk ?_ ?_ _ _) | (with_reducible refine Below.alloc ?_ ?_ _) | (with_reducible refine Below.drew ?_) | (with_reducible refine Below.setCell ?_ ?_ _) | go_size)))
      clear hU
      have HQ0 := hid q0
      clear q0 e3 e4
      obtain ⟨R1, hR1⟩ : ∃ R, bindV orV S x vars = R := ⟨_, rfl⟩
      obtain ⟨R2, hR2⟩ : ∃ R, bindV andV R1.1 x vars = R := ⟨_, rfl⟩
      obtain ⟨R3, hR3⟩ : ∃ R, composeV R2.1 x u b = R := ⟨_, rfl⟩
      obtain ⟨R4, hR4⟩ : ∃ R, swapV R3.1 x u v = R := ⟨_, rfl⟩
      obtain ⟨R5, hR5⟩ : ∃ R, impliesV R4.1 x a = R := ⟨_, rfl⟩
      have E1 := hid (fun W T (h : QW w W p q k [a, b, other] S T) => h.existsP x vars _ HV.out)
      have E2 := hid (fun W T (h : QW w W p q k [a, b, other] T S) => h.existsD x vars _ HV.out)
      rw [hR1] at E1 E2
      have E3 := hid (fun W T (h : QW w W p q k [a, b, other] R1.1 T) => h.forallP x vars _ HV.out)
      have E4 := hid (fun W T (h : QW w W p q k [a, b, other] T R1.1) => h.forallD x vars _ HV.out)
      rw [hR2] at E3 E4
      have E5 := hid (fun W T (h : QW w W p q k [a, b, other] R2.1 T) => h.composeP x u b)
      have E6 := hid (fun W T (h : QW w W p q k [a, b, other] T R2.1) => h.composeD x u b)
      rw [hR3] at E5 E6
      have E7 := hid (fun W T (h : QW w W p q k [a, b, other] R3.1 T) => h.swapP x u v)
      have E8 := hid (fun W T (h : QW w W p q k [a, b, other] T R3.1) => h.swapD x u v)
      rw [hR4] at E7 E8
      have E9 := hid (fun W T (h : QW w W p q k [a, b, other] R4.1 T) => h.impliesP x a)
      have E10 := hid (fun W T (h : QW w W p q k [a, b, other] T R4.1) => h.impliesD x a)
      rw [hR5] at E9 E10
      clear hR1 hR2 hR3 hR4 hR5
      refine wp_region_doc (fun F' hF => ?_)
      have HF := hid hF
      clear hF
      iterate 2 (refine doc_val rfl (by first | (go_simp; done) | (go_simp; exact ⟨rfl, rfl⟩) | (go_simp; with_reducible rfl)) ?_; simp only [Act.put, List.setIfInBounds_toArray, List.set_cons_zero, List.set_cons_succ])
      refine doc_call rfl (by first | (go_simp; done) | (go_simp; exact ⟨rfl, rfl⟩) | (go_simp; with_reducible rfl)) ((HQ0.out.supP x).mono ?_)
      rintro _ U1 ⟨s1, rfl, r1, q1⟩
      refine ⟨_, rfl, ?_⟩
      simp only [Act.put, List.setIfInBounds_toArray, List.set_cons_zero, List.set_cons_succ]
      obtain ⟨sa1, sc1, rfl, -, -⟩ := r1.len
      iterate 2 (refine doc_val rfl (by first | (go_simp; done) | (go_simp; exact ⟨rfl, rfl⟩) | (go_simp; with_reducible rfl)) ?_; simp only [Act.put, List.setIfInBounds_toArray, List.set_cons_zero, List.set_cons_succ])
      refine doc_call rfl (by first | (go_simp; done) | (go_simp; exact ⟨rfl, rfl⟩) | (go_simp; with_reducible rfl)) ((q1.supD x).mono ?_)
      rintro _ U2 ⟨s2, rfl, r2, b2⟩
      refine ⟨_, rfl, ?_⟩
      simp only [Act.put, List.setIfInBounds_toArray, List.set_cons_zero, List.set_cons_succ]
      have EQ := equal_ints (r1.below b2) r2
      rw [decide_eq_true rfl] at EQ
      refine doc_call rfl (by first | (go_simp; done) | (go_simp; exact ⟨rfl, rfl⟩) | (go_simp; with_reducible rfl)) (EQ.mono ?_)
      rintro _ _ ⟨rfl, m3, d3, rfl⟩
      refine ⟨_, rfl, ?_⟩
      simp only [Act.put, List.setIfInBounds_toArray, List.set_cons_zero, List.set_cons_succ]
      have q2 : QW w (U2.ext m3 d3) p q k [a, b, other] S S := (q1.below b2).below (Below.ext_mk (Below.refl _ _) (Nat.le_refl _) m3 d3)
      clear r1 r2 EQ b2 q1
      iterate 5 (refine doc_val rfl (by first | (go_simp; done) | (go_simp; exact ⟨rfl, rfl⟩) | (go_simp; with_reducible rfl)) ?_; simp only [Act.put, List.setIfInBounds_toArray, List.set_cons_zero, List.set_cons_succ])
      refine doc_call rfl (by first | (go_simp; done) | (go_simp; exact ⟨rfl, rfl⟩) | (go_simp; with_reducible rfl)) ((E1.out _ _ q2).mono ?_)
      rintro _ U3 ⟨rfl, q3⟩
      refine ⟨_, rfl, ?_⟩
      simp only [Act.put, List.setIfInBounds_toArray, List.set_cons_zero, List.set_cons_succ]
      iterate 3 (refine doc_val rfl (by first | (go_simp; done) | (go_simp; exact ⟨rfl, rfl⟩) | (go_simp; with_reducible rfl)) ?_; simp only [Act.put, List.setIfInBounds_toArray, List.set_cons_zero, List.set_cons_succ])
      refine doc_call rfl (by first | (go_simp; done) | (go_simp; exact ⟨rfl, rfl⟩) | (go_simp; with_reducible rfl)) ((E2.out _ _ q3).mono ?_)
      rintro _ U4 ⟨rfl, q4⟩
      refine ⟨_, rfl, ?_⟩
      simp only [Act.put, List.setIfInBounds_toArray, List.set_cons_zero, List.set_cons_succ]
      iterate 6 (refine doc_val rfl (by first | (go_simp; done) | (go_simp; exact ⟨rfl, rfl⟩) | (go_simp; with_reducible rfl)) ?_; simp only [Act.put, List.setIfInBounds_toArray, List.set_cons_zero, List.set_cons_succ])
      refine doc_call rfl (by first | (go_simp; done) | (go_simp; exact ⟨rfl, rfl⟩) | (go_simp; with_reducible rfl)) ((E3.out _ _ q4).mono ?_)
      rintro _ U5 ⟨rfl, q5⟩
      refine ⟨_, rfl, ?_⟩
      simp only [Act.put, List.setIfInBounds_toArray, List.set_cons_zero, List.set_cons_succ]
      iterate 3 (refine doc_val rfl (by first | (go_simp; done) | (go_simp; exact ⟨rfl, rfl⟩) | (go_simp; with_reducible rfl)) ?_; simp only [Act.put, List.setIfInBounds_toArray, List.set_cons_zero, List.set_cons_succ])
      refine doc_call rfl (by first | (go_simp; done) | (go_simp; exact ⟨rfl, rfl⟩) | (go_simp; with_reducible rfl)) ((E4.out _ _ q5).mono ?_)
      rintro _ U6 ⟨rfl, q6⟩
      refine ⟨_, rfl, ?_⟩
      simp only [Act.put, List.setIfInBounds_toArray, List.set_cons_zero, List.set_cons_succ]
      iterate 2 (refine doc_val rfl (by first | (go_simp; done) | (go_simp; exact ⟨rfl, rfl⟩) | (go_simp; with_reducible rfl)) ?_; simp only [Act.put, List.setIfInBounds_toArray, List.set_cons_zero, List.set_cons_succ])
      refine doc_end (HF.out _ _ ?_)
      have Q6 := hid q6
      clear HF F' E1 E2 E3 E4 q2 q3 q4 q5 q6 HQ0
      go_upto_region 15 with (fail)
      refine wp_region_doc (fun F' hF => ?_)
      have HF := hid hF
      clear hF
      iterate 4 (refine doc_val rfl (by first | (go_simp; done) | (go_simp; exact ⟨rfl, rfl⟩) | (go_simp; with_reducible rfl)) ?_; simp only [Act.put, List.setIfInBounds_toArray, List.set_cons_zero, List.set_cons_succ])
      refine doc_call rfl (by first | (go_simp; done) | (go_simp; exact ⟨rfl, rfl⟩) | (go_simp; with_reducible rfl)) ((E5.out _ _ Q6.out).mono ?_)
      rintro _ U7 ⟨rfl, q7⟩
      refine ⟨_, rfl, ?_⟩
      simp only [Act.put, List.setIfInBounds_toArray, List.set_cons_zero, List.set_cons_succ]
      iterate 4 (refine doc_val rfl (by first | (go_simp; done) | (go_simp; exact ⟨rfl, rfl⟩) | (go_simp; with_reducible rfl)) ?_; simp only [Act.put, List.setIfInBounds_toArray, List.set_cons_zero, List.set_cons_succ])
      refine doc_call rfl (by first | (go_simp; done) | (go_simp; exact ⟨rfl, rfl⟩) | (go_simp; with_reducible rfl)) ((E6.out _ _ q7).mono ?_)
      rintro _ U8 ⟨rfl, q8⟩
      refine ⟨_, rfl, ?_⟩
      simp only [Act.put, List.setIfInBounds_toArray, List.set_cons_zero, List.set_cons_succ]
      iterate 6 (refine doc_val rfl (by first | (go_simp; done) | (go_simp; exact ⟨rfl, rfl⟩) | (go_simp; with_reducible rfl)) ?_; simp only [Act.put, List.setIfInBounds_toArray, List.set_cons_zero, List.set_cons_succ])
      refine doc_call rfl (by first | (go_simp; done) | (go_simp; exact ⟨rfl, rfl⟩) | (go_simp; with_reducible rfl)) ((E7.out _ _ q8).mono ?_)
      rintro _ U9 ⟨rfl, q9⟩
      refine ⟨_, rfl, ?_⟩
      simp only [Act.put, List.setIfInBounds_toArray, List.set_cons_zero, List.set_cons_succ]
      iterate 4 (refine doc_val rfl (by first | (go_simp; done) | (go_simp; exact ⟨rfl, rfl⟩) | (go_simp; with_reducible rfl)) ?_; simp only [Act.put, List.setIfInBounds_toArray, List.set_cons_zero, List.set_cons_succ])
      refine doc_call rfl (by first | (go_simp; done) | (go_simp; exact ⟨rfl, rfl⟩) | (go_simp; with_reducible rfl)) ((E8.out _ _ q9).mono ?_)
      rintro _ U10 ⟨rfl, q10⟩
      refine ⟨_, rfl, ?_⟩
      simp only [Act.put, List.setIfInBounds_toArray, List.set_cons_zero, List.set_cons_succ]
      iterate 6 (refine doc_val rfl (by first | (go_simp; done) | (go_simp; exact ⟨rfl, rfl⟩) | (go_simp; with_reducible rfl)) ?_; simp only [Act.put, List.setIfInBounds_toArray, List.set_cons_zero, List.set_cons_succ])
      refine doc_call rfl (by first | (go_simp; done) | (go_simp; exact ⟨rfl, rfl⟩) | (go_simp; with_reducible rfl)) ((E9.out _ _ q10).mono ?_)
      rintro _ U11 ⟨rfl, q11⟩
      refine ⟨_, rfl, ?_⟩
      simp only [Act.put, List.setIfInBounds_toArray, List.set_cons_zero, List.set_cons_succ]
      iterate 3 (refine doc_val rfl (by first | (go_simp; done) | (go_simp; exact ⟨rfl, rfl⟩) | (go_simp; with_reducible rfl)) ?_; simp only [Act.put, List.setIfInBounds_toArray, List.set_cons_zero, List.set_cons_succ])
      refine doc_call rfl (by first | (go_simp; done) | (go_simp; exact ⟨rfl, rfl⟩) | (go_simp; with_reducible rfl)) ((E10.out _ _ q11).mono ?_)
      rintro _ U12 ⟨rfl, q12⟩
      refine ⟨_, rfl, ?_⟩
      simp only [Act.put, List.setIfInBounds_toArray, List.set_cons_zero, List.set_cons_succ]
      iterate 2 (refine doc_val rfl (by first | (go_simp; done) | (go_simp; exact ⟨rfl, rfl⟩) | (go_simp; with_reducible rfl)) ?_; simp only [Act.put, List.setIfInBounds_toArray, List.set_cons_zero, List.set_cons_succ])
      refine doc_end (HF.out _ _ ?_)
      have Q12 := hid q12
      clear HF F' E5 E6 E7 E8 E9 E10 q7 q8 q9 q10 q11 q12 Q6
      go_wp2_with fail
      go_roundw
      case rel => exact ⟨n + 1, R5.1, by omega, by go_num, Q12.out⟩
      case measure => simp [intOf]; omega
    · obtain rfl : n = 3 := by omega
      obtain ⟨F3, G3, t3, _, _⟩ := HQW.out.ex
      have hcap : S.cap ≠ 0 := by have := HQW.out.gS.1.cap2; omega
      obtain ⟨a3, c3, zq3, k0, k1, k2, k3⟩ := t3.ref.cells
      have hL : (rOf S).L.length = S.nodes.length := rfl
      have hfl : (rOf S).full = S.full := rfl
      rw [hL] at k1 k3
      rw [hfl] at k2
      have FU := fun W (hb : Below wr.heap.size wr W) => full_any (t3.sto.below hb) hcap
      have LE := fun W (hb : Below wr.heap.size wr W) => len_any (t3.sto.below hb) hcap
      have bw := t3.base
      have HB := hid bw
      clear t3 hL hfl k0 QW0 bw
      generalize S.full = fu at *
      generalize S.nodes.length = ln at *
      go_upto_region 18 with (fail)
      refine wp_region_ext (by kernel_rfl) (by kernel_rfl) (fun F hF => ?_)
      have HF := hid hF; clear hF
      repeat (first
        | (apply text_skip; (focus rfl); simp only [Act.put, List.setIfInBounds_toArray, List.set_cons_zero, List.set_cons_succ])
        | (apply text_val; (focus rfl); (focus (intro _ _; go_simp; with_reducible rfl)); simp only [Act.put, List.setIfInBounds_toArray, List.set_cons_zero, List.set_cons_succ])
        | (apply text_call; (focus rfl); (focus (intro _ _; go_simp; exact ⟨rfl, rfl⟩)); (focus (intro _ _; with_reducible (first | exact FU _ (by (repeat' (first | (with_reducible exact Below.refl _ _) | (with_reducible refine Below.ext_mk ?_ ?_ _ _) | (with_reducible refine Below.alloc ?_ ?_ _) | (with_reducible refine Below.drew ?_) | (with_reducible refine Below.setCell ?_ ?_ _) | go_size))) | exact LE _ (by (repeat' (first | (with_reducible exact Below.refl _ _) | (with_reducible refine Below.ext_mk ?_ ?_ _ _) | (with_reducible refine Below.alloc ?_ ?_ _) | (with_reducible refine Below.drew ?_) | (with_reducible refine Below.setCell ?_ ?_ _) | go_size))) | exact KN _))); simp only [Act.put, List.setIfInBounds_toArray, List.set_cons_zero, List.set_cons_succ])
        | (apply text_if; (focus (first | exact wanted_t rfl rfl | exact wanted_f rfl rfl | exact wanted_gt rfl rfl | exact wanted_gf rfl rfl)); (focus (intro hc _ _; (try simp only [Bool.and_eq_true, Bool.not_eq_true', Bool.true_and] at hc); go_simp; with_reducible rfl)); simp only [Act.put, List.setIfInBounds_toArray, List.set_cons_zero, List.set_cons_succ])
        | (apply text_if_call; (focus (first | exact wanted_t rfl rfl | exact wanted_f rfl rfl | exact wanted_gt rfl rfl | exact wanted_gf rfl rfl)); (focus (intro hc _ _; (try simp only [Bool.and_eq_true, Bool.not_eq_true', Bool.true_and] at hc); go_simp; exact ⟨rfl, rfl⟩)); (focus (intro hc _ _; with_reducible (first | exact FU _ (by (repeat' (first | (with_reducible exact Below.refl _ _) | (with_reducible refine Below.ext_mk ?_ ?_ _ _) | (with_reducible refine Below.alloc ?_ ?_ _) | (with_reducible refine Below.drew ?_) | (with_reducible refine Below.setCell ?_ ?_ _) | go_size))) | exact LE _ (by (repeat' (first | (with_reducible exact Below.refl _ _) | (with_reducible refine Below.ext_mk ?_ ?_ _ _) | (with_reducible refine Below.alloc ?_ ?_ _) | (with_reducible refine Below.drew ?_) | (with_reducible refine Below.setCell ?_ ?_ _) | go_size))) | exact KN _))); simp only [Act.put, List.setIfInBounds_toArray, List.set_cons_zero, List.set_cons_succ]))
      refine text_nil (HF.out _ (fun mx dx => ?_))
      clear HF F
      go_wp2_with fail
      go_returns
      exact Pure.of rfl (by have := HB.out.size; have hb := HB.out; (repeat' (first | (with_reducible exact hb) | (with_reducible exact Below.refl _ _) | (with_reducible refine Below.ext_mk ?_ ?_ _ _) | (with_reducible refine Below.alloc ?_ ?_ _) | (with_reducible refine Below.drew ?_) | (with_reducible refine Below.setCell ?_ ?_ _) | go_size)))
end Go.Proofs.Ytboekafmplomhaa
