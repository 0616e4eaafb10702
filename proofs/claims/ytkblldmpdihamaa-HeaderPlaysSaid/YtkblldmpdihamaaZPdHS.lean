/-
  The program's Set and Take of a packet (package header), by the packet in plain Lean.
-/
import Derived.Test.YtkblldmpdihamaaZPdH
set_option linter.unusedVariables false
set_option linter.unusedSimpArgs false
namespace Go.Proofs.Ytkblldmpdihamaa
open Go.RowKit

section
variable {w : World} {b vb : Nat} {gs : List Nat} {port : Int} {mt : List (BitVec 128)} {S : PD} {hs : List (SL × List Int)} {k : PK} {p : PG}
set_option maxRecDepth 100000 in
theorem hset_any {M : List Nat} (P : Prg w M b vb gs port mt S) (O : S.Ok hs) (H : HeadsAre w p.heads hs) (hok : HsOk hs) (h f : Int) (n : BitVec 128) :
    Calls Try.prog 15 #[p.v, .pointer (some ⟨b, 0, none⟩), .int .i64 h, .int .i64 f, nv n] w
      (fun e w' => e = .returned (.tuple #[]) ∧ Turn w w' (b :: vb :: gs) ∧ Prg w' M b vb gs port mt (S.set hs h f n)) := by
  obtain ⟨k, P, AW, SC⟩ := P
  have hHB := P.hasB h
  have same : ∀ {e : Ending} {w' : World}, Pure (.tuple #[]) w e w' → e = .returned (.tuple #[]) ∧ Turn w w' (b :: vb :: gs) ∧ Prg w' M b vb gs port mt S := fun hp => by
    obtain ⟨rfl, m, d, rfl⟩ := hp
    have hb : Below w.heap.size w (w.ext m d) := Below.ext_mk (Below.refl _ _) (Nat.le_refl _) _ _
    exact ⟨rfl, Turn.of_below hb, k, P.below hb, AW, SC⟩
  have hlv : S.nss.length = S.va.length := by rw [O.nl, O.va]
  by_cases hh : 0 ≤ h ∧ h < (S.va.length : Int)
  · obtain ⟨h0, h1⟩ := hh
    obtain ⟨i, rfl⟩ : ∃ i : Nat, h = (i : Int) := ⟨h.toNat, by omega⟩
    have hi : i < S.nss.length := by omega
    obtain ⟨ns, hn⟩ : ∃ ns, S.nss[i]? = some ns := ⟨S.nss[i], List.getElem?_eq_getElem hi⟩
    obtain ⟨v, hv⟩ : ∃ v, S.va[i]? = some v := ⟨S.va[i]'(by omega), List.getElem?_eq_getElem (by omega)⟩
    obtain ⟨g, rb, ro, fc, hg, hkf, zr, cr⟩ := P.rowAt hn
    by_cases hf : 0 ≤ f ∧ f < (ns.length : Int)
    · obtain ⟨f0, f1⟩ := hf
      obtain ⟨j, rfl⟩ : ∃ j : Nat, f = (j : Int) := ⟨f.toNat, by omega⟩
      have hj : j < ns.length := by omega
      have ht : thereB S.nss (i : Int) (j : Int) = true := by
        unfold thereB
        rw [Int.toNat_natCast, List.getD_eq_getElem?_getD, hn]
        simp only [Option.getD_some]
        have q2 : (i : Int) < (S.nss.length : Int) := by omega
        simp [q2, f1]
      obtain ⟨y, hy, hyl⟩ := O.at hn
      have hA : headAt hs (i : Int) = y := by unfold headAt; rw [if_neg (by omega), Int.toNat_natCast, hy]; rfl
      obtain ⟨x, hx⟩ : ∃ x, y.2[j]? = some x := ⟨y.2[j]'(by omega), List.getElem?_eq_getElem (by omega)⟩
      have hxr := wok_range (hok.each y (List.mem_of_getElem? hy)).ok x (List.mem_of_getElem? hx)
      have SI : SetIn w p hs b vb g i j gs k S.l S.va S.nss mt ns x v :=
        ⟨P, H, hg, hn, hv, by rw [hA]; exact hx, hj, by have := O.va; omega, by omega⟩
      refine (set_ok n SI).mono fun e w' hp => ?_
      obtain ⟨rfl, hp⟩ := hp
      have hgx : y.2.getD j 0 = x := by rw [List.getD_eq_getElem?_getD, hx]; rfl
      rcases hp with ⟨rfl, t, P'⟩ | ⟨rfl, t, P'⟩
      · have eg : S.set hs (i : Int) (j : Int) n = { S with nss := S.nss.set i (ns.set j (n &&& maskOf x)) } := by
          unfold PD.set
          rw [if_pos ht, Int.toNat_natCast, Int.toNat_natCast, List.getD_eq_getElem?_getD, hv]
          simp only [Option.getD_some, if_true]
          rw [hA, hgx, List.getD_eq_getElem?_getD, hn]
          rfl
        rw [eg]
        exact ⟨rfl, t.weak (by simp; exact .inr (.inr (List.mem_of_getElem? hg))), k, P', AW, SC⟩
      · have eg : S.set hs (i : Int) (j : Int) n = { S with acc := true } := by
          unfold PD.set
          rw [if_pos ht, Int.toNat_natCast, List.getD_eq_getElem?_getD, hv, if_neg (by simp)]
        rw [eg]
        obtain ⟨s1, s2, s3, s4, s5⟩ := SC
        exact ⟨rfl, t.weak (by simp), { k with access := true }, P', AW, s1, s2, s3, s4, rfl⟩
    · have ht : thereB S.nss (i : Int) f = false := by
        unfold thereB
        rw [Int.toNat_natCast, List.getD_eq_getElem?_getD, hn]
        simp only [Option.getD_some]
        by_cases q0 : 0 ≤ f
        · have q1 : ¬ f < (ns.length : Int) := fun q => hf ⟨q0, q⟩
          simp [q1]
        · simp [q0]
      have eg : S.set hs (i : Int) f n = S := by unfold PD.set; rw [if_neg (by rw [ht]; simp)]
      rw [eg]
      refine Calls.mono ?_ (fun e w' hp => same hp)
      have hbt : hasB k (i : Int) = true := by
        rw [hHB]
        have q2 : (i : Int) < (S.nss.length : Int) := by omega
        simp [h1, q2]
      have HA := hid (fun V (hb : Below w.heap.size w V) => by have := has_any (P.blk.below hb) (i : Int); rw [hbt] at this; exact this)
      have c3 := P.blk.cell 3
      have zb := P.blk.lt
      simp only [List.getElem?_cons_zero, List.getElem?_cons_succ] at c3
      rw [hkf] at c3
      simp only [SL.v_mk] at c3
      have k2 : (i : Int) < (S.nss.length : Int) := by omega
      clear AW hkf SC hn hv eg ht hHB hbt same hg P O hlv h1 H
      by_cases hf0 : f < 0
      · go_enter Try.func15, Try.ntmps15
        go_upto_region 1 with (fail)
        refine wp_region_seq (fun F hF => ?_)
        have HF := hid hF; clear hF
        repeat (first
          | (apply text_skip; (focus rfl); simp only [Act.put, List.setIfInBounds_toArray, List.set_cons_zero, List.set_cons_succ])
          | (apply text_val; (focus rfl); (focus (intro _ _; go_simp; with_reducible rfl)); simp only [Act.put, List.setIfInBounds_toArray, List.set_cons_zero, List.set_cons_succ])
          | (apply text_call; (focus rfl); (focus (intro _ _; go_simp; exact ⟨rfl, rfl⟩)); (focus (intro _ _; with_reducible (exact HA.out _ (by (repeat' (first | (with_reducible exact Below.refl _ _) | (with_reducible refine Below.ext_mk ?_ ?_ _ _) | (with_reducible refine Below.alloc ?_ ?_ _) | (with_reducible refine Below.drew ?_) | (with_reducible refine Below.setCell ?_ ?_ _) | go_size)))))); simp only [Act.put, List.setIfInBounds_toArray, List.set_cons_zero, List.set_cons_succ])
          | (apply text_if; (focus (first | exact wanted_t rfl rfl | exact wanted_f rfl rfl | exact wanted_gt rfl rfl | exact wanted_gf rfl rfl)); (focus (intro hc _ _; (try simp only [Bool.and_eq_true, Bool.not_eq_true', Bool.true_and] at hc); go_simp; with_reducible rfl)); simp only [Act.put, List.setIfInBounds_toArray, List.set_cons_zero, List.set_cons_succ])
          | (apply text_if_call; (focus (first | exact wanted_t rfl rfl | exact wanted_f rfl rfl | exact wanted_gt rfl rfl | exact wanted_gf rfl rfl)); (focus (intro hc _ _; (try simp only [Bool.and_eq_true, Bool.not_eq_true', Bool.true_and] at hc); go_simp; exact ⟨rfl, rfl⟩)); (focus (intro hc _ _; with_reducible (exact HA.out _ (by (repeat' (first | (with_reducible exact Below.refl _ _) | (with_reducible refine Below.ext_mk ?_ ?_ _ _) | (with_reducible refine Below.alloc ?_ ?_ _) | (with_reducible refine Below.drew ?_) | (with_reducible refine Below.setCell ?_ ?_ _) | go_size)))))); simp only [Act.put, List.setIfInBounds_toArray, List.set_cons_zero, List.set_cons_succ]))
        refine text_nil (HF.out _ (fun mx dx => ?_))
        clear HF F
        go_wp2_with fail
        go_returns
        exact Pure.of rfl (by (repeat' (first | (with_reducible exact Below.refl _ _) | (with_reducible refine Below.ext_mk ?_ ?_ _ _) | (with_reducible refine Below.alloc ?_ ?_ _) | (with_reducible refine Below.drew ?_) | (with_reducible refine Below.setCell ?_ ?_ _) | go_size)))
      · have hf1 : (ns.length : Int) ≤ f := by omega
        go_enter Try.func15, Try.ntmps15
        go_upto_region 1 with (fail)
        refine wp_gen (fun V hV => ?_)
        have hbV : Below w.heap.size w V := by rw [hV]; (repeat' (first | (with_reducible exact Below.refl _ _) | (with_reducible refine Below.ext_mk ?_ ?_ _ _) | (with_reducible refine Below.alloc ?_ ?_ _) | (with_reducible refine Below.drew ?_) | (with_reducible refine Below.setCell ?_ ?_ _) | go_size))
        clear hV
        have hVs := hbV.size
        have c3V := (hbV.cell (p := ⟨b, 3, none⟩) zb).trans c3
        have crV := (hbV.cell (p := ⟨rb, ro + i, none⟩) zr).trans cr
        have zbV : b < V.heap.size := by omega
        have zrV : rb < V.heap.size := by omega
        refine wp_region_doc (fun F hF => ?_)
        have HF := hid hF
        clear hF
        iterate 2 (refine doc_val rfl (by first | (go_simp; done) | (go_simp; exact ⟨rfl, rfl⟩) | (go_simp; with_reducible rfl)) ?_; simp only [Act.put, List.setIfInBounds_toArray, List.set_cons_zero, List.set_cons_succ])
        refine doc_call rfl (by first | (go_simp; done) | (go_simp; exact ⟨rfl, rfl⟩) | (go_simp; with_reducible rfl)) (Calls.mono (HA.out _ (by (repeat' (first | (with_reducible exact hbV) | (with_reducible exact Below.refl _ _) | (with_reducible refine Below.ext_mk ?_ ?_ _ _) | (with_reducible refine Below.alloc ?_ ?_ _) | (with_reducible refine Below.drew ?_) | (with_reducible refine Below.setCell ?_ ?_ _) | go_size)))) ?_)
        rintro _ _ ⟨rfl, mz, dz, rfl⟩
        refine ⟨_, rfl, ?_⟩
        simp only [Act.put, List.setIfInBounds_toArray, List.set_cons_zero, List.set_cons_succ]
        iterate 18 (refine doc_val rfl (by first | (go_simp; done) | (go_simp; exact ⟨rfl, rfl⟩) | (go_simp; with_reducible rfl)) ?_; simp only [Act.put, List.setIfInBounds_toArray, List.set_cons_zero, List.set_cons_succ])
        iterate 6 (refine doc_not rfl ?_; simp only [Act.put, List.setIfInBounds_toArray, List.set_cons_zero, List.set_cons_succ])
        iterate 1 (refine doc_val rfl (by first | (go_simp; done) | (go_simp; exact ⟨rfl, rfl⟩) | (go_simp; with_reducible rfl)) ?_; simp only [Act.put, List.setIfInBounds_toArray, List.set_cons_zero, List.set_cons_succ])
        refine doc_end (HF.out _ _ ?_)
        clear HF F
        go_wp2_with fail
        go_returns
        exact Pure.of rfl (by (repeat' (first | (with_reducible exact hbV) | (with_reducible exact Below.refl _ _) | (with_reducible refine Below.ext_mk ?_ ?_ _ _) | (with_reducible refine Below.alloc ?_ ?_ _) | (with_reducible refine Below.drew ?_) | (with_reducible refine Below.setCell ?_ ?_ _) | go_size)))
  · have hbf : hasB k h = false := by
      rw [hHB]
      by_cases q0 : 0 ≤ h
      · have q1 : ¬ h < (S.va.length : Int) := fun q => hh ⟨q0, q⟩
        simp [q1]
      · simp [q0]
    have ht : thereB S.nss h f = false := by
      unfold thereB
      by_cases q0 : 0 ≤ h
      · have q1 : ¬ h < (S.nss.length : Int) := fun q => hh ⟨q0, by omega⟩
        simp [q1]
      · simp [q0]
    have eg : S.set hs h f n = S := by unfold PD.set; rw [if_neg (by rw [ht]; simp)]
    rw [eg]
    exact (set_no h f n (fun W hb => by have := has_any (P.blk.below hb) h; rw [hbf] at this; exact this) rfl).mono fun e w' hp => same hp

theorem htake_any {M : List Nat} (P : Prg w M b vb gs port mt S) (hM : ∀ q ∈ M, q < w.heap.size) (O : S.Ok hs) (H : HeadsAre w p.heads hs) (hok : HsOk hs) (hAw : ∀ x ∈ hs, Away x.1 (b :: vb :: gs)) (h : Int) :
    Calls Try.prog 12 #[p.v, .pointer (some ⟨b, 0, none⟩), .int .i64 h] w
      (fun e w' => e = .returned (.bool (S.take hs h).isSome) ∧ Turn w w' (b :: vb :: gs) ∧ Prg w' M b vb gs port mt ((S.take hs h).getD S)) := by
  obtain ⟨k, P, AW, SC⟩ := P
  have hHB := P.hasB h
  have same : ∀ {e : Ending} {w' : World}, S.take hs h = none → Pure (.bool false) w e w' → e = .returned (.bool (S.take hs h).isSome) ∧ Turn w w' (b :: vb :: gs) ∧ Prg w' M b vb gs port mt ((S.take hs h).getD S) := fun hN hp => by
    obtain ⟨rfl, m, d, rfl⟩ := hp
    rw [hN]
    have hb : Below w.heap.size w (w.ext m d) := Below.ext_mk (Below.refl _ _) (Nat.le_refl _) _ _
    exact ⟨rfl, Turn.of_below hb, k, P.below hb, AW, SC⟩
  have hlv : S.nss.length = S.va.length := by rw [O.nl, O.va]
  have hva := O.va
  by_cases hh : 0 ≤ h ∧ h < (S.va.length : Int)
  · obtain ⟨h0, h1⟩ := hh
    obtain ⟨i, rfl⟩ : ∃ i : Nat, h = (i : Int) := ⟨h.toNat, by omega⟩
    have hi : i < S.nss.length := by omega
    obtain ⟨ns, hn⟩ : ∃ ns, S.nss[i]? = some ns := ⟨S.nss[i], List.getElem?_eq_getElem hi⟩
    obtain ⟨v, hv⟩ : ∃ v, S.va[i]? = some v := ⟨S.va[i]'(by omega), List.getElem?_eq_getElem (by omega)⟩
    obtain ⟨g, rb, ro, fc, hg, hkf, zr, cr⟩ := P.rowAt hn
    obtain ⟨y, hy, hyl⟩ := O.at hn
    have hA : headAt hs (i : Int) = y := by unfold headAt; rw [if_neg (by omega), Int.toNat_natCast, hy]; rfl
    have hyo := hok.each y (List.mem_of_getElem? hy)
    obtain ⟨hFew, hw8, hw1, hw2⟩ := hok_facts hyo
    have eg : S.take hs (i : Int) = if v = false ∧ y.2.sum / 8 ≤ (S.l.length : Int) then some { S with l := S.l.drop (y.2.sum / 8).toNat, va := S.va.set i true, nss := S.nss.set i (takeN S.l 0 y.2) } else none := by
      unfold PD.take
      rw [hA, Int.toNat_natCast, List.getD_eq_getElem?_getD, hv]
      simp only [Option.getD_some]
      by_cases q : v = false ∧ y.2.sum / 8 ≤ (S.l.length : Int)
      · rw [if_pos q, if_pos ⟨by omega, by omega, q.1, q.2⟩]
      · rw [if_neg q, if_neg (fun z => q ⟨z.2.2.1, z.2.2.2⟩)]
    by_cases q : v = false ∧ y.2.sum / 8 ≤ (S.l.length : Int)
    · rw [if_pos q] at eg
      obtain ⟨rfl, q2⟩ := q
      refine (take_pkt (h := i) P H (by rw [hA]; exact hAw y (List.mem_of_getElem? hy)) (by rw [hA]; exact hyo) hg hn (by rw [hA]; exact hyl) hv (by rw [hA]; exact q2)).mono fun e w' hp => ?_
      obtain ⟨rfl, t, r, hr, P'⟩ := hp
      rw [eg]
      rw [hA] at P'
      exact ⟨rfl, t.weak (by simp; exact .inr (.inr (List.mem_of_getElem? hg))), { k with rest := r }, P', ⟨fun _ bb off e hm => (by have h1 := hr bb off e; have h2 := hM bb hm; omega), AW.2.1, AW.2.2⟩, SC⟩
    · rw [if_neg q] at eg
      refine (take_fail (h := i) (v := v) P H (by rw [hA]; exact hFew) (by rw [hA]; exact hw8) hg hn (by rw [hA]; exact hyl) hv ?_).mono fun e w' hp => same eg hp
      rw [hA]
      cases v
      · exact .inr (by have : ¬ y.2.sum / 8 ≤ (S.l.length : Int) := fun z => q ⟨rfl, z⟩; omega)
      · exact .inl rfl
  · have hbf : hasB k h = false := by
      rw [hHB]
      by_cases q0 : 0 ≤ h
      · have q1 : ¬ h < (S.va.length : Int) := fun q => hh ⟨q0, q⟩
        simp [q1]
      · simp [q0]
    have eg : S.take hs h = none := by unfold PD.take; rw [if_neg (fun q => hh ⟨q.1, by omega⟩)]
    have hhf : Few (headAt hs h).2 := by
      unfold headAt
      split
      · exact ⟨by simp, by simp⟩
      · cases hx : hs[h.toNat]? with
        | none => exact ⟨by simp, by simp⟩
        | some x => exact (hok_facts (hok.each x (List.mem_of_getElem? hx))).1
    exact (take_no H h hhf (fun W hb => by have := has_any (P.blk.below hb) h; rw [hbf] at this; exact this) rfl).mono fun e w' hp => same eg hp
end
end Go.Proofs.Ytkblldmpdihamaa
