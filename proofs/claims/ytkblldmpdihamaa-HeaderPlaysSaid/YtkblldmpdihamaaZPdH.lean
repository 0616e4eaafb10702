/-
  The program's Get, Set, Valid of a packet (package header), by the packet in plain Lean.
-/
import Derived.Test.YtkblldmpdihamaaZPdV
set_option linter.unusedVariables false
set_option linter.unusedSimpArgs false
namespace Go.Proofs.Ytkblldmpdihamaa
open Go.RowKit

/-- The fields of headers that are not valid are 0. -/
def PD.Zo (S : PD) : Prop := ∀ (i : Nat) (ns : List (BitVec 128)), S.va[i]? = some false → S.nss[i]? = some ns → ∀ n ∈ ns, n = 0#128
section
variable {w : World} {b vb : Nat} {gs : List Nat} {port : Int} {mt : List (BitVec 128)} {S : PD} {hs : List (SL × List Int)} {k : PK} {p : PG}
theorem PktIs.hasB {l : List Nat} {va : List Bool} {nss : List (List (BitVec 128))} (P : PktIs w b vb gs k l va nss mt) (h : Int) : hasB k h = (decide (0 ≤ h) && (decide (h < (va.length : Int)) && decide (h < (nss.length : Int)))) := by
  unfold Go.Proofs.Ytkblldmpdihamaa.hasB
  rw [P.valid, P.frd.len, fsOf_length gs nss P.len]
theorem PktIs.rowAt {l : List Nat} {va : List Bool} {nss : List (List (BitVec 128))} (P : PktIs w b vb gs k l va nss mt) {i : Nat} {ns : List (BitVec 128)} (hn : nss[i]? = some ns) :
    ∃ g rb ro fc, gs[i]? = some g ∧ k.fields = ⟨some ⟨rb, ro, none⟩, nss.length, fc⟩ ∧ rb < w.heap.size ∧ w.cell? ⟨rb, ro + i, none⟩ = some (.slice (some ⟨g, 0, none⟩) ns.length ns.length) := by
  have hi := (List.getElem?_eq_some_iff.1 hn).1
  have hg : i < gs.length := by have := P.len; omega
  obtain ⟨rb, ro, er, zr, _, cr⟩ := P.frd.row.one (i := i) (u := .slice (some ⟨gs[i], 0, none⟩) ns.length ns.length) (by rw [List.getElem?_map, fsOf_at gs nss i gs[i] ns (List.getElem?_eq_getElem hg) hn]; rfl)
  have hfl := P.frd.len
  rw [fsOf_length gs nss P.len] at hfl
  refine ⟨gs[i], rb, ro, k.fields.c, List.getElem?_eq_getElem hg, ?_, zr, cr⟩
  rw [← er, ← hfl]

set_option maxRecDepth 100000 in
theorem hget_any {M : List Nat} (P : Prg w M b vb gs port mt S) (O : S.Ok hs) (Z : S.Zo) (h f : Int) :
    Calls Try.prog 17 #[.pointer (some ⟨b, 0, none⟩), .int .i64 h, .int .i64 f] w
      (fun e w' => e = .returned (nv (S.get h f).1) ∧ Turn w w' (b :: vb :: gs) ∧ Prg w' M b vb gs port mt (S.get h f).2) := by
  obtain ⟨k, P, AW, SC⟩ := P
  have hHB := P.hasB h
  have same : ∀ {e : Ending} {w' : World} {n : BitVec 128}, Pure (nv n) w e w' → e = .returned (nv n) ∧ Turn w w' (b :: vb :: gs) ∧ Prg w' M b vb gs port mt S := fun hp => by
    obtain ⟨rfl, m, d, rfl⟩ := hp
    have hb : Below w.heap.size w (w.ext m d) := Below.ext_mk (Below.refl _ _) (Nat.le_refl _) _ _
    exact ⟨rfl, Turn.of_below hb, k, P.below hb, AW, SC⟩
  have hlv : S.nss.length = S.va.length := by rw [O.nl, O.va]
  by_cases hh : 0 ≤ h ∧ h < (S.va.length : Int)
  · obtain ⟨h0, h1⟩ := hh
    obtain ⟨i, rfl⟩ : ∃ i : Nat, h = (i : Int) := ⟨h.toNat, by omega⟩
    have hi : i < S.nss.length := by omega
    obtain ⟨ns, hn⟩ : ∃ ns, S.nss[i]? = some ns := ⟨S.nss[i], List.getElem?_eq_getElem hi⟩
    obtain ⟨v, hv⟩ : ∃ v, S.va[i]? = some v := ⟨S.va[i]'(by omega), List.getElem?_eq_getElem (by omega)⟩
    obtain ⟨g, rb, ro, fc, hg, hkf, zr, cr⟩ := P.rowAt hn
    have hbt : hasB k (i : Int) = true := by
      rw [hHB]
      have q2 : (i : Int) < (S.nss.length : Int) := by omega
      simp [h1, q2]
    have HA := hid (fun V (hb : Below w.heap.size w V) => by have := has_any (P.blk.below hb) (i : Int); rw [hbt] at this; exact this)
    by_cases hf : 0 ≤ f ∧ f < (ns.length : Int)
    · obtain ⟨f0, f1⟩ := hf
      obtain ⟨j, rfl⟩ : ∃ j : Nat, f = (j : Int) := ⟨f.toNat, by omega⟩
      have hj : j < ns.length := by omega
      obtain ⟨n, hnj⟩ : ∃ n, ns[j]? = some n := ⟨ns[j], List.getElem?_eq_getElem hj⟩
      have ht : thereB S.nss (i : Int) (j : Int) = true := by
        unfold thereB
        rw [Int.toNat_natCast, List.getD_eq_getElem?_getD, hn]
        simp only [Option.getD_some]
        have q2 : (i : Int) < (S.nss.length : Int) := by omega
        simp [q2, f1]
      have eg : S.get (i : Int) (j : Int) = if v = true then (n, S) else (n, { S with acc := true }) := by
        unfold PD.get
        rw [if_pos ht]
        simp only [Int.toNat_natCast, List.getD_eq_getElem?_getD, hv, hn, hnj, Option.getD_some]
      cases v
      · -- not valid
        have hn0 : n = 0#128 := Z i ns hv hn n (List.mem_of_getElem? hnj)
        rw [if_neg (by simp)] at eg
        have EG := hid eg
        have hvb := P.vblk.cell i
        rw [show (bools S.va)[i]? = some (.bool false) by simp [bools, hv]] at hvb
        have c2 := P.blk.cell 2
        have c3 := P.blk.cell 3
        have c8 := P.blk.cell 8
        have f8 := P.blk.free 8
        have zb := P.blk.lt
        have zv := P.vblk.lt
        simp only [List.getElem?_cons_zero, List.getElem?_cons_succ] at c2 c3 c8
        rw [P.valid] at c2
        rw [hkf] at c3
        simp only [SL.v_mk] at c2 c3
        have PP := hid P
        have bn := Blk.new w 45 [.int .u64 0, .int .u64 0]
        have k1 : (i : Int) < (S.va.length : Int) := h1
        have k2 : (i : Int) < (S.nss.length : Int) := by omega
        have HS := hid (And.intro AW SC)
        subst hn0
        clear AW hkf SC hn hv hnj eg ht hHB hbt same hg P Z O hlv
        go_enter Try.func17, Try.ntmps17
        go_upto_region 1 with (fail)
        refine wp_region_seq (fun F hF => ?_)
        have HF := hid hF; clear hF
        repeat (first
          | (apply text_skip; (focus rfl); simp only [Act.put, List.setIfInBounds_toArray, List.set_cons_zero, List.set_cons_succ])
          | (apply text_val; (focus rfl); (focus (intro _ _; go_simp; with_reducible rfl)); simp only [Act.put, List.setIfInBounds_toArray, List.set_cons_zero, List.set_cons_succ])
          | (apply text_call; (focus rfl); (focus (intro _ _; go_simp; exact ⟨rfl, rfl⟩)); (focus (intro _ _; with_reducible (exact HA.out _ (by (repeat' (first | (with_reducible exact Below.refl _ _) | (with_reducible refine Below.ext_mk ?_ ?_ _ _) | (with_reducible refine Below.alloc ?_ ?_ _) | (with_reducible refine Below.drew ?_) | (with_reducible refine Below.setCell ?_ ?_ _) | go_size)))))); simp only [Act.put, List.setIfInBounds_toArray, List.set_cons_zero, List.set_cons_succ])
          | (apply text_if; (focus (first | exact wanted_t rfl rfl | exact wanted_f rfl rfl | exact wanted_gt rfl rfl | exact wanted_gf rfl rfl)); (focus (intro hc _ _; (try simp only [Bool.and_eq_true, Bool.not_eq_true', Bool.true_and] at hc); go_simp; with_reducible rfl)); simp only [Act.put, List.setIfInBounds_toArray, List.set_cons_zero, List.set_cons_succ])
          | (apply text_if_call; (focus (first | exact wanted_t rfl rfl | exact wanted_f rfl rfl | exact wanted_gt rfl rfl | exact wanted_gf rfl rfl)); (focus (intro hc _ _; (try simp only [Bool.and_eq_true, Bool.not_eq_true', Bool.true_and] at hc); go_simp; exact ⟨rfl, rfl⟩)); (focus (intro hc _ _; with_reducible (exact HA.out _ (by (repeat' (first | (with_reducible exact Below.refl _ _) | (with_reducible refine Below.ext_mk ?_ ?_ _ _) | (with_reducible refine Below.alloc ?_ ?_ _) | (with_reducible refine Below.drew ?_) | (with_reducible refine Below.setCell ?_ ?_ _) | go_size)))))); simp only [Act.put, List.setIfInBounds_toArray, List.set_cons_zero, List.set_cons_succ]))
        refine text_nil (HF.out _ (fun mx dx => ?_))
        clear HF F
        go_upto_region 5 with (fail)
        refine wp_gen (fun U hU => ?_)
        have tU : Turn w U [b] := by rw [hU]; exact (Turn.set_ b 8 _ (by simp)).trans (Turn.of_below (Below.ext_mk (Below.alloc (Below.refl _ _) (Nat.le_refl _) _) (by simp) _ _))
        have bU : Blk U b 39 (PK.mk k.port k.rest k.valid k.fields k.metas k.dropped k.sent k.egress true).cs := by
          rw [hU]
          exact (((PP.out.blk.set_ 8 (.bool true)).below (Below.alloc (Below.refl _ _) (Nat.le_refl _) _)).ext _ _)
        have nU : Blk U w.heap.size 45 [.int .u64 0, .int .u64 0] := by
          rw [hU]
          have hs1 : (w.setCell ⟨b, 8, none⟩ (.bool true)).heap.size = w.heap.size := by simp [World.setCell]
          have h := (Blk.new (w.setCell ⟨b, 8, none⟩ (.bool true)) 45 [.int .u64 0, .int .u64 0])
          rw [hs1] at h
          exact h.ext _ _
        clear hU bn
        refine wp_region_doc (fun F' hF => ?_)
        have HF := hid hF
        clear hF
        repeat (refine doc_val rfl (by first | (go_simp; done) | (go_simp; exact ⟨rfl, rfl⟩) | (go_simp; with_reducible rfl)) ?_; simp only [Act.put, List.setIfInBounds_toArray, List.set_cons_zero, List.set_cons_succ])
        refine doc_skip rfl (hstore_num (u' := 0) (v' := 0) _ _ _ _ _ _ _ _ rfl rfl nU) ?_
        simp only [Act.put, List.setIfInBounds_toArray, List.set_cons_zero, List.set_cons_succ]
        refine doc_end (HF.out _ _ ?_)
        clear HF F'
        have b2 := nU.row [.int .u64 0, .int .u64 0]
        go_wp2
        refine bodyPost_ret (hnum_result rfl rfl b2) rfl ?_
        obtain ⟨AW, s1, s2, s3, s4, s5⟩ := HS.out
        have tR : Turn w (U.setRow w.heap.size [.int .u64 0, .int .u64 0].toArray) [b] := tU.from (Turn.row (L := [w.heap.size]) _ _ (by simp)) (fun q hq => by simp at hq; exact .inr (by omega))
        refine ⟨by rw [EG.out]; show Ending.returned _ = Ending.returned (nv 0#128); rw [nv_zero], tR.weak (by simp), ?_⟩
        rw [EG.out]
        exact ⟨PK.mk k.port k.rest k.valid k.fields k.metas k.dropped k.sent k.egress true, PP.out.own (k' := PK.mk k.port k.rest k.valid k.fields k.metas k.dropped k.sent k.egress true) tR ⟨rfl, rfl, rfl, rfl⟩ (bU.farRow (by omega) _), AW, s1, s2, s3, s4, rfl⟩
      · rw [if_pos rfl] at eg
        rw [eg]
        exact (get_ok P.blk P.vrd P.frd hv (fsOf_at gs S.nss i g ns hg hn) hnj).mono fun e w' hp => same hp
    · have ht : thereB S.nss (i : Int) f = false := by
        unfold thereB
        rw [Int.toNat_natCast, List.getD_eq_getElem?_getD, hn]
        simp only [Option.getD_some]
        by_cases q0 : 0 ≤ f
        · have q1 : ¬ f < (ns.length : Int) := fun q => hf ⟨q0, q⟩
          simp [q1]
        · simp [q0]
      have eg : S.get (i : Int) f = (0#128, S) := by unfold PD.get; rw [if_neg (by rw [ht]; simp)]
      rw [eg]
      refine Calls.mono ?_ (fun e w' hp => same hp)
      have c3 := P.blk.cell 3
      have zb := P.blk.lt
      simp only [List.getElem?_cons_zero, List.getElem?_cons_succ] at c3
      rw [hkf] at c3
      simp only [SL.v_mk] at c3
      have bn := Blk.new w 45 [.int .u64 0, .int .u64 0]
      have k2 : (i : Int) < (S.nss.length : Int) := by omega
      clear AW hkf SC hn hv eg ht hHB hbt same hg P Z O hlv h1
      by_cases hf0 : f < 0
      · go_enter Try.func17, Try.ntmps17
        go_upto_region 1 with (fail)
        refine wp_region_seq (fun F hF => ?_)
        have HF := hid hF; clear hF
        repeat (first
          | (apply text_skip; (focus rfl); simp only [Act.put, List.setIfInBounds_toArray, List.set_cons_zero, List.set_cons_succ])
          | (apply text_val; (focus rfl); (focus (intro _ _; go_simp; with_reducible rfl)); simp only [Act.put, List.setIfInBounds_toArray, List.set_cons_zero, List.set_cons_succ])
          | (apply text_call; (focus rfl); (focus (intro _ _; go_simp; exact ⟨rfl, rfl⟩)); (focus (intro _ _; with_reducible (exact HA.out _ (by (repeat' (first | (with_reducible exact Below.refl _ _) | (with_reducible refine Below.ext_mk ?_ ?_ _ _) | (with_reducible refine Below.alloc ?_ ?_ _) | (with_reducible refine Below.drew ?_) | (with_reducible refine Below.setCell ?_ ?_ _) | go_size)))))); simp only [Act.put, List.setIfInBounds_toArray, List.set_cons_zero, List.set_cons_succ])
          | (apply text_if; (focus (first | exact wanted_t rfl rfl | exact wanted_f rfl rfl | exact wanted_gt rfl rfl | exact wanted_gf rfl rfl)); (focus (intro hc _ _; (try simp only [Bool.and_eq_true, Bool.not_eq_true', Bool.true_and] at hc); go_simp; with_reducible rfl)); simp only [Act.put, List.setIfInBounds_toArray, List.set_cons_zero, List.set_cons_succ])
          | (apply text_if_call; (focus (first | exact wanted_t rfl rfl | exact wanted_f rfl rfl | exact wanted_gt rfl rfl | exact wanted_gf rfl rfl)); (focus (intro hc _ _; (try simp only [Bool.and_eq_true, Bool.not_eq_true', Bool.true_and] at hc); go_simp; exact ⟨rfl, rfl⟩)); (focus (intro hc _ _; with_reducible (exact HA.out _ (by (repeat' (first | (with_reducible exact Below.refl _ _) | (with_reducible refine Below.ext_mk ?_ ?_ _ _) | (with_reducible refine Below.alloc ?_ ?_ _) | (with_reducible refine Below.drew ?_) | (with_reducible refine Below.setCell ?_ ?_ _) | go_size)))))); simp only [Act.put, List.setIfInBounds_toArray, List.set_cons_zero, List.set_cons_succ]))
        refine text_nil (HF.out _ (fun mx dx => ?_))
        clear HF F
        go_upto_region 2 with (fail)
        refine wp_gen (fun U hU => ?_)
        have hbU : Below w.heap.size w U := by rw [hU]; (repeat' (first | (with_reducible exact Below.refl _ _) | (with_reducible refine Below.ext_mk ?_ ?_ _ _) | (with_reducible refine Below.alloc ?_ ?_ _) | (with_reducible refine Below.drew ?_) | (with_reducible refine Below.setCell ?_ ?_ _) | go_size))
        have bU : Blk U w.heap.size 45 [.int .u64 0, .int .u64 0] := by rw [hU]; exact bn.below (by (repeat' (first | (with_reducible exact Below.refl _ _) | (with_reducible refine Below.ext_mk ?_ ?_ _ _) | (with_reducible refine Below.alloc ?_ ?_ _) | (with_reducible refine Below.drew ?_) | (with_reducible refine Below.setCell ?_ ?_ _) | go_size)))
        clear hU bn
        refine wp_region_doc (fun F' hF => ?_)
        have HF := hid hF
        clear hF
        repeat (refine doc_val rfl (by first | (go_simp; done) | (go_simp; exact ⟨rfl, rfl⟩) | (go_simp; with_reducible rfl)) ?_; simp only [Act.put, List.setIfInBounds_toArray, List.set_cons_zero, List.set_cons_succ])
        refine doc_skip rfl (hstore_num (u' := 0) (v' := 0) _ _ _ _ _ _ _ _ rfl rfl bU) ?_
        simp only [Act.put, List.setIfInBounds_toArray, List.set_cons_zero, List.set_cons_succ]
        refine doc_end (HF.out _ _ ?_)
        clear HF F'
        have b2 := bU.row [.int .u64 0, .int .u64 0]
        go_wp2
        exact bodyPost_ret (hnum_result rfl rfl b2) rfl ⟨rfl, Below.to_ext (Below.setRow hbU (Nat.le_refl _) _)⟩
      · have hf1 : (ns.length : Int) ≤ f := by omega
        go_enter Try.func17, Try.ntmps17
        go_upto_region 1 with (fail)
        refine wp_region_seq (fun F hF => ?_)
        have HF := hid hF; clear hF
        repeat (first
          | (apply text_skip; (focus rfl); simp only [Act.put, List.setIfInBounds_toArray, List.set_cons_zero, List.set_cons_succ])
          | (apply text_val; (focus rfl); (focus (intro _ _; go_simp; with_reducible rfl)); simp only [Act.put, List.setIfInBounds_toArray, List.set_cons_zero, List.set_cons_succ])
          | (apply text_call; (focus rfl); (focus (intro _ _; go_simp; exact ⟨rfl, rfl⟩)); (focus (intro _ _; with_reducible (exact HA.out _ (by (repeat' (first | (with_reducible exact Below.refl _ _) | (with_reducible refine Below.ext_mk ?_ ?_ _ _) | (with_reducible refine Below.alloc ?_ ?_ _) | (with_reducible refine Below.drew ?_) | (with_reducible refine Below.setCell ?_ ?_ _) | go_size)))))); simp only [Act.put, List.setIfInBounds_toArray, List.set_cons_zero, List.set_cons_succ])
          | (apply text_if; (focus (first | exact wanted_t rfl rfl | exact wanted_f rfl rfl | exact wanted_gt rfl rfl | exact wanted_gf rfl rfl)); (focus (intro hc _ _; (try simp only [Bool.and_eq_true, Bool.not_eq_true', Bool.true_and] at hc); go_simp; with_reducible rfl)); simp only [Act.put, List.setIfInBounds_toArray, List.set_cons_zero, List.set_cons_succ])
          | (apply text_if_call; (focus (first | exact wanted_t rfl rfl | exact wanted_f rfl rfl | exact wanted_gt rfl rfl | exact wanted_gf rfl rfl)); (focus (intro hc _ _; (try simp only [Bool.and_eq_true, Bool.not_eq_true', Bool.true_and] at hc); go_simp; exact ⟨rfl, rfl⟩)); (focus (intro hc _ _; with_reducible (exact HA.out _ (by (repeat' (first | (with_reducible exact Below.refl _ _) | (with_reducible refine Below.ext_mk ?_ ?_ _ _) | (with_reducible refine Below.alloc ?_ ?_ _) | (with_reducible refine Below.drew ?_) | (with_reducible refine Below.setCell ?_ ?_ _) | go_size)))))); simp only [Act.put, List.setIfInBounds_toArray, List.set_cons_zero, List.set_cons_succ]))
        refine text_nil (HF.out _ (fun mx dx => ?_))
        clear HF F
        go_upto_region 2 with (fail)
        refine wp_gen (fun U hU => ?_)
        have hbU : Below w.heap.size w U := by rw [hU]; (repeat' (first | (with_reducible exact Below.refl _ _) | (with_reducible refine Below.ext_mk ?_ ?_ _ _) | (with_reducible refine Below.alloc ?_ ?_ _) | (with_reducible refine Below.drew ?_) | (with_reducible refine Below.setCell ?_ ?_ _) | go_size))
        have bU : Blk U w.heap.size 45 [.int .u64 0, .int .u64 0] := by rw [hU]; exact bn.below (by (repeat' (first | (with_reducible exact Below.refl _ _) | (with_reducible refine Below.ext_mk ?_ ?_ _ _) | (with_reducible refine Below.alloc ?_ ?_ _) | (with_reducible refine Below.drew ?_) | (with_reducible refine Below.setCell ?_ ?_ _) | go_size)))
        clear hU bn
        refine wp_region_doc (fun F' hF => ?_)
        have HF := hid hF
        clear hF
        repeat (refine doc_val rfl (by first | (go_simp; done) | (go_simp; exact ⟨rfl, rfl⟩) | (go_simp; with_reducible rfl)) ?_; simp only [Act.put, List.setIfInBounds_toArray, List.set_cons_zero, List.set_cons_succ])
        refine doc_skip rfl (hstore_num (u' := 0) (v' := 0) _ _ _ _ _ _ _ _ rfl rfl bU) ?_
        simp only [Act.put, List.setIfInBounds_toArray, List.set_cons_zero, List.set_cons_succ]
        refine doc_end (HF.out _ _ ?_)
        clear HF F'
        have b2 := bU.row [.int .u64 0, .int .u64 0]
        go_wp2
        exact bodyPost_ret (hnum_result rfl rfl b2) rfl ⟨rfl, Below.to_ext (Below.setRow hbU (Nat.le_refl _) _)⟩
  · have hbf : hasB k h = false := by
      rw [hHB]
      by_cases q0 : 0 ≤ h
      · have q1 : ¬ h < (S.va.length : Int) := fun q => hh ⟨q0, q⟩
        simp [q1]
      · simp [q0]
    have ht : thereB S.nss h f = false := by
      unfold thereB
      by_cases q0 : 0 ≤ h
      · have q1 : ¬ h < (S.nss.length : Int) := fun q => hh ⟨q0, by omega⟩
        simp [q1]
      · simp [q0]
    have eg : S.get h f = (0#128, S) := by unfold PD.get; rw [if_neg (by rw [ht]; simp)]
    rw [eg]
    exact (get_no h f (fun W hb => by have := has_any (P.blk.below hb) h; rw [hbf] at this; exact this) rfl).mono fun e w' hp => same hp
end
end Go.Proofs.Ytkblldmpdihamaa
