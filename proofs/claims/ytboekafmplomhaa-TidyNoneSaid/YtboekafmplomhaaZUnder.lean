/-
  The walk of a diagram with a variable's bit told, whole; the call.
-/
import Derived.Test.YtboekafmplomhaaZUnW
import Derived.Test.YtboekafmplomhaaZV
set_option linter.unusedVariables false
set_option linter.unusedSimpArgs false
namespace Go.Proofs.Ytboekafmplomhaa
open Go.RowKit

theorem top_of {w : World} {p : Nat} {F : List Nat} {S : Sto} (h : StoIs w p F S) (hl : S.nodes.length ≤ 1048576) {i : Nat} {n : Nd} (hn : S.nodes[i]? = some n) :
    Calls Try.prog 134 #[.pointer (some ⟨p, 0, none⟩), .int .i64 ((i : Int) + 2)] w (Pure (.int .i64 n.1) w) := by
  have := top_any h hl ((i : Int) + 2) (by have := (List.getElem?_eq_some_iff.1 hn).1; omega)
  rw [topOf_node hn] at this
  exact this
theorem UnPost.after {w V w' : World} {p km : Nat} {F F0 : List Nat} {R : Sto × List (Int × Int) × Option Int} {e : Ending} (h : UnPost V p km F R e w') (st : StoStep w V (km :: F0) (km :: F)) : UnPost w p km F0 R e w' := by
  obtain ⟨h1, F', h2, h3, h4, h5⟩ := h
  exact ⟨h1, F', h2, h3, h4, st.trans h5⟩
set_option maxRecDepth 100000 in
set_option maxHeartbeats 1000000 in
theorem under_any (v : Int) (on : Bool) : ∀ (n : Nat) (w : World) (p km : Nat) (F : List Nat) (S : Sto) (K : List (Int × Int)) (a : Int), StoIs w p F S → MapIs ki w km K → km ∉ F → Wf S → Sated S → KOk S K v on → S.has a → 64 - topOf S a < n →
    Calls Try.prog 90 #[.pointer (some ⟨p, 0, none⟩), .int .i64 a, .int .i64 v, .bool on, .map (some km)] w (UnPost w p km F (underN v on n S K a)) := by
  intro n
  induction n with
  | zero => intro w p km F S K a h _ _ hW _ _ ha hn; have := topOf_le hW ha; omega
  | succ n ih =>
    intro w p km F S K a h hm hk hW hs hK ha hn
    by_cases e : (a < 2 ∨ v < topOf S a) ∨ aget K a ≠ none ∨ topOf S a = v
    · exact under_early h hm hk hW ha e
    · have e1 : ¬ (a < 2 ∨ v < topOf S a) := fun q => e (.inl q)
      have e2 : aget K a = none := by
        cases hq : aget K a with
        | none => rfl
        | some r => exact (e (.inr (.inl (by rw [hq]; simp)))).elim
      have e3 : ¬ topOf S a = v := fun q => e (.inr (.inr q))
      have E1 := hid e1
      have E2 := hid e2
      have E3 := hid e3
      have a2 : ¬ a < 2 := fun q => e1 (.inl q)
      obtain ⟨i, nd, rfl, hn'⟩ := has_node ha a2
      have hl1 : S.nodes.length ≤ 1048576 := by have := hW.len; have := hW.cap; omega
      have tp := topOf_node hn'
      have hnl : ¬ v < nd.1 := fun q => e1 (.inr (by rw [tp]; exact q))
      have hne : (nd.1 == v) = false := by rw [tp] at e3; simpa using e3
      have hN := hid (nodeOf_is hn')
      have hTp := hid tp
      have hc := hW.child hn'
      have hok := hW.node i nd hn'
      rw [tp] at hn
      have T0 := fun W (h : StoIs W p F S) => top_of h hl1 hn'
      obtain ⟨g, cap', bm, tm, hp, hg, c0, c1, c2, c3, c4, hmx, n0, n1, n2⟩ := StoNode h hn'
      have hi1 : (i : Int) < (S.nodes.length : Int) := by have := (List.getElem?_eq_some_iff.1 hn').1; omega
      have hi2 : (0 : Int) ≤ (i : Int) := by omega
      have hb : IntKind.i64.wrap (i : Int) = (i : Int) := IntWalk.i64_in _ (by omega)
      have hlook : ∀ m d, (Instr.lookup 115 (.map (some km)) (.int .i64 ((i : Int) + 2)) true).run Try.prog (w.ext m d) = .ok (.tuple #[.int .i64 0, .bool false]) (w.ext m d) := fun m d => by
        have q := lookup_run (w := w.ext m d) key_int Try.underlying115 (zero_int _) (MapIs.ext hm m d) ((i : Int) + 2) true
        rw [e2] at q
        exact q
      have H := hid h
      have HM := hid hm
      have HA := hid ha
      have O1 := underN_ok v on 64 n S K nd.2.1 hW hs (below64 hW) hK hc.1 (by have := hok.tlo; omega)
      have kd := hok.tlo
      have kh := hok.thi
      clear e e1 e2 e3 a2 tp hok c0 c2 c3 c4 ha h hm
      go_enter Try.func90, Try.ntmps90
      go_upto_region 1 with (fail)
      refine wp_region_seq (fun F hF => ?_)
      have HF := hid hF; clear hF
      repeat (first
        | (apply text_skip; (focus rfl); simp only [Act.put, List.setIfInBounds_toArray, List.set_cons_zero, List.set_cons_succ])
        | (apply text_val; (focus rfl); (focus (intro _ _; go_simp; with_reducible rfl)); simp only [Act.put, List.setIfInBounds_toArray, List.set_cons_zero, List.set_cons_succ])
        | (apply text_call; (focus rfl); (focus (intro _ _; go_simp; exact ⟨rfl, rfl⟩)); (focus (intro _ _; with_reducible (exact T0 _ (by have h := H.out; (repeat' (first | (with_reducible exact h) | (with_reducible refine StoIs.ext ?_ _ _))))))); simp only [Act.put, List.setIfInBounds_toArray, List.set_cons_zero, List.set_cons_succ])
        | (apply text_if; (focus (first | exact wanted_t rfl rfl | exact wanted_f rfl rfl | exact wanted_gt rfl rfl | exact wanted_gf rfl rfl)); (focus (intro hc _ _; (try simp only [Bool.and_eq_true, Bool.not_eq_true', Bool.true_and] at hc); go_simp; with_reducible rfl)); simp only [Act.put, List.setIfInBounds_toArray, List.set_cons_zero, List.set_cons_succ])
        | (apply text_if_call; (focus (first | exact wanted_t rfl rfl | exact wanted_f rfl rfl | exact wanted_gt rfl rfl | exact wanted_gf rfl rfl)); (focus (intro hc _ _; (try simp only [Bool.and_eq_true, Bool.not_eq_true', Bool.true_and] at hc); go_simp; exact ⟨rfl, rfl⟩)); (focus (intro hc _ _; with_reducible (exact T0 _ (by have h := H.out; (repeat' (first | (with_reducible exact h) | (with_reducible refine StoIs.ext ?_ _ _))))))); simp only [Act.put, List.setIfInBounds_toArray, List.set_cons_zero, List.set_cons_succ]))
      refine text_nil (HF.out _ (fun mx dx => ?_))
      clear HF F
      go_upto_region 3 with (fail)
      refine wp_region_ext (by kernel_rfl) (by kernel_rfl) (fun F hF => ?_)
      have HF := hid hF; clear hF
      repeat (first
        | (apply text_skip; (focus rfl); simp only [Act.put, List.setIfInBounds_toArray, List.set_cons_zero, List.set_cons_succ])
        | (apply text_val; (focus rfl); (focus (intro _ _; go_simp; with_reducible rfl)); simp only [Act.put, List.setIfInBounds_toArray, List.set_cons_zero, List.set_cons_succ])
        | (apply text_if; (focus (first | exact wanted_t rfl rfl | exact wanted_f rfl rfl | exact wanted_gt rfl rfl | exact wanted_gf rfl rfl)); (focus (intro hc _ _; (try simp only [Bool.and_eq_true, Bool.not_eq_true', Bool.true_and] at hc); go_simp; with_reducible rfl)); simp only [Act.put, List.setIfInBounds_toArray, List.set_cons_zero, List.set_cons_succ]))
      refine text_nil (HF.out _ (fun mx dx => ?_))
      clear HF F
      go_upto_region 4 with (fail)
      refine wp_region_seq (fun F hF => ?_)
      have HF := hid hF; clear hF
      repeat (first
        | (apply text_skip; (focus rfl); simp only [Act.put, List.setIfInBounds_toArray, List.set_cons_zero, List.set_cons_succ])
        | (apply text_val; (focus rfl); (focus (intro _ _; go_simp; with_reducible rfl)); simp only [Act.put, List.setIfInBounds_toArray, List.set_cons_zero, List.set_cons_succ])
        | (apply text_if; (focus (first | exact wanted_t rfl rfl | exact wanted_f rfl rfl | exact wanted_gt rfl rfl | exact wanted_gf rfl rfl)); (focus (intro hc _ _; (try simp only [Bool.and_eq_true, Bool.not_eq_true', Bool.true_and] at hc); go_simp; with_reducible rfl)); simp only [Act.put, List.setIfInBounds_toArray, List.set_cons_zero, List.set_cons_succ]))
      refine text_nil (HF.out _ (fun mx dx => ?_))
      clear HF F
      go_upto_region 7 with (fail)
      refine wp_region_seq (fun F hF => ?_)
      have HF := hid hF; clear hF
      repeat (first
        | (apply text_skip; (focus rfl); simp only [Act.put, List.setIfInBounds_toArray, List.set_cons_zero, List.set_cons_succ])
        | (apply text_val; (focus rfl); (focus (intro _ _; go_simp; with_reducible rfl)); simp only [Act.put, List.setIfInBounds_toArray, List.set_cons_zero, List.set_cons_succ])
        | (apply text_call; (focus rfl); (focus (intro _ _; go_simp; exact ⟨rfl, rfl⟩)); (focus (intro _ _; with_reducible (exact T0 _ (by have h := H.out; (repeat' (first | (with_reducible exact h) | (with_reducible refine StoIs.ext ?_ _ _))))))); simp only [Act.put, List.setIfInBounds_toArray, List.set_cons_zero, List.set_cons_succ])
        | (apply text_if; (focus (first | exact wanted_t rfl rfl | exact wanted_f rfl rfl | exact wanted_gt rfl rfl | exact wanted_gf rfl rfl)); (focus (intro hc _ _; (try simp only [Bool.and_eq_true, Bool.not_eq_true', Bool.true_and] at hc); go_simp; with_reducible rfl)); simp only [Act.put, List.setIfInBounds_toArray, List.set_cons_zero, List.set_cons_succ])
        | (apply text_if_call; (focus (first | exact wanted_t rfl rfl | exact wanted_f rfl rfl | exact wanted_gt rfl rfl | exact wanted_gf rfl rfl)); (focus (intro hc _ _; (try simp only [Bool.and_eq_true, Bool.not_eq_true', Bool.true_and] at hc); go_simp; exact ⟨rfl, rfl⟩)); (focus (intro hc _ _; with_reducible (exact T0 _ (by have h := H.out; (repeat' (first | (with_reducible exact h) | (with_reducible refine StoIs.ext ?_ _ _))))))); simp only [Act.put, List.setIfInBounds_toArray, List.set_cons_zero, List.set_cons_succ]))
      refine text_nil (HF.out _ (fun mx dx => ?_))
      clear HF F
      go_upto_region 9 with (fail)
      refine wp_region_seq (fun F hF => ?_)
      have HF := hid hF; clear hF
      repeat (first
        | (apply text_skip; (focus rfl); simp only [Act.put, List.setIfInBounds_toArray, List.set_cons_zero, List.set_cons_succ])
        | (apply text_val; (focus rfl); (focus (intro _ _; go_simp; with_reducible rfl)); simp only [Act.put, List.setIfInBounds_toArray, List.set_cons_zero, List.set_cons_succ])
        | (apply text_call; (focus rfl); (focus (intro _ _; go_simp; exact ⟨rfl, rfl⟩)); (focus (intro _ _; with_reducible (exact T0 _ (by have h := H.out; (repeat' (first | (with_reducible exact h) | (with_reducible refine StoIs.ext ?_ _ _))))))); simp only [Act.put, List.setIfInBounds_toArray, List.set_cons_zero, List.set_cons_succ])
        | (apply text_if; (focus (first | exact wanted_t rfl rfl | exact wanted_f rfl rfl | exact wanted_gt rfl rfl | exact wanted_gf rfl rfl)); (focus (intro hc _ _; (try simp only [Bool.and_eq_true, Bool.not_eq_true', Bool.true_and] at hc); go_simp; with_reducible rfl)); simp only [Act.put, List.setIfInBounds_toArray, List.set_cons_zero, List.set_cons_succ])
        | (apply text_if_call; (focus (first | exact wanted_t rfl rfl | exact wanted_f rfl rfl | exact wanted_gt rfl rfl | exact wanted_gf rfl rfl)); (focus (intro hc _ _; (try simp only [Bool.and_eq_true, Bool.not_eq_true', Bool.true_and] at hc); go_simp; exact ⟨rfl, rfl⟩)); (focus (intro hc _ _; with_reducible (exact T0 _ (by have h := H.out; (repeat' (first | (with_reducible exact h) | (with_reducible refine StoIs.ext ?_ _ _))))))); simp only [Act.put, List.setIfInBounds_toArray, List.set_cons_zero, List.set_cons_succ]))
      refine text_nil (HF.out _ (fun mx dx => ?_))
      clear HF F
      go_upto_region 11 with (fail)
      refine wp_gen (fun V hV => ?_)
      have hbV : Below w.heap.size w V := by rw [hV]; ((repeat' (first | (with_reducible exact Below.refl _ _) | (with_reducible refine Below.ext_mk ?_ ?_ _ _) | (with_reducible refine Below.alloc ?_ ?_ _) | (with_reducible refine Below.drew ?_) | (with_reducible refine Below.setCell ?_ ?_ _) | go_size)))
      clear hV
      have hV := H.out.below hbV
      have hmV : MapIs ki V km K := MapIs.keep HM.out (hbV.block _ (MapIs.lt HM.out))
      have st0 : StoStep w V (km :: F) (km :: F) := StoStep.of_below hbV
      have I1 := ih V p km F S K nd.2.1 hV hmV hk hW hs hK hc.1 (by omega)
      clear hlook n0 n1 n2 c1 hp hg hbV hne hb T0
      rcases hR1 : underN v on n S K nd.2.1 with ⟨S1, K1, _ | l⟩
      · rw [hR1] at I1 O1
        unfold UnPost at I1
        simp only [endOf] at I1
        have HR1 := hid hR1
        clear hR1 O1 ih
        go_wp2_with (go_at_call 90; refine I1.mono ?_; rintro e w' ⟨rfl, hT⟩)
        rw [underN_1 E1.out E2.out E3.out (by rw [hN.out]; exact HR1.out)]
        obtain ⟨F', t1, t2, t3, t4⟩ := hT
        exact ⟨rfl, rfl, F', t1, t2, t3, st0.trans t4⟩
      · rw [hR1] at I1 O1
        unfold UnPost at I1
        simp only [endOf] at I1
        have HR1 := hid hR1
        have g1 := O1.grows
        have wf1 := O1.wf
        have s1 := O1.sated
        have kk1 := O1.known
        simp only at g1 wf1 s1 kk1
        have hs1 : S1.nodes.length ≤ 1048576 := by have := wf1.len; have := wf1.cap; omega
        have T1 := fun W F (h : StoIs W p F S1) => top_of h hs1 (g1.at hn')
        have I2 := fun W F h hm hk => ih W p km F S1 K1 nd.2.2 h hm hk wf1 s1 kk1 (g1.has hc.2) (by rw [g1.top hc.2]; omega)
        have O2 := underN_ok v on 64 n S1 K1 nd.2.2 wf1 s1 (below64 wf1) kk1 (g1.has hc.2) (by rw [g1.top hc.2]; omega)
        clear hR1 ih O1 hV hmV
        rcases hR2 : underN v on n S1 K1 nd.2.2 with ⟨S2, K2, _ | hh⟩
        · rw [hR2] at I2 O2
          unfold UnPost at I2
          simp only [endOf] at I2
          have HR2 := hid hR2
          clear hR2 O2
          go_wp2_with (first
            | (go_at_call 90; first
                | ((with_reducible refine I1.mono ?_); rintro e w1 ⟨rfl, F1, hS1, hm1, hk1, st1⟩)
                | ((with_reducible refine (I2 _ _ (hS1.ext _ _) (MapIs.ext hm1 _ _) hk1).mono ?_); rintro e w' ⟨rfl, hT⟩))
            | (go_at_call 134; refine (T1 _ _ hS1).mono ?_; rintro e w2 ⟨rfl, m9, d9, rfl⟩))
          rw [underN_2 E1.out E2.out E3.out (by rw [hN.out]; exact HR1.out) (by rw [hN.out]; exact HR2.out)]
          obtain ⟨F', t1, t2, t3, t4⟩ := hT
          exact ⟨rfl, rfl, F', t1, t2, t3, st0.trans ((st1.ext _ _).trans t4)⟩
        · rw [hR2] at I2 O2
          unfold UnPost at I2
          simp only [endOf] at I2
          have HR2 := hid hR2
          have wf2 := O2.wf
          simp only at wf2
          have N : ∀ w F, StoIs w p F S2 → _ := fun w F h => node_any h wf2.len wf2.cap nd.1 l hh
          clear hR2 O2
          rcases hR3 : mkN S2 nd.1 l hh with ⟨S3, _ | r⟩
          · rw [hR3] at N
            simp only [endOf] at N
            have HR3 := hid hR3
            clear hR3
            go_wp2_with (first
              | (go_at_call 90; first
                  | ((with_reducible refine I1.mono ?_); rintro e w1 ⟨rfl, F1, hS1, hm1, hk1, st1⟩)
                  | ((with_reducible refine (I2 _ _ (hS1.ext _ _) (MapIs.ext hm1 _ _) hk1).mono ?_); rintro e w3 ⟨rfl, F2, hS2, hm2, hk2, st2⟩))
              | (go_at_call 134; refine (T1 _ _ hS1).mono ?_; rintro e w2 ⟨rfl, m9, d9, rfl⟩)
              | (go_at_call 86; refine (N _ _ hS2).mono ?_; rintro e w4 ⟨rfl, F3, hS3, st3⟩))
            rw [underN_3 E1.out E2.out E3.out (by rw [hN.out]; exact HR1.out) (by rw [hN.out]; exact HR2.out) (by rw [hTp.out]; exact HR3.out)]
            exact ⟨rfl, rfl, F3, hS3, MapIs.keep hm2 (st3.block _ (MapIs.lt hm2) hk2), st3.keeps (MapIs.lt hm2) hk2, st0.trans ((st1.ext _ _).trans (st2.trans (st3.wide km)))⟩
          · rw [hR3] at N
            simp only [endOf] at N
            have HR3 := hid hR3
            clear hR3
            go_wp2_with (first
              | (go_at_call 90; first
                  | ((with_reducible refine I1.mono ?_); rintro e w1 ⟨rfl, F1, hS1, hm1, hk1, st1⟩)
                  | ((with_reducible refine (I2 _ _ (hS1.ext _ _) (MapIs.ext hm1 _ _) hk1).mono ?_); rintro e w3 ⟨rfl, F2, hS2, hm2, hk2, st2⟩))
              | (go_at_call 134; refine (T1 _ _ hS1).mono ?_; rintro e w2 ⟨rfl, m9, d9, rfl⟩)
              | (go_at_call 86; refine (N _ _ hS2).mono ?_; rintro e w4 ⟨rfl, F3, hS3, st3⟩
                 have hm3 : MapIs ki w4 km K2 := MapIs.keep hm2 (st3.block _ (MapIs.lt hm2) hk2)
                 have hk3 : km ∉ F3 := st3.keeps (MapIs.lt hm2) hk2
                 obtain ⟨o, u1, u2⟩ := update_run (t := 115) key_int Try.underlying115 hm3 ((i : Int) + 2) r
                 have u3 := lookup_run key_int Try.underlying115 (zero_int _) u2 ((i : Int) + 2) false
                 simp only [aget_aput_self, Option.getD_some, Bool.false_eq_true, if_false] at u3))
            go_returns
            rw [underN_4 E1.out E2.out E3.out (by rw [hN.out]; exact HR1.out) (by rw [hN.out]; exact HR2.out) (by rw [hTp.out]; exact HR3.out)]
            refine ⟨rfl, F3, hS3.keep (fun k hk => World.heap_putObj_ne _ _ (fun e => hk3 (by rw [← e]; exact hk))), u2, hk3, ?_⟩
            exact st0.trans ((st1.ext _ _).trans (st2.trans ((st3.wide km).trans (StoStep.put (List.mem_cons_self ..) o))))
end Go.Proofs.Ytboekafmplomhaa
set_option linter.unusedVariables false
set_option linter.unusedSimpArgs false
namespace Go.Proofs.Ytboekafmplomhaa
open Go.RowKit

theorem StoStep.drop {w V w' : World} {F F' : List Nat} {km : Nat} (hb : Below w.heap.size w V) (h : StoStep V w' (km :: F) (km :: F')) (h1 : w.heap.size ≤ km) (h2 : km < V.heap.size) (hF : ∀ k ∈ F, k < w.heap.size) (hn : km ∉ F') : StoStep w w' F F' :=
  ⟨h.os.trans hb.os, h.tape.trans hb.tape, h.output.trans hb.output, Nat.le_trans hb.size h.size,
   fun k hk hn => (h.block k (Nat.lt_of_lt_of_le hk hb.size) (fun hm => by
     rcases List.mem_cons.1 hm with rfl | hm
     · omega
     · exact hn hm)).trans (hb.block k hk),
   fun k hk => by
     rcases h.fresh k (List.mem_cons_of_mem _ hk) with q | q
     · rcases List.mem_cons.1 q with rfl | q
       · exact (hn hk).elim
       · exact .inl q
     · exact .inr ⟨by have := hb.size; omega, q.2⟩⟩

theorem under1_any {w : World} {p : Nat} {F : List Nat} {S : Sto} (h : StoIs w p F S) (hW : Wf S) (hs : Sated S) (x v : Int) (on : Bool) (i0 i1 i2 i3 : Nat)
    (h0 : i0 < w.heap.size) (h1 : i1 < w.heap.size) (h2 : i2 < w.heap.size) (h3 : i3 < w.heap.size)
    (c0 : w.cell? ⟨i0, 0, none⟩ = some (.pointer (some ⟨p, 0, none⟩))) (c1 : w.cell? ⟨i1, 0, none⟩ = some (.int .i64 x)) (c2 : w.cell? ⟨i2, 0, none⟩ = some (.int .i64 v)) (c3 : w.cell? ⟨i3, 0, none⟩ = some (.bool on)) :
    Calls Try.prog 89 #[.pointer (some ⟨i0, 0, none⟩), .pointer (some ⟨i1, 0, none⟩), .pointer (some ⟨i2, 0, none⟩), .pointer (some ⟨i3, 0, none⟩)] w
      (fun e w' => e = endOf (underR S x v on).2 ∧ Turned w p F (underR S x v on).1 w') := by
  have hmm := @run_makeMap Try.prog
  have hl1 : S.nodes.length ≤ 1048576 := by have := hW.len; have := hW.cap; omega
  have hlt := h.lt
  have R1 := fun d => right_same (h.ext #[] d) hl1 x
  have hb2 : Below w.heap.size w (w.alloc (.map #[] 0)) := by (repeat' (first | (with_reducible exact Below.refl _ _) | (with_reducible refine Below.ext_mk ?_ ?_ _ _) | (with_reducible refine Below.alloc ?_ ?_ _) | (with_reducible refine Below.drew ?_) | (with_reducible refine Below.setCell ?_ ?_ _) | go_size))
  have R2 := fun d => right_same ((h.below hb2).ext #[] d) hl1 x
  have e1 : ∀ d, (w.ext #[] d).alloc (.map #[] 0) = (w.alloc (.map #[] 0)).ext #[] d := fun d => by unfold World.ext World.alloc; simp
  have H := hid h
  go_enter Try.func89, Try.ntmps89
  go_upto_region 1 with (fail)
  refine wp_region_make 6 7 (w.alloc (.map #[] 0)) (by kernel_rfl) (by kernel_rfl) (by kernel_rfl) (by kernel_rfl) (by kernel_rfl) (fun F' hF => ?_)
  simp only [List.take_succ_cons, List.take_zero, List.drop_succ_cons, List.drop_zero] at hF ⊢
  have HF := hid hF
  clear hF
  repeat (first
    | (refine make_val rfl rfl (fun _ => by go_simp; with_reducible rfl) (fun _ => by first | (go_simp; done) | (go_simp; with_reducible rfl)) ?_; simp only [Act.put, List.setIfInBounds_toArray, List.set_cons_zero, List.set_cons_succ])
    | (refine make_call rfl rfl (fun _ => by first | (go_simp; done) | (go_simp; exact ⟨rfl, rfl⟩)) R1 R2 ?_; simp only [Act.put, List.setIfInBounds_toArray, List.set_cons_zero, List.set_cons_succ])
    | (refine make_make (v := .map (some w.heap.size)) rfl (fun d => ⟨d, by rw [← e1 d]; go_simp⟩) ?_; simp only [Act.put, List.setIfInBounds_toArray, List.set_cons_zero, List.set_cons_succ]))
  refine make_nil (HF.out _ (fun d => ?_))
  clear HF
  have hw : (Exit.normal = Exit.normal) := rfl
  generalize hV : (w.alloc (.map #[] 0)).ext #[] d = V
  have hbV : Below w.heap.size w V := by rw [← hV]; (repeat' (first | (with_reducible exact Below.refl _ _) | (with_reducible refine Below.ext_mk ?_ ?_ _ _) | (with_reducible refine Below.alloc ?_ ?_ _) | (with_reducible refine Below.drew ?_) | (with_reducible refine Below.setCell ?_ ?_ _) | go_size))
  have zV : w.heap.size < V.heap.size := by rw [← hV]; simp
  have hmV : MapIs ki V w.heap.size [] := by
    rw [← hV]
    refine MapIs.ext ⟨#[], 0, World.heap_alloc_last w _, rfl⟩ #[] d
  clear hV hw e1 R1 R2 hb2 hmm c0 c1 c2 c3 h0 h1 h2 h3
  have hkm : w.heap.size ∉ F := fun hm => Nat.lt_irrefl _ (hlt _ hm)
  have N := under_any v on 65 V p w.heap.size F S [] (rightOf S x) (h.below hbV) hmV hkm hW hs (KOk.nil S v on) (has_right x) (by have := topOf_ge hW (has_right (S := S) x); omega)
  rcases hR : underN v on 65 S [] (rightOf S x) with ⟨S', K', _ | r⟩
  · rw [hR] at N
    unfold UnPost at N
    simp only [endOf] at N
    have HR := hid hR
    clear hR
    go_wp2_with (go_at_call 90; refine N.mono ?_; rintro e w' ⟨rfl, F', t1, t2, t3, t4⟩)
    unfold underR
    rw [HR.out]
    exact ⟨rfl, rfl, F', t1, StoStep.drop hbV t4 (Nat.le_refl _) zV hlt t3⟩
  · rw [hR] at N
    unfold UnPost at N
    simp only [endOf] at N
    have HR := hid hR
    clear hR
    go_wp2_with (go_at_call 90; refine N.mono ?_; rintro e w' ⟨rfl, F', t1, t2, t3, t4⟩)
    go_returns
    unfold underR
    rw [HR.out]
    exact ⟨rfl, F', t1, StoStep.drop hbV t4 (Nat.le_refl _) zV hlt t3⟩

theorem under_call {w : World} {p : Nat} {F : List Nat} {S : Sto} (h : StoIs w p F S) (hW : Wf S) (hs : Sated S) (x v : Int) (on : Bool) :
    Tells 30 #[.pointer (some ⟨p, 0, none⟩), .int .i64 x, .int .i64 v, .bool on] w p F (underV S x v on) := by
  have hmf : ∀ (fn : Fn) (first cap : Array Value) (w : World), (Instr.makeFunc fn first cap).run Try.prog w = .ok (.func fn first cap) w := fun _ _ _ _ => rfl
  have hc : S.cap ≠ 0 := by have := hW.cap2; omega
  go_enter Try.func30, Try.ntmps30
  go_upto_region 1 with (fail)
  refine wp_gen (fun V hV => ?_)
  have hbV : Below w.heap.size w V := by rw [hV]; ((repeat' (first | (with_reducible exact Below.refl _ _) | (with_reducible refine Below.ext_mk ?_ ?_ _ _) | (with_reducible refine Below.alloc ?_ ?_ _) | (with_reducible refine Below.drew ?_) | (with_reducible refine Below.setCell ?_ ?_ _) | go_size)))
  have zV0 : w.heap.size < V.heap.size := by rw [hV]; first | (simp; done) | (simp; omega)
  have cV0_0 : V.cell? ⟨w.heap.size, 0, none⟩ = some (.pointer (some ⟨p, 0, none⟩)) := by rw [hV]; first | (go_simp; done) | (rw [World.cell?_alloc_past _ _ _ (by first | (simp; done) | (simp; omega))]; go_simp)
  have zV1 : w.heap.size + 1 < V.heap.size := by rw [hV]; first | (simp; done) | (simp; omega)
  have cV1_0 : V.cell? ⟨w.heap.size + 1, 0, none⟩ = some (.int .i64 x) := by rw [hV]; first | (go_simp; done) | (rw [World.cell?_alloc_past _ _ _ (by first | (simp; done) | (simp; omega))]; go_simp)
  have zV2 : w.heap.size + 2 < V.heap.size := by rw [hV]; first | (simp; done) | (simp; omega)
  have cV2_0 : V.cell? ⟨w.heap.size + 2, 0, none⟩ = some (.int .i64 v) := by rw [hV]; first | (go_simp; done) | (rw [World.cell?_alloc_past _ _ _ (by first | (simp; done) | (simp; omega))]; go_simp)
  have zV3 : w.heap.size + 3 < V.heap.size := by rw [hV]; first | (simp; done) | (simp; omega)
  have cV3_0 : V.cell? ⟨w.heap.size + 3, 0, none⟩ = some (.bool on) := by rw [hV]; first | (go_simp; done) | (rw [World.cell?_alloc_past _ _ _ (by first | (simp; done) | (simp; omega))]; go_simp)
  clear hV
  have hV := h.below hbV
  have M := made_any hV hc 89 #[.pointer (some ⟨w.heap.size, 0, none⟩), .pointer (some ⟨w.heap.size + 1, 0, none⟩), .pointer (some ⟨w.heap.size + 2, 0, none⟩), .pointer (some ⟨w.heap.size + 3, 0, none⟩)] (fun _ => by kernel_rfl) (underR S x v on)
    (fun w' hb hS => under1_any hS hW hs x v on _ _ _ _ (Nat.lt_of_lt_of_le zV0 hb.size) (Nat.lt_of_lt_of_le zV1 hb.size) (Nat.lt_of_lt_of_le zV2 hb.size) (Nat.lt_of_lt_of_le zV3 hb.size)
      ((cell_of_heap 0 (hb.block _ zV0)).trans cV0_0) ((cell_of_heap 0 (hb.block _ zV1)).trans cV1_0) ((cell_of_heap 0 (hb.block _ zV2)).trans cV2_0) ((cell_of_heap 0 (hb.block _ zV3)).trans cV3_0))
  have st : StoStep w V F F := StoStep.of_below hbV
  unfold Tells at M
  go_wp2_with (go_at_call 84; refine M.mono ?_; rintro e w' ⟨rfl, hT⟩)
  go_returns
  exact ⟨rfl, hT.after st⟩
end Go.Proofs.Ytboekafmplomhaa
