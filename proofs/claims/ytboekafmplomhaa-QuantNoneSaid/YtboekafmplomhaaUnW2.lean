/-
  The walk of a diagram with a variable's bit told, whole; the call.
-/
import Derived.Test.YtboekafmplomhaaUnW
import Derived.Test.YtboekafmplomhaaV
set_option linter.unusedVariables false
set_option linter.unusedSimpArgs false
namespace Go.Proofs.Ytboekafmplomhaa
open Go.RowKit

theorem top_of {w : World} {p : Nat} {F : List Nat} {S : Sto} (h : StoIs w p F S) (hl : S.nodes.length ≤ 1048576) {i : Nat} {n : Nd} (hn : S.nodes[i]? = some n) :
    Calls Try.prog 134 #[.pointer (some ⟨p, 0, none⟩), .int .i64 ((i : Int) + 2)] w (Pure (.int .i64 n.1) w) := by
  have := top_any h hl ((i : Int) + 2) (by have := (List.getElem?_eq_some_iff.1 hn).1; omega)
  rw [topOf_node hn] at this
  exact this
theorem UnPost.after {w V w' : World} {p km : Nat} {F F0 : List Nat} {R : Sto × List (Int × Int) × Option Int} {e : Ending} (h : UnPost V p km F R e w') (st : StoStep w V (km :: F0) (km :: F)) : UnPost w p km F0 R e w' := by
  obtain ⟨h1, F', h2, h3, h4, h5⟩ := h
  exact ⟨h1, F', h2, h3, h4, st.trans h5⟩
set_option maxRecDepth 100000 in
set_option maxHeartbeats 1000000 in
theorem under_any (v : Int) (on : Bool) : ∀ (n : Nat) (w : World) (p km : Nat) (F : List Nat) (S : Sto) (K : List (Int × Int)) (a : Int), StoIs w p F S → MapIs ki w km K → km ∉ F → Wf S → Sated S → KOk S K v on → S.has a → 64 - topOf S a < n →
    Calls Try.prog 90 #[.pointer (some ⟨p, 0, none⟩), .int .i64 a, .int .i64 v, .bool on, .map (some km)] w (UnPost w p km F (underN v on n S K a)) := by
  intro n
  induction n with
  | zero => intro w p km F S K a h _ _ hW _ _ ha hn; have := topOf_le hW ha; omega
  | succ n ih =>
    intro w p km F S K a h hm hk hW hs hK ha hn
    by_cases e : (a < 2 ∨ v < topOf S a) ∨ aget K a ≠ none ∨ topOf S a = v
    · exact under_early h hm hk hW ha e
    · have e1 : ¬ (a < 2 ∨ v < topOf S a) := fun q => e (.inl q)
      have e2 : aget K a = none := by
        cases hq : aget K a with
        | none => rfl
        | some r => exact (e (.inr (.inl (by rw [hq]; simp)))).elim
      have e3 : ¬ topOf S a = v := fun q => e (.inr (.inr q))
      have E1 := hid e1
      have E2 := hid e2
      have E3 := hid e3
      have a2 : ¬ a < 2 := fun q => e1 (.inl q)
      obtain ⟨i, nd, rfl, hn'⟩ := has_node ha a2
      have hl1 : S.nodes.length ≤ 1048576 := by have := hW.len; have := hW.cap; omega
      have tp := topOf_node hn'
      have hnl : ¬ v < nd.1 := fun q => e1 (.inr (by rw [tp]; exact q))
      have hne : (nd.1 == v) = false := by rw [tp] at e3; simpa using e3
      have hN := hid (nodeOf_is hn')
      have hTp := hid tp
      have hc := hW.child hn'
      have hok := hW.node i nd hn'
      rw [tp] at hn
      have T0 := fun W (h : StoIs W p F S) => top_of h hl1 hn'
      obtain ⟨g, cap', bm, tm, hp, hg, c0, c1, c2, c3, c4, hmx, n0, n1, n2⟩ := StoNode h hn'
      have hi1 : (i : Int) < (S.nodes.length : Int) := by have := (List.getElem?_eq_some_iff.1 hn').1; omega
      have hi2 : (0 : Int) ≤ (i : Int) := by omega
      have hb : IntKind.i64.wrap (i : Int) = (i : Int) := IntWalk.i64_in _ (by omega)
      have hlook : ∀ m d, (Instr.lookup 115 (.map (some km)) (.int .i64 ((i : Int) + 2)) true).run Try.prog (w.ext m d) = .ok (.tuple #[.int .i64 0, .bool false]) (w.ext m d) := fun m d => by
        have q := lookup_run (w := w.ext m d) key_int Try.underlying115 (zero_int _) (MapIs.ext hm m d) ((i : Int) + 2) true
        rw [e2] at q
        exact q
      have H := hid h
      have HM := hid hm
      have HA := hid ha
      have O1 := underN_ok v on 64 n S K nd.2.1 hW hs (below64 hW) hK hc.1 (by have := hok.tlo; omega)
      have kd := hok.tlo
      have kh := hok.thi
      clear e e1 e2 e3 a2 tp hok c0 c2 c3 c4 ha h hm
      go_enter Try.func90, Try.ntmps90
      go_upto_region 1 with (fail)
      refine wp_region_seq (fun F hF => ?_)
      have HF := hid hF; clear hF
      repeat (first
        | (apply text_skip; (focus rfl); simp only [Act.put, List.setIfInBounds_toArray, List.set_cons_zero, List.set_cons_succ])
        | (apply text_val; (focus rfl); (focus (intro _ _; go_simp; with_reducible rfl)); simp only [Act.put, List.setIfInBounds_toArray, List.set_cons_zero, List.set_cons_succ])
        | (apply text_call; (focus rfl); (focus (intro _ _; go_simp; exact ⟨rfl, rfl⟩)); (focus (intro _ _; with_reducible (exact T0 _ (by have h := H.out; (repeat' (first | (with_reducible exact h) | (with_reducible refine StoIs.ext ?_ _ _))))))); simp only [Act.put, List.setIfInBounds_toArray, List.set_cons_zero, List.set_cons_succ])
        | (apply text_if; (focus (first | exact wanted_t rfl rfl | exact wanted_f rfl rfl | exact wanted_gt rfl rfl | exact wanted_gf rfl rfl)); (focus (intro hc _ _; (try simp only [Bool.and_eq_true, Bool.not_eq_true', Bool.true_and] at hc); go_simp; with_reducible rfl)); simp only [Act.put, List.setIfInBounds_toArray, List.set_cons_zero, List.set_cons_succ])
        | (apply text_if_call; (focus (first | exact wanted_t rfl rfl | exact wanted_f rfl rfl | exact wanted_gt rfl rfl | exact wanted_gf rfl rfl)); (focus (intro hc _ _; (try simp only [Bool.and_eq_true, Bool.not_eq_true', Bool.true_and] at hc); go_simp; exact ⟨rfl, rfl⟩)); (focus (intro hc _ _; with_reducible (exact T0 _ (by have h := H.out; (repeat' (first | (with_reducible exact h) | (with_reducible refine StoIs.ext ?_ _ _))))))); simp only [Act.put, List.setIfInBounds_toArray, List.set_cons_zero, List.set_cons_succ]))
      refine text_nil (HF.out _ (fun mx dx => ?_))
      clear HF F
      go_upto_region 3 with (fail)
      refine wp_region_ext (by kernel_rfl) (by kernel_rfl) (fun F hF => ?_)
      have HF := hid hF; clear hF
      repeat (first
        | (apply text_skip; (focus rfl); simp only [Act.put, List.setIfInBounds_toArray, List.set_cons_zero, List.set_cons_succ])
        | (apply text_val; (focus rfl); (focus (intro _ _; go_simp; with_reducible rfl)); simp only [Act.put, List.setIfInBounds_toArray, List.set_cons_zero, List.set_cons_succ])
        | (apply text_if; (focus (first | exact wanted_t rfl rfl | exact wanted_f rfl rfl | exact wanted_gt rfl rfl | exact wanted_gf rfl rfl)); (focus (intro hc _ _; (try simp only [Bool.and_eq_true, Bool.not_eq_true', Bool.true_and] at hc); go_simp; with_reducible rfl)); simp only [Act.put, List.setIfInBounds_toArray, List.set_cons_zero, List.set_cons_succ]))
      refine text_nil (HF.out _ (fun mx dx => ?_))
      clear HF F
      go_upto_region 4 with (fail)
      refine wp_region_seq (fun F hF => ?_)
      have HF := hid hF; clear hF
      repeat (first
        | (apply text_skip; (focus rfl); simp only [Act.put, List.setIfInBounds_toArray, List.set_cons_zero, List.set_cons_succ])
        | (apply text_val; (focus rfl); (focus (intro _ _; go_simp; with_reducible rfl)); simp only [Act.put, List.setIfInBounds_toArray, List.set_cons_zero, List.set_cons_succ])
        | (apply text_if; (focus (first | exact wanted_t rfl rfl | exact wanted_f rfl rfl | exact wanted_gt rfl rfl | exact wanted_gf rfl rfl)); (focus (intro hc _ _; (try simp only [Bool.and_eq_true, Bool.not_eq_true', Bool.true_and] at hc); go_simp; with_reducible rfl)); simp only [Act.put, List.setIfInBounds_toArray, List.set_cons_zero, List.set_cons_succ]))
      refine text_nil (HF.out _ (fun mx dx => ?_))
      clear HF F
      go_upto_region 7 with (fail)
      refine wp_region_seq (fun F hF => ?_)
      have HF := hid hF; clear hF
      repeat (first
        | (apply text_skip; (focus rfl); simp only [Act.put, List.setIfInBounds_toArray, List.set_cons_zero, List.set_cons_succ])
        | (apply text_val; (focus rfl); (focus (intro _ _; go_simp; with_reducible rfl)); simp only [Act.put, List.setIfInBounds_toArray, List.set_cons_zero, List.set_cons_succ])
        | (apply text_call; (focus rfl); (focus (intro _ _; go_simp; exact ⟨rfl, rfl⟩)); (focus (intro _ _; with_reducible (exact T0 _ (by have h := H.out; (repeat' (first | (with_reducible exact h) | (with_reducible refine StoIs.ext ?_ _ _))))))); simp only [Act.put, List.setIfInBounds_toArray, List.set_cons_zero, List.set_cons_succ])
        | (apply text_if; (focus (first | exact wanted_t rfl rfl | exact wanted_f rfl rfl | exact wanted_gt rfl rfl | exact wanted_gf rfl rfl)); (focus (intro hc _ _; (try simp only [Bool.and_eq_true, Bool.not_eq_true', Bool.true_and] at hc); go_simp; with_reducible rfl)); simp only [Act.put, List.setIfInBounds_toArray, List.set_cons_zero, List.set_cons_succ])
        | (apply text_if_call; (focus (first | exact wanted_t rfl rfl | exact wanted_f rfl rfl | exact wanted_gt rfl rfl | exact wanted_gf rfl rfl)); (focus (intro hc _ _; (try simp only [Bool.and_eq_true, Bool.not_eq_true', Bool.true_and] at hc); go_simp; exact ⟨rfl, rfl⟩)); (focus (intro hc _ _; with_reducible (exact T0 _ (by have h := H.out; (repeat' (first | (with_reducible exact h) | (with_reducible refine StoIs.ext ?_ _ _))))))); simp only [Act.put, List.setIfInBounds_toArray, List.set_cons_zero, List.set_cons_succ]))
      refine text_nil (HF.out _ (fun mx dx => ?_))
      clear HF F
      go_upto_region 9 with (fail)
      refine wp_region_seq (fun F hF => ?_)
      have HF := hid hF; clear hF
      repeat (first
        | (apply text_skip; (focus rfl); simp only [Act.put, List.setIfInBounds_toArray, List.set_cons_zero, List.set_cons_succ])
        | (apply text_val; (focus rfl); (focus (intro _ _; go_simp; with_reducible rfl)); simp only [Act.put, List.setIfInBounds_toArray, List.set_cons_zero, List.set_cons_succ])
        | (apply text_call; (focus rfl); (focus (intro _ _; go_simp; exact ⟨rfl, rfl⟩)); (focus (intro _ _; with_reducible (exact T0 _ (by have h := H.out; (repeat' (first | (with_reducible exact h) | (with_reducible refine StoIs.ext ?_ _ _))))))); simp only [Act.put, List.setIfInBounds_toArray, List.set_cons_zero, List.set_cons_succ])
        | (apply text_if; (focus (first | exact wanted_t rfl rfl | exact wanted_f rfl rfl | exact wanted_gt rfl rfl | exact wanted_gf rfl rfl)); (focus (intro hc _ _; (try simp only [Bool.and_eq_true, Bool.not_eq_true', Bool.true_and] at hc); go_simp; with_reducible rfl)); simp only [Act.put, List.setIfInBounds_toArray, List.set_cons_zero, List.set_cons_succ])
        | (apply text_if_call; (focus (first | exact wanted_t rfl rfl | exact wanted_f rfl rfl | exact wanted_gt rfl rfl | exact wanted_gf rfl rfl)); (focus (intro hc _ _; (try simp only [Bool.and_eq_true, Bool.not_eq_true', Bool.true_and] at hc); go_simp; exact ⟨rfl, rfl⟩)); (focus (intro hc _ _; with_reducible (exact T0 _ (by have h := H.out; (repeat' (first | (with_reducible exact h) | (with_reducible refine StoIs.ext ?_ _ _))))))); simp only [Act.put, List.setIfInBounds_toArray, List.set_cons_zero, List.set_cons_succ]))
      refine text_nil (HF.out _ (fun mx dx => ?_))
      clear HF F
      go_upto_region 11 with (fail)
      refine wp_gen (fun V hV => ?_)
      have hbV : Below w.heap.size w V := by rw [hV]; ((repeat' (first | (with_reducible exact Below.refl _ _) | (with_reducible refine Below.ext_mk ?_ ?_ _ _) | (with_reducible refine Below.alloc ?_ ?_ _) | (with_reducible refine Below.drew ?_) | (with_reducible refine Below.setCell ?_ ?_ _) | go_size)))
      clear hV
      have hV := H.out.below hbV
      have hmV : MapIs ki V km K := MapIs.keep HM.out (hbV.block _ (MapIs.lt HM.out))
      have st0 : StoStep w V (km :: F) (km :: F) := StoStep.of_below hbV
      have I1 := ih V p km F S K nd.2.1 hV hmV hk hW hs hK hc.1 (by omega)
      clear hlook n0 n1 n2 c1 hp hg hbV hne hb T0
      rcases hR1 : underN v on n S K nd.2.1 with ⟨S1, K1, _ | l⟩
      · rw [hR1] at I1 O1
        unfold UnPost at I1
        simp only [endOf] at I1
        have HR1 := hid hR1
        clear hR1 O1 ih
        go_wp2_with (go_at_call 90; refine I1.mono ?_; rintro e w' ⟨rfl, hT⟩)
        rw [underN_1 E1.out E2.out E3.out (by rw [hN.out]; exact HR1.out)]
        obtain ⟨F', t1, t2, t3, t4⟩ := hT
        exact ⟨rfl, rfl, F', t1, t2, t3, st0.trans t4⟩
      · rw [hR1] at I1 O1
        unfold UnPost at I1
        simp only [endOf] at I1
        have HR1 := hid hR1
        have g1 := O1.grows
        have wf1 := O1.wf
        have s1 := O1.sated
        have kk1 := O1.known
        simp only at g1 wf1 s1 kk1
        have hs1 : S1.nodes.length ≤ 1048576 := by have := wf1.len; have := wf1.cap; omega
        have T1 := fun W F (h : StoIs W p F S1) => top_of h hs1 (g1.at hn')
        have I2 := fun W F h hm hk => ih W p km F S1 K1 nd.2.2 h hm hk wf1 s1 kk1 (g1.has hc.2) (by rw [g1.top hc.2]; omega)
        have O2 := underN_ok v on 64 n S1 K1 nd.2.2 wf1 s1 (below64 wf1) kk1 (g1.has hc.2) (by rw [g1.top hc.2]; omega)
        clear hR1 ih O1 hV hmV
        rcases hR2 : underN v on n S1 K1 nd.2.2 with ⟨S2, K2, _ | hh⟩
        · rw [hR2] at I2 O2
          unfold UnPost at I2
          simp only [endOf] at I2
          have HR2 := hid hR2
          clear hR2 O2
          go_wp2_with (first
            | (go_at_call 90; first
                | ((with_reducible refine I1.mono ?_); rintro e w1 ⟨rfl, F1, hS1, hm1, hk1, st1⟩)
                | ((with_reducible refine (I2 _ _ (hS1.ext _ _) (MapIs.ext hm1 _ _) hk1).mono ?_); rintro e w' ⟨rfl, hT⟩))
            | (go_at_call 134; refine (T1 _ _ hS1).mono ?_; rintro e w2 ⟨rfl, m9, d9, rfl⟩))
          rw [underN_2 E1.out E2.out E3.out (by rw [hN.out]; exact HR1.out) (by rw [hN.out]; exact HR2.out)]
          obtain ⟨F', t1, t2, t3, t4⟩ := hT
          exact ⟨rfl, rfl, F', t1, t2, t3, st0.trans ((st1.ext _ _).trans t4)⟩
        · rw [hR2] at I2 O2
          unfold UnPost at I2
          simp only [endOf] at I2
          have HR2 := hid hR2
          have wf2 := O2.wf
          simp only at wf2
          have N : ∀ w F, StoIs w p F S2 → _ := fun w F h => node_any h wf2.len wf2.cap nd.1 l hh
          clear hR2 O2
          rcases hR3 : mkN S2 nd.1 l hh with ⟨S3, _ | r⟩
          · rw [hR3] at N
            simp only [endOf] at N
            have HR3 := hid hR3
            clear hR3
            go_wp2_with (first
              | (go_at_call 90; first
                  | ((with_reducible refine I1.mono ?_); rintro e w1 ⟨rfl, F1, hS1, hm1, hk1, st1⟩)
                  | ((with_reducible refine (I2 _ _ (hS1.ext _ _) (MapIs.ext hm1 _ _) hk1).mono ?_); rintro e w3 ⟨rfl, F2, hS2, hm2, hk2, st2⟩))
              | (go_at_call 134; refine (T1 _ _ hS1).mono ?_; rintro e w2 ⟨rfl, m9, d9, rfl⟩)
              | (go_at_call 86; refine (N _ _ hS2).mono ?_; rintro e w4 ⟨rfl, F3, hS3, st3⟩))
            rw [underN_3 E1.out E2.out E3.out (by rw [hN.out]; exact HR1.out) (by rw [hN.out]; exact HR2.out) (by rw [hTp.out]; exact HR3.out)]
            exact ⟨rfl, rfl, F3, hS3, MapIs.keep hm2 (st3.block _ (MapIs.lt hm2) hk2), st3.keeps (MapIs.lt hm2) hk2, st0.trans ((st1.ext _ _).trans (st2.trans (st3.wide km)))⟩
          · rw [hR3] at N
            simp only [endOf] at N
            have HR3 := hid hR3
            clear hR3
            go_wp2_with (first
              | (go_at_call 90; first
                  | ((with_reducible refine I1.mono ?_); rintro e w1 ⟨rfl, F1, hS1, hm1, hk1, st1⟩)
                  | ((with_reducible refine (I2 _ _ (hS1.ext _ _) (MapIs.ext hm1 _ _) hk1).mono ?_); rintro e w3 ⟨rfl, F2, hS2, hm2, hk2, st2⟩))
              | (go_at_call 134; refine (T1 _ _ hS1).mono ?_; rintro e w2 ⟨rfl, m9, d9, rfl⟩)
              | (go_at_call 86; refine (N _ _ hS2).mono ?_; rintro e w4 ⟨rfl, F3, hS3, st3⟩
                 have hm3 : MapIs ki w4 km K2 := MapIs.keep hm2 (st3.block _ (MapIs.lt hm2) hk2)
                 have hk3 : km ∉ F3 := st3.keeps (MapIs.lt hm2) hk2
                 obtain ⟨o, u1, u2⟩ := update_run (t := 115) key_int Try.underlying115 hm3 ((i : Int) + 2) r
                 have u3 := lookup_run key_int Try.underlying115 (zero_int _) u2 ((i : Int) + 2) false
                 simp only [aget_aput_self, Option.getD_some, Bool.false_eq_true, if_false] at u3))
            go_returns
            rw [underN_4 E1.out E2.out E3.out (by rw [hN.out]; exact HR1.out) (by rw [hN.out]; exact HR2.out) (by rw [hTp.out]; exact HR3.out)]
            refine ⟨rfl, F3, hS3.keep (fun k hk => World.heap_putObj_ne _ _ (fun e => hk3 (by rw [← e]; exact hk))), u2, hk3, ?_⟩
            exact st0.trans ((st1.ext _ _).trans (st2.trans ((st3.wide km).trans (StoStep.put (List.mem_cons_self ..) o))))
end Go.Proofs.Ytboekafmplomhaa
