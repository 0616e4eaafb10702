/-
  Package tidy: each, over a slice of diagrams.
-/
import Derived.Test.YtboekafmplomhaaZEach
import Derived.Test.YtboekafmplomhaaZSupB
import Derived.Test.YtboekafmplomhaaZDead
set_option linter.unusedVariables false
set_option linter.unusedSimpArgs false
namespace Go.Proofs.Ytboekafmplomhaa
open Go.RowKit

def eachL (at_ : Int → Nd × Bool) (N : Nat) : List (Int × Int) → List Int → List Int → List (Int × Int) × List Int
  | K, L, [] => (K, L)
  | K, L, a :: l => eachL at_ N (eachN at_ N K L a).1 (eachN at_ N K L a).2 l
theorem StoStep.minus {w V wr : World} {km : Nat} {M M' : List Nat} (st : StoStep V wr (km :: M) (km :: M')) (hb : Below w.heap.size w V) (hk : w.heap.size ≤ km) (mm : km ∉ M') : StoStep w wr M M' := by
  have hz := hb.size
  have hz2 := st.size
  have s0 := StoStep.of_below (F := M) hb
  refine ⟨st.os.trans s0.os, st.tape.trans s0.tape, st.output.trans s0.output, by omega, fun k h1 h2 => ?_, fun k hm => ?_⟩
  · exact (st.block k (by omega) (by simp only [List.mem_cons, not_or]; exact ⟨by omega, h2⟩)).trans (s0.block k h1 h2)
  · rcases st.fresh k (List.mem_cons_of_mem _ hm) with h | h
    · rcases List.mem_cons.1 h with rfl | h
      · exact absurd hm mm
      · exact .inl h
    · exact .inr (by omega)
section
variable {q : Option Addr} {F : List Nat} {St : World → Prop} {at_ : Int → Nd × Bool} {rk : Int → Nat} {kf : FuncId} {cap : Array Value} {I : List Nat → List Int → World → Prop}
set_option maxRecDepth 100000 in
set_option maxHeartbeats 8000000 in
theorem each_any (hs : Src q F St at_ rk) (hd : Doer kf cap at_ I) {w : World} {M0 : List Nat} {L0 : List Int} (hSt : St w) (hI0 : I M0 L0 w) (hFM : ∀ k ∈ F, k ∉ M0)
    {sv : Value} {l : List Int} (hl : Rd w 1 sv (ints l)) (hLM : ∀ a n cap b off, 0 < n → sv = .slice a n cap → a = some ⟨b, off, none⟩ → b ∉ M0) (N : Nat) (hN : ∀ a ∈ l, rk a < N) :
    Calls Try.prog 93 #[.pointer q, sv, .func (.func kf) #[] cap] w
      (fun e w' => e = .returned (.tuple #[]) ∧ ∃ M', I M' (eachL at_ N [] L0 l).2 w' ∧ St w' ∧ StoStep w w' M0 M') := by
  have hmf : ∀ (fn : Fn) (first cap : Array Value) (w : World), (Instr.makeFunc fn first cap).run Try.prog w = .ok (.func fn first cap) w := fun _ _ _ _ => rfl
  have hmm := @run_makeMap Try.prog
  obtain ⟨la, lc, rfl, hlc, hlm⟩ := hl.len
  have HL := hid hl
  have HLM := hid hLM
  have HN := hid hN
  have HI := hid hI0
  have HS := hid hSt
  have hM0 := hd.lt _ _ _ hI0
  have hF0 := hs.lt _ hSt
  clear hl hLM hN hI0 hSt
  obtain ⟨dv, hdv⟩ : ∃ dv, dv = Value.func (.func kf) #[] cap := ⟨_, rfl⟩
  go_enter Try.func93, Try.ntmps93
  go_upto_region 4 with (fail)
  refine wp_gen (fun V hV => ?_)
  have hbV : Below w.heap.size w V := by rw [hV]; (repeat' (first | (with_reducible exact Below.refl _ _) | (with_reducible refine Below.ext_mk ?_ ?_ _ _) | (with_reducible refine Below.alloc ?_ ?_ _) | (with_reducible refine Below.drew ?_) | (with_reducible refine Below.setCell ?_ ?_ _) | go_size))
  have zV : w.heap.size + 1 + 1 + 1 + 1 < V.heap.size := by rw [hV]; simp
  have k0 : V.cell? ⟨w.heap.size, 0, none⟩ = some (.pointer q) := by rw [hV]; go_simp
  have k1 : V.cell? ⟨w.heap.size + 1 + 1 + 1, 0, none⟩ = some (.map (some (w.heap.size + 1 + 1))) := by rw [hV]; go_simp
  have k3 : V.cell? ⟨w.heap.size + 1 + 1 + 1 + 1, 0, none⟩ = some (.func (.func 136) #[] #[.pointer (some ⟨w.heap.size, 0, none⟩), .pointer (some ⟨w.heap.size + 1 + 1 + 1, 0, none⟩), .pointer (some ⟨w.heap.size + 1 + 1 + 1 + 1, 0, none⟩), .pointer (some ⟨w.heap.size + 1, 0, none⟩)]) := by rw [hV]; go_simp
  have k4 : V.cell? ⟨w.heap.size + 1, 0, none⟩ = some dv := by rw [hV, hdv]; go_simp
  have kM : MapIs ki V (w.heap.size + 1 + 1) [] := by
    have q1 : MapIs ki (((w.alloc (.cells #[.pointer q] 23)).alloc (.cells #[dv] 119)).alloc (.map #[] 0)) (w.heap.size + 1 + 1) [] := ⟨#[], 0, by have h := World.heap_alloc_last ((w.alloc (.cells #[.pointer q] 23)).alloc (.cells #[dv] 119)) (.map #[] 0); simpa using h, rfl⟩
    refine MapIs.keep q1 ?_
    rw [hV, ← hdv]
    have e : ∀ (W : World) (o : Obj) (k : Nat), k < W.heap.size → (W.alloc o).heap[k]? = W.heap[k]? := fun W o k h => Below.heap_alloc _ _ _ h
    rw [e _ _ _ (by simp), e _ _ _ (by simp)]
  have hE : EachW q F St dv V (w.heap.size + 1 + 1) w.heap.size (w.heap.size + 1 + 1 + 1) (w.heap.size + 1 + 1 + 1 + 1) (w.heap.size + 1) [] M0 :=
    { st := hs.keep _ _ HS.out (fun k hk => hbV.block k (hF0 k hk)), map := kM
      fm := fun h => by have := hF0 _ h; omega, mm := fun h => by have := hM0 _ h; omega, FM := hFM
      z0 := by omega, z1 := by omega, z3 := by omega, z4 := by omega
      m0 := by omega, m1 := by omega, m3 := by omega, m4 := by omega
      n0 := fun h => by have := hM0 _ h; omega, n1 := fun h => by have := hM0 _ h; omega, n3 := fun h => by have := hM0 _ h; omega, n4 := fun h => by have := hM0 _ h; omega
      c0 := k0, c1 := k1, c3 := k3, c4 := k4 }
  have hIV : I M0 L0 V := hd.keep _ _ _ _ HI.out (fun k hk => hbV.block k (hM0 k hk))
  have hkm : w.heap.size ≤ w.heap.size + 1 + 1 := by omega
  clear hV k0 k1 k3 k4 kM zV hmf hmm
  generalize w.heap.size + 1 + 1 + 1 + 1 = i3 at *
  generalize w.heap.size + 1 + 1 + 1 = i1 at *
  generalize w.heap.size + 1 + 1 = km at *
  generalize w.heap.size + 1 = i4 at *
  obtain ⟨i0, hi0⟩ : ∃ i, i = w.heap.size := ⟨_, rfl⟩
  rw [← hi0] at hE ⊢
  have HE := hid hE
  have HKM := hid (And.intro hkm hbV)
  have HIV := hid hIV
  clear hi0 hE hkm hbV hIV hM0 hF0 HI HS
  go_wp2_with fail
  go_loopw [14] (fun iv wr => ∃ (j : Nat) (K : List (Int × Int)) (L : List Int) (M : List Nat), j ≤ l.length ∧ iv = .int .i64 j ∧ EachW q F St dv wr km i0 i1 i3 i4 K M ∧ I M L wr ∧ StoStep V wr (km :: M0) (km :: M) ∧ eachL at_ N K L (l.drop j) = eachL at_ N [] L0 l) (fun iv _ => l.length - (intOf iv).toNat)
  case atStart => exact ⟨0, [], L0, M0, by omega, rfl, HE.out, HIV.out, StoStep.refl _ _, rfl⟩
  case round =>
    obtain ⟨j, K, L, M, hj, rfl, hW, hI, hst, heq⟩ := hrel
    have HEQ := hid heq
    have HW := hid hW
    have HI := hid hI
    have HST := hid hst
    clear heq hW hI hst
    by_cases hlt : j < l.length
    · have hj1 : (j : Int) < (l.length : Int) := by omega
      have stw := StoStep.minus HST.out HKM.out.2 HKM.out.1 HW.out.mm
      have L1 := Rd.step HL.out (HST.out.minus HKM.out.2 HKM.out.1 HW.out.mm) (fun a n c b off e1 e2 => HLM.out a n c b off (by cases e1; omega) e1 e2)
      obtain ⟨b, off, rfl, hb1, c⟩ := Rd.intAt L1 hlt
      obtain ⟨v, hv⟩ : ∃ v, v = l[j] := ⟨_, rfl⟩
      have rkv : rk v < N := HN.out v (by rw [hv]; exact List.getElem_mem _)
      rw [← hv] at c
      clear L1 stw
      have ev : (l.drop j) = v :: l.drop (j + 1) := by rw [hv]; exact List.drop_eq_getElem_cons hlt
      clear hv
      have HEV := hid ev
      clear ev
      have c3 := HW.out.c3
      have z3 := HW.out.z3
      have C := hid (each1_any hs hd hdv N wr K L M v HW.out HI.out rkv)
      clear rkv
      go_wp2_with ((with_reducible refine (C.out).mono ?_); rintro e w2 ⟨rfl, M2, HW2, HI2, st2⟩)
      go_roundw
      case rel =>
        refine ⟨j + 1, _, _, M2, by omega, by go_num, HW2, HI2, HST.out.trans st2, ?_⟩
        rw [← HEQ.out, HEV.out, eachL]
      case measure => simp [intOf]; omega
    · have ej : l.drop j = [] := List.drop_eq_nil_of_le (by omega)
      rw [ej] at HEQ
      have HX := hid (show eachL at_ N [] L0 l = (K, L) by rw [← HEQ.out, eachL])
      go_wp2_with fail
      go_returns
      rw [HX.out]
      exact ⟨rfl, M, HI.out, HW.out.st, HST.out.minus HKM.out.2 HKM.out.1 HW.out.mm⟩
end
end Go.Proofs.Ytboekafmplomhaa
set_option linter.unusedVariables false
set_option linter.unusedSimpArgs false
namespace Go.Proofs.Ytboekafmplomhaa
open Go.RowKit

theorem src_live {S : Sto} (hW : Wf S) (p : Nat) (F : List Nat) : Src (some ⟨p, 0, none⟩) F (fun w => StoIs w p F S) (atV S) (fun a => (rightOf S a).toNat) where
  keep w w' h hk := h.keep hk
  lt w h := h.lt
  call w h a := at_call h hW a
  lo a ha := by
    obtain ⟨i, nd, rfl, hnd, hat, hr⟩ := atV_yes ha
    have hch := hW.child hnd
    have hok := hW.node i nd hnd
    rw [hat, hr]
    show (rightOf S nd.2.1).toNat < _
    rw [right_has hch.1]
    have := hok.lo
    have := hok.lo0
    omega
  hi a ha := by
    obtain ⟨i, nd, rfl, hnd, hat, hr⟩ := atV_yes ha
    have hch := hW.child hnd
    have hok := hW.node i nd hnd
    rw [hat, hr]
    show (rightOf S nd.2.2).toNat < _
    rw [right_has hch.2]
    have := hok.hi
    have := hok.hi0
    omega
def noF : Option Addr → List Nat
  | none => []
  | some a => [a.block]
theorem src_no (q : Option Addr) : Src q (noF q) (fun w => NoSto w q) (fun _ => ((0, 0, 0), false)) (fun _ => 0) where
  keep w w' h hk := by
    rcases h with h | ⟨z, h1, h2, h3⟩
    · exact .inl h
    · subst h1
      have := hk z (by simp [noF])
      refine .inr ⟨z, rfl, ?_, (cell_of_heap 0 this).trans h3⟩
      have h4 : w'.heap[z]? ≠ none := by
        rw [this]
        simp [h2]
      exact Nat.lt_of_not_le (fun hle => h4 (Array.getElem?_eq_none hle))
  lt w h := by
    rcases h with rfl | ⟨z, rfl, h2, _⟩
    · intro k hk; simp [noF] at hk
    · intro k hk; simp [noF] at hk; omega
  call w h a := at_no h a
  lo a ha := by cases ha
  hi a ha := by cases ha

/-- Live's count. -/
def LiveI (c : Nat) (M : List Nat) (L : List Int) (w : World) : Prop := M = [c] ∧ Blk w c 3 [.int .i64 (IntKind.i64.wrap L.length)]
theorem wrap_next (n : Nat) : IntKind.i64.wrap (IntKind.i64.wrap (n : Int) + 1) = IntKind.i64.wrap ((n + 1 : Nat) : Int) := by
  rw [IntKind.wrap_i64, IntKind.wrap_i64, IntKind.wrap_i64]; omega
theorem live_doer (c : Nat) (at_ : Int → Nd × Bool) : Doer 95 #[.pointer (some ⟨c, 0, none⟩)] at_ (LiveI c) where
  keep M L w w' h hk := ⟨h.1, h.2.keep (hk c (by rw [h.1]; simp))⟩
  lt M L w h := by
    obtain ⟨rfl, h2⟩ := h
    intro k hk
    simp at hk
    subst hk
    exact h2.lt
  enter args w := by simp [go_sem]
  call M L w a ha h := by
    obtain ⟨rfl, h2⟩ := h
    have z := h2.lt
    have cc := h2.cell 0
    have ff := h2.free 0
    simp only [List.getElem?_cons_zero] at cc
    have HB := hid h2
    have wn := wrap_next L.length
    generalize (at_ a).1.1 = x1
    generalize (at_ a).1.2.1 = x2
    generalize (at_ a).1.2.2 = x3
    generalize IntKind.i64.wrap (L.length : Int) = n0 at *
    clear h2 ha
    show Calls Try.prog _ #[.int .i64 a, .agg #[.int .i64 x1, .int .i64 x2, .int .i64 x3], .pointer (some ⟨c, 0, none⟩)] w _
    go_enter Try.func95, Try.ntmps95
    go_wp2
    go_returns
    refine ⟨rfl, [c], ⟨rfl, ?_⟩, ?_⟩
    · have h := (HB.out.set_ 0 (.int .i64 (wrap64 ((L.length : Int) + 1))))
      have e : IntKind.i64.wrap ((L ++ [a]).length : Int) = wrap64 ((L.length : Int) + 1) := by rw [IntKind.wrap_i64]; simp [wrap64]
      rw [e]
      exact h.below (Below.alloc (Below.refl _ _) (Nat.le_refl _) _)
    · exact (StoStep.set (by simp) 0 _).trans (StoStep.of_below (Below.alloc (Below.refl _ _) (Nat.le_refl _) _))
section
variable {q : Option Addr} {F : List Nat} {St : World → Prop} {at_ : Int → Nd × Bool} {rk : Int → Nat}
theorem live_any (hs : Src q F St at_ rk) {w : World} (hSt : St w) {sv : Value} {l : List Int} (hl : Rd w 1 sv (ints l)) (N : Nat) (hN : ∀ a ∈ l, rk a < N) :
    Calls Try.prog 35 #[.pointer q, sv] w (Pure (.int .i64 (IntKind.i64.wrap (eachL at_ N [] [] l).2.length)) w) := by
  have hmf : ∀ (fn : Fn) (first cap : Array Value) (w : World), (Instr.makeFunc fn first cap).run Try.prog w = .ok (.func fn first cap) w := fun _ _ _ _ => rfl
  obtain ⟨la, lc, rfl, hlc, hlm⟩ := hl.len
  have HL := hid hl
  have hF0 := hs.lt _ hSt
  go_enter Try.func35, Try.ntmps35
  go_upto_region 1 with (fail)
  refine wp_gen (fun V hV => ?_)
  have hbV : Below w.heap.size w V := by rw [hV]; (repeat' (first | (with_reducible exact Below.refl _ _) | (with_reducible refine Below.ext_mk ?_ ?_ _ _) | (with_reducible refine Below.alloc ?_ ?_ _) | (with_reducible refine Below.drew ?_) | (with_reducible refine Below.setCell ?_ ?_ _) | go_size))
  have bV : Blk V w.heap.size 3 [.int .i64 0] := by rw [hV]; exact World.heap_alloc_last w _
  have hI : LiveI w.heap.size [w.heap.size] [] V := ⟨rfl, bV⟩
  have C := hid (each_any hs (live_doer w.heap.size at_) (hs.keep _ _ hSt (fun k hk => hbV.block k (hF0 k hk))) hI (fun k hk hm => by simp at hm; have := hF0 k hk; omega) (HL.out.below hbV)
    (fun a n c b off hn e1 e2 hm => by
      simp only [List.mem_singleton] at hm
      obtain ⟨a', n', c', f1, f2, f3, f4, f5⟩ := HL.out
      rw [f1] at e1
      cases e1
      obtain ⟨b', off', g1, g2, _⟩ := f5 hn
      rw [g1] at e2
      cases e2
      omega) N hN)
  have HB := hid hbV
  obtain ⟨c, hc⟩ : ∃ c, c = w.heap.size := ⟨_, rfl⟩
  rw [← hc] at C ⊢
  have HC := hid hc
  clear hV bV hI hF0 hSt hl hbV hc
  go_upto_region 2 with ((with_reducible refine (C.out).mono ?_); rintro e w2 ⟨rfl, M2, ⟨rfl, hB⟩, -, st2⟩)
  have cc := hB.cell 0
  have ff := hB.free 0
  have zz := hB.lt
  simp only [List.getElem?_cons_zero] at cc
  generalize IntKind.i64.wrap ((eachL at_ N [] [] l).2.length : Int) = r at *
  have HBB := hid hB
  have e0 : w2.setCell ⟨c, 0, none⟩ (.int .i64 r) = w2 := by
    unfold Blk at hB
    obtain ⟨h1, h2⟩ := Array.getElem?_eq_some_iff.1 hB
    simp only [World.setCell]
    congr 1
    apply Array.ext_getElem?
    intro i
    rw [Array.getElem?_modify]
    by_cases e : c = i
    · subst e
      rw [if_pos rfl, hB]
      rfl
    · rw [if_neg e]
  clear hB C
  go_wp2_with fail
  refine bodyPost_ret (v := .int .i64 r) (by simp [results, Try.results35, go_sem, cc]) rfl ?_
  have bw : Below w.heap.size w w2 := HB.out.trans (st2.below (fun k hk => by simp only [List.mem_singleton] at hk; have := HC.out; omega) HB.out.size)
  exact Pure.of rfl bw
end
theorem none_is {w : World} {q : Option Addr} (h : NoSto w q) : Calls Try.prog 92 #[.pointer q] w (Pure (.bool true) w) := by
  have FU := fun W (hb : Below w.heap.size w W) => full_no (h.below hb)
  have LE := fun W (hb : Below w.heap.size w W) => len_no (h.below hb)
  clear h
  go_enter Try.func92, Try.ntmps92
  go_upto_region 1 with (fail)
  refine wp_region_seq (fun F hF => ?_)
  have HF := hid hF; clear hF
  repeat (first
    | (apply text_skip; (focus rfl); simp only [Act.put, List.setIfInBounds_toArray, List.set_cons_zero, List.set_cons_succ])
    | (apply text_val; (focus rfl); (focus (intro _ _; go_simp; with_reducible rfl)); simp only [Act.put, List.setIfInBounds_toArray, List.set_cons_zero, List.set_cons_succ])
    | (apply text_call; (focus rfl); (focus (intro _ _; go_simp; exact ⟨rfl, rfl⟩)); (focus (intro _ _; with_reducible (first | exact FU _ (by (repeat' (first | (with_reducible exact Below.refl _ _) | (with_reducible refine Below.ext_mk ?_ ?_ _ _) | (with_reducible refine Below.alloc ?_ ?_ _) | (with_reducible refine Below.drew ?_) | (with_reducible refine Below.setCell ?_ ?_ _) | go_size))) | exact LE _ (by (repeat' (first | (with_reducible exact Below.refl _ _) | (with_reducible refine Below.ext_mk ?_ ?_ _ _) | (with_reducible refine Below.alloc ?_ ?_ _) | (with_reducible refine Below.drew ?_) | (with_reducible refine Below.setCell ?_ ?_ _) | go_size)))))); simp only [Act.put, List.setIfInBounds_toArray, List.set_cons_zero, List.set_cons_succ])
    | (apply text_if; (focus (first | exact wanted_t rfl rfl | exact wanted_f rfl rfl | exact wanted_gt rfl rfl | exact wanted_gf rfl rfl)); (focus (intro hc _ _; (try simp only [Bool.and_eq_true, Bool.not_eq_true', Bool.true_and] at hc); go_simp; with_reducible rfl)); simp only [Act.put, List.setIfInBounds_toArray, List.set_cons_zero, List.set_cons_succ])
    | (apply text_if_call; (focus (first | exact wanted_t rfl rfl | exact wanted_f rfl rfl | exact wanted_gt rfl rfl | exact wanted_gf rfl rfl)); (focus (intro hc _ _; (try simp only [Bool.and_eq_true, Bool.not_eq_true', Bool.true_and] at hc); go_simp; exact ⟨rfl, rfl⟩)); (focus (intro hc _ _; with_reducible (first | exact FU _ (by (repeat' (first | (with_reducible exact Below.refl _ _) | (with_reducible refine Below.ext_mk ?_ ?_ _ _) | (with_reducible refine Below.alloc ?_ ?_ _) | (with_reducible refine Below.drew ?_) | (with_reducible refine Below.setCell ?_ ?_ _) | go_size))) | exact LE _ (by (repeat' (first | (with_reducible exact Below.refl _ _) | (with_reducible refine Below.ext_mk ?_ ?_ _ _) | (with_reducible refine Below.alloc ?_ ?_ _) | (with_reducible refine Below.drew ?_) | (with_reducible refine Below.setCell ?_ ?_ _) | go_size)))))); simp only [Act.put, List.setIfInBounds_toArray, List.set_cons_zero, List.set_cons_succ]))
  refine text_nil (HF.out _ (fun mx dx => ?_))
  clear HF F
  go_wp2
  go_returns
  exact Pure.of rfl (by (repeat' (first | (with_reducible exact Below.refl _ _) | (with_reducible refine Below.ext_mk ?_ ?_ _ _) | (with_reducible refine Below.alloc ?_ ?_ _) | (with_reducible refine Below.drew ?_) | (with_reducible refine Below.setCell ?_ ?_ _) | go_size)))
theorem none_not {w : World} {p : Nat} {F : List Nat} {S : Sto} (h : StoIs w p F S) (hc : S.cap ≠ 0) (hf : S.full = false) : Calls Try.prog 92 #[.pointer (some ⟨p, 0, none⟩)] w (Pure (.bool false) w) := by
  have FU := fun W (hb : Below w.heap.size w W) => full_any (h.below hb) hc
  rw [hf] at FU
  clear h
  go_enter Try.func92, Try.ntmps92
  go_upto_region 1 with (fail)
  refine wp_region_seq (fun F hF => ?_)
  have HF := hid hF; clear hF
  repeat (first
    | (apply text_skip; (focus rfl); simp only [Act.put, List.setIfInBounds_toArray, List.set_cons_zero, List.set_cons_succ])
    | (apply text_val; (focus rfl); (focus (intro _ _; go_simp; with_reducible rfl)); simp only [Act.put, List.setIfInBounds_toArray, List.set_cons_zero, List.set_cons_succ])
    | (apply text_call; (focus rfl); (focus (intro _ _; go_simp; exact ⟨rfl, rfl⟩)); (focus (intro _ _; with_reducible (first | exact FU _ (by (repeat' (first | (with_reducible exact Below.refl _ _) | (with_reducible refine Below.ext_mk ?_ ?_ _ _) | (with_reducible refine Below.alloc ?_ ?_ _) | (with_reducible refine Below.drew ?_) | (with_reducible refine Below.setCell ?_ ?_ _) | go_size)))))); simp only [Act.put, List.setIfInBounds_toArray, List.set_cons_zero, List.set_cons_succ])
    | (apply text_if; (focus (first | exact wanted_t rfl rfl | exact wanted_f rfl rfl | exact wanted_gt rfl rfl | exact wanted_gf rfl rfl)); (focus (intro hc _ _; (try simp only [Bool.and_eq_true, Bool.not_eq_true', Bool.true_and] at hc); go_simp; with_reducible rfl)); simp only [Act.put, List.setIfInBounds_toArray, List.set_cons_zero, List.set_cons_succ])
    | (apply text_if_call; (focus (first | exact wanted_t rfl rfl | exact wanted_f rfl rfl | exact wanted_gt rfl rfl | exact wanted_gf rfl rfl)); (focus (intro hc _ _; (try simp only [Bool.and_eq_true, Bool.not_eq_true', Bool.true_and] at hc); go_simp; exact ⟨rfl, rfl⟩)); (focus (intro hc _ _; with_reducible (first | exact FU _ (by (repeat' (first | (with_reducible exact Below.refl _ _) | (with_reducible refine Below.ext_mk ?_ ?_ _ _) | (with_reducible refine Below.alloc ?_ ?_ _) | (with_reducible refine Below.drew ?_) | (with_reducible refine Below.setCell ?_ ?_ _) | go_size)))))); simp only [Act.put, List.setIfInBounds_toArray, List.set_cons_zero, List.set_cons_succ]))
  refine text_nil (HF.out _ (fun mx dx => ?_))
  clear HF F
  go_wp2
  go_returns
  exact Pure.of rfl (by (repeat' (first | (with_reducible exact Below.refl _ _) | (with_reducible refine Below.ext_mk ?_ ?_ _ _) | (with_reducible refine Below.alloc ?_ ?_ _) | (with_reducible refine Below.drew ?_) | (with_reducible refine Below.setCell ?_ ?_ _) | go_size)))
end Go.Proofs.Ytboekafmplomhaa
