/-
  Package tidy: Move and Tidy over live stores.
-/
import Derived.Test.YtboekafmplomhaaZMove
import Derived.Test.YtboekafmplomhaaZTidyN
import Derived.Test.YtboekafmplomhaaZMeansR
import Derived.Test.YtboekafmplomhaaZKnown15
set_option linter.unusedVariables false
set_option linter.unusedSimpArgs false
namespace Go.Proofs.Ytboekafmplomhaa
open Go.RowKit

/-- A row that is being filled: the first j are f's. -/
def fillL (f : Nat → Value) (z : Value) (n j : Nat) : List Value := (List.range n).map (fun i => if i < j then f i else z)
theorem fillL_zero (f : Nat → Value) (z : Value) (n : Nat) : fillL f z n 0 = List.replicate n z := by
  apply List.ext_getElem?
  intro i
  by_cases h : i < n <;> simp [fillL, h, List.getElem?_replicate]
theorem fillL_set (f : Nat → Value) (z : Value) (n j : Nat) : (fillL f z n j).set j (f j) = fillL f z n (j + 1) := by
  apply List.ext_getElem?
  intro i
  rw [List.getElem?_set]
  by_cases h : i < n
  · by_cases e : j = i
    · subst e
      simp [fillL, h]
    · have : (i < j + 1) = (i < j) := by simp; omega
      simp [fillL, h, e, this]
  · by_cases e : j = i
    · subst e
      simp [fillL, h]
    · simp [fillL, h, e]
theorem fillL_full (f : Nat → Value) (z : Value) (n : Nat) : fillL f z n n = (List.range n).map f := by
  apply List.ext_getElem?
  intro i
  by_cases h : i < n <;> simp [fillL, h]
theorem fillL_length (f : Nat → Value) (z : Value) (n j : Nat) : (fillL f z n j).length = n := by simp [fillL]
theorem Arr.rd {w : World} {g : Nat} {e : TypeId} {xs : List Value} (h : Arr w g e xs) (hl : xs.length ≤ 9223372036854775807) : Rd w 1 (.slice (some ⟨g, 0, none⟩) xs.length xs.length) xs :=
  ⟨_, _, _, rfl, Nat.le_refl _, hl, by simp, fun _ => ⟨g, 0, rfl, h.lt, fun j u hu => by rw [Nat.zero_add, h.cell]; exact hu⟩⟩
theorem StoStep.cut {w V wr : World} {A M M' : List Nat} (st : StoStep V wr (A ++ M) (A ++ M')) (hb : Below w.heap.size w V) (hA : ∀ k ∈ A, w.heap.size ≤ k) (mm : ∀ k ∈ A, k ∉ M') : StoStep w wr M M' := by
  have hz := hb.size
  have hz2 := st.size
  have s0 := StoStep.of_below (F := M) hb
  refine ⟨st.os.trans s0.os, st.tape.trans s0.tape, st.output.trans s0.output, by omega, fun k h1 h2 => ?_, fun k hm => ?_⟩
  · exact (st.block k (by omega) (fun hk => (List.mem_append.1 hk).elim (fun h => by have := hA k h; omega) h2)).trans (s0.block k h1 h2)
  · rcases st.fresh k (List.mem_append.2 (.inr hm)) with h | h
    · rcases List.mem_append.1 h with h | h
      · exact absurd hm (mm k h)
      · exact .inl h
    · exact .inr (by omega)
theorem Rd.stepN {w w' : World} {size : Nat} {sv : Value} {xs : List Value} {F F' : List Nat} (h : Rd w size sv xs) (hs : StoStep w w' F F') (hF : ∀ a n cap b off, 0 < n → sv = .slice a n cap → a = some ⟨b, off, none⟩ → b ∉ F) : Rd w' size sv xs := by
  obtain ⟨a, n, cap, h1, h2, h3, h4, h5⟩ := h
  refine ⟨a, n, cap, h1, h2, h3, h4, fun hn => ?_⟩
  obtain ⟨b, off, e1, e2, e3⟩ := h5 hn
  exact ⟨b, off, e1, Nat.lt_of_lt_of_le e2 hs.size, fun j u hu => by
    have := hs.block b e2 (hF a n cap b off hn h1 e1)
    simp only [World.cell?] at e3 ⊢
    rw [this]; exact e3 j u hu⟩
/-- What Move tells. -/
structure MoveTo (w : World) (p : Nat) (F : List Nat) (S : Sto) (t : Nat) (Ft : List Nat) (X : Sto × List (Int × Int)) (l : List Int) (w' : World) (s2 : Value) : Prop where
  rd : Rd w' 1 s2 (ints (l.map (fun a => (aget X.2 a).getD 0)))
  st : StoIs w' p F S
  tgt : ∃ Ft', StoIs w' t Ft' X.1 ∧ StoStep w w' Ft Ft'
  wf : Wf X.1
  sat : Sated X.1

set_option maxRecDepth 100000 in
set_option maxHeartbeats 16000000 in
theorem move_live {w : World} {p : Nat} {F : List Nat} {S : Sto} (hS : StoIs w p F S) (hW : Wf S) (hfS : S.full = false) {t : Nat} {Ft : List Nat} {T : Sto} (hT : StoIs w t Ft T) (hWT : Wf T) (hsT : Sated T) (hfT : T.full = false) (hFF : ∀ k ∈ F, k ∉ Ft)
    {sv : Value} {l : List Int} (hl : Rd w 1 sv (ints l)) (hlT : ∀ a n cap b off, 0 < n → sv = .slice a n cap → a = some ⟨b, off, none⟩ → b ∉ Ft) (hlen : l.length ≤ 1000) (N : Nat) (hN : ∀ a ∈ l, (rightOf S a).toNat < N)
    (X : Sto × List (Int × Int)) (hX : (eachL (atV S) N [] [] l).2.foldl (movS (atV S)) (T, [(1, 1)]) = X) (hXf : X.1.full = false) :
    Calls Try.prog 33 #[.pointer (some ⟨p, 0, none⟩), .pointer (some ⟨t, 0, none⟩), sv] w (fun e w' => ∃ s2, e = .returned (.tuple #[s2, .int .i64 0]) ∧ MoveTo w p F S t Ft X l w' s2) := by
  have hmf : ∀ (fn : Fn) (first cap : Array Value) (w : World), (Instr.makeFunc fn first cap).run Try.prog w = .ok (.func fn first cap) w := fun _ _ _ _ => rfl
  have hmm := @run_makeMap Try.prog
  obtain ⟨la, lc, rfl, hlc, hlm⟩ := hl.len
  have hc : S.cap ≠ 0 := by have := hW.cap2; omega
  have hcT : T.cap ≠ 0 := by have := hWT.cap2; omega
  have NS := fun W (hb : Below w.heap.size w W) => none_not (hS.below hb) hc hfS
  have NT := fun W (hb : Below w.heap.size w W) => none_not (hT.below hb) hcT hfT
  have HL := hid hl
  have HLT := hid hlT
  have HS := hid hS
  have HT := hid hT
  have HN := hid hN
  have HFF := hid hFF
  have HXX := hid hX
  have HXF := hid hXf
  clear hl hlT hS hT hN hFF hX hXf hc hcT
  go_enter Try.func33, Try.ntmps33
  go_upto_region 1 with (fail)
  refine wp_gen (fun V hV => ?_)
  have hbV : Below w.heap.size w V := by rw [hV]; ((repeat' (first | (with_reducible exact Below.refl _ _) | (with_reducible refine Below.ext_mk ?_ ?_ _ _) | (with_reducible refine Below.alloc ?_ ?_ _) | (with_reducible refine Below.drew ?_) | (with_reducible refine Below.setCell ?_ ?_ _) | go_size)))
  have zV0 : w.heap.size < V.heap.size := by rw [hV]; first | (simp; done) | (simp; omega)
  have cV0_0 : V.cell? ⟨w.heap.size, 0, none⟩ = some (.pointer (some ⟨t, 0, none⟩)) := by rw [hV]; first | (go_simp; done) | (rw [World.cell?_alloc_past _ _ _ (by first | (simp; done) | (simp; omega))]; go_simp)
  clear hV
  have NSV := fun W (hb : Below V.heap.size V W) => NS W (hbV.trans (hb.mono hbV.size))
  have NTV := fun W (hb : Below V.heap.size V W) => NT W (hbV.trans (hb.mono hbV.size))
  refine wp_region_seq (fun F hF => ?_)
  have HF := hid hF; clear hF
  repeat (first
    | (apply text_skip; (focus rfl); simp only [Act.put, List.setIfInBounds_toArray, List.set_cons_zero, List.set_cons_succ])
    | (apply text_val; (focus rfl); (focus (intro _ _; go_simp; with_reducible rfl)); simp only [Act.put, List.setIfInBounds_toArray, List.set_cons_zero, List.set_cons_succ])
    | (apply text_call; (focus rfl); (focus (intro _ _; go_simp; exact ⟨rfl, rfl⟩)); (focus (intro _ _; with_reducible (first | exact NSV _ (by (repeat' (first | (with_reducible exact Below.refl _ _) | (with_reducible refine Below.ext_mk ?_ ?_ _ _) | (with_reducible refine Below.alloc ?_ ?_ _) | (with_reducible refine Below.drew ?_) | (with_reducible refine Below.setCell ?_ ?_ _) | go_size))) | exact NTV _ (by (repeat' (first | (with_reducible exact Below.refl _ _) | (with_reducible refine Below.ext_mk ?_ ?_ _ _) | (with_reducible refine Below.alloc ?_ ?_ _) | (with_reducible refine Below.drew ?_) | (with_reducible refine Below.setCell ?_ ?_ _) | go_size)))))); simp only [Act.put, List.setIfInBounds_toArray, List.set_cons_zero, List.set_cons_succ])
    | (apply text_if; (focus (first | exact wanted_t rfl rfl | exact wanted_f rfl rfl | exact wanted_gt rfl rfl | exact wanted_gf rfl rfl)); (focus (intro hc _ _; (try simp only [Bool.and_eq_true, Bool.not_eq_true', Bool.true_and] at hc); go_simp; with_reducible rfl)); simp only [Act.put, List.setIfInBounds_toArray, List.set_cons_zero, List.set_cons_succ])
    | (apply text_if_call; (focus (first | exact wanted_t rfl rfl | exact wanted_f rfl rfl | exact wanted_gt rfl rfl | exact wanted_gf rfl rfl)); (focus (intro hc _ _; (try simp only [Bool.and_eq_true, Bool.not_eq_true', Bool.true_and] at hc); go_simp; exact ⟨rfl, rfl⟩)); (focus (intro hc _ _; with_reducible (first | exact NSV _ (by (repeat' (first | (with_reducible exact Below.refl _ _) | (with_reducible refine Below.ext_mk ?_ ?_ _ _) | (with_reducible refine Below.alloc ?_ ?_ _) | (with_reducible refine Below.drew ?_) | (with_reducible refine Below.setCell ?_ ?_ _) | go_size))) | exact NTV _ (by (repeat' (first | (with_reducible exact Below.refl _ _) | (with_reducible refine Below.ext_mk ?_ ?_ _ _) | (with_reducible refine Below.alloc ?_ ?_ _) | (with_reducible refine Below.drew ?_) | (with_reducible refine Below.setCell ?_ ?_ _) | go_size)))))); simp only [Act.put, List.setIfInBounds_toArray, List.set_cons_zero, List.set_cons_succ]))
  refine text_nil (HF.out _ (fun mx dx => ?_))
  clear HF F
  clear NS NT NSV NTV
  go_upto_region 3 with (fail)
  refine wp_gen (fun U hU => ?_)
  have hbU : Below V.heap.size V U := by rw [hU]; (repeat' (first | (with_reducible exact Below.refl _ _) | (with_reducible refine Below.ext_mk ?_ ?_ _ _) | (with_reducible refine Below.alloc ?_ ?_ _) | (with_reducible refine Below.drew ?_) | (with_reducible refine Below.setCell ?_ ?_ _) | go_size))
  have cU := (hbU.cell (p := ⟨w.heap.size, 0, none⟩) zV0).trans cV0_0
  have zU : w.heap.size < U.heap.size := Nat.lt_of_lt_of_le zV0 hbU.size
  have hbwU : Below w.heap.size w U := hbV.trans (hbU.mono hbV.size)
  clear hU cV0_0 zV0 hbV hbU
  have m0 : MapIs ki (U.alloc (.map #[] 0)) U.heap.size [] := ⟨#[], 0, World.heap_alloc_last U _, rfl⟩
  obtain ⟨o, u1, u2⟩ := update_run (t := 115) key_int Try.underlying115 m0 1 1
  have HU2 := hid u2
  clear u2 m0
  refine wp_region_doc (fun F' hF => ?_)
  have HF := hid hF
  clear hF
  refine doc_val rfl (by first | (go_simp; done) | (go_simp; exact ⟨rfl, rfl⟩) | (go_simp; with_reducible rfl)) ?_
  simp only [Act.put, List.setIfInBounds_toArray, List.set_cons_zero, List.set_cons_succ]
  refine doc_skip rfl (by first | (go_simp; done) | (go_simp; exact ⟨rfl, rfl⟩) | (go_simp; with_reducible rfl)) ?_
  simp only [Act.put, List.setIfInBounds_toArray, List.set_cons_zero, List.set_cons_succ]
  iterate 2 (refine doc_val rfl (by first | (go_simp; done) | (go_simp; exact ⟨rfl, rfl⟩) | (go_simp; with_reducible rfl)) ?_; simp only [Act.put, List.setIfInBounds_toArray, List.set_cons_zero, List.set_cons_succ])
  refine doc_skip rfl (by first | (go_simp; done) | (go_simp; exact ⟨rfl, rfl⟩) | (go_simp; with_reducible rfl)) ?_
  simp only [Act.put, List.setIfInBounds_toArray, List.set_cons_zero, List.set_cons_succ]
  refine doc_end (HF.out _ _ ?_)
  clear HF F' u1
  go_upto_region 4 with (fail)
  refine wp_gen (fun W hW0 => ?_)
  have m1 : MapIs ki ((U.alloc (.map #[] 0)).putObj U.heap.size o) U.heap.size (aput [] 1 1) := HU2.out
  have zp : ((U.alloc (.map #[] 0)).putObj U.heap.size o).heap.size = U.heap.size + 1 := by simp [World.putObj]
  have hbP : Below U.heap.size U ((U.alloc (.map #[] 0)).putObj U.heap.size o) := by
    refine (Below.alloc (Below.refl _ _) (Nat.le_refl _) _).trans ((StoStep.put (F := [U.heap.size]) (by simp) o).below (fun k hk => by simp at hk; omega) (by simp))
  have hbW : Below U.heap.size U W := by rw [hW0]; exact hbP.alloc (by omega) _
  have kM : MapIs ki W U.heap.size [(1, 1)] := by
    have q : MapIs ki W U.heap.size (aput [] 1 1) := by rw [hW0]; exact MapIs.keep m1 (Below.heap_alloc _ _ _ (by omega))
    exact q
  have k1 : W.cell? ⟨U.heap.size + 1, 0, none⟩ = some (.map (some U.heap.size)) := by
    rw [hW0]
    have h := World.heap_alloc_last ((U.alloc (.map #[] 0)).putObj U.heap.size o) (.cells #[.map (some U.heap.size)] 115)
    rw [zp] at h
    simp only [World.cell?]
    rw [h]
    rfl
  have zW : U.heap.size + 1 < W.heap.size := by rw [hW0]; simp [World.putObj]
  have kt := (hbW.cell (p := ⟨w.heap.size, 0, none⟩) zU).trans cU
  have hbwW : Below w.heap.size w W := hbwU.trans (hbW.mono hbwU.size)
  have hsz := hbwU.size
  have tlt := HT.out.lt
  have slt := HS.out.lt
  have HMW : MoveW t U.heap.size w.heap.size (U.heap.size + 1) W Ft T [(1, 1)] :=
    { sto := HT.out.below hbwW, wf := hWT, sat := hsT, map := kM
      mF := fun h => by have := tlt _ h; omega, tF := fun h => by have := tlt _ h; omega, iF := fun h => by have := tlt _ h; omega
      tm := by omega, ne := by omega, zt := by omega, zm := zW, ct := kt, cm := k1 }
  have hmW : MapIs ki W U.heap.size [(1, 1)] := kM
  have C := hid (each_any (src_live hW p F) (move_doer t U.heap.size w.heap.size (U.heap.size + 1) (T, [(1, 1)]) (atV S)) (HS.out.below hbwW) (M0 := w.heap.size :: (U.heap.size + 1) :: U.heap.size :: Ft) (L0 := []) ⟨Ft, rfl, HMW⟩
    (fun k hk hm => by
      have h1 := slt _ hk
      simp only [List.mem_cons] at hm
      rcases hm with e | e | e | e
      · omega
      · omega
      · omega
      · exact HFF.out k hk e)
    (HL.out.below hbwW)
    (fun a n c b off hn e1 e2 hm => by
      have hF := HLT.out a n c b off hn e1 e2
      obtain ⟨a', n', c', f1, f2, f3, f4, f5⟩ := HL.out
      rw [f1] at e1
      cases e1
      obtain ⟨b', off', g1, g2, _⟩ := f5 hn
      rw [g1] at e2
      cases e2
      simp only [List.mem_cons] at hm
      rcases hm with e | e | e | e
      · omega
      · omega
      · omega
      · exact hF e) N HN.out)
  have HBW := hid (And.intro hbwW hsz)
  obtain ⟨it, hit⟩ : ∃ i, i = w.heap.size := ⟨_, rfl⟩
  obtain ⟨mb, hmb⟩ : ∃ i, i = U.heap.size := ⟨_, rfl⟩
  obtain ⟨im, him⟩ : ∃ i, i = mb + 1 := ⟨_, rfl⟩
  rw [← hit, ← hmb, ← him] at C ⊢
  have HI := hid (And.intro hit (And.intro hmb him))
  clear hW0 m1 zp hbP hbW kM k1 zW kt tlt slt HMW hmW hbwW hbwU cU zU hit hmb him HU2 hmm hmf
  go_upto_region 5 with ((with_reducible refine (C.out).mono ?_); rintro e w2 ⟨rfl, M2, ⟨Ft2, rfl, HM2⟩, hSt2, st2⟩)
  rw [HXX.out] at HM2
  have hc2 : X.1.cap ≠ 0 := by have := HM2.wf.cap2; omega
  have FU := fun W (hb : Below w2.heap.size w2 W) => full_any (HM2.sto.below hb) hc2
  rw [HXF.out] at FU
  have ct := HM2.ct
  have zt := HM2.zt
  clear C
  refine wp_region_seq (fun F hF => ?_)
  have HF := hid hF; clear hF
  repeat (first
    | (apply text_skip; (focus rfl); simp only [Act.put, List.setIfInBounds_toArray, List.set_cons_zero, List.set_cons_succ])
    | (apply text_val; (focus rfl); (focus (intro _ _; go_simp; with_reducible rfl)); simp only [Act.put, List.setIfInBounds_toArray, List.set_cons_zero, List.set_cons_succ])
    | (apply text_call; (focus rfl); (focus (intro _ _; go_simp; exact ⟨rfl, rfl⟩)); (focus (intro _ _; with_reducible (exact FU _ (by (repeat' (first | (with_reducible exact Below.refl _ _) | (with_reducible refine Below.ext_mk ?_ ?_ _ _) | (with_reducible refine Below.alloc ?_ ?_ _) | (with_reducible refine Below.drew ?_) | (with_reducible refine Below.setCell ?_ ?_ _) | go_size)))))); simp only [Act.put, List.setIfInBounds_toArray, List.set_cons_zero, List.set_cons_succ])
    | (apply text_if; (focus (first | exact wanted_t rfl rfl | exact wanted_f rfl rfl | exact wanted_gt rfl rfl | exact wanted_gf rfl rfl)); (focus (intro hc _ _; (try simp only [Bool.and_eq_true, Bool.not_eq_true', Bool.true_and] at hc); go_simp; with_reducible rfl)); simp only [Act.put, List.setIfInBounds_toArray, List.set_cons_zero, List.set_cons_succ])
    | (apply text_if_call; (focus (first | exact wanted_t rfl rfl | exact wanted_f rfl rfl | exact wanted_gt rfl rfl | exact wanted_gf rfl rfl)); (focus (intro hc _ _; (try simp only [Bool.and_eq_true, Bool.not_eq_true', Bool.true_and] at hc); go_simp; exact ⟨rfl, rfl⟩)); (focus (intro hc _ _; with_reducible (exact FU _ (by (repeat' (first | (with_reducible exact Below.refl _ _) | (with_reducible refine Below.ext_mk ?_ ?_ _ _) | (with_reducible refine Below.alloc ?_ ?_ _) | (with_reducible refine Below.drew ?_) | (with_reducible refine Below.setCell ?_ ?_ _) | go_size)))))); simp only [Act.put, List.setIfInBounds_toArray, List.set_cons_zero, List.set_cons_succ]))
  refine text_nil (HF.out _ (fun mx dx => ?_))
  clear HF F
  clear FU ct zt hc2
  have hbx : Below w2.heap.size w2 (w2.ext mx dx) := Below.ext_mk (Below.refl _ _) (Nat.le_refl _) mx dx
  have HMZ := hid (HM2.below hbx)
  have HSZ := hid (hSt2.below hbx)
  have st3 := st2.trans (StoStep.of_below hbx)
  have stw : StoStep w (w2.ext mx dx) Ft Ft2 := StoStep.cut (A := [it, im, mb]) st3 HBW.out.1 (fun k hk => by
    have h1 := HI.out
    have h2 := HBW.out.2
    simp only [List.mem_cons, List.not_mem_nil, or_false] at hk
    omega) (fun k hk => by
    simp only [List.mem_cons, List.not_mem_nil, or_false] at hk
    rcases hk with rfl | rfl | rfl
    · exact HM2.tF
    · exact HM2.iF
    · exact HM2.mF)
  have HSTW := hid stw
  generalize w2.ext mx dx = Z at *
  clear hbx HM2 hSt2 st2 st3 stw
  have HLZ := hid (Rd.stepN HL.out HSTW.out HLT.out)
  have hmk : ∀ w : World, (Instr.makeSlice 28 (.int .i64 l.length) (.int .i64 l.length)).run Try.prog w = .ok (.slice (some ⟨w.heap.size, 0, none⟩) l.length l.length) (w.alloc (.cells (madeCells (Value.int .i64 0).cells (l.length * infoInt.size)) 3)) := make_row 28 3 infoInt (.int .i64 0) Try.underlying28 infoInt_is infoInt_zero .i64 .i64 l.length l.length (Nat.le_refl _) (by rw [infoInt_bytes]; omega) hlm
  rw [infoInt_size, Nat.mul_one] at hmk
  go_upto_region 8 with (fail)
  refine wp_gen (fun Y hY => ?_)
  have hbY : Below Z.heap.size Z Y := by rw [hY]; (repeat' (first | (with_reducible exact Below.refl _ _) | (with_reducible refine Below.ext_mk ?_ ?_ _ _) | (with_reducible refine Below.alloc ?_ ?_ _) | (with_reducible refine Below.drew ?_) | (with_reducible refine Below.setCell ?_ ?_ _) | go_size))
  obtain ⟨f, hf⟩ : ∃ f : Nat → Value, f = fun i => .int .i64 ((aget X.2 (l.getD i 0)).getD 0) := ⟨_, rfl⟩
  have hA : Arr Y Z.heap.size 3 (fillL f (.int .i64 0) l.length 0) := by
    rw [fillL_zero, hY]
    exact Arr.made (z := .int .i64 0) rfl
  have HA := hid hA
  have HBY := hid hbY
  obtain ⟨g, hg⟩ : ∃ g, g = Z.heap.size := ⟨_, rfl⟩
  rw [← hg] at HA ⊢
  have HG := hid hg
  have HFN := hid hf
  clear hY hmk hA hbY hg hf
  go_wp2_with fail
  go_loopw [31] (fun iv wr => ∃ j : Nat, j ≤ l.length ∧ iv = .int .i64 j ∧ Arr wr g 3 (fillL f (.int .i64 0) l.length j) ∧ Below Z.heap.size Z wr) (fun iv _ => l.length - (intOf iv).toNat)
  case atStart => exact ⟨0, by omega, rfl, HA.out, HBY.out⟩
  case round =>
    obtain ⟨j, hj, rfl, hA, hb⟩ := hrel
    have HA := hid hA
    have HB := hid hb
    by_cases hlt : j < l.length
    · have hj1 : (j : Int) < (l.length : Int) := by omega
      have hj0 : (0 : Int) ≤ (j : Int) := by omega
      have L1 := HLZ.out.below hb
      obtain ⟨b, off, rfl, hb1, c⟩ := Rd.intAt L1 hlt
      have MZ := HMZ.out.below hb
      have cm := MZ.cm
      have zm := MZ.zm
      have hlook := lookup_run (w := wr) key_int Try.underlying115 (zero_int _) MZ.map l[j] false
      simp only [Bool.false_eq_true, if_false] at hlook
      have hff := hA.free j
      have hz := hA.lt
      have hcell := hA.cell j
      have hfl : (fillL f (.int .i64 0) l.length j)[j]? = some (.int .i64 0) := by simp [fillL, hlt]
      rw [hfl] at hcell
      have hfj : f j = .int .i64 ((aget X.2 l[j]).getD 0) := by rw [HFN.out]; simp [List.getD_eq_getElem?_getD, hlt]
      have HFJ := hid hfj
      clear hA hb L1 MZ hfl hfj
      generalize l[j] = v at *
      generalize (aget X.2 v).getD 0 = r at *
      go_wp2_with fail
      go_roundw
      case rel =>
        refine ⟨j + 1, by omega, by go_num, ?_, ?_⟩
        · rw [← fillL_set, HFJ.out]
          exact (HA.out.set_ _ _).below (by (repeat' (first | (with_reducible exact Below.refl _ _) | (with_reducible refine Below.ext_mk ?_ ?_ _ _) | (with_reducible refine Below.alloc ?_ ?_ _) | (with_reducible refine Below.drew ?_) | (with_reducible refine Below.setCell ?_ ?_ _) | go_size)))
        · have hh := HB.out.size
          exact (HB.out.setCell (p := ⟨g, j, none⟩) (by have := HG.out; simp; omega) _).trans (by (repeat' (first | (with_reducible exact Below.refl _ _) | (with_reducible refine Below.ext_mk ?_ ?_ _ _) | (with_reducible refine Below.alloc ?_ ?_ _) | (with_reducible refine Below.drew ?_) | (with_reducible refine Below.setCell ?_ ?_ _) | go_size)))
      case measure => simp [intOf]; omega
    · obtain rfl : j = l.length := by omega
      clear hA hb
      go_wp2_with fail
      go_returns
      have e : ints (l.map (fun a => (aget X.2 a).getD 0)) = fillL f (.int .i64 0) l.length l.length := by
        rw [fillL_full, HFN.out]
        apply List.ext_getElem?
        intro i
        by_cases hi : i < l.length <;> simp [ints, hi, List.getD_eq_getElem?_getD]
      refine ⟨_, rfl, ?_, HSZ.out.below HB.out, ⟨Ft2, HMZ.out.sto.below HB.out, HSTW.out.trans (StoStep.of_below HB.out)⟩, HMZ.out.wf, HMZ.out.sat⟩
      rw [e]
      have h := HA.out.rd (by rw [fillL_length]; exact hlm)
      rw [fillL_length] at h
      exact h

set_option maxHeartbeats 4000000 in
theorem tidy_live {w : World} {p : Nat} {F : List Nat} {S : Sto} (hS : StoIs w p F S) (hW : Wf S) (hfS : S.full = false) (cap : Int) (h1 : 2 ≤ cap) (h2 : cap ≤ 1048576)
    {sv : Value} {l : List Int} (hl : Rd w 1 sv (ints l)) (hlen : l.length ≤ 1000) (N : Nat) (hN : ∀ a ∈ l, (rightOf S a).toNat < N)
    (X : Sto × List (Int × Int)) (hX : (eachL (atV S) N [] [] l).2.foldl (movS (atV S)) (newS cap, [(1, 1)]) = X) (hXf : X.1.full = false) :
    Calls Try.prog 34 #[.pointer (some ⟨p, 0, none⟩), .int .i64 cap, sv] w (fun e w' => ∃ t s2 Ft', e = .returned (.tuple #[.pointer (some ⟨t, 0, none⟩), s2, .int .i64 0]) ∧ Rd w' 1 s2 (ints (l.map (fun a => (aget X.2 a).getD 0))) ∧ StoIs w' t Ft' X.1 ∧ Wf X.1 ∧ Below w.heap.size w w') := by
  have hc : S.cap ≠ 0 := by have := hW.cap2; omega
  have NS := fun W (hb : Below w.heap.size w W) => none_not (hS.below hb) hc hfS
  have HL := hid hl
  have HS := hid hS
  have HN := hid hN
  have HXX := hid hX
  have HXF := hid hXf
  clear hl hS hN hX hXf hc
  obtain ⟨la, lc, rfl, hlc, hlm⟩ := HL.out.len
  go_enter Try.func34, Try.ntmps34
  go_upto_region 1 with (fail)
  refine wp_region_seq (fun F hF => ?_)
  have HF := hid hF; clear hF
  repeat (first
    | (apply text_skip; (focus rfl); simp only [Act.put, List.setIfInBounds_toArray, List.set_cons_zero, List.set_cons_succ])
    | (apply text_val; (focus rfl); (focus (intro _ _; go_simp; with_reducible rfl)); simp only [Act.put, List.setIfInBounds_toArray, List.set_cons_zero, List.set_cons_succ])
    | (apply text_call; (focus rfl); (focus (intro _ _; go_simp; exact ⟨rfl, rfl⟩)); (focus (intro _ _; with_reducible (exact NS _ (by (repeat' (first | (with_reducible exact Below.refl _ _) | (with_reducible refine Below.ext_mk ?_ ?_ _ _) | (with_reducible refine Below.alloc ?_ ?_ _) | (with_reducible refine Below.drew ?_) | (with_reducible refine Below.setCell ?_ ?_ _) | go_size)))))); simp only [Act.put, List.setIfInBounds_toArray, List.set_cons_zero, List.set_cons_succ])
    | (apply text_if; (focus (first | exact wanted_t rfl rfl | exact wanted_f rfl rfl | exact wanted_gt rfl rfl | exact wanted_gf rfl rfl)); (focus (intro hc _ _; (try simp only [Bool.and_eq_true, Bool.not_eq_true', Bool.true_and] at hc); go_simp; with_reducible rfl)); simp only [Act.put, List.setIfInBounds_toArray, List.set_cons_zero, List.set_cons_succ])
    | (apply text_if_call; (focus (first | exact wanted_t rfl rfl | exact wanted_f rfl rfl | exact wanted_gt rfl rfl | exact wanted_gf rfl rfl)); (focus (intro hc _ _; (try simp only [Bool.and_eq_true, Bool.not_eq_true', Bool.true_and] at hc); go_simp; exact ⟨rfl, rfl⟩)); (focus (intro hc _ _; with_reducible (exact NS _ (by (repeat' (first | (with_reducible exact Below.refl _ _) | (with_reducible refine Below.ext_mk ?_ ?_ _ _) | (with_reducible refine Below.alloc ?_ ?_ _) | (with_reducible refine Below.drew ?_) | (with_reducible refine Below.setCell ?_ ?_ _) | go_size)))))); simp only [Act.put, List.setIfInBounds_toArray, List.set_cons_zero, List.set_cons_succ]))
  refine text_nil (HF.out _ (fun mx dx => ?_))
  clear HF F
  clear NS
  have hb0 : Below w.heap.size w (w.ext mx dx) := Below.ext_mk (Below.refl _ _) (Nat.le_refl _) mx dx
  have HB0 := hid hb0
  generalize w.ext mx dx = V at *
  clear hb0
  go_upto_region 4 with ((with_reducible refine (new_call cap h1 h2 _).mono ?_); rintro e w1 ⟨t, Ft, rfl, hT, hb, hF⟩)
  have hbw := HB0.out.trans (hb.mono HB0.out.size)
  have C := hid (move_live (HS.out.below hbw) hW hfS hT (newS_wf h1 h2) (newS_sated cap) rfl (fun k hk hm => by have h3 := HS.out.lt k hk; have h4 := hF k hm; have := HB0.out.size; omega) (HL.out.below hbw)
    (fun a n c b off hn e1 e2 hm => by
      have h4 := hF b hm
      obtain ⟨a', n', c', f1, f2, f3, f4, f5⟩ := HL.out
      rw [f1] at e1
      cases e1
      obtain ⟨b', off', g1, g2, _⟩ := f5 hn
      rw [g1] at e2
      cases e2
      have := HB0.out.size
      omega) hlen N HN.out X HXX.out HXF.out)
  have HBW := hid hbw
  have HFT := hid hF
  have HSZ := hid HB0.out.size
  clear hbw hT hb hF
  go_upto_region 7 with ((with_reducible refine (C.out).mono ?_); rintro e w2 ⟨s2, rfl, HM⟩)
  obtain ⟨sa, sc, rfl, _, _⟩ := HM.rd.len
  obtain ⟨Ft', q1, q2⟩ := HM.tgt
  have HMM := hid HM
  have HQ := hid (And.intro q1 q2)
  clear HM q1 q2 C
  go_wp2_with fail
  go_returns
  exact ⟨_, _, Ft', rfl, HMM.out.rd, HQ.out.1, HMM.out.wf, HBW.out.trans (HQ.out.2.below (fun k hk => by have := HFT.out k hk; have := HSZ.out; omega) HBW.out.size)⟩
end Go.Proofs.Ytboekafmplomhaa
