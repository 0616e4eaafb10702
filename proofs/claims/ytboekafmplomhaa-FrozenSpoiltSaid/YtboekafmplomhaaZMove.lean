/-
  Package tidy: what Move does at each node.
-/
import Derived.Test.YtboekafmplomhaaZTidy
import Derived.Test.YtboekafmplomhaaZStage
import Derived.Test.YtboekafmplomhaaZQuantC
set_option linter.unusedVariables false
set_option linter.unusedSimpArgs false
namespace Go.Proofs.Ytboekafmplomhaa
open Go.RowKit

def movS (at_ : Int → Nd × Bool) (X : Sto × List (Int × Int)) (a : Int) : Sto × List (Int × Int) :=
  ((iteV (varV X.1 (at_ a).1.1).1 (varV X.1 (at_ a).1.1).2 ((aget X.2 (at_ a).1.2.2).getD 0) ((aget X.2 (at_ a).1.2.1).getD 0)).1,
   aput X.2 a (iteV (varV X.1 (at_ a).1.1).1 (varV X.1 (at_ a).1.1).2 ((aget X.2 (at_ a).1.2.2).getD 0) ((aget X.2 (at_ a).1.2.1).getD 0)).2)
structure MoveW (t mb it im : Nat) (w : World) (Ft : List Nat) (T : Sto) (J : List (Int × Int)) : Prop where
  sto : StoIs w t Ft T
  wf : Wf T
  sat : Sated T
  map : MapIs ki w mb J
  mF : mb ∉ Ft
  tF : it ∉ Ft
  iF : im ∉ Ft
  tm : it ≠ mb
  ne : im ≠ mb
  zt : it < w.heap.size
  zm : im < w.heap.size
  ct : w.cell? ⟨it, 0, none⟩ = some (.pointer (some ⟨t, 0, none⟩))
  cm : w.cell? ⟨im, 0, none⟩ = some (.map (some mb))
section
variable {t mb it im : Nat} {w w' : World} {Ft Ft' : List Nat} {T T' : Sto} {J J' : List (Int × Int)}
theorem MoveW.step (h : MoveW t mb it im w Ft T J) (st : StoStep w w' (mb :: Ft) (mb :: Ft')) (hS : StoIs w' t Ft' T') (hW : Wf T') (hs : Sated T') (hm : MapIs ki w' mb J') (hn : mb ∉ Ft') : MoveW t mb it im w' Ft' T' J' :=
  have k1 : it ∉ mb :: Ft := by simp only [List.mem_cons, not_or]; exact ⟨h.tm, h.tF⟩
  have k2 : im ∉ mb :: Ft := by simp only [List.mem_cons, not_or]; exact ⟨h.ne, h.iF⟩
  { sto := hS, wf := hW, sat := hs, map := hm, mF := hn
    tF := fun hm => st.keeps h.zt k1 (List.mem_cons_of_mem _ hm), iF := fun hm => st.keeps h.zm k2 (List.mem_cons_of_mem _ hm)
    tm := h.tm, ne := h.ne, zt := Nat.lt_of_lt_of_le h.zt st.size, zm := Nat.lt_of_lt_of_le h.zm st.size
    ct := (cell_of_heap 0 (st.block _ h.zt k1)).trans h.ct, cm := (cell_of_heap 0 (st.block _ h.zm k2)).trans h.cm }
theorem MoveW.below (h : MoveW t mb it im w Ft T J) (hb : Below w.heap.size w w') : MoveW t mb it im w' Ft T J :=
  h.step (StoStep.of_below hb) (h.sto.below hb) h.wf h.sat (MapIs.keep h.map (hb.block _ (MapIs.lt h.map))) h.mF
end
def MoveI (t mb it im : Nat) (X0 : Sto × List (Int × Int)) (at_ : Int → Nd × Bool) (M : List Nat) (L : List Int) (w : World) : Prop :=
  ∃ Ft, M = it :: im :: mb :: Ft ∧ MoveW t mb it im w Ft (L.foldl (movS at_) X0).1 (L.foldl (movS at_) X0).2

set_option maxHeartbeats 8000000 in
theorem move1_any {t mb it im : Nat} {w : World} {Ft : List Nat} {T : Sto} {J : List (Int × Int)} (h : MoveW t mb it im w Ft T J) (a x1 x2 x3 : Int) :
    Calls Try.prog 94 #[.int .i64 a, .agg #[.int .i64 x1, .int .i64 x2, .int .i64 x3], .pointer (some ⟨it, 0, none⟩), .pointer (some ⟨im, 0, none⟩)] w
      (fun e w' => e = .returned (.tuple #[]) ∧ ∃ Ft', MoveW t mb it im w' Ft' (iteV (varV T x1).1 (varV T x1).2 ((aget J x3).getD 0) ((aget J x2).getD 0)).1 (aput J a (iteV (varV T x1).1 (varV T x1).2 ((aget J x3).getD 0) ((aget J x2).getD 0)).2) ∧ StoStep w w' (mb :: Ft) (mb :: Ft')) := by
  have H := hid h
  have zt := h.zt
  have zm := h.zm
  have ct := h.ct
  clear h
  obtain ⟨R1, hR1⟩ : ∃ R, varV T x1 = R := ⟨_, rfl⟩
  have G1 := varV_good H.out.wf H.out.sat x1
  have C1 := hid (fun W F (h : StoIs W t F T) => (show Calls Try.prog _ _ _ _ from var_call h H.out.wf x1))
  rw [hR1] at C1 G1 ⊢
  obtain ⟨R2, hR2⟩ : ∃ R, iteV R1.1 R1.2 ((aget J x3).getD 0) ((aget J x2).getD 0) = R := ⟨_, rfl⟩
  have G2 := iteV_good G1.1 G1.2 R1.2 ((aget J x3).getD 0) ((aget J x2).getD 0)
  have C2 := hid (fun W F (h : StoIs W t F R1.1) => (show Calls Try.prog _ _ _ _ from ite_call h G1.1 R1.2 ((aget J x3).getD 0) ((aget J x2).getD 0)))
  rw [hR2] at C2 G2 ⊢
  clear hR1 hR2
  go_enter Try.func94, Try.ntmps94
  go_upto_region 1 with (fail)
  refine wp_gen (fun V hV => ?_)
  have hbV : Below w.heap.size w V := by rw [hV]; (repeat' (first | (with_reducible exact Below.refl _ _) | (with_reducible refine Below.ext_mk ?_ ?_ _ _) | (with_reducible refine Below.alloc ?_ ?_ _) | (with_reducible refine Below.drew ?_) | (with_reducible refine Below.setCell ?_ ?_ _) | go_size))
  have bV : Blk V w.heap.size 39 [.int .i64 x1, .int .i64 x2, .int .i64 x3] := by rw [hV]; exact World.heap_alloc_last w _
  have HV := H.out.below hbV
  obtain ⟨b, hb⟩ : ∃ b, b = w.heap.size := ⟨_, rfl⟩
  have hbF : b ∉ mb :: Ft := by
    simp only [List.mem_cons, not_or]
    exact ⟨fun e => by have := MapIs.lt H.out.map; omega, fun hm => by have := H.out.sto.lt _ hm; omega⟩
  rw [← hb] at bV ⊢
  have ctV := HV.ct
  have ztV := HV.zt
  have cb := bV.cell 0
  simp only [List.getElem?_cons_zero] at cb
  have zb := bV.lt
  have BV := hid bV
  have C3 := C1.out _ _ HV.sto
  have HBV := hid hbV
  clear hb hV bV ct zt zm hbV
  go_upto_region 2 with ((with_reducible refine C3.mono ?_); rintro e w2 ⟨rfl, F2, hS2, st2⟩)
  clear C3 cb zb ctV ztV
  have nF : mb ∉ F2 := st2.keeps (MapIs.lt HV.map) HV.mF
  have hm2 : MapIs ki w2 mb J := MapIs.keep HV.map (st2.block _ (MapIs.lt HV.map) HV.mF)
  have st2' : StoStep V w2 (mb :: Ft) (mb :: F2) := by
    refine ⟨st2.os, st2.tape, st2.output, st2.size, fun k h1 h2 => st2.block k h1 (fun hm => h2 (List.mem_cons_of_mem _ hm)), fun k hk => ?_⟩
    rcases List.mem_cons.1 hk with rfl | hk
    · exact .inl (List.mem_cons_self ..)
    · exact (st2.fresh k hk).imp (fun h => List.mem_cons_of_mem _ h) id
  have H2 : MoveW t mb it im w2 F2 R1.1 J := HV.step st2' hS2 G1.1 G1.2 hm2 nF
  have b2 := BV.out.keep (st2'.block b BV.out.lt hbF)
  have nb2 := st2'.keeps BV.out.lt hbF
  have DD := hid (fun W (hb : Below w2.heap.size w2 W) => (show W.cell? ⟨it, 0, none⟩ = some (.pointer (some ⟨t, 0, none⟩)) ∧ it < W.heap.size ∧ W.cell? ⟨im, 0, none⟩ = some (.map (some mb)) ∧ im < W.heap.size ∧ W.cell? ⟨b, 1, none⟩ = some (.int .i64 x2) ∧ W.cell? ⟨b, 2, none⟩ = some (.int .i64 x3) ∧ b < W.heap.size ∧
      (∀ y, (Instr.lookup 115 (.map (some mb)) (.int .i64 y) false).run Try.prog W = .ok (.int .i64 ((aget J y).getD 0)) W) from
    ⟨(H2.below hb).ct, (H2.below hb).zt, (H2.below hb).cm, (H2.below hb).zm, (b2.below hb).cell 1, (b2.below hb).cell 2, (b2.below hb).lt, fun y => by
      have := lookup_run (w := W) key_int Try.underlying115 (zero_int _) (H2.below hb).map y false
      simpa only [Bool.false_eq_true, if_false] using this⟩))
  have st02 := hid ((StoStep.of_below HBV.out).trans st2')
  have HH2 := hid H2
  have C4 := hid (fun W (hb : Below w2.heap.size w2 W) => C2.out _ _ (hS2.below hb))
  clear HBV H2 hm2 hS2 st2 st2' C1 C2 HV b2 nb2 BV nF hbF
  refine wp_region_stage [12, 13] (fun i w => (i = 0 → Below w2.heap.size w2 w) ∧
      (i = 1 → ∃ F3, MoveW t mb it im w F3 R2.1 J ∧ StoStep w2 w (mb :: F2) (mb :: F3)) ∧
      (i = 2 → ∃ F3, MoveW t mb it im w F3 R2.1 (aput J a R2.2) ∧ StoStep w2 w (mb :: F2) (mb :: F3))) (by kernel_rfl) (by kernel_rfl) (by kernel_rfl) (by kernel_rfl) ⟨fun _ => Below.drew (Below.refl _ _), fun h => by omega, fun h => by omega⟩ (fun F' hF' => ?_)
  have HF := hid hF'
  clear hF'
  refine sg_read (v := .map (some mb)) 0 1 rfl (by decide +kernel) (by decide +kernel) rfl (fun ii w' l' u hR => ?_) ?_
  · rcases (show ii = 0 ∨ ii = 1 by omega) with rfl | rfl
    · obtain ⟨t1, t2, t3, t4, t5, t6, t7, t8⟩ := DD.out w' (hR.1 rfl)
      clear hR
      first | (go_simp; done) | (go_simp; with_reducible rfl)
    · obtain ⟨F3, q1, q2⟩ := hR.2.1 rfl
      have t3 := q1.cm
      have t4 := q1.zm
      clear hR q1 q2
      first | (go_simp; done) | (go_simp; with_reducible rfl)
  simp only [Act.put, List.setIfInBounds_toArray, List.set_cons_zero, List.set_cons_succ]
  repeat (first
    | (apply sg_any; (focus rfl); (focus rfl); (focus (intro _; go_simp; with_reducible rfl)); simp only [Act.put, List.setIfInBounds_toArray, List.set_cons_zero, List.set_cons_succ])
    | (apply sg_read 0 0; (focus rfl); (focus (decide +kernel)); (focus (decide +kernel)); (focus rfl); (focus (intro ii w' l' u hR; obtain ⟨t1, t2, t3, t4, t5, t6, t7, t8⟩ := DD.out w' (hR.1 (by omega)); clear hR; go_simp; with_reducible rfl)); simp only [Act.put, List.setIfInBounds_toArray, List.set_cons_zero, List.set_cons_succ]))
  refine sg_turn_call 0 (v := .int .i64 R2.2) (f := 25) (args := #[.pointer (some ⟨t, 0, none⟩), .int .i64 R1.2, .int .i64 ((aget J x3).getD 0), .int .i64 ((aget J x2).getD 0)]) rfl rfl (fun _ => by first | (go_simp; done) | (go_simp; exact ⟨rfl, rfl⟩)) (fun W hR => by
    refine (C4.out W (hR.1 rfl)).mono ?_
    rintro e w' ⟨rfl, F3, q1, q2⟩
    refine ⟨rfl, fun h => by omega, fun _ => ?_, fun h => by omega⟩
    have hb := hR.1 rfl
    have HW := HH2.out.below hb
    have nF : mb ∉ F3 := q2.keeps (MapIs.lt HW.map) HW.mF
    have st2' : StoStep W w' (mb :: F2) (mb :: F3) := by
      refine ⟨q2.os, q2.tape, q2.output, q2.size, fun k h1 h2 => q2.block k h1 (fun hm => h2 (List.mem_cons_of_mem _ hm)), fun k hk => ?_⟩
      rcases List.mem_cons.1 hk with rfl | hk
      · exact .inl (List.mem_cons_self ..)
      · exact (q2.fresh k hk).imp (fun h => List.mem_cons_of_mem _ h) id
    exact ⟨F3, HW.step st2' q1 G2.1 G2.2 (MapIs.keep HW.map (q2.block _ (MapIs.lt HW.map) HW.mF)) nF, (StoStep.of_below hb).trans st2'⟩) ?_
  simp only [Act.put, List.setIfInBounds_toArray, List.set_cons_zero, List.set_cons_succ]
  refine sg_do 1 rfl rfl (fun W hR => ?_) ?_
  · obtain ⟨F3, q1, q2⟩ := hR.2.1 rfl
    obtain ⟨o, u1, u2⟩ := update_run (t := 115) key_int Try.underlying115 q1.map a R2.2
    refine ⟨W.putObj mb o, ?_, fun h => by omega, fun h => by omega, fun _ => ⟨F3, ?_, q2.trans (StoStep.put (by simp) o)⟩⟩
    · clear hR q1 q2 u2
      go_simp
    · exact q1.step (StoStep.put (by simp) o) (q1.sto.keep (fun k hk => World.heap_putObj_ne _ _ (fun e => q1.mF (by subst e; exact hk)))) q1.wf q1.sat u2 q1.mF
  simp only [Act.put, List.setIfInBounds_toArray, List.set_cons_zero, List.set_cons_succ]
  refine sg_end (HF.out _ (fun w3 hR => ?_))
  obtain ⟨F3, q1, q2⟩ := hR.2.2 rfl
  clear hR HF F' DD
  go_wp2_with fail
  go_returns
  exact ⟨rfl, F3, q1, st02.out.trans q2⟩
theorem move_doer (t mb it im : Nat) (X0 : Sto × List (Int × Int)) (at_ : Int → Nd × Bool) : Doer 94 #[.pointer (some ⟨it, 0, none⟩), .pointer (some ⟨im, 0, none⟩)] at_ (MoveI t mb it im X0 at_) where
  keep M L w w' h hk := by
    obtain ⟨Ft, rfl, h⟩ := h
    refine ⟨Ft, rfl, { sto := h.sto.keep (fun k hm => hk k (by simp [hm])), wf := h.wf, sat := h.sat, map := MapIs.keep h.map (hk mb (by simp)), mF := h.mF, tF := h.tF, iF := h.iF, tm := h.tm, ne := h.ne, zt := ?_, zm := ?_, ct := (cell_of_heap 0 (hk it (by simp))).trans h.ct, cm := (cell_of_heap 0 (hk im (by simp))).trans h.cm }⟩
    · have e : w'.heap[it]? ≠ none := by rw [hk it (by simp)]; simp [h.zt]
      exact Nat.lt_of_not_le (fun hle => e (Array.getElem?_eq_none hle))
    · have e : w'.heap[im]? ≠ none := by rw [hk im (by simp)]; simp [h.zm]
      exact Nat.lt_of_not_le (fun hle => e (Array.getElem?_eq_none hle))
  lt M L w h := by
    obtain ⟨Ft, rfl, h⟩ := h
    intro k hk
    simp only [List.mem_cons] at hk
    rcases hk with rfl | rfl | rfl | hk
    · exact h.zt
    · exact h.zm
    · exact MapIs.lt h.map
    · exact h.sto.lt k hk
  enter args w := by simp [go_sem]
  call M L w a ha h := by
    obtain ⟨Ft, rfl, h⟩ := h
    refine (move1_any h a _ _ _).mono ?_
    rintro e w' ⟨rfl, Ft', h', st⟩
    refine ⟨rfl, it :: im :: mb :: Ft', ⟨Ft', rfl, ?_⟩, ?_⟩
    · rw [List.foldl_append]
      exact h'
    · refine ⟨st.os, st.tape, st.output, st.size, fun k h1 h2 => st.block k h1 (fun hm => h2 (List.mem_cons_of_mem _ (List.mem_cons_of_mem _ hm))), fun k hk => ?_⟩
      rcases List.mem_cons.1 hk with rfl | hk
      · exact .inl (by simp)
      rcases List.mem_cons.1 hk with rfl | hk
      · exact .inl (by simp)
      · exact (st.fresh k hk).imp (fun h => List.mem_cons_of_mem _ (List.mem_cons_of_mem _ h)) id
end Go.Proofs.Ytboekafmplomhaa
