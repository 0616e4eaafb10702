/-
  Package quant over a live store: right, bind, Exists, Forall, Implies.
-/
import Derived.Test.YtboekafmplomhaaZQuantB
import Derived.Test.YtboekafmplomhaaZUnder
import Derived.Test.YtboekafmplomhaaZUnP
import Derived.Test.YtboekafmplomhaaZDoC
set_option linter.unusedVariables false
set_option linter.unusedSimpArgs false
namespace Go.Proofs.Ytboekafmplomhaa
open Go.RowKit

def qrightN (S : Sto) (x : Int) : Int := qrightV S.full (atV S x).2 x
theorem qright_live {w : World} {p : Nat} {F : List Nat} {S : Sto} (h : StoIs w p F S) (hW : Wf S) (x : Int) :
    Calls Try.prog 99 #[.pointer (some ⟨p, 0, none⟩), .int .i64 x] w (Pure (.int .i64 (qrightN S x)) w) :=
  qright_gen _ x _ _ _ _ _ w (fun W hb => at_call (h.below hb) hW x) (fun W hb => full_any (h.below hb) (by have := hW.cap2; omega))

/-- What bind makes, variable by variable. -/
def bindL (op : Sto → Int → Int → Sto × Int) : Sto → Int → List Int → Sto × Int
  | S, a, [] => (S, qrightN S a)
  | S, a, v :: l =>
    if isVarB v then
      bindL op (op (underV (underV S a v false).1 a v true).1 (underV S a v false).2 (underV (underV S a v false).1 a v true).2).1
        (op (underV (underV S a v false).1 a v true).1 (underV S a v false).2 (underV (underV S a v false).1 a v true).2).2 l
    else bindL op S a l
def bindV (op : Sto → Int → Int → Sto × Int) (S : Sto) (a : Int) (l : List Int) : Sto × Int := bindL op S (qrightN S a) l

theorem underV_good {S : Sto} (hW : Wf S) (hs : Sated S) (a v : Int) (on : Bool) : Wf (underV S a v on).1 ∧ Sated (underV S a v on).1 :=
  have O := underV_ok hW hs (below64 hW) (by omega) a v on
  ⟨O.wf, O.sated⟩
theorem iteV_good {S : Sto} (hW : Wf S) (hs : Sated S) (a b c : Int) : Wf (iteV S a b c).1 ∧ Sated (iteV S a b c).1 :=
  have O := iteV_ok hW hs (below64 hW) (by omega) a b c
  ⟨O.wf, O.sated⟩

theorem Rd.intAt {w : World} {a : Option Addr} {cap : Nat} {l : List Int} (h : Rd w 1 (.slice a l.length cap) (ints l)) {i : Nat} (hi : i < l.length) :
    ∃ b off, a = some ⟨b, off, none⟩ ∧ b < w.heap.size ∧ w.cell? ⟨b, off + i, none⟩ = some (.int .i64 l[i]) := by
  obtain ⟨a', n, cap', h1, h2, h3, h4, h5⟩ := h
  simp only [Value.slice.injEq] at h1
  obtain ⟨rfl, rfl, rfl⟩ := h1
  obtain ⟨b, off, e1, e2, e3⟩ := h5 (by omega)
  exact ⟨b, off, e1, e2, e3 i _ (by simp [ints, hi])⟩
set_option maxHeartbeats 1000000 in
theorem bind_live {w : World} {p : Nat} {F : List Nat} {S : Sto} (h : StoIs w p F S) (hW : Wf S) (hs : Sated S) (k : FuncId) (hk : ∀ args w, (callFunc k args).run Try.prog w = .ok (.enter k args) w)
    (op : Sto → Int → Int → Sto × Int) (hop : ∀ S a b, Wf S → Sated S → Wf (op S a b).1 ∧ Sated (op S a b).1)
    (hby : ∀ W F S, StoIs W p F S → Wf S → ∀ a b, Tells k #[.pointer (some ⟨p, 0, none⟩), .int .i64 a, .int .i64 b] W p F (op S a b))
    (x : Int) (l : List Int) (sv : Value) (hl : Rd w 1 sv (ints l)) (hF : ∀ a n cap b off, 0 < n → sv = .slice a n cap → a = some ⟨b, off, none⟩ → b ∉ F) :
    Tells 97 #[.pointer (some ⟨p, 0, none⟩), .int .i64 x, sv, .func (.func k) #[.pointer (some ⟨p, 0, none⟩)] #[]] w p F (bindV op S x l) := by
  obtain ⟨a, cap, rfl, hc, hm⟩ := hl.len
  have R := hid (fun W F S (h : StoIs W p F S) (hW : Wf S) (y : Int) => qright_live h hW y)
  have U := hid (fun W F S (h : StoIs W p F S) (hW : Wf S) (hs : Sated S) (y v : Int) (on : Bool) => under_call h hW hs y v on)
  have B := hid hby
  have L := hid hl
  have LF := hid hF
  have H := hid h
  have HP := hid hop
  unfold Tells at U B ⊢
  clear h hby hl hF hop
  go_enter Try.func97, Try.ntmps97
  go_wp2_with (go_at_call 99; refine (R.out _ _ _ H.out hW _).mono ?_; rintro e w' ⟨rfl, m2, d2, rfl⟩)
  go_loopw [1, 18] (fun y i wr => ∃ (z : Int) (j : Nat) (S1 : Sto) (F1 : List Nat), j ≤ l.length ∧ y = .int .i64 z ∧ i = .int .i64 j ∧ StoIs wr p F1 S1 ∧ Wf S1 ∧ Sated S1 ∧ StoStep w wr F F1 ∧ bindL op S1 z (l.drop j) = bindV op S x l) (fun _ i _ => l.length - (intOf i).toNat)
  case atStart => exact ⟨_, 0, S, F, by omega, rfl, rfl, H.out.ext _ _, hW, hs, StoStep.of_below (by (repeat' (first | (with_reducible exact Below.refl _ _) | (with_reducible refine Below.ext_mk ?_ ?_ _ _) | (with_reducible refine Below.alloc ?_ ?_ _) | (with_reducible refine Below.drew ?_) | (with_reducible refine Below.setCell ?_ ?_ _) | go_size))), rfl⟩
  case round =>
    obtain ⟨z, j, S1, F1, hj, rfl, rfl, hS1, hW1, hs1, st1, hbind⟩ := hrel
    have HB := hid hbind
    clear hbind
    by_cases hlt : j < l.length
    · have hj1 : (j : Int) < (l.length : Int) := by omega
      have L1 := Rd.step L.out st1 (fun a n c b off e1 e2 => LF.out a n c b off (by cases e1; omega) e1 e2)
      obtain ⟨b, off, rfl, hb1, c⟩ := Rd.intAt L1 hlt
      obtain ⟨v, hv⟩ : ∃ v, v = l[j] := ⟨_, rfl⟩
      rw [← hv] at c
      clear L1
      have V := isVar_any v
      have ev : (l.drop j) = v :: l.drop (j + 1) := by rw [hv]; exact List.drop_eq_getElem_cons hlt
      clear hv
      have HE := hid ev
      clear ev
      cases hv : isVarB v
      · rw [hv] at V
        have HV := hid hv
        clear hv
        go_wp2_with (first
          | (go_at_call 98; refine (V _).mono ?_; rintro e w' ⟨rfl, m1, d1, rfl⟩))
        go_roundw
        case rel =>
          refine ⟨z, j + 1, S1, F1, by omega, rfl, by go_num, hS1.ext _ _, hW1, hs1, st1.trans (StoStep.of_below (Below.ext_mk (Below.refl _ _) (Nat.le_refl _) _ _)), ?_⟩
          rw [← HB.out, HE.out, bindL, HV.out]
          rfl
        case measure => simp [intOf]; omega
      · rw [hv] at V
        have HV := hid hv
        clear hv
        have U1 := fun m d => U.out _ _ _ (hS1.ext m d) hW1 hs1 z v false
        obtain ⟨R1, hR1⟩ : ∃ R, R = underV S1 z v false := ⟨_, rfl⟩
        have G1 := underV_good hW1 hs1 z v false
        rw [← hR1] at U1 G1
        have U2 := fun W F (h : StoIs W p F R1.1) => U.out _ _ _ h G1.1 G1.2 z v true
        obtain ⟨R2, hR2⟩ : ∃ R, R = underV R1.1 z v true := ⟨_, rfl⟩
        have G2 := underV_good G1.1 G1.2 z v true
        rw [← hR2] at U2 G2
        have B1 := fun W F (h : StoIs W p F R2.1) => B.out _ _ _ h G2.1 R1.2 R2.2
        obtain ⟨R3, hR3⟩ : ∃ R, R = op R2.1 R1.2 R2.2 := ⟨_, rfl⟩
        have G3 := HP.out R2.1 R1.2 R2.2 G2.1 G2.2
        rw [← hR3] at B1 G3
        have E := hid (And.intro hR1 (And.intro hR2 hR3))
        clear hR1 hR2 hR3
        go_wp2_with (first
          | (go_at_call 98; refine (V _).mono ?_; rintro e w' ⟨rfl, m1, d1, rfl⟩)
          | (go_at_call 30; ((with_reducible refine (U1 _ _).mono ?_); rintro e w2 ⟨rfl, F2, hS2, st2⟩))
          | (go_at_call 30; ((with_reducible refine (U2 _ _ hS2).mono ?_); rintro e w3 ⟨rfl, F3, hS3, st3⟩))
          | ((with_reducible refine (B1 _ _ hS3).mono ?_); rintro e w4 ⟨rfl, F4, hS4, st4⟩))
        go_roundw
        case rel =>
          refine ⟨R3.2, j + 1, R3.1, F4, by omega, rfl, by go_num, hS4, G3.1, G3.2, st1.trans ((StoStep.of_below (Below.ext_mk (Below.refl _ _) (Nat.le_refl _) _ _)).trans ((st2.trans st3).trans st4)), ?_⟩
          rw [← HB.out, HE.out, bindL, HV.out, if_pos rfl, ← E.out.1, ← E.out.2.1, ← E.out.2.2]
        case measure => simp [intOf]; omega
    · have ej : l.drop j = [] := List.drop_eq_nil_of_le (by omega)
      rw [ej] at HB
      go_wp2_with (go_at_call 99; refine (R.out _ _ _ hS1 hW1 _).mono ?_; rintro e w' ⟨rfl, m2, d2, rfl⟩)
      go_returns
      rw [← HB.out]
      exact ⟨rfl, F1, hS1.ext _ _, st1.trans (StoStep.of_below (Below.ext_mk (Below.refl _ _) (Nat.le_refl _) _ _))⟩
theorem exists_liveN {w : World} {p : Nat} {F : List Nat} {S : Sto} (h : StoIs w p F S) (hW : Wf S) (hs : Sated S) (x : Int) (l : List Int) (sv : Value) (hl : Rd w 1 sv (ints l))
    (hF : ∀ a n cap b off, 0 < n → sv = .slice a n cap → a = some ⟨b, off, none⟩ → b ∉ F) :
    Tells 38 #[.pointer (some ⟨p, 0, none⟩), .int .i64 x, sv] w p F (bindV orV S x l) := by
  have hmf : ∀ (fn : Fn) (first cap : Array Value) (w : World), (Instr.makeFunc fn first cap).run Try.prog w = .ok (.func fn first cap) w := fun _ _ _ _ => rfl
  have B := bind_live h hW hs 28 (fun _ _ => by kernel_rfl) orV (fun S a b hW hs => iteV_good hW hs _ _ _) (fun W F S h hW a b => or_call h hW a b) x l sv hl hF
  unfold Tells at B ⊢
  clear h hl
  go_enter Try.func38, Try.ntmps38
  go_wp2_with (go_at_call 97; refine B.mono ?_; rintro e w' ⟨rfl, hT⟩)
  go_returns
  exact ⟨rfl, hT⟩
theorem exists_live {w : World} {p : Nat} {F : List Nat} {S : Sto} (h : StoIs w p F S) (hW : Wf S) (hs : Sated S) (x : Int) (l : List Int) (sv : Value) (hl : Rd w 1 sv (ints l))
    (hF : ∀ a n cap b off, sv = .slice a n cap → a = some ⟨b, off, none⟩ → b ∉ F) :
    Tells 38 #[.pointer (some ⟨p, 0, none⟩), .int .i64 x, sv] w p F (bindV orV S x l) := exists_liveN h hW hs x l sv hl (fun a n c b off _ => hF a n c b off)
theorem forall_liveN {w : World} {p : Nat} {F : List Nat} {S : Sto} (h : StoIs w p F S) (hW : Wf S) (hs : Sated S) (x : Int) (l : List Int) (sv : Value) (hl : Rd w 1 sv (ints l))
    (hF : ∀ a n cap b off, 0 < n → sv = .slice a n cap → a = some ⟨b, off, none⟩ → b ∉ F) :
    Tells 39 #[.pointer (some ⟨p, 0, none⟩), .int .i64 x, sv] w p F (bindV andV S x l) := by
  have hmf : ∀ (fn : Fn) (first cap : Array Value) (w : World), (Instr.makeFunc fn first cap).run Try.prog w = .ok (.func fn first cap) w := fun _ _ _ _ => rfl
  have B := bind_live h hW hs 27 (fun _ _ => by kernel_rfl) andV (fun S a b hW hs => iteV_good hW hs _ _ _) (fun W F S h hW a b => and_call h hW a b) x l sv hl hF
  unfold Tells at B ⊢
  clear h hl
  go_enter Try.func39, Try.ntmps39
  go_wp2_with (go_at_call 97; refine B.mono ?_; rintro e w' ⟨rfl, hT⟩)
  go_returns
  exact ⟨rfl, hT⟩
theorem forall_live {w : World} {p : Nat} {F : List Nat} {S : Sto} (h : StoIs w p F S) (hW : Wf S) (hs : Sated S) (x : Int) (l : List Int) (sv : Value) (hl : Rd w 1 sv (ints l))
    (hF : ∀ a n cap b off, sv = .slice a n cap → a = some ⟨b, off, none⟩ → b ∉ F) :
    Tells 39 #[.pointer (some ⟨p, 0, none⟩), .int .i64 x, sv] w p F (bindV andV S x l) := forall_liveN h hW hs x l sv hl (fun a n c b off _ => hF a n c b off)

/-- Whether one diagram implies another one, and the store behind it. -/
def impliesV (S : Sto) (a b : Int) : Sto × Bool :=
  ((andV (notV S b).1 a (notV S b).2).1, decide ((andV (notV S b).1 a (notV S b).2).2 = 0) && !(andV (notV S b).1 a (notV S b).2).1.full)
set_option maxHeartbeats 4000000 in
theorem implies_live {w : World} {p : Nat} {F : List Nat} {S : Sto} (h : StoIs w p F S) (hW : Wf S) (hs : Sated S) (x y : Int) :
    Calls Try.prog 42 #[.pointer (some ⟨p, 0, none⟩), .int .i64 x, .int .i64 y] w (fun e w' => e = .returned (.bool (impliesV S x y).2) ∧ Turned w p F (impliesV S x y).1 w') := by
  have N := not_call h hW y
  have G1 : Wf (notV S y).1 := (iteV_good hW hs _ _ _).1
  have A := fun W F (h : StoIs W p F (notV S y).1) => and_call h G1 x (notV S y).2
  have G2 : Wf (andV (notV S y).1 x (notV S y).2).1 := iteV_wf G1 _ _ _
  have FU := fun W F (h : StoIs W p F (andV (notV S y).1 x (notV S y).2).1) => full_any h (by have := G2.cap2; omega)
  unfold Tells at N A
  unfold impliesV
  generalize notV S y = R1 at *
  generalize andV R1.1 x R1.2 = R2 at *
  obtain ⟨S2, r2⟩ := R2
  simp only at A FU ⊢
  clear h
  generalize hg : (decide (r2 = 0) && !S2.full) = g
  by_cases h0 : r2 = 0
  · subst h0
    have Hg := hid hg
    clear hg
    go_enter Try.func42, Try.ntmps42
    go_upto_region 2 with (first | (go_at_call 26; refine N.mono ?_; rintro e w1 ⟨rfl, F1, hS1, st1⟩))
    refine wp_region_doc (fun F' hF => ?_)
    have HF := hid hF
    clear hF
    repeat (refine doc_val rfl (by first | (go_simp; done) | (go_simp; exact ⟨rfl, rfl⟩) | (go_simp; with_reducible rfl)) ?_; simp only [Act.put, List.setIfInBounds_toArray, List.set_cons_zero, List.set_cons_succ])
    refine doc_call rfl (by first | (go_simp; done) | (go_simp; exact ⟨rfl, rfl⟩) | (go_simp; with_reducible rfl)) ((A _ _ hS1).mono ?_)
    rintro e w2 ⟨rfl, F2, hS2, st2⟩
    refine ⟨_, rfl, ?_⟩
    simp only [Act.put, List.setIfInBounds_toArray, List.set_cons_zero, List.set_cons_succ]
    repeat (first
      | (refine doc_val rfl (by first | (go_simp; done) | (go_simp; exact ⟨rfl, rfl⟩) | (go_simp; with_reducible rfl)) ?_; simp only [Act.put, List.setIfInBounds_toArray, List.set_cons_zero, List.set_cons_succ])
      | (refine doc_not rfl ?_; simp only [Act.put, List.setIfInBounds_toArray, List.set_cons_zero, List.set_cons_succ])
      | (refine doc_call rfl (by first | (go_simp; done) | (go_simp; exact ⟨rfl, rfl⟩) | (go_simp; with_reducible rfl)) ((FU _ _ hS2).mono ?_); rintro e w3 ⟨rfl, m3, d3, rfl⟩; refine ⟨_, rfl, ?_⟩; simp only [Act.put, List.setIfInBounds_toArray, List.set_cons_zero, List.set_cons_succ]))
    refine doc_end (HF.out _ _ ?_)
    clear HF F'
    go_wp2_with fail
    go_returns
    first
      | exact ⟨by rw [← Hg.out]; simp, F2, hS2.ext _ _, (st1.trans st2).trans (StoStep.of_below (Below.ext_mk (Below.refl _ _) (Nat.le_refl _) _ _))⟩
      | exact ⟨by rw [← Hg.out]; simp [Hh0.out], F2, hS2, st1.trans st2⟩
  · have hr0 : (r2 == 0) = false := by simpa using h0
    have Hh0 := hid h0
    clear h0
    have Hg := hid hg
    clear hg
    go_enter Try.func42, Try.ntmps42
    go_upto_region 2 with (first | (go_at_call 26; refine N.mono ?_; rintro e w1 ⟨rfl, F1, hS1, st1⟩))
    refine wp_region_doc (fun F' hF => ?_)
    have HF := hid hF
    clear hF
    repeat (refine doc_val rfl (by first | (go_simp; done) | (go_simp; exact ⟨rfl, rfl⟩) | (go_simp; with_reducible rfl)) ?_; simp only [Act.put, List.setIfInBounds_toArray, List.set_cons_zero, List.set_cons_succ])
    refine doc_call rfl (by first | (go_simp; done) | (go_simp; exact ⟨rfl, rfl⟩) | (go_simp; with_reducible rfl)) ((A _ _ hS1).mono ?_)
    rintro e w2 ⟨rfl, F2, hS2, st2⟩
    refine ⟨_, rfl, ?_⟩
    simp only [Act.put, List.setIfInBounds_toArray, List.set_cons_zero, List.set_cons_succ]
    repeat (first
      | (refine doc_val rfl (by first | (go_simp; done) | (go_simp; exact ⟨rfl, rfl⟩) | (go_simp; with_reducible rfl)) ?_; simp only [Act.put, List.setIfInBounds_toArray, List.set_cons_zero, List.set_cons_succ])
      | (refine doc_not rfl ?_; simp only [Act.put, List.setIfInBounds_toArray, List.set_cons_zero, List.set_cons_succ])
      | (refine doc_call rfl (by first | (go_simp; done) | (go_simp; exact ⟨rfl, rfl⟩) | (go_simp; with_reducible rfl)) ((FU _ _ hS2).mono ?_); rintro e w3 ⟨rfl, m3, d3, rfl⟩; refine ⟨_, rfl, ?_⟩; simp only [Act.put, List.setIfInBounds_toArray, List.set_cons_zero, List.set_cons_succ]))
    refine doc_end (HF.out _ _ ?_)
    clear HF F'
    go_wp2_with fail
    go_returns
    first
      | exact ⟨by rw [← Hg.out]; simp, F2, hS2.ext _ _, (st1.trans st2).trans (StoStep.of_below (Below.ext_mk (Below.refl _ _) (Nat.le_refl _) _ _))⟩
      | exact ⟨by rw [← Hg.out]; simp [Hh0.out], F2, hS2, st1.trans st2⟩
end Go.Proofs.Ytboekafmplomhaa
