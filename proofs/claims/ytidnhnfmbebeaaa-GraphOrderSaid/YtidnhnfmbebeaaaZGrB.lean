/-
  Package resolve: a name's state.
-/
import Derived.Test.YtidnhnfmbebeaaaZGrM
set_option linter.unusedVariables false
set_option linter.unusedSimpArgs false
namespace Go.Proofs.Ytidnhnfmbebeaaa
open Go.RowKit Go.Gr

abbrev stV (s : StP) (c : StC) : Value := .agg #[.string s.name, c.tk.v, .string s.dest, c.ks.v, c.cs.v]

theorem sname_any (s : StP) (c : StC) (w : World) : Calls Try.prog 31 #[stV s c] w (Pure (.string s.name) w) := by
  go_enter Try.func31, Try.ntmps31
  go_wp2_with fail
  go_returns
  exact Pure.of rfl (by (repeat' (first | (with_reducible exact Below.refl _ _) | (with_reducible refine Below.ext_mk ?_ ?_ _ _) | (with_reducible refine Below.alloc ?_ ?_ _) | (with_reducible refine Below.drew ?_) | (with_reducible refine Below.setCell ?_ ?_ _) | go_size)))

/-- Where a name's state is: the first one. -/
def findN : List StP → ByteArray → Nat → Int
  | [], _, _ => -1
  | x :: r, s, k => if x.name.toList = s.toList then (k : Int) else findN r s (k + 1)
theorem findN_at : ∀ (l : List StP) (s : ByteArray) (j k : Nat), (∀ (i : Nat) (x : StP), i < j → l[i]? = some x → x.name.toList ≠ s.toList) → (∃ x, l[j]? = some x ∧ x.name.toList = s.toList) → findN l s k = (k : Int) + (j : Int)
  | [], s, j, k, _, h => by obtain ⟨x, h, _⟩ := h; simp at h
  | y :: r, s, 0, k, _, h => by
    obtain ⟨x, h1, h2⟩ := h
    simp at h1; subst h1
    rw [findN, if_pos h2]; simp
  | y :: r, s, j + 1, k, hno, h => by
    have h0 := hno 0 y (by omega) rfl
    rw [findN, if_neg h0, findN_at r s j (k + 1) (fun i x hi hx => hno (i + 1) x (by omega) (by simpa using hx)) (by simpa using h)]
    push_cast; omega
theorem findN_no : ∀ (l : List StP) (s : ByteArray) (k : Nat), (∀ (i : Nat) (x : StP), l[i]? = some x → x.name.toList ≠ s.toList) → findN l s k = -1
  | [], s, k, _ => rfl
  | y :: r, s, k, hno => by
    have h0 := hno 0 y rfl
    rw [findN, if_neg h0, findN_no r s (k + 1) (fun i x hx => hno (i + 1) x (by simpa using hx))]
theorem findN_le : ∀ (l : List StP) (s : ByteArray) (k : Nat), findN l s k = -1 ∨ (∃ j : Nat, j < l.length ∧ findN l s k = (k : Int) + (j : Int))
  | [], s, k => .inl rfl
  | y :: r, s, k => by
    rw [findN]
    by_cases h : y.name.toList = s.toList
    · rw [if_pos h]; exact .inr ⟨0, by simp, by simp⟩
    · rw [if_neg h]
      rcases findN_le r s (k + 1) with e | ⟨j, hj, e⟩
      · exact .inl e
      · exact .inr ⟨j + 1, by simp; omega, by rw [e]; push_cast; omega⟩

theorem pred_any (s : StP) (c : StC) (nm : ByteArray) (w : World) (b1 b2 : Nat) (z1 : b1 < w.heap.size) (z2 : b2 < w.heap.size)
    (c1 : w.cell? ⟨b1, 0, none⟩ = some (.func (.func 31) #[] #[])) (c2 : w.cell? ⟨b2, 0, none⟩ = some (.string nm)) :
    Calls Try.prog 36 #[stV s c, .pointer (some ⟨b1, 0, none⟩), .pointer (some ⟨b2, 0, none⟩)] w (Pure (.bool (s.name.toList == nm.toList)) w) := by
  have N := fun w => sname_any s c w
  go_enter Try.func36, Try.ntmps36
  go_upto_region 1 with (fail)
  refine wp_region_ext (by kernel_rfl) (by kernel_rfl) (fun F hF => ?_)
  have HF := hid hF; clear hF
  repeat (first
    | (apply text_skip; (focus rfl); simp only [Act.put, List.setIfInBounds_toArray, List.set_cons_zero, List.set_cons_succ])
    | (apply text_val; (focus rfl); (focus (intro _ _; go_simp; with_reducible rfl)); simp only [Act.put, List.setIfInBounds_toArray, List.set_cons_zero, List.set_cons_succ])
    | (apply text_call; (focus rfl); (focus (intro _ _; go_simp; exact ⟨rfl, rfl⟩)); (focus (intro _ _; with_reducible (exact N _))); simp only [Act.put, List.setIfInBounds_toArray, List.set_cons_zero, List.set_cons_succ])
    | (apply text_if; (focus (first | exact wanted_t rfl rfl | exact wanted_f rfl rfl | exact wanted_gt rfl rfl | exact wanted_gf rfl rfl)); (focus (intro hc _ _; (try simp only [Bool.and_eq_true, Bool.not_eq_true', Bool.true_and] at hc); go_simp; with_reducible rfl)); simp only [Act.put, List.setIfInBounds_toArray, List.set_cons_zero, List.set_cons_succ])
    | (apply text_if_call; (focus (first | exact wanted_t rfl rfl | exact wanted_f rfl rfl | exact wanted_gt rfl rfl | exact wanted_gf rfl rfl)); (focus (intro hc _ _; (try simp only [Bool.and_eq_true, Bool.not_eq_true', Bool.true_and] at hc); go_simp; exact ⟨rfl, rfl⟩)); (focus (intro hc _ _; with_reducible (exact N _))); simp only [Act.put, List.setIfInBounds_toArray, List.set_cons_zero, List.set_cons_succ]))
  refine text_nil (HF.out _ (fun mx dx => ?_))
  clear HF F
  go_wp2_with fail
  go_returns
  exact Pure.of rfl (by (repeat' (first | (with_reducible exact Below.refl _ _) | (with_reducible refine Below.ext_mk ?_ ?_ _ _) | (with_reducible refine Below.alloc ?_ ?_ _) | (with_reducible refine Below.drew ?_) | (with_reducible refine Below.setCell ?_ ?_ _) | go_size)))

theorem st_size (s : StP) (c : StC) : (Try.prog.info? 57).map (·.size) = some (stCells s c).length := by
  have h : (Try.prog.info? 57).map (·.size) = some 5 := by kernel_rfl
  exact h
set_option maxRecDepth 100000 in
theorem idxf_any {w : World} {s : SL} {sts : List StP} (h : StsIs w s sts) (nm : ByteArray) (b1 b2 : Nat) (z1 : b1 < w.heap.size) (z2 : b2 < w.heap.size)
    (c1 : w.cell? ⟨b1, 0, none⟩ = some (.func (.func 31) #[] #[])) (c2 : w.cell? ⟨b2, 0, none⟩ = some (.string nm)) :
    Calls Try.prog 35 #[s.v, .func (.func 36) #[] #[.pointer (some ⟨b1, 0, none⟩), .pointer (some ⟨b2, 0, none⟩)]] w (Pure (.int .i64 (findN sts nm 0)) w) := by
  obtain ⟨hl, hc, hm⟩ := h.len
  obtain ⟨sa, sn, sc⟩ := s
  simp only at hl hc hm
  subst hl
  have L := hid h
  clear h
  have N := fun (x : StP) (c : StC) (w' : World) (hb : Below w.heap.size w w') => pred_any x c nm w' b1 b2 (Nat.lt_of_lt_of_le z1 hb.size) (Nat.lt_of_lt_of_le z2 hb.size) ((hb.cell (p := ⟨b1, 0, none⟩) z1).trans c1) ((hb.cell (p := ⟨b2, 0, none⟩) z2).trans c2)
  clear c1 c2
  simp only [SL.v_mk]
  go_enter Try.func35, Try.ntmps35
  go_wp2_with fail
  go_loopw [8] (fun i wr => ∃ j : Nat, j ≤ sts.length ∧ i = .int .i64 j ∧ (∀ (k : Nat) (x : StP), k < j → sts[k]? = some x → x.name.toList ≠ nm.toList) ∧ Below w.heap.size w wr) (fun i _ => sts.length - (intOf i).toNat)
  case atStart => exact ⟨0, by omega, rfl, fun k x hk => by omega, by (repeat' (first | (with_reducible exact Below.refl _ _) | (with_reducible refine Below.ext_mk ?_ ?_ _ _) | (with_reducible refine Below.alloc ?_ ?_ _) | (with_reducible refine Below.drew ?_) | (with_reducible refine Below.setCell ?_ ?_ _) | go_size))⟩
  case round =>
    obtain ⟨j, hj, rfl, hno, hb⟩ := hrel
    have HN := hid hno
    have hbs := hb.size
    clear hno
    by_cases hlt : j < sts.length
    · have hj1 : (j : Int) < (sts.length : Int) := by omega
      have hj0 : (0 : Int) ≤ (j : Int) := by omega
      obtain ⟨x, hx⟩ : ∃ x, sts[j]? = some x := ⟨sts[j], List.getElem?_eq_getElem hlt⟩
      obtain ⟨b, off, c, ha, zb, hok, hcell⟩ := (L.out.below hb).at hx
      simp only at ha
      subst ha
      have d0 := hcell 0 _ rfl
      have d1 := hcell 1 _ rfl
      have d2 := hcell 2 _ rfl
      have d3 := hcell 3 _ rfl
      have d4 := hcell 4 _ rfl
      have HX := hid hx
      clear hx hok hcell
      simp only [Nat.add_zero] at d0
      have M := fun w' hb' => N x c w' hb'
      clear N
      cases hq : (x.name.toList == nm.toList) with
      | true =>
        rw [hq] at M
        go_wp2_with ((with_reducible refine (M _ hb).mono ?_); rintro e w1 ⟨rfl, mz, dz, rfl⟩)
        go_returns
        refine Pure.of ?_ (by (repeat' (first | (with_reducible exact hb) | (with_reducible exact Below.refl _ _) | (with_reducible refine Below.ext_mk ?_ ?_ _ _) | (with_reducible refine Below.alloc ?_ ?_ _) | (with_reducible refine Below.drew ?_) | (with_reducible refine Below.setCell ?_ ?_ _) | go_size)))
        rw [findN_at sts nm j 0 HN.out ⟨x, HX.out, by simpa using hq⟩]
        simp
      | false =>
        rw [hq] at M
        go_wp2_with ((with_reducible refine (M _ hb).mono ?_); rintro e w1 ⟨rfl, mz, dz, rfl⟩)
        go_roundw
        case rel =>
          refine ⟨j + 1, hlt, by go_num, fun k y hk hy => ?_, by (repeat' (first | (with_reducible exact hb) | (with_reducible exact Below.refl _ _) | (with_reducible refine Below.ext_mk ?_ ?_ _ _) | (with_reducible refine Below.alloc ?_ ?_ _) | (with_reducible refine Below.drew ?_) | (with_reducible refine Below.setCell ?_ ?_ _) | go_size))⟩
          rcases Nat.lt_or_ge k j with h' | h'
          · exact HN.out k y h' hy
          · obtain rfl : k = j := by omega
            rw [HX.out] at hy
            cases hy
            simpa using hq
        case measure => simp [intOf]; omega
    · obtain rfl : j = sts.length := by omega
      go_wp2_with fail
      go_returns
      refine Pure.of ?_ (by (repeat' (first | (with_reducible exact hb) | (with_reducible exact Below.refl _ _) | (with_reducible refine Below.ext_mk ?_ ?_ _ _) | (with_reducible refine Below.alloc ?_ ?_ _) | (with_reducible refine Below.drew ?_) | (with_reducible refine Below.setCell ?_ ?_ _) | go_size)))
      rw [findN_no sts nm 0 (fun k x hx => HN.out k x (List.getElem?_eq_some_iff.1 hx).1 hx)]
      rfl

theorem find_any {w : World} {s : SL} {sts : List StP} (h : StsIs w s sts) (nm : ByteArray) :
    Calls Try.prog 30 #[s.v, .string nm, .func (.func 31) #[] #[]] w (Pure (.int .i64 (findN sts nm 0)) w) := by
  have hmf : ∀ (fn : Fn) (first cap : Array Value) (w : World), (Instr.makeFunc fn first cap).run Try.prog w = .ok (.func fn first cap) w := fun _ _ _ _ => rfl
  go_enter Try.func30, Try.ntmps30
  go_upto_region 1 with (fail)
  refine wp_gen (fun V hV => ?_)
  have hbV : Below w.heap.size w V := by rw [hV]; ((repeat' (first | (with_reducible exact Below.refl _ _) | (with_reducible refine Below.ext_mk ?_ ?_ _ _) | (with_reducible refine Below.alloc ?_ ?_ _) | (with_reducible refine Below.drew ?_) | (with_reducible refine Below.setCell ?_ ?_ _) | go_size)))
  have zV0 : w.heap.size < V.heap.size := by rw [hV]; first | (simp; done) | (simp; omega)
  have cV0_0 : V.cell? ⟨w.heap.size, 0, none⟩ = some (.string nm) := by rw [hV]; first | (go_simp; done) | (rw [World.cell?_alloc_past _ _ _ (by first | (simp; done) | (simp; omega))]; go_simp)
  have zV1 : w.heap.size + 1 < V.heap.size := by rw [hV]; first | (simp; done) | (simp; omega)
  have cV1_0 : V.cell? ⟨w.heap.size + 1, 0, none⟩ = some (.func (.func 31) #[] #[]) := by rw [hV]; first | (go_simp; done) | (rw [World.cell?_alloc_past _ _ _ (by first | (simp; done) | (simp; omega))]; go_simp)
  clear hV
  have I := idxf_any (h.below hbV) nm (w.heap.size + 1) w.heap.size zV1 zV0 cV1_0 cV0_0
  go_wp2_with ((with_reducible refine I.mono ?_); rintro e w1 ⟨rfl, mz, dz, rfl⟩)
  go_returns
  exact Pure.of rfl (by (repeat' (first | (with_reducible exact hbV) | (with_reducible exact Below.refl _ _) | (with_reducible refine Below.ext_mk ?_ ?_ _ _) | (with_reducible refine Below.alloc ?_ ?_ _) | (with_reducible refine Below.drew ?_) | (with_reducible refine Below.setCell ?_ ?_ _) | go_size)))

def accL : List UInt8 := [97, 99, 99, 101, 112, 116]
def rejL : List UInt8 := [114, 101, 106, 101, 99, 116]
/-- A name's state. -/
def stateV (sts : List StP) (nm : ByteArray) : Int × Bool :=
  if nm.toList = accL then (-1, true) else if nm.toList = rejL then (-2, true) else (max (findN sts nm 0) 0, decide (0 ≤ findN sts nm 0))
theorem state_any {w : World} {p : PgS} {sts : List StP} (h : StsIs w p.states sts) (nm : ByteArray) :
    Calls Try.prog 19 #[p.v, .string nm] w (Pure (.tuple #[.int .i64 (stateV sts nm).1, .bool (stateV sts nm).2]) w) := by
  have F := fun w' hb => find_any (h.below (w' := w') hb) nm
  have hf := findN_le sts nm 0
  have hlen := h.len
  obtain ⟨s0, s1, s2, s3, s4, s5, s6⟩ := p
  unfold stateV
  generalize findN sts nm 0 = i at *
  simp only at h F hlen
  by_cases ha : nm.toList = accL
  · rw [if_pos ha]
    have ha' : (nm.toList == [97, 99, 99, 101, 112, 116]) = true := by simpa [accL] using ha
    clear ha
    go_enter Try.func19, Try.ntmps19
    go_wp2_with fail
    go_returns
    exact Pure.of rfl (by (repeat' (first | (with_reducible exact Below.refl _ _) | (with_reducible refine Below.ext_mk ?_ ?_ _ _) | (with_reducible refine Below.alloc ?_ ?_ _) | (with_reducible refine Below.drew ?_) | (with_reducible refine Below.setCell ?_ ?_ _) | go_size)))
  · rw [if_neg ha]
    have ha' : (nm.toList == [97, 99, 99, 101, 112, 116]) = false := by simpa [accL] using ha
    clear ha
    by_cases hr : nm.toList = rejL
    · rw [if_pos hr]
      have hr' : (nm.toList == [114, 101, 106, 101, 99, 116]) = true := by simpa [rejL] using hr
      clear hr
      go_enter Try.func19, Try.ntmps19
      go_wp2_with fail
      go_returns
      exact Pure.of rfl (by (repeat' (first | (with_reducible exact Below.refl _ _) | (with_reducible refine Below.ext_mk ?_ ?_ _ _) | (with_reducible refine Below.alloc ?_ ?_ _) | (with_reducible refine Below.drew ?_) | (with_reducible refine Below.setCell ?_ ?_ _) | go_size)))
    · rw [if_neg hr]
      have hr' : (nm.toList == [114, 101, 106, 101, 99, 116]) = false := by simpa [rejL] using hr
      clear hr
      rcases hf with rfl | ⟨j, hj, rfl⟩
      · go_enter Try.func19, Try.ntmps19
        go_wp2_with ((with_reducible refine (F _ (by (repeat' (first | (with_reducible exact Below.refl _ _) | (with_reducible refine Below.ext_mk ?_ ?_ _ _) | (with_reducible refine Below.alloc ?_ ?_ _) | (with_reducible refine Below.drew ?_) | (with_reducible refine Below.setCell ?_ ?_ _) | go_size)))).mono ?_); rintro e w1 ⟨rfl, mz, dz, rfl⟩)
        go_returns
        exact Pure.of rfl (by (repeat' (first | (with_reducible exact Below.refl _ _) | (with_reducible refine Below.ext_mk ?_ ?_ _ _) | (with_reducible refine Below.alloc ?_ ?_ _) | (with_reducible refine Below.drew ?_) | (with_reducible refine Below.setCell ?_ ?_ _) | go_size)))
      · have e1 : ((0 : Nat) : Int) + (j : Int) = (j : Int) := by simp
        rw [e1] at F ⊢
        have e2 : max (j : Int) 0 = (j : Int) := by omega
        have e3 : (0 : Int) ≤ (j : Int) := by omega
        rw [e2]
        go_enter Try.func19, Try.ntmps19
        go_wp2_with ((with_reducible refine (F _ (by (repeat' (first | (with_reducible exact Below.refl _ _) | (with_reducible refine Below.ext_mk ?_ ?_ _ _) | (with_reducible refine Below.alloc ?_ ?_ _) | (with_reducible refine Below.drew ?_) | (with_reducible refine Below.setCell ?_ ?_ _) | go_size)))).mono ?_); rintro e w1 ⟨rfl, mz, dz, rfl⟩)
        go_returns
        refine Pure.of ?_ (by (repeat' (first | (with_reducible exact Below.refl _ _) | (with_reducible refine Below.ext_mk ?_ ?_ _ _) | (with_reducible refine Below.alloc ?_ ?_ _) | (with_reducible refine Below.drew ?_) | (with_reducible refine Below.setCell ?_ ?_ _) | go_size)))
        first | rfl | (simp [e3]; done) | (simp; omega)
end Go.Proofs.Ytidnhnfmbebeaaa
set_option linter.unusedVariables false
set_option linter.unusedSimpArgs false
namespace Go.Proofs.Ytidnhnfmbebeaaa
open Go.RowKit Go.Gr

theorem infoInt_some : (Try.prog.info? 3).isSome = true := by kernel_rfl
noncomputable def infoInt : TypeInfo := (Try.prog.info? 3).get infoInt_some
theorem infoInt_is : Try.prog.info? 3 = some infoInt := (Option.some_get _).symm
theorem infoInt_zero : infoInt.zero = some (.int .i64 0) := by kernel_rfl
theorem infoInt_size : infoInt.size = 1 := by kernel_rfl
theorem infoInt_bytes : infoInt.bytes = 8 := by kernel_rfl
/-- One more number at a row's end. -/
theorem grow_nat {w : World} {sv : Value} {G : Option Nat} {all : List Nat} (h : RowIs w sv G 3 1 all.length (nats all)) (hk : all.length ≤ 1000000) (x : Nat) :
    ∃ v' w1 G', (Builtin.append_ #[33, 33] 33 #[sv, .slice (some ⟨w.heap.size, 0, none⟩) 1 1]).run Try.prog (w.alloc (.cells #[.int .i64 (x : Int)] 3)) = .ok v' w1 ∧
      RowIs w1 v' (some G') 3 1 (all ++ [x]).length (nats (all ++ [x])) ∧ (G = some G' ∨ (w.heap.size ≤ G' ∧ G' < w1.heap.size)) ∧ (∀ k, k < w.heap.size → G ≠ some k → w1.heap[k]? = w.heap[k]?) ∧
      w1.os = w.os ∧ w1.tape = w.tape ∧ w1.output = w.output ∧ w.heap.size ≤ w1.heap.size := by
  have lit : (w.alloc (.cells #[.int .i64 (x : Int)] 3)).heap[w.heap.size]? = some (.cells #[.int .i64 (x : Int)] 3 (0, 0)) := heap_alloc_new w _
  have row : RowIs (w.alloc (.cells #[.int .i64 (x : Int)] 3)) sv G 3 1 all.length (nats all) := RowIs.keep h (fun g' hg => Below.heap_alloc _ _ _ (RowIs.lt h g' hg))
  obtain ⟨v', w1, G', r1, r2, r3, r4⟩ := append_row (P := Try.prog) 33 33 infoInt (.int .i64 0) 8 Try.underlying33 infoInt_is infoInt_zero infoInt_size infoInt_bytes rfl (by omega) row
    ⟨w.heap.size, 0, none⟩ 1 1 [.int .i64 (x : Int)] rfl (fun j u hu => by
      rcases j with _ | j
      · simp at hu; subst hu
        show (w.alloc (.cells #[.int .i64 (x : Int)] 3)).cell? ⟨w.heap.size, 0, none⟩ = _
        simp only [World.cell?]
        rw [lit]; rfl
      · simp at hu) (by simp [Value.oneCell']) (by omega) (by unfold maxLen; omega) (by omega)
  have e2 : (all ++ [x]).length = all.length + 1 := by simp
  rw [← nats_snoc, ← e2] at r2
  refine ⟨v', w1, G', r1, r2, ?_, fun k hk hn => ?_, r3.os, r3.tape, r3.output, by have := r3.size; simp at this; omega⟩
  · rcases r4 with e | ⟨e, e'⟩
    · exact .inl e
    · simp at e; exact .inr ⟨by omega, e'⟩
  · exact (r3.block k (by simp; omega) (fun e => hn e.symm)).trans (Below.heap_alloc _ _ _ hk)

/-- A number's cell. -/
theorem RdS.natAt {w : World} {s : SL} {l : List Nat} (h : RdS w 1 s (nats l)) {j : Nat} (hj : j < l.length) :
    ∃ b off, s.a = some ⟨b, off, none⟩ ∧ b < w.heap.size ∧ w.cell? ⟨b, off + j, none⟩ = some (.int .i64 (l[j] : Int)) := by
  obtain ⟨b, off, e1, e2, _, e3⟩ := h.one (nats_at (List.getElem?_eq_getElem hj))
  exact ⟨b, off, e1, e2, e3⟩

/-- Where a number is: not below 0, if it is there. -/
theorem index_any {w : World} {s : SL} {l : List Nat} (h : RdS w 1 s (nats l)) (x : Nat) :
    Calls Try.prog 32 #[s.v, .int .i64 (x : Int)] w (fun e w' => ∃ n : Int, (0 ≤ n ↔ x ∈ l) ∧ Pure (.int .i64 n) w e w') := by
  have hl := h.nat
  have hc := h.1
  have hm := h.2.1
  obtain ⟨sa, sn, sc⟩ := s
  simp only at hl hc hm
  subst hl
  have L := hid h
  clear h
  simp only [SL.v_mk]
  go_enter Try.func32, Try.ntmps32
  go_wp2_with fail
  go_loopw [8] (fun i wr => ∃ j : Nat, j ≤ l.length ∧ i = .int .i64 j ∧ x ∉ l.take j ∧ Below w.heap.size w wr) (fun i _ => l.length - (intOf i).toNat)
  case atStart => exact ⟨0, by omega, rfl, by simp, by (repeat' (first | (with_reducible exact Below.refl _ _) | (with_reducible refine Below.ext_mk ?_ ?_ _ _) | (with_reducible refine Below.alloc ?_ ?_ _) | (with_reducible refine Below.drew ?_) | (with_reducible refine Below.setCell ?_ ?_ _) | go_size))⟩
  case round =>
    obtain ⟨j, hj, rfl, hno, hb⟩ := hrel
    have HN := hid hno
    have hbs := hb.size
    clear hno
    by_cases hlt : j < l.length
    · have hj1 : (j : Int) < (l.length : Int) := by omega
      obtain ⟨b, off, ha, zb, hcell⟩ := RdS.natAt (L.out.below hb) hlt
      simp only at ha
      subst ha
      obtain ⟨y, hy⟩ : ∃ y, l[j] = y := ⟨_, rfl⟩
      rw [hy] at hcell
      have HY := hid hy
      clear hy
      by_cases hxy : x = y
      · subst hxy
        go_wp2_with fail
        go_returns
        refine ⟨(j : Int), ⟨fun _ => ?_, fun _ => by omega⟩, Pure.of rfl (by (repeat' (first | (with_reducible exact hb) | (with_reducible exact Below.refl _ _) | (with_reducible refine Below.ext_mk ?_ ?_ _ _) | (with_reducible refine Below.alloc ?_ ?_ _) | (with_reducible refine Below.drew ?_) | (with_reducible refine Below.setCell ?_ ?_ _) | go_size)))⟩
        rw [← HY.out]; exact List.getElem_mem _
      · have hne : ((x : Int) == (y : Int)) = false := by simp; omega
        have HX := hid hxy
        clear hxy
        go_wp2_with fail
        go_roundw
        case rel =>
          refine ⟨j + 1, hlt, by go_num, ?_, by (repeat' (first | (with_reducible exact hb) | (with_reducible exact Below.refl _ _) | (with_reducible refine Below.ext_mk ?_ ?_ _ _) | (with_reducible refine Below.alloc ?_ ?_ _) | (with_reducible refine Below.drew ?_) | (with_reducible refine Below.setCell ?_ ?_ _) | go_size))⟩
          rw [List.take_add_one, List.getElem?_eq_getElem hlt, HY.out]
          simp only [Option.toList_some, List.mem_append, List.mem_singleton, not_or]
          exact ⟨HN.out, HX.out⟩
        case measure => simp [intOf]; omega
    · obtain rfl : j = l.length := by omega
      go_wp2_with fail
      go_returns
      refine ⟨-1, ⟨fun h => by omega, fun h => ?_⟩, Pure.of rfl (by (repeat' (first | (with_reducible exact hb) | (with_reducible exact Below.refl _ _) | (with_reducible refine Below.ext_mk ?_ ?_ _ _) | (with_reducible refine Below.alloc ?_ ?_ _) | (with_reducible refine Below.drew ?_) | (with_reducible refine Below.setCell ?_ ?_ _) | go_size)))⟩
      rw [List.take_length] at HN
      exact (HN.out h).elim

theorem contains_any {w : World} {s : SL} {l : List Nat} (h : RdS w 1 s (nats l)) (x : Nat) :
    Calls Try.prog 20 #[s.v, .int .i64 (x : Int)] w (Pure (.bool (decide (x ∈ l))) w) := by
  have I := index_any h x
  clear h
  go_enter Try.func20, Try.ntmps20
  go_wp2_with ((with_reducible refine I.mono ?_); rintro e w1 ⟨n, hn, rfl, m, d, rfl⟩)
  go_returns
  refine Pure.of ?_ (by (repeat' (first | (with_reducible exact Below.refl _ _) | (with_reducible refine Below.ext_mk ?_ ?_ _ _) | (with_reducible refine Below.alloc ?_ ?_ _) | (with_reducible refine Below.drew ?_) | (with_reducible refine Below.setCell ?_ ?_ _) | go_size)))
  simp only [← hn]
  rfl
end Go.Proofs.Ytidnhnfmbebeaaa
