/-
  Package frozen: Write, over a live store and over none.
-/
import Derived.Test.YtboekafmplomhaaZFzWr
import Derived.Test.YtboekafmplomhaaZFzIso
import Derived.Test.YtboekafmplomhaaZTidyN
set_option linter.unusedVariables false
set_option linter.unusedSimpArgs false
namespace Go.Proofs.Ytboekafmplomhaa
open Go.RowKit

theorem pigeon : ∀ (m n : Nat) (f : Nat → Nat), (∀ i, i < n → f i < m) → (∀ i j, i < n → j < n → f i = f j → i = j) → n ≤ m
  | 0, 0, _, _, _ => Nat.le_refl _
  | 0, n + 1, f, h, _ => absurd (h 0 (by omega)) (by omega)
  | m + 1, 0, _, _, _ => Nat.zero_le _
  | m + 1, n + 1, f, h, inj => by
    have := pigeon m n (fun i => if f i = m then f n else f i) (fun i hi => by
      have h1 := h i (by omega)
      have h2 := h n (by omega)
      by_cases e : f i = m
      · simp only [e, if_true]
        by_cases e2 : f n = m
        · have := inj i n (by omega) (by omega) (by rw [e, e2])
          omega
        · omega
      · simp only [e, if_false]
        omega) (fun i j hi hj e => by
      by_cases e1 : f i = m
      · by_cases e2 : f j = m
        · exact inj i j (by omega) (by omega) (by rw [e1, e2])
        · simp only [e1, e2, if_true, if_false] at e
          have := inj n j (by omega) (by omega) e
          omega
      · by_cases e2 : f j = m
        · simp only [e1, e2, if_true, if_false] at e
          have := inj i n (by omega) (by omega) e
          omega
        · simp only [e1, e2, if_false] at e
          exact inj i j (by omega) (by omega) e)
    omega

section
variable {S : Sto}
theorem atV_lo (hW : Wf S) (a : Int) (ha : (atV S a).2 = true) : (rightOf S (atV S a).1.2.1).toNat < (rightOf S a).toNat := (src_live hW 0 []).lo a ha
theorem atV_hi (hW : Wf S) (a : Int) (ha : (atV S a).2 = true) : (rightOf S (atV S a).1.2.2).toNat < (rightOf S a).toNat := (src_live hW 0 []).hi a ha
theorem rightOf_lt (S : Sto) (a : Int) : (rightOf S a).toNat < S.nodes.length + 2 := by unfold rightOf; split <;> omega
def ordS (S : Sto) (l : List Int) : List Nd × List Int := ordL (atV S) (S.nodes.length + 2) [(1, 1)] [] [] l
def ordSK (S : Sto) (l : List Int) : List (Int × Int) := ordK (atV S) (S.nodes.length + 2) [(1, 1)] [] l
theorem ordS_inv (hW : Wf S) (l : List Int) :
    OrdInv (atV S) (fun _ => True) (ordSK S l) (ordS S l).1 ∧ (∀ a ∈ l, Kn (atV S) (ordSK S l) a) ∧ (ordS S l).2 = l.map (numK (ordSK S l)) := by
  obtain ⟨h1, _, h3, h4⟩ := ordL_inv (rk := fun a => (rightOf S a).toNat) (fun a _ ha => ⟨atV_lo hW a ha, trivial⟩) (fun a _ ha => ⟨atV_hi hW a ha, trivial⟩) (S.nodes.length + 2) l [(1, 1)] [] [] (fun a _ => ⟨trivial, rightOf_lt S a⟩) (OrdInv.start _ _)
  refine ⟨h1, h3, ?_⟩
  unfold ordS ordSK
  rw [h4, List.nil_append]
theorem ordS_len (hW : Wf S) (l : List Int) : (ordS S l).1.length ≤ S.nodes.length := by
  obtain ⟨h, _, _⟩ := ordS_inv hW l
  generalize ordSK S l = K at h
  generalize (ordS S l).1 = ns at *
  have key : ∀ i : Nat, i < ns.length → ∃ k : Nat, k < S.nodes.length ∧ aget K ((k : Int) + 2) = some ((i : Int) + 2) := fun i hi => by
    obtain ⟨a, ha⟩ := h.all i hi
    rcases h.num a _ ha with ⟨_, e⟩ | ⟨_, _, ht, _⟩
    · omega
    · obtain ⟨k, n, rfl, hn, _⟩ := atV_yes ht
      exact ⟨k, (List.getElem?_eq_some_iff.1 hn).1, ha⟩
  refine pigeon S.nodes.length ns.length (fun i => if hi : i < ns.length then (key i hi).choose else 0) (fun i hi => ?_) (fun i j hi hj e => ?_)
  · simp only [hi, dite_true]
    exact (key i hi).choose_spec.1
  · simp only [hi, hj, dite_true] at e
    have h1 := (key i hi).choose_spec.2
    have h2 := (key j hj).choose_spec.2
    rw [e] at h1
    rw [h1] at h2
    injection h2 with h2
    omega
theorem ordS_wrt (hW : Wf S) {l : List Int} (hl : l.length ≤ 1000) : Wrt (ordS S l).1 (ordS S l).2 := by
  obtain ⟨h, _, h3⟩ := ordS_inv hW l
  have hn := ordS_len hW l
  have h4 := hW.len
  have h5 := hW.cap
  refine ⟨by omega, by rw [h3]; simpa using hl, fun x hx => ?_, fun r hr => ?_⟩
  · obtain ⟨i, hi, rfl⟩ := List.getElem_of_mem hx
    obtain ⟨a, ha⟩ := h.all i hi
    rcases h.num a _ ha with ⟨_, e⟩ | ⟨_, _, ht, _, _, hat, _⟩
    · omega
    · obtain ⟨k, n, rfl, hnk, hv, _⟩ := atV_yes ht
      have hok := hW.node k n hnk
      have e1 : (((i : Int) + 2) - 2).toNat = i := by omega
      rw [e1, List.getElem?_eq_getElem hi] at hat
      injection hat with hat
      rw [hat, hv]
      have n1 := numK_le h n.2.1
      have n2 := numK_le h n.2.2
      have := hok.v0
      have := hok.v64
      refine ⟨by simpa using hok.v0, by simpa using hok.v64, n1.1, ?_, n2.1, ?_⟩
      · show numK (ordSK S l) n.2.1 ≤ 2000000
        omega
      · show numK (ordSK S l) n.2.2 ≤ 2000000
        omega
  · rw [h3] at hr
    obtain ⟨a, _, rfl⟩ := List.mem_map.1 hr
    have n1 := numK_le h a
    omega
theorem at_live (hW : Wf S) (p : Nat) (F : List Nat) : AtSrc 21 #[.pointer (some ⟨p, 0, none⟩)] #[] F (fun w => StoIs w p F S) (atV S) (fun a => (rightOf S a).toNat) (fun _ => True) where
  keep w w' h hk := h.keep hk
  lt w h := h.lt
  enter args w := by simp [go_sem]
  call w h a _ := at_call h hW a
  lo a _ ha := ⟨atV_lo hW a ha, trivial⟩
  hi a _ ha := ⟨atV_hi hW a ha, trivial⟩
set_option maxRecDepth 100000 in
set_option maxHeartbeats 4000000 in
theorem write_live {w : World} {p : Nat} {F : List Nat} (h : StoIs w p F S) (hW : Wf S) (hs : Sated S) {sv : Value} {l : List Int} (hl : Rd w 1 sv (ints l)) (h64 : l.length ≤ 64) :
    Calls Try.prog 71 #[.pointer (some ⟨p, 0, none⟩), sv] w
      (fun e w' => ∃ v, e = .returned (.tuple #[v, .int .i64 0]) ∧ OwnB w.heap.size w' v (writeB (ordS S l).1 (ordS S l).2) ∧ Below w.heap.size w w') := by
  have hmf : ∀ (fn : Fn) (first cap : Array Value) (w : World), (Instr.makeFunc fn first cap).run Try.prog w = .ok (.func fn first cap) w := fun _ _ _ _ => rfl
  have hc : S.cap ≠ 0 := by have := hW.cap2; omega
  obtain ⟨la, lc, rfl, hlc, hlm⟩ := hl.len
  have hWr := ordS_wrt hW (l := l) (by omega)
  have FU := fun W (hb : Below w.heap.size w W) => full_any (h.below hb) hc
  have LE := fun W (hb : Below w.heap.size w W) => len_any (h.below hb) hc
  have hz : S.full = true → ((S.nodes.length : Int) == 0) = false := fun hf => by
    have h1 := hs hf
    have h2 := hW.cap2
    exact beq_eq_false_iff_ne.2 (by omega)
  have OR := fun W (hb : Below w.heap.size w W) => order_any (at_live hW p F) (av := .func (.func 21) #[.pointer (some ⟨p, 0, none⟩)] #[]) rfl (h.below hb) (hl.below hb) (by omega) (S.nodes.length + 2) (fun a _ => ⟨rightOf_lt S a, trivial⟩) (by
    have h1 := ordS_len hW l
    have h2 := hW.len
    have h3 := hW.cap
    unfold ordS at h1
    omega)
  have OR := hid OR
  have hW' := hid hWr
  have hll : ¬ (64 : Int) < (l.length : Int) := by omega
  show Calls Try.prog _ _ _ (fun e w' => ∃ v, e = .returned (.tuple #[v, .int .i64 0]) ∧ OwnB w.heap.size w' v (writeB (ordL (atV S) (S.nodes.length + 2) [(1, 1)] [] [] l).1 (ordL (atV S) (S.nodes.length + 2) [(1, 1)] [] [] l).2) ∧ Below w.heap.size w w')
  unfold ordS at hW'
  generalize ordL (atV S) (S.nodes.length + 2) [(1, 1)] [] [] l = O at OR hW' ⊢
  obtain ⟨ns, rs⟩ := O
  simp only at OR hW' ⊢
  generalize (S.nodes.length : Int) = nl at *
  generalize S.full = fu at *
  clear h hl hWr hs hW
  go_enter Try.func71, Try.ntmps71
  cases fu
  · clear hz LE
    go_upto_region 1 with (fail)
    refine wp_region_seq (fun F hF => ?_)
    have HF := hid hF; clear hF
    repeat (first
      | (apply text_skip; (focus rfl); simp only [Act.put, List.setIfInBounds_toArray, List.set_cons_zero, List.set_cons_succ])
      | (apply text_val; (focus rfl); (focus (intro _ _; go_simp; with_reducible rfl)); simp only [Act.put, List.setIfInBounds_toArray, List.set_cons_zero, List.set_cons_succ])
      | (apply text_call; (focus rfl); (focus (intro _ _; go_simp; exact ⟨rfl, rfl⟩)); (focus (intro _ _; with_reducible (first | exact FU _ (by (repeat' (first | (with_reducible exact Below.refl _ _) | (with_reducible refine Below.ext_mk ?_ ?_ _ _) | (with_reducible refine Below.alloc ?_ ?_ _) | (with_reducible refine Below.drew ?_) | (with_reducible refine Below.setCell ?_ ?_ _) | go_size)))))); simp only [Act.put, List.setIfInBounds_toArray, List.set_cons_zero, List.set_cons_succ])
      | (apply text_if; (focus (first | exact wanted_t rfl rfl | exact wanted_f rfl rfl | exact wanted_gt rfl rfl | exact wanted_gf rfl rfl)); (focus (intro hc _ _; (try simp only [Bool.and_eq_true, Bool.not_eq_true', Bool.true_and] at hc); go_simp; with_reducible rfl)); simp only [Act.put, List.setIfInBounds_toArray, List.set_cons_zero, List.set_cons_succ])
      | (apply text_if_call; (focus (first | exact wanted_t rfl rfl | exact wanted_f rfl rfl | exact wanted_gt rfl rfl | exact wanted_gf rfl rfl)); (focus (intro hc _ _; (try simp only [Bool.and_eq_true, Bool.not_eq_true', Bool.true_and] at hc); go_simp; exact ⟨rfl, rfl⟩)); (focus (intro hc _ _; with_reducible (first | exact FU _ (by (repeat' (first | (with_reducible exact Below.refl _ _) | (with_reducible refine Below.ext_mk ?_ ?_ _ _) | (with_reducible refine Below.alloc ?_ ?_ _) | (with_reducible refine Below.drew ?_) | (with_reducible refine Below.setCell ?_ ?_ _) | go_size)))))); simp only [Act.put, List.setIfInBounds_toArray, List.set_cons_zero, List.set_cons_succ]))
    refine text_nil (HF.out _ (fun mx dx => ?_))
    clear HF F
    clear FU
    go_upto_region 5 with (fail)
    refine wp_gen (fun U hU => ?_)
    have hbU : Below w.heap.size w U := by rw [hU]; (repeat' (first | (with_reducible exact Below.refl _ _) | (with_reducible refine Below.ext_mk ?_ ?_ _ _) | (with_reducible refine Below.alloc ?_ ?_ _) | (with_reducible refine Below.drew ?_) | (with_reducible refine Below.setCell ?_ ?_ _) | go_size))
    have C1 := hid (OR.out U hbU)
    have HBU := hid hbU
    clear hU hbU OR
    refine wp_region_doc (fun F' hF => ?_)
    have HF := hid hF
    clear hF
    iterate 3 (refine doc_val rfl (by first | (go_simp; done) | (go_simp; exact ⟨rfl, rfl⟩) | (go_simp; with_reducible rfl)) ?_; simp only [Act.put, List.setIfInBounds_toArray, List.set_cons_zero, List.set_cons_succ])
    refine doc_call rfl (by first | (go_simp; done) | (go_simp; exact ⟨rfl, rfl⟩) | (go_simp; with_reducible rfl)) ((C1.out).mono ?_)
    rintro _ w2 ⟨s1, s2, rfl, r1, r2, r3⟩
    refine ⟨_, rfl, ?_⟩
    simp only [Act.put, List.setIfInBounds_toArray, List.set_cons_zero, List.set_cons_succ]
    iterate 2 (refine doc_val rfl (by first | (go_simp; done) | (go_simp; exact ⟨rfl, rfl⟩) | (go_simp; with_reducible rfl)) ?_; simp only [Act.put, List.setIfInBounds_toArray, List.set_cons_zero, List.set_cons_succ])
    have C2 := hid (written_any r1 r2 hW'.out)
    have HB2 := hid (HBU.out.trans (r3.mono HBU.out.size))
    clear r1 r2 r3 C1
    refine doc_call rfl (by first | (go_simp; done) | (go_simp; exact ⟨rfl, rfl⟩) | (go_simp; with_reducible rfl)) ((C2.out).mono ?_)
    rintro _ w3 ⟨v, rfl, r1, r2⟩
    refine ⟨_, rfl, ?_⟩
    simp only [Act.put, List.setIfInBounds_toArray, List.set_cons_zero, List.set_cons_succ]
    iterate 2 (refine doc_val rfl (by first | (go_simp; done) | (go_simp; exact ⟨rfl, rfl⟩) | (go_simp; with_reducible rfl)) ?_; simp only [Act.put, List.setIfInBounds_toArray, List.set_cons_zero, List.set_cons_succ])
    refine doc_end (HF.out _ _ ?_)
    clear HF F' C2
    go_wp2_with fail
    go_returns
    exact ⟨v, rfl, r1.mono HB2.out.size, HB2.out.trans (r2.mono HB2.out.size)⟩
  · have hz := hz rfl
    go_upto_region 1 with (fail)
    refine wp_region_seq (fun F hF => ?_)
    have HF := hid hF; clear hF
    repeat (first
      | (apply text_skip; (focus rfl); simp only [Act.put, List.setIfInBounds_toArray, List.set_cons_zero, List.set_cons_succ])
      | (apply text_val; (focus rfl); (focus (intro _ _; go_simp; with_reducible rfl)); simp only [Act.put, List.setIfInBounds_toArray, List.set_cons_zero, List.set_cons_succ])
      | (apply text_call; (focus rfl); (focus (intro _ _; go_simp; exact ⟨rfl, rfl⟩)); (focus (intro _ _; with_reducible (first | exact FU _ (by (repeat' (first | (with_reducible exact Below.refl _ _) | (with_reducible refine Below.ext_mk ?_ ?_ _ _) | (with_reducible refine Below.alloc ?_ ?_ _) | (with_reducible refine Below.drew ?_) | (with_reducible refine Below.setCell ?_ ?_ _) | go_size))) | exact LE _ (by (repeat' (first | (with_reducible exact Below.refl _ _) | (with_reducible refine Below.ext_mk ?_ ?_ _ _) | (with_reducible refine Below.alloc ?_ ?_ _) | (with_reducible refine Below.drew ?_) | (with_reducible refine Below.setCell ?_ ?_ _) | go_size)))))); simp only [Act.put, List.setIfInBounds_toArray, List.set_cons_zero, List.set_cons_succ])
      | (apply text_if; (focus (first | exact wanted_t rfl rfl | exact wanted_f rfl rfl | exact wanted_gt rfl rfl | exact wanted_gf rfl rfl)); (focus (intro hc _ _; (try simp only [Bool.and_eq_true, Bool.not_eq_true', Bool.true_and] at hc); go_simp; with_reducible rfl)); simp only [Act.put, List.setIfInBounds_toArray, List.set_cons_zero, List.set_cons_succ])
      | (apply text_if_call; (focus (first | exact wanted_t rfl rfl | exact wanted_f rfl rfl | exact wanted_gt rfl rfl | exact wanted_gf rfl rfl)); (focus (intro hc _ _; (try simp only [Bool.and_eq_true, Bool.not_eq_true', Bool.true_and] at hc); go_simp; exact ⟨rfl, rfl⟩)); (focus (intro hc _ _; with_reducible (first | exact FU _ (by (repeat' (first | (with_reducible exact Below.refl _ _) | (with_reducible refine Below.ext_mk ?_ ?_ _ _) | (with_reducible refine Below.alloc ?_ ?_ _) | (with_reducible refine Below.drew ?_) | (with_reducible refine Below.setCell ?_ ?_ _) | go_size))) | exact LE _ (by (repeat' (first | (with_reducible exact Below.refl _ _) | (with_reducible refine Below.ext_mk ?_ ?_ _ _) | (with_reducible refine Below.alloc ?_ ?_ _) | (with_reducible refine Below.drew ?_) | (with_reducible refine Below.setCell ?_ ?_ _) | go_size)))))); simp only [Act.put, List.setIfInBounds_toArray, List.set_cons_zero, List.set_cons_succ]))
    refine text_nil (HF.out _ (fun mx dx => ?_))
    clear HF F
    clear FU LE hz
    go_upto_region 5 with (fail)
    refine wp_gen (fun U hU => ?_)
    have hbU : Below w.heap.size w U := by rw [hU]; (repeat' (first | (with_reducible exact Below.refl _ _) | (with_reducible refine Below.ext_mk ?_ ?_ _ _) | (with_reducible refine Below.alloc ?_ ?_ _) | (with_reducible refine Below.drew ?_) | (with_reducible refine Below.setCell ?_ ?_ _) | go_size))
    have C1 := hid (OR.out U hbU)
    have HBU := hid hbU
    clear hU hbU OR
    refine wp_region_doc (fun F' hF => ?_)
    have HF := hid hF
    clear hF
    iterate 3 (refine doc_val rfl (by first | (go_simp; done) | (go_simp; exact ⟨rfl, rfl⟩) | (go_simp; with_reducible rfl)) ?_; simp only [Act.put, List.setIfInBounds_toArray, List.set_cons_zero, List.set_cons_succ])
    refine doc_call rfl (by first | (go_simp; done) | (go_simp; exact ⟨rfl, rfl⟩) | (go_simp; with_reducible rfl)) ((C1.out).mono ?_)
    rintro _ w2 ⟨s1, s2, rfl, r1, r2, r3⟩
    refine ⟨_, rfl, ?_⟩
    simp only [Act.put, List.setIfInBounds_toArray, List.set_cons_zero, List.set_cons_succ]
    iterate 2 (refine doc_val rfl (by first | (go_simp; done) | (go_simp; exact ⟨rfl, rfl⟩) | (go_simp; with_reducible rfl)) ?_; simp only [Act.put, List.setIfInBounds_toArray, List.set_cons_zero, List.set_cons_succ])
    have C2 := hid (written_any r1 r2 hW'.out)
    have HB2 := hid (HBU.out.trans (r3.mono HBU.out.size))
    clear r1 r2 r3 C1
    refine doc_call rfl (by first | (go_simp; done) | (go_simp; exact ⟨rfl, rfl⟩) | (go_simp; with_reducible rfl)) ((C2.out).mono ?_)
    rintro _ w3 ⟨v, rfl, r1, r2⟩
    refine ⟨_, rfl, ?_⟩
    simp only [Act.put, List.setIfInBounds_toArray, List.set_cons_zero, List.set_cons_succ]
    iterate 2 (refine doc_val rfl (by first | (go_simp; done) | (go_simp; exact ⟨rfl, rfl⟩) | (go_simp; with_reducible rfl)) ?_; simp only [Act.put, List.setIfInBounds_toArray, List.set_cons_zero, List.set_cons_succ])
    refine doc_end (HF.out _ _ ?_)
    clear HF F' C2
    go_wp2_with fail
    go_returns
    exact ⟨v, rfl, r1.mono HB2.out.size, HB2.out.trans (r2.mono HB2.out.size)⟩

end
end Go.Proofs.Ytboekafmplomhaa
namespace Go.Proofs.Ytboekafmplomhaa
open Go.RowKit
set_option maxHeartbeats 4000000 in
theorem write_no {w : World} {q : Option Addr} (h : NoSto w q) (sv : Value) : Calls Try.prog 71 #[.pointer q, sv] w (Pure (.tuple #[.slice none 0 0, .int .i64 1]) w) := by
  have FU := fun W (hb : Below w.heap.size w W) => full_no (h.below hb)
  have LE := fun W (hb : Below w.heap.size w W) => len_no (h.below hb)
  clear h
  go_enter Try.func71, Try.ntmps71
  go_upto_region 1 with (fail)
  refine wp_region_seq (fun F hF => ?_)
  have HF := hid hF; clear hF
  repeat (first
    | (apply text_skip; (focus rfl); simp only [Act.put, List.setIfInBounds_toArray, List.set_cons_zero, List.set_cons_succ])
    | (apply text_val; (focus rfl); (focus (intro _ _; go_simp; with_reducible rfl)); simp only [Act.put, List.setIfInBounds_toArray, List.set_cons_zero, List.set_cons_succ])
    | (apply text_call; (focus rfl); (focus (intro _ _; go_simp; exact ⟨rfl, rfl⟩)); (focus (intro _ _; with_reducible (first | exact FU _ (by (repeat' (first | (with_reducible exact Below.refl _ _) | (with_reducible refine Below.ext_mk ?_ ?_ _ _) | (with_reducible refine Below.alloc ?_ ?_ _) | (with_reducible refine Below.drew ?_) | (with_reducible refine Below.setCell ?_ ?_ _) | go_size))) | exact LE _ (by (repeat' (first | (with_reducible exact Below.refl _ _) | (with_reducible refine Below.ext_mk ?_ ?_ _ _) | (with_reducible refine Below.alloc ?_ ?_ _) | (with_reducible refine Below.drew ?_) | (with_reducible refine Below.setCell ?_ ?_ _) | go_size)))))); simp only [Act.put, List.setIfInBounds_toArray, List.set_cons_zero, List.set_cons_succ])
    | (apply text_if; (focus (first | exact wanted_t rfl rfl | exact wanted_f rfl rfl | exact wanted_gt rfl rfl | exact wanted_gf rfl rfl)); (focus (intro hc _ _; (try simp only [Bool.and_eq_true, Bool.not_eq_true', Bool.true_and] at hc); go_simp; with_reducible rfl)); simp only [Act.put, List.setIfInBounds_toArray, List.set_cons_zero, List.set_cons_succ])
    | (apply text_if_call; (focus (first | exact wanted_t rfl rfl | exact wanted_f rfl rfl | exact wanted_gt rfl rfl | exact wanted_gf rfl rfl)); (focus (intro hc _ _; (try simp only [Bool.and_eq_true, Bool.not_eq_true', Bool.true_and] at hc); go_simp; exact ⟨rfl, rfl⟩)); (focus (intro hc _ _; with_reducible (first | exact FU _ (by (repeat' (first | (with_reducible exact Below.refl _ _) | (with_reducible refine Below.ext_mk ?_ ?_ _ _) | (with_reducible refine Below.alloc ?_ ?_ _) | (with_reducible refine Below.drew ?_) | (with_reducible refine Below.setCell ?_ ?_ _) | go_size))) | exact LE _ (by (repeat' (first | (with_reducible exact Below.refl _ _) | (with_reducible refine Below.ext_mk ?_ ?_ _ _) | (with_reducible refine Below.alloc ?_ ?_ _) | (with_reducible refine Below.drew ?_) | (with_reducible refine Below.setCell ?_ ?_ _) | go_size)))))); simp only [Act.put, List.setIfInBounds_toArray, List.set_cons_zero, List.set_cons_succ]))
  refine text_nil (HF.out _ (fun mx dx => ?_))
  clear HF F
  go_wp2
  go_returns
  exact Pure.of rfl (by (repeat' (first | (with_reducible exact Below.refl _ _) | (with_reducible refine Below.ext_mk ?_ ?_ _ _) | (with_reducible refine Below.alloc ?_ ?_ _) | (with_reducible refine Below.drew ?_) | (with_reducible refine Below.setCell ?_ ?_ _) | go_size)))
set_option maxHeartbeats 4000000 in
theorem write_over {S : Sto} {w : World} {p : Nat} {F : List Nat} (h : StoIs w p F S) (hW : Wf S) (hs : Sated S) {a : Option Addr} {n c : Nat} (h64 : 64 < n) :
    Calls Try.prog 71 #[.pointer (some ⟨p, 0, none⟩), .slice a n c] w (Pure (.tuple #[.slice none 0 0, .int .i64 5]) w) := by
  have hc : S.cap ≠ 0 := by have := hW.cap2; omega
  have FU := fun W (hb : Below w.heap.size w W) => full_any (h.below hb) hc
  have LE := fun W (hb : Below w.heap.size w W) => len_any (h.below hb) hc
  have hz : S.full = true → ((S.nodes.length : Int) == 0) = false := fun hf => by
    have h1 := hs hf
    have h2 := hW.cap2
    exact beq_eq_false_iff_ne.2 (by omega)
  have hll : (64 : Int) < (n : Int) := by omega
  generalize (S.nodes.length : Int) = nl at *
  generalize S.full = fu at *
  clear h hs hW
  go_enter Try.func71, Try.ntmps71
  cases fu
  · clear hz LE
    go_upto_region 1 with (fail)
    refine wp_region_seq (fun F hF => ?_)
    have HF := hid hF; clear hF
    repeat (first
      | (apply text_skip; (focus rfl); simp only [Act.put, List.setIfInBounds_toArray, List.set_cons_zero, List.set_cons_succ])
      | (apply text_val; (focus rfl); (focus (intro _ _; go_simp; with_reducible rfl)); simp only [Act.put, List.setIfInBounds_toArray, List.set_cons_zero, List.set_cons_succ])
      | (apply text_call; (focus rfl); (focus (intro _ _; go_simp; exact ⟨rfl, rfl⟩)); (focus (intro _ _; with_reducible (first | exact FU _ (by (repeat' (first | (with_reducible exact Below.refl _ _) | (with_reducible refine Below.ext_mk ?_ ?_ _ _) | (with_reducible refine Below.alloc ?_ ?_ _) | (with_reducible refine Below.drew ?_) | (with_reducible refine Below.setCell ?_ ?_ _) | go_size)))))); simp only [Act.put, List.setIfInBounds_toArray, List.set_cons_zero, List.set_cons_succ])
      | (apply text_if; (focus (first | exact wanted_t rfl rfl | exact wanted_f rfl rfl | exact wanted_gt rfl rfl | exact wanted_gf rfl rfl)); (focus (intro hc _ _; (try simp only [Bool.and_eq_true, Bool.not_eq_true', Bool.true_and] at hc); go_simp; with_reducible rfl)); simp only [Act.put, List.setIfInBounds_toArray, List.set_cons_zero, List.set_cons_succ])
      | (apply text_if_call; (focus (first | exact wanted_t rfl rfl | exact wanted_f rfl rfl | exact wanted_gt rfl rfl | exact wanted_gf rfl rfl)); (focus (intro hc _ _; (try simp only [Bool.and_eq_true, Bool.not_eq_true', Bool.true_and] at hc); go_simp; exact ⟨rfl, rfl⟩)); (focus (intro hc _ _; with_reducible (first | exact FU _ (by (repeat' (first | (with_reducible exact Below.refl _ _) | (with_reducible refine Below.ext_mk ?_ ?_ _ _) | (with_reducible refine Below.alloc ?_ ?_ _) | (with_reducible refine Below.drew ?_) | (with_reducible refine Below.setCell ?_ ?_ _) | go_size)))))); simp only [Act.put, List.setIfInBounds_toArray, List.set_cons_zero, List.set_cons_succ]))
    refine text_nil (HF.out _ (fun mx dx => ?_))
    clear HF F
    clear FU
    go_wp2
    go_returns
    exact Pure.of rfl (by (repeat' (first | (with_reducible exact Below.refl _ _) | (with_reducible refine Below.ext_mk ?_ ?_ _ _) | (with_reducible refine Below.alloc ?_ ?_ _) | (with_reducible refine Below.drew ?_) | (with_reducible refine Below.setCell ?_ ?_ _) | go_size)))
  · have hz := hz rfl
    go_upto_region 1 with (fail)
    refine wp_region_seq (fun F hF => ?_)
    have HF := hid hF; clear hF
    repeat (first
      | (apply text_skip; (focus rfl); simp only [Act.put, List.setIfInBounds_toArray, List.set_cons_zero, List.set_cons_succ])
      | (apply text_val; (focus rfl); (focus (intro _ _; go_simp; with_reducible rfl)); simp only [Act.put, List.setIfInBounds_toArray, List.set_cons_zero, List.set_cons_succ])
      | (apply text_call; (focus rfl); (focus (intro _ _; go_simp; exact ⟨rfl, rfl⟩)); (focus (intro _ _; with_reducible (first | exact FU _ (by (repeat' (first | (with_reducible exact Below.refl _ _) | (with_reducible refine Below.ext_mk ?_ ?_ _ _) | (with_reducible refine Below.alloc ?_ ?_ _) | (with_reducible refine Below.drew ?_) | (with_reducible refine Below.setCell ?_ ?_ _) | go_size))) | exact LE _ (by (repeat' (first | (with_reducible exact Below.refl _ _) | (with_reducible refine Below.ext_mk ?_ ?_ _ _) | (with_reducible refine Below.alloc ?_ ?_ _) | (with_reducible refine Below.drew ?_) | (with_reducible refine Below.setCell ?_ ?_ _) | go_size)))))); simp only [Act.put, List.setIfInBounds_toArray, List.set_cons_zero, List.set_cons_succ])
      | (apply text_if; (focus (first | exact wanted_t rfl rfl | exact wanted_f rfl rfl | exact wanted_gt rfl rfl | exact wanted_gf rfl rfl)); (focus (intro hc _ _; (try simp only [Bool.and_eq_true, Bool.not_eq_true', Bool.true_and] at hc); go_simp; with_reducible rfl)); simp only [Act.put, List.setIfInBounds_toArray, List.set_cons_zero, List.set_cons_succ])
      | (apply text_if_call; (focus (first | exact wanted_t rfl rfl | exact wanted_f rfl rfl | exact wanted_gt rfl rfl | exact wanted_gf rfl rfl)); (focus (intro hc _ _; (try simp only [Bool.and_eq_true, Bool.not_eq_true', Bool.true_and] at hc); go_simp; exact ⟨rfl, rfl⟩)); (focus (intro hc _ _; with_reducible (first | exact FU _ (by (repeat' (first | (with_reducible exact Below.refl _ _) | (with_reducible refine Below.ext_mk ?_ ?_ _ _) | (with_reducible refine Below.alloc ?_ ?_ _) | (with_reducible refine Below.drew ?_) | (with_reducible refine Below.setCell ?_ ?_ _) | go_size))) | exact LE _ (by (repeat' (first | (with_reducible exact Below.refl _ _) | (with_reducible refine Below.ext_mk ?_ ?_ _ _) | (with_reducible refine Below.alloc ?_ ?_ _) | (with_reducible refine Below.drew ?_) | (with_reducible refine Below.setCell ?_ ?_ _) | go_size)))))); simp only [Act.put, List.setIfInBounds_toArray, List.set_cons_zero, List.set_cons_succ]))
    refine text_nil (HF.out _ (fun mx dx => ?_))
    clear HF F
    clear FU LE hz
    go_wp2
    go_returns
    exact Pure.of rfl (by (repeat' (first | (with_reducible exact Below.refl _ _) | (with_reducible refine Below.ext_mk ?_ ?_ _ _) | (with_reducible refine Below.alloc ?_ ?_ _) | (with_reducible refine Below.drew ?_) | (with_reducible refine Below.setCell ?_ ?_ _) | go_size)))
end Go.Proofs.Ytboekafmplomhaa
