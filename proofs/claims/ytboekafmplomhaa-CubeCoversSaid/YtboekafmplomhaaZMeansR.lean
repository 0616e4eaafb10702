/-
  A new store.
-/
import Derived.Test.YtboekafmplomhaaZCallsB
import Derived.Test.YtboekafmplomhaaZDead
import Derived.Test.YtboekafmplomhaaZMeansP
import Derived.Test.YtboekafmplomhaaZLund
import Derived.Test.YtboekafmplomhaaZDoC
import Derived.Laws.MakeOwn
set_option linter.unusedVariables false
set_option linter.unusedSimpArgs false
namespace Go.Proofs.Ytboekafmplomhaa
open Go.RowKit

/-- A new store, in blocks of its own. -/
def NewAt (w : World) (cap : Int) (e : Ending) (w' : World) : Prop :=
  ∃ p F, e = .returned (.tuple #[.pointer (some ⟨p, 0, none⟩), .int .i64 0]) ∧ StoIs w' p F (newS cap) ∧ Below w.heap.size w w' ∧ ∀ k ∈ F, w.heap.size ≤ k
theorem new_call (cap : Int) (h1 : 2 ≤ cap) (h2 : cap ≤ 1048576) (w : World) :
    Calls Try.prog 15 #[.int .i64 cap] w (NewAt w cap) := by
  have hmm := @run_makeMap Try.prog
  go_enter Try.func15, Try.ntmps15
  go_wp2
  go_returns
  refine ⟨w.heap.size + 1 + 1, [w.heap.size + 1 + 1, w.heap.size, w.heap.size + 1], rfl, ?_, ?_, ?_⟩
  · refine ⟨.slice none 0 0, none, w.heap.size, w.heap.size + 1, ?_, ⟨rfl, .inl ⟨rfl, rfl, rfl⟩⟩, ⟨#[], 0, ?_, rfl⟩, ⟨#[], 0, ?_, rfl⟩, rfl, ?_⟩
    · have e := World.heap_alloc_last ((w.alloc (.map #[] 0)).alloc (.map #[] 0)) (.cells #[.int .i64 cap, .slice none 0 0, .map (some w.heap.size), .map (some (w.heap.size + 1)), .bool false] 47)
      simpa [newS] using e
    · rw [Below.heap_alloc _ _ _ (by simp), Below.heap_alloc _ _ _ (by simp)]
      exact World.heap_alloc_last w _
    · rw [Below.heap_alloc _ _ _ (by simp)]
      have e := World.heap_alloc_last (w.alloc (.map #[] 0)) (.map #[] 0)
      simpa using e
    · simp; omega
  · (repeat' (first | (with_reducible exact Below.refl _ _) | (with_reducible refine Below.ext_mk ?_ ?_ _ _) | (with_reducible refine Below.alloc ?_ ?_ _) | (with_reducible refine Below.drew ?_) | (with_reducible refine Below.setCell ?_ ?_ _) | go_size))
  · intro k hk
    simp at hk
    omega
end Go.Proofs.Ytboekafmplomhaa
set_option linter.unusedVariables false
set_option linter.unusedSimpArgs false
namespace Go.Proofs.Ytboekafmplomhaa
open Go.RowKit

def kA : Sto × Int := varV (newS 3) 0
def kB : Sto × Int := varV kA.1 1
def kC : Sto × Int := andV kB.1 2 3
def kD : Sto × Int := orV kC.1 2 3
theorem kA_ok : VOk (newS 3) 6 1 kA := varV_ok (newS_wf (by omega) (by omega)) (newS_sated 3) (newS_below 3 6) 0 (by omega)
theorem kB_ok : VOk kA.1 6 1 kB := varV_ok kA_ok.wf kA_ok.sated kA_ok.below 1 (by omega)
theorem kC_ok : VOk kB.1 6 64 kC := andV_ok kB_ok.wf kB_ok.sated kB_ok.below (by omega) 2 3
theorem kD_ok : VOk kC.1 6 64 kD := orV_ok kC_ok.wf kC_ok.sated kC_ok.below (by omega) 2 3
theorem kA_is : kA.2 = 2 := by decide +kernel
theorem kB_is : kB.2 = 3 := by decide +kernel
theorem kC_is : kC.2 = 4 := by decide +kernel
theorem kD_is : kD.2 = 0 := by decide +kernel
theorem kD_full : kD.1.full = true := by decide +kernel
theorem kD_len : kD.1.nodes.length = 3 := by decide +kernel

section
variable {w : World} {p : Nat} {F : List Nat}
theorem k_a (h : StoIs w p F (newS 3)) : Calls Try.prog 24 #[.pointer (some ⟨p, 0, none⟩), .int .i64 0] w (fun e w' => e = .returned (.int .i64 2) ∧ Turned w p F kA.1 w') := by
  have M := var_call h (newS_wf (by omega) (by omega)) 0
  unfold Tells at M
  rw [show (varV (newS 3) 0).2 = 2 from kA_is] at M
  exact M
theorem k_b (h : StoIs w p F kA.1) : Calls Try.prog 24 #[.pointer (some ⟨p, 0, none⟩), .int .i64 1] w (fun e w' => e = .returned (.int .i64 3) ∧ Turned w p F kB.1 w') := by
  have M := var_call h kA_ok.wf 1
  unfold Tells at M
  rw [show (varV kA.1 1).2 = 3 from kB_is] at M
  exact M
theorem k_c (h : StoIs w p F kB.1) : Calls Try.prog 27 #[.pointer (some ⟨p, 0, none⟩), .int .i64 2, .int .i64 3] w (fun e w' => e = .returned (.int .i64 4) ∧ Turned w p F kC.1 w') := by
  have M := and_call h kB_ok.wf 2 3
  unfold Tells at M
  rw [show (andV kB.1 2 3).2 = 4 from kC_is] at M
  exact M
theorem k_d (h : StoIs w p F kC.1) : Calls Try.prog 28 #[.pointer (some ⟨p, 0, none⟩), .int .i64 2, .int .i64 3] w (fun e w' => e = .returned (.int .i64 0) ∧ Turned w p F kD.1 w') := by
  have M := or_call h kC_ok.wf 2 3
  unfold Tells at M
  rw [show (orV kC.1 2 3).2 = 0 from kD_is] at M
  exact M
end

theorem StoStep.low {w w' : World} {F F' : List Nat} {B : Nat} (h : StoStep w w' F F') (hF : ∀ k ∈ F, B ≤ k) (hB : B ≤ w.heap.size) : ∀ k ∈ F', B ≤ k := fun k hk => by
  rcases h.fresh k hk with q | q
  · exact hF k q
  · omega

theorem known15 (w : World) : Calls Try.prog 16 #[] w (Pure (.bool true) w) := by
  go_enter Try.func16, Try.ntmps16
  go_upto_region 7 with (first
    | ((with_reducible refine (new_call 3 (by omega) (by omega) _).mono ?_); rintro e w1 ⟨p, F, rfl, hS, hb, hF⟩)
    | ((with_reducible refine (k_a hS).mono ?_); rintro e w2 ⟨rfl, F1, hS1, st1⟩)
    | ((with_reducible refine (k_b hS1).mono ?_); rintro e w3 ⟨rfl, F2, hS2, st2⟩)
    | ((with_reducible refine (k_c hS2).mono ?_); rintro e w4 ⟨rfl, F3, hS3, st3⟩)
    | ((with_reducible refine (k_d hS3).mono ?_); rintro e w5 ⟨rfl, F4, hS4, st4⟩))
  have hB := hb.trans ((((st1.trans st2).trans st3).trans st4).below hF hb.size)
  clear hS hS1 hS2 hS3 st1 st2 st3 st4 hb hF
  have hc : kD.1.cap ≠ 0 := by have := kD_ok.wf.cap2; omega
  have h1 := fun W (hb : Below w5.heap.size w5 W) => full_any (hS4.below hb) hc
  have h2 := fun W (hb : Below w5.heap.size w5 W) => len_any (hS4.below hb) hc
  have h3 := fun W (hb : Below w5.heap.size w5 W) => var_dead ((hS4.dead kD_ok.wf kD_full).below hb) 0
  rw [kD_full] at h1
  rw [kD_len] at h2
  clear hS4 hc
  refine wp_region_seq (fun F hF => ?_)
  have HF := hid hF; clear hF
  repeat (first
    | (apply text_skip; (focus rfl); simp only [Act.put, List.setIfInBounds_toArray, List.set_cons_zero, List.set_cons_succ])
    | (apply text_val; (focus rfl); (focus (intro _ _; go_simp; with_reducible rfl)); simp only [Act.put, List.setIfInBounds_toArray, List.set_cons_zero, List.set_cons_succ])
    | (apply text_call; (focus rfl); (focus (intro _ _; go_simp; exact ⟨rfl, rfl⟩)); (focus (intro _ _; with_reducible (first | exact h1 _ (by (repeat' (first | (with_reducible exact Below.refl _ _) | (with_reducible refine Below.ext_mk ?_ ?_ _ _) | (with_reducible refine Below.alloc ?_ ?_ _) | (with_reducible refine Below.drew ?_) | (with_reducible refine Below.setCell ?_ ?_ _) | go_size))) | exact h2 _ (by (repeat' (first | (with_reducible exact Below.refl _ _) | (with_reducible refine Below.ext_mk ?_ ?_ _ _) | (with_reducible refine Below.alloc ?_ ?_ _) | (with_reducible refine Below.drew ?_) | (with_reducible refine Below.setCell ?_ ?_ _) | go_size))) | exact h3 _ (by (repeat' (first | (with_reducible exact Below.refl _ _) | (with_reducible refine Below.ext_mk ?_ ?_ _ _) | (with_reducible refine Below.alloc ?_ ?_ _) | (with_reducible refine Below.drew ?_) | (with_reducible refine Below.setCell ?_ ?_ _) | go_size)))))); simp only [Act.put, List.setIfInBounds_toArray, List.set_cons_zero, List.set_cons_succ])
    | (apply text_if; (focus (first | exact wanted_t rfl rfl | exact wanted_f rfl rfl | exact wanted_gt rfl rfl | exact wanted_gf rfl rfl)); (focus (intro hc _ _; (try simp only [Bool.and_eq_true, Bool.not_eq_true', Bool.true_and] at hc); go_simp; with_reducible rfl)); simp only [Act.put, List.setIfInBounds_toArray, List.set_cons_zero, List.set_cons_succ])
    | (apply text_if_call; (focus (first | exact wanted_t rfl rfl | exact wanted_f rfl rfl | exact wanted_gt rfl rfl | exact wanted_gf rfl rfl)); (focus (intro hc _ _; (try simp only [Bool.and_eq_true, Bool.not_eq_true', Bool.true_and] at hc); go_simp; exact ⟨rfl, rfl⟩)); (focus (intro hc _ _; with_reducible (first | exact h1 _ (by (repeat' (first | (with_reducible exact Below.refl _ _) | (with_reducible refine Below.ext_mk ?_ ?_ _ _) | (with_reducible refine Below.alloc ?_ ?_ _) | (with_reducible refine Below.drew ?_) | (with_reducible refine Below.setCell ?_ ?_ _) | go_size))) | exact h2 _ (by (repeat' (first | (with_reducible exact Below.refl _ _) | (with_reducible refine Below.ext_mk ?_ ?_ _ _) | (with_reducible refine Below.alloc ?_ ?_ _) | (with_reducible refine Below.drew ?_) | (with_reducible refine Below.setCell ?_ ?_ _) | go_size))) | exact h3 _ (by (repeat' (first | (with_reducible exact Below.refl _ _) | (with_reducible refine Below.ext_mk ?_ ?_ _ _) | (with_reducible refine Below.alloc ?_ ?_ _) | (with_reducible refine Below.drew ?_) | (with_reducible refine Below.setCell ?_ ?_ _) | go_size)))))); simp only [Act.put, List.setIfInBounds_toArray, List.set_cons_zero, List.set_cons_succ]))
  refine text_nil (HF.out _ (fun mx dx => ?_))
  clear HF F
  go_wp2
  go_returns
  exact Pure.of rfl (Below.ext_mk hB hB.size _ _)
end Go.Proofs.Ytboekafmplomhaa
set_option linter.unusedVariables false
set_option linter.unusedSimpArgs false
namespace Go.Proofs.Ytboekafmplomhaa
open Go.RowKit

theorem infoBool_some : (Try.prog.info? 4).isSome = true := by kernel_rfl
noncomputable abbrev infoBool : TypeInfo := (Try.prog.info? 4).get infoBool_some
theorem infoBool_is : Try.prog.info? 4 = some infoBool := (Option.some_get _).symm
theorem infoBool_zero : infoBool.zero = some (.bool false) := by kernel_rfl
theorem infoBool_size : infoBool.size = 1 := by kernel_rfl
theorem infoBool_bytes : infoBool.bytes = 1 := by kernel_rfl

def LundPost (w : World) (n : Nat) (xs : List Bool) (e : Ending) (w' : World) : Prop :=
  ∃ sv G, e = .returned sv ∧ RowIs w' sv G 4 1 n (bools xs) ∧ Below w.heap.size w w' ∧ ∀ g, G = some g → w.heap.size ≤ g
def LRel (w : World) (box : Nat) (n : Nat) (l : List OpD) (i : Value) (wr : World) : Prop :=
  ∃ k : Nat, k ≤ l.length ∧ i = .int .i64 k ∧ ∃ sv G, wr.cell? ⟨box, 0, none⟩ = some sv ∧ wr.frozen? ⟨box, 0, none⟩ = false ∧ RowIs wr sv G 4 1 k (bools (runB (bitsOf n) [] (l.take k))) ∧
    Below w.heap.size w wr ∧ (∀ g, G = some g → w.heap.size ≤ g ∧ g ≠ box) ∧ box < wr.heap.size ∧ box = w.heap.size

theorem take_snoc {α : Type} (l : List α) (k : Nat) (o : α) (h : l[k]? = some o) : l.take (k + 1) = l.take k ++ [o] := by
  rw [List.take_add_one, h]; rfl

theorem lund_grow {w U : World} {sv : Value} {G : Option Nat} {k : Nat} {xs : List Bool} (rowU : RowIs U sv G 4 1 k (bools xs)) (hG : ∀ g, G = some g → w.heap.size ≤ g ∧ g ≠ w.heap.size) (hboxU : w.heap.size < U.heap.size)
    (hbelU : Below w.heap.size w U) (cbU : U.cell? ⟨w.heap.size, 0, none⟩ = some sv) (fbU : U.frozen? ⟨w.heap.size, 0, none⟩ = false) (hk : k ≤ 1000) (r : Bool) :
    ∃ v' w1 G', (Builtin.append_ #[33, 33] 33 #[sv, .slice (some ⟨U.heap.size, 0, none⟩) 1 1]).run Try.prog (U.alloc (.cells #[.bool r] 4)) = .ok v' w1 ∧
      RowIs w1 v' (some G') 4 1 (k + 1) (bools (xs ++ [r])) ∧ RowIs (w1.setCell ⟨w.heap.size, 0, none⟩ v') v' (some G') 4 1 (k + 1) (bools (xs ++ [r])) ∧
      (w1.setCell ⟨w.heap.size, 0, none⟩ v').cell? ⟨w.heap.size, 0, none⟩ = some v' ∧ (w1.setCell ⟨w.heap.size, 0, none⟩ v').frozen? ⟨w.heap.size, 0, none⟩ = false ∧
      Below w.heap.size w (w1.setCell ⟨w.heap.size, 0, none⟩ v') ∧ (∀ g, some G' = some g → w.heap.size ≤ g ∧ g ≠ w.heap.size) ∧ w.heap.size < (w1.setCell ⟨w.heap.size, 0, none⟩ v').heap.size ∧
      w1.cell? ⟨w.heap.size, 0, none⟩ = some sv ∧ w1.frozen? ⟨w.heap.size, 0, none⟩ = false ∧ w.heap.size < w1.heap.size := by
  have litn : (U.alloc (.cells #[.bool r] 4)).heap[U.heap.size]? = some (.cells #[.bool r] 4 (0, 0)) := World.heap_alloc_last U _
  have rowL : RowIs (U.alloc (.cells #[.bool r] 4)) sv G 4 1 k (bools xs) := RowIs.keep rowU (fun g hg => Below.heap_alloc _ _ _ (RowIs.lt rowU g hg))
  obtain ⟨v', w1, G', r1, r2, r3, r4⟩ := append_row (P := Try.prog) 33 33 infoBool (.bool false) 1 Try.underlying33 infoBool_is infoBool_zero infoBool_size infoBool_bytes rfl (by omega) rowL
    ⟨U.heap.size, 0, none⟩ 1 1 [.bool r] rfl (fun j u hu => by
      rcases j with _ | j
      · simp at hu; subst hu
        show (U.alloc (.cells #[.bool r] 4)).cell? ⟨U.heap.size, 0, none⟩ = _
        simp only [World.cell?]
        rw [litn]; rfl
      · simp at hu) (by simp [Value.oneCell']) (by omega) (by unfold maxLen; omega) (by omega)
  have hne : G ≠ some w.heap.size := fun e => (hG _ e).2 rfl
  have k1 : w1.heap[w.heap.size]? = U.heap[w.heap.size]? := (r3.block _ (by simp; omega) (fun e => hne e.symm)).trans (Below.heap_alloc _ _ _ hboxU)
  have hG' : w.heap.size ≤ G' ∧ G' ≠ w.heap.size := by
    rcases r4 with e | ⟨e, _⟩
    · exact hG _ e
    · simp at e; omega
  have e1 : bools (xs ++ [r]) = bools xs ++ [.bool r] := by simp [bools]
  have hz : w.heap.size < w1.heap.size := by have := r3.size; simp at this; omega
  have c1 := (cell_of_heap 0 k1).trans cbU
  have f1 : w1.frozen? ⟨w.heap.size, 0, none⟩ = false := by simpa [World.frozen?, k1] using fbU
  rw [← e1] at r2
  refine ⟨v', w1, G', r1, r2, RowIs.keep r2 (fun g hg => Below.heap_setCell _ _ _ _ (by cases hg; exact hG'.2)), ?_, ?_, ?_, ?_, ?_, c1, f1, hz⟩
  · go_simp
  · go_simp
  · have hb2 : Below w.heap.size w w1 := (hbelU.alloc (Nat.le_of_lt hboxU) _).grown r3 (by simp; omega) (fun g hg => (hG g hg).1)
    exact hb2.setCell (Nat.le_refl _) _
  · intro g hg; cases hg; exact hG'
  · simpa using hz

theorem bit8 : ∀ (n : Fin 64) (j : Fin 6), (bits BinOp.and IntKind.u8 ((n.val : Int) / 2 ^ j.val) 1 == 1) = bitsOf n.val (j.val : Int) := by decide +kernel
set_option maxRecDepth 100000 in
set_option maxHeartbeats 2000000 in
theorem lund_any {w : World} {a : Option Addr} {cap : Nat} {l : List OpD} (h : Rd w 5 (.slice a l.length cap) (flatO l)) (hl : l.length ≤ 30) (n : Nat) (hn : n < 64) :
    Calls Try.prog 18 #[.slice a l.length cap, .int .u8 n] w (LundPost w l.length (runB (bitsOf n) [] l)) := by
  have hmf : ∀ (fn : Fn) (first cap : Array Value) (w : World), (Instr.makeFunc fn first cap).run Try.prog w = .ok (.func fn first cap) w := fun _ _ _ _ => rfl
  go_enter Try.func18, Try.ntmps18
  go_wp2
  go_loopw [16] (fun i wr => LRel w w.heap.size n l i wr) (fun i _ => l.length - (intOf i).toNat)
  case atStart =>
    refine ⟨0, by omega, rfl, .slice none 0 0, none, by go_simp, by go_simp, ⟨rfl, .inl ⟨rfl, rfl, rfl⟩⟩, by (repeat' (first | (with_reducible exact Below.refl _ _) | (with_reducible refine Below.ext_mk ?_ ?_ _ _) | (with_reducible refine Below.alloc ?_ ?_ _) | (with_reducible refine Below.drew ?_) | (with_reducible refine Below.setCell ?_ ?_ _) | go_size)), fun g hg => by simp at hg, by simp, rfl⟩
  case round =>
    obtain ⟨k, hk, rfl, sv, G, cb, fb, hrow, hbel, hG, hbox, _⟩ := hrel
    by_cases hlt : k < l.length
    · obtain ⟨o, ho⟩ : ∃ o, l[k]? = some o := ⟨l[k], List.getElem?_eq_getElem hlt⟩
      obtain ⟨b, off, rfl, hbb, o0, o1, o2, o3, o4⟩ := (h.below hbel).op ho
      have hk1 : (k : Int) < (l.length : Int) := by omega
      have hk0 : (0 : Int) ≤ (k : Int) := by omega
      have Ho := hid ho
      clear ho
      go_upto_region 6 with (fail)
      refine wp_gen (fun V hV => ?_)
      have hbV : Below wr.heap.size wr V := by rw [hV]; ((repeat' (first | (with_reducible exact Below.refl _ _) | (with_reducible refine Below.ext_mk ?_ ?_ _ _) | (with_reducible refine Below.alloc ?_ ?_ _) | (with_reducible refine Below.drew ?_) | (with_reducible refine Below.setCell ?_ ?_ _) | go_size)))
      have zV0 : wr.heap.size < V.heap.size := by rw [hV]; first | (simp; done) | (simp; omega)
      have cV0_0 : V.cell? ⟨wr.heap.size, 0, none⟩ = some (.int .i64 o.k) := by rw [hV]; first | (go_simp; done) | (rw [World.cell?_alloc_past _ _ _ (by first | (simp; done) | (simp; omega))]; go_simp)
      have cV0_1 : V.cell? ⟨wr.heap.size, 1, none⟩ = some (.int .i64 o.a) := by rw [hV]; first | (go_simp; done) | (rw [World.cell?_alloc_past _ _ _ (by first | (simp; done) | (simp; omega))]; go_simp)
      have cV0_2 : V.cell? ⟨wr.heap.size, 2, none⟩ = some (.int .i64 o.b) := by rw [hV]; first | (go_simp; done) | (rw [World.cell?_alloc_past _ _ _ (by first | (simp; done) | (simp; omega))]; go_simp)
      have cV0_3 : V.cell? ⟨wr.heap.size, 3, none⟩ = some (.int .i64 o.c) := by rw [hV]; first | (go_simp; done) | (rw [World.cell?_alloc_past _ _ _ (by first | (simp; done) | (simp; omega))]; go_simp)
      have cV0_4 : V.cell? ⟨wr.heap.size, 4, none⟩ = some (.bool o.on) := by rw [hV]; first | (go_simp; done) | (rw [World.cell?_alloc_past _ _ _ (by first | (simp; done) | (simp; omega))]; go_simp)
      clear hV
      have hrd : Rd V 1 sv (bools (runB (bitsOf n) [] (l.take k))) := (RowIs.rd hrow).below hbV
      have hln : (runB (bitsOf n) [] (l.take k)).length = k := by rw [runB_length]; simp; omega
      have cbV : V.cell? ⟨w.heap.size, 0, none⟩ = some sv := (hbV.cell (p := ⟨w.heap.size, 0, none⟩) hbox).trans cb
      have C := fun m d i => lund1_any (w := V.ext m d) (hrd.below (Below.ext_mk (Below.refl _ _) (Nat.le_refl _) m d)) (by omega) w.heap.size (by have := hbV.size; simp; omega) (by rw [World.cell?_ext _ _ _ _ _ (by have := hbV.size; omega)]; exact cbV) i
      have hboxV : w.heap.size < V.heap.size := Nat.lt_of_lt_of_le hbox hbV.size
      clear o0 o1 o2 o3 o4 hrd
      refine wp_region_ext (by kernel_rfl) (by kernel_rfl) (fun F hF => ?_)
      have HF := hid hF; clear hF
      repeat (first
        | (apply text_skip; (focus rfl); simp only [Act.put, List.setIfInBounds_toArray, List.set_cons_zero, List.set_cons_succ])
        | (apply text_val; (focus rfl); (focus (intro _ _; go_simp; with_reducible rfl)); simp only [Act.put, List.setIfInBounds_toArray, List.set_cons_zero, List.set_cons_succ])
        | (apply text_call; (focus rfl); (focus (intro _ _; go_simp; exact ⟨rfl, rfl⟩)); (focus (intro _ _; with_reducible (exact C _ _ _))); simp only [Act.put, List.setIfInBounds_toArray, List.set_cons_zero, List.set_cons_succ])
        | (apply text_if; (focus (first | exact wanted_t rfl rfl | exact wanted_f rfl rfl | exact wanted_gt rfl rfl | exact wanted_gf rfl rfl)); (focus (intro hc _ _; (try simp only [Bool.and_eq_true, Bool.not_eq_true', Bool.true_and] at hc); go_simp; with_reducible rfl)); simp only [Act.put, List.setIfInBounds_toArray, List.set_cons_zero, List.set_cons_succ])
        | (apply text_if_call; (focus (first | exact wanted_t rfl rfl | exact wanted_f rfl rfl | exact wanted_gt rfl rfl | exact wanted_gf rfl rfl)); (focus (intro hc _ _; (try simp only [Bool.and_eq_true, Bool.not_eq_true', Bool.true_and] at hc); go_simp; exact ⟨rfl, rfl⟩)); (focus (intro hc _ _; with_reducible (exact C _ _ _))); simp only [Act.put, List.setIfInBounds_toArray, List.set_cons_zero, List.set_cons_succ]))
      refine text_nil (HF.out _ (fun mx dx => ?_))
      clear HF F
      have hstep : runB (bitsOf n) [] (l.take (k + 1)) = runB (bitsOf n) [] (l.take k) ++ [stepB (bitsOf n) (runB (bitsOf n) [] (l.take k)) o] := by
        rw [take_snoc l k o Ho.out, runB_snoc]
      obtain ⟨r, hr⟩ : ∃ r, stepB (bitsOf n) (runB (bitsOf n) [] (l.take k)) o = r := ⟨_, rfl⟩
      rw [hr] at hstep
      have HS := hid hstep
      clear hstep C
      have cV := cV0_0
      have cV1 := cV0_1
      unfold stepB at hr
      generalize backAt false (runB (bitsOf n) [] (l.take k)) o.a = A at *
      generalize backAt false (runB (bitsOf n) [] (l.take k)) o.b = B at *
      generalize backAt false (runB (bitsOf n) [] (l.take k)) o.c = C at *
      by_cases e1 : o.k = 1
      · rw [if_pos e1] at hr
        have f1 : (o.k == 1) = true := by simpa using e1
        clear e1
        by_cases h06 : 0 ≤ o.a ∧ o.a < 6
        · obtain ⟨j, hj⟩ : ∃ j : Nat, o.a = (j : Int) := ⟨o.a.toNat, by omega⟩
          have hj6 : j < 6 := by omega
          rw [hj] at cV1
          have hbit : (bits BinOp.and IntKind.u8 ((n : Int) / 2 ^ j) 1 == 1) = r := by
            rw [bit8 ⟨n, hn⟩ ⟨j, hj6⟩, ← hr, hj]
            simp
            intro _; omega
          clear hr
          go_upto_region 21 with (fail)
          refine wp_gen (fun U hU => ?_)
          have hbU : Below wr.heap.size wr U := by rw [hU]; (repeat' (first | (with_reducible exact Below.refl _ _) | (with_reducible refine Below.ext_mk ?_ ?_ _ _) | (with_reducible refine Below.alloc ?_ ?_ _) | (with_reducible refine Below.drew ?_) | (with_reducible refine Below.setCell ?_ ?_ _) | go_size))
          clear hU
          have rowU : RowIs U sv G 4 1 k (bools (runB (bitsOf n) [] (l.take k))) := RowIs.keep hrow (fun g hg => hbU.block g (RowIs.lt hrow g hg))
          have cbU : U.cell? ⟨w.heap.size, 0, none⟩ = some sv := (hbU.cell (p := ⟨w.heap.size, 0, none⟩) hbox).trans cb
          have fbU : U.frozen? ⟨w.heap.size, 0, none⟩ = false := (hbU.frozen (p := ⟨w.heap.size, 0, none⟩) hbox).trans fb
          have hboxU : w.heap.size < U.heap.size := Nat.lt_of_lt_of_le hbox hbU.size
          have hbelU : Below w.heap.size w U := hbel.trans (hbU.mono hbel.size)
          obtain ⟨v', w1, G', r1, r2, r3, r4, r5, r6, r7, r8, q1, q2, q3⟩ := lund_grow rowU hG hboxU hbelU cbU fbU (by omega) r
          obtain ⟨sa', sc', rfl, _⟩ := RowIs.form r2
          refine wp_region_do (fun F hF => ?_)
          have HF := hid hF
          clear hF hbU cb fb hbel hbox rowU hrow
          repeat (refine do_val rfl (by go_simp; exact ⟨rfl, rfl⟩) ?_; simp only [Act.put, List.setIfInBounds_toArray, List.set_cons_zero, List.set_cons_succ])
          refine do_val rfl (run_append_op _ _ _ _ _ _ _ _ _ r1) ?_
          simp only [Act.put, List.setIfInBounds_toArray, List.set_cons_zero, List.set_cons_succ]
          refine do_skip rfl (by go_simp; with_reducible rfl) ?_
          simp only [Act.put, List.setIfInBounds_toArray, List.set_cons_zero, List.set_cons_succ]
          refine do_end (HF.out _ _ ?_)
          clear HF F
          go_wp2
          go_roundw
          case rel =>
            refine ⟨k + 1, by omega, by go_num, _, _, r4, r5, ?_, r6, r7, r8, rfl⟩
            rw [HS.out]
            exact r3
          case measure => simp [intOf]; omega
        · have hrf : r = false := by
            rw [← hr]
            by_cases q : 0 ≤ o.a
            · simp; intro _ q2; omega
            · simp; intro q2; omega
          rw [hrf] at HS
          clear hr hrf
          by_cases q : 0 ≤ o.a
          · have q2 : ¬ o.a < 6 := fun q2 => h06 ⟨q, q2⟩
            clear h06
            go_upto_region 21 with (fail)
            refine wp_gen (fun U hU => ?_)
            have hbU : Below wr.heap.size wr U := by rw [hU]; (repeat' (first | (with_reducible exact Below.refl _ _) | (with_reducible refine Below.ext_mk ?_ ?_ _ _) | (with_reducible refine Below.alloc ?_ ?_ _) | (with_reducible refine Below.drew ?_) | (with_reducible refine Below.setCell ?_ ?_ _) | go_size))
            clear hU
            have rowU : RowIs U sv G 4 1 k (bools (runB (bitsOf n) [] (l.take k))) := RowIs.keep hrow (fun g hg => hbU.block g (RowIs.lt hrow g hg))
            have cbU : U.cell? ⟨w.heap.size, 0, none⟩ = some sv := (hbU.cell (p := ⟨w.heap.size, 0, none⟩) hbox).trans cb
            have fbU : U.frozen? ⟨w.heap.size, 0, none⟩ = false := (hbU.frozen (p := ⟨w.heap.size, 0, none⟩) hbox).trans fb
            have hboxU : w.heap.size < U.heap.size := Nat.lt_of_lt_of_le hbox hbU.size
            have hbelU : Below w.heap.size w U := hbel.trans (hbU.mono hbel.size)
            obtain ⟨v', w1, G', r1, r2, r3, r4, r5, r6, r7, r8, q1, q2, q3⟩ := lund_grow rowU hG hboxU hbelU cbU fbU (by omega) false
            obtain ⟨sa', sc', rfl, _⟩ := RowIs.form r2
            refine wp_region_do (fun F hF => ?_)
            have HF := hid hF
            clear hF hbU cb fb hbel hbox rowU hrow
            repeat (refine do_val rfl (by go_simp; exact ⟨rfl, rfl⟩) ?_; simp only [Act.put, List.setIfInBounds_toArray, List.set_cons_zero, List.set_cons_succ])
            refine do_val rfl (run_append_op _ _ _ _ _ _ _ _ _ r1) ?_
            simp only [Act.put, List.setIfInBounds_toArray, List.set_cons_zero, List.set_cons_succ]
            refine do_skip rfl (by go_simp; with_reducible rfl) ?_
            simp only [Act.put, List.setIfInBounds_toArray, List.set_cons_zero, List.set_cons_succ]
            refine do_end (HF.out _ _ ?_)
            clear HF F
            go_wp2
            go_roundw
            case rel =>
              refine ⟨k + 1, by omega, by go_num, _, _, r4, r5, ?_, r6, r7, r8, rfl⟩
              rw [HS.out]
              exact r3
            case measure => simp [intOf]; omega
          · clear h06
            go_upto_region 21 with (fail)
            refine wp_gen (fun U hU => ?_)
            have hbU : Below wr.heap.size wr U := by rw [hU]; (repeat' (first | (with_reducible exact Below.refl _ _) | (with_reducible refine Below.ext_mk ?_ ?_ _ _) | (with_reducible refine Below.alloc ?_ ?_ _) | (with_reducible refine Below.drew ?_) | (with_reducible refine Below.setCell ?_ ?_ _) | go_size))
            clear hU
            have rowU : RowIs U sv G 4 1 k (bools (runB (bitsOf n) [] (l.take k))) := RowIs.keep hrow (fun g hg => hbU.block g (RowIs.lt hrow g hg))
            have cbU : U.cell? ⟨w.heap.size, 0, none⟩ = some sv := (hbU.cell (p := ⟨w.heap.size, 0, none⟩) hbox).trans cb
            have fbU : U.frozen? ⟨w.heap.size, 0, none⟩ = false := (hbU.frozen (p := ⟨w.heap.size, 0, none⟩) hbox).trans fb
            have hboxU : w.heap.size < U.heap.size := Nat.lt_of_lt_of_le hbox hbU.size
            have hbelU : Below w.heap.size w U := hbel.trans (hbU.mono hbel.size)
            obtain ⟨v', w1, G', r1, r2, r3, r4, r5, r6, r7, r8, q1, q2, q3⟩ := lund_grow rowU hG hboxU hbelU cbU fbU (by omega) false
            obtain ⟨sa', sc', rfl, _⟩ := RowIs.form r2
            refine wp_region_do (fun F hF => ?_)
            have HF := hid hF
            clear hF hbU cb fb hbel hbox rowU hrow
            repeat (refine do_val rfl (by go_simp; exact ⟨rfl, rfl⟩) ?_; simp only [Act.put, List.setIfInBounds_toArray, List.set_cons_zero, List.set_cons_succ])
            refine do_val rfl (run_append_op _ _ _ _ _ _ _ _ _ r1) ?_
            simp only [Act.put, List.setIfInBounds_toArray, List.set_cons_zero, List.set_cons_succ]
            refine do_skip rfl (by go_simp; with_reducible rfl) ?_
            simp only [Act.put, List.setIfInBounds_toArray, List.set_cons_zero, List.set_cons_succ]
            refine do_end (HF.out _ _ ?_)
            clear HF F
            go_wp2
            go_roundw
            case rel =>
              refine ⟨k + 1, by omega, by go_num, _, _, r4, r5, ?_, r6, r7, r8, rfl⟩
              rw [HS.out]
              exact r3
            case measure => simp [intOf]; omega
      · rw [if_neg e1] at hr
        have f1 : (o.k == 1) = false := by simpa using e1
        by_cases e2 : o.k = 2
        · rw [if_pos e2] at hr
          have f2 : (o.k == 2) = true := by simpa using e2
          clear e1 e2
          go_upto_region 12 with (fail)
          refine wp_region_seq (fun F hF => ?_)
          have HF := hid hF; clear hF
          repeat (first
            | (apply text_skip; (focus rfl); simp only [Act.put, List.setIfInBounds_toArray, List.set_cons_zero, List.set_cons_succ])
            | (apply text_val; (focus rfl); (focus (intro _ _; go_simp; with_reducible rfl)); simp only [Act.put, List.setIfInBounds_toArray, List.set_cons_zero, List.set_cons_succ])
            | (apply text_if; (focus (first | exact wanted_t rfl rfl | exact wanted_f rfl rfl | exact wanted_gt rfl rfl | exact wanted_gf rfl rfl)); (focus (intro hc _ _; (try simp only [Bool.and_eq_true, Bool.not_eq_true', Bool.true_and] at hc); go_simp; with_reducible rfl)); simp only [Act.put, List.setIfInBounds_toArray, List.set_cons_zero, List.set_cons_succ]))
          refine text_nil (HF.out _ (fun mx dx => ?_))
          clear HF F
          go_upto_region 21 with (fail)
          refine wp_gen (fun U hU => ?_)
          have hbU : Below wr.heap.size wr U := by rw [hU]; (repeat' (first | (with_reducible exact Below.refl _ _) | (with_reducible refine Below.ext_mk ?_ ?_ _ _) | (with_reducible refine Below.alloc ?_ ?_ _) | (with_reducible refine Below.drew ?_) | (with_reducible refine Below.setCell ?_ ?_ _) | go_size))
          clear hU
          have rowU : RowIs U sv G 4 1 k (bools (runB (bitsOf n) [] (l.take k))) := RowIs.keep hrow (fun g hg => hbU.block g (RowIs.lt hrow g hg))
          have cbU : U.cell? ⟨w.heap.size, 0, none⟩ = some sv := (hbU.cell (p := ⟨w.heap.size, 0, none⟩) hbox).trans cb
          have fbU : U.frozen? ⟨w.heap.size, 0, none⟩ = false := (hbU.frozen (p := ⟨w.heap.size, 0, none⟩) hbox).trans fb
          have hboxU : w.heap.size < U.heap.size := Nat.lt_of_lt_of_le hbox hbU.size
          have hbelU : Below w.heap.size w U := hbel.trans (hbU.mono hbel.size)
          obtain ⟨v', w1, G', r1, r2, r3, r4, r5, r6, r7, r8, q1, q2, q3⟩ := lund_grow rowU hG hboxU hbelU cbU fbU (by omega) r
          obtain ⟨sa', sc', rfl, _⟩ := RowIs.form r2
          refine wp_region_do (fun F hF => ?_)
          have HF := hid hF
          clear hF hbU cb fb hbel hbox rowU hrow
          repeat (refine do_val rfl (by go_simp; exact ⟨rfl, rfl⟩) ?_; simp only [Act.put, List.setIfInBounds_toArray, List.set_cons_zero, List.set_cons_succ])
          refine do_val rfl (run_append_op _ _ _ _ _ _ _ _ _ r1) ?_
          simp only [Act.put, List.setIfInBounds_toArray, List.set_cons_zero, List.set_cons_succ]
          refine do_skip rfl (by go_simp; with_reducible rfl) ?_
          simp only [Act.put, List.setIfInBounds_toArray, List.set_cons_zero, List.set_cons_succ]
          refine do_end (HF.out _ _ ?_)
          clear HF F
          go_wp2
          go_roundw
          case rel =>
            refine ⟨k + 1, by omega, by go_num, _, _, r4, r5, ?_, r6, r7, r8, rfl⟩
            rw [HS.out]
            exact r3
          case measure => simp [intOf]; omega
        · rw [if_neg e2] at hr
          have f2 : (o.k == 2) = false := by simpa using e2
          by_cases e3 : o.k = 3
          · rw [if_pos e3] at hr
            have f3 : (o.k == 3) = true := by simpa using e3
            clear e1 e2 e3
            go_upto_region 21 with (fail)
            refine wp_gen (fun U hU => ?_)
            have hbU : Below wr.heap.size wr U := by rw [hU]; (repeat' (first | (with_reducible exact Below.refl _ _) | (with_reducible refine Below.ext_mk ?_ ?_ _ _) | (with_reducible refine Below.alloc ?_ ?_ _) | (with_reducible refine Below.drew ?_) | (with_reducible refine Below.setCell ?_ ?_ _) | go_size))
            clear hU
            have rowU : RowIs U sv G 4 1 k (bools (runB (bitsOf n) [] (l.take k))) := RowIs.keep hrow (fun g hg => hbU.block g (RowIs.lt hrow g hg))
            have cbU : U.cell? ⟨w.heap.size, 0, none⟩ = some sv := (hbU.cell (p := ⟨w.heap.size, 0, none⟩) hbox).trans cb
            have fbU : U.frozen? ⟨w.heap.size, 0, none⟩ = false := (hbU.frozen (p := ⟨w.heap.size, 0, none⟩) hbox).trans fb
            have hboxU : w.heap.size < U.heap.size := Nat.lt_of_lt_of_le hbox hbU.size
            have hbelU : Below w.heap.size w U := hbel.trans (hbU.mono hbel.size)
            obtain ⟨v', w1, G', r1, r2, r3, r4, r5, r6, r7, r8, q1, q2, q3⟩ := lund_grow rowU hG hboxU hbelU cbU fbU (by omega) r
            obtain ⟨sa', sc', rfl, _⟩ := RowIs.form r2
            refine wp_region_do (fun F hF => ?_)
            have HF := hid hF
            clear hF hbU cb fb hbel hbox rowU hrow
            repeat (refine do_val rfl (by go_simp; exact ⟨rfl, rfl⟩) ?_; simp only [Act.put, List.setIfInBounds_toArray, List.set_cons_zero, List.set_cons_succ])
            refine do_val rfl (run_append_op _ _ _ _ _ _ _ _ _ r1) ?_
            simp only [Act.put, List.setIfInBounds_toArray, List.set_cons_zero, List.set_cons_succ]
            refine do_skip rfl (by go_simp; with_reducible rfl) ?_
            simp only [Act.put, List.setIfInBounds_toArray, List.set_cons_zero, List.set_cons_succ]
            refine do_end (HF.out _ _ ?_)
            clear HF F
            go_wp2
            go_roundw
            case rel =>
              refine ⟨k + 1, by omega, by go_num, _, _, r4, r5, ?_, r6, r7, r8, rfl⟩
              rw [HS.out]
              exact r3
            case measure => simp [intOf]; omega
          · rw [if_neg e3] at hr
            have f3 : (o.k == 3) = false := by simpa using e3
            by_cases e4 : o.k = 4
            · rw [if_pos e4] at hr
              have f4 : (o.k == 4) = true := by simpa using e4
              clear e1 e2 e3 e4
              go_upto_region 16 with (fail)
              refine wp_region_seq (fun F hF => ?_)
              have HF := hid hF; clear hF
              repeat (first
                | (apply text_skip; (focus rfl); simp only [Act.put, List.setIfInBounds_toArray, List.set_cons_zero, List.set_cons_succ])
                | (apply text_val; (focus rfl); (focus (intro _ _; go_simp; with_reducible rfl)); simp only [Act.put, List.setIfInBounds_toArray, List.set_cons_zero, List.set_cons_succ])
                | (apply text_if; (focus (first | exact wanted_t rfl rfl | exact wanted_f rfl rfl | exact wanted_gt rfl rfl | exact wanted_gf rfl rfl)); (focus (intro hc _ _; (try simp only [Bool.and_eq_true, Bool.not_eq_true', Bool.true_and] at hc); go_simp; with_reducible rfl)); simp only [Act.put, List.setIfInBounds_toArray, List.set_cons_zero, List.set_cons_succ]))
              refine text_nil (HF.out _ (fun mx dx => ?_))
              clear HF F
              go_upto_region 21 with (fail)
              refine wp_gen (fun U hU => ?_)
              have hbU : Below wr.heap.size wr U := by rw [hU]; (repeat' (first | (with_reducible exact Below.refl _ _) | (with_reducible refine Below.ext_mk ?_ ?_ _ _) | (with_reducible refine Below.alloc ?_ ?_ _) | (with_reducible refine Below.drew ?_) | (with_reducible refine Below.setCell ?_ ?_ _) | go_size))
              clear hU
              have rowU : RowIs U sv G 4 1 k (bools (runB (bitsOf n) [] (l.take k))) := RowIs.keep hrow (fun g hg => hbU.block g (RowIs.lt hrow g hg))
              have cbU : U.cell? ⟨w.heap.size, 0, none⟩ = some sv := (hbU.cell (p := ⟨w.heap.size, 0, none⟩) hbox).trans cb
              have fbU : U.frozen? ⟨w.heap.size, 0, none⟩ = false := (hbU.frozen (p := ⟨w.heap.size, 0, none⟩) hbox).trans fb
              have hboxU : w.heap.size < U.heap.size := Nat.lt_of_lt_of_le hbox hbU.size
              have hbelU : Below w.heap.size w U := hbel.trans (hbU.mono hbel.size)
              obtain ⟨v', w1, G', r1, r2, r3, r4, r5, r6, r7, r8, q1, q2, q3⟩ := lund_grow rowU hG hboxU hbelU cbU fbU (by omega) r
              obtain ⟨sa', sc', rfl, _⟩ := RowIs.form r2
              refine wp_region_do (fun F hF => ?_)
              have HF := hid hF
              clear hF hbU cb fb hbel hbox rowU hrow
              repeat (refine do_val rfl (by go_simp; exact ⟨rfl, rfl⟩) ?_; simp only [Act.put, List.setIfInBounds_toArray, List.set_cons_zero, List.set_cons_succ])
              refine do_val rfl (run_append_op _ _ _ _ _ _ _ _ _ r1) ?_
              simp only [Act.put, List.setIfInBounds_toArray, List.set_cons_zero, List.set_cons_succ]
              refine do_skip rfl (by go_simp; with_reducible rfl) ?_
              simp only [Act.put, List.setIfInBounds_toArray, List.set_cons_zero, List.set_cons_succ]
              refine do_end (HF.out _ _ ?_)
              clear HF F
              go_wp2
              go_roundw
              case rel =>
                refine ⟨k + 1, by omega, by go_num, _, _, r4, r5, ?_, r6, r7, r8, rfl⟩
                rw [HS.out]
                exact r3
              case measure => simp [intOf]; omega
            · rw [if_neg e4] at hr
              have f4 : (o.k == 4) = false := by simpa using e4
              by_cases e5 : o.k = 5
              · rw [if_pos e5] at hr
                have f5 : (o.k == 5) = true := by simpa using e5
                clear e1 e2 e3 e4 e5
                go_upto_region 18 with (fail)
                refine wp_region_seq (fun F hF => ?_)
                have HF := hid hF; clear hF
                repeat (first
                  | (apply text_skip; (focus rfl); simp only [Act.put, List.setIfInBounds_toArray, List.set_cons_zero, List.set_cons_succ])
                  | (apply text_val; (focus rfl); (focus (intro _ _; go_simp; with_reducible rfl)); simp only [Act.put, List.setIfInBounds_toArray, List.set_cons_zero, List.set_cons_succ])
                  | (apply text_if; (focus (first | exact wanted_t rfl rfl | exact wanted_f rfl rfl | exact wanted_gt rfl rfl | exact wanted_gf rfl rfl)); (focus (intro hc _ _; (try simp only [Bool.and_eq_true, Bool.not_eq_true', Bool.true_and] at hc); go_simp; with_reducible rfl)); simp only [Act.put, List.setIfInBounds_toArray, List.set_cons_zero, List.set_cons_succ]))
                refine text_nil (HF.out _ (fun mx dx => ?_))
                clear HF F
                go_upto_region 21 with (fail)
                refine wp_gen (fun U hU => ?_)
                have hbU : Below wr.heap.size wr U := by rw [hU]; (repeat' (first | (with_reducible exact Below.refl _ _) | (with_reducible refine Below.ext_mk ?_ ?_ _ _) | (with_reducible refine Below.alloc ?_ ?_ _) | (with_reducible refine Below.drew ?_) | (with_reducible refine Below.setCell ?_ ?_ _) | go_size))
                clear hU
                have rowU : RowIs U sv G 4 1 k (bools (runB (bitsOf n) [] (l.take k))) := RowIs.keep hrow (fun g hg => hbU.block g (RowIs.lt hrow g hg))
                have cbU : U.cell? ⟨w.heap.size, 0, none⟩ = some sv := (hbU.cell (p := ⟨w.heap.size, 0, none⟩) hbox).trans cb
                have fbU : U.frozen? ⟨w.heap.size, 0, none⟩ = false := (hbU.frozen (p := ⟨w.heap.size, 0, none⟩) hbox).trans fb
                have hboxU : w.heap.size < U.heap.size := Nat.lt_of_lt_of_le hbox hbU.size
                have hbelU : Below w.heap.size w U := hbel.trans (hbU.mono hbel.size)
                obtain ⟨v', w1, G', r1, r2, r3, r4, r5, r6, r7, r8, q1, q2, q3⟩ := lund_grow rowU hG hboxU hbelU cbU fbU (by omega) r
                obtain ⟨sa', sc', rfl, _⟩ := RowIs.form r2
                refine wp_region_do (fun F hF => ?_)
                have HF := hid hF
                clear hF hbU cb fb hbel hbox rowU hrow
                repeat (refine do_val rfl (by go_simp; exact ⟨rfl, rfl⟩) ?_; simp only [Act.put, List.setIfInBounds_toArray, List.set_cons_zero, List.set_cons_succ])
                refine do_val rfl (run_append_op _ _ _ _ _ _ _ _ _ r1) ?_
                simp only [Act.put, List.setIfInBounds_toArray, List.set_cons_zero, List.set_cons_succ]
                refine do_skip rfl (by go_simp; with_reducible rfl) ?_
                simp only [Act.put, List.setIfInBounds_toArray, List.set_cons_zero, List.set_cons_succ]
                refine do_end (HF.out _ _ ?_)
                clear HF F
                go_wp2
                go_roundw
                case rel =>
                  refine ⟨k + 1, by omega, by go_num, _, _, r4, r5, ?_, r6, r7, r8, rfl⟩
                  rw [HS.out]
                  exact r3
                case measure => simp [intOf]; omega
              · rw [if_neg e5] at hr
                have f5 : (o.k == 5) = false := by simpa using e5
                by_cases e6 : o.k = 6
                · rw [if_pos e6] at hr
                  have f6 : (o.k == 6) = true := by simpa using e6
                  have H6 : Hid ((!(A == B)) = r) := hid hr
                  clear hr
                  clear e1 e2 e3 e4 e5 e6
                  go_upto_region 21 with (fail)
                  rw [H6.out]
                  refine wp_gen (fun U hU => ?_)
                  have hbU : Below wr.heap.size wr U := by rw [hU]; (repeat' (first | (with_reducible exact Below.refl _ _) | (with_reducible refine Below.ext_mk ?_ ?_ _ _) | (with_reducible refine Below.alloc ?_ ?_ _) | (with_reducible refine Below.drew ?_) | (with_reducible refine Below.setCell ?_ ?_ _) | go_size))
                  clear hU
                  have rowU : RowIs U sv G 4 1 k (bools (runB (bitsOf n) [] (l.take k))) := RowIs.keep hrow (fun g hg => hbU.block g (RowIs.lt hrow g hg))
                  have cbU : U.cell? ⟨w.heap.size, 0, none⟩ = some sv := (hbU.cell (p := ⟨w.heap.size, 0, none⟩) hbox).trans cb
                  have fbU : U.frozen? ⟨w.heap.size, 0, none⟩ = false := (hbU.frozen (p := ⟨w.heap.size, 0, none⟩) hbox).trans fb
                  have hboxU : w.heap.size < U.heap.size := Nat.lt_of_lt_of_le hbox hbU.size
                  have hbelU : Below w.heap.size w U := hbel.trans (hbU.mono hbel.size)
                  obtain ⟨v', w1, G', r1, r2, r3, r4, r5, r6, r7, r8, q1, q2, q3⟩ := lund_grow rowU hG hboxU hbelU cbU fbU (by omega) r
                  obtain ⟨sa', sc', rfl, _⟩ := RowIs.form r2
                  refine wp_region_do (fun F hF => ?_)
                  have HF := hid hF
                  clear hF hbU cb fb hbel hbox rowU hrow
                  repeat (refine do_val rfl (by go_simp; exact ⟨rfl, rfl⟩) ?_; simp only [Act.put, List.setIfInBounds_toArray, List.set_cons_zero, List.set_cons_succ])
                  refine do_val rfl (run_append_op _ _ _ _ _ _ _ _ _ r1) ?_
                  simp only [Act.put, List.setIfInBounds_toArray, List.set_cons_zero, List.set_cons_succ]
                  refine do_skip rfl (by go_simp; with_reducible rfl) ?_
                  simp only [Act.put, List.setIfInBounds_toArray, List.set_cons_zero, List.set_cons_succ]
                  refine do_end (HF.out _ _ ?_)
                  clear HF F
                  go_wp2
                  go_roundw
                  case rel =>
                    refine ⟨k + 1, by omega, by go_num, _, _, r4, r5, ?_, r6, r7, r8, rfl⟩
                    rw [HS.out]
                    exact r3
                  case measure => simp [intOf]; omega
                · rw [if_neg e6] at hr
                  have f6 : (o.k == 6) = false := by simpa using e6
                  clear e1 e2 e3 e4 e5 e6
                  rw [← hr] at HS
                  clear hr
                  go_upto_region 21 with (fail)
                  refine wp_gen (fun U hU => ?_)
                  have hbU : Below wr.heap.size wr U := by rw [hU]; (repeat' (first | (with_reducible exact Below.refl _ _) | (with_reducible refine Below.ext_mk ?_ ?_ _ _) | (with_reducible refine Below.alloc ?_ ?_ _) | (with_reducible refine Below.drew ?_) | (with_reducible refine Below.setCell ?_ ?_ _) | go_size))
                  clear hU
                  have rowU : RowIs U sv G 4 1 k (bools (runB (bitsOf n) [] (l.take k))) := RowIs.keep hrow (fun g hg => hbU.block g (RowIs.lt hrow g hg))
                  have cbU : U.cell? ⟨w.heap.size, 0, none⟩ = some sv := (hbU.cell (p := ⟨w.heap.size, 0, none⟩) hbox).trans cb
                  have fbU : U.frozen? ⟨w.heap.size, 0, none⟩ = false := (hbU.frozen (p := ⟨w.heap.size, 0, none⟩) hbox).trans fb
                  have hboxU : w.heap.size < U.heap.size := Nat.lt_of_lt_of_le hbox hbU.size
                  have hbelU : Below w.heap.size w U := hbel.trans (hbU.mono hbel.size)
                  obtain ⟨v', w1, G', r1, r2, r3, r4, r5, r6, r7, r8, q1, q2, q3⟩ := lund_grow rowU hG hboxU hbelU cbU fbU (by omega) false
                  obtain ⟨sa', sc', rfl, _⟩ := RowIs.form r2
                  refine wp_region_do (fun F hF => ?_)
                  have HF := hid hF
                  clear hF hbU cb fb hbel hbox rowU hrow
                  repeat (refine do_val rfl (by go_simp; exact ⟨rfl, rfl⟩) ?_; simp only [Act.put, List.setIfInBounds_toArray, List.set_cons_zero, List.set_cons_succ])
                  refine do_val rfl (run_append_op _ _ _ _ _ _ _ _ _ r1) ?_
                  simp only [Act.put, List.setIfInBounds_toArray, List.set_cons_zero, List.set_cons_succ]
                  refine do_skip rfl (by go_simp; with_reducible rfl) ?_
                  simp only [Act.put, List.setIfInBounds_toArray, List.set_cons_zero, List.set_cons_succ]
                  refine do_end (HF.out _ _ ?_)
                  clear HF F
                  go_wp2
                  go_roundw
                  case rel =>
                    refine ⟨k + 1, by omega, by go_num, _, _, r4, r5, ?_, r6, r7, r8, rfl⟩
                    rw [HS.out]
                    exact r3
                  case measure => simp [intOf]; omega
    · have e : k = l.length := by omega
      subst e
      go_wp2
      go_returns
      refine ⟨sv, G, rfl, by rw [List.take_length] at hrow; exact hrow, hbel, fun g hg => (hG g hg).1⟩
end Go.Proofs.Ytboekafmplomhaa
set_option linter.unusedVariables false
set_option linter.unusedSimpArgs false
namespace Go.Proofs.Ytboekafmplomhaa
open Go.RowKit

theorem infoInt_some : (Try.prog.info? 3).isSome = true := by kernel_rfl
noncomputable abbrev infoInt : TypeInfo := (Try.prog.info? 3).get infoInt_some
theorem infoInt_is : Try.prog.info? 3 = some infoInt := (Option.some_get _).symm
theorem infoInt_zero : infoInt.zero = some (.int .i64 0) := by kernel_rfl
theorem infoInt_size : infoInt.size = 1 := by kernel_rfl
theorem infoInt_bytes : infoInt.bytes = 8 := by kernel_rfl
theorem infoU64_some : (Try.prog.info? 36).isSome = true := by kernel_rfl
noncomputable abbrev infoU64 : TypeInfo := (Try.prog.info? 36).get infoU64_some
theorem infoU64_is : Try.prog.info? 36 = some infoU64 := (Option.some_get _).symm
theorem infoU64_zero : infoU64.zero = some (.int .u64 0) := by kernel_rfl
theorem infoU64_size : infoU64.size = 1 := by kernel_rfl
theorem infoU64_bytes : infoU64.bytes = 8 := by kernel_rfl

/-- 'make' of a row. -/
theorem make_row (t e : TypeId) (i : TypeInfo) (z : Value) (ht : Try.prog.underlying t = some (.slice e)) (hi : Try.prog.info? e = some i) (hz : i.zero = some z)
    (kl kc : IntKind) (n c : Nat) (hnc : n ≤ c) (hbytes : i.bytes * c ≤ 281474976710656) (h63 : c ≤ 9223372036854775807) (w : World) :
    (Instr.makeSlice t (.int kl (n : Int)) (.int kc (c : Int))).run Try.prog w = .ok (.slice (some ⟨w.heap.size, 0, none⟩) n c) (w.alloc (.cells (madeCells z.cells (c * i.size)) e)) := by
  have hb : (i.bytes : Int) * (c : Int) ≤ 281474976710656 := by
    have h : ((i.bytes * c : Nat) : Int) ≤ 281474976710656 := by omega
    rwa [Int.natCast_mul] at h
  have hr := run_make (P := Try.prog) w t e i z ht hi hz kl kc n c (by omega) (by omega) hb (by omega)
  simp only [Int.toNat_natCast] at hr
  exact hr

/-- A row of one-cell elements in a block of its own, of just its length. -/
def Arr (w : World) (g : Nat) (e : TypeId) (xs : List Value) : Prop := w.heap[g]? = some (.cells xs.toArray e (0, 0))
theorem Arr.lt {w : World} {g : Nat} {e : TypeId} {xs : List Value} (h : Arr w g e xs) : g < w.heap.size := (Array.getElem?_eq_some_iff.1 h).1
theorem Arr.cell {w : World} {g : Nat} {e : TypeId} {xs : List Value} (h : Arr w g e xs) (i : Nat) : w.cell? ⟨g, i, none⟩ = xs[i]? := by
  unfold Arr at h; simp [World.cell?, h]
theorem Arr.free {w : World} {g : Nat} {e : TypeId} {xs : List Value} (h : Arr w g e xs) (i : Nat) : w.frozen? ⟨g, i, none⟩ = false := by
  unfold Arr at h; simp [World.frozen?, h]
theorem Arr.keep {w w' : World} {g : Nat} {e : TypeId} {xs : List Value} (h : Arr w g e xs) (hk : w'.heap[g]? = w.heap[g]?) : Arr w' g e xs := by unfold Arr at *; rw [hk]; exact h
theorem Arr.below {w w' : World} {g : Nat} {e : TypeId} {xs : List Value} (h : Arr w g e xs) (hb : Below w.heap.size w w') : Arr w' g e xs := h.keep (hb.block g h.lt)
theorem Arr.set_ {w : World} {g : Nat} {e : TypeId} {xs : List Value} (h : Arr w g e xs) (i : Nat) (v : Value) : Arr (w.setCell ⟨g, i, none⟩ v) g e (xs.set i v) := by
  unfold Arr at *
  simp [World.setCell, Array.getElem?_modify, h]
theorem Arr.made {w : World} {z : Value} {e : TypeId} {n : Nat} (hz : z.cells = #[z]) : Arr (w.alloc (.cells (madeCells z.cells n) e)) w.heap.size e (List.replicate n z) := by
  unfold Arr
  rw [World.heap_alloc_last]
  have e : madeCells z.cells n = (List.replicate n z).toArray := by
    unfold madeCells
    rw [hz]
    apply Array.ext
    · simp
    · intro i h1 h2
      simp [Nat.mod_one]
  rw [e]

/-- A store, and the row of diagrams that were told, in blocks from B on. -/
structure Held (B : Nat) (w : World) (p : Nat) (F : List Nat) (S : Sto) (sv : Value) (G : Option Nat) (all : List Int) : Prop where
  sto : StoIs w p F S
  row : RowIs w sv G 3 1 all.length (ints all)
  from_ : ∀ k ∈ F, B ≤ k
  rowFrom : ∀ g, G = some g → B ≤ g ∧ g ∉ F
theorem Held.keep {B : Nat} {w w' : World} {p : Nat} {F : List Nat} {S : Sto} {sv : Value} {G : Option Nat} {all : List Int} (h : Held B w p F S sv G all)
    (hk : ∀ k, (k ∈ F ∨ G = some k) → w'.heap[k]? = w.heap[k]?) : Held B w' p F S sv G all :=
  ⟨h.sto.keep (fun k hk' => hk k (.inl hk')), RowIs.keep h.row (fun g hg => hk g (.inr hg)), h.from_, h.rowFrom⟩
theorem Held.below {B : Nat} {w w' : World} {p : Nat} {F : List Nat} {S : Sto} {sv : Value} {G : Option Nat} {all : List Int} (h : Held B w p F S sv G all) (hb : Below w.heap.size w w') : Held B w' p F S sv G all :=
  h.keep (fun k hk => hb.block k (by rcases hk with hk | hk; exact h.sto.lt k hk; exact RowIs.lt h.row k hk))

/-- One more diagram is told: the call, and append. -/
theorem Held.grow {B : Nat} {w w' : World} {p : Nat} {F F' : List Nat} {S S' : Sto} {sv : Value} {G : Option Nat} {all : List Int} (h : Held B w p F S sv G all) (hB : B ≤ w.heap.size)
    (hs : StoIs w' p F' S') (st : StoStep w w' F F') (hk : all.length ≤ 1000) (x : Int) :
    ∃ v' w1 G', (Builtin.append_ #[28, 28] 28 #[sv, .slice (some ⟨w'.heap.size, 0, none⟩) 1 1]).run Try.prog (w'.alloc (.cells #[.int .i64 x] 3)) = .ok v' w1 ∧
      Held B w1 p F' S' v' (some G') (all ++ [x]) ∧ Below B w w1 := by
  have hG : ∀ g, G = some g → g < w.heap.size ∧ g ∉ F' ∧ w'.heap[g]? = w.heap[g]? := fun g hg => by
    have h1 := RowIs.lt h.row g hg
    have h2 := h.rowFrom g hg
    exact ⟨h1, st.keeps h1 h2.2, st.block g h1 h2.2⟩
  have litn : (w'.alloc (.cells #[.int .i64 x] 3)).heap[w'.heap.size]? = some (.cells #[.int .i64 x] 3 (0, 0)) := World.heap_alloc_last w' _
  have row' : RowIs w' sv G 3 1 all.length (ints all) := RowIs.keep h.row (fun g hg => (hG g hg).2.2)
  have rowL : RowIs (w'.alloc (.cells #[.int .i64 x] 3)) sv G 3 1 all.length (ints all) := RowIs.keep row' (fun g hg => Below.heap_alloc _ _ _ (RowIs.lt row' g hg))
  obtain ⟨v', w1, G', r1, r2, r3, r4⟩ := append_row (P := Try.prog) 28 28 infoInt (.int .i64 0) 8 Try.underlying28 infoInt_is infoInt_zero infoInt_size infoInt_bytes rfl (by omega) rowL
    ⟨w'.heap.size, 0, none⟩ 1 1 [.int .i64 x] rfl (fun j u hu => by
      rcases j with _ | j
      · simp at hu; subst hu
        show (w'.alloc (.cells #[.int .i64 x] 3)).cell? ⟨w'.heap.size, 0, none⟩ = _
        simp only [World.cell?]
        rw [litn]; rfl
      · simp at hu) (by simp [Value.oneCell']) (by omega) (by unfold maxLen; omega) (by omega)
  have hFlt : ∀ k ∈ F', k < w'.heap.size := hs.lt
  have hne : ∀ k ∈ F', some k ≠ G := fun k hk e => (hG k e.symm).2.1 hk
  have kF : ∀ k ∈ F', w1.heap[k]? = w'.heap[k]? := fun k hk => (r3.block k (by have := hFlt k hk; simp; omega) (hne k hk)).trans (Below.heap_alloc _ _ _ (hFlt k hk))
  have e1 : ints (all ++ [x]) = ints all ++ [.int .i64 x] := by simp [ints]
  rw [← e1] at r2
  have hF' : ∀ k ∈ F', B ≤ k := st.low h.from_ hB
  refine ⟨v', w1, G', r1, ⟨hs.keep kF, by rw [List.length_append]; exact r2, hF', fun g hg => ?_⟩, ?_⟩
  · cases hg
    rcases r4 with e | ⟨e, _⟩
    · exact ⟨(h.rowFrom _ e).1, (hG _ e).2.1⟩
    · simp at e
      refine ⟨by have := st.size; omega, fun hm => by have := hFlt _ hm; omega⟩
  · have b1 : Below B w w' := st.below h.from_ hB
    exact (b1.alloc (Nat.le_trans hB st.size) _).grown r3 (by have := st.size; simp; omega) (fun g hg => (h.rowFrom g hg).1)
end Go.Proofs.Ytboekafmplomhaa
