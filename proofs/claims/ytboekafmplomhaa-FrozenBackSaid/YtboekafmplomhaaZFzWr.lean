/-
  Package frozen: written, Write.
-/
import Derived.Test.YtboekafmplomhaaZFzW
import Derived.Test.YtboekafmplomhaaZFzO2
import Derived.Test.YtboekafmplomhaaZTidy
set_option linter.unusedVariables false
set_option linter.unusedSimpArgs false
namespace Go.Proofs.Ytboekafmplomhaa
open Go.RowKit

theorem Rd.nodeAt {w : World} {a : Option Addr} {cap : Nat} {ns : List Nd} (h : Rd w 3 (.slice a ns.length cap) (flat ns)) {i : Nat} {n : Nd} (hn : ns[i]? = some n) :
    ∃ b off, a = some ⟨b, off, none⟩ ∧ b < w.heap.size ∧ w.cell? ⟨b, off + i * 3, none⟩ = some (.int .i64 n.1) ∧ w.cell? ⟨b, off + i * 3 + 1, none⟩ = some (.int .i64 n.2.1) ∧ w.cell? ⟨b, off + i * 3 + 2, none⟩ = some (.int .i64 n.2.2) := by
  obtain ⟨a', n', c', h1, _, _, _, h5⟩ := h
  cases h1
  have hi := (List.getElem?_eq_some_iff.1 hn).1
  obtain ⟨b, off, rfl, h6, h7⟩ := h5 (by omega)
  obtain ⟨f0, f1, f2⟩ := flat_at ns i n hn
  exact ⟨b, off, rfl, h6, h7 _ _ f0, by rw [Nat.add_assoc]; exact h7 _ _ f1, by rw [Nat.add_assoc]; exact h7 _ _ f2⟩
theorem Rd.lenN {w : World} {sv : Value} {ns : List Nd} (h : Rd w 3 sv (flat ns)) : ∃ a cap, sv = .slice a ns.length cap ∧ ns.length ≤ cap ∧ ns.length ≤ 9223372036854775807 := by
  obtain ⟨a, n, cap, h1, h2, h3, h4, _⟩ := h
  rw [flat_length] at h4
  obtain rfl : ns.length = n := by omega
  exact ⟨a, cap, h1, h2, h3⟩
/-- Nodes that can be written: no negative numbers, not too great. -/
def Wrt (ns : List Nd) (rs : List Int) : Prop := ns.length ≤ 1048576 ∧ rs.length ≤ 1000 ∧ (∀ x ∈ ns, 0 ≤ x.1 ∧ x.1 < 64 ∧ 0 ≤ x.2.1 ∧ x.2.1 ≤ 2000000 ∧ 0 ≤ x.2.2 ∧ x.2.2 ≤ 2000000) ∧ (∀ r ∈ rs, 0 ≤ r ∧ r ≤ 2000000)
theorem nodesB_len {ns : List Nd} (h : ∀ x ∈ ns, 0 ≤ x.1 ∧ x.1 < 64 ∧ 0 ≤ x.2.1 ∧ x.2.1 ≤ 2000000 ∧ 0 ≤ x.2.2 ∧ x.2.2 ≤ 2000000) : (ns.flatMap nodeB).length ≤ ns.length * 7 := by
  induction ns with
  | nil => simp
  | cons x r ih =>
    have hx := h x (by simp)
    have h1 := numB_len 3 x.2.1.toNat (by omega) (by omega)
    have h2 := numB_len 3 x.2.2.toNat (by omega) (by omega)
    have h3 := ih (fun y hy => h y (by simp [hy]))
    simp only [List.flatMap_cons, List.length_append, nodeB, List.length_cons]
    omega
theorem rootsB_len {rs : List Int} (h : ∀ r ∈ rs, 0 ≤ r ∧ r ≤ 2000000) : (rs.flatMap (fun a => numB a.toNat)).length ≤ rs.length * 3 := by
  induction rs with
  | nil => simp
  | cons x r ih =>
    have hx := h x (by simp)
    have h1 := numB_len 3 x.toNat (by omega) (by omega)
    have h3 := ih (fun y hy => h y (by simp [hy]))
    simp only [List.flatMap_cons, List.length_append, List.length_cons]
    omega

theorem take_node (ns : List Nd) (j : Nat) (x : Nd) (h : ns[j]? = some x) : (ns.take (j + 1)).flatMap nodeB = (ns.take j).flatMap nodeB ++ nodeB x := by
  rw [List.take_add_one, h]; simp
theorem take_root (rs : List Int) (j : Nat) (x : Int) (h : rs[j]? = some x) : (rs.take (j + 1)).flatMap (fun a => numB a.toNat) = (rs.take j).flatMap (fun a => numB a.toNat) ++ numB x.toNat := by
  rw [List.take_add_one, h]; simp
set_option maxRecDepth 100000 in
set_option maxHeartbeats 16000000 in
theorem written_any {w : World} {s1 s2 : Value} {ns : List Nd} {rs : List Int} (h1 : Rd w 3 s1 (flat ns)) (h2 : Rd w 1 s2 (ints rs)) (hW : Wrt ns rs) :
    Calls Try.prog 124 #[s1, s2] w (fun e w' => ∃ v, e = .returned v ∧ OwnB w.heap.size w' v (writeB ns rs) ∧ Below w.heap.size w w') := by
  obtain ⟨a1, c1, rfl, _, hm1⟩ := h1.lenN
  obtain ⟨a2, c2, rfl, _, hm2⟩ := h2.len
  have H1 := hid h1
  have H2 := hid h2
  have HW := hid hW
  clear h1 h2
  obtain ⟨hW1, hW2, -, -⟩ := hW
  have l0 := numB_len 3 ns.length (by omega) (by omega)
  have l1 := numB_len 2 rs.length (by omega) (by omega)
  have lN : ∀ j, ((ns.take j).flatMap nodeB).length ≤ ns.length * 7 := fun j => by
    have := nodesB_len (ns := ns.take j) (fun x hx => HW.out.2.2.1 x (List.mem_of_mem_take hx))
    have : (ns.take j).length ≤ ns.length := by simp; omega
    omega
  have lR : ∀ j, ((rs.take j).flatMap (fun a => numB a.toNat)).length ≤ rs.length * 3 := fun j => by
    have := rootsB_len (rs := rs.take j) (fun x hx => HW.out.2.2.2 x (List.mem_of_mem_take hx))
    have : (rs.take j).length ≤ rs.length := by simp; omega
    omega
  have own0 : GrowB w.heap.size (w.alloc (.cells (byts headB).toArray 5 (3, 4))) (.slice (some ⟨w.heap.size, 0, none⟩) 3 3) headB := .inr ⟨_, _, rfl, lit_rd w headB (by decide) _, by decide⟩
  obtain ⟨own1, hb1, -⟩ := numX_own ns.length own0 (by simp) (by simp [headB]; omega)
  have C0 := hid (number_any own0 (by simp) (by decide) ns.length (by omega))
  have HO1 := hid own1
  have HB1 := hid ((Below.alloc (Below.refl w.heap.size w) (Nat.le_refl _) (.cells (byts headB).toArray 5 (3, 4))).trans hb1)
  clear own1 hb1
  have e3 : (byts headB).toArray = #[.int .u8 81, .int .u8 66, .int .u8 1] := rfl
  rw [e3] at C0 HO1 HB1
  generalize numX ns.length (.slice (some ⟨w.heap.size, 0, none⟩) 3 3) (w.alloc (.cells #[.int .u8 81, .int .u8 66, .int .u8 1] 5 (3, 4))) = A1 at C0 HO1 HB1
  obtain ⟨V1, w1⟩ := A1
  simp only at C0 HO1 HB1
  have kc := fun (w : World) (C : Array Value) (n c : Nat) => Lib.run_convert_bytes_const (P := Try.prog) w 100 5 C n c Try.underlying100 Try.underlying5
  have L0 := hid (And.intro l0 (And.intro l1 (And.intro lN lR)))
  clear own0 e3 l0 l1 lN lR
  go_enter Try.func124, Try.ntmps124
  go_upto_region 1 with (fail)
  refine wp_region_doc (fun F' hF => ?_)
  have HF := hid hF
  clear hF
  refine doc_val rfl (by first | (go_simp; done) | (go_simp; exact ⟨rfl, rfl⟩) | (go_simp; with_reducible rfl)) ?_
  simp only [Act.put, List.setIfInBounds_toArray, List.set_cons_zero, List.set_cons_succ]
  have kc0 := kc w #[.int .u8 81, .int .u8 66, .int .u8 1] 3 3
  simp only [List.size_toArray, List.length_cons, List.length_nil, Nat.zero_add, Nat.reduceAdd] at kc0
  clear kc
  refine doc_val rfl (by first | (go_simp; done) | (go_simp; exact ⟨rfl, rfl⟩) | (go_simp; with_reducible rfl)) ?_
  simp only [Act.put, List.setIfInBounds_toArray, List.set_cons_zero, List.set_cons_succ]
  clear kc0
  iterate 2 (refine doc_val rfl (by first | (go_simp; done) | (go_simp; exact ⟨rfl, rfl⟩) | (go_simp; with_reducible rfl)) ?_; simp only [Act.put, List.setIfInBounds_toArray, List.set_cons_zero, List.set_cons_succ])
  refine doc_call rfl (by first | (go_simp; done) | (go_simp; exact ⟨rfl, rfl⟩) | (go_simp; with_reducible rfl)) ((C0.out).mono ?_)
  rintro _ _ ⟨rfl, rfl⟩
  refine ⟨_, rfl, ?_⟩
  simp only [Act.put, List.setIfInBounds_toArray, List.set_cons_zero, List.set_cons_succ]
  refine doc_val rfl (by first | (go_simp; done) | (go_simp; exact ⟨rfl, rfl⟩) | (go_simp; with_reducible rfl)) ?_
  simp only [Act.put, List.setIfInBounds_toArray, List.set_cons_zero, List.set_cons_succ]
  refine doc_end (HF.out _ _ ?_)
  clear HF F' C0
  go_wp2_with fail
  go_loopw [5, 17] (fun bv iv wr => ∃ j : Nat, j ≤ ns.length ∧ iv = .int .i64 j ∧ OwnB w.heap.size wr bv (headB ++ numB ns.length ++ (ns.take j).flatMap nodeB) ∧ Below w.heap.size w wr) (fun _ iv _ => ns.length - (intOf iv).toNat)
  case atStart => exact ⟨0, by omega, rfl, by simpa using HO1.out, HB1.out⟩
  case round =>
    obtain ⟨j, hj, rfl, hO, hb⟩ := hrel
    have HO := hid hO
    have HB := hid hb
    obtain ⟨sa, sc, rfl⟩ := hO.form
    clear hO hb
    by_cases hlt : j < ns.length
    · have hj1 : (j : Int) < (ns.length : Int) := by omega
      have hx := List.getElem?_eq_getElem hlt
      obtain ⟨q1, q2, q3, q4, q5, q6⟩ := HW.out.2.2.1 ns[j] (List.getElem_mem _)
      have TK := hid (take_node ns j _ hx)
      obtain ⟨b, off, rfl, hb1, g0, g1, g2⟩ := (H1.out.below HB.out).nodeAt hx
      generalize ns[j] = x at *
      obtain ⟨x1, x2, x3⟩ := x
      simp only at q1 q2 q3 q4 q5 q6 g0 g1 g2
      obtain ⟨v, rfl⟩ : ∃ v : Nat, x1 = v := ⟨x1.toNat, by omega⟩
      obtain ⟨lo, rfl⟩ : ∃ v : Nat, x2 = v := ⟨x2.toNat, by omega⟩
      obtain ⟨hi, rfl⟩ : ∃ v : Nat, x3 = v := ⟨x3.toNat, by omega⟩
      clear hx
      obtain ⟨pre, hpre⟩ : ∃ pre, pre = headB ++ numB ns.length ++ (ns.take j).flatMap nodeB := ⟨_, rfl⟩
      have hpl : pre.length ≤ 20000000 := by
        rw [hpre]
        have := L0.out.2.2.1 j
        have := L0.out.1
        simp only [List.length_append]
        have : headB.length = 3 := rfl
        omega
      rw [← hpre] at HO ⊢
      have HP := hid hpre
      obtain ⟨n0, hn0⟩ : ∃ n, n = pre.length := ⟨_, rfl⟩
      rw [← hn0] at HO hpl ⊢
      have HN0 := hid hn0
      clear hpre hn0
      go_upto_region 5 with (fail)
      refine wp_gen (fun U hU => ?_)
      have hbU : Below wr.heap.size wr U := by rw [hU]; (repeat' (first | (with_reducible exact Below.refl _ _) | (with_reducible refine Below.ext_mk ?_ ?_ _ _) | (with_reducible refine Below.alloc ?_ ?_ _) | (with_reducible refine Below.drew ?_) | (with_reducible refine Below.setCell ?_ ?_ _) | go_size))
      have bU : Blk U wr.heap.size 39 [.int .i64 v, .int .i64 lo, .int .i64 hi] := by rw [hU]; exact World.heap_alloc_last wr _
      have HBU := hid hbU
      clear hU g0 g1 g2
      have hsz := HB.out.size
      have oU : OwnB w.heap.size U.drew (.slice sa n0 sc) pre := (HO.out.below hbU).below (Below.drew (Below.refl _ _))
      have nU : blkOf (.slice sa n0 sc) ≠ some wr.heap.size := HO.out.lt (Nat.le_refl _)
      have bUd : Blk U.drew wr.heap.size 39 [.int .i64 v, .int .i64 lo, .int .i64 hi] := bU.below (Below.drew (Below.refl _ _))
      obtain ⟨Bx, hBx⟩ : ∃ b, b = wr.heap.size := ⟨_, rfl⟩
      rw [← hBx] at bU nU bUd ⊢
      have hwB : w.heap.size ≤ Bx := by omega
      have hwU : w.heap.size ≤ U.drew.heap.size := Nat.le_trans (Nat.le_trans hsz hbU.size) (Nat.le_refl _)
      have hn := HN0.out
      have lv := numB_len 3 lo (by omega) (by omega)
      have lh := numB_len 3 hi (by omega) (by omega)
      obtain ⟨p1, p2, p3, p4⟩ := GrowB.app (.inl oU) hwU (by omega) [v] (by simp) (by simp)
      obtain ⟨r1, r2, r3⟩ := numX_own lo (.inl p2) (Nat.le_trans hwU p3.size) (by simp; omega)
      have C1 := hid (number_any (.inl p2) (Nat.le_trans hwU p3.size) (by simp; omega) lo (by omega))
      obtain ⟨s1, s2, s3⟩ := numX_own hi (.inl r1) (Nat.le_trans hwU (Nat.le_trans p3.size r2.size)) (by simp; omega)
      have C2 := hid (number_any (.inl r1) (Nat.le_trans hwU (Nat.le_trans p3.size r2.size)) (by simp; omega) hi (by omega))
      have b2 := p4.blk bUd nU
      have b3 := r3.blk b2 (p4.own _ bUd.lt nU)
      have b4 := s3.blk b3 (r3.own _ b2.lt (p4.own _ bUd.lt nU))
      have b1 : Blk (U.drew.alloc (.cells (byts [v]).toArray 5)) Bx 39 [.int .i64 v, .int .i64 lo, .int .i64 hi] := bUd.below (Below.alloc (Below.refl _ _) (Nat.le_refl _) _)
      generalize appB (.slice sa n0 sc) [v] U.drew = A at *
      obtain ⟨v1, W2⟩ := A
      generalize numX lo (v1, W2).1 (v1, W2).2 = A at *
      obtain ⟨v2, W3⟩ := A
      generalize numX hi (v2, W3).1 (v2, W3).2 = A at *
      obtain ⟨v3, W4⟩ := A
      simp only at p1 p2 p3 p4 r1 r2 r3 s1 s2 s3 b2 b3 b4 C1 C2
      have w8 : IntKind.u8.wrap (v : Int) = (v : Int) := by rw [IntKind.wrap_u8]; omega
      have P1 := hid p1
      have S1 := hid (And.intro s1 (p3.trans (r2.trans s2)))
      have BS := hid (And.intro bUd (And.intro b1 (And.intro b2 (And.intro b3 b4))))
      have HX := hid (And.intro hBx (And.intro hwB hwU))
      clear p1 p2 p3 p4 r1 r2 r3 s1 s2 s3 bUd b1 b2 b3 b4 hBx hwB hwU bU nU oU hbU hn lv lh hsz hb1
      refine wp_region_stage [4, 5, 8, 11] (fun i W => Blk W Bx 39 [.int .i64 v, .int .i64 lo, .int .i64 hi] ∧ (i = 0 → W = U.drew) ∧ (i = 1 → W = U.drew.alloc (.cells #[.int .u8 v] 5)) ∧ (i = 2 → W = W2) ∧ (i = 3 → W = W3) ∧ (i = 4 → W = W4))
        (by kernel_rfl) (by kernel_rfl) (by kernel_rfl) (by kernel_rfl) ⟨BS.out.1, fun _ => rfl, fun h => by omega, fun h => by omega, fun h => by omega, fun h => by omega⟩ (fun F' hF' => ?_)
      have HF := hid hF'
      clear hF'
      repeat (first
        | (apply sg_any; (focus rfl); (focus rfl); (focus (intro _; go_simp; with_reducible rfl)); simp only [Act.put, List.setIfInBounds_toArray, List.set_cons_zero, List.set_cons_succ])
        | (apply sg_read 0 0; (focus rfl); (focus (decide +kernel)); (focus (decide +kernel)); (focus rfl); (focus (intro ii w' l' u hR; have e0 := hR.1.cell 0; have e1 := hR.1.cell 1; have e2 := hR.1.cell 2; have e3 := hR.1.lt; clear hR; simp only [List.getElem?_cons_zero, List.getElem?_cons_succ] at e0 e1 e2; go_simp; with_reducible rfl)); simp only [Act.put, List.setIfInBounds_toArray, List.set_cons_zero, List.set_cons_succ]))
      refine sg_turn 0 (v := .slice (some ⟨U.drew.heap.size, 0, none⟩) 1 1) rfl rfl (fun W hR => ⟨U.drew.alloc (.cells #[.int .u8 v] 5), by rw [hR.2.1 rfl]; clear hR; go_simp, BS.out.2.1, fun h => by omega, fun _ => rfl, fun h => by omega, fun h => by omega, fun h => by omega⟩) ?_
      simp only [Act.put, List.setIfInBounds_toArray, List.set_cons_zero, List.set_cons_succ]
      refine sg_turn 1 (v := v1) rfl rfl (fun W hR => ⟨W2, by rw [hR.2.2.1 rfl]; clear hR; exact run_append_op _ _ _ _ _ _ _ _ _ P1.out, BS.out.2.2.1, fun h => by omega, fun h => by omega, fun _ => rfl, fun h => by omega, fun h => by omega⟩) ?_
      simp only [Act.put, List.setIfInBounds_toArray, List.set_cons_zero, List.set_cons_succ]
      repeat (first
        | (apply sg_any; (focus rfl); (focus rfl); (focus (intro _; go_simp; with_reducible rfl)); simp only [Act.put, List.setIfInBounds_toArray, List.set_cons_zero, List.set_cons_succ])
        | (apply sg_read 0 2; (focus rfl); (focus (decide +kernel)); (focus (decide +kernel)); (focus rfl); (focus (intro ii w' l' u hR; have e0 := hR.1.cell 0; have e1 := hR.1.cell 1; have e2 := hR.1.cell 2; have e3 := hR.1.lt; clear hR; simp only [List.getElem?_cons_zero, List.getElem?_cons_succ] at e0 e1 e2; go_simp; with_reducible rfl)); simp only [Act.put, List.setIfInBounds_toArray, List.set_cons_zero, List.set_cons_succ]))
      refine sg_turn_call 2 (v := v2) (f := 143) (args := #[v1, .int .i64 lo]) rfl rfl (fun _ => by first | (go_simp; done) | (go_simp; exact ⟨rfl, rfl⟩)) (fun W hR => by
        rw [hR.2.2.2.1 rfl]
        refine C1.out.mono ?_
        rintro e w' ⟨rfl, rfl⟩
        exact ⟨rfl, BS.out.2.2.2.1, fun h => by omega, fun h => by omega, fun h => by omega, fun _ => rfl, fun h => by omega⟩) ?_
      simp only [Act.put, List.setIfInBounds_toArray, List.set_cons_zero, List.set_cons_succ]
      repeat (first
        | (apply sg_any; (focus rfl); (focus rfl); (focus (intro _; go_simp; with_reducible rfl)); simp only [Act.put, List.setIfInBounds_toArray, List.set_cons_zero, List.set_cons_succ])
        | (apply sg_read 0 3; (focus rfl); (focus (decide +kernel)); (focus (decide +kernel)); (focus rfl); (focus (intro ii w' l' u hR; have e0 := hR.1.cell 0; have e1 := hR.1.cell 1; have e2 := hR.1.cell 2; have e3 := hR.1.lt; clear hR; simp only [List.getElem?_cons_zero, List.getElem?_cons_succ] at e0 e1 e2; go_simp; with_reducible rfl)); simp only [Act.put, List.setIfInBounds_toArray, List.set_cons_zero, List.set_cons_succ]))
      refine sg_turn_call 3 (v := v3) (f := 143) (args := #[v2, .int .i64 hi]) rfl rfl (fun _ => by first | (go_simp; done) | (go_simp; exact ⟨rfl, rfl⟩)) (fun W hR => by
        rw [hR.2.2.2.2.1 rfl]
        refine C2.out.mono ?_
        rintro e w' ⟨rfl, rfl⟩
        exact ⟨rfl, BS.out.2.2.2.2, fun h => by omega, fun h => by omega, fun h => by omega, fun h => by omega, fun _ => rfl⟩) ?_
      simp only [Act.put, List.setIfInBounds_toArray, List.set_cons_zero, List.set_cons_succ]
      refine sg_any rfl rfl (fun _ => by go_simp; with_reducible rfl) ?_
      simp only [Act.put, List.setIfInBounds_toArray, List.set_cons_zero, List.set_cons_succ]
      refine sg_end (HF.out _ (fun w3 hR => ?_))
      obtain rfl := hR.2.2.2.2.2 rfl
      clear hR HF F' P1 C1 C2 BS
      go_wp2_with fail
      go_roundw
      case rel =>
        refine ⟨j + 1, by omega, by go_num, ?_, ?_⟩
        · have h := S1.out.1
          rw [TK.out]
          have e : pre ++ [v] ++ numB lo ++ numB hi = headB ++ numB ns.length ++ ((ns.take j).flatMap nodeB ++ nodeB ((v : Int), (lo : Int), (hi : Int))) := by
            rw [HP.out]
            have e1 : ((v : Int).toNat) % 256 = v := by omega
            simp only [nodeB, Int.toNat_natCast, Nat.mod_eq_of_lt (show v < 256 by omega)]
            simp
          rw [← e]
          exact h
        · have := S1.out.2
          have hh : Below w.heap.size w U.drew := (HB.out.trans (HBU.out.mono HB.out.size)).trans (Below.drew (Below.refl _ _))
          exact hh.trans this
      case measure => simp [intOf]; omega
    · obtain rfl : j = ns.length := by omega
      obtain ⟨pre, hpre⟩ : ∃ pre, pre = headB ++ numB ns.length ++ (ns.take ns.length).flatMap nodeB := ⟨_, rfl⟩
      have hpl : pre.length ≤ 20000000 := by
        rw [hpre]
        have := L0.out.2.2.1 ns.length
        have := L0.out.1
        simp only [List.length_append]
        have : headB.length = 3 := rfl
        omega
      rw [← hpre] at HO ⊢
      have HP := hid (by rw [List.take_length] at hpre; exact hpre)
      obtain ⟨n0, hn0⟩ : ∃ n, n = pre.length := ⟨_, rfl⟩
      have hln := L0.out.2.1
      have O1 : GrowB w.heap.size wr (.slice sa pre.length sc) pre := .inl HO.out
      rw [← hn0] at O1 ⊢
      rw [← hn0] at hpl
      obtain ⟨r1, r2, -⟩ := numX_own rs.length O1 HB.out.size (by omega)
      have C1 := hid (number_any O1 HB.out.size (by omega) rs.length (by omega))
      generalize numX rs.length (.slice sa n0 sc) wr = A at *
      obtain ⟨v1, W1⟩ := A
      simp only at r1 r2 C1
      have HR1 := hid r1
      have HB1 := hid (HB.out.trans r2)
      have HN0 := hid hn0
      clear r1 r2 O1 hpre hn0 hln HO1
      go_upto_region 7 with (fail)
      refine wp_region_doc (fun F' hF => ?_)
      have HF := hid hF
      clear hF
      iterate 3 (refine doc_val rfl (by first | (go_simp; done) | (go_simp; exact ⟨rfl, rfl⟩) | (go_simp; with_reducible rfl)) ?_; simp only [Act.put, List.setIfInBounds_toArray, List.set_cons_zero, List.set_cons_succ])
      refine doc_call rfl (by first | (go_simp; done) | (go_simp; exact ⟨rfl, rfl⟩) | (go_simp; with_reducible rfl)) ((C1.out).mono ?_)
      rintro _ _ ⟨rfl, rfl⟩
      refine ⟨_, rfl, ?_⟩
      simp only [Act.put, List.setIfInBounds_toArray, List.set_cons_zero, List.set_cons_succ]
      refine doc_val rfl (by first | (go_simp; done) | (go_simp; exact ⟨rfl, rfl⟩) | (go_simp; with_reducible rfl)) ?_
      simp only [Act.put, List.setIfInBounds_toArray, List.set_cons_zero, List.set_cons_succ]
      refine doc_end (HF.out _ _ ?_)
      clear HF F' C1
      go_wp2_with fail
      go_loopw [5, 40] (fun bv iv wr => ∃ j : Nat, j ≤ rs.length ∧ iv = .int .i64 j ∧ OwnB w.heap.size wr bv (pre ++ numB rs.length ++ (rs.take j).flatMap (fun a => numB a.toNat)) ∧ Below w.heap.size w wr) (fun _ iv _ => rs.length - (intOf iv).toNat)
      case atStart => exact ⟨0, by omega, rfl, by simpa using HR1.out, HB1.out⟩
      case round =>
        obtain ⟨j, hj, rfl, hO, hb⟩ := hrel
        have HO := hid hO
        have HB := hid hb
        obtain ⟨sa, sc, rfl⟩ := hO.form
        clear hO hb
        obtain ⟨cur, hcur⟩ : ∃ cur, cur = pre ++ numB rs.length ++ (rs.take j).flatMap (fun a => numB a.toNat) := ⟨_, rfl⟩
        have hcl : cur.length ≤ 30000000 := by
          rw [hcur]
          have := L0.out.2.2.2 j
          have := L0.out.2.1
          have := HN0.out
          simp only [List.length_append]
          omega
        rw [← hcur] at HO ⊢
        have HC := hid hcur
        obtain ⟨c0, hc0⟩ : ∃ n, n = cur.length := ⟨_, rfl⟩
        rw [← hc0] at HO hcl ⊢
        have HC0 := hid hc0
        clear hcur hc0
        by_cases hlt : j < rs.length
        · have hj1 : (j : Int) < (rs.length : Int) := by omega
          obtain ⟨b, off, rfl, hb1, c⟩ := Rd.intAt (H2.out.below HB.out) hlt
          obtain ⟨q1, q2⟩ := HW.out.2.2.2 rs[j] (List.getElem_mem _)
          have TK := hid (take_root rs j _ (List.getElem?_eq_getElem hlt))
          generalize rs[j] = x at *
          obtain ⟨x, rfl⟩ : ∃ v : Nat, x = v := ⟨x.toNat, by omega⟩
          have lv := numB_len 3 x (by omega) (by omega)
          have O1 : GrowB w.heap.size wr (.slice sa c0 sc) cur := .inl HO.out
          have hcn := HC0.out
          obtain ⟨r1, r2, -⟩ := numX_own x O1 HB.out.size (by omega)
          have C1 := hid (number_any O1 HB.out.size (by omega) x (by omega))
          generalize numX x (.slice sa c0 sc) wr = A at *
          obtain ⟨v1, W1⟩ := A
          simp only at r1 r2 C1
          have HR1 := hid r1
          have HB2 := hid (HB.out.trans r2)
          clear r1 r2 O1 hcn lv q1 q2
          go_upto_region 11 with (fail)
          refine wp_region_doc (fun F' hF => ?_)
          have HF := hid hF
          clear hF
          iterate 2 (refine doc_val rfl (by first | (go_simp; done) | (go_simp; exact ⟨rfl, rfl⟩) | (go_simp; with_reducible rfl)) ?_; simp only [Act.put, List.setIfInBounds_toArray, List.set_cons_zero, List.set_cons_succ])
          refine doc_call rfl (by first | (go_simp; done) | (go_simp; exact ⟨rfl, rfl⟩) | (go_simp; with_reducible rfl)) ((C1.out).mono ?_)
          rintro _ _ ⟨rfl, rfl⟩
          refine ⟨_, rfl, ?_⟩
          simp only [Act.put, List.setIfInBounds_toArray, List.set_cons_zero, List.set_cons_succ]
          refine doc_val rfl (by first | (go_simp; done) | (go_simp; exact ⟨rfl, rfl⟩) | (go_simp; with_reducible rfl)) ?_
          simp only [Act.put, List.setIfInBounds_toArray, List.set_cons_zero, List.set_cons_succ]
          refine doc_end (HF.out _ _ ?_)
          clear HF F' C1
          go_wp2_with fail
          go_roundw
          case rel =>
            refine ⟨j + 1, by omega, by go_num, ?_, HB2.out⟩
            have h := HR1.out
            rw [TK.out, ← List.append_assoc, ← HC.out]
            simpa using h
          case measure => simp [intOf]; omega
        · obtain rfl : j = rs.length := by omega
          have hcb : cur = bodyB ns rs := by
            have h1 := HC.out
            rw [List.take_length, HP.out] at h1
            exact h1
          obtain ⟨v1, W1, C1, r1, r2⟩ := sealed_own (l := cur) (.inl HO.out) (by
            rw [hcb]
            intro y hy
            simp only [bodyB, List.mem_append, List.mem_flatMap] at hy
            rcases hy with (((hy | hy) | ⟨x, _, hy⟩) | hy) | ⟨x, _, hy⟩
            · simp [headB] at hy; omega
            · exact numB_lt _ y hy
            · simp only [nodeB, List.mem_cons, List.mem_append] at hy
              rcases hy with rfl | hy | hy
              · omega
              · exact numB_lt _ y hy
              · exact numB_lt _ y hy
            · exact numB_lt _ y hy
            · exact numB_lt _ y hy) HB.out.size (by have := HC0.out; omega)
          have C1 := hid C1
          have R1 := hid r1
          have HB2 := hid (HB.out.trans r2)
          have HCB := hid hcb
          clear r1 r2 hcb
          go_upto_region 13 with (fail)
          refine wp_region_doc (fun F' hF => ?_)
          have HF := hid hF
          clear hF
          refine doc_val rfl (by first | (go_simp; done) | (go_simp; exact ⟨rfl, rfl⟩) | (go_simp; with_reducible rfl)) ?_
          simp only [Act.put, List.setIfInBounds_toArray, List.set_cons_zero, List.set_cons_succ]
          refine doc_call rfl (by first | (go_simp; done) | (go_simp; exact ⟨rfl, rfl⟩) | (go_simp; with_reducible rfl)) ((C1.out).mono ?_)
          rintro _ _ ⟨rfl, rfl⟩
          refine ⟨_, rfl, ?_⟩
          simp only [Act.put, List.setIfInBounds_toArray, List.set_cons_zero, List.set_cons_succ]
          refine doc_val rfl (by first | (go_simp; done) | (go_simp; exact ⟨rfl, rfl⟩) | (go_simp; with_reducible rfl)) ?_
          simp only [Act.put, List.setIfInBounds_toArray, List.set_cons_zero, List.set_cons_succ]
          refine doc_end (HF.out _ _ ?_)
          clear HF F' C1
          go_wp2_with fail
          go_returns
          refine ⟨_, rfl, ?_, HB2.out⟩
          have h := R1.out
          rw [HCB.out] at h
          exact h
end Go.Proofs.Ytboekafmplomhaa
