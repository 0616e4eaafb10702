/-
  Package header: calls of a packet that lacks the header.
-/
import Derived.Test.YtkblldmpdihamaaZKnown19
set_option linter.unusedVariables false
set_option linter.unusedSimpArgs false
namespace Go.Proofs.Ytkblldmpdihamaa
open Go.RowKit

section
variable {q : Option Addr} {hb : Bool} {w : World}

theorem set_no {p : PG} (h f : Int) (n : BitVec 128) (HA : ∀ W, Below w.heap.size w W → Calls Try.prog 33 #[.pointer q, .int .i64 h] W (Pure (.bool hb) W)) (hno : hb = false) :
    Calls Try.prog 15 #[p.v, .pointer q, .int .i64 h, .int .i64 f, nv n] w (Pure (.tuple #[]) w) := by
  subst hno
  go_enter Try.func15, Try.ntmps15
  go_upto_region 1 with (fail)
  refine wp_region_seq (fun F hF => ?_)
  have HF := hid hF; clear hF
  repeat (first
    | (apply text_skip; (focus rfl); simp only [Act.put, List.setIfInBounds_toArray, List.set_cons_zero, List.set_cons_succ])
    | (apply text_val; (focus rfl); (focus (intro _ _; go_simp; with_reducible rfl)); simp only [Act.put, List.setIfInBounds_toArray, List.set_cons_zero, List.set_cons_succ])
    | (apply text_call; (focus rfl); (focus (intro _ _; go_simp; exact ⟨rfl, rfl⟩)); (focus (intro _ _; with_reducible (exact HA _ (by (repeat' (first | (with_reducible exact Below.refl _ _) | (with_reducible refine Below.ext_mk ?_ ?_ _ _) | (with_reducible refine Below.alloc ?_ ?_ _) | (with_reducible refine Below.drew ?_) | (with_reducible refine Below.setCell ?_ ?_ _) | go_size)))))); simp only [Act.put, List.setIfInBounds_toArray, List.set_cons_zero, List.set_cons_succ])
    | (apply text_if; (focus (first | exact wanted_t rfl rfl | exact wanted_f rfl rfl | exact wanted_gt rfl rfl | exact wanted_gf rfl rfl)); (focus (intro hc _ _; (try simp only [Bool.and_eq_true, Bool.not_eq_true', Bool.true_and] at hc); go_simp; with_reducible rfl)); simp only [Act.put, List.setIfInBounds_toArray, List.set_cons_zero, List.set_cons_succ])
    | (apply text_if_call; (focus (first | exact wanted_t rfl rfl | exact wanted_f rfl rfl | exact wanted_gt rfl rfl | exact wanted_gf rfl rfl)); (focus (intro hc _ _; (try simp only [Bool.and_eq_true, Bool.not_eq_true', Bool.true_and] at hc); go_simp; exact ⟨rfl, rfl⟩)); (focus (intro hc _ _; with_reducible (exact HA _ (by (repeat' (first | (with_reducible exact Below.refl _ _) | (with_reducible refine Below.ext_mk ?_ ?_ _ _) | (with_reducible refine Below.alloc ?_ ?_ _) | (with_reducible refine Below.drew ?_) | (with_reducible refine Below.setCell ?_ ?_ _) | go_size)))))); simp only [Act.put, List.setIfInBounds_toArray, List.set_cons_zero, List.set_cons_succ]))
  refine text_nil (HF.out _ (fun mx dx => ?_))
  clear HF F
  go_wp2_with fail
  go_returns
  exact Pure.of rfl (by (repeat' (first | (with_reducible exact Below.refl _ _) | (with_reducible refine Below.ext_mk ?_ ?_ _ _) | (with_reducible refine Below.alloc ?_ ?_ _) | (with_reducible refine Below.drew ?_) | (with_reducible refine Below.setCell ?_ ?_ _) | go_size)))
theorem valid_no (h : Int) (on : Bool) (HA : ∀ W, Below w.heap.size w W → Calls Try.prog 33 #[.pointer q, .int .i64 h] W (Pure (.bool hb) W)) (hno : hb = false) :
    Calls Try.prog 24 #[.pointer q, .int .i64 h, .bool on] w (Pure (.tuple #[]) w) := by
  subst hno
  go_enter Try.func24, Try.ntmps24
  go_upto_region 0 with (fail)
  refine wp_region_seq (fun F hF => ?_)
  have HF := hid hF; clear hF
  repeat (first
    | (apply text_skip; (focus rfl); simp only [Act.put, List.setIfInBounds_toArray, List.set_cons_zero, List.set_cons_succ])
    | (apply text_val; (focus rfl); (focus (intro _ _; go_simp; with_reducible rfl)); simp only [Act.put, List.setIfInBounds_toArray, List.set_cons_zero, List.set_cons_succ])
    | (apply text_call; (focus rfl); (focus (intro _ _; go_simp; exact ⟨rfl, rfl⟩)); (focus (intro _ _; with_reducible (exact HA _ (by (repeat' (first | (with_reducible exact Below.refl _ _) | (with_reducible refine Below.ext_mk ?_ ?_ _ _) | (with_reducible refine Below.alloc ?_ ?_ _) | (with_reducible refine Below.drew ?_) | (with_reducible refine Below.setCell ?_ ?_ _) | go_size)))))); simp only [Act.put, List.setIfInBounds_toArray, List.set_cons_zero, List.set_cons_succ])
    | (apply text_if; (focus (first | exact wanted_t rfl rfl | exact wanted_f rfl rfl | exact wanted_gt rfl rfl | exact wanted_gf rfl rfl)); (focus (intro hc _ _; (try simp only [Bool.and_eq_true, Bool.not_eq_true', Bool.true_and] at hc); go_simp; with_reducible rfl)); simp only [Act.put, List.setIfInBounds_toArray, List.set_cons_zero, List.set_cons_succ])
    | (apply text_if_call; (focus (first | exact wanted_t rfl rfl | exact wanted_f rfl rfl | exact wanted_gt rfl rfl | exact wanted_gf rfl rfl)); (focus (intro hc _ _; (try simp only [Bool.and_eq_true, Bool.not_eq_true', Bool.true_and] at hc); go_simp; exact ⟨rfl, rfl⟩)); (focus (intro hc _ _; with_reducible (exact HA _ (by (repeat' (first | (with_reducible exact Below.refl _ _) | (with_reducible refine Below.ext_mk ?_ ?_ _ _) | (with_reducible refine Below.alloc ?_ ?_ _) | (with_reducible refine Below.drew ?_) | (with_reducible refine Below.setCell ?_ ?_ _) | go_size)))))); simp only [Act.put, List.setIfInBounds_toArray, List.set_cons_zero, List.set_cons_succ]))
  refine text_nil (HF.out _ (fun mx dx => ?_))
  clear HF F
  go_wp2_with fail
  go_returns
  exact Pure.of rfl (by (repeat' (first | (with_reducible exact Below.refl _ _) | (with_reducible refine Below.ext_mk ?_ ?_ _ _) | (with_reducible refine Below.alloc ?_ ?_ _) | (with_reducible refine Below.drew ?_) | (with_reducible refine Below.setCell ?_ ?_ _) | go_size)))
set_option maxRecDepth 100000 in
theorem take_no {p : PG} {hs : List (SL × List Int)} (H : HeadsAre w p.heads hs) (h : Int) (hF : Few (headAt hs h).2)
    (HA : ∀ W, Below w.heap.size w W → Calls Try.prog 33 #[.pointer q, .int .i64 h] W (Pure (.bool hb) W)) (hno : hb = false) :
    Calls Try.prog 12 #[p.v, .pointer q, .int .i64 h] w (Pure (.bool false) w) := by
  subst hno
  have SZ := hid (fun V (hb : Below w.heap.size w V) => size_any (H.below hb) h hF)
  go_enter Try.func12, Try.ntmps12
  go_upto_region 1 with (fail)
  refine wp_region_seq (fun F hF => ?_)
  have HF := hid hF; clear hF
  repeat (first
    | (apply text_skip; (focus rfl); simp only [Act.put, List.setIfInBounds_toArray, List.set_cons_zero, List.set_cons_succ])
    | (apply text_val; (focus rfl); (focus (intro _ _; go_simp; with_reducible rfl)); simp only [Act.put, List.setIfInBounds_toArray, List.set_cons_zero, List.set_cons_succ])
    | (apply text_call; (focus rfl); (focus (intro _ _; go_simp; exact ⟨rfl, rfl⟩)); (focus (intro _ _; with_reducible (exact SZ.out _ (by (repeat' (first | (with_reducible exact Below.refl _ _) | (with_reducible refine Below.ext_mk ?_ ?_ _ _) | (with_reducible refine Below.alloc ?_ ?_ _) | (with_reducible refine Below.drew ?_) | (with_reducible refine Below.setCell ?_ ?_ _) | go_size)))))); simp only [Act.put, List.setIfInBounds_toArray, List.set_cons_zero, List.set_cons_succ])
    | (apply text_if; (focus (first | exact wanted_t rfl rfl | exact wanted_f rfl rfl | exact wanted_gt rfl rfl | exact wanted_gf rfl rfl)); (focus (intro hc _ _; (try simp only [Bool.and_eq_true, Bool.not_eq_true', Bool.true_and] at hc); go_simp; with_reducible rfl)); simp only [Act.put, List.setIfInBounds_toArray, List.set_cons_zero, List.set_cons_succ])
    | (apply text_if_call; (focus (first | exact wanted_t rfl rfl | exact wanted_f rfl rfl | exact wanted_gt rfl rfl | exact wanted_gf rfl rfl)); (focus (intro hc _ _; (try simp only [Bool.and_eq_true, Bool.not_eq_true', Bool.true_and] at hc); go_simp; exact ⟨rfl, rfl⟩)); (focus (intro hc _ _; with_reducible (exact SZ.out _ (by (repeat' (first | (with_reducible exact Below.refl _ _) | (with_reducible refine Below.ext_mk ?_ ?_ _ _) | (with_reducible refine Below.alloc ?_ ?_ _) | (with_reducible refine Below.drew ?_) | (with_reducible refine Below.setCell ?_ ?_ _) | go_size)))))); simp only [Act.put, List.setIfInBounds_toArray, List.set_cons_zero, List.set_cons_succ]))
  refine text_nil (HF.out _ (fun mx dx => ?_))
  clear HF F
  go_upto_region 2 with (fail)
  refine wp_region_ext (by kernel_rfl) (by kernel_rfl) (fun F hF => ?_)
  have HF := hid hF; clear hF
  repeat (first
    | (apply text_skip; (focus rfl); simp only [Act.put, List.setIfInBounds_toArray, List.set_cons_zero, List.set_cons_succ])
    | (apply text_val; (focus rfl); (focus (intro _ _; go_simp; with_reducible rfl)); simp only [Act.put, List.setIfInBounds_toArray, List.set_cons_zero, List.set_cons_succ])
    | (apply text_call; (focus rfl); (focus (intro _ _; go_simp; exact ⟨rfl, rfl⟩)); (focus (intro _ _; with_reducible (exact HA _ (by (repeat' (first | (with_reducible exact Below.refl _ _) | (with_reducible refine Below.ext_mk ?_ ?_ _ _) | (with_reducible refine Below.alloc ?_ ?_ _) | (with_reducible refine Below.drew ?_) | (with_reducible refine Below.setCell ?_ ?_ _) | go_size)))))); simp only [Act.put, List.setIfInBounds_toArray, List.set_cons_zero, List.set_cons_succ])
    | (apply text_if; (focus (first | exact wanted_t rfl rfl | exact wanted_f rfl rfl | exact wanted_gt rfl rfl | exact wanted_gf rfl rfl)); (focus (intro hc _ _; (try simp only [Bool.and_eq_true, Bool.not_eq_true', Bool.true_and] at hc); go_simp; with_reducible rfl)); simp only [Act.put, List.setIfInBounds_toArray, List.set_cons_zero, List.set_cons_succ])
    | (apply text_if_call; (focus (first | exact wanted_t rfl rfl | exact wanted_f rfl rfl | exact wanted_gt rfl rfl | exact wanted_gf rfl rfl)); (focus (intro hc _ _; (try simp only [Bool.and_eq_true, Bool.not_eq_true', Bool.true_and] at hc); go_simp; exact ⟨rfl, rfl⟩)); (focus (intro hc _ _; with_reducible (exact HA _ (by (repeat' (first | (with_reducible exact Below.refl _ _) | (with_reducible refine Below.ext_mk ?_ ?_ _ _) | (with_reducible refine Below.alloc ?_ ?_ _) | (with_reducible refine Below.drew ?_) | (with_reducible refine Below.setCell ?_ ?_ _) | go_size)))))); simp only [Act.put, List.setIfInBounds_toArray, List.set_cons_zero, List.set_cons_succ]))
  refine text_nil (HF.out _ (fun mx dx => ?_))
  clear HF F
  go_wp2_with fail
  go_returns
  exact Pure.of rfl (by (repeat' (first | (with_reducible exact Below.refl _ _) | (with_reducible refine Below.ext_mk ?_ ?_ _ _) | (with_reducible refine Below.alloc ?_ ?_ _) | (with_reducible refine Below.drew ?_) | (with_reducible refine Below.setCell ?_ ?_ _) | go_size)))
end
end Go.Proofs.Ytkblldmpdihamaa
set_option linter.unusedVariables false
set_option linter.unusedSimpArgs false
namespace Go.Proofs.Ytkblldmpdihamaa
open Go.RowKit

/-- Rows of numbers, each in a block. -/
def fsOf : List Nat → List (List (BitVec 128)) → List (SL × List (BitVec 128))
  | g :: gs, ns :: nss => (⟨some ⟨g, 0, none⟩, ns.length, ns.length⟩, ns) :: fsOf gs nss
  | _, _ => []
theorem fsOf_length : ∀ (gs : List Nat) (nss : List (List (BitVec 128))), gs.length = nss.length → (fsOf gs nss).length = nss.length
  | [], [], _ => rfl
  | g :: gs, ns :: nss, h => by rw [fsOf, List.length_cons, fsOf_length gs nss (by simpa using h), List.length_cons]
  | [], _ :: _, h => by simp at h
  | _ :: _, [], h => by simp at h
theorem fsOf_at : ∀ (gs : List Nat) (nss : List (List (BitVec 128))) (i g : Nat) (ns : List (BitVec 128)), gs[i]? = some g → nss[i]? = some ns → (fsOf gs nss)[i]? = some (⟨some ⟨g, 0, none⟩, ns.length, ns.length⟩, ns)
  | [], _, i, g, ns, h, _ => by simp at h
  | _ :: _, [], i, g, ns, _, h => by simp at h
  | g' :: gs, ns' :: nss, 0, g, ns, h1, h2 => by
    simp at h1 h2; subst h1 h2; rfl
  | g' :: gs, ns' :: nss, i + 1, g, ns, h1, h2 => by
    rw [fsOf, List.getElem?_cons_succ]
    exact fsOf_at gs nss i g ns (by simpa using h1) (by simpa using h2)
theorem fsOf_mem : ∀ (gs : List Nat) (nss : List (List (BitVec 128))) (x : SL × List (BitVec 128)), x ∈ fsOf gs nss → ∃ (i g : Nat) (ns : List (BitVec 128)), gs[i]? = some g ∧ nss[i]? = some ns ∧ x = (⟨some ⟨g, 0, none⟩, ns.length, ns.length⟩, ns)
  | [], _, x, h => by simp [fsOf] at h
  | _ :: _, [], x, h => by simp [fsOf] at h
  | g :: gs, ns :: nss, x, h => by
    rw [fsOf, List.mem_cons] at h
    rcases h with rfl | h
    · exact ⟨0, g, ns, rfl, rfl, rfl⟩
    · obtain ⟨i, g', ns', h1, h2, h3⟩ := fsOf_mem gs nss x h
      exact ⟨i + 1, g', ns', by simpa using h1, by simpa using h2, h3⟩
/-- The rows' headers: only their lengths matter. -/
theorem fsOf_rows : ∀ (gs : List Nat) (a b : List (List (BitVec 128))), a.map List.length = b.map List.length → (fsOf gs a).map (fun x => x.1.v) = (fsOf gs b).map (fun x => x.1.v)
  | [], _, _, _ => by simp [fsOf]
  | _ :: _, [], [], _ => by simp [fsOf]
  | g :: gs, x :: a, y :: b, h => by
    simp only [List.map_cons, List.cons.injEq] at h
    rw [fsOf, fsOf, List.map_cons, List.map_cons, fsOf_rows gs a b h.2, h.1]
  | _ :: _, [], _ :: _, h => by simp at h
  | _ :: _, _ :: _, [], h => by simp at h

/-- A packet at block b: its parts in blocks of their own. -/
structure PktIs (w : World) (b vb : Nat) (gs : List Nat) (k : PK) (l : List Nat) (va : List Bool) (nss : List (List (BitVec 128))) (mt : List (BitVec 128)) : Prop where
  blk : Blk w b 39 k.cs
  rest : RdS w 1 k.rest (byts l)
  bytes : ∀ x ∈ l, x < 256
  valid : k.valid = ⟨some ⟨vb, 0, none⟩, va.length, va.length⟩
  vblk : Blk w vb 4 (bools va)
  row : RdS w 1 k.fields ((fsOf gs nss).map fun x => x.1.v)
  len : gs.length = nss.length
  each : ∀ (i g : Nat) (ns : List (BitVec 128)), gs[i]? = some g → nss[i]? = some ns → Blk w g 45 (nums ns)
  metas : RdS w 2 k.metas (nums mt)
  nodup : (b :: vb :: gs).Nodup
  few : va.length ≤ 1000000 ∧ nss.length ≤ 1000000 ∧ (∀ ns ∈ nss, ns.length ≤ 1000000) ∧ l.length ≤ 100000
  aRest : Away k.rest (b :: vb :: gs)
  aRow : Away k.fields (b :: vb :: gs)
  aMet : Away k.metas (b :: vb :: gs)

section
variable {w w' : World} {b vb : Nat} {gs : List Nat} {k : PK} {l : List Nat} {va : List Bool} {nss : List (List (BitVec 128))} {mt : List (BitVec 128)}
theorem PktIs.below (h : PktIs w b vb gs k l va nss mt) (hb : Below w.heap.size w w') : PktIs w' b vb gs k l va nss mt :=
  { h with blk := h.blk.below hb, rest := h.rest.below hb, vblk := h.vblk.below hb, row := h.row.below hb, each := fun i g ns h1 h2 => (h.each i g ns h1 h2).below hb, metas := h.metas.below hb }
theorem PktIs.vrd (h : PktIs w b vb gs k l va nss mt) : RdS w 1 k.valid (bools va) := by
  rw [h.valid]; exact Blk.rdS h.vblk (by simp [bools]) h.few.1
theorem PktIs.frd (h : PktIs w b vb gs k l va nss mt) : FieldsAre w k.fields (fsOf gs nss) := by
  refine ⟨h.row, fun x hx => ?_⟩
  obtain ⟨i, g, ns, h1, h2, rfl⟩ := fsOf_mem gs nss x hx
  exact Blk.rdS (h.each i g ns h1 h2) (nums_length ns) (h.few.2.2.1 ns (List.mem_of_getElem? h2))
theorem PktIs.mem (h : PktIs w b vb gs k l va nss mt) {i g : Nat} (hg : gs[i]? = some g) : g < w.heap.size ∧ g ≠ b ∧ g ≠ vb := by
  have hi : i < gs.length := (List.getElem?_eq_some_iff.1 hg).1
  obtain ⟨ns, hn⟩ : ∃ ns, nss[i]? = some ns := ⟨nss[i]'(by have := h.len; omega), List.getElem?_eq_getElem (by have := h.len; omega)⟩
  have hm := List.mem_of_getElem? hg
  have hd := h.nodup
  simp only [List.nodup_cons, List.mem_cons, not_or] at hd
  exact ⟨(h.each i g ns hg hn).lt, fun e => hd.1.2 (e ▸ hm), fun e => hd.2.1 (e ▸ hm)⟩
theorem PktIs.bvb (h : PktIs w b vb gs k l va nss mt) : b ≠ vb := by
  have hd := h.nodup
  simp only [List.nodup_cons, List.mem_cons, not_or] at hd
  exact hd.1.1
theorem PktIs.inj (h : PktIs w b vb gs k l va nss mt) {i j g : Nat} (hi : gs[i]? = some g) (hj : gs[j]? = some g) : i = j := by
  have hd := h.nodup
  simp only [List.nodup_cons] at hd
  obtain ⟨h1, e1⟩ := List.getElem?_eq_some_iff.1 hi
  obtain ⟨h2, e2⟩ := List.getElem?_eq_some_iff.1 hj
  exact (List.getElem_inj hd.2.2).1 (e1.trans e2.symm)
end
end Go.Proofs.Ytkblldmpdihamaa
