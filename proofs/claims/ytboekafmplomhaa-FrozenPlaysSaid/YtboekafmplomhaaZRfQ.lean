/-
  The document's order is the program's, in plain Lean.
-/
import Derived.Test.YtboekafmplomhaaZRfW
import Derived.Test.YtboekafmplomhaaZFzBkB
set_option linter.unusedVariables false
set_option linter.unusedSimpArgs false
namespace Go.Proofs.Ytboekafmplomhaa

theorem findF_snoc (y x : Int) : ∀ (l : List Int) (k : Nat), findF (l ++ [y]) x k = if 0 ≤ findF l x k then findF l x k else if y = x then ((k + l.length : Nat) : Int) + 2 else -1
  | [], k => by
    simp only [List.nil_append, findF, List.length_nil, Nat.add_zero]
    split
    · rfl
    · rfl
  | z :: l, k => by
    by_cases e : z = x
    · have a1 : findF (z :: l ++ [y]) x k = (k : Int) + 2 := by rw [List.cons_append, findF, if_pos e]
      have a2 : findF (z :: l) x k = (k : Int) + 2 := by rw [findF, if_pos e]
      rw [a1, a2, if_pos (by omega)]
    · have a1 : findF (z :: l ++ [y]) x k = findF (l ++ [y]) x (k + 1) := by rw [List.cons_append, findF, if_neg e]
      have a2 : findF (z :: l) x k = findF l x (k + 1) := by rw [findF, if_neg e]
      rw [a1, a2, findF_snoc y x l (k + 1)]
      simp only [List.length_cons]
      rw [show k + 1 + l.length = k + (l.length + 1) by omega]
structure OldRel (K : List (Int × Int)) (old : List Int) : Prop where
  one : aget K 1 = some 1
  zero : aget K 0 = none
  rel : ∀ x, 2 ≤ x → findF old x 0 = (aget K x).getD (-1)
  pos : ∀ x k, aget K x = some k → 0 ≤ k

section
variable {at_ : Int → Nd × Bool} {R : RSt}
def okN (R : RSt) (a : Int) : Prop := 0 ≤ a ∧ a < R.L.length + 2
structure SrcOf (at_ : Int → Nd × Bool) (R : RSt) : Prop where
  tell : ∀ a, okN R a → ((at_ a).2 = true ↔ 2 ≤ a)
  node : ∀ a, okN R a → 2 ≤ a → (at_ a).1 = rnd R a
  low : Lower R
theorem SrcOf.part (h : SrcOf at_ R) {a : Int} (ha : okN R a) (ht : (at_ a).2 = true) : (0 ≤ (at_ a).1.2.1 ∧ (at_ a).1.2.1 < a) ∧ (0 ≤ (at_ a).1.2.2 ∧ (at_ a).1.2.2 < a) := by
  have h2 := (h.tell a ha).1 ht
  rw [h.node a ha h2]
  have hi : (a - 2).toNat < R.L.length := by have := ha.2; omega
  have hx : R.L[(a - 2).toNat]? = some R.L[(a - 2).toNat] := by simp [hi]
  have := h.low _ _ hx
  unfold rnd
  rw [hx]
  simp only [Option.getD_some]
  omega
theorem SrcOf.lo (h : SrcOf at_ R) (a : Int) (ha : okN R a) (ht : (at_ a).2 = true) : (at_ a).1.2.1.toNat < a.toNat ∧ okN R (at_ a).1.2.1 := by
  have := h.part ha ht
  have := ha.2
  exact ⟨by omega, by omega, by omega⟩
theorem SrcOf.hi (h : SrcOf at_ R) (a : Int) (ha : okN R a) (ht : (at_ a).2 = true) : (at_ a).1.2.2.toNat < a.toNat ∧ okN R (at_ a).1.2.2 := by
  have := h.part ha ht
  have := ha.2
  exact ⟨by omega, by omega, by omega⟩
theorem rel_num {K : List (Int × Int)} {old : List Int} (h : SrcOf at_ R) (hr : OldRel K old) {x : Int} (hx : okN R x) (hk : Kn at_ K x) : findO old x = numK K x := by
  unfold findO numK
  by_cases h2 : x < 2
  · rw [if_pos h2]
    have : x = 0 ∨ x = 1 := by have := hx.1; omega
    rcases this with rfl | rfl
    · rw [hr.zero]; rfl
    · rw [hr.one]; rfl
  · rw [if_neg h2, hr.rel x (by omega)]
    rcases hk with hk | hk
    · obtain ⟨k, hk⟩ := Option.isSome_iff_exists.1 hk
      rw [hk]; rfl
    · rw [(h.tell x hx).2 (by omega)] at hk; cases hk
theorem lay_ord (h : SrcOf at_ R) : ∀ (n : Nat) (K : List (Int × Int)) (ns : List Nd) (old : List Int) (a : Int), okN R a → a.toNat < n → OldRel K old → old.length = ns.length → OrdInv at_ (okN R) K ns →
    (layN R n ns old a).1 = (ordN at_ n K ns a).2.1 ∧ OldRel (ordN at_ n K ns a).1 (layN R n ns old a).2 ∧ (layN R n ns old a).2.length = (layN R n ns old a).1.length ∧ findO (layN R n ns old a).2 a = (ordN at_ n K ns a).2.2
  | 0, _, _, _, _, _, hn, _, _, _ => by omega
  | n + 1, K, ns, old, a, ha, hn, hr, hl, hI => by
    rw [layN, ordN]
    by_cases hno : (aget K a).isSome = true ∨ (at_ a).2 = false
    · have e := rel_num h hr ha hno
      have h0 : 0 ≤ findO old a := by rw [e]; exact (numK_le hI a).1
      rw [if_pos hno, if_pos h0]
      exact ⟨rfl, hr, hl, e⟩
    · have ht : (at_ a).2 = true := by
        cases q : (at_ a).2 with
        | true => rfl
        | false => exact absurd (.inr q) hno
      have hnone : aget K a = none := by
        cases q : aget K a with
        | none => rfl
        | some k => exact absurd (.inl (by rw [q]; rfl)) hno
      have h2 := (h.tell a ha).1 ht
      have hm1 : findO old a = -1 := by unfold findO; rw [if_neg (by omega), hr.rel a h2, hnone]; rfl
      rw [if_neg hno, if_neg (by omega)]
      obtain ⟨r1, o1⟩ := h.lo a ha ht
      obtain ⟨r2, o2⟩ := h.hi a ha ht
      rw [← h.node a ha h2]
      obtain ⟨i1, i2, i3, i4⟩ := lay_ord h n K ns old (at_ a).1.2.1 o1 (by omega) hr hl hI
      have g1 := ordN_inv (rk := fun x => x.toNat) h.lo h.hi n K ns (at_ a).1.2.1 o1 (by omega) hI
      generalize ordN at_ n K ns (at_ a).1.2.1 = A at *
      generalize layN R n ns old (at_ a).1.2.1 = P at *
      obtain ⟨P1, P2⟩ := P
      simp only at i1 i2 i3 i4 ⊢
      subst i1
      obtain ⟨j1, j2, j3, j4⟩ := lay_ord h n A.1 A.2.1 P2 (at_ a).1.2.2 o2 (by omega) i2 i3 g1.inv
      have g2 := ordN_inv (rk := fun x => x.toNat) h.lo h.hi n A.1 A.2.1 (at_ a).1.2.2 o2 (by omega) g1.inv
      generalize ordN at_ n A.1 A.2.1 (at_ a).1.2.2 = B at *
      generalize layN R n A.2.1 P2 (at_ a).1.2.2 = Q at *
      obtain ⟨Q1, Q2⟩ := Q
      simp only at j1 j2 j3 j4 ⊢
      subst j1
      have hBn : aget B.1 a = none := by
        cases q : aget B.1 a with
        | none => rfl
        | some k =>
          exfalso
          rcases g2.new a k q with q | q
          · rcases g1.new a k q with q | q
            · rw [hnone] at q; cases q
            · omega
          · omega
      have e1 : findO Q2 (at_ a).1.2.1 = A.2.2 := by
        rw [rel_num h j2 o1 (g1.kn.ext g2.ext), g1.told]
        exact numK_ext g2.inv g1.inv.one g1.kn g2.ext
      have e2 : findO Q2 (at_ a).1.2.2 = B.2.2 := by rw [rel_num h j2 o2 g2.kn, g2.told]
      have hfa : findF Q2 a 0 = -1 := by rw [j2.rel a h2, hBn]; rfl
      have hsn : ∀ x, findF (Q2 ++ [a]) x 0 = if 0 ≤ findF Q2 x 0 then findF Q2 x 0 else if a = x then ((B.2.1.length + 2 : Nat) : Int) else -1 := fun x => by
        rw [findF_snoc, j3, Nat.zero_add]
        rfl
      refine ⟨by rw [e1, e2], ⟨?_, ?_, fun x hx => ?_, fun x k hx => ?_⟩, by simp [j3], ?_⟩
      · rw [aget_aput, if_neg (by omega)]; exact j2.one
      · rw [aget_aput, if_neg (by omega)]; exact j2.zero
      · rw [aget_aput, hsn]
        by_cases e : a = x
        · subst e
          rw [hfa, if_neg (by omega), if_pos rfl, if_pos rfl]
          rfl
        · rw [if_neg e, if_neg e, j2.rel x hx]
          cases q : aget B.1 x with
          | none => rfl
          | some k =>
            have := j2.pos x k q
            simp only [Option.getD_some]
            rw [if_pos this]
      · rw [aget_aput] at hx
        split at hx
        · cases hx; omega
        · exact j2.pos x k hx
      · unfold findO
        rw [if_neg (by omega), hsn, hfa, if_neg (by omega), if_pos rfl]
theorem order_same (h : SrcOf at_ R) : ∀ (l : List Int) (K : List (Int × Int)) (ns : List Nd) (old rs : List Int), (∀ x ∈ l, okN R x ∨ ((at_ x).2 = false ∧ ¬ okN R x)) → OldRel K old → old.length = ns.length → OrdInv at_ (okN R) K ns →
    (l.foldl (rordS R (R.L.length + 2)) (ns, old, rs)).1 = (ordL at_ (R.L.length + 2) K ns rs l).1 ∧ (l.foldl (rordS R (R.L.length + 2)) (ns, old, rs)).2.1.length = (ordL at_ (R.L.length + 2) K ns rs l).1.length ∧ (l.foldl (rordS R (R.L.length + 2)) (ns, old, rs)).2.2 = (ordL at_ (R.L.length + 2) K ns rs l).2
  | [], K, ns, old, rs, _, _, hl, _ => ⟨rfl, hl, rfl⟩
  | x :: l, K, ns, old, rs, hx, hr, hl, hI => by
    rw [List.foldl_cons, ordL]
    rcases hx x (by simp) with ho | ⟨h1, h2⟩
    · have e : rright R x = x := by unfold rright; rw [if_pos (show 0 ≤ x ∧ x < (R.L.length : Int) + 2 from ho)]
      obtain ⟨i1, i2, i3, i4⟩ := lay_ord h (R.L.length + 2) K ns old x ho (by have := ho.2; omega) hr hl hI
      have g := ordN_inv (rk := fun x => x.toNat) h.lo h.hi (R.L.length + 2) K ns x ho (by have := ho.2; omega) hI
      have es : rordS R (R.L.length + 2) (ns, old, rs) x = ((layN R (R.L.length + 2) ns old x).1, (layN R (R.L.length + 2) ns old x).2, rs ++ [findO (layN R (R.L.length + 2) ns old x).2 x]) := by unfold rordS; rw [e]
      rw [es, i1, i4]
      exact order_same h l _ _ _ _ (fun y hy => hx y (by simp [hy])) i2 (by rw [i3, i1]) g.inv
    · have e : rright R x = 0 := by unfold rright; rw [if_neg (show ¬ (0 ≤ x ∧ x < (R.L.length : Int) + 2) from h2)]
      have hnone : aget K x = none := by
        cases q : aget K x with
        | none => rfl
        | some k =>
          rcases hI.num x k q with ⟨q1, _⟩ | ⟨_, q1, _⟩
          · exact absurd ⟨by omega, by omega⟩ h2
          · exact absurd q1 h2
      have eo : ordN at_ (R.L.length + 2) K ns x = (K, ns, 0) := by
        rw [show R.L.length + 2 = (R.L.length + 1) + 1 from rfl, ordN, if_pos (.inr h1), hnone]; rfl
      have el : layN R (R.L.length + 2) ns old 0 = (ns, old) := by
        rw [show R.L.length + 2 = (R.L.length + 1) + 1 from rfl, layN, if_pos (by unfold findO; rw [if_pos (by omega)]; omega)]
      have es : rordS R (R.L.length + 2) (ns, old, rs) x = (ns, old, rs ++ [0]) := by
        unfold rordS
        rw [e]
        simp only [el]
        unfold findO
        rw [if_pos (by omega)]
      rw [es, eo]
      exact order_same h l K ns old (rs ++ [0]) (fun y hy => hx y (by simp [hy])) hr hl hI
end
theorem old_start : OldRel [(1, 1)] [] where
  one := rfl
  zero := rfl
  rel x hx := by
    have : ¬ (1 : Int) = x := by omega
    simp [findF, aget, this]
  pos x k h := by
    by_cases e : (1 : Int) = x
    · subst e
      have : (1 : Int) = k := by simpa [aget] using h
      omega
    · simp [aget, e] at h
section
variable {S : Sto}
theorem lower_sto (hW : Wf S) : Lower (rOf S) := fun i n hn => by
  have ok := hW.node i n hn
  exact ⟨ok.lo0, ok.lo, ok.hi0, ok.hi⟩
theorem src_sto (hW : Wf S) : SrcOf (atV S) (rOf S) where
  tell a ha := by
    have hs : S.has a := ha
    constructor
    · intro h
      obtain ⟨i, n, rfl, _⟩ := atV_yes h
      omega
    · intro h
      obtain ⟨i, n, rfl, hn⟩ := has_node hs (by omega)
      rw [atV_node hW hn]
  node a ha h2 := by
    have hs : S.has a := ha
    obtain ⟨i, n, rfl, hn⟩ := has_node hs (by omega)
    rw [atV_node hW hn]
    unfold rnd
    rw [show ((i : Int) + 2 - 2).toNat = i by omega]
    show n = ((rOf S).L[i]?).getD (0, 0, 0)
    rw [show (rOf S).L = S.nodes from rfl, hn]
    rfl
  low := lower_sto hW
theorem ord_doc (hW : Wf S) (l : List Int) : (rordV (rOf S) ((rOf S).L.length + 2) l).1 = (ordS S l).1 ∧ (rordV (rOf S) ((rOf S).L.length + 2) l).2.1.length = (ordS S l).1.length ∧ (rordV (rOf S) ((rOf S).L.length + 2) l).2.2 = (ordS S l).2 := by
  have h := order_same (src_sto hW) l [(1, 1)] [] [] [] (fun x _ => by
    by_cases hx : okN (rOf S) x
    · exact .inl hx
    · refine .inr ⟨?_, hx⟩
      unfold atV rightOf
      have : x < 0 ∨ (S.nodes.length : Int) + 2 ≤ x := by
        unfold okN at hx
        have : (rOf S).L.length = S.nodes.length := rfl
        omega
      rw [if_pos this, if_pos (by omega)]) old_start rfl (OrdInv.start _ _)
  exact h
end
section
variable {ns : List Nd}
def rNs (ns : List Nd) (cap : Int) : RSt := ⟨cap, ns, false⟩
theorem src_ns (hN : NsOk ns) (cap : Int) : SrcOf (atR ns) (rNs ns cap) where
  tell a ha := by
    unfold atR
    by_cases h : a < 2
    · rw [if_pos h]; constructor
      · intro q; cases q
      · intro q; omega
    · rw [if_neg h]; constructor
      · intro _; omega
      · intro _; rfl
  node a ha h2 := by
    unfold atR
    rw [if_neg (by omega)]
    rfl
  low i n hn := by
    obtain ⟨_, _, h3, h4, h5, h6, _⟩ := hN.ok i n hn
    exact ⟨h3, h4, h5, h6⟩
theorem ord_docR (hN : NsOk ns) (cap : Int) {l : List Int} (hl : ∀ x ∈ l, okR ns x) : (rordV (rNs ns cap) (ns.length + 2) l).1 = (ordR ns l).1 ∧ (rordV (rNs ns cap) (ns.length + 2) l).2.1.length = (ordR ns l).1.length ∧ (rordV (rNs ns cap) (ns.length + 2) l).2.2 = (ordR ns l).2 :=
  order_same (src_ns hN cap) l [(1, 1)] [] [] [] (fun x hx => .inl (hl x hx)) old_start rfl (OrdInv.start _ _)
end
end Go.Proofs.Ytboekafmplomhaa
set_option linter.unusedVariables false
set_option linter.unusedSimpArgs false
namespace Go.Proofs.Ytboekafmplomhaa
open Go.RowKit

def numU : Nat → Nat → Nat → List Nat → Option (Nat × List Nat)
  | 0, _, _, _ => none
  | _ + 1, _, _, [] => none
  | k + 1, sh, n, x :: l => if x < 128 then (if x = 0 ∧ 0 < sh then none else some (n + x * 2 ^ sh, l)) else numU k (sh + 7) (n + (x - 128) * 2 ^ sh) l
theorem numG_numU (bel : Nat) : ∀ (k sh n : Nat) (l : List Nat), numG bel k sh n l = match numU k sh n l with | none => none | some (m, r) => if bel ≤ m then none else some (m, r)
  | 0, _, _, _ => rfl
  | _ + 1, _, _, [] => rfl
  | k + 1, sh, n, x :: l => by
    rw [numG, numU]
    by_cases h : x < 128
    · rw [if_pos h, if_pos h]
      by_cases h0 : x = 0 ∧ 0 < sh
      · rw [if_pos (.inr h0), if_pos h0]
      · rw [if_neg h0]
        by_cases hb : bel ≤ n + x * 2 ^ sh
        · rw [if_pos (.inl hb)]; simp only; rw [if_pos hb]
        · rw [if_neg (by intro q; rcases q with q | q; exact hb q; exact h0 q)]; simp only; rw [if_neg hb]
    · rw [if_neg h, if_neg h]
      exact numG_numU bel k (sh + 7) _ l
theorem numV_numU (bel : Nat) (l : List Nat) : numV bel l = match numU 4 0 0 l with | none => none | some (m, r) => if bel ≤ m then none else some (m, r) := numG_numU bel 4 0 0 l
theorem numU_len : ∀ (k sh n : Nat) (l : List Nat) (a : Nat) (r : List Nat), numU k sh n l = some (a, r) → ∃ pre, l = pre ++ r ∧ 0 < pre.length
  | 0, _, _, _, _, _, h => by simp [numU] at h
  | _ + 1, _, _, [], _, _, h => by simp [numU] at h
  | k + 1, sh, n, x :: l, a, r, h => by
    rw [numU] at h
    split at h
    · split at h
      · cases h
      · cases h
        exact ⟨[x], rfl, by simp⟩
    · obtain ⟨pre, h1, h2⟩ := numU_len k _ _ l a r h
      exact ⟨x :: pre, by rw [h1]; rfl, by simp⟩
/-- A number at a place, and where it ends; -1: there is none. -/
def takeV (l : List Nat) (at_ : Nat) : Int × Int := match numU 4 0 0 (l.drop at_) with | none => (-1, (at_ : Int)) | some (m, r) => ((m : Int), ((l.length - r.length : Nat) : Int))
theorem numU_nil (k sh n : Nat) : numU k sh n [] = none := by cases k <;> rfl

set_option maxRecDepth 100000 in
set_option maxHeartbeats 8000000 in
theorem take_any {w : World} {sv : Value} {l : List Nat} (h : Rd w 1 sv (byts l)) (hl : ∀ y ∈ l, y < 256) (at_ : Nat) (hat : at_ ≤ 9000000) (hk : l.length ≤ 9000000) :
    Calls Try.prog 153 #[sv, .int .i64 at_] w (Pure (.tuple #[.int .i64 (takeV l at_).1, .int .i64 (takeV l at_).2]) w) := by
  obtain ⟨la, lc, rfl, hlc, hlm⟩ := h.lenB
  obtain ⟨R, hR⟩ : ∃ R, R = takeV l at_ := ⟨_, rfl⟩
  rw [← hR]
  have HR : Hid (R = match numU 4 0 0 (l.drop at_) with | none => (-1, (at_ : Int)) | some (m, r) => ((m : Int), ((l.length - r.length : Nat) : Int))) := hid hR
  have H := hid h
  have HL := hid hl
  have w4 : IntKind.i64.wrap ((at_ : Int) + 4) = (at_ : Int) + 4 := IntWalk.i64_in _ (by omega)
  clear h hl hR
  go_enter Try.func153, Try.ntmps153
  go_wp2_with fail
  go_loopw [6, 7, 8] (fun nv tv iv wr => ∃ (r acc T : Nat), r ≤ 4 ∧ at_ + r ≤ 9000004 ∧ nv = .int .i64 acc ∧ tv = .int .i64 T ∧ iv = .int .i64 ((at_ + r : Nat) : Int) ∧ T = 2 ^ (7 * r) ∧ acc < 2 ^ (7 * r) ∧ numU 4 0 0 (l.drop at_) = numU (4 - r) (7 * r) acc (l.drop (at_ + r)) ∧ wr = w) (fun _ _ iv _ => at_ + 4 - (intOf iv).toNat)
  case atStart => exact ⟨0, 0, 1, by omega, by omega, rfl, rfl, by simp, rfl, by simp, by simp, rfl⟩
  case round =>
    obtain ⟨r, acc, T, hr, har, rfl, rfl, rfl, hT, hacc, hnu, rfl⟩ := hrel
    obtain ⟨i, hi⟩ : ∃ i, i = at_ + r := ⟨_, rfl⟩
    rw [← hi] at hnu ⊢
    have HI := hid hi
    by_cases hlt : i < l.length
    · have hi1 : (i : Int) < (l.length : Int) := by omega
      by_cases hr4 : r < 4
      · have hi2 : (i : Int) < (at_ : Int) + 4 := by omega
        obtain ⟨b, off, rfl, hb1, c⟩ := Rd.byteAt H.out hlt
        have hx := HL.out l[i] (List.getElem_mem _)
        rw [List.drop_eq_getElem_cons hlt, show 4 - r = (3 - r) + 1 by omega, numU] at hnu
        have hTb : T ≤ 2097152 := by rw [hT]; exact Nat.pow_le_pow_right (by omega) (show 7 * r ≤ 21 by omega)
        have hab : acc < T := by rw [hT]; exact hacc
        rw [← hT] at hnu
        generalize l[i] = x at *
        obtain ⟨y, hy⟩ : ∃ y, y = x % 128 := ⟨_, rfl⟩
        have hy2 : y < 128 := by omega
        obtain ⟨z, hz⟩ : ∃ z, z = T * y := ⟨_, rfl⟩
        have hzb : z ≤ T * 127 := by rw [hz]; exact Nat.mul_le_mul_left _ (by omega)
        have t1 : (x : Int).tmod 128 = (y : Int) := by rw [Int.tmod_eq_emod_of_nonneg (by omega)]; omega
        have t2 : IntKind.u8.wrap (y : Int) = (y : Int) := by rw [IntKind.wrap_u8]; omega
        have t3 : IntKind.i64.wrap (y : Int) = (y : Int) := IntWalk.i64_in _ (by omega)
        have t4 : IntKind.i64.wrap ((T : Int) * (y : Int)) = (z : Int) := by rw [show (T : Int) * (y : Int) = (z : Int) by rw [hz]; simp, IntWalk.i64_in _ (by omega)]
        have t5 : IntKind.i64.wrap ((acc : Int) + (z : Int)) = ((acc + z : Nat) : Int) := by rw [IntWalk.i64_in _ (by omega)]; simp
        obtain ⟨acc', hacc'⟩ : ∃ a, a = acc + z := ⟨_, rfl⟩
        rw [← hacc'] at t5
        obtain ⟨T', hT'⟩ : ∃ t, t = T * 128 := ⟨_, rfl⟩
        have t6 : IntKind.i64.wrap ((T : Int) * 128) = (T' : Int) := by rw [IntWalk.i64_in _ (by omega)]; omega
        have t7 : IntKind.i64.wrap ((i : Int) + 1) = ((i + 1 : Nat) : Int) := by rw [IntWalk.i64_in _ (by omega)]; simp
        by_cases hx1 : x < 128
        · have hx2 : (x : Int) < 128 := by omega
          rw [if_pos hx1] at hnu
          have hyx : y = x := by omega
          by_cases hx0 : x = 0
          · by_cases hr0 : 0 < r
            · have e : R = (-1, (at_ : Int)) := by rw [HR.out, hnu, if_pos ⟨hx0, by omega⟩]
              have c0 : ((x : Int) == 0) = true := by rw [hx0]; rfl
              have c1 : (at_ : Int) < (i : Int) := by omega
              rw [e]
              clear hnu hacc hT hi hz hy hacc' hT' hx0 hyx e
              go_wp2_with fail
              go_returns
              exact Pure.of rfl (by (repeat' (first | (with_reducible exact Below.refl _ _) | (with_reducible refine Below.ext_mk ?_ ?_ _ _) | (with_reducible refine Below.alloc ?_ ?_ _) | (with_reducible refine Below.drew ?_) | (with_reducible refine Below.setCell ?_ ?_ _) | go_size)))
            · have e : R = ((acc' : Int), ((i + 1 : Nat) : Int)) := by
                rw [HR.out, hnu, if_neg (by omega)]
                simp only [List.length_drop]
                rw [show l.length - (l.length - (i + 1)) = i + 1 by omega, hacc', hz, hyx, Nat.mul_comm]
              have c0 : ((x : Int) == 0) = true := by rw [hx0]; rfl
              have c1 : ¬ (at_ : Int) < (i : Int) := by omega
              rw [e]
              clear hnu hacc hT hi hz hy hacc' hT' hx0 hyx e
              go_wp2_with fail
              go_returns
              exact Pure.of rfl (by (repeat' (first | (with_reducible exact Below.refl _ _) | (with_reducible refine Below.ext_mk ?_ ?_ _ _) | (with_reducible refine Below.alloc ?_ ?_ _) | (with_reducible refine Below.drew ?_) | (with_reducible refine Below.setCell ?_ ?_ _) | go_size)))
          · have e : R = ((acc' : Int), ((i + 1 : Nat) : Int)) := by
              rw [HR.out, hnu, if_neg (by omega)]
              simp only [List.length_drop]
              rw [show l.length - (l.length - (i + 1)) = i + 1 by omega, hacc', hz, hyx, Nat.mul_comm]
            have c0 : ((x : Int) == 0) = false := beq_eq_false_iff_ne.2 (by omega)
            rw [e]
            clear hnu hacc hT hi hz hy hacc' hT' hyx e
            go_wp2_with fail
            go_returns
            exact Pure.of rfl (by (repeat' (first | (with_reducible exact Below.refl _ _) | (with_reducible refine Below.ext_mk ?_ ?_ _ _) | (with_reducible refine Below.alloc ?_ ?_ _) | (with_reducible refine Below.drew ?_) | (with_reducible refine Below.setCell ?_ ?_ _) | go_size)))
        · have hx2 : ¬ (x : Int) < 128 := by omega
          rw [if_neg hx1] at hnu
          have hyx : y = x - 128 := by omega
          have hpow : 2 ^ (7 * (r + 1)) = T * 128 := by rw [hT, show 7 * (r + 1) = 7 * r + 7 by omega, Nat.pow_add]
          have HN : Hid (numU 4 0 0 (l.drop at_) = numU (4 - (r + 1)) (7 * (r + 1)) acc' (l.drop (at_ + (r + 1)))) := hid (by
            rw [hnu, show 3 - r = 4 - (r + 1) by omega, show 7 * r + 7 = 7 * (r + 1) by omega, hacc', hz, hyx, Nat.mul_comm (x - 128) T, show i + 1 = at_ + (r + 1) by omega])
          have HP := hid (And.intro (show T' = 2 ^ (7 * (r + 1)) by rw [hT', hpow]) (show acc' < 2 ^ (7 * (r + 1)) by rw [hpow, hacc']; omega))
          clear hnu hacc hT hi hz hy hacc' hT' hyx hpow
          go_wp2_with fail
          go_roundw
          case rel => exact ⟨r + 1, acc', T', by omega, by omega, rfl, rfl, by have := HI.out; simp; omega, HP.out.1, HP.out.2, HN.out, by first | rfl | trivial⟩
          case measure => have := HI.out; simp [intOf]; omega
      · have hi2 : ¬ (i : Int) < (at_ : Int) + 4 := by omega
        have e : R = (-1, (at_ : Int)) := by rw [HR.out, hnu, show 4 - r = 0 by omega]; rfl
        have HE := hid e
        clear hnu hacc hT hi e
        go_wp2_with fail
        go_returns
        exact Pure.of (by rw [HE.out]; rfl) (by (repeat' (first | (with_reducible exact Below.refl _ _) | (with_reducible refine Below.ext_mk ?_ ?_ _ _) | (with_reducible refine Below.alloc ?_ ?_ _) | (with_reducible refine Below.drew ?_) | (with_reducible refine Below.setCell ?_ ?_ _) | go_size)))
    · have hi1 : ¬ (i : Int) < (l.length : Int) := by omega
      have e : R = (-1, (at_ : Int)) := by rw [HR.out, hnu, List.drop_of_length_le (by omega), numU_nil]
      have HE := hid e
      clear hnu hacc hT hi e
      go_wp2_with fail
      go_returns
      exact Pure.of (by rw [HE.out]; rfl) (by (repeat' (first | (with_reducible exact Below.refl _ _) | (with_reducible refine Below.ext_mk ?_ ?_ _ _) | (with_reducible refine Below.alloc ?_ ?_ _) | (with_reducible refine Below.drew ?_) | (with_reducible refine Below.setCell ?_ ?_ _) | go_size)))
end Go.Proofs.Ytboekafmplomhaa
set_option linter.unusedVariables false
set_option linter.unusedSimpArgs false
namespace Go.Proofs.Ytboekafmplomhaa
open Go.RowKit

theorem numU_drop {l : List Nat} {p m : Nat} {r : List Nat} (h : numU 4 0 0 (l.drop p) = some (m, r)) (hp : p ≤ l.length) : ∃ q : Nat, takeV l p = ((m : Int), (q : Int)) ∧ p < q ∧ q ≤ l.length ∧ r = l.drop q := by
  obtain ⟨pre, h1, h2⟩ := numU_len 4 0 0 _ m r h
  have hl : (l.drop p).length = pre.length + r.length := by rw [h1]; simp
  rw [List.length_drop] at hl
  refine ⟨l.length - r.length, by unfold takeV; rw [h], by omega, by omega, ?_⟩
  have e : l.drop (p + pre.length) = r := by
    rw [← List.drop_drop, h1]; simp
  rw [← e]
  congr 1
  rw [e]
  omega
theorem takeV_none {l : List Nat} {p : Nat} (h : numU 4 0 0 (l.drop p) = none) : takeV l p = (-1, (p : Int)) := by unfold takeV; rw [h]

def rnodes : Nat → List Nd → List Nat → Option (List Nd × List Nat)
  | 0, ns, l => some (ns, l)
  | _ + 1, _, [] => none
  | m + 1, ns, v :: l1 =>
    match numU 4 0 0 l1 with
    | none => none
    | some (lo, l2) =>
      match numU 4 0 0 l2 with
      | none => none
      | some (hi, l3) => if ns.length + 2 ≤ lo ∨ ns.length + 2 ≤ hi ∨ 63 < v then none else rnodes m (ns ++ [((v : Int), (lo : Int), (hi : Int))]) l3
def rtail (ns : List Nd) (l : List Nat) : Option (List Nd × List Int) :=
  match numU 4 0 0 l with
  | none => none
  | some (k, l3) => if 64 < k then none else
    match rootsG (ns.length + 2) k [] l3 with
    | none => none
    | some (rs, l4) => if l4 = [] then some (ns, rs) else none
def rparts1 (m : Nat) (ns : List Nd) (l : List Nat) : Option (List Nd × List Int) :=
  match rnodes m ns l with
  | none => none
  | some (ns', l2) => rtail ns' l2
def rparts2 (ns : List Nd) (m : Nat) (rs : List Int) (l : List Nat) : Option (List Nd × List Int) :=
  match rootsG (ns.length + 2) m rs l with
  | none => none
  | some (rs', l4) => if l4 = [] then some (ns, rs') else none
def rparts (l : List Nat) : Option (List Nd × List Int) :=
  match numU 4 0 0 l with
  | none => none
  | some (m, l1) => if 8388608 ≤ m then none else rparts1 m [] l1
theorem rparts1_zero (ns : List Nd) (l : List Nat) : rparts1 0 ns l = rtail ns l := rfl
theorem rparts1_nil (m : Nat) (ns : List Nd) : rparts1 (m + 1) ns [] = none := rfl
theorem rparts1_more (m : Nat) (ns : List Nd) (v : Nat) (l1 : List Nat) : rparts1 (m + 1) ns (v :: l1) =
    match numU 4 0 0 l1 with
    | none => none
    | some (lo, l2) =>
      match numU 4 0 0 l2 with
      | none => none
      | some (hi, l3) => if ns.length + 2 ≤ lo ∨ ns.length + 2 ≤ hi ∨ 63 < v then none else rparts1 m (ns ++ [((v : Int), (lo : Int), (hi : Int))]) l3 := by
  unfold rparts1
  rw [rnodes]
  cases numU 4 0 0 l1 with
  | none => rfl
  | some x =>
    obtain ⟨lo, l2⟩ := x
    simp only
    cases numU 4 0 0 l2 with
    | none => rfl
    | some y =>
      obtain ⟨hi, l3⟩ := y
      simp only
      by_cases hc : ns.length + 2 ≤ lo ∨ ns.length + 2 ≤ hi ∨ 63 < v
      · simp only [hc, if_true]
      · simp only [hc, if_false]
theorem rtail_eq (ns : List Nd) (l : List Nat) : rtail ns l = match numU 4 0 0 l with | none => none | some (k, l3) => if 64 < k then none else rparts2 ns k [] l3 := rfl
theorem rparts2_zero (ns : List Nd) (rs : List Int) (l : List Nat) : rparts2 ns 0 rs l = if l = [] then some (ns, rs) else none := rfl
theorem rparts2_more (ns : List Nd) (m : Nat) (rs : List Int) (l : List Nat) : rparts2 ns (m + 1) rs l = match numU 4 0 0 l with | none => none | some (a, l1) => if ns.length + 2 ≤ a then none else rparts2 ns m (rs ++ [(a : Int)]) l1 := by
  unfold rparts2
  rw [rootsG, numV_numU]
  cases numU 4 0 0 l with
  | none => rfl
  | some x =>
    obtain ⟨a, l1⟩ := x
    simp only
    by_cases h : ns.length + 2 ≤ a
    · rw [if_pos h, if_pos h]
    · rw [if_neg h, if_neg h]

/-- Are nodes those of diagrams: no parts the same, parts with greater variables, none twice? -/
def nodeR (ns : List Nd) (x : Nd) : Bool := decide (x.2.1 ≠ x.2.2) && decide (x.1 < topR ns x.2.1.toNat) && decide (x.1 < topR ns x.2.2.toNat)
def rightV (ns : List Nd) : Bool := ns.all (nodeR ns) && decide ns.Nodup
/-- Parts within bounds. -/
structure InOk (ns : List Nd) : Prop where
  ok : ∀ (i : Nat) (x : Nd), ns[i]? = some x → 0 ≤ x.1 ∧ x.1 < 64 ∧ 0 ≤ x.2.1 ∧ x.2.1 < i + 2 ∧ 0 ≤ x.2.2 ∧ x.2.2 < i + 2
theorem InOk.more {ns : List Nd} (h : InOk ns) {v lo hi : Nat} (h1 : lo < ns.length + 2) (h2 : hi < ns.length + 2) (h3 : v < 64) : InOk (ns ++ [((v : Int), (lo : Int), (hi : Int))]) := by
  refine ⟨fun i x hx => ?_⟩
  rw [List.getElem?_append] at hx
  split at hx
  · exact h.ok i x hx
  · rename_i hn
    have e : i - ns.length = 0 := by
      rcases Nat.eq_zero_or_pos (i - ns.length) with h | h
      · exact h
      · rw [List.getElem?_eq_none (by simp; omega)] at hx; cases hx
    rw [e] at hx
    simp at hx
    subst hx
    have hii : i = ns.length := by omega
    refine ⟨by simp, by simp; omega, by simp, by simp; omega, by simp, by simp; omega⟩
theorem rnodes_ok : ∀ (m : Nat) (ns : List Nd) (l : List Nat) (ns' : List Nd) (l' : List Nat), rnodes m ns l = some (ns', l') → InOk ns → InOk ns' ∧ ns'.length = ns.length + m ∧ ns <+: ns'
  | 0, ns, l, ns', l', h, hn => by
    rw [rnodes] at h
    cases h
    exact ⟨hn, rfl, List.prefix_refl _⟩
  | m + 1, ns, [], ns', l', h, hn => by simp [rnodes] at h
  | m + 1, ns, v :: l1, ns', l', h, hn => by
    rw [rnodes] at h
    cases e1 : numU 4 0 0 l1 with
    | none => rw [e1] at h; cases h
    | some x =>
      obtain ⟨lo, l2⟩ := x
      rw [e1] at h
      simp only at h
      cases e2 : numU 4 0 0 l2 with
      | none => rw [e2] at h; cases h
      | some y =>
        obtain ⟨hi, l3⟩ := y
        rw [e2] at h
        simp only at h
        split at h
        · cases h
        · rename_i hc
          obtain ⟨a1, a2, a3⟩ := rnodes_ok m _ l3 ns' l' h (hn.more (by omega) (by omega) (by omega))
          refine ⟨a1, by rw [a2]; simp; omega, ?_⟩
          exact (List.prefix_append _ _).trans a3
/-- The program's nodes are the document's that hold what 'right' asks. -/
theorem topR_pre {ns ms : List Nd} (h : ns <+: ms) {a : Nat} (ha : a < ns.length + 2) : topR ms a = topR ns a := by
  obtain ⟨r, rfl⟩ := h
  exact topR_more _ _ ha
theorem nodes_same : ∀ (m : Nat) (ns : List Nd) (l : List Nat), InOk ns →
    (∀ ns' l', nodesG m ns l = some (ns', l') → rnodes m ns l = some (ns', l') ∧ ∀ x ∈ ns'.drop ns.length, nodeR ns' x = true) ∧
    (∀ ns' l', rnodes m ns l = some (ns', l') → (∀ x ∈ ns'.drop ns.length, nodeR ns' x = true) → nodesG m ns l = some (ns', l'))
  | 0, ns, l, _ => by
    refine ⟨fun ns' l' h => ?_, fun ns' l' h _ => ?_⟩
    · rw [nodesG] at h; cases h
      exact ⟨rfl, by simp⟩
    · rw [rnodes] at h; cases h; rfl
  | m + 1, ns, [], _ => ⟨fun ns' l' h => by simp [nodesG] at h, fun ns' l' h => by simp [rnodes] at h⟩
  | m + 1, ns, v :: l1, hI => by
    rw [nodesG, rnodes, numV_numU]
    cases e1 : numU 4 0 0 l1 with
    | none => exact ⟨fun ns' l' h => (by cases h), fun ns' l' h => (by cases h)⟩
    | some x =>
      obtain ⟨lo, l2⟩ := x
      simp only
      by_cases b1 : ns.length + 2 ≤ lo
      · rw [if_pos b1]
        refine ⟨fun ns' l' h => (by cases h), fun ns' l' h _ => ?_⟩
        cases e2 : numU 4 0 0 l2 with
        | none => rw [e2] at h; cases h
        | some y =>
          rw [e2] at h
          obtain ⟨hi, l3⟩ := y
          simp only at h
          rw [if_pos (.inl b1)] at h
          cases h
      · rw [if_neg b1]
        simp only
        rw [numV_numU]
        cases e2 : numU 4 0 0 l2 with
        | none => exact ⟨fun ns' l' h => (by cases h), fun ns' l' h => (by cases h)⟩
        | some y =>
          obtain ⟨hi, l3⟩ := y
          simp only
          by_cases b2 : ns.length + 2 ≤ hi
          · rw [if_pos b2, if_pos (.inr (.inl b2))]
            exact ⟨fun ns' l' h => (by cases h), fun ns' l' h => (by cases h)⟩
          · rw [if_neg b2]
            simp only
            -- the node itself
            have hnode : ∀ ns' : List Nd, (ns ++ [((v : Int), (lo : Int), (hi : Int))]) <+: ns' → (nodeR ns' ((v : Int), (lo : Int), (hi : Int)) = true ↔ lo ≠ hi ∧ (v : Int) < topR ns lo ∧ (v : Int) < topR ns hi) := fun ns' hp => by
              have hp' : ns <+: ns' := (List.prefix_append _ _).trans hp
              unfold nodeR
              simp only [Int.toNat_natCast, Bool.and_eq_true, decide_eq_true_eq, topR_pre hp' (show lo < ns.length + 2 by omega), topR_pre hp' (show hi < ns.length + 2 by omega), ne_eq, Int.natCast_inj]
              constructor
              · rintro ⟨⟨a, b⟩, c⟩; exact ⟨a, b, c⟩
              · rintro ⟨a, b, c⟩; exact ⟨⟨a, b⟩, c⟩
            have hdrop : ∀ ns' : List Nd, (ns ++ [((v : Int), (lo : Int), (hi : Int))]) <+: ns' → ns'.drop ns.length = ((v : Int), (lo : Int), (hi : Int)) :: ns'.drop (ns ++ [((v : Int), (lo : Int), (hi : Int))]).length := fun ns' hp => by
              obtain ⟨r, rfl⟩ := hp
              simp
            by_cases hc : lo = hi ∨ min 64 (min (topR ns lo) (topR ns hi)) ≤ (v : Int)
            · rw [if_pos hc]
              refine ⟨fun ns' l' h => (by cases h), fun ns' l' h hall => ?_⟩
              exfalso
              split at h
              · cases h
              · rename_i hb
                obtain ⟨_, _, hp⟩ := rnodes_ok m _ l3 ns' l' h (hI.more (by omega) (by omega) (by omega))
                have := (hnode ns' hp).1 (hall _ (by rw [hdrop ns' hp]; simp))
                omega
            · rw [if_neg hc]
              have t1 : topR ns lo ≤ 64 := by
                unfold topR
                split
                · omega
                · cases q : ns[lo - 2]? with
                  | none => simp
                  | some z => have := (hI.ok _ z q).2.1; simp only [Option.getD_some]; omega
              have hv : ¬ (ns.length + 2 ≤ lo ∨ ns.length + 2 ≤ hi ∨ 63 < v) := by omega
              rw [if_neg hv]
              have hI' := hI.more (v := v) (lo := lo) (hi := hi) (by omega) (by omega) (by omega)
              obtain ⟨i1, i2⟩ := nodes_same m (ns ++ [((v : Int), (lo : Int), (hi : Int))]) l3 hI'
              refine ⟨fun ns' l' h => ?_, fun ns' l' h hall => ?_⟩
              · obtain ⟨j1, j2⟩ := i1 ns' l' h
                obtain ⟨_, _, hp⟩ := rnodes_ok m _ l3 ns' l' j1 hI'
                refine ⟨j1, fun x hx => ?_⟩
                rw [hdrop ns' hp] at hx
                rcases List.mem_cons.1 hx with rfl | hx
                · exact (hnode ns' hp).2 ⟨by omega, by omega, by omega⟩
                · exact j2 x hx
              · obtain ⟨_, _, hp⟩ := rnodes_ok m _ l3 ns' l' h hI'
                exact i2 ns' l' h (fun x hx => hall x (by rw [hdrop ns' hp]; exact List.mem_cons_of_mem _ hx))
theorem inOk_nil : InOk [] := ⟨fun i x h => by simp at h⟩
theorem tail_same (ns : List Nd) (l : List Nat) : rtail ns l = match numV 65 l with | none => none | some (k, l3) => match rootsG (ns.length + 2) k [] l3 with | none => none | some (rs, l4) => if l4 = [] then some (ns, rs) else none := by
  unfold rtail
  rw [numV_numU]
  cases numU 4 0 0 l with
  | none => rfl
  | some x =>
    obtain ⟨k, l3⟩ := x
    simp only
    by_cases h : 64 < k
    · rw [if_pos h, if_pos (by omega)]
    · rw [if_neg h, if_neg (by omega)]
/-- What the program reads is what the document reads, if its nodes hold what 'right' asks. -/
theorem parse_same (l : List Nat) (P : List Nd × List Int) : (rparts l = some P ∧ P.1.all (nodeR P.1) = true) ↔ parseV l = some P := by
  obtain ⟨ns, rs⟩ := P
  unfold rparts parseV rparts1
  rw [numV_numU]
  cases numU 4 0 0 l with
  | none => simp
  | some x =>
    obtain ⟨m, l1⟩ := x
    simp only
    by_cases hm : 8388608 ≤ m
    · rw [if_pos hm, if_pos hm]; simp
    · rw [if_neg hm, if_neg hm]
      simp only
      obtain ⟨i1, i2⟩ := nodes_same m [] l1 inOk_nil
      constructor
      · rintro ⟨h1, h2⟩
        cases e : rnodes m [] l1 with
        | none => rw [e] at h1; cases h1
        | some y =>
          obtain ⟨ns', l2⟩ := y
          rw [e] at h1
          simp only at h1
          have hns : ns' = ns := by
            rw [tail_same] at h1
            split at h1
            · cases h1
            · split at h1
              · cases h1
              · split at h1
                · cases h1; rfl
                · cases h1
          subst hns
          rw [i2 ns' l2 e (fun x hx => by
            rw [List.all_eq_true] at h2
            exact h2 x (by simpa using hx))]
          simp only
          rw [tail_same] at h1
          exact h1
      · intro h
        cases e : nodesG m [] l1 with
        | none => rw [e] at h; cases h
        | some y =>
          obtain ⟨ns', l2⟩ := y
          rw [e] at h
          simp only at h
          obtain ⟨j1, j2⟩ := i1 ns' l2 e
          rw [j1]
          simp only
          rw [tail_same]
          have hns : ns' = ns := by
            split at h
            · cases h
            · split at h
              · cases h
              · split at h
                · cases h; rfl
                · cases h
          subst hns
          exact ⟨h, List.all_eq_true.2 (fun x hx => j2 x (by simpa using hx))⟩
end Go.Proofs.Ytboekafmplomhaa
