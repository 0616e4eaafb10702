/-
  Frozen bytes in plain Lean: what is read is of the form; the reader's nodes as a source.
-/
import Derived.Test.YtboekafmplomhaaZFzAllP
import Derived.Test.YtboekafmplomhaaZFzIso
set_option linter.unusedVariables false
set_option linter.unusedSimpArgs false
namespace Go.Proofs.Ytboekafmplomhaa

structure NsOk (ns : List Nd) : Prop where
  ok : ∀ (i : Nat) (x : Nd), ns[i]? = some x → 0 ≤ x.1 ∧ x.1 < 64 ∧ 0 ≤ x.2.1 ∧ x.2.1 < i + 2 ∧ 0 ≤ x.2.2 ∧ x.2.2 < i + 2 ∧ x.2.1 ≠ x.2.2 ∧ x.1 < topR ns x.2.1.toNat ∧ x.1 < topR ns x.2.2.toNat
theorem topR_more (ns ms : List Nd) {a : Nat} (h : a < ns.length + 2) : topR (ns ++ ms) a = topR ns a := by
  unfold topR
  split
  · rfl
  · rw [List.getElem?_append_left (by omega)]
theorem NsOk.nil : NsOk [] := ⟨fun i x h => by simp at h⟩
theorem NsOk.more {ns : List Nd} (h : NsOk ns) {v lo hi : Nat} (h1 : lo < ns.length + 2) (h2 : hi < ns.length + 2) (h3 : lo ≠ hi) (h4 : (v : Int) < min 64 (min (topR ns lo) (topR ns hi))) : NsOk (ns ++ [((v : Int), (lo : Int), (hi : Int))]) := by
  refine ⟨fun i x hx => ?_⟩
  rw [List.getElem?_append] at hx
  split at hx
  · obtain ⟨a1, a2, a3, a4, a5, a6, a7, a8, a9⟩ := h.ok i x hx
    have hi := (List.getElem?_eq_some_iff.1 hx).1
    exact ⟨a1, a2, a3, a4, a5, a6, a7, by rw [topR_more _ _ (by omega)]; exact a8, by rw [topR_more _ _ (by omega)]; exact a9⟩
  · rename_i hn
    have e : i - ns.length = 0 := by
      rcases Nat.eq_zero_or_pos (i - ns.length) with h | h
      · exact h
      · rw [List.getElem?_eq_none (by simp; omega)] at hx; cases hx
    rw [e] at hx
    simp at hx
    subst hx
    have hii : i = ns.length := by omega
    refine ⟨by simp, by simp; omega, by simp, by simp; omega, by simp, by simp; omega, by simp; omega, ?_, ?_⟩
    · show (v : Int) < topR (ns ++ _) (lo : Int).toNat
      rw [Int.toNat_natCast, topR_more _ _ h1]; omega
    · show (v : Int) < topR (ns ++ _) (hi : Int).toNat
      rw [Int.toNat_natCast, topR_more _ _ h2]; omega
theorem nodesG_ok : ∀ (m : Nat) (ns : List Nd) (l : List Nat) (ns' : List Nd) (l' : List Nat), nodesG m ns l = some (ns', l') → NsOk ns → NsOk ns' ∧ ns'.length = ns.length + m
  | 0, ns, l, ns', l', h, hn => by
    rw [nodesG] at h
    cases h
    exact ⟨hn, rfl⟩
  | m + 1, ns, [], ns', l', h, hn => by rw [nodesG] at h; cases h
  | m + 1, ns, v :: l1, ns', l', h, hn => by
    rw [nodesG] at h
    cases e1 : numV (ns.length + 2) l1 with
    | none => rw [e1] at h; cases h
    | some p =>
      obtain ⟨lo, l2⟩ := p
      rw [e1] at h
      simp only at h
      cases e2 : numV (ns.length + 2) l2 with
      | none => rw [e2] at h; cases h
      | some q =>
        obtain ⟨hi, l3⟩ := q
        rw [e2] at h
        simp only at h
        by_cases hc : lo = hi ∨ min 64 (min (topR ns lo) (topR ns hi)) ≤ (v : Int)
        · rw [if_pos hc] at h; cases h
        · rw [if_neg hc] at h
          have := nodesG_ok m _ l3 ns' l' h (hn.more (numV_len e1).2 (numV_len e2).2 (fun e => hc (.inl e)) (by have : ¬ min 64 (min (topR ns lo) (topR ns hi)) ≤ (v : Int) := fun q => hc (.inr q); omega))
          refine ⟨this.1, ?_⟩
          rw [this.2]
          simp
          omega
theorem rootsG_ok (bel : Nat) : ∀ (m : Nat) (rs : List Int) (l : List Nat) (rs' : List Int) (l' : List Nat), rootsG bel m rs l = some (rs', l') → (∀ r ∈ rs, 0 ≤ r ∧ r < bel) → (∀ r ∈ rs', 0 ≤ r ∧ r < bel) ∧ rs'.length = rs.length + m
  | 0, rs, l, rs', l', h, hr => by
    rw [rootsG] at h
    cases h
    exact ⟨hr, rfl⟩
  | m + 1, rs, l, rs', l', h, hr => by
    rw [rootsG] at h
    cases e1 : numV bel l with
    | none => rw [e1] at h; cases h
    | some p =>
      obtain ⟨a, l1⟩ := p
      rw [e1] at h
      simp only at h
      have ha := (numV_len e1).2
      have := rootsG_ok bel m _ l1 rs' l' h (fun r hr' => by
        rcases List.mem_append.1 hr' with q | q
        · exact hr r q
        · simp at q; subst q; omega)
      refine ⟨this.1, ?_⟩
      rw [this.2]
      simp
      omega
theorem parseV_ok {l : List Nat} {ns : List Nd} {rs : List Int} (h : parseV l = some (ns, rs)) : NsOk ns ∧ (∀ r ∈ rs, 0 ≤ r ∧ r < ns.length + 2) ∧ ns.length < 8388608 ∧ rs.length ≤ 64 := by
  unfold parseV at h
  cases e1 : numV 8388608 l with
  | none => rw [e1] at h; cases h
  | some p =>
    obtain ⟨m, l1⟩ := p
    rw [e1] at h
    simp only at h
    cases e2 : nodesG m [] l1 with
    | none => rw [e2] at h; cases h
    | some p =>
      obtain ⟨ns', l2⟩ := p
      rw [e2] at h
      simp only at h
      cases e3 : numV 65 l2 with
      | none => rw [e3] at h; cases h
      | some p =>
        obtain ⟨k, l3⟩ := p
        rw [e3] at h
        simp only at h
        cases e4 : rootsG (ns'.length + 2) k [] l3 with
        | none => rw [e4] at h; cases h
        | some p =>
          obtain ⟨rs', l4⟩ := p
          rw [e4] at h
          simp only at h
          split at h
          · cases h
            have a1 := nodesG_ok m [] l1 _ l2 e2 NsOk.nil
            have a2 := rootsG_ok _ k [] l3 _ l4 e4 (by simp)
            have b1 := (numV_len e1).2
            have b3 := (numV_len e3).2
            refine ⟨a1.1, fun r hr => by have := a2.1 r hr; omega, by rw [a1.2]; simp; omega, by rw [a2.2]; simp; omega⟩
          · cases h

/-- The reader's nodes as a source. -/
def atR (ns : List Nd) (a : Int) : Nd × Bool := if a < 2 then ((0, 0, 0), false) else ((ns[(a - 2).toNat]?).getD (0, 0, 0), true)
def okR (ns : List Nd) (a : Int) : Prop := 0 ≤ a ∧ a < ns.length + 2
theorem atR_yes {ns : List Nd} {a : Int} (ho : okR ns a) (h : (atR ns a).2 = true) : ∃ (i : Nat) (x : Nd), a = (i : Int) + 2 ∧ ns[i]? = some x ∧ atR ns a = (x, true) := by
  unfold atR at h ⊢
  split at h
  · cases h
  · rename_i h2
    obtain ⟨i, rfl⟩ : ∃ i : Nat, a = (i : Int) + 2 := ⟨(a - 2).toNat, by omega⟩
    have hi : i < ns.length := by unfold okR at ho; omega
    refine ⟨i, ns[i], rfl, List.getElem?_eq_getElem hi, ?_⟩
    rw [if_neg h2]
    have e : ((i : Int) + 2 - 2).toNat = i := by omega
    rw [e, List.getElem?_eq_getElem hi]
    rfl
theorem atR_lo {ns : List Nd} (hN : NsOk ns) (a : Int) (ho : okR ns a) (h : (atR ns a).2 = true) : (atR ns a).1.2.1.toNat < a.toNat ∧ okR ns (atR ns a).1.2.1 := by
  obtain ⟨i, x, rfl, hx, e⟩ := atR_yes ho h
  rw [e]
  obtain ⟨_, _, h3, h4, _⟩ := hN.ok i x hx
  unfold okR at *
  show x.2.1.toNat < _ ∧ 0 ≤ x.2.1 ∧ x.2.1 < _
  omega
theorem atR_hi {ns : List Nd} (hN : NsOk ns) (a : Int) (ho : okR ns a) (h : (atR ns a).2 = true) : (atR ns a).1.2.2.toNat < a.toNat ∧ okR ns (atR ns a).1.2.2 := by
  obtain ⟨i, x, rfl, hx, e⟩ := atR_yes ho h
  rw [e]
  obtain ⟨_, _, _, _, h5, h6, _⟩ := hN.ok i x hx
  unfold okR at *
  show x.2.2.toNat < _ ∧ 0 ≤ x.2.2 ∧ x.2.2 < _
  omega
def ordR (ns : List Nd) (rs : List Int) : List Nd × List Int := ordL (atR ns) (ns.length + 2) [(1, 1)] [] [] rs
def canV (ns : List Nd) (rs : List Int) : Bool := decide ns.Nodup && decide ((ordR ns rs).1 = ns)
end Go.Proofs.Ytboekafmplomhaa
