/-
  A call of a packet, by the program and by the document (quillonlaw19.call).
-/
import Derived.Test.YtkblldmpdihamaaZPdHV
import Derived.Test.YtkblldmpdihamaaZPdHS
set_option linter.unusedVariables false
set_option linter.unusedSimpArgs false
namespace Go.Proofs.Ytkblldmpdihamaa
open Go.RowKit

/-- A call's cells. -/
structure OpP where
  k : Int
  h : Int
  f : Int
  n : BitVec 128
  on : Bool
abbrev OpP.cs (o : OpP) : List Value := [.int .i64 o.k, .int .i64 o.h, .int .i64 o.f, .int .u64 (hi o.n), .int .u64 (lo o.n), .bool o.on]
abbrev OpP.v (o : OpP) : Value := .agg o.cs.toArray
def PD.op (hs : List (SL × List Int)) (S : PD) (o : OpP) : PD :=
  if o.k = 1 then (S.take hs o.h).getD S else if o.k = 2 then (S.get o.h o.f).2 else if o.k = 3 then S.set hs o.h o.f o.n else if o.k = 4 then S.on o.h o.on else S
section
variable {S : PD} {hs : List (SL × List Int)}
theorem PD.Ok.op (O : S.Ok hs) (o : OpP) : (S.op hs o).Ok hs := by
  unfold PD.op
  split
  · cases e : S.take hs o.h with
    | none => exact O
    | some S' => exact O.take o.h e
  · split
    · exact O.get o.h o.f
    · split
      · exact O.set o.h o.f o.n
      · split
        · exact O.on o.h o.on
        · exact O
theorem PD.Zo.setTrue {l : List Nat} {acc : Bool} {i : Nat} {ns' : List (BitVec 128)} (Z : S.Zo) (hv : S.va[i]? = some true) : PD.Zo ⟨l, S.va, S.nss.set i ns', acc⟩ := fun j ns h1 h2 => by
  simp only at h1 h2
  by_cases e : i = j
  · subst e; rw [hv] at h1; cases h1
  · rw [List.getElem?_set_ne e] at h2; exact Z j ns h1 h2
theorem PD.Zo.op (Z : S.Zo) (O : S.Ok hs) (o : OpP) : (S.op hs o).Zo := by
  unfold PD.op
  split
  · unfold PD.take
    split
    · rename_i ht
      intro j ns h1 h2
      simp only [Option.getD_some] at h1 h2
      by_cases e : o.h.toNat = j
      · subst e
        rw [List.getElem?_set] at h1
        have hl : o.h.toNat < S.va.length := by have := O.va; omega
        simp [hl] at h1
      · rw [List.getElem?_set_ne e] at h1 h2
        exact Z j ns h1 h2
    · exact Z
  · split
    · unfold PD.get
      split
      · split
        · exact Z
        · exact Z
      · exact Z
    · split
      · unfold PD.set
        split
        · rename_i ht
          obtain ⟨i, j, ns, e1, e2, hn, hj⟩ := thereB_at ht
          have hi : i < S.va.length := by have := (List.getElem?_eq_some_iff.1 hn).1; have := O.nl; have := O.va; omega
          split
          · rename_i hv
            refine Z.setTrue ?_
            rw [e1, Int.toNat_natCast] at hv ⊢
            rw [List.getD_eq_getElem?_getD, List.getElem?_eq_getElem hi] at hv
            rw [List.getElem?_eq_getElem hi]
            simpa using hv
          · exact Z
        · exact Z
      · split
        · unfold PD.on
          split
          · rename_i ht
            intro j ns h1 h2
            simp only at h1 h2
            by_cases e : o.h.toNat = j
            · subst e
              have hl : o.h.toNat < S.nss.length := by have := O.nl; have := O.va; omega
              rw [List.getElem?_set] at h2
              simp [hl] at h2
              intro n hm
              rw [← h2] at hm
              exact List.eq_of_mem_replicate hm
            · rw [List.getElem?_set_ne e] at h1 h2
              exact Z j ns h1 h2
          · exact Z
        · exact Z
end
end Go.Proofs.Ytkblldmpdihamaa
