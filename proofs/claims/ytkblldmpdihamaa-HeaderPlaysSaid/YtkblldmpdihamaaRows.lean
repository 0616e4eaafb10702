/-
  No cell of these rows narrows 'for every input' (looked for: loops, veiled, ifaces, maps, wideKeys, modest, calm, conditions, laid).
  DERIVED. THE GIVEN ROWS OF THIS SEAT. 4 by the template 'for every input the law returns true; each argument reads behind the call as it read before'; 0 by the template 'total and deterministic' (their statements: YtkblldmpdihamaaTotals.lean).
  GIVEN WITH THE SEED: the statements are not yours to turn. If you find one false, say at which input.
  Laid BY PROGRAM, IN A SANDBOX (cutbox-rows.mjs): the forced cells as the released guide's own fill.sh prints them over the translation 26bde1586c4bec7b… (all of the seat's roots in one cut). By AI agents, Wed Nov 11 2026. No macro, syntax, notation, axiom, sorry.
-/
import Derived.Test.YtkblldmpdihamaaChecked
import GoSem.Claim
import GoSem.ClaimJoined
import GoSem.ClaimMapViews
import Derived.JoinedTies
import Derived.KernelRfl
namespace Go.Proofs.Ytkblldmpdihamaa
/- THE CELL 'sum', in the pinned program and in every row, IS THE sha256 OF THE DUMP (.gsa) THAT YtkblldmpdihamaaProg.lean LOADS. Nothing in Lean hashes anything: it is a label: what it is worth is what the hold of that sum in a sandbox is worth. -/
noncomputable def Try.pinned : Pinned := { name := "ytkblldmpdihamaa", sum := "26bde1586c4bec7bb621c2e0bb57c9b713dc68f1b0e8862dbecc3e522fda12a3", checked := Try.checked }
namespace Rows
def none {H : Type} : Left H := { results := [], args := [] }

/-- 'quillonlaw19.HeaderFits': WHATEVER THE INPUT: true; the input reads as it did. -/
def headerFitsSpec : ChangeSpec := { name := "headerFits", fn := fun _ => fun
  | [d1, d2] => { results := [.lit (.bool true)], args := [d1, d2] }
  | _ => none }
def headerFitsRow : OpenClaim := { program := "ytkblldmpdihamaa", sum := "26bde1586c4bec7bb621c2e0bb57c9b713dc68f1b0e8862dbecc3e522fda12a3", func := "quillon/quillonlaw19.HeaderFits", spec := "headerFits", unfollowed := true, recurses := true, apart := false }
def HeaderFitsSaid : Prop := headerFitsRow.holds Try.pinned (OpenSpec.ofChange headerFitsSpec)

/-- ITS FALSE NEIGHBOUR: 'it returns false'. Refute it at one input. -/
def headerFitsWrong : ChangeSpec := { name := "headerFits", fn := fun _ => fun
  | [d1, d2] => { results := [.lit (.bool false)], args := [d1, d2] }
  | _ => none }
def HeaderFitsWrongFalsely : Prop := headerFitsRow.holds Try.pinned (OpenSpec.ofChange headerFitsWrong)

/-- 'quillonlaw19.HeaderBack': WHATEVER THE INPUT: true; the input reads as it did. -/
def headerBackSpec : ChangeSpec := { name := "headerBack", fn := fun _ => fun
  | [d1, d2, d3, d4, d5] => { results := [.lit (.bool true)], args := [d1, d2, d3, d4, d5] }
  | _ => none }
def headerBackRow : OpenClaim := { program := "ytkblldmpdihamaa", sum := "26bde1586c4bec7bb621c2e0bb57c9b713dc68f1b0e8862dbecc3e522fda12a3", func := "quillon/quillonlaw19.HeaderBack", spec := "headerBack", unfollowed := true, recurses := true, apart := false }
def HeaderBackSaid : Prop := headerBackRow.holds Try.pinned (OpenSpec.ofChange headerBackSpec)

/-- ITS FALSE NEIGHBOUR: 'it returns false'. Refute it at one input. -/
def headerBackWrong : ChangeSpec := { name := "headerBack", fn := fun _ => fun
  | [d1, d2, d3, d4, d5] => { results := [.lit (.bool false)], args := [d1, d2, d3, d4, d5] }
  | _ => none }
def HeaderBackWrongFalsely : Prop := headerBackRow.holds Try.pinned (OpenSpec.ofChange headerBackWrong)

/-- 'quillonlaw19.HeaderPlays': WHATEVER THE INPUT: true; the input reads as it did. -/
def headerPlaysSpec : ChangeSpec := { name := "headerPlays", fn := fun _ => fun
  | [d1, d2, d3, d4] => { results := [.lit (.bool true)], args := [d1, d2, d3, d4] }
  | _ => none }
def headerPlaysRow : OpenClaim := { program := "ytkblldmpdihamaa", sum := "26bde1586c4bec7bb621c2e0bb57c9b713dc68f1b0e8862dbecc3e522fda12a3", func := "quillon/quillonlaw19.HeaderPlays", spec := "headerPlays", unfollowed := true, recurses := true, apart := false }
def HeaderPlaysSaid : Prop := headerPlaysRow.holds Try.pinned (OpenSpec.ofChange headerPlaysSpec)

/-- ITS FALSE NEIGHBOUR: 'it returns false'. Refute it at one input. -/
def headerPlaysWrong : ChangeSpec := { name := "headerPlays", fn := fun _ => fun
  | [d1, d2, d3, d4] => { results := [.lit (.bool false)], args := [d1, d2, d3, d4] }
  | _ => none }
def HeaderPlaysWrongFalsely : Prop := headerPlaysRow.holds Try.pinned (OpenSpec.ofChange headerPlaysWrong)

/-- 'quillonlaw19.HeaderNone': WHATEVER THE INPUT: true; the input reads as it did. -/
def headerNoneSpec : ChangeSpec := { name := "headerNone", fn := fun _ => fun
  | [d1, d2, d3] => { results := [.lit (.bool true)], args := [d1, d2, d3] }
  | _ => none }
def headerNoneRow : OpenClaim := { program := "ytkblldmpdihamaa", sum := "26bde1586c4bec7bb621c2e0bb57c9b713dc68f1b0e8862dbecc3e522fda12a3", func := "quillon/quillonlaw19.HeaderNone", spec := "headerNone", unfollowed := true, recurses := true, apart := false }
def HeaderNoneSaid : Prop := headerNoneRow.holds Try.pinned (OpenSpec.ofChange headerNoneSpec)

/-- ITS FALSE NEIGHBOUR: 'it returns false'. Refute it at one input. -/
def headerNoneWrong : ChangeSpec := { name := "headerNone", fn := fun _ => fun
  | [d1, d2, d3] => { results := [.lit (.bool false)], args := [d1, d2, d3] }
  | _ => none }
def HeaderNoneWrongFalsely : Prop := headerNoneRow.holds Try.pinned (OpenSpec.ofChange headerNoneWrong)

/- THE SECOND FORM. 'bulk': how many values and letters a reading holds, each counted each time it is reached (what is shared counts as often as it is met; a slice's spare places count too). A statement '..UptoSaid' is the law's where the arguments, and the package variables that the reading takes, are together of bulk at most 1048576: NARROWER than '..Said'. Prove '..Said' where nothing that the law and all that it calls make is longer than what came in: it says more and counts as full. Else prove '..UptoSaid'. A law counts once. -/
mutual
def uptoBulk {H : Type} : DataW H → Nat
  | .lit (.string bytes) => bytes.length + 1
  | .lit _ => 1
  | .nil => 1
  | .ptr d => uptoBulk d + 1
  | .slice elems spare => uptoBulkAll elems + uptoBulkAll spare + 1
  | .agg parts => uptoBulkAll parts + 1
  | .iface _ d => uptoBulk d + 1
  | .map entries => uptoBulkEntries entries + 1
  | .held _ => 1
def uptoBulkAll {H : Type} : List (DataW H) → Nat
  | [] => 0
  | d :: r => uptoBulk d + uptoBulkAll r
def uptoBulkEntries {H : Type} : List (Lit × DataW H) → Nat
  | [] => 0
  | x :: r => uptoBulkEntry x + uptoBulkEntries r
def uptoBulkEntry {H : Type} : Lit × DataW H → Nat
  | (.string bytes, d) => bytes.length + uptoBulk d + 1
  | (_, d) => uptoBulk d + 1
 end
def uptoSmall : (H : Type) → List (DataW H) → Bool := fun _ ds => decide (uptoBulkAll ds ≤ 1048576)
def OpenSpec.upto (s : _root_.Go.ChangeSpec) : _root_.Go.OpenSpec := { _root_.Go.OpenSpec.ofChange s with cond := some uptoSmall }

/-- 'quillonlaw19.HeaderFits', WHERE WHAT IT READS IS OF BULK AT MOST 1048576: true; the input reads as it did. -/
def headerFitsUptoRow : OpenClaim := { program := "ytkblldmpdihamaa", sum := "26bde1586c4bec7bb621c2e0bb57c9b713dc68f1b0e8862dbecc3e522fda12a3", func := "quillon/quillonlaw19.HeaderFits", spec := "headerFits", unfollowed := true, recurses := true, apart := false, narrowed := true }
def HeaderFitsUptoSaid : Prop := headerFitsUptoRow.holds Try.pinned (OpenSpec.upto headerFitsSpec)

/-- 'quillonlaw19.HeaderBack', WHERE WHAT IT READS IS OF BULK AT MOST 1048576: true; the input reads as it did. -/
def headerBackUptoRow : OpenClaim := { program := "ytkblldmpdihamaa", sum := "26bde1586c4bec7bb621c2e0bb57c9b713dc68f1b0e8862dbecc3e522fda12a3", func := "quillon/quillonlaw19.HeaderBack", spec := "headerBack", unfollowed := true, recurses := true, apart := false, narrowed := true }
def HeaderBackUptoSaid : Prop := headerBackUptoRow.holds Try.pinned (OpenSpec.upto headerBackSpec)

/-- 'quillonlaw19.HeaderPlays', WHERE WHAT IT READS IS OF BULK AT MOST 1048576: true; the input reads as it did. -/
def headerPlaysUptoRow : OpenClaim := { program := "ytkblldmpdihamaa", sum := "26bde1586c4bec7bb621c2e0bb57c9b713dc68f1b0e8862dbecc3e522fda12a3", func := "quillon/quillonlaw19.HeaderPlays", spec := "headerPlays", unfollowed := true, recurses := true, apart := false, narrowed := true }
def HeaderPlaysUptoSaid : Prop := headerPlaysUptoRow.holds Try.pinned (OpenSpec.upto headerPlaysSpec)

/-- 'quillonlaw19.HeaderNone', WHERE WHAT IT READS IS OF BULK AT MOST 1048576: true; the input reads as it did. -/
def headerNoneUptoRow : OpenClaim := { program := "ytkblldmpdihamaa", sum := "26bde1586c4bec7bb621c2e0bb57c9b713dc68f1b0e8862dbecc3e522fda12a3", func := "quillon/quillonlaw19.HeaderNone", spec := "headerNone", unfollowed := true, recurses := true, apart := false, narrowed := true }
def HeaderNoneUptoSaid : Prop := headerNoneUptoRow.holds Try.pinned (OpenSpec.upto headerNoneSpec)

end Rows
end Go.Proofs.Ytkblldmpdihamaa
