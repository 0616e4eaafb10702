/-
  No cell of these rows narrows 'for every input' (looked for: loops, veiled, ifaces, maps, wideKeys, modest, calm, conditions, laid).
  DERIVED. THE GIVEN ROWS OF THIS SEAT. 12 by the template 'for every input the law returns true; each argument reads behind the call as it read before'; 0 by the template 'total and deterministic' (their statements: YtboekafmplomhaaTotals.lean).
  GIVEN WITH THE SEED: the statements are not yours to turn. If you find one false, say at which input.
  Laid BY PROGRAM, IN A SANDBOX (cutbox-rows.mjs): the forced cells as the released guide's own fill.sh prints them over the translation d06c33adf2ea43b1… (all of the seat's roots in one cut). By AI agents, Wed Nov 11 2026. No macro, syntax, notation, axiom, sorry.
-/
import Derived.Test.YtboekafmplomhaaChecked
import GoSem.Claim
import GoSem.ClaimJoined
import GoSem.ClaimMapViews
import Derived.JoinedTies
import Derived.KernelRfl
namespace Go.Proofs.Ytboekafmplomhaa
/- THE CELL 'sum', in the pinned program and in every row, IS THE sha256 OF THE DUMP (.gsa) THAT YtboekafmplomhaaProg.lean LOADS. Nothing in Lean hashes anything: it is a label: what it is worth is what the hold of that sum in a sandbox is worth. -/
noncomputable def Try.pinned : Pinned := { name := "ytboekafmplomhaa", sum := "d06c33adf2ea43b152af5719cd8e493cbc3689e902a46d1752bf8712a25faafe", checked := Try.checked }
namespace Rows
def none {H : Type} : Left H := { results := [], args := [] }

/-- 'quillonlaw15.BddMeans': WHATEVER THE INPUT: true; the input reads as it did. -/
def bddMeansSpec : ChangeSpec := { name := "bddMeans", fn := fun _ => fun
  | [d] => { results := [.lit (.bool true)], args := [d] }
  | _ => none }
def bddMeansRow : OpenClaim := { program := "ytboekafmplomhaa", sum := "d06c33adf2ea43b152af5719cd8e493cbc3689e902a46d1752bf8712a25faafe", func := "quillon/quillonlaw15.BddMeans", spec := "bddMeans", unfollowed := true, recurses := true, plainKeys := false, apart := false }
def BddMeansSaid : Prop := bddMeansRow.holds Try.pinned (OpenSpec.ofChange bddMeansSpec)

/-- ITS FALSE NEIGHBOUR: 'it returns false'. Refute it at one input. -/
def bddMeansWrong : ChangeSpec := { name := "bddMeans", fn := fun _ => fun
  | [d] => { results := [.lit (.bool false)], args := [d] }
  | _ => none }
def BddMeansWrongFalsely : Prop := bddMeansRow.holds Try.pinned (OpenSpec.ofChange bddMeansWrong)

/-- 'quillonlaw15.BddNone': WHATEVER THE INPUT: true; the input reads as it did. -/
def bddNoneSpec : ChangeSpec := { name := "bddNone", fn := fun _ => fun
  | [d1, d2] => { results := [.lit (.bool true)], args := [d1, d2] }
  | _ => none }
def bddNoneRow : OpenClaim := { program := "ytboekafmplomhaa", sum := "d06c33adf2ea43b152af5719cd8e493cbc3689e902a46d1752bf8712a25faafe", func := "quillon/quillonlaw15.BddNone", spec := "bddNone", unfollowed := true, recurses := true, plainKeys := false, apart := false }
def BddNoneSaid : Prop := bddNoneRow.holds Try.pinned (OpenSpec.ofChange bddNoneSpec)

/-- ITS FALSE NEIGHBOUR: 'it returns false'. Refute it at one input. -/
def bddNoneWrong : ChangeSpec := { name := "bddNone", fn := fun _ => fun
  | [d1, d2] => { results := [.lit (.bool false)], args := [d1, d2] }
  | _ => none }
def BddNoneWrongFalsely : Prop := bddNoneRow.holds Try.pinned (OpenSpec.ofChange bddNoneWrong)

/-- 'quillonlaw34.TidyNone': WHATEVER THE INPUT: true; the input reads as it did. -/
def tidyNoneSpec : ChangeSpec := { name := "tidyNone", fn := fun _ => fun
  | [d1, d2, d3] => { results := [.lit (.bool true)], args := [d1, d2, d3] }
  | _ => none }
def tidyNoneRow : OpenClaim := { program := "ytboekafmplomhaa", sum := "d06c33adf2ea43b152af5719cd8e493cbc3689e902a46d1752bf8712a25faafe", func := "quillon/quillonlaw34.TidyNone", spec := "tidyNone", unfollowed := true, recurses := true, plainKeys := false, apart := false }
def TidyNoneSaid : Prop := tidyNoneRow.holds Try.pinned (OpenSpec.ofChange tidyNoneSpec)

/-- ITS FALSE NEIGHBOUR: 'it returns false'. Refute it at one input. -/
def tidyNoneWrong : ChangeSpec := { name := "tidyNone", fn := fun _ => fun
  | [d1, d2, d3] => { results := [.lit (.bool false)], args := [d1, d2, d3] }
  | _ => none }
def TidyNoneWrongFalsely : Prop := tidyNoneRow.holds Try.pinned (OpenSpec.ofChange tidyNoneWrong)

/-- 'quillonlaw31.QuantNone': WHATEVER THE INPUT: true; the input reads as it did. -/
def quantNoneSpec : ChangeSpec := { name := "quantNone", fn := fun _ => fun
  | [d1, d2, d3, d4] => { results := [.lit (.bool true)], args := [d1, d2, d3, d4] }
  | _ => none }
def quantNoneRow : OpenClaim := { program := "ytboekafmplomhaa", sum := "d06c33adf2ea43b152af5719cd8e493cbc3689e902a46d1752bf8712a25faafe", func := "quillon/quillonlaw31.QuantNone", spec := "quantNone", unfollowed := true, recurses := true, plainKeys := false, apart := false }
def QuantNoneSaid : Prop := quantNoneRow.holds Try.pinned (OpenSpec.ofChange quantNoneSpec)

/-- ITS FALSE NEIGHBOUR: 'it returns false'. Refute it at one input. -/
def quantNoneWrong : ChangeSpec := { name := "quantNone", fn := fun _ => fun
  | [d1, d2, d3, d4] => { results := [.lit (.bool false)], args := [d1, d2, d3, d4] }
  | _ => none }
def QuantNoneWrongFalsely : Prop := quantNoneRow.holds Try.pinned (OpenSpec.ofChange quantNoneWrong)

/-- 'quillonlaw31.QuantPlays': WHATEVER THE INPUT: true; the input reads as it did. -/
def quantPlaysSpec : ChangeSpec := { name := "quantPlays", fn := fun _ => fun
  | [d1, d2, d3, d4, d5, d6] => { results := [.lit (.bool true)], args := [d1, d2, d3, d4, d5, d6] }
  | _ => none }
def quantPlaysRow : OpenClaim := { program := "ytboekafmplomhaa", sum := "d06c33adf2ea43b152af5719cd8e493cbc3689e902a46d1752bf8712a25faafe", func := "quillon/quillonlaw31.QuantPlays", spec := "quantPlays", unfollowed := true, recurses := true, plainKeys := false, apart := false }
def QuantPlaysSaid : Prop := quantPlaysRow.holds Try.pinned (OpenSpec.ofChange quantPlaysSpec)

/-- ITS FALSE NEIGHBOUR: 'it returns false'. Refute it at one input. -/
def quantPlaysWrong : ChangeSpec := { name := "quantPlays", fn := fun _ => fun
  | [d1, d2, d3, d4, d5, d6] => { results := [.lit (.bool false)], args := [d1, d2, d3, d4, d5, d6] }
  | _ => none }
def QuantPlaysWrongFalsely : Prop := quantPlaysRow.holds Try.pinned (OpenSpec.ofChange quantPlaysWrong)

/-- 'quillonlaw32.CubeCovers': WHATEVER THE INPUT: true; the input reads as it did. -/
def cubeCoversSpec : ChangeSpec := { name := "cubeCovers", fn := fun _ => fun
  | [d] => { results := [.lit (.bool true)], args := [d] }
  | _ => none }
def cubeCoversRow : OpenClaim := { program := "ytboekafmplomhaa", sum := "d06c33adf2ea43b152af5719cd8e493cbc3689e902a46d1752bf8712a25faafe", func := "quillon/quillonlaw32.CubeCovers", spec := "cubeCovers", inPlace := ["internal/abi.NoEscape"], unfollowed := true, recurses := true, plainKeys := false, apart := false }
def CubeCoversSaid : Prop := cubeCoversRow.holds Try.pinned (OpenSpec.ofChange cubeCoversSpec)

/-- ITS FALSE NEIGHBOUR: 'it returns false'. Refute it at one input. -/
def cubeCoversWrong : ChangeSpec := { name := "cubeCovers", fn := fun _ => fun
  | [d] => { results := [.lit (.bool false)], args := [d] }
  | _ => none }
def CubeCoversWrongFalsely : Prop := cubeCoversRow.holds Try.pinned (OpenSpec.ofChange cubeCoversWrong)

/-- 'quillonlaw32.CubeNone': WHATEVER THE INPUT: true; the input reads as it did. -/
def cubeNoneSpec : ChangeSpec := { name := "cubeNone", fn := fun _ => fun
  | [d1, d2, d3] => { results := [.lit (.bool true)], args := [d1, d2, d3] }
  | _ => none }
def cubeNoneRow : OpenClaim := { program := "ytboekafmplomhaa", sum := "d06c33adf2ea43b152af5719cd8e493cbc3689e902a46d1752bf8712a25faafe", func := "quillon/quillonlaw32.CubeNone", spec := "cubeNone", inPlace := ["internal/abi.NoEscape"], unfollowed := true, recurses := true, plainKeys := false, apart := false }
def CubeNoneSaid : Prop := cubeNoneRow.holds Try.pinned (OpenSpec.ofChange cubeNoneSpec)

/-- ITS FALSE NEIGHBOUR: 'it returns false'. Refute it at one input. -/
def cubeNoneWrong : ChangeSpec := { name := "cubeNone", fn := fun _ => fun
  | [d1, d2, d3] => { results := [.lit (.bool false)], args := [d1, d2, d3] }
  | _ => none }
def CubeNoneWrongFalsely : Prop := cubeNoneRow.holds Try.pinned (OpenSpec.ofChange cubeNoneWrong)

/-- 'quillonlaw31.QuantMeans': WHATEVER THE INPUT: true; the input reads as it did. -/
def quantMeansSpec : ChangeSpec := { name := "quantMeans", fn := fun _ => fun
  | [d1, d2, d3] => { results := [.lit (.bool true)], args := [d1, d2, d3] }
  | _ => none }
def quantMeansRow : OpenClaim := { program := "ytboekafmplomhaa", sum := "d06c33adf2ea43b152af5719cd8e493cbc3689e902a46d1752bf8712a25faafe", func := "quillon/quillonlaw31.QuantMeans", spec := "quantMeans", unfollowed := true, recurses := true, plainKeys := false, apart := false }
def QuantMeansSaid : Prop := quantMeansRow.holds Try.pinned (OpenSpec.ofChange quantMeansSpec)

/-- ITS FALSE NEIGHBOUR: 'it returns false'. Refute it at one input. -/
def quantMeansWrong : ChangeSpec := { name := "quantMeans", fn := fun _ => fun
  | [d1, d2, d3] => { results := [.lit (.bool false)], args := [d1, d2, d3] }
  | _ => none }
def QuantMeansWrongFalsely : Prop := quantMeansRow.holds Try.pinned (OpenSpec.ofChange quantMeansWrong)

/-- 'quillonlaw32.CubeTexts': WHATEVER THE INPUT: true; the input reads as it did. -/
def cubeTextsSpec : ChangeSpec := { name := "cubeTexts", fn := fun _ => fun
  | [d1, d2, d3] => { results := [.lit (.bool true)], args := [d1, d2, d3] }
  | _ => none }
def cubeTextsRow : OpenClaim := { program := "ytboekafmplomhaa", sum := "d06c33adf2ea43b152af5719cd8e493cbc3689e902a46d1752bf8712a25faafe", func := "quillon/quillonlaw32.CubeTexts", spec := "cubeTexts", inPlace := ["internal/abi.NoEscape"], unfollowed := true, recurses := true, plainKeys := false, apart := false }
def CubeTextsSaid : Prop := cubeTextsRow.holds Try.pinned (OpenSpec.ofChange cubeTextsSpec)

/-- ITS FALSE NEIGHBOUR: 'it returns false'. Refute it at one input. -/
def cubeTextsWrong : ChangeSpec := { name := "cubeTexts", fn := fun _ => fun
  | [d1, d2, d3] => { results := [.lit (.bool false)], args := [d1, d2, d3] }
  | _ => none }
def CubeTextsWrongFalsely : Prop := cubeTextsRow.holds Try.pinned (OpenSpec.ofChange cubeTextsWrong)

/-- 'quillonlaw33.FrozenSpoilt': WHATEVER THE INPUT: true; the input reads as it did. -/
def frozenSpoiltSpec : ChangeSpec := { name := "frozenSpoilt", fn := fun _ => fun
  | [d1, d2, d3, d4] => { results := [.lit (.bool true)], args := [d1, d2, d3, d4] }
  | _ => none }
def frozenSpoiltRow : OpenClaim := { program := "ytboekafmplomhaa", sum := "d06c33adf2ea43b152af5719cd8e493cbc3689e902a46d1752bf8712a25faafe", func := "quillon/quillonlaw33.FrozenSpoilt", spec := "frozenSpoilt", unfollowed := true, recurses := true, plainKeys := false, apart := false }
def FrozenSpoiltSaid : Prop := frozenSpoiltRow.holds Try.pinned (OpenSpec.ofChange frozenSpoiltSpec)

/-- ITS FALSE NEIGHBOUR: 'it returns false'. Refute it at one input. -/
def frozenSpoiltWrong : ChangeSpec := { name := "frozenSpoilt", fn := fun _ => fun
  | [d1, d2, d3, d4] => { results := [.lit (.bool false)], args := [d1, d2, d3, d4] }
  | _ => none }
def FrozenSpoiltWrongFalsely : Prop := frozenSpoiltRow.holds Try.pinned (OpenSpec.ofChange frozenSpoiltWrong)

/-- 'quillonlaw33.FrozenPlays': WHATEVER THE INPUT: true; the input reads as it did. -/
def frozenPlaysSpec : ChangeSpec := { name := "frozenPlays", fn := fun _ => fun
  | [d1, d2, d3, d4] => { results := [.lit (.bool true)], args := [d1, d2, d3, d4] }
  | _ => none }
def frozenPlaysRow : OpenClaim := { program := "ytboekafmplomhaa", sum := "d06c33adf2ea43b152af5719cd8e493cbc3689e902a46d1752bf8712a25faafe", func := "quillon/quillonlaw33.FrozenPlays", spec := "frozenPlays", unfollowed := true, recurses := true, plainKeys := false, apart := false }
def FrozenPlaysSaid : Prop := frozenPlaysRow.holds Try.pinned (OpenSpec.ofChange frozenPlaysSpec)

/-- ITS FALSE NEIGHBOUR: 'it returns false'. Refute it at one input. -/
def frozenPlaysWrong : ChangeSpec := { name := "frozenPlays", fn := fun _ => fun
  | [d1, d2, d3, d4] => { results := [.lit (.bool false)], args := [d1, d2, d3, d4] }
  | _ => none }
def FrozenPlaysWrongFalsely : Prop := frozenPlaysRow.holds Try.pinned (OpenSpec.ofChange frozenPlaysWrong)

/-- 'quillonlaw33.FrozenBack': WHATEVER THE INPUT: true; the input reads as it did. -/
def frozenBackSpec : ChangeSpec := { name := "frozenBack", fn := fun _ => fun
  | [d1, d2] => { results := [.lit (.bool true)], args := [d1, d2] }
  | _ => none }
def frozenBackRow : OpenClaim := { program := "ytboekafmplomhaa", sum := "d06c33adf2ea43b152af5719cd8e493cbc3689e902a46d1752bf8712a25faafe", func := "quillon/quillonlaw33.FrozenBack", spec := "frozenBack", unfollowed := true, recurses := true, plainKeys := false, apart := false }
def FrozenBackSaid : Prop := frozenBackRow.holds Try.pinned (OpenSpec.ofChange frozenBackSpec)

/-- ITS FALSE NEIGHBOUR: 'it returns false'. Refute it at one input. -/
def frozenBackWrong : ChangeSpec := { name := "frozenBack", fn := fun _ => fun
  | [d1, d2] => { results := [.lit (.bool false)], args := [d1, d2] }
  | _ => none }
def FrozenBackWrongFalsely : Prop := frozenBackRow.holds Try.pinned (OpenSpec.ofChange frozenBackWrong)

/- THE SECOND FORM. 'bulk': how many values and letters a reading holds, each counted each time it is reached (what is shared counts as often as it is met; a slice's spare places count too). A statement '..UptoSaid' is the law's where the arguments, and the package variables that the reading takes, are together of bulk at most 1048576: NARROWER than '..Said'. Prove '..Said' where nothing that the law and all that it calls make is longer than what came in: it says more and counts as full. Else prove '..UptoSaid'. A law counts once. -/
mutual
def uptoBulk {H : Type} : DataW H → Nat
  | .lit (.string bytes) => bytes.length + 1
  | .lit _ => 1
  | .nil => 1
  | .ptr d => uptoBulk d + 1
  | .slice elems spare => uptoBulkAll elems + uptoBulkAll spare + 1
  | .agg parts => uptoBulkAll parts + 1
  | .iface _ d => uptoBulk d + 1
  | .map entries => uptoBulkEntries entries + 1
  | .held _ => 1
def uptoBulkAll {H : Type} : List (DataW H) → Nat
  | [] => 0
  | d :: r => uptoBulk d + uptoBulkAll r
def uptoBulkEntries {H : Type} : List (Lit × DataW H) → Nat
  | [] => 0
  | x :: r => uptoBulkEntry x + uptoBulkEntries r
def uptoBulkEntry {H : Type} : Lit × DataW H → Nat
  | (.string bytes, d) => bytes.length + uptoBulk d + 1
  | (_, d) => uptoBulk d + 1
 end
def uptoSmall : (H : Type) → List (DataW H) → Bool := fun _ ds => decide (uptoBulkAll ds ≤ 1048576)
def OpenSpec.upto (s : _root_.Go.ChangeSpec) : _root_.Go.OpenSpec := { _root_.Go.OpenSpec.ofChange s with cond := some uptoSmall }

/-- 'quillonlaw15.BddMeans', WHERE WHAT IT READS IS OF BULK AT MOST 1048576: true; the input reads as it did. -/
def bddMeansUptoRow : OpenClaim := { program := "ytboekafmplomhaa", sum := "d06c33adf2ea43b152af5719cd8e493cbc3689e902a46d1752bf8712a25faafe", func := "quillon/quillonlaw15.BddMeans", spec := "bddMeans", unfollowed := true, recurses := true, plainKeys := false, apart := false, narrowed := true }
def BddMeansUptoSaid : Prop := bddMeansUptoRow.holds Try.pinned (OpenSpec.upto bddMeansSpec)

/-- 'quillonlaw15.BddNone', WHERE WHAT IT READS IS OF BULK AT MOST 1048576: true; the input reads as it did. -/
def bddNoneUptoRow : OpenClaim := { program := "ytboekafmplomhaa", sum := "d06c33adf2ea43b152af5719cd8e493cbc3689e902a46d1752bf8712a25faafe", func := "quillon/quillonlaw15.BddNone", spec := "bddNone", unfollowed := true, recurses := true, plainKeys := false, apart := false, narrowed := true }
def BddNoneUptoSaid : Prop := bddNoneUptoRow.holds Try.pinned (OpenSpec.upto bddNoneSpec)

/-- 'quillonlaw34.TidyNone', WHERE WHAT IT READS IS OF BULK AT MOST 1048576: true; the input reads as it did. -/
def tidyNoneUptoRow : OpenClaim := { program := "ytboekafmplomhaa", sum := "d06c33adf2ea43b152af5719cd8e493cbc3689e902a46d1752bf8712a25faafe", func := "quillon/quillonlaw34.TidyNone", spec := "tidyNone", unfollowed := true, recurses := true, plainKeys := false, apart := false, narrowed := true }
def TidyNoneUptoSaid : Prop := tidyNoneUptoRow.holds Try.pinned (OpenSpec.upto tidyNoneSpec)

/-- 'quillonlaw31.QuantNone', WHERE WHAT IT READS IS OF BULK AT MOST 1048576: true; the input reads as it did. -/
def quantNoneUptoRow : OpenClaim := { program := "ytboekafmplomhaa", sum := "d06c33adf2ea43b152af5719cd8e493cbc3689e902a46d1752bf8712a25faafe", func := "quillon/quillonlaw31.QuantNone", spec := "quantNone", unfollowed := true, recurses := true, plainKeys := false, apart := false, narrowed := true }
def QuantNoneUptoSaid : Prop := quantNoneUptoRow.holds Try.pinned (OpenSpec.upto quantNoneSpec)

/-- 'quillonlaw31.QuantPlays', WHERE WHAT IT READS IS OF BULK AT MOST 1048576: true; the input reads as it did. -/
def quantPlaysUptoRow : OpenClaim := { program := "ytboekafmplomhaa", sum := "d06c33adf2ea43b152af5719cd8e493cbc3689e902a46d1752bf8712a25faafe", func := "quillon/quillonlaw31.QuantPlays", spec := "quantPlays", unfollowed := true, recurses := true, plainKeys := false, apart := false, narrowed := true }
def QuantPlaysUptoSaid : Prop := quantPlaysUptoRow.holds Try.pinned (OpenSpec.upto quantPlaysSpec)

/-- 'quillonlaw32.CubeCovers', WHERE WHAT IT READS IS OF BULK AT MOST 1048576: true; the input reads as it did. -/
def cubeCoversUptoRow : OpenClaim := { program := "ytboekafmplomhaa", sum := "d06c33adf2ea43b152af5719cd8e493cbc3689e902a46d1752bf8712a25faafe", func := "quillon/quillonlaw32.CubeCovers", spec := "cubeCovers", inPlace := ["internal/abi.NoEscape"], unfollowed := true, recurses := true, plainKeys := false, apart := false, narrowed := true }
def CubeCoversUptoSaid : Prop := cubeCoversUptoRow.holds Try.pinned (OpenSpec.upto cubeCoversSpec)

/-- 'quillonlaw32.CubeNone', WHERE WHAT IT READS IS OF BULK AT MOST 1048576: true; the input reads as it did. -/
def cubeNoneUptoRow : OpenClaim := { program := "ytboekafmplomhaa", sum := "d06c33adf2ea43b152af5719cd8e493cbc3689e902a46d1752bf8712a25faafe", func := "quillon/quillonlaw32.CubeNone", spec := "cubeNone", inPlace := ["internal/abi.NoEscape"], unfollowed := true, recurses := true, plainKeys := false, apart := false, narrowed := true }
def CubeNoneUptoSaid : Prop := cubeNoneUptoRow.holds Try.pinned (OpenSpec.upto cubeNoneSpec)

/-- 'quillonlaw31.QuantMeans', WHERE WHAT IT READS IS OF BULK AT MOST 1048576: true; the input reads as it did. -/
def quantMeansUptoRow : OpenClaim := { program := "ytboekafmplomhaa", sum := "d06c33adf2ea43b152af5719cd8e493cbc3689e902a46d1752bf8712a25faafe", func := "quillon/quillonlaw31.QuantMeans", spec := "quantMeans", unfollowed := true, recurses := true, plainKeys := false, apart := false, narrowed := true }
def QuantMeansUptoSaid : Prop := quantMeansUptoRow.holds Try.pinned (OpenSpec.upto quantMeansSpec)

/-- 'quillonlaw32.CubeTexts', WHERE WHAT IT READS IS OF BULK AT MOST 1048576: true; the input reads as it did. -/
def cubeTextsUptoRow : OpenClaim := { program := "ytboekafmplomhaa", sum := "d06c33adf2ea43b152af5719cd8e493cbc3689e902a46d1752bf8712a25faafe", func := "quillon/quillonlaw32.CubeTexts", spec := "cubeTexts", inPlace := ["internal/abi.NoEscape"], unfollowed := true, recurses := true, plainKeys := false, apart := false, narrowed := true }
def CubeTextsUptoSaid : Prop := cubeTextsUptoRow.holds Try.pinned (OpenSpec.upto cubeTextsSpec)

/-- 'quillonlaw33.FrozenSpoilt', WHERE WHAT IT READS IS OF BULK AT MOST 1048576: true; the input reads as it did. -/
def frozenSpoiltUptoRow : OpenClaim := { program := "ytboekafmplomhaa", sum := "d06c33adf2ea43b152af5719cd8e493cbc3689e902a46d1752bf8712a25faafe", func := "quillon/quillonlaw33.FrozenSpoilt", spec := "frozenSpoilt", unfollowed := true, recurses := true, plainKeys := false, apart := false, narrowed := true }
def FrozenSpoiltUptoSaid : Prop := frozenSpoiltUptoRow.holds Try.pinned (OpenSpec.upto frozenSpoiltSpec)

/-- 'quillonlaw33.FrozenPlays', WHERE WHAT IT READS IS OF BULK AT MOST 1048576: true; the input reads as it did. -/
def frozenPlaysUptoRow : OpenClaim := { program := "ytboekafmplomhaa", sum := "d06c33adf2ea43b152af5719cd8e493cbc3689e902a46d1752bf8712a25faafe", func := "quillon/quillonlaw33.FrozenPlays", spec := "frozenPlays", unfollowed := true, recurses := true, plainKeys := false, apart := false, narrowed := true }
def FrozenPlaysUptoSaid : Prop := frozenPlaysUptoRow.holds Try.pinned (OpenSpec.upto frozenPlaysSpec)

/-- 'quillonlaw33.FrozenBack', WHERE WHAT IT READS IS OF BULK AT MOST 1048576: true; the input reads as it did. -/
def frozenBackUptoRow : OpenClaim := { program := "ytboekafmplomhaa", sum := "d06c33adf2ea43b152af5719cd8e493cbc3689e902a46d1752bf8712a25faafe", func := "quillon/quillonlaw33.FrozenBack", spec := "frozenBack", unfollowed := true, recurses := true, plainKeys := false, apart := false, narrowed := true }
def FrozenBackUptoSaid : Prop := frozenBackUptoRow.holds Try.pinned (OpenSpec.upto frozenBackSpec)

end Rows
end Go.Proofs.Ytboekafmplomhaa
