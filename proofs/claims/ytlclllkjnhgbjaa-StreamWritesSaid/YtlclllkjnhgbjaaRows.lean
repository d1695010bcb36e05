/-
  No cell of these rows narrows 'for every input' (looked for: loops, veiled, ifaces, maps, wideKeys, modest, calm, conditions, laid).
  DERIVED. THE GIVEN ROWS OF THIS SEAT. 5 by the template 'for every input the law returns true; each argument reads behind the call as it read before'; 0 by the template 'total and deterministic' (their statements: YtlclllkjnhgbjaaTotals.lean).
  GIVEN WITH THE SEED: the statements are not yours to turn. If you find one false, say at which input.
  Laid BY PROGRAM, IN A SANDBOX (cutbox-rows.mjs): the forced cells as the released guide's own fill.sh prints them over the translation 9e9f487be6c13aa3… (all of the seat's roots in one cut). By AI agents, Wed Nov 11 2026. No macro, syntax, notation, axiom, sorry.
-/
import Derived.Test.YtlclllkjnhgbjaaChecked
import GoSem.Claim
import GoSem.ClaimJoined
import GoSem.ClaimMapViews
import Derived.JoinedTies
import Derived.KernelRfl
namespace Go.Proofs.Ytlclllkjnhgbjaa
/- THE CELL 'sum', in the pinned program and in every row, IS THE sha256 OF THE DUMP (.gsa) THAT YtlclllkjnhgbjaaProg.lean LOADS. Nothing in Lean hashes anything: it is a label: what it is worth is what the hold of that sum in a sandbox is worth. -/
noncomputable def Try.pinned : Pinned := { name := "ytlclllkjnhgbjaa", sum := "9e9f487be6c13aa3f75989adff15ccdf1909aec2a250864d91d29312e7a052e5", checked := Try.checked }
namespace Rows
def none {H : Type} : Left H := { results := [], args := [] }

/-- 'pitheadlaw32.CellcodePuts': WHATEVER THE INPUT: true; the input reads as it did. -/
def cellcodePutsSpec : ChangeSpec := { name := "cellcodePuts", fn := fun _ => fun
  | [d1, d2, d3] => { results := [.lit (.bool true)], args := [d1, d2, d3] }
  | _ => none }
def cellcodePutsRow : OpenClaim := { program := "ytlclllkjnhgbjaa", sum := "9e9f487be6c13aa3f75989adff15ccdf1909aec2a250864d91d29312e7a052e5", func := "pithead/pitheadlaw32.CellcodePuts", spec := "cellcodePuts", unfollowed := true, recurses := true, apart := false }
def CellcodePutsSaid : Prop := cellcodePutsRow.holds Try.pinned (OpenSpec.ofChange cellcodePutsSpec)

/-- ITS FALSE NEIGHBOUR: 'it returns false'. Refute it at one input. -/
def cellcodePutsWrong : ChangeSpec := { name := "cellcodePuts", fn := fun _ => fun
  | [d1, d2, d3] => { results := [.lit (.bool false)], args := [d1, d2, d3] }
  | _ => none }
def CellcodePutsWrongFalsely : Prop := cellcodePutsRow.holds Try.pinned (OpenSpec.ofChange cellcodePutsWrong)

/-- 'pitheadlaw32.CellcodeTakes': WHATEVER THE INPUT: true; the input reads as it did. -/
def cellcodeTakesSpec : ChangeSpec := { name := "cellcodeTakes", fn := fun _ => fun
  | [d1, d2] => { results := [.lit (.bool true)], args := [d1, d2] }
  | _ => none }
def cellcodeTakesRow : OpenClaim := { program := "ytlclllkjnhgbjaa", sum := "9e9f487be6c13aa3f75989adff15ccdf1909aec2a250864d91d29312e7a052e5", func := "pithead/pitheadlaw32.CellcodeTakes", spec := "cellcodeTakes", unfollowed := true, recurses := true, apart := false }
def CellcodeTakesSaid : Prop := cellcodeTakesRow.holds Try.pinned (OpenSpec.ofChange cellcodeTakesSpec)

/-- ITS FALSE NEIGHBOUR: 'it returns false'. Refute it at one input. -/
def cellcodeTakesWrong : ChangeSpec := { name := "cellcodeTakes", fn := fun _ => fun
  | [d1, d2] => { results := [.lit (.bool false)], args := [d1, d2] }
  | _ => none }
def CellcodeTakesWrongFalsely : Prop := cellcodeTakesRow.holds Try.pinned (OpenSpec.ofChange cellcodeTakesWrong)

/-- 'pitheadlaw34.StreamNodes': WHATEVER THE INPUT: true; the input reads as it did. -/
def streamNodesSpec : ChangeSpec := { name := "streamNodes", fn := fun _ => fun
  | [d1, d2, d3] => { results := [.lit (.bool true)], args := [d1, d2, d3] }
  | _ => none }
def streamNodesRow : OpenClaim := { program := "ytlclllkjnhgbjaa", sum := "9e9f487be6c13aa3f75989adff15ccdf1909aec2a250864d91d29312e7a052e5", func := "pithead/pitheadlaw34.StreamNodes", spec := "streamNodes", inPlace := ["internal/abi.NoEscape"], unfollowed := true, recurses := true, apart := false }
def StreamNodesSaid : Prop := streamNodesRow.holds Try.pinned (OpenSpec.ofChange streamNodesSpec)

/-- ITS FALSE NEIGHBOUR: 'it returns false'. Refute it at one input. -/
def streamNodesWrong : ChangeSpec := { name := "streamNodes", fn := fun _ => fun
  | [d1, d2, d3] => { results := [.lit (.bool false)], args := [d1, d2, d3] }
  | _ => none }
def StreamNodesWrongFalsely : Prop := streamNodesRow.holds Try.pinned (OpenSpec.ofChange streamNodesWrong)

/-- 'pitheadlaw34.StreamWrites': WHATEVER THE INPUT: true; the input reads as it did. -/
def streamWritesSpec : ChangeSpec := { name := "streamWrites", fn := fun _ => fun
  | [d1, d2, d3] => { results := [.lit (.bool true)], args := [d1, d2, d3] }
  | _ => none }
def streamWritesRow : OpenClaim := { program := "ytlclllkjnhgbjaa", sum := "9e9f487be6c13aa3f75989adff15ccdf1909aec2a250864d91d29312e7a052e5", func := "pithead/pitheadlaw34.StreamWrites", spec := "streamWrites", inPlace := ["internal/abi.NoEscape"], unfollowed := true, recurses := true, apart := false }
def StreamWritesSaid : Prop := streamWritesRow.holds Try.pinned (OpenSpec.ofChange streamWritesSpec)

/-- ITS FALSE NEIGHBOUR: 'it returns false'. Refute it at one input. -/
def streamWritesWrong : ChangeSpec := { name := "streamWrites", fn := fun _ => fun
  | [d1, d2, d3] => { results := [.lit (.bool false)], args := [d1, d2, d3] }
  | _ => none }
def StreamWritesWrongFalsely : Prop := streamWritesRow.holds Try.pinned (OpenSpec.ofChange streamWritesWrong)

/-- 'pitheadlaw34.StreamReads': WHATEVER THE INPUT: true; the input reads as it did. -/
def streamReadsSpec : ChangeSpec := { name := "streamReads", fn := fun _ => fun
  | [d1, d2, d3] => { results := [.lit (.bool true)], args := [d1, d2, d3] }
  | _ => none }
def streamReadsRow : OpenClaim := { program := "ytlclllkjnhgbjaa", sum := "9e9f487be6c13aa3f75989adff15ccdf1909aec2a250864d91d29312e7a052e5", func := "pithead/pitheadlaw34.StreamReads", spec := "streamReads", inPlace := ["internal/abi.NoEscape"], unfollowed := true, recurses := true, apart := false }
def StreamReadsSaid : Prop := streamReadsRow.holds Try.pinned (OpenSpec.ofChange streamReadsSpec)

/-- ITS FALSE NEIGHBOUR: 'it returns false'. Refute it at one input. -/
def streamReadsWrong : ChangeSpec := { name := "streamReads", fn := fun _ => fun
  | [d1, d2, d3] => { results := [.lit (.bool false)], args := [d1, d2, d3] }
  | _ => none }
def StreamReadsWrongFalsely : Prop := streamReadsRow.holds Try.pinned (OpenSpec.ofChange streamReadsWrong)

/- THE SECOND FORM. 'bulk': how many values and letters a reading holds, each counted each time it is reached (what is shared counts as often as it is met; a slice's spare places count too). A statement '..UptoSaid' is the law's where the arguments, and the package variables that the reading takes, are together of bulk at most 1048576: NARROWER than '..Said'. Prove '..Said' where nothing that the law and all that it calls make is longer than what came in: it says more and counts as full. Else prove '..UptoSaid'. A law counts once. -/
mutual
def uptoBulk {H : Type} : DataW H → Nat
  | .lit (.string bytes) => bytes.length + 1
  | .lit _ => 1
  | .nil => 1
  | .ptr d => uptoBulk d + 1
  | .slice elems spare => uptoBulkAll elems + uptoBulkAll spare + 1
  | .agg parts => uptoBulkAll parts + 1
  | .iface _ d => uptoBulk d + 1
  | .map entries => uptoBulkEntries entries + 1
  | .held _ => 1
def uptoBulkAll {H : Type} : List (DataW H) → Nat
  | [] => 0
  | d :: r => uptoBulk d + uptoBulkAll r
def uptoBulkEntries {H : Type} : List (Lit × DataW H) → Nat
  | [] => 0
  | x :: r => uptoBulkEntry x + uptoBulkEntries r
def uptoBulkEntry {H : Type} : Lit × DataW H → Nat
  | (.string bytes, d) => bytes.length + uptoBulk d + 1
  | (_, d) => uptoBulk d + 1
 end
def uptoSmall : (H : Type) → List (DataW H) → Bool := fun _ ds => decide (uptoBulkAll ds ≤ 1048576)
def OpenSpec.upto (s : _root_.Go.ChangeSpec) : _root_.Go.OpenSpec := { _root_.Go.OpenSpec.ofChange s with cond := some uptoSmall }

/-- 'pitheadlaw32.CellcodePuts', WHERE WHAT IT READS IS OF BULK AT MOST 1048576: true; the input reads as it did. -/
def cellcodePutsUptoRow : OpenClaim := { program := "ytlclllkjnhgbjaa", sum := "9e9f487be6c13aa3f75989adff15ccdf1909aec2a250864d91d29312e7a052e5", func := "pithead/pitheadlaw32.CellcodePuts", spec := "cellcodePuts", unfollowed := true, recurses := true, apart := false, narrowed := true }
def CellcodePutsUptoSaid : Prop := cellcodePutsUptoRow.holds Try.pinned (OpenSpec.upto cellcodePutsSpec)

/-- 'pitheadlaw32.CellcodeTakes', WHERE WHAT IT READS IS OF BULK AT MOST 1048576: true; the input reads as it did. -/
def cellcodeTakesUptoRow : OpenClaim := { program := "ytlclllkjnhgbjaa", sum := "9e9f487be6c13aa3f75989adff15ccdf1909aec2a250864d91d29312e7a052e5", func := "pithead/pitheadlaw32.CellcodeTakes", spec := "cellcodeTakes", unfollowed := true, recurses := true, apart := false, narrowed := true }
def CellcodeTakesUptoSaid : Prop := cellcodeTakesUptoRow.holds Try.pinned (OpenSpec.upto cellcodeTakesSpec)

/-- 'pitheadlaw34.StreamNodes', WHERE WHAT IT READS IS OF BULK AT MOST 1048576: true; the input reads as it did. -/
def streamNodesUptoRow : OpenClaim := { program := "ytlclllkjnhgbjaa", sum := "9e9f487be6c13aa3f75989adff15ccdf1909aec2a250864d91d29312e7a052e5", func := "pithead/pitheadlaw34.StreamNodes", spec := "streamNodes", inPlace := ["internal/abi.NoEscape"], unfollowed := true, recurses := true, apart := false, narrowed := true }
def StreamNodesUptoSaid : Prop := streamNodesUptoRow.holds Try.pinned (OpenSpec.upto streamNodesSpec)

/-- 'pitheadlaw34.StreamWrites', WHERE WHAT IT READS IS OF BULK AT MOST 1048576: true; the input reads as it did. -/
def streamWritesUptoRow : OpenClaim := { program := "ytlclllkjnhgbjaa", sum := "9e9f487be6c13aa3f75989adff15ccdf1909aec2a250864d91d29312e7a052e5", func := "pithead/pitheadlaw34.StreamWrites", spec := "streamWrites", inPlace := ["internal/abi.NoEscape"], unfollowed := true, recurses := true, apart := false, narrowed := true }
def StreamWritesUptoSaid : Prop := streamWritesUptoRow.holds Try.pinned (OpenSpec.upto streamWritesSpec)

/-- 'pitheadlaw34.StreamReads', WHERE WHAT IT READS IS OF BULK AT MOST 1048576: true; the input reads as it did. -/
def streamReadsUptoRow : OpenClaim := { program := "ytlclllkjnhgbjaa", sum := "9e9f487be6c13aa3f75989adff15ccdf1909aec2a250864d91d29312e7a052e5", func := "pithead/pitheadlaw34.StreamReads", spec := "streamReads", inPlace := ["internal/abi.NoEscape"], unfollowed := true, recurses := true, apart := false, narrowed := true }
def StreamReadsUptoSaid : Prop := streamReadsUptoRow.holds Try.pinned (OpenSpec.upto streamReadsSpec)

end Rows
end Go.Proofs.Ytlclllkjnhgbjaa
