/-
  No cell of these rows narrows 'for every input' (looked for: loops, veiled, ifaces, maps, wideKeys, modest, calm, conditions, laid).
  DERIVED. THE GIVEN ROWS OF THIS SEAT. 12 by the template 'for every input the law returns true; each argument reads behind the call as it read before'; 0 by the template 'total and deterministic' (their statements: YtnjpoamebkehbaaTotals.lean).
  GIVEN WITH THE SEED: the statements are not yours to turn. If you find one false, say at which input.
  Laid BY PROGRAM, IN A SANDBOX (cutbox-rows.mjs): the forced cells as the released guide's own fill.sh prints them over the translation 9e7f6575c7962d98… (all of the seat's roots in one cut). By AI agents, Wed Nov 11 2026. No macro, syntax, notation, axiom, sorry.
-/
import Derived.Test.YtnjpoamebkehbaaChecked
import GoSem.Claim
import GoSem.ClaimJoined
import GoSem.ClaimMapViews
import Derived.JoinedTies
import Derived.KernelRfl
namespace Go.Proofs.Ytnjpoamebkehbaa
/- THE CELL 'sum', in the pinned program and in every row, IS THE sha256 OF THE DUMP (.gsa) THAT YtnjpoamebkehbaaProg.lean LOADS. Nothing in Lean hashes anything: it is a label: what it is worth is what the hold of that sum in a sandbox is worth. -/
noncomputable def Try.pinned : Pinned := { name := "ytnjpoamebkehbaa", sum := "9e7f6575c7962d988398527c83e7b86683e6d545bded770300b8dd378e22ca58", checked := Try.checked }
namespace Rows
def none {H : Type} : Left H := { results := [], args := [] }

/-- 'pitheadlaw16.DimWay': WHATEVER THE INPUT: true; the input reads as it did. -/
def dimWaySpec : ChangeSpec := { name := "dimWay", fn := fun _ => fun
  | [d1, d2, d3, d4, d5] => { results := [.lit (.bool true)], args := [d1, d2, d3, d4, d5] }
  | _ => none }
def dimWayRow : OpenClaim := { program := "ytnjpoamebkehbaa", sum := "9e7f6575c7962d988398527c83e7b86683e6d545bded770300b8dd378e22ca58", func := "pithead/pitheadlaw16.DimWay", spec := "dimWay", apart := false }
def DimWaySaid : Prop := dimWayRow.holds Try.pinned (OpenSpec.ofChange dimWaySpec)

/-- ITS FALSE NEIGHBOUR: 'it returns false'. Refute it at one input. -/
def dimWayWrong : ChangeSpec := { name := "dimWay", fn := fun _ => fun
  | [d1, d2, d3, d4, d5] => { results := [.lit (.bool false)], args := [d1, d2, d3, d4, d5] }
  | _ => none }
def DimWayWrongFalsely : Prop := dimWayRow.holds Try.pinned (OpenSpec.ofChange dimWayWrong)

/-- 'pitheadlaw15.TierChecks': WHATEVER THE INPUT: true; the input reads as it did. -/
def tierChecksSpec : ChangeSpec := { name := "tierChecks", fn := fun _ => fun
  | [d1, d2] => { results := [.lit (.bool true)], args := [d1, d2] }
  | _ => none }
def tierChecksRow : OpenClaim := { program := "ytnjpoamebkehbaa", sum := "9e7f6575c7962d988398527c83e7b86683e6d545bded770300b8dd378e22ca58", func := "pithead/pitheadlaw15.TierChecks", spec := "tierChecks", unfollowed := true, recurses := true, apart := false }
def TierChecksSaid : Prop := tierChecksRow.holds Try.pinned (OpenSpec.ofChange tierChecksSpec)

/-- ITS FALSE NEIGHBOUR: 'it returns false'. Refute it at one input. -/
def tierChecksWrong : ChangeSpec := { name := "tierChecks", fn := fun _ => fun
  | [d1, d2] => { results := [.lit (.bool false)], args := [d1, d2] }
  | _ => none }
def TierChecksWrongFalsely : Prop := tierChecksRow.holds Try.pinned (OpenSpec.ofChange tierChecksWrong)

/-- 'pitheadlaw15.TierTakes': WHATEVER THE INPUT: true; the input reads as it did. -/
def tierTakesSpec : ChangeSpec := { name := "tierTakes", fn := fun _ => fun
  | [d1, d2] => { results := [.lit (.bool true)], args := [d1, d2] }
  | _ => none }
def tierTakesRow : OpenClaim := { program := "ytnjpoamebkehbaa", sum := "9e7f6575c7962d988398527c83e7b86683e6d545bded770300b8dd378e22ca58", func := "pithead/pitheadlaw15.TierTakes", spec := "tierTakes", unfollowed := true, recurses := true, apart := false }
def TierTakesSaid : Prop := tierTakesRow.holds Try.pinned (OpenSpec.ofChange tierTakesSpec)

/-- ITS FALSE NEIGHBOUR: 'it returns false'. Refute it at one input. -/
def tierTakesWrong : ChangeSpec := { name := "tierTakes", fn := fun _ => fun
  | [d1, d2] => { results := [.lit (.bool false)], args := [d1, d2] }
  | _ => none }
def TierTakesWrongFalsely : Prop := tierTakesRow.holds Try.pinned (OpenSpec.ofChange tierTakesWrong)

/-- 'pitheadlaw16.DimChecks': WHATEVER THE INPUT: true; the input reads as it did. -/
def dimChecksSpec : ChangeSpec := { name := "dimChecks", fn := fun _ => fun
  | [d] => { results := [.lit (.bool true)], args := [d] }
  | _ => none }
def dimChecksRow : OpenClaim := { program := "ytnjpoamebkehbaa", sum := "9e7f6575c7962d988398527c83e7b86683e6d545bded770300b8dd378e22ca58", func := "pithead/pitheadlaw16.DimChecks", spec := "dimChecks", unfollowed := true, recurses := true, apart := false }
def DimChecksSaid : Prop := dimChecksRow.holds Try.pinned (OpenSpec.ofChange dimChecksSpec)

/-- ITS FALSE NEIGHBOUR: 'it returns false'. Refute it at one input. -/
def dimChecksWrong : ChangeSpec := { name := "dimChecks", fn := fun _ => fun
  | [d] => { results := [.lit (.bool false)], args := [d] }
  | _ => none }
def DimChecksWrongFalsely : Prop := dimChecksRow.holds Try.pinned (OpenSpec.ofChange dimChecksWrong)

/-- 'pitheadlaw16.DimTakes': WHATEVER THE INPUT: true; the input reads as it did. -/
def dimTakesSpec : ChangeSpec := { name := "dimTakes", fn := fun _ => fun
  | [d] => { results := [.lit (.bool true)], args := [d] }
  | _ => none }
def dimTakesRow : OpenClaim := { program := "ytnjpoamebkehbaa", sum := "9e7f6575c7962d988398527c83e7b86683e6d545bded770300b8dd378e22ca58", func := "pithead/pitheadlaw16.DimTakes", spec := "dimTakes", unfollowed := true, recurses := true, apart := false }
def DimTakesSaid : Prop := dimTakesRow.holds Try.pinned (OpenSpec.ofChange dimTakesSpec)

/-- ITS FALSE NEIGHBOUR: 'it returns false'. Refute it at one input. -/
def dimTakesWrong : ChangeSpec := { name := "dimTakes", fn := fun _ => fun
  | [d] => { results := [.lit (.bool false)], args := [d] }
  | _ => none }
def DimTakesWrongFalsely : Prop := dimTakesRow.holds Try.pinned (OpenSpec.ofChange dimTakesWrong)

/-- 'pitheadlaw17.SchemaChecks': WHATEVER THE INPUT: true; the input reads as it did. -/
def schemaChecksSpec : ChangeSpec := { name := "schemaChecks", fn := fun _ => fun
  | [d] => { results := [.lit (.bool true)], args := [d] }
  | _ => none }
def schemaChecksRow : OpenClaim := { program := "ytnjpoamebkehbaa", sum := "9e7f6575c7962d988398527c83e7b86683e6d545bded770300b8dd378e22ca58", func := "pithead/pitheadlaw17.SchemaChecks", spec := "schemaChecks", unfollowed := true, recurses := true, apart := false }
def SchemaChecksSaid : Prop := schemaChecksRow.holds Try.pinned (OpenSpec.ofChange schemaChecksSpec)

/-- ITS FALSE NEIGHBOUR: 'it returns false'. Refute it at one input. -/
def schemaChecksWrong : ChangeSpec := { name := "schemaChecks", fn := fun _ => fun
  | [d] => { results := [.lit (.bool false)], args := [d] }
  | _ => none }
def SchemaChecksWrongFalsely : Prop := schemaChecksRow.holds Try.pinned (OpenSpec.ofChange schemaChecksWrong)

/-- 'pitheadlaw17.SchemaTakes': WHATEVER THE INPUT: true; the input reads as it did. -/
def schemaTakesSpec : ChangeSpec := { name := "schemaTakes", fn := fun _ => fun
  | [d] => { results := [.lit (.bool true)], args := [d] }
  | _ => none }
def schemaTakesRow : OpenClaim := { program := "ytnjpoamebkehbaa", sum := "9e7f6575c7962d988398527c83e7b86683e6d545bded770300b8dd378e22ca58", func := "pithead/pitheadlaw17.SchemaTakes", spec := "schemaTakes", unfollowed := true, recurses := true, apart := false }
def SchemaTakesSaid : Prop := schemaTakesRow.holds Try.pinned (OpenSpec.ofChange schemaTakesSpec)

/-- ITS FALSE NEIGHBOUR: 'it returns false'. Refute it at one input. -/
def schemaTakesWrong : ChangeSpec := { name := "schemaTakes", fn := fun _ => fun
  | [d] => { results := [.lit (.bool false)], args := [d] }
  | _ => none }
def SchemaTakesWrongFalsely : Prop := schemaTakesRow.holds Try.pinned (OpenSpec.ofChange schemaTakesWrong)

/-- 'pitheadlaw20.BatchValues': WHATEVER THE INPUT: true; the input reads as it did. -/
def batchValuesSpec : ChangeSpec := { name := "batchValues", fn := fun _ => fun
  | [d] => { results := [.lit (.bool true)], args := [d] }
  | _ => none }
def batchValuesRow : OpenClaim := { program := "ytnjpoamebkehbaa", sum := "9e7f6575c7962d988398527c83e7b86683e6d545bded770300b8dd378e22ca58", func := "pithead/pitheadlaw20.BatchValues", spec := "batchValues", apart := false }
def BatchValuesSaid : Prop := batchValuesRow.holds Try.pinned (OpenSpec.ofChange batchValuesSpec)

/-- ITS FALSE NEIGHBOUR: 'it returns false'. Refute it at one input. -/
def batchValuesWrong : ChangeSpec := { name := "batchValues", fn := fun _ => fun
  | [d] => { results := [.lit (.bool false)], args := [d] }
  | _ => none }
def BatchValuesWrongFalsely : Prop := batchValuesRow.holds Try.pinned (OpenSpec.ofChange batchValuesWrong)

/-- 'pitheadlaw20.BatchTakes': WHATEVER THE INPUT: true; the input reads as it did. -/
def batchTakesSpec : ChangeSpec := { name := "batchTakes", fn := fun _ => fun
  | [d1, d2] => { results := [.lit (.bool true)], args := [d1, d2] }
  | _ => none }
def batchTakesRow : OpenClaim := { program := "ytnjpoamebkehbaa", sum := "9e7f6575c7962d988398527c83e7b86683e6d545bded770300b8dd378e22ca58", func := "pithead/pitheadlaw20.BatchTakes", spec := "batchTakes", unfollowed := true, recurses := true, apart := false }
def BatchTakesSaid : Prop := batchTakesRow.holds Try.pinned (OpenSpec.ofChange batchTakesSpec)

/-- ITS FALSE NEIGHBOUR: 'it returns false'. Refute it at one input. -/
def batchTakesWrong : ChangeSpec := { name := "batchTakes", fn := fun _ => fun
  | [d1, d2] => { results := [.lit (.bool false)], args := [d1, d2] }
  | _ => none }
def BatchTakesWrongFalsely : Prop := batchTakesRow.holds Try.pinned (OpenSpec.ofChange batchTakesWrong)

/-- 'pitheadlaw20.BatchPuts': WHATEVER THE INPUT: true; the input reads as it did. -/
def batchPutsSpec : ChangeSpec := { name := "batchPuts", fn := fun _ => fun
  | [d1, d2] => { results := [.lit (.bool true)], args := [d1, d2] }
  | _ => none }
def batchPutsRow : OpenClaim := { program := "ytnjpoamebkehbaa", sum := "9e7f6575c7962d988398527c83e7b86683e6d545bded770300b8dd378e22ca58", func := "pithead/pitheadlaw20.BatchPuts", spec := "batchPuts", unfollowed := true, recurses := true, apart := false }
def BatchPutsSaid : Prop := batchPutsRow.holds Try.pinned (OpenSpec.ofChange batchPutsSpec)

/-- ITS FALSE NEIGHBOUR: 'it returns false'. Refute it at one input. -/
def batchPutsWrong : ChangeSpec := { name := "batchPuts", fn := fun _ => fun
  | [d1, d2] => { results := [.lit (.bool false)], args := [d1, d2] }
  | _ => none }
def BatchPutsWrongFalsely : Prop := batchPutsRow.holds Try.pinned (OpenSpec.ofChange batchPutsWrong)

/-- 'pitheadlaw35.AskTotal': WHATEVER THE INPUT: true; the input reads as it did. -/
def askTotalSpec : ChangeSpec := { name := "askTotal", fn := fun _ => fun
  | [d] => { results := [.lit (.bool true)], args := [d] }
  | _ => none }
def askTotalRow : OpenClaim := { program := "ytnjpoamebkehbaa", sum := "9e7f6575c7962d988398527c83e7b86683e6d545bded770300b8dd378e22ca58", func := "pithead/pitheadlaw35.AskTotal", spec := "askTotal", unfollowed := true, recurses := true, apart := false }
def AskTotalSaid : Prop := askTotalRow.holds Try.pinned (OpenSpec.ofChange askTotalSpec)

/-- ITS FALSE NEIGHBOUR: 'it returns false'. Refute it at one input. -/
def askTotalWrong : ChangeSpec := { name := "askTotal", fn := fun _ => fun
  | [d] => { results := [.lit (.bool false)], args := [d] }
  | _ => none }
def AskTotalWrongFalsely : Prop := askTotalRow.holds Try.pinned (OpenSpec.ofChange askTotalWrong)

/-- 'pitheadlaw18.CatalogGrows': WHATEVER THE INPUT: true; the input reads as it did. -/
def catalogGrowsSpec : ChangeSpec := { name := "catalogGrows", fn := fun _ => fun
  | [d1, d2] => { results := [.lit (.bool true)], args := [d1, d2] }
  | _ => none }
def catalogGrowsRow : OpenClaim := { program := "ytnjpoamebkehbaa", sum := "9e7f6575c7962d988398527c83e7b86683e6d545bded770300b8dd378e22ca58", func := "pithead/pitheadlaw18.CatalogGrows", spec := "catalogGrows", apart := false }
def CatalogGrowsSaid : Prop := catalogGrowsRow.holds Try.pinned (OpenSpec.ofChange catalogGrowsSpec)

/-- ITS FALSE NEIGHBOUR: 'it returns false'. Refute it at one input. -/
def catalogGrowsWrong : ChangeSpec := { name := "catalogGrows", fn := fun _ => fun
  | [d1, d2] => { results := [.lit (.bool false)], args := [d1, d2] }
  | _ => none }
def CatalogGrowsWrongFalsely : Prop := catalogGrowsRow.holds Try.pinned (OpenSpec.ofChange catalogGrowsWrong)

/- THE SECOND FORM. 'bulk': how many values and letters a reading holds, each counted each time it is reached (what is shared counts as often as it is met; a slice's spare places count too). A statement '..UptoSaid' is the law's where the arguments, and the package variables that the reading takes, are together of bulk at most 1048576: NARROWER than '..Said'. Prove '..Said' where nothing that the law and all that it calls make is longer than what came in: it says more and counts as full. Else prove '..UptoSaid'. A law counts once. -/
mutual
def uptoBulk {H : Type} : DataW H → Nat
  | .lit (.string bytes) => bytes.length + 1
  | .lit _ => 1
  | .nil => 1
  | .ptr d => uptoBulk d + 1
  | .slice elems spare => uptoBulkAll elems + uptoBulkAll spare + 1
  | .agg parts => uptoBulkAll parts + 1
  | .iface _ d => uptoBulk d + 1
  | .map entries => uptoBulkEntries entries + 1
  | .held _ => 1
def uptoBulkAll {H : Type} : List (DataW H) → Nat
  | [] => 0
  | d :: r => uptoBulk d + uptoBulkAll r
def uptoBulkEntries {H : Type} : List (Lit × DataW H) → Nat
  | [] => 0
  | x :: r => uptoBulkEntry x + uptoBulkEntries r
def uptoBulkEntry {H : Type} : Lit × DataW H → Nat
  | (.string bytes, d) => bytes.length + uptoBulk d + 1
  | (_, d) => uptoBulk d + 1
 end
def uptoSmall : (H : Type) → List (DataW H) → Bool := fun _ ds => decide (uptoBulkAll ds ≤ 1048576)
def OpenSpec.upto (s : _root_.Go.ChangeSpec) : _root_.Go.OpenSpec := { _root_.Go.OpenSpec.ofChange s with cond := some uptoSmall }

/-- 'pitheadlaw16.DimWay', WHERE WHAT IT READS IS OF BULK AT MOST 1048576: true; the input reads as it did. -/
def dimWayUptoRow : OpenClaim := { program := "ytnjpoamebkehbaa", sum := "9e7f6575c7962d988398527c83e7b86683e6d545bded770300b8dd378e22ca58", func := "pithead/pitheadlaw16.DimWay", spec := "dimWay", apart := false, narrowed := true }
def DimWayUptoSaid : Prop := dimWayUptoRow.holds Try.pinned (OpenSpec.upto dimWaySpec)

/-- 'pitheadlaw15.TierChecks', WHERE WHAT IT READS IS OF BULK AT MOST 1048576: true; the input reads as it did. -/
def tierChecksUptoRow : OpenClaim := { program := "ytnjpoamebkehbaa", sum := "9e7f6575c7962d988398527c83e7b86683e6d545bded770300b8dd378e22ca58", func := "pithead/pitheadlaw15.TierChecks", spec := "tierChecks", unfollowed := true, recurses := true, apart := false, narrowed := true }
def TierChecksUptoSaid : Prop := tierChecksUptoRow.holds Try.pinned (OpenSpec.upto tierChecksSpec)

/-- 'pitheadlaw15.TierTakes', WHERE WHAT IT READS IS OF BULK AT MOST 1048576: true; the input reads as it did. -/
def tierTakesUptoRow : OpenClaim := { program := "ytnjpoamebkehbaa", sum := "9e7f6575c7962d988398527c83e7b86683e6d545bded770300b8dd378e22ca58", func := "pithead/pitheadlaw15.TierTakes", spec := "tierTakes", unfollowed := true, recurses := true, apart := false, narrowed := true }
def TierTakesUptoSaid : Prop := tierTakesUptoRow.holds Try.pinned (OpenSpec.upto tierTakesSpec)

/-- 'pitheadlaw16.DimChecks', WHERE WHAT IT READS IS OF BULK AT MOST 1048576: true; the input reads as it did. -/
def dimChecksUptoRow : OpenClaim := { program := "ytnjpoamebkehbaa", sum := "9e7f6575c7962d988398527c83e7b86683e6d545bded770300b8dd378e22ca58", func := "pithead/pitheadlaw16.DimChecks", spec := "dimChecks", unfollowed := true, recurses := true, apart := false, narrowed := true }
def DimChecksUptoSaid : Prop := dimChecksUptoRow.holds Try.pinned (OpenSpec.upto dimChecksSpec)

/-- 'pitheadlaw16.DimTakes', WHERE WHAT IT READS IS OF BULK AT MOST 1048576: true; the input reads as it did. -/
def dimTakesUptoRow : OpenClaim := { program := "ytnjpoamebkehbaa", sum := "9e7f6575c7962d988398527c83e7b86683e6d545bded770300b8dd378e22ca58", func := "pithead/pitheadlaw16.DimTakes", spec := "dimTakes", unfollowed := true, recurses := true, apart := false, narrowed := true }
def DimTakesUptoSaid : Prop := dimTakesUptoRow.holds Try.pinned (OpenSpec.upto dimTakesSpec)

/-- 'pitheadlaw17.SchemaChecks', WHERE WHAT IT READS IS OF BULK AT MOST 1048576: true; the input reads as it did. -/
def schemaChecksUptoRow : OpenClaim := { program := "ytnjpoamebkehbaa", sum := "9e7f6575c7962d988398527c83e7b86683e6d545bded770300b8dd378e22ca58", func := "pithead/pitheadlaw17.SchemaChecks", spec := "schemaChecks", unfollowed := true, recurses := true, apart := false, narrowed := true }
def SchemaChecksUptoSaid : Prop := schemaChecksUptoRow.holds Try.pinned (OpenSpec.upto schemaChecksSpec)

/-- 'pitheadlaw17.SchemaTakes', WHERE WHAT IT READS IS OF BULK AT MOST 1048576: true; the input reads as it did. -/
def schemaTakesUptoRow : OpenClaim := { program := "ytnjpoamebkehbaa", sum := "9e7f6575c7962d988398527c83e7b86683e6d545bded770300b8dd378e22ca58", func := "pithead/pitheadlaw17.SchemaTakes", spec := "schemaTakes", unfollowed := true, recurses := true, apart := false, narrowed := true }
def SchemaTakesUptoSaid : Prop := schemaTakesUptoRow.holds Try.pinned (OpenSpec.upto schemaTakesSpec)

/-- 'pitheadlaw20.BatchValues', WHERE WHAT IT READS IS OF BULK AT MOST 1048576: true; the input reads as it did. -/
def batchValuesUptoRow : OpenClaim := { program := "ytnjpoamebkehbaa", sum := "9e7f6575c7962d988398527c83e7b86683e6d545bded770300b8dd378e22ca58", func := "pithead/pitheadlaw20.BatchValues", spec := "batchValues", apart := false, narrowed := true }
def BatchValuesUptoSaid : Prop := batchValuesUptoRow.holds Try.pinned (OpenSpec.upto batchValuesSpec)

/-- 'pitheadlaw20.BatchTakes', WHERE WHAT IT READS IS OF BULK AT MOST 1048576: true; the input reads as it did. -/
def batchTakesUptoRow : OpenClaim := { program := "ytnjpoamebkehbaa", sum := "9e7f6575c7962d988398527c83e7b86683e6d545bded770300b8dd378e22ca58", func := "pithead/pitheadlaw20.BatchTakes", spec := "batchTakes", unfollowed := true, recurses := true, apart := false, narrowed := true }
def BatchTakesUptoSaid : Prop := batchTakesUptoRow.holds Try.pinned (OpenSpec.upto batchTakesSpec)

/-- 'pitheadlaw20.BatchPuts', WHERE WHAT IT READS IS OF BULK AT MOST 1048576: true; the input reads as it did. -/
def batchPutsUptoRow : OpenClaim := { program := "ytnjpoamebkehbaa", sum := "9e7f6575c7962d988398527c83e7b86683e6d545bded770300b8dd378e22ca58", func := "pithead/pitheadlaw20.BatchPuts", spec := "batchPuts", unfollowed := true, recurses := true, apart := false, narrowed := true }
def BatchPutsUptoSaid : Prop := batchPutsUptoRow.holds Try.pinned (OpenSpec.upto batchPutsSpec)

/-- 'pitheadlaw35.AskTotal', WHERE WHAT IT READS IS OF BULK AT MOST 1048576: true; the input reads as it did. -/
def askTotalUptoRow : OpenClaim := { program := "ytnjpoamebkehbaa", sum := "9e7f6575c7962d988398527c83e7b86683e6d545bded770300b8dd378e22ca58", func := "pithead/pitheadlaw35.AskTotal", spec := "askTotal", unfollowed := true, recurses := true, apart := false, narrowed := true }
def AskTotalUptoSaid : Prop := askTotalUptoRow.holds Try.pinned (OpenSpec.upto askTotalSpec)

/-- 'pitheadlaw18.CatalogGrows', WHERE WHAT IT READS IS OF BULK AT MOST 1048576: true; the input reads as it did. -/
def catalogGrowsUptoRow : OpenClaim := { program := "ytnjpoamebkehbaa", sum := "9e7f6575c7962d988398527c83e7b86683e6d545bded770300b8dd378e22ca58", func := "pithead/pitheadlaw18.CatalogGrows", spec := "catalogGrows", apart := false, narrowed := true }
def CatalogGrowsUptoSaid : Prop := catalogGrowsUptoRow.holds Try.pinned (OpenSpec.upto catalogGrowsSpec)

end Rows
end Go.Proofs.Ytnjpoamebkehbaa
