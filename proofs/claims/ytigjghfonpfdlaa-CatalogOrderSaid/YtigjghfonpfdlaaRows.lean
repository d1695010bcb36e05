/-
  No cell of these rows narrows 'for every input' (looked for: loops, veiled, ifaces, maps, wideKeys, modest, calm, conditions, laid).
  DERIVED. THE GIVEN ROWS OF THIS SEAT. 10 by the template 'for every input the law returns true; each argument reads behind the call as it read before'; 0 by the template 'total and deterministic' (their statements: YtigjghfonpfdlaaTotals.lean).
  GIVEN WITH THE SEED: the statements are not yours to turn. If you find one false, say at which input.
  Laid BY PROGRAM, IN A SANDBOX (cutbox-rows.mjs): the forced cells as the released guide's own fill.sh prints them over the translation 9044a89f78923548… (all of the seat's roots in one cut). By AI agents, Wed Nov 11 2026. No macro, syntax, notation, axiom, sorry.
-/
import Derived.Test.YtigjghfonpfdlaaChecked
import GoSem.Claim
import GoSem.ClaimJoined
import GoSem.ClaimMapViews
import Derived.JoinedTies
import Derived.KernelRfl
namespace Go.Proofs.Ytigjghfonpfdlaa
/- THE CELL 'sum', in the pinned program and in every row, IS THE sha256 OF THE DUMP (.gsa) THAT YtigjghfonpfdlaaProg.lean LOADS. Nothing in Lean hashes anything: it is a label: what it is worth is what the hold of that sum in a sandbox is worth. -/
noncomputable def Try.pinned : Pinned := { name := "ytigjghfonpfdlaa", sum := "9044a89f78923548f170d1f19ea07c67fa40e95f7ba4eae69198e5f63642c362", checked := Try.checked }
namespace Rows
def none {H : Type} : Left H := { results := [], args := [] }

/-- 'pitheadlaw35.AskTotal': WHATEVER THE INPUT: true; the input reads as it did. -/
def askTotalSpec : ChangeSpec := { name := "askTotal", fn := fun _ => fun
  | [d] => { results := [.lit (.bool true)], args := [d] }
  | _ => none }
def askTotalRow : OpenClaim := { program := "ytigjghfonpfdlaa", sum := "9044a89f78923548f170d1f19ea07c67fa40e95f7ba4eae69198e5f63642c362", func := "pithead/pitheadlaw35.AskTotal", spec := "askTotal", unfollowed := true, recurses := true, apart := false }
def AskTotalSaid : Prop := askTotalRow.holds Try.pinned (OpenSpec.ofChange askTotalSpec)

/-- ITS FALSE NEIGHBOUR: 'it returns false'. Refute it at one input. -/
def askTotalWrong : ChangeSpec := { name := "askTotal", fn := fun _ => fun
  | [d] => { results := [.lit (.bool false)], args := [d] }
  | _ => none }
def AskTotalWrongFalsely : Prop := askTotalRow.holds Try.pinned (OpenSpec.ofChange askTotalWrong)

/-- 'pitheadlaw18.CatalogGrows': WHATEVER THE INPUT: true; the input reads as it did. -/
def catalogGrowsSpec : ChangeSpec := { name := "catalogGrows", fn := fun _ => fun
  | [d1, d2] => { results := [.lit (.bool true)], args := [d1, d2] }
  | _ => none }
def catalogGrowsRow : OpenClaim := { program := "ytigjghfonpfdlaa", sum := "9044a89f78923548f170d1f19ea07c67fa40e95f7ba4eae69198e5f63642c362", func := "pithead/pitheadlaw18.CatalogGrows", spec := "catalogGrows", apart := false }
def CatalogGrowsSaid : Prop := catalogGrowsRow.holds Try.pinned (OpenSpec.ofChange catalogGrowsSpec)

/-- ITS FALSE NEIGHBOUR: 'it returns false'. Refute it at one input. -/
def catalogGrowsWrong : ChangeSpec := { name := "catalogGrows", fn := fun _ => fun
  | [d1, d2] => { results := [.lit (.bool false)], args := [d1, d2] }
  | _ => none }
def CatalogGrowsWrongFalsely : Prop := catalogGrowsRow.holds Try.pinned (OpenSpec.ofChange catalogGrowsWrong)

/-- 'pitheadlaw35.AskChecks': WHATEVER THE INPUT: true; the input reads as it did. -/
def askChecksSpec : ChangeSpec := { name := "askChecks", fn := fun _ => fun
  | [d1, d2] => { results := [.lit (.bool true)], args := [d1, d2] }
  | _ => none }
def askChecksRow : OpenClaim := { program := "ytigjghfonpfdlaa", sum := "9044a89f78923548f170d1f19ea07c67fa40e95f7ba4eae69198e5f63642c362", func := "pithead/pitheadlaw35.AskChecks", spec := "askChecks", unfollowed := true, recurses := true, apart := false }
def AskChecksSaid : Prop := askChecksRow.holds Try.pinned (OpenSpec.ofChange askChecksSpec)

/-- ITS FALSE NEIGHBOUR: 'it returns false'. Refute it at one input. -/
def askChecksWrong : ChangeSpec := { name := "askChecks", fn := fun _ => fun
  | [d1, d2] => { results := [.lit (.bool false)], args := [d1, d2] }
  | _ => none }
def AskChecksWrongFalsely : Prop := askChecksRow.holds Try.pinned (OpenSpec.ofChange askChecksWrong)

/-- 'pitheadlaw35.AskTakes': WHATEVER THE INPUT: true; the input reads as it did. -/
def askTakesSpec : ChangeSpec := { name := "askTakes", fn := fun _ => fun
  | [d1, d2] => { results := [.lit (.bool true)], args := [d1, d2] }
  | _ => none }
def askTakesRow : OpenClaim := { program := "ytigjghfonpfdlaa", sum := "9044a89f78923548f170d1f19ea07c67fa40e95f7ba4eae69198e5f63642c362", func := "pithead/pitheadlaw35.AskTakes", spec := "askTakes", unfollowed := true, recurses := true, apart := false }
def AskTakesSaid : Prop := askTakesRow.holds Try.pinned (OpenSpec.ofChange askTakesSpec)

/-- ITS FALSE NEIGHBOUR: 'it returns false'. Refute it at one input. -/
def askTakesWrong : ChangeSpec := { name := "askTakes", fn := fun _ => fun
  | [d1, d2] => { results := [.lit (.bool false)], args := [d1, d2] }
  | _ => none }
def AskTakesWrongFalsely : Prop := askTakesRow.holds Try.pinned (OpenSpec.ofChange askTakesWrong)

/-- 'pitheadlaw18.CatalogOrder': WHATEVER THE INPUT: true; the input reads as it did. -/
def catalogOrderSpec : ChangeSpec := { name := "catalogOrder", fn := fun _ => fun
  | [d1, d2, d3, d4] => { results := [.lit (.bool true)], args := [d1, d2, d3, d4] }
  | _ => none }
def catalogOrderRow : OpenClaim := { program := "ytigjghfonpfdlaa", sum := "9044a89f78923548f170d1f19ea07c67fa40e95f7ba4eae69198e5f63642c362", func := "pithead/pitheadlaw18.CatalogOrder", spec := "catalogOrder", apart := false }
def CatalogOrderSaid : Prop := catalogOrderRow.holds Try.pinned (OpenSpec.ofChange catalogOrderSpec)

/-- ITS FALSE NEIGHBOUR: 'it returns false'. Refute it at one input. -/
def catalogOrderWrong : ChangeSpec := { name := "catalogOrder", fn := fun _ => fun
  | [d1, d2, d3, d4] => { results := [.lit (.bool false)], args := [d1, d2, d3, d4] }
  | _ => none }
def CatalogOrderWrongFalsely : Prop := catalogOrderRow.holds Try.pinned (OpenSpec.ofChange catalogOrderWrong)

/-- 'pitheadlaw18.CatalogChecks': WHATEVER THE INPUT: true; the input reads as it did. -/
def catalogChecksSpec : ChangeSpec := { name := "catalogChecks", fn := fun _ => fun
  | [d] => { results := [.lit (.bool true)], args := [d] }
  | _ => none }
def catalogChecksRow : OpenClaim := { program := "ytigjghfonpfdlaa", sum := "9044a89f78923548f170d1f19ea07c67fa40e95f7ba4eae69198e5f63642c362", func := "pithead/pitheadlaw18.CatalogChecks", spec := "catalogChecks", unfollowed := true, recurses := true, apart := false }
def CatalogChecksSaid : Prop := catalogChecksRow.holds Try.pinned (OpenSpec.ofChange catalogChecksSpec)

/-- ITS FALSE NEIGHBOUR: 'it returns false'. Refute it at one input. -/
def catalogChecksWrong : ChangeSpec := { name := "catalogChecks", fn := fun _ => fun
  | [d] => { results := [.lit (.bool false)], args := [d] }
  | _ => none }
def CatalogChecksWrongFalsely : Prop := catalogChecksRow.holds Try.pinned (OpenSpec.ofChange catalogChecksWrong)

/-- 'pitheadlaw18.CatalogTakes': WHATEVER THE INPUT: true; the input reads as it did. -/
def catalogTakesSpec : ChangeSpec := { name := "catalogTakes", fn := fun _ => fun
  | [d] => { results := [.lit (.bool true)], args := [d] }
  | _ => none }
def catalogTakesRow : OpenClaim := { program := "ytigjghfonpfdlaa", sum := "9044a89f78923548f170d1f19ea07c67fa40e95f7ba4eae69198e5f63642c362", func := "pithead/pitheadlaw18.CatalogTakes", spec := "catalogTakes", unfollowed := true, recurses := true, apart := false }
def CatalogTakesSaid : Prop := catalogTakesRow.holds Try.pinned (OpenSpec.ofChange catalogTakesSpec)

/-- ITS FALSE NEIGHBOUR: 'it returns false'. Refute it at one input. -/
def catalogTakesWrong : ChangeSpec := { name := "catalogTakes", fn := fun _ => fun
  | [d] => { results := [.lit (.bool false)], args := [d] }
  | _ => none }
def CatalogTakesWrongFalsely : Prop := catalogTakesRow.holds Try.pinned (OpenSpec.ofChange catalogTakesWrong)

/-- 'pitheadlaw36.PlanNames': WHATEVER THE INPUT: true; the input reads as it did. -/
def planNamesSpec : ChangeSpec := { name := "planNames", fn := fun _ => fun
  | [d1, d2, d3] => { results := [.lit (.bool true)], args := [d1, d2, d3] }
  | _ => none }
def planNamesRow : OpenClaim := { program := "ytigjghfonpfdlaa", sum := "9044a89f78923548f170d1f19ea07c67fa40e95f7ba4eae69198e5f63642c362", func := "pithead/pitheadlaw36.PlanNames", spec := "planNames", unfollowed := true, recurses := true, apart := false }
def PlanNamesSaid : Prop := planNamesRow.holds Try.pinned (OpenSpec.ofChange planNamesSpec)

/-- ITS FALSE NEIGHBOUR: 'it returns false'. Refute it at one input. -/
def planNamesWrong : ChangeSpec := { name := "planNames", fn := fun _ => fun
  | [d1, d2, d3] => { results := [.lit (.bool false)], args := [d1, d2, d3] }
  | _ => none }
def PlanNamesWrongFalsely : Prop := planNamesRow.holds Try.pinned (OpenSpec.ofChange planNamesWrong)

/-- 'pitheadlaw36.PlanScans': WHATEVER THE INPUT: true; the input reads as it did. -/
def planScansSpec : ChangeSpec := { name := "planScans", fn := fun _ => fun
  | [d1, d2] => { results := [.lit (.bool true)], args := [d1, d2] }
  | _ => none }
def planScansRow : OpenClaim := { program := "ytigjghfonpfdlaa", sum := "9044a89f78923548f170d1f19ea07c67fa40e95f7ba4eae69198e5f63642c362", func := "pithead/pitheadlaw36.PlanScans", spec := "planScans", unfollowed := true, recurses := true, apart := false }
def PlanScansSaid : Prop := planScansRow.holds Try.pinned (OpenSpec.ofChange planScansSpec)

/-- ITS FALSE NEIGHBOUR: 'it returns false'. Refute it at one input. -/
def planScansWrong : ChangeSpec := { name := "planScans", fn := fun _ => fun
  | [d1, d2] => { results := [.lit (.bool false)], args := [d1, d2] }
  | _ => none }
def PlanScansWrongFalsely : Prop := planScansRow.holds Try.pinned (OpenSpec.ofChange planScansWrong)

/-- 'pitheadlaw36.PlanChecks': WHATEVER THE INPUT: true; the input reads as it did. -/
def planChecksSpec : ChangeSpec := { name := "planChecks", fn := fun _ => fun
  | [d1, d2] => { results := [.lit (.bool true)], args := [d1, d2] }
  | _ => none }
def planChecksRow : OpenClaim := { program := "ytigjghfonpfdlaa", sum := "9044a89f78923548f170d1f19ea07c67fa40e95f7ba4eae69198e5f63642c362", func := "pithead/pitheadlaw36.PlanChecks", spec := "planChecks", unfollowed := true, recurses := true, apart := false }
def PlanChecksSaid : Prop := planChecksRow.holds Try.pinned (OpenSpec.ofChange planChecksSpec)

/-- ITS FALSE NEIGHBOUR: 'it returns false'. Refute it at one input. -/
def planChecksWrong : ChangeSpec := { name := "planChecks", fn := fun _ => fun
  | [d1, d2] => { results := [.lit (.bool false)], args := [d1, d2] }
  | _ => none }
def PlanChecksWrongFalsely : Prop := planChecksRow.holds Try.pinned (OpenSpec.ofChange planChecksWrong)

/- THE SECOND FORM. 'bulk': how many values and letters a reading holds, each counted each time it is reached (what is shared counts as often as it is met; a slice's spare places count too). A statement '..UptoSaid' is the law's where the arguments, and the package variables that the reading takes, are together of bulk at most 1048576: NARROWER than '..Said'. Prove '..Said' where nothing that the law and all that it calls make is longer than what came in: it says more and counts as full. Else prove '..UptoSaid'. A law counts once. -/
mutual
def uptoBulk {H : Type} : DataW H → Nat
  | .lit (.string bytes) => bytes.length + 1
  | .lit _ => 1
  | .nil => 1
  | .ptr d => uptoBulk d + 1
  | .slice elems spare => uptoBulkAll elems + uptoBulkAll spare + 1
  | .agg parts => uptoBulkAll parts + 1
  | .iface _ d => uptoBulk d + 1
  | .map entries => uptoBulkEntries entries + 1
  | .held _ => 1
def uptoBulkAll {H : Type} : List (DataW H) → Nat
  | [] => 0
  | d :: r => uptoBulk d + uptoBulkAll r
def uptoBulkEntries {H : Type} : List (Lit × DataW H) → Nat
  | [] => 0
  | x :: r => uptoBulkEntry x + uptoBulkEntries r
def uptoBulkEntry {H : Type} : Lit × DataW H → Nat
  | (.string bytes, d) => bytes.length + uptoBulk d + 1
  | (_, d) => uptoBulk d + 1
 end
def uptoSmall : (H : Type) → List (DataW H) → Bool := fun _ ds => decide (uptoBulkAll ds ≤ 1048576)
def OpenSpec.upto (s : _root_.Go.ChangeSpec) : _root_.Go.OpenSpec := { _root_.Go.OpenSpec.ofChange s with cond := some uptoSmall }

/-- 'pitheadlaw35.AskTotal', WHERE WHAT IT READS IS OF BULK AT MOST 1048576: true; the input reads as it did. -/
def askTotalUptoRow : OpenClaim := { program := "ytigjghfonpfdlaa", sum := "9044a89f78923548f170d1f19ea07c67fa40e95f7ba4eae69198e5f63642c362", func := "pithead/pitheadlaw35.AskTotal", spec := "askTotal", unfollowed := true, recurses := true, apart := false, narrowed := true }
def AskTotalUptoSaid : Prop := askTotalUptoRow.holds Try.pinned (OpenSpec.upto askTotalSpec)

/-- 'pitheadlaw18.CatalogGrows', WHERE WHAT IT READS IS OF BULK AT MOST 1048576: true; the input reads as it did. -/
def catalogGrowsUptoRow : OpenClaim := { program := "ytigjghfonpfdlaa", sum := "9044a89f78923548f170d1f19ea07c67fa40e95f7ba4eae69198e5f63642c362", func := "pithead/pitheadlaw18.CatalogGrows", spec := "catalogGrows", apart := false, narrowed := true }
def CatalogGrowsUptoSaid : Prop := catalogGrowsUptoRow.holds Try.pinned (OpenSpec.upto catalogGrowsSpec)

/-- 'pitheadlaw35.AskChecks', WHERE WHAT IT READS IS OF BULK AT MOST 1048576: true; the input reads as it did. -/
def askChecksUptoRow : OpenClaim := { program := "ytigjghfonpfdlaa", sum := "9044a89f78923548f170d1f19ea07c67fa40e95f7ba4eae69198e5f63642c362", func := "pithead/pitheadlaw35.AskChecks", spec := "askChecks", unfollowed := true, recurses := true, apart := false, narrowed := true }
def AskChecksUptoSaid : Prop := askChecksUptoRow.holds Try.pinned (OpenSpec.upto askChecksSpec)

/-- 'pitheadlaw35.AskTakes', WHERE WHAT IT READS IS OF BULK AT MOST 1048576: true; the input reads as it did. -/
def askTakesUptoRow : OpenClaim := { program := "ytigjghfonpfdlaa", sum := "9044a89f78923548f170d1f19ea07c67fa40e95f7ba4eae69198e5f63642c362", func := "pithead/pitheadlaw35.AskTakes", spec := "askTakes", unfollowed := true, recurses := true, apart := false, narrowed := true }
def AskTakesUptoSaid : Prop := askTakesUptoRow.holds Try.pinned (OpenSpec.upto askTakesSpec)

/-- 'pitheadlaw18.CatalogOrder', WHERE WHAT IT READS IS OF BULK AT MOST 1048576: true; the input reads as it did. -/
def catalogOrderUptoRow : OpenClaim := { program := "ytigjghfonpfdlaa", sum := "9044a89f78923548f170d1f19ea07c67fa40e95f7ba4eae69198e5f63642c362", func := "pithead/pitheadlaw18.CatalogOrder", spec := "catalogOrder", apart := false, narrowed := true }
def CatalogOrderUptoSaid : Prop := catalogOrderUptoRow.holds Try.pinned (OpenSpec.upto catalogOrderSpec)

/-- 'pitheadlaw18.CatalogChecks', WHERE WHAT IT READS IS OF BULK AT MOST 1048576: true; the input reads as it did. -/
def catalogChecksUptoRow : OpenClaim := { program := "ytigjghfonpfdlaa", sum := "9044a89f78923548f170d1f19ea07c67fa40e95f7ba4eae69198e5f63642c362", func := "pithead/pitheadlaw18.CatalogChecks", spec := "catalogChecks", unfollowed := true, recurses := true, apart := false, narrowed := true }
def CatalogChecksUptoSaid : Prop := catalogChecksUptoRow.holds Try.pinned (OpenSpec.upto catalogChecksSpec)

/-- 'pitheadlaw18.CatalogTakes', WHERE WHAT IT READS IS OF BULK AT MOST 1048576: true; the input reads as it did. -/
def catalogTakesUptoRow : OpenClaim := { program := "ytigjghfonpfdlaa", sum := "9044a89f78923548f170d1f19ea07c67fa40e95f7ba4eae69198e5f63642c362", func := "pithead/pitheadlaw18.CatalogTakes", spec := "catalogTakes", unfollowed := true, recurses := true, apart := false, narrowed := true }
def CatalogTakesUptoSaid : Prop := catalogTakesUptoRow.holds Try.pinned (OpenSpec.upto catalogTakesSpec)

/-- 'pitheadlaw36.PlanNames', WHERE WHAT IT READS IS OF BULK AT MOST 1048576: true; the input reads as it did. -/
def planNamesUptoRow : OpenClaim := { program := "ytigjghfonpfdlaa", sum := "9044a89f78923548f170d1f19ea07c67fa40e95f7ba4eae69198e5f63642c362", func := "pithead/pitheadlaw36.PlanNames", spec := "planNames", unfollowed := true, recurses := true, apart := false, narrowed := true }
def PlanNamesUptoSaid : Prop := planNamesUptoRow.holds Try.pinned (OpenSpec.upto planNamesSpec)

/-- 'pitheadlaw36.PlanScans', WHERE WHAT IT READS IS OF BULK AT MOST 1048576: true; the input reads as it did. -/
def planScansUptoRow : OpenClaim := { program := "ytigjghfonpfdlaa", sum := "9044a89f78923548f170d1f19ea07c67fa40e95f7ba4eae69198e5f63642c362", func := "pithead/pitheadlaw36.PlanScans", spec := "planScans", unfollowed := true, recurses := true, apart := false, narrowed := true }
def PlanScansUptoSaid : Prop := planScansUptoRow.holds Try.pinned (OpenSpec.upto planScansSpec)

/-- 'pitheadlaw36.PlanChecks', WHERE WHAT IT READS IS OF BULK AT MOST 1048576: true; the input reads as it did. -/
def planChecksUptoRow : OpenClaim := { program := "ytigjghfonpfdlaa", sum := "9044a89f78923548f170d1f19ea07c67fa40e95f7ba4eae69198e5f63642c362", func := "pithead/pitheadlaw36.PlanChecks", spec := "planChecks", unfollowed := true, recurses := true, apart := false, narrowed := true }
def PlanChecksUptoSaid : Prop := planChecksUptoRow.holds Try.pinned (OpenSpec.upto planChecksSpec)

end Rows
end Go.Proofs.Ytigjghfonpfdlaa
