/-
  No cell of these rows narrows 'for every input' (looked for: loops, veiled, ifaces, maps, wideKeys, modest, calm, conditions, laid).
  DERIVED. THE GIVEN ROWS OF THIS SEAT. 12 by the template 'for every input the law returns true; each argument reads behind the call as it read before'; 0 by the template 'total and deterministic' (their statements: YtnekknemjhlgdaaTotals.lean).
  GIVEN WITH THE SEED: the statements are not yours to turn. If you find one false, say at which input.
  Laid BY PROGRAM, IN A SANDBOX (cutbox-rows.mjs): the forced cells as the released guide's own fill.sh prints them over the translation 359e25c76b26f5fb… (all of the seat's roots in one cut). By AI agents, Wed Nov 11 2026. No macro, syntax, notation, axiom, sorry.
-/
import Derived.Test.YtnekknemjhlgdaaChecked
import GoSem.Claim
import GoSem.ClaimJoined
import GoSem.ClaimMapViews
import Derived.JoinedTies
import Derived.KernelRfl
namespace Go.Proofs.Ytnekknemjhlgdaa
/- THE CELL 'sum', in the pinned program and in every row, IS THE sha256 OF THE DUMP (.gsa) THAT YtnekknemjhlgdaaProg.lean LOADS. Nothing in Lean hashes anything: it is a label: what it is worth is what the hold of that sum in a sandbox is worth. -/
noncomputable def Try.pinned : Pinned := { name := "ytnekknemjhlgdaa", sum := "359e25c76b26f5fb1dae91ba4a996fc404fa41bdcd747a02b51f517b5d0e20bd", checked := Try.checked }
namespace Rows
def none {H : Type} : Left H := { results := [], args := [] }

/-- 'pitheadlaw18.CatalogChecks': WHATEVER THE INPUT: true; the input reads as it did. -/
def catalogChecksSpec : ChangeSpec := { name := "catalogChecks", fn := fun _ => fun
  | [d] => { results := [.lit (.bool true)], args := [d] }
  | _ => none }
def catalogChecksRow : OpenClaim := { program := "ytnekknemjhlgdaa", sum := "359e25c76b26f5fb1dae91ba4a996fc404fa41bdcd747a02b51f517b5d0e20bd", func := "pithead/pitheadlaw18.CatalogChecks", spec := "catalogChecks", unfollowed := true, recurses := true, apart := false }
def CatalogChecksSaid : Prop := catalogChecksRow.holds Try.pinned (OpenSpec.ofChange catalogChecksSpec)

/-- ITS FALSE NEIGHBOUR: 'it returns false'. Refute it at one input. -/
def catalogChecksWrong : ChangeSpec := { name := "catalogChecks", fn := fun _ => fun
  | [d] => { results := [.lit (.bool false)], args := [d] }
  | _ => none }
def CatalogChecksWrongFalsely : Prop := catalogChecksRow.holds Try.pinned (OpenSpec.ofChange catalogChecksWrong)

/-- 'pitheadlaw18.CatalogTakes': WHATEVER THE INPUT: true; the input reads as it did. -/
def catalogTakesSpec : ChangeSpec := { name := "catalogTakes", fn := fun _ => fun
  | [d] => { results := [.lit (.bool true)], args := [d] }
  | _ => none }
def catalogTakesRow : OpenClaim := { program := "ytnekknemjhlgdaa", sum := "359e25c76b26f5fb1dae91ba4a996fc404fa41bdcd747a02b51f517b5d0e20bd", func := "pithead/pitheadlaw18.CatalogTakes", spec := "catalogTakes", unfollowed := true, recurses := true, apart := false }
def CatalogTakesSaid : Prop := catalogTakesRow.holds Try.pinned (OpenSpec.ofChange catalogTakesSpec)

/-- ITS FALSE NEIGHBOUR: 'it returns false'. Refute it at one input. -/
def catalogTakesWrong : ChangeSpec := { name := "catalogTakes", fn := fun _ => fun
  | [d] => { results := [.lit (.bool false)], args := [d] }
  | _ => none }
def CatalogTakesWrongFalsely : Prop := catalogTakesRow.holds Try.pinned (OpenSpec.ofChange catalogTakesWrong)

/-- 'pitheadlaw36.PlanScans': WHATEVER THE INPUT: true; the input reads as it did. -/
def planScansSpec : ChangeSpec := { name := "planScans", fn := fun _ => fun
  | [d1, d2] => { results := [.lit (.bool true)], args := [d1, d2] }
  | _ => none }
def planScansRow : OpenClaim := { program := "ytnekknemjhlgdaa", sum := "359e25c76b26f5fb1dae91ba4a996fc404fa41bdcd747a02b51f517b5d0e20bd", func := "pithead/pitheadlaw36.PlanScans", spec := "planScans", unfollowed := true, recurses := true, apart := false }
def PlanScansSaid : Prop := planScansRow.holds Try.pinned (OpenSpec.ofChange planScansSpec)

/-- ITS FALSE NEIGHBOUR: 'it returns false'. Refute it at one input. -/
def planScansWrong : ChangeSpec := { name := "planScans", fn := fun _ => fun
  | [d1, d2] => { results := [.lit (.bool false)], args := [d1, d2] }
  | _ => none }
def PlanScansWrongFalsely : Prop := planScansRow.holds Try.pinned (OpenSpec.ofChange planScansWrong)

/-- 'pitheadlaw23.IngestRows': WHATEVER THE INPUT: true; the input reads as it did. -/
def ingestRowsSpec : ChangeSpec := { name := "ingestRows", fn := fun _ => fun
  | [d1, d2] => { results := [.lit (.bool true)], args := [d1, d2] }
  | _ => none }
def ingestRowsRow : OpenClaim := { program := "ytnekknemjhlgdaa", sum := "359e25c76b26f5fb1dae91ba4a996fc404fa41bdcd747a02b51f517b5d0e20bd", func := "pithead/pitheadlaw23.IngestRows", spec := "ingestRows", unfollowed := true, recurses := true, apart := false }
def IngestRowsSaid : Prop := ingestRowsRow.holds Try.pinned (OpenSpec.ofChange ingestRowsSpec)

/-- ITS FALSE NEIGHBOUR: 'it returns false'. Refute it at one input. -/
def ingestRowsWrong : ChangeSpec := { name := "ingestRows", fn := fun _ => fun
  | [d1, d2] => { results := [.lit (.bool false)], args := [d1, d2] }
  | _ => none }
def IngestRowsWrongFalsely : Prop := ingestRowsRow.holds Try.pinned (OpenSpec.ofChange ingestRowsWrong)

/-- 'pitheadlaw23.IngestOrder': WHATEVER THE INPUT: true; the input reads as it did. -/
def ingestOrderSpec : ChangeSpec := { name := "ingestOrder", fn := fun _ => fun
  | [d1, d2, d3] => { results := [.lit (.bool true)], args := [d1, d2, d3] }
  | _ => none }
def ingestOrderRow : OpenClaim := { program := "ytnekknemjhlgdaa", sum := "359e25c76b26f5fb1dae91ba4a996fc404fa41bdcd747a02b51f517b5d0e20bd", func := "pithead/pitheadlaw23.IngestOrder", spec := "ingestOrder", unfollowed := true, recurses := true, apart := false }
def IngestOrderSaid : Prop := ingestOrderRow.holds Try.pinned (OpenSpec.ofChange ingestOrderSpec)

/-- ITS FALSE NEIGHBOUR: 'it returns false'. Refute it at one input. -/
def ingestOrderWrong : ChangeSpec := { name := "ingestOrder", fn := fun _ => fun
  | [d1, d2, d3] => { results := [.lit (.bool false)], args := [d1, d2, d3] }
  | _ => none }
def IngestOrderWrongFalsely : Prop := ingestOrderRow.holds Try.pinned (OpenSpec.ofChange ingestOrderWrong)

/-- 'pitheadlaw23.IngestFolds': WHATEVER THE INPUT: true; the input reads as it did. -/
def ingestFoldsSpec : ChangeSpec := { name := "ingestFolds", fn := fun _ => fun
  | [d1, d2] => { results := [.lit (.bool true)], args := [d1, d2] }
  | _ => none }
def ingestFoldsRow : OpenClaim := { program := "ytnekknemjhlgdaa", sum := "359e25c76b26f5fb1dae91ba4a996fc404fa41bdcd747a02b51f517b5d0e20bd", func := "pithead/pitheadlaw23.IngestFolds", spec := "ingestFolds", unfollowed := true, recurses := true, apart := false }
def IngestFoldsSaid : Prop := ingestFoldsRow.holds Try.pinned (OpenSpec.ofChange ingestFoldsSpec)

/-- ITS FALSE NEIGHBOUR: 'it returns false'. Refute it at one input. -/
def ingestFoldsWrong : ChangeSpec := { name := "ingestFolds", fn := fun _ => fun
  | [d1, d2] => { results := [.lit (.bool false)], args := [d1, d2] }
  | _ => none }
def IngestFoldsWrongFalsely : Prop := ingestFoldsRow.holds Try.pinned (OpenSpec.ofChange ingestFoldsWrong)

/-- 'pitheadlaw22.KmergeMerges': WHATEVER THE INPUT: true; the input reads as it did. -/
def kmergeMergesSpec : ChangeSpec := { name := "kmergeMerges", fn := fun _ => fun
  | [d1, d2] => { results := [.lit (.bool true)], args := [d1, d2] }
  | _ => none }
def kmergeMergesRow : OpenClaim := { program := "ytnekknemjhlgdaa", sum := "359e25c76b26f5fb1dae91ba4a996fc404fa41bdcd747a02b51f517b5d0e20bd", func := "pithead/pitheadlaw22.KmergeMerges", spec := "kmergeMerges", unfollowed := true, recurses := true, apart := false }
def KmergeMergesSaid : Prop := kmergeMergesRow.holds Try.pinned (OpenSpec.ofChange kmergeMergesSpec)

/-- ITS FALSE NEIGHBOUR: 'it returns false'. Refute it at one input. -/
def kmergeMergesWrong : ChangeSpec := { name := "kmergeMerges", fn := fun _ => fun
  | [d1, d2] => { results := [.lit (.bool false)], args := [d1, d2] }
  | _ => none }
def KmergeMergesWrongFalsely : Prop := kmergeMergesRow.holds Try.pinned (OpenSpec.ofChange kmergeMergesWrong)

/-- 'pitheadlaw22.KmergeSorts': WHATEVER THE INPUT: true; the input reads as it did. -/
def kmergeSortsSpec : ChangeSpec := { name := "kmergeSorts", fn := fun _ => fun
  | [d1, d2, d3] => { results := [.lit (.bool true)], args := [d1, d2, d3] }
  | _ => none }
def kmergeSortsRow : OpenClaim := { program := "ytnekknemjhlgdaa", sum := "359e25c76b26f5fb1dae91ba4a996fc404fa41bdcd747a02b51f517b5d0e20bd", func := "pithead/pitheadlaw22.KmergeSorts", spec := "kmergeSorts", unfollowed := true, recurses := true, apart := false }
def KmergeSortsSaid : Prop := kmergeSortsRow.holds Try.pinned (OpenSpec.ofChange kmergeSortsSpec)

/-- ITS FALSE NEIGHBOUR: 'it returns false'. Refute it at one input. -/
def kmergeSortsWrong : ChangeSpec := { name := "kmergeSorts", fn := fun _ => fun
  | [d1, d2, d3] => { results := [.lit (.bool false)], args := [d1, d2, d3] }
  | _ => none }
def KmergeSortsWrongFalsely : Prop := kmergeSortsRow.holds Try.pinned (OpenSpec.ofChange kmergeSortsWrong)

/-- 'pitheadlaw25.ArenaAhead': WHATEVER THE INPUT: true; the input reads as it did. -/
def arenaAheadSpec : ChangeSpec := { name := "arenaAhead", fn := fun _ => fun
  | [d1, d2, d3] => { results := [.lit (.bool true)], args := [d1, d2, d3] }
  | _ => none }
def arenaAheadRow : OpenClaim := { program := "ytnekknemjhlgdaa", sum := "359e25c76b26f5fb1dae91ba4a996fc404fa41bdcd747a02b51f517b5d0e20bd", func := "pithead/pitheadlaw25.ArenaAhead", spec := "arenaAhead", unfollowed := true, recurses := true, apart := false }
def ArenaAheadSaid : Prop := arenaAheadRow.holds Try.pinned (OpenSpec.ofChange arenaAheadSpec)

/-- ITS FALSE NEIGHBOUR: 'it returns false'. Refute it at one input. -/
def arenaAheadWrong : ChangeSpec := { name := "arenaAhead", fn := fun _ => fun
  | [d1, d2, d3] => { results := [.lit (.bool false)], args := [d1, d2, d3] }
  | _ => none }
def ArenaAheadWrongFalsely : Prop := arenaAheadRow.holds Try.pinned (OpenSpec.ofChange arenaAheadWrong)

/-- 'pitheadlaw25.ArenaAdds': WHATEVER THE INPUT: true; the input reads as it did. -/
def arenaAddsSpec : ChangeSpec := { name := "arenaAdds", fn := fun _ => fun
  | [d1, d2, d3, d4] => { results := [.lit (.bool true)], args := [d1, d2, d3, d4] }
  | _ => none }
def arenaAddsRow : OpenClaim := { program := "ytnekknemjhlgdaa", sum := "359e25c76b26f5fb1dae91ba4a996fc404fa41bdcd747a02b51f517b5d0e20bd", func := "pithead/pitheadlaw25.ArenaAdds", spec := "arenaAdds", unfollowed := true, recurses := true, apart := false }
def ArenaAddsSaid : Prop := arenaAddsRow.holds Try.pinned (OpenSpec.ofChange arenaAddsSpec)

/-- ITS FALSE NEIGHBOUR: 'it returns false'. Refute it at one input. -/
def arenaAddsWrong : ChangeSpec := { name := "arenaAdds", fn := fun _ => fun
  | [d1, d2, d3, d4] => { results := [.lit (.bool false)], args := [d1, d2, d3, d4] }
  | _ => none }
def ArenaAddsWrongFalsely : Prop := arenaAddsRow.holds Try.pinned (OpenSpec.ofChange arenaAddsWrong)

/-- 'pitheadlaw25.ArenaNobody': WHATEVER THE INPUT: true; the input reads as it did. -/
def arenaNobodySpec : ChangeSpec := { name := "arenaNobody", fn := fun _ => fun
  | [d1, d2, d3] => { results := [.lit (.bool true)], args := [d1, d2, d3] }
  | _ => none }
def arenaNobodyRow : OpenClaim := { program := "ytnekknemjhlgdaa", sum := "359e25c76b26f5fb1dae91ba4a996fc404fa41bdcd747a02b51f517b5d0e20bd", func := "pithead/pitheadlaw25.ArenaNobody", spec := "arenaNobody", unfollowed := true, recurses := true, apart := false }
def ArenaNobodySaid : Prop := arenaNobodyRow.holds Try.pinned (OpenSpec.ofChange arenaNobodySpec)

/-- ITS FALSE NEIGHBOUR: 'it returns false'. Refute it at one input. -/
def arenaNobodyWrong : ChangeSpec := { name := "arenaNobody", fn := fun _ => fun
  | [d1, d2, d3] => { results := [.lit (.bool false)], args := [d1, d2, d3] }
  | _ => none }
def ArenaNobodyWrongFalsely : Prop := arenaNobodyRow.holds Try.pinned (OpenSpec.ofChange arenaNobodyWrong)

/-- 'pitheadlaw25.ArenaLoads': WHATEVER THE INPUT: true; the input reads as it did. -/
def arenaLoadsSpec : ChangeSpec := { name := "arenaLoads", fn := fun _ => fun
  | [d1, d2] => { results := [.lit (.bool true)], args := [d1, d2] }
  | _ => none }
def arenaLoadsRow : OpenClaim := { program := "ytnekknemjhlgdaa", sum := "359e25c76b26f5fb1dae91ba4a996fc404fa41bdcd747a02b51f517b5d0e20bd", func := "pithead/pitheadlaw25.ArenaLoads", spec := "arenaLoads", unfollowed := true, recurses := true, apart := false }
def ArenaLoadsSaid : Prop := arenaLoadsRow.holds Try.pinned (OpenSpec.ofChange arenaLoadsSpec)

/-- ITS FALSE NEIGHBOUR: 'it returns false'. Refute it at one input. -/
def arenaLoadsWrong : ChangeSpec := { name := "arenaLoads", fn := fun _ => fun
  | [d1, d2] => { results := [.lit (.bool false)], args := [d1, d2] }
  | _ => none }
def ArenaLoadsWrongFalsely : Prop := arenaLoadsRow.holds Try.pinned (OpenSpec.ofChange arenaLoadsWrong)

/- THE SECOND FORM. 'bulk': how many values and letters a reading holds, each counted each time it is reached (what is shared counts as often as it is met; a slice's spare places count too). A statement '..UptoSaid' is the law's where the arguments, and the package variables that the reading takes, are together of bulk at most 1048576: NARROWER than '..Said'. Prove '..Said' where nothing that the law and all that it calls make is longer than what came in: it says more and counts as full. Else prove '..UptoSaid'. A law counts once. -/
mutual
def uptoBulk {H : Type} : DataW H → Nat
  | .lit (.string bytes) => bytes.length + 1
  | .lit _ => 1
  | .nil => 1
  | .ptr d => uptoBulk d + 1
  | .slice elems spare => uptoBulkAll elems + uptoBulkAll spare + 1
  | .agg parts => uptoBulkAll parts + 1
  | .iface _ d => uptoBulk d + 1
  | .map entries => uptoBulkEntries entries + 1
  | .held _ => 1
def uptoBulkAll {H : Type} : List (DataW H) → Nat
  | [] => 0
  | d :: r => uptoBulk d + uptoBulkAll r
def uptoBulkEntries {H : Type} : List (Lit × DataW H) → Nat
  | [] => 0
  | x :: r => uptoBulkEntry x + uptoBulkEntries r
def uptoBulkEntry {H : Type} : Lit × DataW H → Nat
  | (.string bytes, d) => bytes.length + uptoBulk d + 1
  | (_, d) => uptoBulk d + 1
 end
def uptoSmall : (H : Type) → List (DataW H) → Bool := fun _ ds => decide (uptoBulkAll ds ≤ 1048576)
def OpenSpec.upto (s : _root_.Go.ChangeSpec) : _root_.Go.OpenSpec := { _root_.Go.OpenSpec.ofChange s with cond := some uptoSmall }

/-- 'pitheadlaw18.CatalogChecks', WHERE WHAT IT READS IS OF BULK AT MOST 1048576: true; the input reads as it did. -/
def catalogChecksUptoRow : OpenClaim := { program := "ytnekknemjhlgdaa", sum := "359e25c76b26f5fb1dae91ba4a996fc404fa41bdcd747a02b51f517b5d0e20bd", func := "pithead/pitheadlaw18.CatalogChecks", spec := "catalogChecks", unfollowed := true, recurses := true, apart := false, narrowed := true }
def CatalogChecksUptoSaid : Prop := catalogChecksUptoRow.holds Try.pinned (OpenSpec.upto catalogChecksSpec)

/-- 'pitheadlaw18.CatalogTakes', WHERE WHAT IT READS IS OF BULK AT MOST 1048576: true; the input reads as it did. -/
def catalogTakesUptoRow : OpenClaim := { program := "ytnekknemjhlgdaa", sum := "359e25c76b26f5fb1dae91ba4a996fc404fa41bdcd747a02b51f517b5d0e20bd", func := "pithead/pitheadlaw18.CatalogTakes", spec := "catalogTakes", unfollowed := true, recurses := true, apart := false, narrowed := true }
def CatalogTakesUptoSaid : Prop := catalogTakesUptoRow.holds Try.pinned (OpenSpec.upto catalogTakesSpec)

/-- 'pitheadlaw36.PlanScans', WHERE WHAT IT READS IS OF BULK AT MOST 1048576: true; the input reads as it did. -/
def planScansUptoRow : OpenClaim := { program := "ytnekknemjhlgdaa", sum := "359e25c76b26f5fb1dae91ba4a996fc404fa41bdcd747a02b51f517b5d0e20bd", func := "pithead/pitheadlaw36.PlanScans", spec := "planScans", unfollowed := true, recurses := true, apart := false, narrowed := true }
def PlanScansUptoSaid : Prop := planScansUptoRow.holds Try.pinned (OpenSpec.upto planScansSpec)

/-- 'pitheadlaw23.IngestRows', WHERE WHAT IT READS IS OF BULK AT MOST 1048576: true; the input reads as it did. -/
def ingestRowsUptoRow : OpenClaim := { program := "ytnekknemjhlgdaa", sum := "359e25c76b26f5fb1dae91ba4a996fc404fa41bdcd747a02b51f517b5d0e20bd", func := "pithead/pitheadlaw23.IngestRows", spec := "ingestRows", unfollowed := true, recurses := true, apart := false, narrowed := true }
def IngestRowsUptoSaid : Prop := ingestRowsUptoRow.holds Try.pinned (OpenSpec.upto ingestRowsSpec)

/-- 'pitheadlaw23.IngestOrder', WHERE WHAT IT READS IS OF BULK AT MOST 1048576: true; the input reads as it did. -/
def ingestOrderUptoRow : OpenClaim := { program := "ytnekknemjhlgdaa", sum := "359e25c76b26f5fb1dae91ba4a996fc404fa41bdcd747a02b51f517b5d0e20bd", func := "pithead/pitheadlaw23.IngestOrder", spec := "ingestOrder", unfollowed := true, recurses := true, apart := false, narrowed := true }
def IngestOrderUptoSaid : Prop := ingestOrderUptoRow.holds Try.pinned (OpenSpec.upto ingestOrderSpec)

/-- 'pitheadlaw23.IngestFolds', WHERE WHAT IT READS IS OF BULK AT MOST 1048576: true; the input reads as it did. -/
def ingestFoldsUptoRow : OpenClaim := { program := "ytnekknemjhlgdaa", sum := "359e25c76b26f5fb1dae91ba4a996fc404fa41bdcd747a02b51f517b5d0e20bd", func := "pithead/pitheadlaw23.IngestFolds", spec := "ingestFolds", unfollowed := true, recurses := true, apart := false, narrowed := true }
def IngestFoldsUptoSaid : Prop := ingestFoldsUptoRow.holds Try.pinned (OpenSpec.upto ingestFoldsSpec)

/-- 'pitheadlaw22.KmergeMerges', WHERE WHAT IT READS IS OF BULK AT MOST 1048576: true; the input reads as it did. -/
def kmergeMergesUptoRow : OpenClaim := { program := "ytnekknemjhlgdaa", sum := "359e25c76b26f5fb1dae91ba4a996fc404fa41bdcd747a02b51f517b5d0e20bd", func := "pithead/pitheadlaw22.KmergeMerges", spec := "kmergeMerges", unfollowed := true, recurses := true, apart := false, narrowed := true }
def KmergeMergesUptoSaid : Prop := kmergeMergesUptoRow.holds Try.pinned (OpenSpec.upto kmergeMergesSpec)

/-- 'pitheadlaw22.KmergeSorts', WHERE WHAT IT READS IS OF BULK AT MOST 1048576: true; the input reads as it did. -/
def kmergeSortsUptoRow : OpenClaim := { program := "ytnekknemjhlgdaa", sum := "359e25c76b26f5fb1dae91ba4a996fc404fa41bdcd747a02b51f517b5d0e20bd", func := "pithead/pitheadlaw22.KmergeSorts", spec := "kmergeSorts", unfollowed := true, recurses := true, apart := false, narrowed := true }
def KmergeSortsUptoSaid : Prop := kmergeSortsUptoRow.holds Try.pinned (OpenSpec.upto kmergeSortsSpec)

/-- 'pitheadlaw25.ArenaAhead', WHERE WHAT IT READS IS OF BULK AT MOST 1048576: true; the input reads as it did. -/
def arenaAheadUptoRow : OpenClaim := { program := "ytnekknemjhlgdaa", sum := "359e25c76b26f5fb1dae91ba4a996fc404fa41bdcd747a02b51f517b5d0e20bd", func := "pithead/pitheadlaw25.ArenaAhead", spec := "arenaAhead", unfollowed := true, recurses := true, apart := false, narrowed := true }
def ArenaAheadUptoSaid : Prop := arenaAheadUptoRow.holds Try.pinned (OpenSpec.upto arenaAheadSpec)

/-- 'pitheadlaw25.ArenaAdds', WHERE WHAT IT READS IS OF BULK AT MOST 1048576: true; the input reads as it did. -/
def arenaAddsUptoRow : OpenClaim := { program := "ytnekknemjhlgdaa", sum := "359e25c76b26f5fb1dae91ba4a996fc404fa41bdcd747a02b51f517b5d0e20bd", func := "pithead/pitheadlaw25.ArenaAdds", spec := "arenaAdds", unfollowed := true, recurses := true, apart := false, narrowed := true }
def ArenaAddsUptoSaid : Prop := arenaAddsUptoRow.holds Try.pinned (OpenSpec.upto arenaAddsSpec)

/-- 'pitheadlaw25.ArenaNobody', WHERE WHAT IT READS IS OF BULK AT MOST 1048576: true; the input reads as it did. -/
def arenaNobodyUptoRow : OpenClaim := { program := "ytnekknemjhlgdaa", sum := "359e25c76b26f5fb1dae91ba4a996fc404fa41bdcd747a02b51f517b5d0e20bd", func := "pithead/pitheadlaw25.ArenaNobody", spec := "arenaNobody", unfollowed := true, recurses := true, apart := false, narrowed := true }
def ArenaNobodyUptoSaid : Prop := arenaNobodyUptoRow.holds Try.pinned (OpenSpec.upto arenaNobodySpec)

/-- 'pitheadlaw25.ArenaLoads', WHERE WHAT IT READS IS OF BULK AT MOST 1048576: true; the input reads as it did. -/
def arenaLoadsUptoRow : OpenClaim := { program := "ytnekknemjhlgdaa", sum := "359e25c76b26f5fb1dae91ba4a996fc404fa41bdcd747a02b51f517b5d0e20bd", func := "pithead/pitheadlaw25.ArenaLoads", spec := "arenaLoads", unfollowed := true, recurses := true, apart := false, narrowed := true }
def ArenaLoadsUptoSaid : Prop := arenaLoadsUptoRow.holds Try.pinned (OpenSpec.upto arenaLoadsSpec)

end Rows
end Go.Proofs.Ytnekknemjhlgdaa
