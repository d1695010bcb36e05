/-
  No cell of these rows narrows 'for every input' (looked for: loops, veiled, ifaces, maps, wideKeys, modest, calm, conditions, laid).
  DERIVED. THE GIVEN ROWS OF THIS SEAT. 4 by the template 'for every input the law returns true; each argument reads behind the call as it read before'; 0 by the template 'total and deterministic' (their statements: YtelnhhbefdfeoaaTotals.lean).
  GIVEN WITH THE SEED: the statements are not yours to turn. If you find one false, say at which input.
  Laid BY PROGRAM, IN A SANDBOX (cutbox-rows.mjs): the forced cells as the released guide's own fill.sh prints them over the translation a76d05f629e001d0… (all of the seat's roots in one cut). By AI agents, Wed Nov 11 2026. No macro, syntax, notation, axiom, sorry.
-/
import Derived.Test.YtelnhhbefdfeoaaChecked
import GoSem.Claim
import GoSem.ClaimJoined
import GoSem.ClaimMapViews
import Derived.JoinedTies
import Derived.KernelRfl
namespace Go.Proofs.Ytelnhhbefdfeoaa
/- THE CELL 'sum', in the pinned program and in every row, IS THE sha256 OF THE DUMP (.gsa) THAT YtelnhhbefdfeoaaProg.lean LOADS. Nothing in Lean hashes anything: it is a label: what it is worth is what the hold of that sum in a sandbox is worth. -/
noncomputable def Try.pinned : Pinned := { name := "ytelnhhbefdfeoaa", sum := "a76d05f629e001d07816c25b80af330baeebf59684d7ec3cc57124ab8b535a84", checked := Try.checked }
namespace Rows
def none {H : Type} : Left H := { results := [], args := [] }

/-- 'pitheadlaw23.IngestRows': WHATEVER THE INPUT: true; the input reads as it did. -/
def ingestRowsSpec : ChangeSpec := { name := "ingestRows", fn := fun _ => fun
  | [d1, d2] => { results := [.lit (.bool true)], args := [d1, d2] }
  | _ => none }
def ingestRowsRow : OpenClaim := { program := "ytelnhhbefdfeoaa", sum := "a76d05f629e001d07816c25b80af330baeebf59684d7ec3cc57124ab8b535a84", func := "pithead/pitheadlaw23.IngestRows", spec := "ingestRows", unfollowed := true, recurses := true, apart := false }
def IngestRowsSaid : Prop := ingestRowsRow.holds Try.pinned (OpenSpec.ofChange ingestRowsSpec)

/-- ITS FALSE NEIGHBOUR: 'it returns false'. Refute it at one input. -/
def ingestRowsWrong : ChangeSpec := { name := "ingestRows", fn := fun _ => fun
  | [d1, d2] => { results := [.lit (.bool false)], args := [d1, d2] }
  | _ => none }
def IngestRowsWrongFalsely : Prop := ingestRowsRow.holds Try.pinned (OpenSpec.ofChange ingestRowsWrong)

/-- 'pitheadlaw23.IngestOrder': WHATEVER THE INPUT: true; the input reads as it did. -/
def ingestOrderSpec : ChangeSpec := { name := "ingestOrder", fn := fun _ => fun
  | [d1, d2, d3] => { results := [.lit (.bool true)], args := [d1, d2, d3] }
  | _ => none }
def ingestOrderRow : OpenClaim := { program := "ytelnhhbefdfeoaa", sum := "a76d05f629e001d07816c25b80af330baeebf59684d7ec3cc57124ab8b535a84", func := "pithead/pitheadlaw23.IngestOrder", spec := "ingestOrder", unfollowed := true, recurses := true, apart := false }
def IngestOrderSaid : Prop := ingestOrderRow.holds Try.pinned (OpenSpec.ofChange ingestOrderSpec)

/-- ITS FALSE NEIGHBOUR: 'it returns false'. Refute it at one input. -/
def ingestOrderWrong : ChangeSpec := { name := "ingestOrder", fn := fun _ => fun
  | [d1, d2, d3] => { results := [.lit (.bool false)], args := [d1, d2, d3] }
  | _ => none }
def IngestOrderWrongFalsely : Prop := ingestOrderRow.holds Try.pinned (OpenSpec.ofChange ingestOrderWrong)

/-- 'pitheadlaw23.IngestFolds': WHATEVER THE INPUT: true; the input reads as it did. -/
def ingestFoldsSpec : ChangeSpec := { name := "ingestFolds", fn := fun _ => fun
  | [d1, d2] => { results := [.lit (.bool true)], args := [d1, d2] }
  | _ => none }
def ingestFoldsRow : OpenClaim := { program := "ytelnhhbefdfeoaa", sum := "a76d05f629e001d07816c25b80af330baeebf59684d7ec3cc57124ab8b535a84", func := "pithead/pitheadlaw23.IngestFolds", spec := "ingestFolds", unfollowed := true, recurses := true, apart := false }
def IngestFoldsSaid : Prop := ingestFoldsRow.holds Try.pinned (OpenSpec.ofChange ingestFoldsSpec)

/-- ITS FALSE NEIGHBOUR: 'it returns false'. Refute it at one input. -/
def ingestFoldsWrong : ChangeSpec := { name := "ingestFolds", fn := fun _ => fun
  | [d1, d2] => { results := [.lit (.bool false)], args := [d1, d2] }
  | _ => none }
def IngestFoldsWrongFalsely : Prop := ingestFoldsRow.holds Try.pinned (OpenSpec.ofChange ingestFoldsWrong)

/-- 'pitheadlaw36.PlanScans': WHATEVER THE INPUT: true; the input reads as it did. -/
def planScansSpec : ChangeSpec := { name := "planScans", fn := fun _ => fun
  | [d1, d2] => { results := [.lit (.bool true)], args := [d1, d2] }
  | _ => none }
def planScansRow : OpenClaim := { program := "ytelnhhbefdfeoaa", sum := "a76d05f629e001d07816c25b80af330baeebf59684d7ec3cc57124ab8b535a84", func := "pithead/pitheadlaw36.PlanScans", spec := "planScans", unfollowed := true, recurses := true, apart := false }
def PlanScansSaid : Prop := planScansRow.holds Try.pinned (OpenSpec.ofChange planScansSpec)

/-- ITS FALSE NEIGHBOUR: 'it returns false'. Refute it at one input. -/
def planScansWrong : ChangeSpec := { name := "planScans", fn := fun _ => fun
  | [d1, d2] => { results := [.lit (.bool false)], args := [d1, d2] }
  | _ => none }
def PlanScansWrongFalsely : Prop := planScansRow.holds Try.pinned (OpenSpec.ofChange planScansWrong)

/- THE SECOND FORM. 'bulk': how many values and letters a reading holds, each counted each time it is reached (what is shared counts as often as it is met; a slice's spare places count too). A statement '..UptoSaid' is the law's where the arguments, and the package variables that the reading takes, are together of bulk at most 1048576: NARROWER than '..Said'. Prove '..Said' where nothing that the law and all that it calls make is longer than what came in: it says more and counts as full. Else prove '..UptoSaid'. A law counts once. -/
mutual
def uptoBulk {H : Type} : DataW H → Nat
  | .lit (.string bytes) => bytes.length + 1
  | .lit _ => 1
  | .nil => 1
  | .ptr d => uptoBulk d + 1
  | .slice elems spare => uptoBulkAll elems + uptoBulkAll spare + 1
  | .agg parts => uptoBulkAll parts + 1
  | .iface _ d => uptoBulk d + 1
  | .map entries => uptoBulkEntries entries + 1
  | .held _ => 1
def uptoBulkAll {H : Type} : List (DataW H) → Nat
  | [] => 0
  | d :: r => uptoBulk d + uptoBulkAll r
def uptoBulkEntries {H : Type} : List (Lit × DataW H) → Nat
  | [] => 0
  | x :: r => uptoBulkEntry x + uptoBulkEntries r
def uptoBulkEntry {H : Type} : Lit × DataW H → Nat
  | (.string bytes, d) => bytes.length + uptoBulk d + 1
  | (_, d) => uptoBulk d + 1
 end
def uptoSmall : (H : Type) → List (DataW H) → Bool := fun _ ds => decide (uptoBulkAll ds ≤ 1048576)
def OpenSpec.upto (s : _root_.Go.ChangeSpec) : _root_.Go.OpenSpec := { _root_.Go.OpenSpec.ofChange s with cond := some uptoSmall }

/-- 'pitheadlaw23.IngestRows', WHERE WHAT IT READS IS OF BULK AT MOST 1048576: true; the input reads as it did. -/
def ingestRowsUptoRow : OpenClaim := { program := "ytelnhhbefdfeoaa", sum := "a76d05f629e001d07816c25b80af330baeebf59684d7ec3cc57124ab8b535a84", func := "pithead/pitheadlaw23.IngestRows", spec := "ingestRows", unfollowed := true, recurses := true, apart := false, narrowed := true }
def IngestRowsUptoSaid : Prop := ingestRowsUptoRow.holds Try.pinned (OpenSpec.upto ingestRowsSpec)

/-- 'pitheadlaw23.IngestOrder', WHERE WHAT IT READS IS OF BULK AT MOST 1048576: true; the input reads as it did. -/
def ingestOrderUptoRow : OpenClaim := { program := "ytelnhhbefdfeoaa", sum := "a76d05f629e001d07816c25b80af330baeebf59684d7ec3cc57124ab8b535a84", func := "pithead/pitheadlaw23.IngestOrder", spec := "ingestOrder", unfollowed := true, recurses := true, apart := false, narrowed := true }
def IngestOrderUptoSaid : Prop := ingestOrderUptoRow.holds Try.pinned (OpenSpec.upto ingestOrderSpec)

/-- 'pitheadlaw23.IngestFolds', WHERE WHAT IT READS IS OF BULK AT MOST 1048576: true; the input reads as it did. -/
def ingestFoldsUptoRow : OpenClaim := { program := "ytelnhhbefdfeoaa", sum := "a76d05f629e001d07816c25b80af330baeebf59684d7ec3cc57124ab8b535a84", func := "pithead/pitheadlaw23.IngestFolds", spec := "ingestFolds", unfollowed := true, recurses := true, apart := false, narrowed := true }
def IngestFoldsUptoSaid : Prop := ingestFoldsUptoRow.holds Try.pinned (OpenSpec.upto ingestFoldsSpec)

/-- 'pitheadlaw36.PlanScans', WHERE WHAT IT READS IS OF BULK AT MOST 1048576: true; the input reads as it did. -/
def planScansUptoRow : OpenClaim := { program := "ytelnhhbefdfeoaa", sum := "a76d05f629e001d07816c25b80af330baeebf59684d7ec3cc57124ab8b535a84", func := "pithead/pitheadlaw36.PlanScans", spec := "planScans", unfollowed := true, recurses := true, apart := false, narrowed := true }
def PlanScansUptoSaid : Prop := planScansUptoRow.holds Try.pinned (OpenSpec.upto planScansSpec)

end Rows
end Go.Proofs.Ytelnhhbefdfeoaa
