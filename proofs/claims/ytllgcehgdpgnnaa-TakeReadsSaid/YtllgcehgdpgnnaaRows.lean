/-
  No cell of these rows narrows 'for every input' (looked for: loops, veiled, ifaces, maps, wideKeys, modest, calm, conditions, laid).
  DERIVED. THE GIVEN ROWS OF THIS SEAT. 12 by the template 'for every input the law returns true; each argument reads behind the call as it read before'; 0 by the template 'total and deterministic' (their statements: YtllgcehgdpgnnaaTotals.lean).
  GIVEN WITH THE SEED: the statements are not yours to turn. If you find one false, say at which input.
  Laid BY PROGRAM, IN A SANDBOX (cutbox-rows.mjs): the forced cells as the released guide's own fill.sh prints them over the translation d4d07657e814472a… (all of the seat's roots in one cut). By AI agents, Wed Nov 11 2026. No macro, syntax, notation, axiom, sorry.
-/
import Derived.Test.YtllgcehgdpgnnaaChecked
import GoSem.Claim
import GoSem.ClaimJoined
import GoSem.ClaimMapViews
import Derived.JoinedTies
import Derived.KernelRfl
namespace Go.Proofs.Ytllgcehgdpgnnaa
/- THE CELL 'sum', in the pinned program and in every row, IS THE sha256 OF THE DUMP (.gsa) THAT YtllgcehgdpgnnaaProg.lean LOADS. Nothing in Lean hashes anything: it is a label: what it is worth is what the hold of that sum in a sandbox is worth. -/
noncomputable def Try.pinned : Pinned := { name := "ytllgcehgdpgnnaa", sum := "d4d07657e814472a054e0a15f2036b7a1e8371d4fd3471fa2809ebfa25c73ca4", checked := Try.checked }
namespace Rows
def none {H : Type} : Left H := { results := [], args := [] }

/-- 'pitheadlaw21.RunCuts': WHATEVER THE INPUT: true; the input reads as it did. -/
def runCutsSpec : ChangeSpec := { name := "runCuts", fn := fun _ => fun
  | [d1, d2] => { results := [.lit (.bool true)], args := [d1, d2] }
  | _ => none }
def runCutsRow : OpenClaim := { program := "ytllgcehgdpgnnaa", sum := "d4d07657e814472a054e0a15f2036b7a1e8371d4fd3471fa2809ebfa25c73ca4", func := "pithead/pitheadlaw21.RunCuts", spec := "runCuts", unfollowed := true, recurses := true, apart := false }
def RunCutsSaid : Prop := runCutsRow.holds Try.pinned (OpenSpec.ofChange runCutsSpec)

/-- ITS FALSE NEIGHBOUR: 'it returns false'. Refute it at one input. -/
def runCutsWrong : ChangeSpec := { name := "runCuts", fn := fun _ => fun
  | [d1, d2] => { results := [.lit (.bool false)], args := [d1, d2] }
  | _ => none }
def RunCutsWrongFalsely : Prop := runCutsRow.holds Try.pinned (OpenSpec.ofChange runCutsWrong)

/-- 'pitheadlaw16.DimWay': WHATEVER THE INPUT: true; the input reads as it did. -/
def dimWaySpec : ChangeSpec := { name := "dimWay", fn := fun _ => fun
  | [d1, d2, d3, d4, d5] => { results := [.lit (.bool true)], args := [d1, d2, d3, d4, d5] }
  | _ => none }
def dimWayRow : OpenClaim := { program := "ytllgcehgdpgnnaa", sum := "d4d07657e814472a054e0a15f2036b7a1e8371d4fd3471fa2809ebfa25c73ca4", func := "pithead/pitheadlaw16.DimWay", spec := "dimWay", apart := false }
def DimWaySaid : Prop := dimWayRow.holds Try.pinned (OpenSpec.ofChange dimWaySpec)

/-- ITS FALSE NEIGHBOUR: 'it returns false'. Refute it at one input. -/
def dimWayWrong : ChangeSpec := { name := "dimWay", fn := fun _ => fun
  | [d1, d2, d3, d4, d5] => { results := [.lit (.bool false)], args := [d1, d2, d3, d4, d5] }
  | _ => none }
def DimWayWrongFalsely : Prop := dimWayRow.holds Try.pinned (OpenSpec.ofChange dimWayWrong)

/-- 'pitheadlaw04.TakeReads': WHATEVER THE INPUT: true; the input reads as it did. -/
def takeReadsSpec : ChangeSpec := { name := "takeReads", fn := fun _ => fun
  | [d1, d2] => { results := [.lit (.bool true)], args := [d1, d2] }
  | _ => none }
def takeReadsRow : OpenClaim := { program := "ytllgcehgdpgnnaa", sum := "d4d07657e814472a054e0a15f2036b7a1e8371d4fd3471fa2809ebfa25c73ca4", func := "pithead/pitheadlaw04.TakeReads", spec := "takeReads", unfollowed := true, recurses := true, apart := false }
def TakeReadsSaid : Prop := takeReadsRow.holds Try.pinned (OpenSpec.ofChange takeReadsSpec)

/-- ITS FALSE NEIGHBOUR: 'it returns false'. Refute it at one input. -/
def takeReadsWrong : ChangeSpec := { name := "takeReads", fn := fun _ => fun
  | [d1, d2] => { results := [.lit (.bool false)], args := [d1, d2] }
  | _ => none }
def TakeReadsWrongFalsely : Prop := takeReadsRow.holds Try.pinned (OpenSpec.ofChange takeReadsWrong)

/-- 'pitheadlaw04.TakeOutside': WHATEVER THE INPUT: true; the input reads as it did. -/
def takeOutsideSpec : ChangeSpec := { name := "takeOutside", fn := fun _ => fun
  | [d1, d2, d3] => { results := [.lit (.bool true)], args := [d1, d2, d3] }
  | _ => none }
def takeOutsideRow : OpenClaim := { program := "ytllgcehgdpgnnaa", sum := "d4d07657e814472a054e0a15f2036b7a1e8371d4fd3471fa2809ebfa25c73ca4", func := "pithead/pitheadlaw04.TakeOutside", spec := "takeOutside", unfollowed := true, recurses := true, apart := false }
def TakeOutsideSaid : Prop := takeOutsideRow.holds Try.pinned (OpenSpec.ofChange takeOutsideSpec)

/-- ITS FALSE NEIGHBOUR: 'it returns false'. Refute it at one input. -/
def takeOutsideWrong : ChangeSpec := { name := "takeOutside", fn := fun _ => fun
  | [d1, d2, d3] => { results := [.lit (.bool false)], args := [d1, d2, d3] }
  | _ => none }
def TakeOutsideWrongFalsely : Prop := takeOutsideRow.holds Try.pinned (OpenSpec.ofChange takeOutsideWrong)

/-- 'pitheadlaw04.TakePuts': WHATEVER THE INPUT: true; the input reads as it did. -/
def takePutsSpec : ChangeSpec := { name := "takePuts", fn := fun _ => fun
  | [d1, d2, d3] => { results := [.lit (.bool true)], args := [d1, d2, d3] }
  | _ => none }
def takePutsRow : OpenClaim := { program := "ytllgcehgdpgnnaa", sum := "d4d07657e814472a054e0a15f2036b7a1e8371d4fd3471fa2809ebfa25c73ca4", func := "pithead/pitheadlaw04.TakePuts", spec := "takePuts", unfollowed := true, recurses := true, apart := false }
def TakePutsSaid : Prop := takePutsRow.holds Try.pinned (OpenSpec.ofChange takePutsSpec)

/-- ITS FALSE NEIGHBOUR: 'it returns false'. Refute it at one input. -/
def takePutsWrong : ChangeSpec := { name := "takePuts", fn := fun _ => fun
  | [d1, d2, d3] => { results := [.lit (.bool false)], args := [d1, d2, d3] }
  | _ => none }
def TakePutsWrongFalsely : Prop := takePutsRow.holds Try.pinned (OpenSpec.ofChange takePutsWrong)

/-- 'pitheadlaw05.TermPuts': WHATEVER THE INPUT: true; the input reads as it did. -/
def termPutsSpec : ChangeSpec := { name := "termPuts", fn := fun _ => fun
  | [d] => { results := [.lit (.bool true)], args := [d] }
  | _ => none }
def termPutsRow : OpenClaim := { program := "ytllgcehgdpgnnaa", sum := "d4d07657e814472a054e0a15f2036b7a1e8371d4fd3471fa2809ebfa25c73ca4", func := "pithead/pitheadlaw05.TermPuts", spec := "termPuts", unfollowed := true, recurses := true, apart := false }
def TermPutsSaid : Prop := termPutsRow.holds Try.pinned (OpenSpec.ofChange termPutsSpec)

/-- ITS FALSE NEIGHBOUR: 'it returns false'. Refute it at one input. -/
def termPutsWrong : ChangeSpec := { name := "termPuts", fn := fun _ => fun
  | [d] => { results := [.lit (.bool false)], args := [d] }
  | _ => none }
def TermPutsWrongFalsely : Prop := termPutsRow.holds Try.pinned (OpenSpec.ofChange termPutsWrong)

/-- 'pitheadlaw05.TermTakes': WHATEVER THE INPUT: true; the input reads as it did. -/
def termTakesSpec : ChangeSpec := { name := "termTakes", fn := fun _ => fun
  | [d1, d2] => { results := [.lit (.bool true)], args := [d1, d2] }
  | _ => none }
def termTakesRow : OpenClaim := { program := "ytllgcehgdpgnnaa", sum := "d4d07657e814472a054e0a15f2036b7a1e8371d4fd3471fa2809ebfa25c73ca4", func := "pithead/pitheadlaw05.TermTakes", spec := "termTakes", unfollowed := true, recurses := true, apart := false }
def TermTakesSaid : Prop := termTakesRow.holds Try.pinned (OpenSpec.ofChange termTakesSpec)

/-- ITS FALSE NEIGHBOUR: 'it returns false'. Refute it at one input. -/
def termTakesWrong : ChangeSpec := { name := "termTakes", fn := fun _ => fun
  | [d1, d2] => { results := [.lit (.bool false)], args := [d1, d2] }
  | _ => none }
def TermTakesWrongFalsely : Prop := termTakesRow.holds Try.pinned (OpenSpec.ofChange termTakesWrong)

/-- 'pitheadlaw22.KmergeMerges': WHATEVER THE INPUT: true; the input reads as it did. -/
def kmergeMergesSpec : ChangeSpec := { name := "kmergeMerges", fn := fun _ => fun
  | [d1, d2] => { results := [.lit (.bool true)], args := [d1, d2] }
  | _ => none }
def kmergeMergesRow : OpenClaim := { program := "ytllgcehgdpgnnaa", sum := "d4d07657e814472a054e0a15f2036b7a1e8371d4fd3471fa2809ebfa25c73ca4", func := "pithead/pitheadlaw22.KmergeMerges", spec := "kmergeMerges", unfollowed := true, recurses := true, apart := false }
def KmergeMergesSaid : Prop := kmergeMergesRow.holds Try.pinned (OpenSpec.ofChange kmergeMergesSpec)

/-- ITS FALSE NEIGHBOUR: 'it returns false'. Refute it at one input. -/
def kmergeMergesWrong : ChangeSpec := { name := "kmergeMerges", fn := fun _ => fun
  | [d1, d2] => { results := [.lit (.bool false)], args := [d1, d2] }
  | _ => none }
def KmergeMergesWrongFalsely : Prop := kmergeMergesRow.holds Try.pinned (OpenSpec.ofChange kmergeMergesWrong)

/-- 'pitheadlaw06.AggPuts': WHATEVER THE INPUT: true; the input reads as it did. -/
def aggPutsSpec : ChangeSpec := { name := "aggPuts", fn := fun _ => fun
  | [d1, d2] => { results := [.lit (.bool true)], args := [d1, d2] }
  | _ => none }
def aggPutsRow : OpenClaim := { program := "ytllgcehgdpgnnaa", sum := "d4d07657e814472a054e0a15f2036b7a1e8371d4fd3471fa2809ebfa25c73ca4", func := "pithead/pitheadlaw06.AggPuts", spec := "aggPuts", unfollowed := true, recurses := true, apart := false }
def AggPutsSaid : Prop := aggPutsRow.holds Try.pinned (OpenSpec.ofChange aggPutsSpec)

/-- ITS FALSE NEIGHBOUR: 'it returns false'. Refute it at one input. -/
def aggPutsWrong : ChangeSpec := { name := "aggPuts", fn := fun _ => fun
  | [d1, d2] => { results := [.lit (.bool false)], args := [d1, d2] }
  | _ => none }
def AggPutsWrongFalsely : Prop := aggPutsRow.holds Try.pinned (OpenSpec.ofChange aggPutsWrong)

/-- 'pitheadlaw18.CatalogGrows': WHATEVER THE INPUT: true; the input reads as it did. -/
def catalogGrowsSpec : ChangeSpec := { name := "catalogGrows", fn := fun _ => fun
  | [d1, d2] => { results := [.lit (.bool true)], args := [d1, d2] }
  | _ => none }
def catalogGrowsRow : OpenClaim := { program := "ytllgcehgdpgnnaa", sum := "d4d07657e814472a054e0a15f2036b7a1e8371d4fd3471fa2809ebfa25c73ca4", func := "pithead/pitheadlaw18.CatalogGrows", spec := "catalogGrows", apart := false }
def CatalogGrowsSaid : Prop := catalogGrowsRow.holds Try.pinned (OpenSpec.ofChange catalogGrowsSpec)

/-- ITS FALSE NEIGHBOUR: 'it returns false'. Refute it at one input. -/
def catalogGrowsWrong : ChangeSpec := { name := "catalogGrows", fn := fun _ => fun
  | [d1, d2] => { results := [.lit (.bool false)], args := [d1, d2] }
  | _ => none }
def CatalogGrowsWrongFalsely : Prop := catalogGrowsRow.holds Try.pinned (OpenSpec.ofChange catalogGrowsWrong)

/-- 'pitheadlaw06.AggTakes': WHATEVER THE INPUT: true; the input reads as it did. -/
def aggTakesSpec : ChangeSpec := { name := "aggTakes", fn := fun _ => fun
  | [d1, d2] => { results := [.lit (.bool true)], args := [d1, d2] }
  | _ => none }
def aggTakesRow : OpenClaim := { program := "ytllgcehgdpgnnaa", sum := "d4d07657e814472a054e0a15f2036b7a1e8371d4fd3471fa2809ebfa25c73ca4", func := "pithead/pitheadlaw06.AggTakes", spec := "aggTakes", unfollowed := true, recurses := true, apart := false }
def AggTakesSaid : Prop := aggTakesRow.holds Try.pinned (OpenSpec.ofChange aggTakesSpec)

/-- ITS FALSE NEIGHBOUR: 'it returns false'. Refute it at one input. -/
def aggTakesWrong : ChangeSpec := { name := "aggTakes", fn := fun _ => fun
  | [d1, d2] => { results := [.lit (.bool false)], args := [d1, d2] }
  | _ => none }
def AggTakesWrongFalsely : Prop := aggTakesRow.holds Try.pinned (OpenSpec.ofChange aggTakesWrong)

/-- 'pitheadlaw22.KmergeSorts': WHATEVER THE INPUT: true; the input reads as it did. -/
def kmergeSortsSpec : ChangeSpec := { name := "kmergeSorts", fn := fun _ => fun
  | [d1, d2, d3] => { results := [.lit (.bool true)], args := [d1, d2, d3] }
  | _ => none }
def kmergeSortsRow : OpenClaim := { program := "ytllgcehgdpgnnaa", sum := "d4d07657e814472a054e0a15f2036b7a1e8371d4fd3471fa2809ebfa25c73ca4", func := "pithead/pitheadlaw22.KmergeSorts", spec := "kmergeSorts", unfollowed := true, recurses := true, apart := false }
def KmergeSortsSaid : Prop := kmergeSortsRow.holds Try.pinned (OpenSpec.ofChange kmergeSortsSpec)

/-- ITS FALSE NEIGHBOUR: 'it returns false'. Refute it at one input. -/
def kmergeSortsWrong : ChangeSpec := { name := "kmergeSorts", fn := fun _ => fun
  | [d1, d2, d3] => { results := [.lit (.bool false)], args := [d1, d2, d3] }
  | _ => none }
def KmergeSortsWrongFalsely : Prop := kmergeSortsRow.holds Try.pinned (OpenSpec.ofChange kmergeSortsWrong)

/- THE SECOND FORM. 'bulk': how many values and letters a reading holds, each counted each time it is reached (what is shared counts as often as it is met; a slice's spare places count too). A statement '..UptoSaid' is the law's where the arguments, and the package variables that the reading takes, are together of bulk at most 1048576: NARROWER than '..Said'. Prove '..Said' where nothing that the law and all that it calls make is longer than what came in: it says more and counts as full. Else prove '..UptoSaid'. A law counts once. -/
mutual
def uptoBulk {H : Type} : DataW H → Nat
  | .lit (.string bytes) => bytes.length + 1
  | .lit _ => 1
  | .nil => 1
  | .ptr d => uptoBulk d + 1
  | .slice elems spare => uptoBulkAll elems + uptoBulkAll spare + 1
  | .agg parts => uptoBulkAll parts + 1
  | .iface _ d => uptoBulk d + 1
  | .map entries => uptoBulkEntries entries + 1
  | .held _ => 1
def uptoBulkAll {H : Type} : List (DataW H) → Nat
  | [] => 0
  | d :: r => uptoBulk d + uptoBulkAll r
def uptoBulkEntries {H : Type} : List (Lit × DataW H) → Nat
  | [] => 0
  | x :: r => uptoBulkEntry x + uptoBulkEntries r
def uptoBulkEntry {H : Type} : Lit × DataW H → Nat
  | (.string bytes, d) => bytes.length + uptoBulk d + 1
  | (_, d) => uptoBulk d + 1
 end
def uptoSmall : (H : Type) → List (DataW H) → Bool := fun _ ds => decide (uptoBulkAll ds ≤ 1048576)
def OpenSpec.upto (s : _root_.Go.ChangeSpec) : _root_.Go.OpenSpec := { _root_.Go.OpenSpec.ofChange s with cond := some uptoSmall }

/-- 'pitheadlaw21.RunCuts', WHERE WHAT IT READS IS OF BULK AT MOST 1048576: true; the input reads as it did. -/
def runCutsUptoRow : OpenClaim := { program := "ytllgcehgdpgnnaa", sum := "d4d07657e814472a054e0a15f2036b7a1e8371d4fd3471fa2809ebfa25c73ca4", func := "pithead/pitheadlaw21.RunCuts", spec := "runCuts", unfollowed := true, recurses := true, apart := false, narrowed := true }
def RunCutsUptoSaid : Prop := runCutsUptoRow.holds Try.pinned (OpenSpec.upto runCutsSpec)

/-- 'pitheadlaw16.DimWay', WHERE WHAT IT READS IS OF BULK AT MOST 1048576: true; the input reads as it did. -/
def dimWayUptoRow : OpenClaim := { program := "ytllgcehgdpgnnaa", sum := "d4d07657e814472a054e0a15f2036b7a1e8371d4fd3471fa2809ebfa25c73ca4", func := "pithead/pitheadlaw16.DimWay", spec := "dimWay", apart := false, narrowed := true }
def DimWayUptoSaid : Prop := dimWayUptoRow.holds Try.pinned (OpenSpec.upto dimWaySpec)

/-- 'pitheadlaw04.TakeReads', WHERE WHAT IT READS IS OF BULK AT MOST 1048576: true; the input reads as it did. -/
def takeReadsUptoRow : OpenClaim := { program := "ytllgcehgdpgnnaa", sum := "d4d07657e814472a054e0a15f2036b7a1e8371d4fd3471fa2809ebfa25c73ca4", func := "pithead/pitheadlaw04.TakeReads", spec := "takeReads", unfollowed := true, recurses := true, apart := false, narrowed := true }
def TakeReadsUptoSaid : Prop := takeReadsUptoRow.holds Try.pinned (OpenSpec.upto takeReadsSpec)

/-- 'pitheadlaw04.TakeOutside', WHERE WHAT IT READS IS OF BULK AT MOST 1048576: true; the input reads as it did. -/
def takeOutsideUptoRow : OpenClaim := { program := "ytllgcehgdpgnnaa", sum := "d4d07657e814472a054e0a15f2036b7a1e8371d4fd3471fa2809ebfa25c73ca4", func := "pithead/pitheadlaw04.TakeOutside", spec := "takeOutside", unfollowed := true, recurses := true, apart := false, narrowed := true }
def TakeOutsideUptoSaid : Prop := takeOutsideUptoRow.holds Try.pinned (OpenSpec.upto takeOutsideSpec)

/-- 'pitheadlaw04.TakePuts', WHERE WHAT IT READS IS OF BULK AT MOST 1048576: true; the input reads as it did. -/
def takePutsUptoRow : OpenClaim := { program := "ytllgcehgdpgnnaa", sum := "d4d07657e814472a054e0a15f2036b7a1e8371d4fd3471fa2809ebfa25c73ca4", func := "pithead/pitheadlaw04.TakePuts", spec := "takePuts", unfollowed := true, recurses := true, apart := false, narrowed := true }
def TakePutsUptoSaid : Prop := takePutsUptoRow.holds Try.pinned (OpenSpec.upto takePutsSpec)

/-- 'pitheadlaw05.TermPuts', WHERE WHAT IT READS IS OF BULK AT MOST 1048576: true; the input reads as it did. -/
def termPutsUptoRow : OpenClaim := { program := "ytllgcehgdpgnnaa", sum := "d4d07657e814472a054e0a15f2036b7a1e8371d4fd3471fa2809ebfa25c73ca4", func := "pithead/pitheadlaw05.TermPuts", spec := "termPuts", unfollowed := true, recurses := true, apart := false, narrowed := true }
def TermPutsUptoSaid : Prop := termPutsUptoRow.holds Try.pinned (OpenSpec.upto termPutsSpec)

/-- 'pitheadlaw05.TermTakes', WHERE WHAT IT READS IS OF BULK AT MOST 1048576: true; the input reads as it did. -/
def termTakesUptoRow : OpenClaim := { program := "ytllgcehgdpgnnaa", sum := "d4d07657e814472a054e0a15f2036b7a1e8371d4fd3471fa2809ebfa25c73ca4", func := "pithead/pitheadlaw05.TermTakes", spec := "termTakes", unfollowed := true, recurses := true, apart := false, narrowed := true }
def TermTakesUptoSaid : Prop := termTakesUptoRow.holds Try.pinned (OpenSpec.upto termTakesSpec)

/-- 'pitheadlaw22.KmergeMerges', WHERE WHAT IT READS IS OF BULK AT MOST 1048576: true; the input reads as it did. -/
def kmergeMergesUptoRow : OpenClaim := { program := "ytllgcehgdpgnnaa", sum := "d4d07657e814472a054e0a15f2036b7a1e8371d4fd3471fa2809ebfa25c73ca4", func := "pithead/pitheadlaw22.KmergeMerges", spec := "kmergeMerges", unfollowed := true, recurses := true, apart := false, narrowed := true }
def KmergeMergesUptoSaid : Prop := kmergeMergesUptoRow.holds Try.pinned (OpenSpec.upto kmergeMergesSpec)

/-- 'pitheadlaw06.AggPuts', WHERE WHAT IT READS IS OF BULK AT MOST 1048576: true; the input reads as it did. -/
def aggPutsUptoRow : OpenClaim := { program := "ytllgcehgdpgnnaa", sum := "d4d07657e814472a054e0a15f2036b7a1e8371d4fd3471fa2809ebfa25c73ca4", func := "pithead/pitheadlaw06.AggPuts", spec := "aggPuts", unfollowed := true, recurses := true, apart := false, narrowed := true }
def AggPutsUptoSaid : Prop := aggPutsUptoRow.holds Try.pinned (OpenSpec.upto aggPutsSpec)

/-- 'pitheadlaw18.CatalogGrows', WHERE WHAT IT READS IS OF BULK AT MOST 1048576: true; the input reads as it did. -/
def catalogGrowsUptoRow : OpenClaim := { program := "ytllgcehgdpgnnaa", sum := "d4d07657e814472a054e0a15f2036b7a1e8371d4fd3471fa2809ebfa25c73ca4", func := "pithead/pitheadlaw18.CatalogGrows", spec := "catalogGrows", apart := false, narrowed := true }
def CatalogGrowsUptoSaid : Prop := catalogGrowsUptoRow.holds Try.pinned (OpenSpec.upto catalogGrowsSpec)

/-- 'pitheadlaw06.AggTakes', WHERE WHAT IT READS IS OF BULK AT MOST 1048576: true; the input reads as it did. -/
def aggTakesUptoRow : OpenClaim := { program := "ytllgcehgdpgnnaa", sum := "d4d07657e814472a054e0a15f2036b7a1e8371d4fd3471fa2809ebfa25c73ca4", func := "pithead/pitheadlaw06.AggTakes", spec := "aggTakes", unfollowed := true, recurses := true, apart := false, narrowed := true }
def AggTakesUptoSaid : Prop := aggTakesUptoRow.holds Try.pinned (OpenSpec.upto aggTakesSpec)

/-- 'pitheadlaw22.KmergeSorts', WHERE WHAT IT READS IS OF BULK AT MOST 1048576: true; the input reads as it did. -/
def kmergeSortsUptoRow : OpenClaim := { program := "ytllgcehgdpgnnaa", sum := "d4d07657e814472a054e0a15f2036b7a1e8371d4fd3471fa2809ebfa25c73ca4", func := "pithead/pitheadlaw22.KmergeSorts", spec := "kmergeSorts", unfollowed := true, recurses := true, apart := false, narrowed := true }
def KmergeSortsUptoSaid : Prop := kmergeSortsUptoRow.holds Try.pinned (OpenSpec.upto kmergeSortsSpec)

end Rows
end Go.Proofs.Ytllgcehgdpgnnaa
