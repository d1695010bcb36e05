/-
  No cell of these rows narrows 'for every input' (looked for: loops, veiled, ifaces, maps, wideKeys, modest, calm, conditions, laid).
  DERIVED. THE GIVEN ROWS OF THIS SEAT. 12 by the template 'for every input the law returns true; each argument reads behind the call as it read before'; 0 by the template 'total and deterministic' (their statements: YtbociponcacmpaaTotals.lean).
  GIVEN WITH THE SEED: the statements are not yours to turn. If you find one false, say at which input.
  Laid BY PROGRAM, IN A SANDBOX (cutbox-rows.mjs): the forced cells as the released guide's own fill.sh prints them over the translation 120594caaef3bc86… (all of the seat's roots in one cut). By AI agents, Wed Nov 11 2026. No macro, syntax, notation, axiom, sorry.
-/
import Derived.Test.YtbociponcacmpaaChecked
import GoSem.Claim
import GoSem.ClaimJoined
import GoSem.ClaimMapViews
import Derived.JoinedTies
import Derived.KernelRfl
namespace Go.Proofs.Ytbociponcacmpaa
/- THE CELL 'sum', in the pinned program and in every row, IS THE sha256 OF THE DUMP (.gsa) THAT YtbociponcacmpaaProg.lean LOADS. Nothing in Lean hashes anything: it is a label: what it is worth is what the hold of that sum in a sandbox is worth. -/
noncomputable def Try.pinned : Pinned := { name := "ytbociponcacmpaa", sum := "120594caaef3bc864f5a14acadeac0138b6067394f5ae1c48e083d5954892d64", checked := Try.checked }
namespace Rows
def none {H : Type} : Left H := { results := [], args := [] }

/-- 'pitheadlaw01.NumOrder': WHATEVER THE INPUT: true; the input reads as it did. -/
def numOrderSpec : ChangeSpec := { name := "numOrder", fn := fun _ => fun
  | [d1, d2] => { results := [.lit (.bool true)], args := [d1, d2] }
  | _ => none }
def numOrderRow : OpenClaim := { program := "ytbociponcacmpaa", sum := "120594caaef3bc864f5a14acadeac0138b6067394f5ae1c48e083d5954892d64", func := "pithead/pitheadlaw01.NumOrder", spec := "numOrder", apart := false }
def NumOrderSaid : Prop := numOrderRow.holds Try.pinned (OpenSpec.ofChange numOrderSpec)

/-- ITS FALSE NEIGHBOUR: 'it returns false'. Refute it at one input. -/
def numOrderWrong : ChangeSpec := { name := "numOrder", fn := fun _ => fun
  | [d1, d2] => { results := [.lit (.bool false)], args := [d1, d2] }
  | _ => none }
def NumOrderWrongFalsely : Prop := numOrderRow.holds Try.pinned (OpenSpec.ofChange numOrderWrong)

/-- 'pitheadlaw01.NumPuts': WHATEVER THE INPUT: true; the input reads as it did. -/
def numPutsSpec : ChangeSpec := { name := "numPuts", fn := fun _ => fun
  | [d1, d2] => { results := [.lit (.bool true)], args := [d1, d2] }
  | _ => none }
def numPutsRow : OpenClaim := { program := "ytbociponcacmpaa", sum := "120594caaef3bc864f5a14acadeac0138b6067394f5ae1c48e083d5954892d64", func := "pithead/pitheadlaw01.NumPuts", spec := "numPuts", apart := false }
def NumPutsSaid : Prop := numPutsRow.holds Try.pinned (OpenSpec.ofChange numPutsSpec)

/-- ITS FALSE NEIGHBOUR: 'it returns false'. Refute it at one input. -/
def numPutsWrong : ChangeSpec := { name := "numPuts", fn := fun _ => fun
  | [d1, d2] => { results := [.lit (.bool false)], args := [d1, d2] }
  | _ => none }
def NumPutsWrongFalsely : Prop := numPutsRow.holds Try.pinned (OpenSpec.ofChange numPutsWrong)

/-- 'pitheadlaw06.AggJoins': WHATEVER THE INPUT: true; the input reads as it did. -/
def aggJoinsSpec : ChangeSpec := { name := "aggJoins", fn := fun _ => fun
  | [d1, d2, d3] => { results := [.lit (.bool true)], args := [d1, d2, d3] }
  | _ => none }
def aggJoinsRow : OpenClaim := { program := "ytbociponcacmpaa", sum := "120594caaef3bc864f5a14acadeac0138b6067394f5ae1c48e083d5954892d64", func := "pithead/pitheadlaw06.AggJoins", spec := "aggJoins", apart := false }
def AggJoinsSaid : Prop := aggJoinsRow.holds Try.pinned (OpenSpec.ofChange aggJoinsSpec)

/-- ITS FALSE NEIGHBOUR: 'it returns false'. Refute it at one input. -/
def aggJoinsWrong : ChangeSpec := { name := "aggJoins", fn := fun _ => fun
  | [d1, d2, d3] => { results := [.lit (.bool false)], args := [d1, d2, d3] }
  | _ => none }
def AggJoinsWrongFalsely : Prop := aggJoinsRow.holds Try.pinned (OpenSpec.ofChange aggJoinsWrong)

/-- 'pitheadlaw06.AggOrder': WHATEVER THE INPUT: true; the input reads as it did. -/
def aggOrderSpec : ChangeSpec := { name := "aggOrder", fn := fun _ => fun
  | [d1, d2, d3] => { results := [.lit (.bool true)], args := [d1, d2, d3] }
  | _ => none }
def aggOrderRow : OpenClaim := { program := "ytbociponcacmpaa", sum := "120594caaef3bc864f5a14acadeac0138b6067394f5ae1c48e083d5954892d64", func := "pithead/pitheadlaw06.AggOrder", spec := "aggOrder", apart := false }
def AggOrderSaid : Prop := aggOrderRow.holds Try.pinned (OpenSpec.ofChange aggOrderSpec)

/-- ITS FALSE NEIGHBOUR: 'it returns false'. Refute it at one input. -/
def aggOrderWrong : ChangeSpec := { name := "aggOrder", fn := fun _ => fun
  | [d1, d2, d3] => { results := [.lit (.bool false)], args := [d1, d2, d3] }
  | _ => none }
def AggOrderWrongFalsely : Prop := aggOrderRow.holds Try.pinned (OpenSpec.ofChange aggOrderWrong)

/-- 'pitheadlaw01.NumTakes': WHATEVER THE INPUT: true; the input reads as it did. -/
def numTakesSpec : ChangeSpec := { name := "numTakes", fn := fun _ => fun
  | [d] => { results := [.lit (.bool true)], args := [d] }
  | _ => none }
def numTakesRow : OpenClaim := { program := "ytbociponcacmpaa", sum := "120594caaef3bc864f5a14acadeac0138b6067394f5ae1c48e083d5954892d64", func := "pithead/pitheadlaw01.NumTakes", spec := "numTakes", apart := false }
def NumTakesSaid : Prop := numTakesRow.holds Try.pinned (OpenSpec.ofChange numTakesSpec)

/-- ITS FALSE NEIGHBOUR: 'it returns false'. Refute it at one input. -/
def numTakesWrong : ChangeSpec := { name := "numTakes", fn := fun _ => fun
  | [d] => { results := [.lit (.bool false)], args := [d] }
  | _ => none }
def NumTakesWrongFalsely : Prop := numTakesRow.holds Try.pinned (OpenSpec.ofChange numTakesWrong)

/-- 'pitheadlaw06.AggRows': WHATEVER THE INPUT: true; the input reads as it did. -/
def aggRowsSpec : ChangeSpec := { name := "aggRows", fn := fun _ => fun
  | [d1, d2, d3, d4] => { results := [.lit (.bool true)], args := [d1, d2, d3, d4] }
  | _ => none }
def aggRowsRow : OpenClaim := { program := "ytbociponcacmpaa", sum := "120594caaef3bc864f5a14acadeac0138b6067394f5ae1c48e083d5954892d64", func := "pithead/pitheadlaw06.AggRows", spec := "aggRows", apart := false }
def AggRowsSaid : Prop := aggRowsRow.holds Try.pinned (OpenSpec.ofChange aggRowsSpec)

/-- ITS FALSE NEIGHBOUR: 'it returns false'. Refute it at one input. -/
def aggRowsWrong : ChangeSpec := { name := "aggRows", fn := fun _ => fun
  | [d1, d2, d3, d4] => { results := [.lit (.bool false)], args := [d1, d2, d3, d4] }
  | _ => none }
def AggRowsWrongFalsely : Prop := aggRowsRow.holds Try.pinned (OpenSpec.ofChange aggRowsWrong)

/-- 'pitheadlaw01.NumBack': WHATEVER THE INPUT: true; the input reads as it did. -/
def numBackSpec : ChangeSpec := { name := "numBack", fn := fun _ => fun
  | [d1, d2, d3] => { results := [.lit (.bool true)], args := [d1, d2, d3] }
  | _ => none }
def numBackRow : OpenClaim := { program := "ytbociponcacmpaa", sum := "120594caaef3bc864f5a14acadeac0138b6067394f5ae1c48e083d5954892d64", func := "pithead/pitheadlaw01.NumBack", spec := "numBack", apart := false }
def NumBackSaid : Prop := numBackRow.holds Try.pinned (OpenSpec.ofChange numBackSpec)

/-- ITS FALSE NEIGHBOUR: 'it returns false'. Refute it at one input. -/
def numBackWrong : ChangeSpec := { name := "numBack", fn := fun _ => fun
  | [d1, d2, d3] => { results := [.lit (.bool false)], args := [d1, d2, d3] }
  | _ => none }
def NumBackWrongFalsely : Prop := numBackRow.holds Try.pinned (OpenSpec.ofChange numBackWrong)

/-- 'pitheadlaw01.NumRows': WHATEVER THE INPUT: true; the input reads as it did. -/
def numRowsSpec : ChangeSpec := { name := "numRows", fn := fun _ => fun
  | [d1, d2] => { results := [.lit (.bool true)], args := [d1, d2] }
  | _ => none }
def numRowsRow : OpenClaim := { program := "ytbociponcacmpaa", sum := "120594caaef3bc864f5a14acadeac0138b6067394f5ae1c48e083d5954892d64", func := "pithead/pitheadlaw01.NumRows", spec := "numRows", apart := false }
def NumRowsSaid : Prop := numRowsRow.holds Try.pinned (OpenSpec.ofChange numRowsSpec)

/-- ITS FALSE NEIGHBOUR: 'it returns false'. Refute it at one input. -/
def numRowsWrong : ChangeSpec := { name := "numRows", fn := fun _ => fun
  | [d1, d2] => { results := [.lit (.bool false)], args := [d1, d2] }
  | _ => none }
def NumRowsWrongFalsely : Prop := numRowsRow.holds Try.pinned (OpenSpec.ofChange numRowsWrong)

/-- 'pitheadlaw05.TermChecks': WHATEVER THE INPUT: true; the input reads as it did. -/
def termChecksSpec : ChangeSpec := { name := "termChecks", fn := fun _ => fun
  | [d1, d2] => { results := [.lit (.bool true)], args := [d1, d2] }
  | _ => none }
def termChecksRow : OpenClaim := { program := "ytbociponcacmpaa", sum := "120594caaef3bc864f5a14acadeac0138b6067394f5ae1c48e083d5954892d64", func := "pithead/pitheadlaw05.TermChecks", spec := "termChecks", apart := false }
def TermChecksSaid : Prop := termChecksRow.holds Try.pinned (OpenSpec.ofChange termChecksSpec)

/-- ITS FALSE NEIGHBOUR: 'it returns false'. Refute it at one input. -/
def termChecksWrong : ChangeSpec := { name := "termChecks", fn := fun _ => fun
  | [d1, d2] => { results := [.lit (.bool false)], args := [d1, d2] }
  | _ => none }
def TermChecksWrongFalsely : Prop := termChecksRow.holds Try.pinned (OpenSpec.ofChange termChecksWrong)

/-- 'pitheadlaw19.FactFinds': WHATEVER THE INPUT: true; the input reads as it did. -/
def factFindsSpec : ChangeSpec := { name := "factFinds", fn := fun _ => fun
  | [d1, d2] => { results := [.lit (.bool true)], args := [d1, d2] }
  | _ => none }
def factFindsRow : OpenClaim := { program := "ytbociponcacmpaa", sum := "120594caaef3bc864f5a14acadeac0138b6067394f5ae1c48e083d5954892d64", func := "pithead/pitheadlaw19.FactFinds", spec := "factFinds", unfollowed := true, recurses := true, apart := false }
def FactFindsSaid : Prop := factFindsRow.holds Try.pinned (OpenSpec.ofChange factFindsSpec)

/-- ITS FALSE NEIGHBOUR: 'it returns false'. Refute it at one input. -/
def factFindsWrong : ChangeSpec := { name := "factFinds", fn := fun _ => fun
  | [d1, d2] => { results := [.lit (.bool false)], args := [d1, d2] }
  | _ => none }
def FactFindsWrongFalsely : Prop := factFindsRow.holds Try.pinned (OpenSpec.ofChange factFindsWrong)

/-- 'pitheadlaw21.RunSorts': WHATEVER THE INPUT: true; the input reads as it did. -/
def runSortsSpec : ChangeSpec := { name := "runSorts", fn := fun _ => fun
  | [d] => { results := [.lit (.bool true)], args := [d] }
  | _ => none }
def runSortsRow : OpenClaim := { program := "ytbociponcacmpaa", sum := "120594caaef3bc864f5a14acadeac0138b6067394f5ae1c48e083d5954892d64", func := "pithead/pitheadlaw21.RunSorts", spec := "runSorts", unfollowed := true, recurses := true, apart := false }
def RunSortsSaid : Prop := runSortsRow.holds Try.pinned (OpenSpec.ofChange runSortsSpec)

/-- ITS FALSE NEIGHBOUR: 'it returns false'. Refute it at one input. -/
def runSortsWrong : ChangeSpec := { name := "runSorts", fn := fun _ => fun
  | [d] => { results := [.lit (.bool false)], args := [d] }
  | _ => none }
def RunSortsWrongFalsely : Prop := runSortsRow.holds Try.pinned (OpenSpec.ofChange runSortsWrong)

/-- 'pitheadlaw19.FactOrder': WHATEVER THE INPUT: true; the input reads as it did. -/
def factOrderSpec : ChangeSpec := { name := "factOrder", fn := fun _ => fun
  | [d1, d2] => { results := [.lit (.bool true)], args := [d1, d2] }
  | _ => none }
def factOrderRow : OpenClaim := { program := "ytbociponcacmpaa", sum := "120594caaef3bc864f5a14acadeac0138b6067394f5ae1c48e083d5954892d64", func := "pithead/pitheadlaw19.FactOrder", spec := "factOrder", unfollowed := true, recurses := true, apart := false }
def FactOrderSaid : Prop := factOrderRow.holds Try.pinned (OpenSpec.ofChange factOrderSpec)

/-- ITS FALSE NEIGHBOUR: 'it returns false'. Refute it at one input. -/
def factOrderWrong : ChangeSpec := { name := "factOrder", fn := fun _ => fun
  | [d1, d2] => { results := [.lit (.bool false)], args := [d1, d2] }
  | _ => none }
def FactOrderWrongFalsely : Prop := factOrderRow.holds Try.pinned (OpenSpec.ofChange factOrderWrong)

/- THE SECOND FORM. 'bulk': how many values and letters a reading holds, each counted each time it is reached (what is shared counts as often as it is met; a slice's spare places count too). A statement '..UptoSaid' is the law's where the arguments, and the package variables that the reading takes, are together of bulk at most 1048576: NARROWER than '..Said'. Prove '..Said' where nothing that the law and all that it calls make is longer than what came in: it says more and counts as full. Else prove '..UptoSaid'. A law counts once. -/
mutual
def uptoBulk {H : Type} : DataW H → Nat
  | .lit (.string bytes) => bytes.length + 1
  | .lit _ => 1
  | .nil => 1
  | .ptr d => uptoBulk d + 1
  | .slice elems spare => uptoBulkAll elems + uptoBulkAll spare + 1
  | .agg parts => uptoBulkAll parts + 1
  | .iface _ d => uptoBulk d + 1
  | .map entries => uptoBulkEntries entries + 1
  | .held _ => 1
def uptoBulkAll {H : Type} : List (DataW H) → Nat
  | [] => 0
  | d :: r => uptoBulk d + uptoBulkAll r
def uptoBulkEntries {H : Type} : List (Lit × DataW H) → Nat
  | [] => 0
  | x :: r => uptoBulkEntry x + uptoBulkEntries r
def uptoBulkEntry {H : Type} : Lit × DataW H → Nat
  | (.string bytes, d) => bytes.length + uptoBulk d + 1
  | (_, d) => uptoBulk d + 1
 end
def uptoSmall : (H : Type) → List (DataW H) → Bool := fun _ ds => decide (uptoBulkAll ds ≤ 1048576)
def OpenSpec.upto (s : _root_.Go.ChangeSpec) : _root_.Go.OpenSpec := { _root_.Go.OpenSpec.ofChange s with cond := some uptoSmall }

/-- 'pitheadlaw01.NumOrder', WHERE WHAT IT READS IS OF BULK AT MOST 1048576: true; the input reads as it did. -/
def numOrderUptoRow : OpenClaim := { program := "ytbociponcacmpaa", sum := "120594caaef3bc864f5a14acadeac0138b6067394f5ae1c48e083d5954892d64", func := "pithead/pitheadlaw01.NumOrder", spec := "numOrder", apart := false, narrowed := true }
def NumOrderUptoSaid : Prop := numOrderUptoRow.holds Try.pinned (OpenSpec.upto numOrderSpec)

/-- 'pitheadlaw01.NumPuts', WHERE WHAT IT READS IS OF BULK AT MOST 1048576: true; the input reads as it did. -/
def numPutsUptoRow : OpenClaim := { program := "ytbociponcacmpaa", sum := "120594caaef3bc864f5a14acadeac0138b6067394f5ae1c48e083d5954892d64", func := "pithead/pitheadlaw01.NumPuts", spec := "numPuts", apart := false, narrowed := true }
def NumPutsUptoSaid : Prop := numPutsUptoRow.holds Try.pinned (OpenSpec.upto numPutsSpec)

/-- 'pitheadlaw06.AggJoins', WHERE WHAT IT READS IS OF BULK AT MOST 1048576: true; the input reads as it did. -/
def aggJoinsUptoRow : OpenClaim := { program := "ytbociponcacmpaa", sum := "120594caaef3bc864f5a14acadeac0138b6067394f5ae1c48e083d5954892d64", func := "pithead/pitheadlaw06.AggJoins", spec := "aggJoins", apart := false, narrowed := true }
def AggJoinsUptoSaid : Prop := aggJoinsUptoRow.holds Try.pinned (OpenSpec.upto aggJoinsSpec)

/-- 'pitheadlaw06.AggOrder', WHERE WHAT IT READS IS OF BULK AT MOST 1048576: true; the input reads as it did. -/
def aggOrderUptoRow : OpenClaim := { program := "ytbociponcacmpaa", sum := "120594caaef3bc864f5a14acadeac0138b6067394f5ae1c48e083d5954892d64", func := "pithead/pitheadlaw06.AggOrder", spec := "aggOrder", apart := false, narrowed := true }
def AggOrderUptoSaid : Prop := aggOrderUptoRow.holds Try.pinned (OpenSpec.upto aggOrderSpec)

/-- 'pitheadlaw01.NumTakes', WHERE WHAT IT READS IS OF BULK AT MOST 1048576: true; the input reads as it did. -/
def numTakesUptoRow : OpenClaim := { program := "ytbociponcacmpaa", sum := "120594caaef3bc864f5a14acadeac0138b6067394f5ae1c48e083d5954892d64", func := "pithead/pitheadlaw01.NumTakes", spec := "numTakes", apart := false, narrowed := true }
def NumTakesUptoSaid : Prop := numTakesUptoRow.holds Try.pinned (OpenSpec.upto numTakesSpec)

/-- 'pitheadlaw06.AggRows', WHERE WHAT IT READS IS OF BULK AT MOST 1048576: true; the input reads as it did. -/
def aggRowsUptoRow : OpenClaim := { program := "ytbociponcacmpaa", sum := "120594caaef3bc864f5a14acadeac0138b6067394f5ae1c48e083d5954892d64", func := "pithead/pitheadlaw06.AggRows", spec := "aggRows", apart := false, narrowed := true }
def AggRowsUptoSaid : Prop := aggRowsUptoRow.holds Try.pinned (OpenSpec.upto aggRowsSpec)

/-- 'pitheadlaw01.NumBack', WHERE WHAT IT READS IS OF BULK AT MOST 1048576: true; the input reads as it did. -/
def numBackUptoRow : OpenClaim := { program := "ytbociponcacmpaa", sum := "120594caaef3bc864f5a14acadeac0138b6067394f5ae1c48e083d5954892d64", func := "pithead/pitheadlaw01.NumBack", spec := "numBack", apart := false, narrowed := true }
def NumBackUptoSaid : Prop := numBackUptoRow.holds Try.pinned (OpenSpec.upto numBackSpec)

/-- 'pitheadlaw01.NumRows', WHERE WHAT IT READS IS OF BULK AT MOST 1048576: true; the input reads as it did. -/
def numRowsUptoRow : OpenClaim := { program := "ytbociponcacmpaa", sum := "120594caaef3bc864f5a14acadeac0138b6067394f5ae1c48e083d5954892d64", func := "pithead/pitheadlaw01.NumRows", spec := "numRows", apart := false, narrowed := true }
def NumRowsUptoSaid : Prop := numRowsUptoRow.holds Try.pinned (OpenSpec.upto numRowsSpec)

/-- 'pitheadlaw05.TermChecks', WHERE WHAT IT READS IS OF BULK AT MOST 1048576: true; the input reads as it did. -/
def termChecksUptoRow : OpenClaim := { program := "ytbociponcacmpaa", sum := "120594caaef3bc864f5a14acadeac0138b6067394f5ae1c48e083d5954892d64", func := "pithead/pitheadlaw05.TermChecks", spec := "termChecks", apart := false, narrowed := true }
def TermChecksUptoSaid : Prop := termChecksUptoRow.holds Try.pinned (OpenSpec.upto termChecksSpec)

/-- 'pitheadlaw19.FactFinds', WHERE WHAT IT READS IS OF BULK AT MOST 1048576: true; the input reads as it did. -/
def factFindsUptoRow : OpenClaim := { program := "ytbociponcacmpaa", sum := "120594caaef3bc864f5a14acadeac0138b6067394f5ae1c48e083d5954892d64", func := "pithead/pitheadlaw19.FactFinds", spec := "factFinds", unfollowed := true, recurses := true, apart := false, narrowed := true }
def FactFindsUptoSaid : Prop := factFindsUptoRow.holds Try.pinned (OpenSpec.upto factFindsSpec)

/-- 'pitheadlaw21.RunSorts', WHERE WHAT IT READS IS OF BULK AT MOST 1048576: true; the input reads as it did. -/
def runSortsUptoRow : OpenClaim := { program := "ytbociponcacmpaa", sum := "120594caaef3bc864f5a14acadeac0138b6067394f5ae1c48e083d5954892d64", func := "pithead/pitheadlaw21.RunSorts", spec := "runSorts", unfollowed := true, recurses := true, apart := false, narrowed := true }
def RunSortsUptoSaid : Prop := runSortsUptoRow.holds Try.pinned (OpenSpec.upto runSortsSpec)

/-- 'pitheadlaw19.FactOrder', WHERE WHAT IT READS IS OF BULK AT MOST 1048576: true; the input reads as it did. -/
def factOrderUptoRow : OpenClaim := { program := "ytbociponcacmpaa", sum := "120594caaef3bc864f5a14acadeac0138b6067394f5ae1c48e083d5954892d64", func := "pithead/pitheadlaw19.FactOrder", spec := "factOrder", unfollowed := true, recurses := true, apart := false, narrowed := true }
def FactOrderUptoSaid : Prop := factOrderUptoRow.holds Try.pinned (OpenSpec.upto factOrderSpec)

end Rows
end Go.Proofs.Ytbociponcacmpaa
