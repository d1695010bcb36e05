/- Nodes and arenas: plain. -/
import Derived.Test.YtlclllkjnhgbjaaNodM
import Derived.Test.YtlclllkjnhgbjaaAggN
namespace Go.Proofs.Ytlclllkjnhgbjaa
open Go.RowKit
set_option linter.unusedVariables false

/-- May a cell stand in a dimension, of so many, of so many measures? -/
def cellOk (nd : Nat) (ms dim : Int) (c : Cl) : Bool := if dim = (nd : Int) - 1 then decide (c.ch = 0) && mayAg ms c.ag else decide (0 ≤ c.ch) && decide (c.ag = .zero)
def cellAt (nd : Nat) (ms dim size : Int) (l : List Cl) (i : Nat) : Int :=
  match l[i]? with
  | none => 0
  | some c => if c.key < 0 ∨ size ≤ c.key then 13 else if 0 < i ∧ c.key ≤ ((l[i - 1]?).getD .nil).key then 4 else if cellOk nd ms dim c = false then 2 else 0
def listErr (nd : Nat) (ms dim size : Int) (l : List Cl) : Int := if l.length = 0 then 2 else firstErr (cellAt nd ms dim size l) l.length 0
def listAt (nd : Nat) (ms dim : Int) (sz : List Int) (ls : List (List Cl)) (k : Nat) : Int :=
  match ls[k]?, sz[k]? with
  | some l, some size => if listErr nd ms dim size l ≠ 0 then listErr nd ms dim size l else if 0 < k ∧ ((ls[k - 1]?).getD []).length < l.length then 14 else 0
  | _, _ => 0
def nodeErr (xs : List (List Int)) (ms : Int) (n : NC) : Int :=
  if n.dim < 0 then 2 else
  match xs[n.dim.toNat]? with
  | none => 2
  | some sz => if sz.length = 0 ∨ n.ls.length ≠ sz.length then 2 else
    if firstErr (listAt xs.length ms n.dim sz n.ls) n.ls.length 0 ≠ 0 then firstErr (listAt xs.length ms n.dim sz n.ls) n.ls.length 0 else
    if n.all.key ≠ 0 ∨ cellOk xs.length ms n.dim n.all = false then 2 else 0
def eachN (n : NC) : List Cl := n.ls.flatten ++ [n.all]
/-- Is what a cell leads to there, one dimension on? -/
def aheadC (l : List NC) (dim : Int) (c : Cl) : Bool := match l[c.ch.toNat]? with | none => false | some n => decide (n.dim = dim + 1)
def leadsN (nd : Nat) (l : List NC) (n : NC) : Bool := decide (n.dim = (nd : Int) - 1) || (eachN n).all (aheadC l n.dim)
def addErr (xs : List (List Int)) (ms most : Int) (l : List NC) (n : NC) : Int :=
  if nodeErr xs ms n ≠ 0 then nodeErr xs ms n else if leadsN xs.length l n = false then 9 else if most ≤ (l.length : Int) then 7 else 0
def ledTo (nd : Nat) (l : List NC) (i : Nat) : Bool := l.any fun n => decide (n.dim ≠ (nd : Int) - 1) && (eachN n).any fun c => decide (c.ch = (i : Int))
def wholeC (nd : Nat) (l : List NC) : Bool := match l.getLast? with | none => true | some n => decide (n.dim = 0) && (List.range (l.length - 1)).all (ledTo nd l)
def tierShape (l : List Int) : Bool := decide (1 ≤ l.length) && decide (l.length ≤ 4) && (List.range l.length).all fun k => decide (1 ≤ (l[k]?).getD 0) && decide ((l[k]?).getD 0 ≤ 200) && (decide (k = 0) || decide ((l[k]?).getD 0 ≤ (l[k - 1]?).getD 0))
def shapeOk (xs : List (List Int)) (ms : Int) : Bool := decide (1 ≤ xs.length) && decide (xs.length ≤ 16) && decide (1 ≤ ms) && decide (ms ≤ 3) && xs.all tierShape

end Go.Proofs.Ytlclllkjnhgbjaa
