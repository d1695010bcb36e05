/- schema.Take; the law's reading of a schema with which bytes begin. -/
import Derived.Test.YtnekknemjhlgdaaSchR
namespace Go.Proofs.Ytnekknemjhlgdaa
open Go.RowKit
set_option linter.unusedVariables false
set_option linter.unusedSimpArgs false

/-- What is read is laid in a block of the reading function's own. -/
def Rsch (w0 : World) (s : List UInt8) (B g : Nat) (l : List Res) (o : PR SC) (K : PR SC → Int) (k : Int) (w' : World) : Prop :=
  k = K o ∧ ∃ (D : Sch) (q : List UInt8), SL No w0 w' (rAll B s q (rBlk g 25 D.cs :: (l ++ [rSch D]))) ∧ ∀ d r, o = .ok (d, r) → D.con = d
/-- What Take answers. -/
def schtake (s : List UInt8) : SC × Int :=
  match psch s with
  | .error k => (SC.nil, k)
  | .ok (t, l) => if l = [] then (t, 0) else (SC.nil, 3)
def Tksch (r : SC × Int) (w : World) (e : Ending) (w' : World) : Prop := ∃ D : Sch, e = .returned (.tuple #[.agg D.cs, .int .i64 r.2]) ∧ D.con = r.1 ∧ Bel w w' ∧ NewR w w' (rSch D)

end Go.Proofs.Ytnekknemjhlgdaa
