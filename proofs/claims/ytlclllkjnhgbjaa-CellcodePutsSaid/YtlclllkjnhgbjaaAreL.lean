/- Lookups in arenas that no call made. -/
import Derived.Test.YtlclllkjnhgbjaaAreI
namespace Go.Proofs.Ytlclllkjnhgbjaa
open Go.RowKit
set_option linter.unusedVariables false
set_option linter.unusedSimpArgs false


/-- A place of a member. -/
structure Ps where
  t : Int
  k : Int
abbrev Ps.cs (p : Ps) : Array Value := #[.int .i64 p.t, .int .i64 p.k]
structure Ps.ok (p : Ps) : Prop where
  t : I64 p.t
  k : I64 p.k
instance instCelPs : Cel Ps where
  size := 2
  bytes := 16
  cells x := x.cs.toList
  ok w x := x.ok
  len _ := rfl
  pos := by omega
  mono hb h := h
end Go.Proofs.Ytlclllkjnhgbjaa
