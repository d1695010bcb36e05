/- Picks and queries: how they lie in memory, and how arguments of these types are opened. -/
import Derived.Test.YtlclllkjnhgbjaaAskP
import Derived.Test.YtlclllkjnhgbjaaBr
namespace Go.Proofs.Ytlclllkjnhgbjaa
open Go.RowKit Go.ChangeShapes Go.WideShapes Go.Deep
set_option linter.unusedVariables false
set_option linter.unusedSimpArgs false

/-- A pick. -/
structure Pk where
  f : Int
  t : Int
  lo : List UInt8
  hi : List UInt8
  set : Row (List UInt8)
  g : Bool
  by_ : Int
abbrev Pk.cs (p : Pk) : Array Value := #[.int .i64 p.f, .int .i64 p.t, .string ⟨p.lo.toArray⟩, .string ⟨p.hi.toArray⟩, .slice p.set.A p.set.n p.set.c, .bool p.g, .int .i64 p.by_]
structure Pk.rd (w : World) (p : Pk) : Prop where
  f : I64 p.f
  t : I64 p.t
  lo : p.lo.length ≤ 140737488351232
  hi : p.hi.length ≤ 140737488351232
  set : p.set.rd w
  by_ : I64 p.by_
theorem Pk.rd.mono {w w' : World} {p : Pk} (h : p.rd w) (hb : Bel w w') : p.rd w' := ⟨h.f, h.t, h.lo, h.hi, h.set.mono hb, h.by_⟩
instance instCelPk : Cel Pk where
  size := 7
  bytes := 88
  cells p := p.cs.toList
  ok w p := p.rd w
  len _ := rfl
  pos := by omega
  mono hb h := h.mono hb
abbrev Pk.con (p : Pk) : PC := ⟨p.f, p.t, p.lo, p.hi, p.set.l, p.g, p.by_⟩
/-- A query. -/
structure Qr where
  ps : Row Pk
abbrev Qr.cs (q : Qr) : Array Value := #[.slice q.ps.A q.ps.n q.ps.c]
abbrev Qr.rd (w : World) (q : Qr) : Prop := q.ps.rd w
abbrev Qr.con (q : Qr) : List PC := q.ps.l.map Pk.con
end Go.Proofs.Ytlclllkjnhgbjaa
