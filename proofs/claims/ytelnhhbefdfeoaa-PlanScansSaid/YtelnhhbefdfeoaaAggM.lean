/- Walks of agg.Mean, agg.May. -/
import Derived.Test.YtelnhhbefdfeoaaBg
import Derived.Test.YtelnhhbefdfeoaaBb
namespace Go.Proofs.Ytelnhhbefdfeoaa
open Go.RowKit
set_option linter.unusedVariables false

/-- May a part be, within or beyond the measures, of so many rows? -/
def prtMay (inside : Bool) (c : Int) (p : Prt) : Bool := if inside then decide (p.mn ≤ p.mx) && (!(c == 1) || (p.s == p.mn && p.s == p.mx)) else decide (p = .zero)
/-- May an aggregate of so many measures be? -/
def mayAg (m : Int) (a : Ag) : Bool := decide (0 ≤ m) && decide (m ≤ 3) && decide (1 ≤ a.c) && prtMay (decide (0 < m)) a.c a.p && prtMay (decide (1 < m)) a.c a.q && prtMay (decide (2 < m)) a.c a.r

set_option maxRecDepth 100000 in
theorem guard_part : Try.prog.eqGuardType Try.prog.depth 79 = false := by kernel_rfl

set_option maxRecDepth 100000 in
set_option maxHeartbeats 1000000 in
theorem neq_part (p : Prt) (W : World) : (binOp .neq 79 (.agg p.cs) (.agg Prt.zero.cs)).run Try.prog W = .ok (.bool (!decide (p = .zero))) W := by
  obtain ⟨s, mn, mx⟩ := p
  unfold Prt.cs Prt.zero
  by_cases h1 : s = 0 <;> by_cases h2 : mn = 0 <;> by_cases h3 : mx = 0 <;> go_simp

/-- A measure's sum. -/
def Ag.sum (a : Ag) (k : Int) : Int := if k = 0 then a.p.s else if k = 1 then a.q.s else a.r.s

end Go.Proofs.Ytelnhhbefdfeoaa
