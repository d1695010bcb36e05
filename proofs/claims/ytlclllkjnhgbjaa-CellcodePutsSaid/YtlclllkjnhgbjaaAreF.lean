/- An arena's node; a step of a lookup. -/
import Derived.Test.YtlclllkjnhgbjaaAreE
namespace Go.Proofs.Ytlclllkjnhgbjaa
open Go.RowKit
set_option linter.unusedVariables false
set_option linter.unusedSimpArgs false


theorem rowAgA : RowTy Try.prog 30 10 := ⟨⟨_, Try.underlying30, rfl⟩, by kernel_rfl⟩
/-- A function's three results, the first a struct in memory. -/
theorem results_blk3 {P : Program} {fn : Func} {p u v : Tmp} {ty : TypeId} {n : Nat} (h : fn.results = #[.cell p ty, .tmp u, .tmp v]) (R : RowTy P ty n) {tmps : Array Value} {w : World} {g : Nat} {t : TypeId} {cs : Array Value}
    (hp : tmps.getD p undef = .pointer (some ⟨g, 0, none⟩)) (hb : Blk w g t cs) (hn : cs.size = n) :
    (results fn tmps).run P w = .ok (.tuple #[.agg cs, tmps.getD u undef, tmps.getD v undef]) w := by
  obtain ⟨d, hu, hd⟩ := R.hu
  have hp' : tmps[p]?.getD undef = .pointer (some ⟨g, 0, none⟩) := by simpa using hp
  have hl := run_loadVar_mid (P := P) w g 0 ty cs.toList d hb.range hu hd (by rw [R.hi]; simp [hn])
  simp [results, h, hp', asAddr, hl]
/-- A copy of a node. -/
def CopyOf (n : Nd) (w : World) (e : Ending) (w' : World) : Prop :=
  ∃ n2 : Nd, e = .returned (.tuple #[.agg n2.cs, .int .i64 0]) ∧ n2.con = n.con ∧ n2.ls.n = n.ls.n ∧ (∀ x ∈ n2.ls.l, x.n ≤ 1000000 ∧ ∀ c ∈ x.l, c.ok) ∧ SL No w w' [rRow 44 1 (.slice n2.ls.A n2.ls.n n2.ls.c) n2.ls.n (n2.ls.l.map Row.v), rListD rCs n2.ls.l]
end Go.Proofs.Ytlclllkjnhgbjaa
