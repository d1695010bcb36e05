/- ask.Take. -/
import Derived.Test.YtelnhhbefdfeoaaAskR
import Derived.Test.YtelnhhbefdfeoaaAskC
import Derived.Test.YtelnhhbefdfeoaaBr
namespace Go.Proofs.Ytelnhhbefdfeoaa
open Go.RowKit
set_option linter.unusedVariables false
set_option linter.unusedSimpArgs false

theorem pk1_one (D : Pk) : ∀ u ∈ ([.int .i64 D.f, .int .i64 D.t, .string ⟨D.lo.toArray⟩, .string ⟨D.hi.toArray⟩, .slice D.set.A D.set.n D.set.c, .bool D.g, .int .i64 D.by_] : List Value), u.oneCell' = true := by simp [Value.oneCell']
/-- Picks of the call's own, with all that they hold. -/
abbrev rQry (X : Row Pk) : Res := ⟨fun g => (rRow 59 7 (.slice X.A X.n X.c) X.n (X.l.flatMap Cel.cells)).D g ∨ (rList rPk X.l).D g, fun w => X.rd w ∧ X.n ≤ 16 ∧ ∀ p ∈ X.l, p.set.n ≤ 200⟩
theorem holds_qry {X : Row Pk} {w : World} (h1 : (rRow 59 7 (.slice X.A X.n X.c) X.n (X.l.flatMap Cel.cells)).holds w) (h2 : (rList rPk X.l).holds w) (h3 : X.n ≤ 16) : (rQry X).holds w :=
  ⟨fun g hg => hg.elim (h1.1 g) (h2.1 g), fun w' hs hk => ⟨⟨Rd.of_own (h1.2 w' hs fun g hg => hk g (.inl hg)), fun r hr => (h2.2 w' hs (fun g hg => hk g (.inr hg)) r hr).rd, by omega⟩, h3, fun r hr => (h2.2 w' hs (fun g hg => hk g (.inr hg)) r hr).sn⟩⟩
theorem holds_qry_nil (w : World) : (rQry ⟨none, 0, 0, []⟩).holds w := holds_qry (holds_row (World.ownsRow_nil w 0 _ _)) (holds_list_nil _ w) (by show 0 ≤ 16; omega)
theorem qry_nil_new {m : Nat} : ∀ g, (rQry ⟨none, 0, 0, []⟩).D g → m ≤ g := by
  rintro g (h | ⟨T, hT, _⟩)
  · simp [Value.ownBlock] at h
  · cases hT
def Tkask (r : List PC × Int) (w : World) (e : Ending) (w' : World) : Prop := ∃ X : Qr, e = .returned (.tuple #[.agg X.cs, .int .i64 r.2]) ∧ X.con = r.1 ∧ Bel w w' ∧ NewR w w' (rQry X.ps)

end Go.Proofs.Ytelnhhbefdfeoaa
