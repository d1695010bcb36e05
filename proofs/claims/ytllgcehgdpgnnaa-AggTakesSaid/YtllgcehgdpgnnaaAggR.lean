/- Walks of the document's Join and All. -/
import Derived.Test.YtllgcehgdpgnnaaAggB
import Derived.StillTailTactics
namespace Go.Proofs.Ytllgcehgdpgnnaa
open Go.RowKit
set_option linter.unusedVariables false

theorem radd_same (a b : Int) (w : World) (ha : I64 a) (hb : I64 b) :
    Calls Try.prog 132 #[.int .i64 a, .int .i64 b] w fun e w' => e = .returned (.tuple #[.int .i64 (xadd a b).1, .bool (xadd a b).2]) ∧ w' = w :=
  (radd_any a b w ha hb).mono fun _ _ h => ⟨h.1, h.2.symm⟩

end Go.Proofs.Ytllgcehgdpgnnaa
