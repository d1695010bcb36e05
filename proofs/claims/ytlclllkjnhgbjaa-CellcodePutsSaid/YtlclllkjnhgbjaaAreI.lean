/- The chapter's example (law 27). -/
import Derived.Test.YtlclllkjnhgbjaaAreH
namespace Go.Proofs.Ytlclllkjnhgbjaa
open Go.RowKit
set_option linter.unusedVariables false
set_option linter.unusedSimpArgs false


end Go.Proofs.Ytlclllkjnhgbjaa
