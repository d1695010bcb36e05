/- ask.Put, and the document's Put. -/
import Derived.Test.YtelnhhbefdfeoaaAskC
import Derived.Test.YtelnhhbefdfeoaaAskG
namespace Go.Proofs.Ytelnhhbefdfeoaa
open Go.RowKit
set_option linter.unusedVariables false
set_option linter.unusedSimpArgs false

end Go.Proofs.Ytelnhhbefdfeoaa
