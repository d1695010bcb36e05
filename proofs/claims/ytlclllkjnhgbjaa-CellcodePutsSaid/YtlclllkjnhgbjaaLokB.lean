/- Find, of the program and the document. -/
import Derived.Test.YtlclllkjnhgbjaaLokA
namespace Go.Proofs.Ytlclllkjnhgbjaa
open Go.RowKit
set_option linter.unusedVariables false
set_option linter.unusedSimpArgs false


end Go.Proofs.Ytlclllkjnhgbjaa
