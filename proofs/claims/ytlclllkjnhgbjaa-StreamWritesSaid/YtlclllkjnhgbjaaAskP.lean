/- Queries, plain: what may be asked, its bytes, and how they are read. -/
import Derived.Test.YtlclllkjnhgbjaaBr
import Derived.Test.YtlclllkjnhgbjaaBs
import Derived.Test.YtlclllkjnhgbjaaBd
namespace Go.Proofs.Ytlclllkjnhgbjaa
open Go.RowKit
set_option linter.unusedVariables false
set_option linter.unusedSimpArgs false

/-- A pick. -/
structure PC where
  f : Int
  t : Int
  lo : List UInt8
  hi : List UInt8
  set : List (List UInt8)
  g : Bool
  by_ : Int
deriving DecidableEq
abbrev PC.nil : PC := ⟨0, 0, [], [], [], false, 0⟩
end Go.Proofs.Ytlclllkjnhgbjaa
