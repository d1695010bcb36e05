/- The walk of law 34's StreamNodes, with the example. -/
import Derived.Test.YtlclllkjnhgbjaaStreamNodesL
import Derived.Test.YtlclllkjnhgbjaaStrZ
namespace Go.Proofs.Ytlclllkjnhgbjaa
open Go.RowKit
set_option linter.unusedVariables false
set_option linter.unusedSimpArgs false


theorem walk_streamNodes (w : World) (sh : Shp) (hs : sh.rd w) (b : ByteArray) (hb : b.size ≤ 9223372036854775807) (i : Int) (wi : (Lit.int .i64 i).wf = true) :
    Calls Try.prog 5 #[.agg sh.cs, .string b, .int .i64 i] w fun e w' => e = .returned (.bool true) ∧ Bel w w' := by
  obtain ⟨⟨l⟩⟩ := b
  exact walkl_streamNodes awake34_any w sh hs l (by simpa [ByteArray.size] using hb) i wi

end Go.Proofs.Ytlclllkjnhgbjaa
