/- The walk of law 32's CellcodeTakes. -/
import Derived.Test.YtlclllkjnhgbjaaBv
import Derived.Test.YtlclllkjnhgbjaaBw
import Derived.Test.YtlclllkjnhgbjaaAreK
import Derived.Test.YtlclllkjnhgbjaaAreN
import Derived.Test.YtlclllkjnhgbjaaAskR
namespace Go.Proofs.Ytlclllkjnhgbjaa
open Go.RowKit
set_option linter.unusedVariables false
set_option linter.unusedSimpArgs false


theorem wpList_build0NG {ops : Array Oper} {rest : List Oper} {o : Oper} {a : Act} {w : World} {Q : Exit → Act → World → Prop} (hw : Region.wanted o (yielded ops a.tmps) = true) {t : TypeId} (ho : o.op = .build t #[])
    {v : Value} (hr : ∀ w : World, (Instr.build t #[]).run Try.prog w = .ok v w)
    (h : wpList Try.prog ops Q rest (a.put o.dst v) w) : wpList Try.prog ops Q (o :: rest) a w := by
  refine wpList_step fun K hK => ?_
  rw [if_pos hw]
  unfold Oper.wp execOp
  simp only [ho, List.map_toArray, List.map_nil, Sem.run_bind, hr, Result.andThen_ok, Sem.run_pure]
  exact hK _ _ h
theorem nd_nil_rd (w : World) : Nd.nil.rd w := nd_of_own (holds_ndnil w)
end Go.Proofs.Ytlclllkjnhgbjaa
