/- ask.read: a pick read by a reader. -/
import Derived.Test.YtlclllkjnhgbjaaAskM
import Derived.Test.YtlclllkjnhgbjaaBr
namespace Go.Proofs.Ytlclllkjnhgbjaa
open Go.RowKit
set_option linter.unusedVariables false
set_option linter.unusedSimpArgs false

section
variable {P : Program}
/-- A struct built of one field. -/
theorem wpList_build1 {ops : Array Oper} {rest : List Oper} {o : Oper} {a : Act} {w : World} {Q : Exit → Act → World → Prop} (hgd : o.guard = none) {t : TypeId} (x : Operand) {i : Nat} (ho : o.op = .build t #[(i, x)])
    {vx v : Value} (hx : a.eval x = vx) (hr : ∀ w, (Instr.build t #[(i, vx)]).run P w = .ok v w)
    (h : wpList P ops Q rest (a.put o.dst v) w) : wpList P ops Q (o :: rest) a w := by
  refine wpList_plain hgd fun K hK => ?_
  unfold Oper.wp execOp
  simp only [ho, List.map_toArray, List.map_cons, List.map_nil, hx, Sem.run_bind, hr, Result.andThen_ok, Sem.run_pure]
  exact hK _ _ h
end
/-- A pick of the call's own. -/
structure PkOwn (p : Pk) (w : World) : Prop where
  f : I64 p.f
  t : I64 p.t
  lo : p.lo.length ≤ 16
  hi : p.hi.length ≤ 16
  set : w.ownsRow 0 9 1 (.slice p.set.A p.set.n p.set.c) p.set.n (p.set.l.map tx)
  sl : ∀ x ∈ p.set.l, x.length ≤ 16
  sn : p.set.n ≤ 200
  b : I64 p.by_
def Pk.D (p : Pk) (g : Nat) : Prop := p.set.v.ownBlock = some g
theorem PkOwn.rd {p : Pk} {w : World} (h : PkOwn p w) : Pk.rd w p :=
  ⟨h.f, h.t, by have := h.lo; omega, by have := h.hi; omega, ⟨by have := Rd.of_own h.set; rw [flat_texts]; exact this, fun t ht => by have := h.sl t ht; show t.length ≤ _; omega, by have := h.sn; omega⟩, h.b⟩
end Go.Proofs.Ytlclllkjnhgbjaa
