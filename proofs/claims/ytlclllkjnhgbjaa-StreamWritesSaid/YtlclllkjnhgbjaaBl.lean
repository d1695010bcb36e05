/- Texts laid together: XFact XFactC XFactD XFactE XFactF. -/
import Derived.Test.YtlclllkjnhgbjaaBb
import Derived.Test.YtlclllkjnhgbjaaBa
import Derived.Test.YtlclllkjnhgbjaaBg

namespace Go.Proofs.Ytlclllkjnhgbjaa
open Go.RowKit Go.ChangeShapes Go.WideShapes Go.Deep
set_option linter.unusedVariables false

/-- A fact: its tuple, and its aggregate. -/
structure Fct where
  ks : Row Int
  ag : Ag
def Fct.cs (f : Fct) : Array Value := ⟨f.ks.v :: f.ag.cs.toList⟩
structure Fct.ok (w : World) (f : Fct) : Prop where
  ks : f.ks.ok w
  ag : f.ag.ok
instance instCelFct : Cel Fct where
  size := 11
  bytes := 104
  cells f := f.cs.toList
  ok w f := f.ok w
  len _ := rfl
  pos := by omega
  mono hb h := ⟨h.ks.mono hb, h.ag⟩
/-- What a fact says. -/
def Fct.con (f : Fct) : List Int × Ag := (f.ks.l, f.ag)

end Go.Proofs.Ytlclllkjnhgbjaa

namespace Go.Proofs.Ytlclllkjnhgbjaa
open Go.RowKit
set_option linter.unusedVariables false

@[local go_sem] theorem fct_get0 (f : Fct) : f.cs[0]? = some f.ks.v := rfl

end Go.Proofs.Ytlclllkjnhgbjaa

namespace Go.Proofs.Ytlclllkjnhgbjaa
open Go.RowKit
set_option linter.unusedVariables false
attribute [local go_sem] fct_get0

def Row.nil {α : Type} : Row α := ⟨none, 0, 0, []⟩
def cons (l : List Fct) : List (List Int × Ag) := l.map Fct.con
theorem Row.ok.grown {w w' : World} {x : Row Int} {row : Option Nat} (h : x.ok w) (hg : w.grownBy w' row) (ha : 0 < x.n → ∀ ad, x.A = some ad → row ≠ some ad.block) : x.ok w' := by
  refine ⟨⟨h.rd.1, fun hn => ?_⟩, h.all, h.le, h.cap, h.reach⟩
  obtain ⟨ad, e, hb, hc⟩ := h.rd.2 hn
  refine ⟨ad, e, Nat.lt_of_lt_of_le hb hg.size, fun j u hu => ?_⟩
  rw [← hc j u hu]
  refine World.cell?_of_block ?_
  rw [block_of_add]
  exact hg.block _ hb (fun e' => ha hn ad e e'.symm)
end Go.Proofs.Ytlclllkjnhgbjaa

namespace Go.Proofs.Ytlclllkjnhgbjaa
open Go.RowKit
set_option linter.unusedVariables false
attribute [local go_sem] fct_get0

end Go.Proofs.Ytlclllkjnhgbjaa

namespace Go.Proofs.Ytlclllkjnhgbjaa
open Go.RowKit
set_option linter.unusedVariables false
attribute [local go_sem] fct_get0

theorem Fct.ok.over {f : Fct} {w : World} (h : f.ok w) (u : Over w) : f.ok u.wd := ⟨h.ks.mono u.bel, h.ag⟩

end Go.Proofs.Ytlclllkjnhgbjaa
