/- lookup.Along at one dimension. -/
import Derived.Test.YtlclllkjnhgbjaaAreF
namespace Go.Proofs.Ytlclllkjnhgbjaa
open Go.RowKit
set_option linter.unusedVariables false
set_option linter.unusedSimpArgs false


theorem ag_oneA (a : Ag) : a.cs.all (·.oneCell') = true := by simp [Ag.cs, Value.oneCell']
section
variable {P : Program} {w : World}
theorem step_store_blkA {ops : Array Oper} {o : Oper} {a : Act} {K : Act → World → Prop} {Q : Exit → Act → World → Prop} {X : Prop} (hgd : o.guard = none) {ty : TypeId} {n : Nat} (R : RowTy P ty n) (x y : Operand) (ho : o.op = .store ty x y)
    (g : Nat) (hx : a.eval x = .pointer (some ⟨g, 0, none⟩)) {t : TypeId} {cs : Array Value} (hb : Blk w g t cs) (hn : cs.size = n) (cs' : Array Value) (hn' : cs'.size = n) (hy : a.eval y = .agg cs') (h1 : cs'.all (·.oneCell') = true)
    (h : ∀ w', Blk w' g t cs' → w.grownBy w' (some g) → K (a.put o.dst undef) w') : if Region.wanted o (yielded ops a.tmps) = true then Oper.wp P o a w K Q else X := by
  have hw : Region.wanted o (yielded ops a.tmps) = true := by simp [Region.wanted, hgd]
  rw [if_pos hw]
  refine wp_store_mid ty x y ho g 0 cs' hx hy (hb.there (by omega)) (by rw [R.hi, hn']) h1 (h _ ?_ (setCells_grown w g _ _))
  have := Blk.setAll cs'.toList 0 hb
  rwa [setAll_all cs cs' (by omega)] at this
end
end Go.Proofs.Ytlclllkjnhgbjaa
