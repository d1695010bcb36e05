/- A region that draws its order and whose calls make memory: one walk, in every world above the one in which it began. -/
import Derived.Test.YtnjpoamebkehbaaSl
namespace Go.Proofs.Ytnjpoamebkehbaa
open Go.RowKit
set_option linter.unusedVariables false

theorem str_from (l : List UInt8) (a : Nat) : (⟨l.toArray⟩ : ByteArray).extract a l.length = ⟨(l.drop a).toArray⟩ := by
  rw [str_extract, List.take_of_length_le (by simp)]
theorem str_upto (l : List UInt8) (b : Nat) : (⟨l.toArray⟩ : ByteArray).extract 0 b = ⟨(l.take b).toArray⟩ := by
  rw [str_extract]
  simp

/-- A world in which all of another one is as it was. -/
structure Over (w : World) where
  wd : World
  bel : Bel w wd
instance (w : World) : Nonempty (Over w) := ⟨⟨w, Bel.refl w⟩⟩

section
variable {P : Program} {w : World}
theorem wp_region_over {id : Nat} {Q : Exit → Act → World → Prop} {a : Act} {l : List Oper} (hm : P.follows .mixedOrders = true) (hB : Region.lexB .any l.toArray = true)
    (h : wpQuiet P l.toArray (fun w' => ∃ u : Over w, w' = u.wd) (fun a' => ∀ w', (∃ u : Over w, w' = u.wd) → Q .normal a' w') l a) : (Code.region id l.toArray true).wp P Q a w :=
  wp_region_quiet (C := fun w' => ∃ u : Over w, w' = u.wd) hm hB ⟨⟨_, (Bel.refl w).drew⟩, rfl⟩ (by simpa using h)

theorem calls_over {f : FuncId} {args : Array Value} {u : Over w} {v : Value} (h : Calls P f args u.wd fun e w' => e = .returned v ∧ Bel u.wd w') :
    Calls P f args u.wd fun e w'' => e = .returned v ∧ ∃ m : Over w, w'' = m.wd :=
  h.mono fun _ w' ⟨he, hm⟩ => ⟨he, ⟨w', u.bel.trans hm⟩, rfl⟩
theorem calls_over_same {f : FuncId} {args : Array Value} {u : Over w} {v : Value} (h : Calls P f args u.wd fun e w' => e = .returned v ∧ u.wd = w') :
    Calls P f args u.wd fun e w'' => e = .returned v ∧ ∃ m : Over w, w'' = m.wd :=
  h.mono fun _ w' ⟨he, hm⟩ => ⟨he, u, hm.symm⟩
theorem Over.cell {p : Addr} {v : Value} (h : w.cell? p = some v) (u : Over w) : u.wd.cell? p = some v := (u.bel.cell (World.block_lt_of_cell? _ _ h)).trans h
end

end Go.Proofs.Ytnjpoamebkehbaa
