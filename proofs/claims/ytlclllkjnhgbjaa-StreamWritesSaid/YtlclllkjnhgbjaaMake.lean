/- A slice that is made. -/
import Derived.Test.YtlclllkjnhgbjaaBs
namespace Go.Proofs.Ytlclllkjnhgbjaa
open Go.RowKit
set_option linter.unusedVariables false
set_option linter.unusedSimpArgs false

section
variable {P : Program}
/-- A slice that is made: n times the zero value. -/
theorem made_flat {α : Type} [Cel α] (z : Array Value) (a : α) (hz : z.toList = Cel.cells a) (n : Nat) : (madeCells z (n * Cel.size α)).toList = (List.replicate n a).flatMap Cel.cells := by
  have hzs : z.size = Cel.size α := by rw [← Array.length_toList, hz, Cel.len]
  have hpos := Cel.pos (α := α)
  apply List.ext_getElem?
  intro j
  by_cases hj : j < n * Cel.size α
  · have hk : j / Cel.size α < n := (Nat.div_lt_iff_lt_mul hpos).2 hj
    have hm : j % Cel.size α < Cel.size α := Nat.mod_lt _ hpos
    have e : j = j / Cel.size α * Cel.size α + j % Cel.size α := by rw [Nat.mul_comm]; exact (Nat.div_add_mod j _).symm
    have h1 := cells_get (List.replicate n a) (j / Cel.size α) (j % Cel.size α) a (by rw [List.getElem?_replicate, if_pos hk]) hm
    rw [← e] at h1
    rw [h1, ← hz]
    simp only [madeCells, Array.toList_map, Array.toList_range, List.getElem?_map, List.getElem?_range hj, Option.map_some, hzs]
    rw [Array.getElem?_toList, getElem!_pos z _ (by rw [hzs]; exact hm), Array.getElem?_eq_getElem]
  · rw [List.getElem?_eq_none (by rw [Array.length_toList, size_madeCells]; omega), List.getElem?_eq_none (by rw [cells_len, List.length_replicate]; omega)]
theorem wpList_makeFull {ops : Array Oper} {rest : List Oper} {o : Oper} {a : Act} {w : World} {Q : Exit → Act → World → Prop} (hgd : o.guard = none) {t e : TypeId} {z : Value} {size bytes : Nat} (ht : P.underlying t = some (.slice e))
    (hi : (P.info? e).map (fun i => (i.zero, i.size, i.bytes)) = some (some z, size, bytes)) (x y : Operand) (ho : o.op = .makeSlice t x y) (n : Nat) (hx : a.eval x = .int .i64 n) (hy : a.eval y = .int .i64 n) (hb : bytes * n ≤ 281474976710656) (hc : n * size ≤ 16777216) (h63 : n ≤ maxLen)
    (h : ∀ w', w'.ownsRow w.heap.size e size (.slice (some ⟨w.heap.size, 0, none⟩) n n) n (madeCells z.cells (n * size)).toList → w.grownBy w' none → wpList P ops Q rest (a.put o.dst (.slice (some ⟨w.heap.size, 0, none⟩) n n)) w') : wpList P ops Q (o :: rest) a w := by
  refine wpList_plain hgd fun K hK => ?_
  obtain ⟨i, hi0, hz0, hz1, hz2⟩ := info_parts hi
  obtain ⟨w', hr, hown, hg⟩ := run_makeSlice_full (P := P) w w.heap.size t e i z size ht hi0 hz0 hz1 .i64 .i64 n hc (by rw [hz2]; exact hb) h63 (Nat.le_refl _)
  unfold Oper.wp execOp
  simp only [ho, hx, hy, Sem.run_bind, hr, Result.andThen_ok, Sem.run_pure]
  exact hK _ _ (h w' hown hg)
end
theorem bel_of_none {w w' : World} (h : w.grownBy w' none) : Bel w w' := ⟨h.os, h.tape, h.output, h.size, fun g hg => h.block g hg (by simp)⟩

end Go.Proofs.Ytlclllkjnhgbjaa
