/- Parts of rows. -/
import Derived.Test.YtlclllkjnhgbjaaBs
import Derived.Test.YtlclllkjnhgbjaaBl
namespace Go.Proofs.Ytlclllkjnhgbjaa
open Go.RowKit Go.ChangeShapes Go.WideShapes Go.Deep
set_option linter.unusedVariables false
set_option linter.unusedSimpArgs false


theorem flat_dropP {α : Type} [Cel α] (l : List α) (j : Nat) : (l.drop j).flatMap Cel.cells = (l.flatMap Cel.cells).drop (j * Cel.size α) := by
  induction l generalizing j with
  | nil => simp
  | cons a l ih =>
    cases j with
    | zero => simp
    | succ j =>
      rw [List.drop_succ_cons, ih, List.flatMap_cons, show (j + 1) * Cel.size α = (Cel.cells a).length + j * Cel.size α by rw [Cel.len, Nat.add_mul]; omega, List.drop_length_add_append]
theorem flat_takeP {α : Type} [Cel α] (l : List α) (j : Nat) : (l.take j).flatMap Cel.cells = (l.flatMap Cel.cells).take (j * Cel.size α) := by
  induction l generalizing j with
  | nil => simp
  | cons a l ih =>
    cases j with
    | zero => simp
    | succ j =>
      rw [List.take_succ_cons, List.flatMap_cons, List.flatMap_cons, ih, show (j + 1) * Cel.size α = (Cel.cells a).length + j * Cel.size α by rw [Cel.len, Nat.add_mul]; omega, List.take_length_add_append]
/-- A part of a row. -/
def Row.part {α : Type} [Cel α] (x : Row α) (j k : Nat) : Row α := ⟨if x.c = j then x.A else x.A.map (·.add (j * Cel.size α)), k - j, x.c - j, (x.l.drop j).take (k - j)⟩
theorem addr_blkP (a : Addr) (m : Nat) : (a.add m).block = a.block := by unfold Addr.add; split <;> rfl
theorem addr_addP (a : Addr) (m n : Nat) : (a.add m).add n = a.add (m + n) := by
  unfold Addr.add
  by_cases h1 : m = 0
  · subst h1; simp
  · by_cases h2 : n = 0
    · subst h2; simp
    · rw [if_neg h1, if_neg h2, if_neg (by omega)]
      simp [Nat.add_assoc]
theorem part_rd {α : Type} [Cel α] {w : World} {x : Row α} (h : x.rd w) (hc : x.n ≤ x.c) {j k : Nat} (hj : j ≤ k) (hk : k ≤ x.n) : (x.part j k).rd w := by
  have hl := h.len
  refine ⟨⟨?_, fun hpos => ?_⟩, fun y hy => h.all y (List.mem_of_mem_drop (List.mem_of_mem_take hy)), by have := h.n63; show k - j ≤ _; omega⟩
  · rw [cells_len]
    show ((x.l.drop j).take (k - j)).length * _ = (k - j) * _
    rw [List.length_take, List.length_drop, Nat.min_eq_left (by omega)]
  · have hp : 0 < k - j := hpos
    obtain ⟨ad, e, h1, h2⟩ := h.r.2 (by omega)
    refine ⟨ad.add (j * Cel.size α), ?_, (show (ad.add (j * Cel.size α)).block < _ by rw [addr_blkP]; exact h1), fun i u hu => ?_⟩
    · show (if x.c = j then x.A else x.A.map (·.add (j * Cel.size α))) = _
      rw [if_neg (by omega), e]
      rfl
    · have hu : (((x.l.drop j).take (k - j)).flatMap Cel.cells)[i]? = some u := hu
      rw [flat_takeP, flat_dropP, List.getElem?_take] at hu
      split at hu
      · rw [List.getElem?_drop] at hu
        have := h2 (j * Cel.size α + i) u hu
        rw [← this, addr_addP]
      · cases hu
theorem wpQuiet_slice {P : Program} {ops : Array Oper} {w : World} {Q : Act → Prop} {a : Act} {o : Oper} {rest : List Oper} (hw : Region.wanted o (yielded ops a.tmps) = true) {t : TypeId} (x : Operand) (lo hi : Option Operand) (ho : o.op = .slice t x lo hi none) {v : Value}
    (hr : ∀ w, (Instr.sliceAt t (a.eval x) (lo.map a.eval) (hi.map a.eval) none).run P w = .ok v w)
    (h : wpQuiet P ops (fun w' => ∃ u : Over w, w' = u.wd) Q rest (a.put o.dst v)) : wpQuiet P ops (fun w' => ∃ u : Over w, w' = u.wd) Q (o :: rest) a :=
  wpQuiet_run hw v (fun u => by unfold execOp; simp only [ho, Option.map_none, Sem.run_bind, hr, Result.andThen_ok, Sem.run_pure]) h
end Go.Proofs.Ytlclllkjnhgbjaa
