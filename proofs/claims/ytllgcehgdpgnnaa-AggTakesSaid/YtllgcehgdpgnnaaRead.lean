/- Aggregates, and rows of them, opened. -/
import Derived.Test.YtllgcehgdpgnnaaOpen
import Derived.Test.YtllgcehgdpgnnaaAggA
namespace Go.Proofs.Ytllgcehgdpgnnaa
open Go.RowKit Go.ChangeShapes Go.WideShapes Go.Deep
set_option linter.unusedVariables false

set_option maxRecDepth 100000 in
theorem cells_i64 : Try.prog.cellsOf 2 = 1 := by kernel_rfl
set_option maxRecDepth 100000 in
theorem cells_part : Try.prog.cellsOf 89 = 3 := by kernel_rfl
set_option maxRecDepth 100000 in
theorem cells_parts : Try.prog.cellsOf 90 = 9 := by kernel_rfl
set_option maxRecDepth 100000 in
theorem cells_agg : Try.prog.cellsOf 92 = 10 := by kernel_rfl

theorem i64_of {n : Int} (h : (Lit.int .i64 n).wf = true) : I64 n := bounds_i64 h

/-- A part, three of them, an aggregate. -/
theorem opens_part : OpensTo Try.prog 89 (fun _ cs (p : Prt) => cs = p.cs.toList ∧ p.ok) := by
  intro H enc w base spare held fuel cs x h hz
  have hl := struct_len Try.underlying89 h cells_part
  obtain ⟨a, ha, wa⟩ := field_of Try.underlying89 h hz 0 _ rfl (opens_int Try.underlying2) cells_i64
  obtain ⟨b, hb, wb⟩ := field_of Try.underlying89 h hz 1 _ rfl (opens_int Try.underlying2) cells_i64
  obtain ⟨c, hc, wc⟩ := field_of Try.underlying89 h hz 2 _ rfl (opens_int Try.underlying2) cells_i64
  refine ⟨⟨a, b, c⟩, ?_, ⟨i64_of wa, i64_of wb, i64_of wc⟩⟩
  match cs, hl with
  | [x0, x1, x2], _ =>
    simp at ha hb hc
    simp [Prt.cs, ha, hb, hc]

theorem opens_agg : OpensTo Try.prog 92 (fun _ cs (a : Ag) => cs = a.cs.toList ∧ a.ok) := by
  intro H enc w base spare held fuel cs x h hz
  have hl := struct_len Try.underlying92 h cells_agg
  obtain ⟨c, hc, wc⟩ := field_of Try.underlying92 h hz 0 _ rfl (opens_int Try.underlying2) cells_i64
  have hM : OpensTo Try.prog 90 (fun _ cs (x : Prt × Prt × Prt) => (cs.drop 0).take 3 = x.1.cs.toList ∧ (cs.drop 3).take 3 = x.2.1.cs.toList ∧ (cs.drop 6).take 3 = x.2.2.cs.toList ∧ x.1.ok ∧ x.2.1.ok ∧ x.2.2.ok) := by
    intro H enc w base spare held fuel cs x h hz
    obtain ⟨p, hp, wp⟩ := elem_of Try.underlying90 h hz opens_part cells_part 0 (by omega)
    obtain ⟨q, hq, wq⟩ := elem_of Try.underlying90 h hz opens_part cells_part 1 (by omega)
    obtain ⟨r, hr, wr⟩ := elem_of Try.underlying90 h hz opens_part cells_part 2 (by omega)
    exact ⟨(p, q, r), hp, hq, hr, wp, wq, wr⟩
  obtain ⟨⟨p, q, r⟩, hp, hq, hr, wp, wq, wr⟩ := field_of Try.underlying92 h hz 1 _ rfl hM cells_parts
  refine ⟨⟨c, p, q, r⟩, ?_, ⟨i64_of wc, wp, wq, wr⟩⟩
  match cs, hl with
  | [x0, x1, x2, x3, x4, x5, x6, x7, x8, x9], _ =>
    simp [Prt.cs] at hc hp hq hr
    simp [Ag.cs, hc, hp, hq, hr]

set_option maxRecDepth 100000 in
/-- An aggregate by value. -/
theorem open_ag {H : Type} {enc : TypeId × Value → H} {w : World} {base b0 : Nat} {spare : Nat → Bool} {held : Bool} {r : Reach} {v : Value} {d : DataW H} {p : List MemPlace}
    (hv : Value.okWide Try.prog w r b0 92 v) (h : DataW.Trod enc Try.prog w base spare held 92 v d p) (hz : Sized Try.prog 92 d) : ∃ a : Ag, v = .agg a.cs ∧ a.ok := by
  obtain ⟨cs, rfl, _⟩ := okWide_struct Try.underlying92 hv
  obtain ⟨fuel, hf⟩ := h
  obtain ⟨a, ha, ho⟩ := opens_agg hf hz
  refine ⟨a, ?_, ho⟩
  simp only [Value.cells] at ha
  rw [Array.toList_inj.1 ha]

end Go.Proofs.Ytllgcehgdpgnnaa
