/- A call of a reader (law 4's Step). -/
import Derived.Test.YtllgcehgdpgnnaaRow
import Derived.Test.YtllgcehgdpgnnaaMem
namespace Go.Proofs.Ytllgcehgdpgnnaa
open Go.RowKit Go.ChangeShapes Go.WideShapes Go.Deep
set_option linter.unusedVariables false

structure Stp where
  k : Int
  n : Int
  is : Bool
abbrev Stp.cs (a : Stp) : Array Value := #[.int .i64 a.k, .int .i64 a.n, .bool a.is]
structure Stp.ok (a : Stp) : Prop where
  k : I64 a.k
  n : I64 a.n
instance instCelStp : Cel Stp where
  size := 3
  bytes := 24
  cells a := a.cs.toList
  ok _ a := a.ok
  len _ := rfl
  pos := by omega
  mono _ h := h
set_option maxRecDepth 100000 in
theorem cells_stp : Try.prog.cellsOf 49 = 3 := by kernel_rfl
set_option maxRecDepth 100000 in
theorem cells_int0 : Try.prog.cellsOf 3 = 1 := by kernel_rfl
set_option maxRecDepth 100000 in
theorem cells_bool0 : Try.prog.cellsOf 4 = 1 := by kernel_rfl
theorem opens_stp : Opens Try.prog 49 Stp := by
  intro H enc w base spare held fuel cs x h hz
  have hl := struct_len Try.underlying49 h cells_stp
  obtain ⟨a, ha, wa⟩ := field_of Try.underlying49 h hz 0 _ rfl (opens_i64 Try.underlying3) cells_int0
  obtain ⟨b, hb, wb⟩ := field_of Try.underlying49 h hz 1 _ rfl (opens_i64 Try.underlying3) cells_int0
  obtain ⟨c, hc, wc⟩ := field_of Try.underlying49 h hz 2 _ rfl (opens_boolC Try.underlying4) cells_bool0
  refine ⟨⟨a, b, c⟩, ?_, ⟨wa, wb⟩⟩
  match cs, hl with
  | [x0, x1, x2], _ =>
    simp [Cel.cells] at ha hb hc
    simp [Cel.cells, ha, hb, hc]
set_option maxRecDepth 100000 in
theorem open_stp {H : Type} {enc : TypeId × Value → H} {w : World} {base b0 : Nat} {spare : Nat → Bool} {held : Bool} {r : Reach} {v : Value} {d : DataW H} {p : List MemPlace}
    (hv : Value.okWide Try.prog w r b0 49 v) (h : DataW.Trod enc Try.prog w base spare held 49 v d p) (hz : Sized Try.prog 49 d) : ∃ a : Stp, v = .agg a.cs ∧ a.ok := by
  obtain ⟨cs, rfl, _⟩ := okWide_struct Try.underlying49 hv
  obtain ⟨fuel, hf⟩ := h
  obtain ⟨a, ha, ho⟩ := opens_stp hf hz
  refine ⟨a, ?_, ho⟩
  simp only [Value.cells] at ha
  rw [Array.toList_inj.1 ha]
set_option maxRecDepth 100000 in
theorem open_stps {H : Type} {enc : TypeId × Value → H} {w : World} {base b0 : Nat} {spare : Nat → Bool} {held : Bool} {r : Reach} {v : Value} {d : DataW H} {p : List MemPlace}
    (hv : Value.okWide Try.prog w r b0 44 v) (h : DataW.Trod enc Try.prog w base spare held 44 v d p) (hz : Sized Try.prog 44 d) : ∃ x : Row Stp, v = x.v ∧ x.ok w := open_row Try.underlying44 cells_stp (by kernel_rfl) opens_stp hv h hz

end Go.Proofs.Ytllgcehgdpgnnaa
