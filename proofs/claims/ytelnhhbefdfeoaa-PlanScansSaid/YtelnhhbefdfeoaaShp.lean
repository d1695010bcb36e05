/- Shapes of cubes: how they lie in memory; the document's Small. -/
import Derived.Test.YtelnhhbefdfeoaaSep
import Derived.Test.YtelnhhbefdfeoaaBe
namespace Go.Proofs.Ytelnhhbefdfeoaa
open Go.RowKit Go.ChangeShapes Go.WideShapes Go.Deep
set_option linter.unusedVariables false
set_option linter.unusedSimpArgs false

/-- The first test that fails. -/
def firstErr (f : Nat → Int) : Nat → Nat → Int
  | 0, _ => 0
  | m + 1, j => if f j ≠ 0 then f j else firstErr f m (j + 1)
theorem firstErr_hit {f : Nat → Int} {n j : Nat} {e : Int} (h : j < n) (h1 : f j = e) (h2 : e ≠ 0) : firstErr f (n - j) j = e := by
  rw [show n - j = (n - (j + 1)) + 1 by omega, firstErr, h1, if_pos h2]
theorem firstErr_next {f : Nat → Int} {n j : Nat} (h : j < n) (h1 : f j = 0) : firstErr f (n - j) j = firstErr f (n - (j + 1)) (j + 1) := by
  rw [show n - j = (n - (j + 1)) + 1 by omega, firstErr, h1, if_neg (by omega)]
theorem firstErr_zero {f : Nat → Int} : ∀ {m j : Nat}, (∀ i, j ≤ i → i < j + m → f i = 0) → firstErr f m j = 0
  | 0, _, _ => rfl
  | m + 1, j, h => by
    rw [firstErr, if_neg (by rw [h j (Nat.le_refl _) (by omega)]; omega)]
    exact firstErr_zero fun i h1 h2 => h i (by omega) (by omega)
/-- A shape. -/
structure Shp where
  sz : Row (Row Int)
  ms : Int
abbrev Shp.cs (x : Shp) : Array Value := #[.slice x.sz.A x.sz.n x.sz.c, .int .i64 x.ms]
structure Shp.rd (w : World) (x : Shp) : Prop where
  sz : x.sz.rd w
  ms : I64 x.ms
theorem Shp.rd.mono {w w' : World} {x : Shp} (h : x.rd w) (hb : Bel w w') : x.rd w' := ⟨h.sz.mono hb, h.ms⟩
abbrev Shp.con (x : Shp) : List (List Int) := x.sz.l.map Row.l
theorem shp_one (x : Shp) : x.cs.all (·.oneCell') = true := by simp [Value.oneCell']
theorem rowShp2 : RowTy Try.prog 71 2 := ⟨⟨_, Try.underlying71, rfl⟩, by kernel_rfl⟩
theorem Row.rd.slAt {w : World} {x : Row (Row Int)} (h : x.rd w) {k : Nat} (hk : k < x.n) : ∃ b o y, x.A = some ⟨b, o, none⟩ ∧ x.l[k]? = some y ∧ y.ok w ∧ w.cell? ⟨b, o + k, none⟩ = some (.slice y.A y.n y.c) := by
  obtain ⟨b, o, y, e, hy, hc⟩ := rd_cell rfl h.r hk
  exact ⟨b, o, y, e, hy, h.all y (List.mem_of_getElem? hy), hc _ rfl⟩
set_option maxRecDepth 100000 in
theorem c_shp : Try.prog.cellsOf 71 = 2 := by kernel_rfl
set_option maxRecDepth 100000 in
theorem c_intss : Try.prog.cellsOf 69 = 1 := by kernel_rfl
theorem opens_intss : Opens Try.prog 69 (Row (Row Int)) := opens_row Try.underlying69 c_ints (by kernel_rfl) opens_nums
set_option maxRecDepth 100000 in
theorem open_shp {H : Type} {enc : TypeId × Value → H} {w : World} {base b0 : Nat} {spare : Nat → Bool} {held : Bool} {r : Reach} {v : Value} {d : DataW H} {p : List MemPlace}
    (hv : Value.okWide Try.prog w r b0 71 v) (h : DataW.Trod enc Try.prog w base spare held 71 v d p) (hz : Sized Try.prog 71 d) : ∃ x : Shp, v = .agg x.cs ∧ x.rd w := by
  obtain ⟨cs, rfl, _⟩ := okWide_struct Try.underlying71 hv
  obtain ⟨fuel, hf⟩ := h
  have hl := struct_len Try.underlying71 hf c_shp
  obtain ⟨a, ha, wa⟩ := field_of Try.underlying71 hf hz 0 _ rfl opens_intss c_intss
  obtain ⟨b, hb, wb⟩ := field_of Try.underlying71 hf hz 1 _ rfl (opens_i64 Try.underlying3) c_int
  refine ⟨⟨a, b⟩, ?_, ⟨Row.ok.rds wa, wb⟩⟩
  simp only [Value.cells] at ha hb hl
  obtain ⟨cl⟩ := cs
  match cl, hl with
  | [x0, x1], _ =>
    simp [Cel.cells, Row.v] at ha hb
    simp [ha, hb]
def SmallS (s : Shp) : Prop := s.sz.n ≤ 20 ∧ ∀ y ∈ s.sz.l, y.n ≤ 10
end Go.Proofs.Ytelnhhbefdfeoaa
