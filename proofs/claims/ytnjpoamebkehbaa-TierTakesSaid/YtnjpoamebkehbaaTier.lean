/- Tiers and dimensions: how they lie in memory, and how arguments of these types are opened. -/
import Derived.Test.YtnjpoamebkehbaaApart
import Derived.Test.YtnjpoamebkehbaaTermR
import Derived.Test.YtnjpoamebkehbaaMemB
namespace Go.Proofs.Ytnjpoamebkehbaa
open Go.RowKit Go.ChangeShapes Go.WideShapes Go.Deep
set_option linter.unusedVariables false

/-- A slice, as it is read alone. -/
structure Row.rd {α : Type} [Cel α] (w : World) (x : Row α) : Prop where
  r : Rd w (Cel.size α) x.A x.n (x.l.flatMap Cel.cells)
  all : ∀ a ∈ x.l, Cel.ok w a
  n63 : x.n ≤ 9223372036854775807
section
variable {α : Type} [Cel α] {w w' : World} {x : Row α}
theorem Row.ok.rds (h : x.ok w) : x.rd w := ⟨h.rd, h.all, h.size⟩
theorem Row.rd.mono (h : x.rd w) (hb : Bel w w') : x.rd w' := ⟨h.r.bel hb, fun a ha => Cel.mono hb (h.all a ha), h.n63⟩
theorem Row.rd.len (h : x.rd w) : x.l.length = x.n := rd_len h.r
theorem Row.rd.texts {w : World} {x : Row (List UInt8)} (h : x.rd w) : Rd w 1 x.A x.n (x.l.map tx) := by have := h.r; rwa [flat_texts] at this
theorem Row.rd.ints {w : World} {x : Row Int} (h : x.rd w) : Rd w 1 x.A x.n (x.l.map (Value.int .i64)) := by have := h.r; rwa [flat_ints] at this
theorem Row.rd.txok {w : World} {x : Row (List UInt8)} (h : x.rd w) : TxOk x.l := fun t ht => Nat.le_trans (h.all t ht) (by omega)
theorem Row.nil_rd {α : Type} [Cel α] (w : World) : (Row.mk none 0 0 ([] : List α)).rd w := ⟨Rd.nil, (fun a ha => by cases ha), by show (0 : Nat) ≤ _; omega⟩
end

/-- A tier. -/
structure Tir where
  nm : List UInt8
  ts : Row (List UInt8)
  up : Row Int
abbrev Tir.cs (t : Tir) : Array Value := #[.string ⟨t.nm.toArray⟩, .slice t.ts.A t.ts.n t.ts.c, .slice t.up.A t.up.n t.up.c]
structure Tir.rd (w : World) (t : Tir) : Prop where
  nm : t.nm.length ≤ 140737488351232
  ts : t.ts.rd w
  up : t.up.rd w
theorem Tir.rd.mono {w w' : World} {t : Tir} (h : t.rd w) (hb : Bel w w') : t.rd w' := ⟨h.nm, h.ts.mono hb, h.up.mono hb⟩
instance instCelTir : Cel Tir where
  size := 3
  bytes := 64
  cells t := t.cs.toList
  ok w t := t.rd w
  len _ := rfl
  pos := by omega
  mono hb h := h.mono hb
theorem tir_one (t : Tir) : t.cs.all (·.oneCell') = true := by simp [Value.oneCell']
/-- A dimension. -/
structure Dm where
  nm : List UInt8
  tr : Row Tir
abbrev Dm.cs (d : Dm) : Array Value := #[.string ⟨d.nm.toArray⟩, .slice d.tr.A d.tr.n d.tr.c]
structure Dm.rd (w : World) (d : Dm) : Prop where
  nm : d.nm.length ≤ 140737488351232
  tr : d.tr.rd w
theorem Dm.rd.mono {w w' : World} {d : Dm} (h : d.rd w) (hb : Bel w w') : d.rd w' := ⟨h.nm, h.tr.mono hb⟩
instance instCelDm : Cel Dm where
  size := 2
  bytes := 40
  cells d := d.cs.toList
  ok w d := d.rd w
  len _ := rfl
  pos := by omega
  mono hb h := h.mono hb
theorem dm_one (d : Dm) : d.cs.all (·.oneCell') = true := by simp [Value.oneCell']

theorem rowTir : RowTy Try.prog 30 3 := ⟨⟨_, Try.underlying30, rfl⟩, by kernel_rfl⟩
theorem rowDm : RowTy Try.prog 24 2 := ⟨⟨_, Try.underlying24, rfl⟩, by kernel_rfl⟩
theorem E_tir : ElemInfo Try.prog 22 30 3 64 := ElemInfo.mk' (z := .agg #[.string ⟨#[]⟩, .slice none 0 0, .slice none 0 0]) Try.underlying22 (by kernel_rfl) rfl (by omega)
theorem E_dm : ElemInfo Try.prog 68 24 2 40 := ElemInfo.mk' (z := .agg #[.string ⟨#[]⟩, .slice none 0 0]) Try.underlying68 (by kernel_rfl) rfl (by omega)
theorem E_num : ElemInfo Try.prog 28 3 1 8 := ElemInfo.mk' (z := .int .i64 0) Try.underlying28 (by kernel_rfl) rfl (by omega)

set_option maxRecDepth 100000 in
theorem c_str : Try.prog.cellsOf 9 = 1 := by kernel_rfl
set_option maxRecDepth 100000 in
theorem c_int : Try.prog.cellsOf 3 = 1 := by kernel_rfl
set_option maxRecDepth 100000 in
theorem c_strs : Try.prog.cellsOf 27 = 1 := by kernel_rfl
set_option maxRecDepth 100000 in
theorem c_ints : Try.prog.cellsOf 28 = 1 := by kernel_rfl
set_option maxRecDepth 100000 in
theorem c_tir : Try.prog.cellsOf 30 = 3 := by kernel_rfl
set_option maxRecDepth 100000 in
theorem c_tirs : Try.prog.cellsOf 22 = 1 := by kernel_rfl
set_option maxRecDepth 100000 in
theorem c_dm : Try.prog.cellsOf 24 = 2 := by kernel_rfl
set_option maxRecDepth 100000 in
theorem c_dms : Try.prog.cellsOf 68 = 1 := by kernel_rfl
theorem opens_strs : Opens Try.prog 27 (Row (List UInt8)) := opens_row Try.underlying27 c_str (by kernel_rfl) (opens_text Try.underlying9)
theorem opens_nums : Opens Try.prog 28 (Row Int) := opens_row Try.underlying28 c_int (by kernel_rfl) (opens_i64 Try.underlying3)
theorem opens_tir : Opens Try.prog 30 Tir := by
  intro H enc w base spare held fuel cs x h hz
  have hl := struct_len Try.underlying30 h c_tir
  obtain ⟨a, ha, wa⟩ := field_of Try.underlying30 h hz 0 _ rfl (opens_text Try.underlying9) c_str
  obtain ⟨b, hb, wb⟩ := field_of Try.underlying30 h hz 1 _ rfl opens_strs c_strs
  obtain ⟨c, hc, wc⟩ := field_of Try.underlying30 h hz 2 _ rfl opens_nums c_ints
  refine ⟨⟨a, b, c⟩, ?_, ⟨wa, Row.ok.rds wb, Row.ok.rds wc⟩⟩
  match cs, hl with
  | [x0, x1, x2], _ =>
    simp [Cel.cells, Row.v] at ha hb hc
    simp [Cel.cells, ha, hb, hc]
theorem opens_tirs : Opens Try.prog 22 (Row Tir) := opens_row Try.underlying22 c_tir (by kernel_rfl) opens_tir
theorem opens_dm : Opens Try.prog 24 Dm := by
  intro H enc w base spare held fuel cs x h hz
  have hl := struct_len Try.underlying24 h c_dm
  obtain ⟨a, ha, wa⟩ := field_of Try.underlying24 h hz 0 _ rfl (opens_text Try.underlying9) c_str
  obtain ⟨b, hb, wb⟩ := field_of Try.underlying24 h hz 1 _ rfl opens_tirs c_tirs
  refine ⟨⟨a, b⟩, ?_, ⟨wa, Row.ok.rds wb⟩⟩
  match cs, hl with
  | [x0, x1], _ =>
    simp [Cel.cells, Row.v] at ha hb
    simp [Cel.cells, ha, hb]
theorem opens_dms : Opens Try.prog 68 (Row Dm) := opens_row Try.underlying68 c_dm (by kernel_rfl) opens_dm
set_option maxRecDepth 100000 in
theorem open_tir {H : Type} {enc : TypeId × Value → H} {w : World} {base b0 : Nat} {spare : Nat → Bool} {held : Bool} {r : Reach} {v : Value} {d : DataW H} {p : List MemPlace}
    (hv : Value.okWide Try.prog w r b0 30 v) (h : DataW.Trod enc Try.prog w base spare held 30 v d p) (hz : Sized Try.prog 30 d) : ∃ t : Tir, v = .agg t.cs ∧ t.rd w := by
  obtain ⟨cs, rfl, _⟩ := okWide_struct Try.underlying30 hv
  obtain ⟨fuel, hf⟩ := h
  obtain ⟨a, ha, ho⟩ := opens_tir hf hz
  refine ⟨a, ?_, ho⟩
  simp only [Value.cells] at ha
  rw [Array.toList_inj.1 ha]
set_option maxRecDepth 100000 in
theorem open_dm {H : Type} {enc : TypeId × Value → H} {w : World} {base b0 : Nat} {spare : Nat → Bool} {held : Bool} {r : Reach} {v : Value} {d : DataW H} {p : List MemPlace}
    (hv : Value.okWide Try.prog w r b0 24 v) (h : DataW.Trod enc Try.prog w base spare held 24 v d p) (hz : Sized Try.prog 24 d) : ∃ t : Dm, v = .agg t.cs ∧ t.rd w := by
  obtain ⟨cs, rfl, _⟩ := okWide_struct Try.underlying24 hv
  obtain ⟨fuel, hf⟩ := h
  obtain ⟨a, ha, ho⟩ := opens_dm hf hz
  refine ⟨a, ?_, ho⟩
  simp only [Value.cells] at ha
  rw [Array.toList_inj.1 ha]

/-- A cell of texts, of numbers, of tiers, at its place. -/
theorem Row.rd.textAt {w : World} {x : Row (List UInt8)} (h : x.rd w) {k : Nat} (hk : k < x.n) : ∃ b o t, x.A = some ⟨b, o, none⟩ ∧ x.l[k]? = some t ∧ t.length ≤ 140737488351232 ∧ w.cell? ⟨b, o + k, none⟩ = some (.string ⟨t.toArray⟩) := by
  obtain ⟨b, o, t, e, ht, hc⟩ := rd_cell rfl h.r hk
  exact ⟨b, o, t, e, ht, h.all t (List.mem_of_getElem? ht), hc _ rfl⟩
theorem Row.rd.intAt {w : World} {x : Row Int} (h : x.rd w) {k : Nat} (hk : k < x.n) : ∃ b o z, x.A = some ⟨b, o, none⟩ ∧ x.l[k]? = some z ∧ I64 z ∧ w.cell? ⟨b, o + k, none⟩ = some (.int .i64 z) := by
  obtain ⟨b, o, z, e, hz, hc⟩ := rd_cell rfl h.r hk
  exact ⟨b, o, z, e, hz, h.all z (List.mem_of_getElem? hz), hc _ rfl⟩
theorem Row.rd.tirAt {w : World} {x : Row Tir} (h : x.rd w) {k : Nat} (hk : k < x.n) : ∃ b o t, x.A = some ⟨b, o, none⟩ ∧ b < w.heap.size ∧ x.l[k]? = some t ∧ t.rd w ∧ w.rangeAt b (o + k * 3) t.cs.toList := by
  obtain ⟨b, o, t, e, hb, ht, hc⟩ := rd_range h.r hk
  exact ⟨b, o, t, e, hb, ht, h.all t (List.mem_of_getElem? ht), hc⟩
theorem Row.rd.dmAt {w : World} {x : Row Dm} (h : x.rd w) {k : Nat} (hk : k < x.n) : ∃ b o t, x.A = some ⟨b, o, none⟩ ∧ b < w.heap.size ∧ x.l[k]? = some t ∧ t.rd w ∧ w.rangeAt b (o + k * 2) t.cs.toList := by
  obtain ⟨b, o, t, e, hb, ht, hc⟩ := rd_range h.r hk
  exact ⟨b, o, t, e, hb, ht, h.all t (List.mem_of_getElem? ht), hc⟩

end Go.Proofs.Ytnjpoamebkehbaa
