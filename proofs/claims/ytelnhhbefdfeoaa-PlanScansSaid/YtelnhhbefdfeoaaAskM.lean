/- Picks and queries: how they lie in memory, and how arguments of these types are opened. -/
import Derived.Test.YtelnhhbefdfeoaaAskP
import Derived.Test.YtelnhhbefdfeoaaBr
namespace Go.Proofs.Ytelnhhbefdfeoaa
open Go.RowKit Go.ChangeShapes Go.WideShapes Go.Deep
set_option linter.unusedVariables false
set_option linter.unusedSimpArgs false

/-- A pick. -/
structure Pk where
  f : Int
  t : Int
  lo : List UInt8
  hi : List UInt8
  set : Row (List UInt8)
  g : Bool
  by_ : Int
abbrev Pk.cs (p : Pk) : Array Value := #[.int .i64 p.f, .int .i64 p.t, .string ⟨p.lo.toArray⟩, .string ⟨p.hi.toArray⟩, .slice p.set.A p.set.n p.set.c, .bool p.g, .int .i64 p.by_]
structure Pk.rd (w : World) (p : Pk) : Prop where
  f : I64 p.f
  t : I64 p.t
  lo : p.lo.length ≤ 140737488351232
  hi : p.hi.length ≤ 140737488351232
  set : p.set.rd w
  by_ : I64 p.by_
theorem Pk.rd.mono {w w' : World} {p : Pk} (h : p.rd w) (hb : Bel w w') : p.rd w' := ⟨h.f, h.t, h.lo, h.hi, h.set.mono hb, h.by_⟩
instance instCelPk : Cel Pk where
  size := 7
  bytes := 88
  cells p := p.cs.toList
  ok w p := p.rd w
  len _ := rfl
  pos := by omega
  mono hb h := h.mono hb
abbrev Pk.con (p : Pk) : PC := ⟨p.f, p.t, p.lo, p.hi, p.set.l, p.g, p.by_⟩
theorem pk_one (p : Pk) : p.cs.all (·.oneCell') = true := by simp [Value.oneCell']
theorem rowPk : RowTy Try.prog 59 7 := ⟨⟨_, Try.underlying59, rfl⟩, by kernel_rfl⟩
theorem E_pk : ElemInfo Try.prog 50 59 7 88 := ElemInfo.mk' (z := .agg #[.int .i64 0, .int .i64 0, .string ⟨#[]⟩, .string ⟨#[]⟩, .slice none 0 0, .bool false, .int .i64 0]) Try.underlying50 (by kernel_rfl) rfl (by omega)
set_option maxRecDepth 100000 in
theorem c_bool : Try.prog.cellsOf 4 = 1 := by kernel_rfl
set_option maxRecDepth 100000 in
theorem c_pk : Try.prog.cellsOf 59 = 7 := by kernel_rfl
set_option maxRecDepth 100000 in
theorem c_pks : Try.prog.cellsOf 50 = 1 := by kernel_rfl
set_option maxRecDepth 100000 in
theorem c_qry : Try.prog.cellsOf 52 = 1 := by kernel_rfl
theorem rowQry : RowTy Try.prog 52 1 := ⟨⟨_, Try.underlying52, rfl⟩, by kernel_rfl⟩
theorem opens_pk : Opens Try.prog 59 Pk := by
  intro H enc w base spare held fuel cs x h hz
  have hl := struct_len Try.underlying59 h c_pk
  obtain ⟨a0, h0, w0⟩ := field_of Try.underlying59 h hz 0 _ rfl (opens_i64 Try.underlying3) c_int
  obtain ⟨a1, h1, w1⟩ := field_of Try.underlying59 h hz 1 _ rfl (opens_i64 Try.underlying3) c_int
  obtain ⟨a2, h2, w2⟩ := field_of Try.underlying59 h hz 2 _ rfl (opens_text Try.underlying9) c_str
  obtain ⟨a3, h3, w3⟩ := field_of Try.underlying59 h hz 3 _ rfl (opens_text Try.underlying9) c_str
  obtain ⟨a4, h4, w4⟩ := field_of Try.underlying59 h hz 4 _ rfl opens_strs c_strs
  obtain ⟨a5, h5, w5⟩ := field_of Try.underlying59 h hz 5 _ rfl (opens_boolC Try.underlying4) c_bool
  obtain ⟨a6, h6, w6⟩ := field_of Try.underlying59 h hz 6 _ rfl (opens_i64 Try.underlying3) c_int
  refine ⟨⟨a0, a1, a2, a3, a4, a5, a6⟩, ?_, ⟨w0, w1, w2, w3, Row.ok.rds w4, w6⟩⟩
  match cs, hl with
  | [x0, x1, x2, x3, x4, x5, x6], _ =>
    simp [Cel.cells, Row.v] at h0 h1 h2 h3 h4 h5 h6
    simp [Cel.cells, h0, h1, h2, h3, h4, h5, h6]
theorem opens_pks : Opens Try.prog 50 (Row Pk) := opens_row Try.underlying50 c_pk (by kernel_rfl) opens_pk
/-- A query. -/
structure Qr where
  ps : Row Pk
abbrev Qr.cs (q : Qr) : Array Value := #[.slice q.ps.A q.ps.n q.ps.c]
abbrev Qr.rd (w : World) (q : Qr) : Prop := q.ps.rd w
abbrev Qr.con (q : Qr) : List PC := q.ps.l.map Pk.con
theorem qr_one (q : Qr) : q.cs.all (·.oneCell') = true := by simp [Value.oneCell']
set_option maxRecDepth 100000 in
theorem open_qr {H : Type} {enc : TypeId × Value → H} {w : World} {base b0 : Nat} {spare : Nat → Bool} {held : Bool} {r : Reach} {v : Value} {d : DataW H} {p : List MemPlace}
    (hv : Value.okWide Try.prog w r b0 52 v) (h : DataW.Trod enc Try.prog w base spare held 52 v d p) (hz : Sized Try.prog 52 d) : ∃ q : Qr, v = .agg q.cs ∧ q.rd w := by
  obtain ⟨cs, rfl, _⟩ := okWide_struct Try.underlying52 hv
  obtain ⟨fuel, hf⟩ := h
  have hl := struct_len Try.underlying52 hf c_qry
  obtain ⟨a, ha, wa⟩ := field_of Try.underlying52 hf hz 0 _ rfl opens_pks c_pks
  refine ⟨⟨a⟩, ?_, Row.ok.rds wa⟩
  simp only [Value.cells] at ha hl
  obtain ⟨cl⟩ := cs
  match cl, hl with
  | [x0], _ =>
    simp [Cel.cells, Row.v] at ha
    simp [ha]
theorem Row.rd.pkAt {w : World} {x : Row Pk} (h : x.rd w) {k : Nat} (hk : k < x.n) : ∃ b o t, x.A = some ⟨b, o, none⟩ ∧ b < w.heap.size ∧ x.l[k]? = some t ∧ t.rd w ∧ w.rangeAt b (o + k * 7) t.cs.toList := by
  obtain ⟨b, o, t, e, hb, ht, hc⟩ := rd_range h.r hk
  exact ⟨b, o, t, e, hb, ht, h.all t (List.mem_of_getElem? ht), hc⟩

end Go.Proofs.Ytelnhhbefdfeoaa
