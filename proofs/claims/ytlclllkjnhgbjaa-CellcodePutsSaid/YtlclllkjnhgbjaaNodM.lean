/- Cells and nodes: how they lie in memory. -/
import Derived.Test.YtlclllkjnhgbjaaShp
import Derived.Test.YtlclllkjnhgbjaaBg
namespace Go.Proofs.Ytlclllkjnhgbjaa
open Go.RowKit Go.ChangeShapes Go.WideShapes Go.Deep
set_option linter.unusedVariables false
set_option linter.unusedSimpArgs false


/-- A cell. -/
structure Cl where
  key : Int
  ch : Int
  ag : Ag
deriving DecidableEq
abbrev Cl.cs (c : Cl) : Array Value := #[.int .i64 c.key, .int .i64 c.ch, .int .i64 c.ag.c, .int .i64 c.ag.p.s, .int .i64 c.ag.p.mn, .int .i64 c.ag.p.mx, .int .i64 c.ag.q.s, .int .i64 c.ag.q.mn, .int .i64 c.ag.q.mx, .int .i64 c.ag.r.s, .int .i64 c.ag.r.mn, .int .i64 c.ag.r.mx]
structure Cl.ok (c : Cl) : Prop where
  key : I64 c.key
  ch : I64 c.ch
  ag : c.ag.ok
theorem cl_ag (c : Cl) : c.cs.toList = .int .i64 c.key :: .int .i64 c.ch :: c.ag.cs.toList := rfl
theorem cl_one (c : Cl) : c.cs.all (·.oneCell') = true := by simp [Value.oneCell']
instance instCelCl : Cel Cl where
  size := 12
  bytes := 96
  cells c := c.cs.toList
  ok w c := c.ok
  len _ := rfl
  pos := by omega
  mono _ h := h
abbrev Cl.nil : Cl := ⟨0, 0, .zero⟩
theorem z_i64 : I64 0 := by unfold I64; omega
theorem ag_zero_ok : Ag.zero.ok := ⟨z_i64, ⟨z_i64, z_i64, z_i64⟩, ⟨z_i64, z_i64, z_i64⟩, ⟨z_i64, z_i64, z_i64⟩⟩
theorem rowCl : RowTy Try.prog 32 12 := ⟨⟨_, Try.underlying32, rfl⟩, by kernel_rfl⟩
theorem E_cl : ElemInfo Try.prog 44 32 12 96 := ElemInfo.mk' (z := .agg #[.int .i64 0, .int .i64 0, .int .i64 0, .int .i64 0, .int .i64 0, .int .i64 0, .int .i64 0, .int .i64 0, .int .i64 0, .int .i64 0, .int .i64 0, .int .i64 0]) Try.underlying44 (by kernel_rfl) rfl (by omega)
theorem E_cls : ElemInfo Try.prog 25 44 1 24 := ElemInfo.mk' (z := .slice none 0 0) Try.underlying25 (by kernel_rfl) rfl (by omega)
set_option maxRecDepth 100000 in
theorem c_cl : Try.prog.cellsOf 32 = 12 := by kernel_rfl
set_option maxRecDepth 100000 in
theorem c_cls : Try.prog.cellsOf 44 = 1 := by kernel_rfl
set_option maxRecDepth 100000 in
theorem c_clss : Try.prog.cellsOf 25 = 1 := by kernel_rfl
set_option maxRecDepth 100000 in
theorem c_nd : Try.prog.cellsOf 34 = 14 := by kernel_rfl
theorem opens_cl : Opens Try.prog 32 Cl := by
  intro H enc w base spare held fuel cs x h hz
  have hl := struct_len Try.underlying32 h c_cl
  obtain ⟨k, hk, ok1⟩ := field_of Try.underlying32 h hz 0 _ rfl (opens_i64 Try.underlying3) c_int
  obtain ⟨c, hc, ok2⟩ := field_of Try.underlying32 h hz 1 _ rfl (opens_i64 Try.underlying3) c_int
  obtain ⟨a, ha, ok3⟩ := field_of Try.underlying32 h hz 2 _ rfl opens_agg cells_agg
  refine ⟨⟨k, c, a⟩, ?_, ⟨ok1, ok2, ok3⟩⟩
  show cs = .int .i64 k :: .int .i64 c :: a.cs.toList
  match cs, hl with
  | x :: y :: r, hl =>
    have h1 : x = .int .i64 k := by simpa [Cel.cells] using hk
    have h2 : y = .int .i64 c := by simpa [Cel.cells] using hc
    have h3 : r = a.cs.toList := by
      have ha' : r.take 10 = a.cs.toList := ha
      rw [List.take_of_length_le (by simp at hl; omega)] at ha'
      exact ha'
    subst h1 h2 h3
    rfl
theorem opens_cls : Opens Try.prog 44 (Row Cl) := opens_row Try.underlying44 c_cl (by kernel_rfl) opens_cl
theorem opens_clss : Opens Try.prog 25 (Row (Row Cl)) := opens_row Try.underlying25 c_cls (by kernel_rfl) opens_cls
/-- A node. -/
structure Nd where
  dim : Int
  ls : Row (Row Cl)
  all : Cl
abbrev Nd.cs (n : Nd) : Array Value := #[.int .i64 n.dim, .slice n.ls.A n.ls.n n.ls.c, .int .i64 n.all.key, .int .i64 n.all.ch, .int .i64 n.all.ag.c, .int .i64 n.all.ag.p.s, .int .i64 n.all.ag.p.mn, .int .i64 n.all.ag.p.mx, .int .i64 n.all.ag.q.s, .int .i64 n.all.ag.q.mn, .int .i64 n.all.ag.q.mx, .int .i64 n.all.ag.r.s, .int .i64 n.all.ag.r.mn, .int .i64 n.all.ag.r.mx]
structure Nd.rd (w : World) (n : Nd) : Prop where
  dim : I64 n.dim
  ls : n.ls.rd w
  all : n.all.ok
  lb : n.ls.n ≤ 140737488351232
theorem Nd.rd.mono {w w' : World} {n : Nd} (h : n.rd w) (hb : Bel w w') : n.rd w' := ⟨h.dim, h.ls.mono hb, h.all, h.lb⟩
theorem nd_all (n : Nd) : n.cs.toList = .int .i64 n.dim :: .slice n.ls.A n.ls.n n.ls.c :: n.all.cs.toList := rfl
theorem nd_one (n : Nd) : n.cs.all (·.oneCell') = true := by simp [Value.oneCell']
instance instCelNd : Cel Nd where
  size := 14
  bytes := 128
  cells n := n.cs.toList
  ok w n := n.rd w
  len _ := rfl
  pos := by omega
  mono hb h := h.mono hb
/-- What it says. -/
structure NC where
  dim : Int
  ls : List (List Cl)
  all : Cl
deriving DecidableEq
abbrev Nd.con (n : Nd) : NC := ⟨n.dim, n.ls.l.map Row.l, n.all⟩
abbrev Nd.nil : Nd := ⟨0, ⟨none, 0, 0, []⟩, .nil⟩
abbrev NC.nil : NC := ⟨0, [], .nil⟩
theorem rowNd : RowTy Try.prog 34 14 := ⟨⟨_, Try.underlying34, rfl⟩, by kernel_rfl⟩
theorem E_nd : ElemInfo Try.prog 37 34 14 128 := ElemInfo.mk' (z := .agg #[.int .i64 0, .slice none 0 0, .int .i64 0, .int .i64 0, .int .i64 0, .int .i64 0, .int .i64 0, .int .i64 0, .int .i64 0, .int .i64 0, .int .i64 0, .int .i64 0, .int .i64 0, .int .i64 0]) Try.underlying37 (by kernel_rfl) rfl (by omega)
theorem opens_nd : Opens Try.prog 34 Nd := by
  intro H enc w base spare held fuel cs x h hz
  have hl := struct_len Try.underlying34 h c_nd
  obtain ⟨k, hk, ok1⟩ := field_of Try.underlying34 h hz 0 _ rfl (opens_i64 Try.underlying3) c_int
  obtain ⟨c, hc, ok2⟩ := field_of Try.underlying34 h hz 1 _ rfl opens_clss c_clss
  obtain ⟨a, ha, ok3⟩ := field_of Try.underlying34 h hz 2 _ rfl opens_cl c_cl
  refine ⟨⟨k, c, a⟩, ?_, ⟨ok1, Row.ok.rds ok2, ok3, by have h := ok2.reach; have e : Cel.bytes (Row Cl) = 24 := rfl; rw [e] at h; simp only; omega⟩⟩
  show cs = .int .i64 k :: .slice c.A c.n c.c :: a.cs.toList
  match cs, hl with
  | x :: y :: r, hl =>
    have h1 : x = .int .i64 k := by simpa [Cel.cells] using hk
    have h2 : y = .slice c.A c.n c.c := by simpa [Cel.cells, Row.v] using hc
    have h3 : r = a.cs.toList := by
      have ha' : r.take 12 = a.cs.toList := ha
      rw [List.take_of_length_le (by simp at hl; omega)] at ha'
      exact ha'
    subst h1 h2 h3
    rfl
set_option maxRecDepth 100000 in
theorem open_nds {H : Type} {enc : TypeId × Value → H} {w : World} {base b0 : Nat} {spare : Nat → Bool} {held : Bool} {r : Reach} {v : Value} {d : DataW H} {p : List MemPlace}
    (hv : Value.okWide Try.prog w r b0 37 v) (h : DataW.Trod enc Try.prog w base spare held 37 v d p) (hz : Sized Try.prog 37 d) : ∃ x : Row Nd, v = x.v ∧ x.ok w := open_row Try.underlying37 c_nd (by kernel_rfl) opens_nd hv h hz
set_option maxRecDepth 100000 in
theorem open_nd {H : Type} {enc : TypeId × Value → H} {w : World} {base b0 : Nat} {spare : Nat → Bool} {held : Bool} {r : Reach} {v : Value} {d : DataW H} {p : List MemPlace}
    (hv : Value.okWide Try.prog w r b0 34 v) (h : DataW.Trod enc Try.prog w base spare held 34 v d p) (hz : Sized Try.prog 34 d) : ∃ x : Nd, v = .agg x.cs ∧ x.rd w := by
  obtain ⟨cs, rfl, _⟩ := okWide_struct Try.underlying34 hv
  obtain ⟨fuel, hf⟩ := h
  obtain ⟨x, hx, ho⟩ := opens_nd hf hz
  refine ⟨x, ?_, ho⟩
  have hx : cs.toList = x.cs.toList := by simpa [Value.cells, Cel.cells] using hx
  rw [← Array.toList_inj.1 hx]
theorem Row.rd.ndAt {w : World} {x : Row Nd} (h : x.rd w) {k : Nat} (hk : k < x.n) : ∃ b o t, x.A = some ⟨b, o, none⟩ ∧ b < w.heap.size ∧ x.l[k]? = some t ∧ t.rd w ∧ w.rangeAt b (o + k * 14) t.cs.toList := by
  obtain ⟨b, o, t, e, hb, ht, hc⟩ := rd_range h.r hk
  exact ⟨b, o, t, e, hb, ht, h.all t (List.mem_of_getElem? ht), hc⟩
theorem Row.rd.clAt {w : World} {x : Row Cl} (h : x.rd w) {k : Nat} (hk : k < x.n) : ∃ b o t, x.A = some ⟨b, o, none⟩ ∧ b < w.heap.size ∧ x.l[k]? = some t ∧ t.ok ∧ w.rangeAt b (o + k * 12) t.cs.toList := by
  obtain ⟨b, o, t, e, hb, ht, hc⟩ := rd_range h.r hk
  exact ⟨b, o, t, e, hb, ht, h.all t (List.mem_of_getElem? ht), hc⟩
theorem Row.rd.clsAt {w : World} {x : Row (Row Cl)} (h : x.rd w) {k : Nat} (hk : k < x.n) : ∃ b o y, x.A = some ⟨b, o, none⟩ ∧ x.l[k]? = some y ∧ y.ok w ∧ w.cell? ⟨b, o + k, none⟩ = some (.slice y.A y.n y.c) := by
  obtain ⟨b, o, y, e, hy, hc⟩ := rd_cell rfl h.r hk
  exact ⟨b, o, y, e, hy, h.all y (List.mem_of_getElem? hy), hc _ rfl⟩
theorem rdCls {x : Row Cl} {w : World} (h : x.ok w) : x.n ≤ 1466015503700 := by have := h.reach; have e : Cel.bytes Cl = 96 := rfl; rw [e] at this; omega

end Go.Proofs.Ytlclllkjnhgbjaa
