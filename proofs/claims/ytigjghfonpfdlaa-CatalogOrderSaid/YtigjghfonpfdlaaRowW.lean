/- Rows: how they lie in memory; schema.Row, and the document's. -/
import Derived.Test.YtigjghfonpfdlaaFindT
import Derived.Test.YtigjghfonpfdlaaSchX
namespace Go.Proofs.Ytigjghfonpfdlaa
open Go.RowKit Go.ChangeShapes Go.WideShapes Go.Deep
set_option linter.unusedVariables false
set_option linter.unusedSimpArgs false

/-- A row. -/
structure Rw where
  ts : Row (List UInt8)
  vs : Row Int
abbrev Rw.cs (r : Rw) : Array Value := #[.slice r.ts.A r.ts.n r.ts.c, .slice r.vs.A r.vs.n r.vs.c]
structure Rw.rd (w : World) (r : Rw) : Prop where
  ts : r.ts.rd w
  vs : r.vs.rd w
theorem Rw.rd.mono {w w' : World} {s : Rw} (h : s.rd w) (hb : Bel w w') : s.rd w' := ⟨h.ts.mono hb, h.vs.mono hb⟩
instance instCelRw : Cel Rw where
  size := 2
  bytes := 48
  cells s := s.cs.toList
  ok w s := s.rd w
  len _ := rfl
  pos := by omega
  mono hb h := h.mono hb
structure RC where
  ts : List (List UInt8)
  vs : List Int
deriving DecidableEq
abbrev Rw.con (r : Rw) : RC := ⟨r.ts.l, r.vs.l⟩
theorem rw_one (r : Rw) : r.cs.all (·.oneCell') = true := by simp [Value.oneCell']
theorem E_i64 : ElemInfo Try.prog 64 2 1 8 := ElemInfo.mk' (z := .int .i64 0) Try.underlying64 (by kernel_rfl) rfl (by omega)
set_option maxRecDepth 100000 in
theorem c_i64 : Try.prog.cellsOf 2 = 1 := by kernel_rfl
set_option maxRecDepth 100000 in
theorem c_i64s : Try.prog.cellsOf 64 = 1 := by kernel_rfl
theorem opens_i64s : Opens Try.prog 64 (Row Int) := opens_row Try.underlying64 c_i64 (by kernel_rfl) (opens_i64 Try.underlying2)
theorem Row.rd.rwAt {w : World} {x : Row Rw} (h : x.rd w) {k : Nat} (hk : k < x.n) : ∃ b o t, x.A = some ⟨b, o, none⟩ ∧ b < w.heap.size ∧ x.l[k]? = some t ∧ t.rd w ∧ w.rangeAt b (o + k * 2) t.cs.toList := by
  obtain ⟨b, o, t, e, hb, ht, hc⟩ := rd_range h.r hk
  exact ⟨b, o, t, e, hb, ht, h.all t (List.mem_of_getElem? ht), hc⟩
/-- The places of a row's members. -/
def rowKeys : List DC → List (List UInt8) → Except Int (List Int)
  | d :: ds, t :: ts =>
    match d.trs with
    | [] => .error 2
    | tr :: _ =>
      match posOf t tr.ts with
      | none => .error 13
      | some k =>
        match rowKeys ds ts with
        | .error e => .error e
        | .ok ks => .ok ((k : Int) :: ks)
  | _, _ => .ok []
def rowOf (s : SC) (r : RC) : Except Int (List Int) := if r.ts.length ≠ s.dims.length ∨ r.vs.length ≠ s.ms.length then .error 2 else rowKeys s.dims r.ts
def aheadK (acc : List Int) (o : Except Int (List Int)) : Except Int (List Int) := match o with | .error e => .error e | .ok ks => .ok (acc ++ ks)
theorem aheadK_nil (o : Except Int (List Int)) : aheadK [] o = o := by cases o <;> rfl
theorem aheadK_step {acc : List Int} {k : Int} {o : Except Int (List Int)} : aheadK acc (match o with | .error e => .error e | .ok ks => .ok (k :: ks)) = aheadK (acc ++ [k]) o := by cases o <;> simp [aheadK]
theorem rowKeys_drop {ds : List DC} {ts : List (List UInt8)} {k : Nat} {d : DC} {t : List UInt8} (hd : ds[k]? = some d) (ht : ts[k]? = some t) : rowKeys (ds.drop k) (ts.drop k) = match d.trs with | [] => .error 2 | tr :: _ => match posOf t tr.ts with | none => .error 13 | some p => match rowKeys (ds.drop (k + 1)) (ts.drop (k + 1)) with | .error e => .error e | .ok ks => .ok ((p : Int) :: ks) := by
  obtain ⟨h1, rfl⟩ := List.getElem?_eq_some_iff.1 hd
  obtain ⟨h2, rfl⟩ := List.getElem?_eq_some_iff.1 ht
  rw [List.drop_eq_getElem_cons h1, List.drop_eq_getElem_cons h2, rowKeys]
theorem rowKeys_drop0 {ds : List DC} {ts : List (List UInt8)} {k : Nat} {d : DC} {t : List UInt8} (hd : ds[k]? = some d) (ht : ts[k]? = some t) (h : d.trs = []) : rowKeys (ds.drop k) (ts.drop k) = .error 2 := by rw [rowKeys_drop hd ht, h]
theorem rowKeys_drop1 {ds : List DC} {ts : List (List UInt8)} {k : Nat} {d : DC} {t : List UInt8} {tr : TC} {r : List TC} (hd : ds[k]? = some d) (ht : ts[k]? = some t) (h : d.trs = tr :: r) : rowKeys (ds.drop k) (ts.drop k) = match posOf t tr.ts with | none => .error 13 | some p => match rowKeys (ds.drop (k + 1)) (ts.drop (k + 1)) with | .error e => .error e | .ok ks => .ok ((p : Int) :: ks) := by rw [rowKeys_drop hd ht, h]
/-- How Row ends. -/
def RowPost (o : Except Int (List Int)) (w : World) (e : Ending) (w' : World) : Prop :=
  match o with
  | .error k => e = .returned (.tuple #[.slice none 0 0, .int .i64 k]) ∧ Bel w w'
  | .ok ks => ∃ (A : Option Addr) (c : Nat), e = .returned (.tuple #[.slice A ks.length c, .int .i64 0]) ∧ Bel w w' ∧ w'.ownsRow w.heap.size 3 1 (.slice A ks.length c) ks.length (ks.map (Value.int .i64))

end Go.Proofs.Ytigjghfonpfdlaa
