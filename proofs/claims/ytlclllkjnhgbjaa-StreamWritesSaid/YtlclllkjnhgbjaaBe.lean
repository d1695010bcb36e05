/- Texts laid together: XTier XTierP XTierW XTierX XTierY XTierZ. -/
import Derived.Test.YtlclllkjnhgbjaaBb
import Derived.Test.YtlclllkjnhgbjaaBc
import Derived.Test.YtlclllkjnhgbjaaBd
import Derived.Maps.OwnSet
import Derived.Maps.OwnOps

namespace Go.Proofs.Ytlclllkjnhgbjaa
open Go.RowKit Go.ChangeShapes Go.WideShapes Go.Deep
set_option linter.unusedVariables false
/-- What Few tells of a schema. -/
def FewPost (P : Prop) (w : World) (e : Ending) (w' : World) : Prop := ∃ b : Bool, e = .returned (.bool b) ∧ (b = true → P) ∧ Bel w w'

/-- A slice, as it is read alone. -/
structure Row.rd {α : Type} [Cel α] (w : World) (x : Row α) : Prop where
  r : Rd w (Cel.size α) x.A x.n (x.l.flatMap Cel.cells)
  all : ∀ a ∈ x.l, Cel.ok w a
  n63 : x.n ≤ 9223372036854775807
section
variable {α : Type} [Cel α] {w w' : World} {x : Row α}
theorem Row.ok.rds (h : x.ok w) : x.rd w := ⟨h.rd, h.all, h.size⟩
theorem Row.rd.mono (h : x.rd w) (hb : Bel w w') : x.rd w' := ⟨h.r.bel hb, fun a ha => Cel.mono hb (h.all a ha), h.n63⟩
theorem Row.rd.len (h : x.rd w) : x.l.length = x.n := rd_len h.r
theorem Row.rd.texts {w : World} {x : Row (List UInt8)} (h : x.rd w) : Rd w 1 x.A x.n (x.l.map tx) := by have := h.r; rwa [flat_texts] at this
theorem Row.rd.ints {w : World} {x : Row Int} (h : x.rd w) : Rd w 1 x.A x.n (x.l.map (Value.int .i64)) := by have := h.r; rwa [flat_ints] at this
end

/-- A tier. -/
structure Tir where
  nm : List UInt8
  ts : Row (List UInt8)
  up : Row Int
abbrev Tir.cs (t : Tir) : Array Value := #[.string ⟨t.nm.toArray⟩, .slice t.ts.A t.ts.n t.ts.c, .slice t.up.A t.up.n t.up.c]
structure Tir.rd (w : World) (t : Tir) : Prop where
  nm : t.nm.length ≤ 140737488351232
  ts : t.ts.rd w
  up : t.up.rd w
theorem Tir.rd.mono {w w' : World} {t : Tir} (h : t.rd w) (hb : Bel w w') : t.rd w' := ⟨h.nm, h.ts.mono hb, h.up.mono hb⟩
instance instCelTir : Cel Tir where
  size := 3
  bytes := 64
  cells t := t.cs.toList
  ok w t := t.rd w
  len _ := rfl
  pos := by omega
  mono hb h := h.mono hb
/-- A dimension. -/
structure Dm where
  nm : List UInt8
  tr : Row Tir
abbrev Dm.cs (d : Dm) : Array Value := #[.string ⟨d.nm.toArray⟩, .slice d.tr.A d.tr.n d.tr.c]
structure Dm.rd (w : World) (d : Dm) : Prop where
  nm : d.nm.length ≤ 140737488351232
  tr : d.tr.rd w
theorem Dm.rd.mono {w w' : World} {d : Dm} (h : d.rd w) (hb : Bel w w') : d.rd w' := ⟨h.nm, h.tr.mono hb⟩
instance instCelDm : Cel Dm where
  size := 2
  bytes := 40
  cells d := d.cs.toList
  ok w d := d.rd w
  len _ := rfl
  pos := by omega
  mono hb h := h.mono hb
theorem E_num : ElemInfo Try.prog 59 3 1 8 := ElemInfo.mk' (z := .int .i64 0) Try.underlying59 (by kernel_rfl) rfl (by omega)

set_option maxRecDepth 100000 in
theorem c_int : Try.prog.cellsOf 3 = 1 := by kernel_rfl
set_option maxRecDepth 100000 in
theorem c_ints : Try.prog.cellsOf 59 = 1 := by kernel_rfl
theorem opens_nums : Opens Try.prog 59 (Row Int) := opens_row Try.underlying59 c_int (by kernel_rfl) (opens_i64 Try.underlying3)
theorem Row.rd.intAt {w : World} {x : Row Int} (h : x.rd w) {k : Nat} (hk : k < x.n) : ∃ b o z, x.A = some ⟨b, o, none⟩ ∧ x.l[k]? = some z ∧ I64 z ∧ w.cell? ⟨b, o + k, none⟩ = some (.int .i64 z) := by
  obtain ⟨b, o, z, e, hz, hc⟩ := rd_cell rfl h.r hk
  exact ⟨b, o, z, e, hz, h.all z (List.mem_of_getElem? hz), hc _ rfl⟩
end Go.Proofs.Ytlclllkjnhgbjaa

namespace Go.Proofs.Ytlclllkjnhgbjaa
open Go.RowKit
set_option linter.unusedVariables false
set_option linter.unusedSimpArgs false

/-- What a tier says. -/
structure TC where
  nm : List UInt8
  ts : List (List UInt8)
  up : List Int
deriving DecidableEq
/-- Do members stand under those above, each of which comes? -/
def treeOk (up : List Int) (members : Nat) (above : Int) : Bool :=
  if above ≤ 0 then up.isEmpty
  else decide (up.length = members) && up.all (fun n => decide (0 ≤ n ∧ n < above)) && (List.range above.toNat).all (fun i => up.contains (i : Int))
def tierErr (t : TC) (above : Int) : Int :=
  if isName t.nm then (if t.ts.length < 1 ∨ 200 < t.ts.length then 5 else if rowErr t.ts ≠ 0 then rowErr t.ts else if treeOk t.up t.ts.length above then 0 else 14) else 2
/-- So many numbers that are not above another one. -/
def pnums (most : Int) : Nat → List UInt8 → PR (List Int)
  | 0, l => .ok ([], l)
  | n + 1, l =>
    match pnum most l with
    | .error k => .error k
    | .ok (x, r) =>
      match pnums most n r with
      | .error k => .error k
      | .ok (xs, r) => .ok ((x : Int) :: xs, r)
def pups (above : Int) (n : Nat) (l : List UInt8) : PR (List Int) := if 0 < above then pnums (above - 1) n l else .ok ([], l)
/-- A tier is read, and asked whether it may be. -/
def ptierC (above : Int) (t : TC) (r : List UInt8) : PR TC := if tierErr t above = 0 then .ok (t, r) else .error (tierErr t above)
def ptier (above : Int) (l : List UInt8) : PR TC :=
  match ptxt 12 l with
  | .error k => .error k
  | .ok (nm, r) =>
    match tread 200 r with
    | .error k => .error k
    | .ok (ts, r) =>
      match pups above ts.length r with
      | .error k => .error k
      | .ok (up, r) => ptierC above ⟨nm, ts, up⟩ r

theorem tierErr_zero {t : TC} {above : Int} (h : tierErr t above = 0) : isName t.nm = true ∧ 1 ≤ t.ts.length ∧ t.ts.length ≤ 200 ∧ rowErr t.ts = 0 ∧ treeOk t.up t.ts.length above = true := by
  unfold tierErr at h
  split at h
  · rename_i h1
    split at h
    · cases h
    · rename_i h2
      split at h
      · rename_i h3; exact absurd h h3
      · rename_i h3
        split at h
        · rename_i h4
          exact ⟨h1, by omega, by omega, by omega, h4⟩
        · cases h
  · cases h
end Go.Proofs.Ytlclllkjnhgbjaa

namespace Go.Proofs.Ytlclllkjnhgbjaa
open Go.RowKit
set_option linter.unusedVariables false
set_option linter.unusedSimpArgs false

abbrev one1 : DataW Unit := .lit (.int .i64 1)
theorem wf64 {z : Int} (h : I64 z) : (Lit.int .i64 z).wf = true := by
  unfold I64 at h
  simp [Lit.wf, IntKind.min, IntKind.max, IntKind.signed, IntKind.bits]
  omega
theorem Rd.intC {w : World} {A : Option Addr} {n k : Nat} {zs : List Int} (h : Rd w 1 A n (zs.map (Value.int .i64))) (hk : k < n) : ∃ ad z, A = some ad ∧ zs[k]? = some z ∧ w.cell? (ad.add k) = some (.int .i64 z) := by
  obtain ⟨ad, u, e, _, hx, hc⟩ := Reads.at_ h hk
  rw [List.getElem?_map] at hx
  cases hz : zs[k]? with
  | none => rw [hz] at hx; cases hx
  | some z =>
    rw [hz] at hx
    simp at hx
    subst hx
    exact ⟨ad, z, e, rfl, hc⟩

/-- What a tier in memory says. -/
abbrev Tir.con (t : Tir) : TC := ⟨t.nm, t.ts.l, t.up.l⟩

end Go.Proofs.Ytlclllkjnhgbjaa

namespace Go.Proofs.Ytlclllkjnhgbjaa
open Go.RowKit
set_option linter.unusedVariables false
set_option linter.unusedSimpArgs false

end Go.Proofs.Ytlclllkjnhgbjaa

namespace Go.Proofs.Ytlclllkjnhgbjaa
open Go.RowKit
set_option linter.unusedVariables false
set_option linter.unusedSimpArgs false

end Go.Proofs.Ytlclllkjnhgbjaa

namespace Go.Proofs.Ytlclllkjnhgbjaa
open Go.RowKit
set_option linter.unusedVariables false
set_option linter.unusedSimpArgs false

theorem intsEq_step {xs ys : List Int} {k : Nat} {a b : Int} (ha : xs[k]? = some a) (hb : ys[k]? = some b) : (xs.drop k == ys.drop k) = ((a == b) && (xs.drop (k + 1) == ys.drop (k + 1))) := by
  obtain ⟨h1, rfl⟩ := List.getElem?_eq_some_iff.1 ha
  obtain ⟨h2, rfl⟩ := List.getElem?_eq_some_iff.1 hb
  rw [List.drop_eq_getElem_cons h1, List.drop_eq_getElem_cons h2]
  rfl
theorem beq_len {α : Type} [BEq α] [LawfulBEq α] {xs ys : List α} (h : xs.length ≠ ys.length) : (xs == ys) = false := by
  rw [beq_eq_false_iff_ne]
  intro e
  exact h (by rw [e])

end Go.Proofs.Ytlclllkjnhgbjaa
