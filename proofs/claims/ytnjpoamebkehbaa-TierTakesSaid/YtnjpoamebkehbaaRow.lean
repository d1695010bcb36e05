/- Rows of whatever elements: a slice, its elements' cells, and what is asked of each; opened by the type's shape. -/
import Derived.Test.YtnjpoamebkehbaaOpen
import Derived.Test.YtnjpoamebkehbaaExactW
namespace Go.Proofs.Ytnjpoamebkehbaa
open Go.RowKit Go.ChangeShapes Go.WideShapes Go.Deep
set_option linter.unusedVariables false

/-- How a datum lies in memory: its cells, and what must be so in the world. -/
class Cel (α : Type) where
  size : Nat
  bytes : Nat
  cells : α → List Value
  ok : World → α → Prop
  len : ∀ a, (cells a).length = size
  pos : 0 < size
  mono : ∀ {w w' : World} {a : α}, Bel w w' → ok w a → ok w' a

/-- A slice. -/
structure Row (α : Type) where
  A : Option Addr
  n : Nat
  c : Nat
  l : List α
def Row.v {α : Type} (x : Row α) : Value := .slice x.A x.n x.c
structure Row.ok {α : Type} [Cel α] (w : World) (x : Row α) : Prop where
  rd : Rd w (Cel.size α) x.A x.n (x.l.flatMap Cel.cells)
  all : ∀ a ∈ x.l, Cel.ok w a
  le : x.n ≤ x.c
  cap : x.c ≤ maxLen
  reach : x.n * Cel.bytes α ≤ 140737488351232

section
variable {α : Type} [Cel α] {w w' : World} {x : Row α}
theorem Row.ok.mono (h : x.ok w) (hb : Bel w w') : x.ok w' := ⟨h.rd.bel hb, fun a ha => Cel.mono hb (h.all a ha), h.le, h.cap, h.reach⟩
theorem cells_len (l : List α) : (l.flatMap Cel.cells).length = l.length * Cel.size α := by
  induction l with
  | nil => simp
  | cons a m ih => rw [List.flatMap_cons, List.length_append, ih, Cel.len, List.length_cons, Nat.add_mul]; omega
theorem cells_get (l : List α) (k j : Nat) (a : α) (h : l[k]? = some a) (hj : j < Cel.size α) : (l.flatMap Cel.cells)[k * Cel.size α + j]? = (Cel.cells a)[j]? := by
  induction l generalizing k with
  | nil => simp at h
  | cons b m ih =>
    rw [List.flatMap_cons]
    cases k with
    | zero =>
      simp at h
      subst h
      rw [Nat.zero_mul, Nat.zero_add, List.getElem?_append_left (by rw [Cel.len]; exact hj)]
    | succ k =>
      simp at h
      rw [List.getElem?_append_right (by rw [Cel.len, Nat.add_mul]; omega), Cel.len, ← ih k h]
      congr 1
      rw [Nat.add_mul]
      omega
theorem rd_len {A : Option Addr} {n : Nat} {l : List α} (h : Rd w (Cel.size α) A n (l.flatMap Cel.cells)) : l.length = n := by
  have := h.1
  rw [cells_len] at this
  exact Nat.eq_of_mul_eq_mul_right Cel.pos this
theorem Row.ok.len (h : x.ok w) : x.l.length = x.n := rd_len h.rd
theorem Row.ok.size (h : x.ok w) : x.n ≤ 9223372036854775807 := by have := h.le; have := h.cap; unfold maxLen at this; omega

/-- An element of a row: where it lies. -/
theorem rd_at {A : Option Addr} {n k : Nat} {l : List α} (h : Rd w (Cel.size α) A n (l.flatMap Cel.cells)) (hk : k < n) :
    ∃ b o a, A = some ⟨b, o, none⟩ ∧ b < w.heap.size ∧ l[k]? = some a ∧ ∀ j u, (Cel.cells a)[j]? = some u → w.cell? ⟨b, o + k * Cel.size α + j, none⟩ = some u := by
  have hl := rd_len h
  obtain ⟨ad, e, hb, hc⟩ := h.2 (by omega)
  have hp : 0 < Cel.size α := Cel.pos
  have h0 : w.cell? (ad.add 0) = some (((l.flatMap Cel.cells))[0]'(by rw [cells_len, hl]; exact Nat.mul_pos (by omega) hp)) := hc 0 _ (List.getElem?_eq_getElem _)
  have hs := spot_of h0
  refine ⟨ad.block, ad.off, l[k]'(by omega), by rw [e, ← hs], hb, List.getElem?_eq_getElem _, fun j u hu => ?_⟩
  have hj : j < Cel.size α := by
    rcases Nat.lt_or_ge j (Cel.size α) with h' | h'
    · exact h'
    · rw [List.getElem?_eq_none (by rw [Cel.len]; exact h')] at hu; cases hu
  have := hc (k * Cel.size α + j) u (by rw [cells_get l k j _ (List.getElem?_eq_getElem (by omega)) hj]; exact hu)
  rw [hs, Addr.add_mid] at this
  rw [Nat.add_assoc]
  exact this
theorem Row.ok.at_ (h : x.ok w) {k : Nat} (hk : k < x.n) :
    ∃ b o a, x.A = some ⟨b, o, none⟩ ∧ x.l[k]? = some a ∧ Cel.ok w a ∧ ∀ j u, (Cel.cells a)[j]? = some u → w.cell? ⟨b, o + k * Cel.size α + j, none⟩ = some u := by
  obtain ⟨b, o, a, e, _, ha, hc⟩ := rd_at h.rd hk
  exact ⟨b, o, a, e, ha, h.all a (List.mem_of_getElem? ha), hc⟩
/-- An element of one cell. -/
theorem rd_at1 {A : Option Addr} {n k : Nat} {l : List α} (h1 : Cel.size α = 1) (h : Rd w (Cel.size α) A n (l.flatMap Cel.cells)) (hk : k < n) :
    ∃ ad a, A = some ad ∧ l[k]? = some a ∧ ∀ u, Cel.cells a = [u] → w.cell? (ad.add k) = some u := by
  obtain ⟨b, o, a, e, _, ha, hc⟩ := rd_at h hk
  refine ⟨_, a, e, ha, fun u hu => ?_⟩
  have := hc 0 u (by rw [hu]; rfl)
  rw [h1, Nat.mul_one] at this
  rw [Addr.add_mid]
  exact this

/-- Whatever is read as of this type encodes a datum. -/
def Opens (P : Program) (t : TypeId) (α : Type) [Cel α] : Prop := OpensTo P t (fun w cs (a : α) => cs = Cel.cells a ∧ Cel.ok w a)

instance instCelRow : Cel (Row α) where
  size := 1
  bytes := 24
  cells x := [x.v]
  ok w x := x.ok w
  len _ := rfl
  pos := Nat.zero_lt_one
  mono hb h := h.mono hb

theorem opens_row {P : Program} {t e : TypeId} (ht : P.underlying t = some (.slice e)) (hC : P.cellsOf e = Cel.size α) (hby : P.bytesOf e = Cel.bytes α) (he : Opens P e α) : Opens P t (Row α) := by
  intro H enc w base spare held fuel cs x h hz
  obtain ⟨l, A, n, c, hcs, hS⟩ := opens_slice ht hC hby Cel.pos he h hz
  refine ⟨⟨A, n, c, l⟩, hcs, ⟨⟨by rw [cells_len, hS.len], fun hn => ?_⟩, fun a ha => ?_, hS.le, hS.cap, hS.reach⟩⟩
  · have hl := hS.len
    obtain ⟨b, o, cs0, e, hb, _, _, _⟩ := hS.at_ 0 (l[0]'(by simp only at hn; omega)) (List.getElem?_eq_getElem _)
    refine ⟨_, e, hb, fun j u hu => ?_⟩
    have hj : j < n * Cel.size α := by
      rcases Nat.lt_or_ge j (n * Cel.size α) with h' | h'
      · exact h'
      · rw [List.getElem?_eq_none (by rw [cells_len, hl]; omega)] at hu; cases hu
    have hk : j / Cel.size α < n := Nat.div_lt_of_lt_mul (by rw [Nat.mul_comm]; exact hj)
    have hjm : j / Cel.size α * Cel.size α + j % Cel.size α = j := by rw [Nat.mul_comm]; exact Nat.div_add_mod j _
    have hla : l[j / Cel.size α]? = some (l[j / Cel.size α]'(by omega)) := List.getElem?_eq_getElem (by omega)
    obtain ⟨b', o', cs', e', _, _, ⟨hcs, _⟩, hat⟩ := hS.at_ (j / Cel.size α) _ hla
    rw [e] at e'
    injection e' with e'
    injection e' with e1 e2
    subst e1 e2
    rw [← hjm, cells_get l _ _ _ hla (Nat.mod_lt _ Cel.pos), ← hcs] at hu
    have := hat _ _ hu
    rw [Addr.add_mid]
    rw [Nat.add_assoc, hjm] at this
    exact this
  · obtain ⟨i, hi, rfl⟩ := List.getElem_of_mem ha
    obtain ⟨_, _, _, _, _, _, ⟨_, ho⟩, _⟩ := hS.at_ i _ (List.getElem?_eq_getElem hi)
    exact ho
/-- A slice that came in. -/
theorem open_row {P : Program} {t e : TypeId} (ht : P.underlying t = some (.slice e)) (hC : P.cellsOf e = Cel.size α) (hby : P.bytesOf e = Cel.bytes α) (he : Opens P e α)
    {H : Type} {enc : TypeId × Value → H} {w : World} {base b0 : Nat} {spare : Nat → Bool} {held : Bool} {r : Reach} {v : Value} {d : DataW H} {p : List MemPlace}
    (hv : Value.okWide P w r b0 t v) (h : DataW.Trod enc P w base spare held t v d p) (hz : Sized P t d) : ∃ x : Row α, v = x.v ∧ x.ok w := by
  obtain ⟨a0, len0, cap0, rfl⟩ := okWide_slice ht hv
  obtain ⟨fuel, hf⟩ := h
  obtain ⟨x, hx, ho⟩ := opens_row ht hC hby he hf hz
  refine ⟨x, ?_, ho⟩
  simpa [Value.cells, Cel.cells] using hx
end

/-- A number of 64 bits; a text; a Bool. -/
instance instCelInt : Cel Int where
  size := 1
  bytes := 8
  cells n := [.int .i64 n]
  ok _ n := I64 n
  len _ := rfl
  pos := Nat.zero_lt_one
  mono _ h := h
instance instCelText : Cel (List UInt8) where
  size := 1
  bytes := 16
  cells l := [.string ⟨l.toArray⟩]
  ok _ l := l.length ≤ 140737488351232
  len _ := rfl
  pos := Nat.zero_lt_one
  mono _ h := h
instance instCelBool : Cel Bool where
  size := 1
  bytes := 1
  cells b := [.bool b]
  ok _ _ := True
  len _ := rfl
  pos := Nat.zero_lt_one
  mono _ h := h

theorem opens_i64 {P : Program} {t : TypeId} (ht : P.underlying t = some (.int .i64)) : Opens P t Int := by
  intro H enc w base spare held fuel cs x h hz
  obtain ⟨n, hc, hw⟩ := opens_int ht h hz
  exact ⟨n, hc, bounds_i64 hw⟩
theorem opens_text {P : Program} {t : TypeId} (ht : P.underlying t = some .string) : Opens P t (List UInt8) := opens_string ht
theorem opens_boolC {P : Program} {t : TypeId} (ht : P.underlying t = some .bool) : Opens P t Bool := by
  intro H enc w base spare held fuel cs x h hz
  obtain ⟨b, hc⟩ := opens_bool ht h hz
  exact ⟨b, hc, trivial⟩

theorem flat_ints (l : List Int) : l.flatMap Cel.cells = l.map (Value.int .i64) := flat_one _ l
theorem flat_texts (l : List (List UInt8)) : l.flatMap Cel.cells = l.map (fun t => Value.string ⟨t.toArray⟩) := flat_one _ l
theorem Row.ok.ints {w : World} {x : Row Int} (h : x.ok w) : Rd w 1 x.A x.n (x.l.map (Value.int .i64)) := by have := h.rd; rwa [flat_ints] at this
theorem Row.ok.texts {w : World} {x : Row (List UInt8)} (h : x.ok w) : Rd w 1 x.A x.n (x.l.map (fun t => Value.string ⟨t.toArray⟩)) := by have := h.rd; rwa [flat_texts] at this

end Go.Proofs.Ytnjpoamebkehbaa
