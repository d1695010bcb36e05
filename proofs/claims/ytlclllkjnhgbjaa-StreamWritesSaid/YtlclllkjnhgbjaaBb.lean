/- Texts laid together: XOp XOpen XExactW XRow XMemB XApart XBuild XEq XTail XGet XPair XStep. -/
import Derived.Test.YtlclllkjnhgbjaaBa
import Derived.ProofKit
import Derived.OpenShut
import Derived.Deep.Slices
import Derived.SizedLaws
import Derived.StillTail
import Derived.Deep.RegionHeld3

namespace Go.Proofs.Ytlclllkjnhgbjaa
open Go.RowKit Go.ChangeShapes Go.WideShapes
set_option linter.unusedVariables false

/-- A slice of integers. -/
structure IntSl where
  A : Option Addr
  n : Nat
  c : Nat
  zs : List Int
def IntSl.v (x : IntSl) : Value := .slice x.A x.n x.c
/-- It reads as its numbers, which are of its kind. -/
structure IntSl.ok (k : IntKind) (w : World) (x : IntSl) : Prop where
  rd : Rd w 1 x.A x.n (x.zs.map (Value.int k))
  wf : ∀ z ∈ x.zs, (Lit.int k z).wf = true
  le : x.n ≤ x.c
  cap : x.c ≤ maxLen

section
variable {H : Type} {enc : TypeId × Value → H} {P : Program} {w : World} {base b0 : Nat} {spare : Nat → Bool} {held : Bool} {r : Reach}
end

end Go.Proofs.Ytlclllkjnhgbjaa

namespace Go.Proofs.Ytlclllkjnhgbjaa
open Go.RowKit Go.ChangeShapes Go.WideShapes Go.Deep
set_option linter.unusedVariables false

theorem spot_of {w : World} {ad : Addr} {u : Value} (h : w.cell? (ad.add 0) = some u) : ad = ⟨ad.block, ad.off, none⟩ := by
  obtain ⟨b, o, sp⟩ := ad
  have h1 := World.cell?_spot h
  simp [Addr.add] at h1
  subst h1
  rfl

/-- A datum within the form's reach. -/
def Sized {H : Type} (P : Program) (t : TypeId) (d : DataW H) : Prop := ∀ n ∈ d.weights P t, n ≤ 140737488351232
theorem sized_all {H : Type} {P : Program} {e : TypeId} : ∀ {l : List (DataW H)} {d : DataW H}, d ∈ l → ∀ n ∈ d.weights P e, n ∈ DataW.weightsAll P e l
  | a :: l, d, hd, n, hn => by
    rw [DataW.weightsAll, List.mem_append]
    rcases List.mem_cons.1 hd with rfl | h
    · exact .inl hn
    · exact .inr (sized_all h n hn)
theorem Sized.arg {H : Type} {P : Program} {ts : List TypeId} {ds : List (DataW H)} (h : (DataW.weightsEach P ts ds).all (· ≤ reachBytes) = true) {j : Nat} {t : TypeId} {d : DataW H} (ht : ts[j]? = some t) (hd : ds[j]? = some d) : Sized P t d := fun n hn => by
  have := List.all_eq_true.1 h _ (DataW.weights_mem_each ht hd n hn)
  exact of_decide_eq_true this

/-- Whatever is read as of this type encodes a value: the cells, in that world. -/
def OpensTo (P : Program) (t : TypeId) {α : Type} (E : World → List Value → α → Prop) : Prop :=
  ∀ {H : Type} {enc : TypeId × Value → H} {w : World} {base : Nat} {spare : Nat → Bool} {held : Bool} {fuel : Nat} {cs : List Value} {x : DataW H × List MemPlace},
    DataW.trod enc P w base spare held fuel t cs = some x → Sized P t x.1 → ∃ y : α, E w cs y

theorem exists_list {α : Type} {n : Nat} {p : Nat → α → Prop} (h : ∀ i, i < n → ∃ a, p i a) : ∃ l : List α, l.length = n ∧ ∀ i a, l[i]? = some a → p i a := by
  induction n with
  | zero => exact ⟨[], rfl, by simp⟩
  | succ n ih =>
    obtain ⟨l, hl, hp⟩ := ih fun i hi => h i (by omega)
    obtain ⟨a, ha⟩ := h n (by omega)
    refine ⟨l ++ [a], by simp [hl], fun i b hb => ?_⟩
    rcases Nat.lt_or_ge i l.length with h1 | h1
    · rw [List.getElem?_append_left h1] at hb
      exact hp i b hb
    · rw [List.getElem?_append_right h1] at hb
      have : i = n := by
        have : i - l.length < [a].length := by
          rcases Nat.lt_or_ge (i - l.length) [a].length with h2 | h2
          · exact h2
          · rw [List.getElem?_eq_none h2] at hb; cases hb
        simp at this
        omega
      subst this
      rw [hl] at hb
      simp at hb
      subst hb
      exact ha

section
variable {P : Program}
theorem opens_int {t : TypeId} {k : IntKind} (ht : P.underlying t = some (.int k)) : OpensTo P t (fun _ cs (n : Int) => cs = [.int k n] ∧ (Lit.int k n).wf = true) := by
  intro H enc w base spare held fuel cs x h hz
  obtain ⟨n, hc, _, hw⟩ := DataW.trod_int ht h
  exact ⟨n, hc, hw⟩

/-- A slice whose elements encode values: cells, of so many an element. -/
structure SlOf (w : World) (size bytes : Nat) {α : Type} (E : World → List Value → α → Prop) (A : Option Addr) (n c : Nat) (l : List α) : Prop where
  len : l.length = n
  le : n ≤ c
  cap : c ≤ maxLen
  reach : n * bytes ≤ 140737488351232
  at_ : ∀ i a, l[i]? = some a → ∃ b o cs, A = some ⟨b, o, none⟩ ∧ b < w.heap.size ∧ cs.length = size ∧ E w cs a ∧ ∀ j u, cs[j]? = some u → w.cell? ⟨b, o + i * size + j, none⟩ = some u

theorem opens_slice {t e : TypeId} {size bytes : Nat} {α : Type} {E : World → List Value → α → Prop} (ht : P.underlying t = some (.slice e)) (hC : P.cellsOf e = size) (hby : P.bytesOf e = bytes) (hs : 0 < size) (he : OpensTo P e E) :
    OpensTo P t (fun w cs (l : List α) => ∃ A n c, cs = [.slice A n c] ∧ SlOf w size bytes E A n c l) := by
  intro H enc w base spare held fuel cs x h hz
  rcases open_slice ht h with ⟨hcs, _⟩ | ⟨a, len, cap, m, n, D, Pl, hcs, hb, hl, hm, hmm, hxe, hi⟩
  · exact ⟨[], none, 0, 0, hcs, ⟨rfl, Nat.le_refl _, Nat.zero_le _, by simp, by simp⟩⟩
  · have hlm : len ≤ m := by rw [hmm]; split <;> omega
    have hz2 : Sized P t (.slice ((List.range len).map D) ((List.range (m - len)).map fun j => D (len + j))) := by rw [hxe] at hz; exact hz
    have hrb : len * bytes ≤ 140737488351232 := by
      have h1 := hz2 ((((List.range len).map D).length + ((List.range (m - len)).map fun j => D (len + j)).length) * P.bytesOf e) (by simp only [DataW.weights, ht]; exact List.mem_cons_self)
      simp only [List.length_map, List.length_range, hby] at h1
      exact Nat.le_trans (Nat.mul_le_mul_right _ (by omega)) h1
    have hze : ∀ i, i < len → Sized P e (D i) := fun i hi n hn => hz2 n (by
      simp only [DataW.weights, ht]
      exact List.mem_cons_of_mem _ (List.mem_append_left _ (sized_all (List.mem_map.2 ⟨i, List.mem_range.2 hi, rfl⟩) n hn)))
    have key : ∀ i, i < len → ∃ y : α, ∃ cs', cs'.length = size ∧ E w cs' y ∧ ∀ j u, cs'[j]? = some u → w.cell? ((a.add (i * size)).add j) = some u := by
      intro i hil
      obtain ⟨cs', hc, ht'⟩ := hi i (by omega)
      rw [hC] at hc
      obtain ⟨_, hcl, hat⟩ := World.cells?_some hc
      obtain ⟨y, hy⟩ := he ht' (hze i hil)
      refine ⟨y, cs', hcl, hy, fun j u hu => ?_⟩
      have hj : j < size := by
        rcases Nat.lt_or_ge j size with h' | h'
        · exact h'
        · rw [List.getElem?_eq_none (by omega)] at hu; cases hu
      rw [hat j hj]
      exact hu
    obtain ⟨l, hll, hlp⟩ := exists_list key
    refine ⟨l, some a, len, cap, hcs, ⟨hll, hl, hm, hrb, fun i y hy => ?_⟩⟩
    have hil : i < len := by
      rcases Nat.lt_or_ge i len with h' | h'
      · exact h'
      · rw [List.getElem?_eq_none (by omega)] at hy; cases hy
    obtain ⟨cs', hcl, hE, hat⟩ := hlp i y hy
    obtain ⟨_, cs0, hcl0, _, hat0⟩ := key 0 (by omega)
    have h0 : w.cell? (a.add 0) = some (cs0[0]'(by omega)) := by
      have := hat0 0 _ (List.getElem?_eq_getElem (by omega))
      rw [Nat.zero_mul, add_of_add] at this
      exact this
    have hs0 := spot_of h0
    have hblk := World.block_lt_of_cell? _ _ h0
    rw [block_of_add] at hblk
    refine ⟨a.block, a.off, cs', by rw [← hs0], hblk, hcl, hE, fun j u hu => ?_⟩
    have := hat j u hu
    rw [add_of_add, hs0, Addr.add_mid] at this
    rw [Nat.add_assoc]
    exact this
theorem field_of {H : Type} {enc : TypeId × Value → H} {w : World} {base : Nat} {spare : Nat → Bool} {held : Bool} {fuel : Nat} {cs : List Value} {x : DataW H × List MemPlace} {t : TypeId} {fs : Array Field}
    (ht : P.underlying t = some (.struct fs)) (h : DataW.trod enc P w base spare held fuel t cs = some x) (hz : Sized P t x.1) {α : Type} {E : World → List Value → α → Prop} (i : Nat) (f : Field) (hf : fs[i]? = some f) (hE : OpensTo P f.type E) {size : Nat} (hC : P.cellsOf f.type = size) :
    ∃ y : α, E w ((cs.drop f.offset).take size) y := by
  obtain ⟨xs, n, _, hxe, _, hxl, hg⟩ := DataW.trod_struct ht h
  have h1 := hg i f hf
  have hi : i < fs.size := (Array.getElem?_eq_some_iff.1 hf).1
  rw [hC, List.getElem?_eq_getElem (by omega)] at h1
  refine hE h1 fun m hm => hz m ?_
  rw [hxe]
  simp only [DataW.weights, ht]
  exact DataW.weights_mem_each (j := i) (by rw [List.getElem?_map, Array.getElem?_toList, hf]; rfl) (by rw [List.getElem?_map, List.getElem?_eq_getElem (by omega)]; rfl) m hm
theorem struct_len {H : Type} {enc : TypeId × Value → H} {w : World} {base : Nat} {spare : Nat → Bool} {held : Bool} {fuel : Nat} {cs : List Value} {x : DataW H × List MemPlace} {t : TypeId} {fs : Array Field}
    (ht : P.underlying t = some (.struct fs)) (h : DataW.trod enc P w base spare held fuel t cs = some x) {size : Nat} (hC : P.cellsOf t = size) : cs.length = size := by
  obtain ⟨xs, n, _, _, hl, _, _⟩ := DataW.trod_struct ht h
  omega
theorem elem_of {H : Type} {enc : TypeId × Value → H} {w : World} {base : Nat} {spare : Nat → Bool} {held : Bool} {fuel : Nat} {cs : List Value} {x : DataW H × List MemPlace} {t e : TypeId} {n : Nat}
    (ht : P.underlying t = some (.array n e)) (h : DataW.trod enc P w base spare held fuel t cs = some x) (hz : Sized P t x.1) {α : Type} {E : World → List Value → α → Prop} (hE : OpensTo P e E) {size : Nat} (hC : P.cellsOf e = size) (i : Nat) (hi : i < n) :
    ∃ y : α, E w ((cs.drop (i * size)).take size) y := by
  obtain ⟨xs, m, _, hxe, _, hxl, hg⟩ := DataW.trod_array ht h
  have h1 := hg i hi
  rw [hC, List.getElem?_eq_getElem (by omega)] at h1
  refine hE h1 fun k hk => hz k ?_
  rw [hxe]
  simp only [DataW.weights, ht]
  exact sized_all (List.mem_map.2 ⟨_, List.getElem_mem (by omega), rfl⟩) k hk
end

theorem flat_one {α : Type} (f : α → Value) (l : List α) : (l.flatMap fun a => [f a]) = l.map f := by
  induction l with
  | nil => rfl
  | cons a l ih => rw [List.flatMap_cons, ih]; rfl

end Go.Proofs.Ytlclllkjnhgbjaa

namespace Go.Proofs.Ytlclllkjnhgbjaa
open Go.RowKit
set_option linter.unusedVariables false

/-- A number of int64. -/
def I64 (x : Int) : Prop := -9223372036854775808 ≤ x ∧ x ≤ 9223372036854775807
instance (x : Int) : Decidable (I64 x) := by unfold I64; infer_instance
/-- A sum that fits, or that it does not. -/
def xfit (x : Int) : Int × Bool := if I64 x then (x, true) else (0, false)
def xadd (a b : Int) : Int × Bool := xfit (a + b)

end Go.Proofs.Ytlclllkjnhgbjaa

namespace Go.Proofs.Ytlclllkjnhgbjaa
open Go.RowKit Go.ChangeShapes Go.WideShapes Go.Deep
set_option linter.unusedVariables false

/-- How a datum lies in memory: its cells, and what must be so in the world. -/
class Cel (α : Type) where
  size : Nat
  bytes : Nat
  cells : α → List Value
  ok : World → α → Prop
  len : ∀ a, (cells a).length = size
  pos : 0 < size
  mono : ∀ {w w' : World} {a : α}, Bel w w' → ok w a → ok w' a

/-- A slice. -/
structure Row (α : Type) where
  A : Option Addr
  n : Nat
  c : Nat
  l : List α
def Row.v {α : Type} (x : Row α) : Value := .slice x.A x.n x.c
structure Row.ok {α : Type} [Cel α] (w : World) (x : Row α) : Prop where
  rd : Rd w (Cel.size α) x.A x.n (x.l.flatMap Cel.cells)
  all : ∀ a ∈ x.l, Cel.ok w a
  le : x.n ≤ x.c
  cap : x.c ≤ maxLen
  reach : x.n * Cel.bytes α ≤ 140737488351232

section
variable {α : Type} [Cel α] {w w' : World} {x : Row α}
theorem Row.ok.mono (h : x.ok w) (hb : Bel w w') : x.ok w' := ⟨h.rd.bel hb, fun a ha => Cel.mono hb (h.all a ha), h.le, h.cap, h.reach⟩
theorem cells_len (l : List α) : (l.flatMap Cel.cells).length = l.length * Cel.size α := by
  induction l with
  | nil => simp
  | cons a m ih => rw [List.flatMap_cons, List.length_append, ih, Cel.len, List.length_cons, Nat.add_mul]; omega
theorem cells_get (l : List α) (k j : Nat) (a : α) (h : l[k]? = some a) (hj : j < Cel.size α) : (l.flatMap Cel.cells)[k * Cel.size α + j]? = (Cel.cells a)[j]? := by
  induction l generalizing k with
  | nil => simp at h
  | cons b m ih =>
    rw [List.flatMap_cons]
    cases k with
    | zero =>
      simp at h
      subst h
      rw [Nat.zero_mul, Nat.zero_add, List.getElem?_append_left (by rw [Cel.len]; exact hj)]
    | succ k =>
      simp at h
      rw [List.getElem?_append_right (by rw [Cel.len, Nat.add_mul]; omega), Cel.len, ← ih k h]
      congr 1
      rw [Nat.add_mul]
      omega
theorem rd_len {A : Option Addr} {n : Nat} {l : List α} (h : Rd w (Cel.size α) A n (l.flatMap Cel.cells)) : l.length = n := by
  have := h.1
  rw [cells_len] at this
  exact Nat.eq_of_mul_eq_mul_right Cel.pos this
theorem Row.ok.len (h : x.ok w) : x.l.length = x.n := rd_len h.rd
theorem Row.ok.size (h : x.ok w) : x.n ≤ 9223372036854775807 := by have := h.le; have := h.cap; unfold maxLen at this; omega

/-- An element of a row: where it lies. -/
theorem rd_at {A : Option Addr} {n k : Nat} {l : List α} (h : Rd w (Cel.size α) A n (l.flatMap Cel.cells)) (hk : k < n) :
    ∃ b o a, A = some ⟨b, o, none⟩ ∧ b < w.heap.size ∧ l[k]? = some a ∧ ∀ j u, (Cel.cells a)[j]? = some u → w.cell? ⟨b, o + k * Cel.size α + j, none⟩ = some u := by
  have hl := rd_len h
  obtain ⟨ad, e, hb, hc⟩ := h.2 (by omega)
  have hp : 0 < Cel.size α := Cel.pos
  have h0 : w.cell? (ad.add 0) = some (((l.flatMap Cel.cells))[0]'(by rw [cells_len, hl]; exact Nat.mul_pos (by omega) hp)) := hc 0 _ (List.getElem?_eq_getElem _)
  have hs := spot_of h0
  refine ⟨ad.block, ad.off, l[k]'(by omega), by rw [e, ← hs], hb, List.getElem?_eq_getElem _, fun j u hu => ?_⟩
  have hj : j < Cel.size α := by
    rcases Nat.lt_or_ge j (Cel.size α) with h' | h'
    · exact h'
    · rw [List.getElem?_eq_none (by rw [Cel.len]; exact h')] at hu; cases hu
  have := hc (k * Cel.size α + j) u (by rw [cells_get l k j _ (List.getElem?_eq_getElem (by omega)) hj]; exact hu)
  rw [hs, Addr.add_mid] at this
  rw [Nat.add_assoc]
  exact this
theorem Row.ok.at_ (h : x.ok w) {k : Nat} (hk : k < x.n) :
    ∃ b o a, x.A = some ⟨b, o, none⟩ ∧ x.l[k]? = some a ∧ Cel.ok w a ∧ ∀ j u, (Cel.cells a)[j]? = some u → w.cell? ⟨b, o + k * Cel.size α + j, none⟩ = some u := by
  obtain ⟨b, o, a, e, _, ha, hc⟩ := rd_at h.rd hk
  exact ⟨b, o, a, e, ha, h.all a (List.mem_of_getElem? ha), hc⟩
/-- Whatever is read as of this type encodes a datum. -/
def Opens (P : Program) (t : TypeId) (α : Type) [Cel α] : Prop := OpensTo P t (fun w cs (a : α) => cs = Cel.cells a ∧ Cel.ok w a)

instance instCelRow : Cel (Row α) where
  size := 1
  bytes := 24
  cells x := [x.v]
  ok w x := x.ok w
  len _ := rfl
  pos := Nat.zero_lt_one
  mono hb h := h.mono hb

theorem opens_row {P : Program} {t e : TypeId} (ht : P.underlying t = some (.slice e)) (hC : P.cellsOf e = Cel.size α) (hby : P.bytesOf e = Cel.bytes α) (he : Opens P e α) : Opens P t (Row α) := by
  intro H enc w base spare held fuel cs x h hz
  obtain ⟨l, A, n, c, hcs, hS⟩ := opens_slice ht hC hby Cel.pos he h hz
  refine ⟨⟨A, n, c, l⟩, hcs, ⟨⟨by rw [cells_len, hS.len], fun hn => ?_⟩, fun a ha => ?_, hS.le, hS.cap, hS.reach⟩⟩
  · have hl := hS.len
    obtain ⟨b, o, cs0, e, hb, _, _, _⟩ := hS.at_ 0 (l[0]'(by simp only at hn; omega)) (List.getElem?_eq_getElem _)
    refine ⟨_, e, hb, fun j u hu => ?_⟩
    have hj : j < n * Cel.size α := by
      rcases Nat.lt_or_ge j (n * Cel.size α) with h' | h'
      · exact h'
      · rw [List.getElem?_eq_none (by rw [cells_len, hl]; omega)] at hu; cases hu
    have hk : j / Cel.size α < n := Nat.div_lt_of_lt_mul (by rw [Nat.mul_comm]; exact hj)
    have hjm : j / Cel.size α * Cel.size α + j % Cel.size α = j := by rw [Nat.mul_comm]; exact Nat.div_add_mod j _
    have hla : l[j / Cel.size α]? = some (l[j / Cel.size α]'(by omega)) := List.getElem?_eq_getElem (by omega)
    obtain ⟨b', o', cs', e', _, _, ⟨hcs, _⟩, hat⟩ := hS.at_ (j / Cel.size α) _ hla
    rw [e] at e'
    injection e' with e'
    injection e' with e1 e2
    subst e1 e2
    rw [← hjm, cells_get l _ _ _ hla (Nat.mod_lt _ Cel.pos), ← hcs] at hu
    have := hat _ _ hu
    rw [Addr.add_mid]
    rw [Nat.add_assoc, hjm] at this
    exact this
  · obtain ⟨i, hi, rfl⟩ := List.getElem_of_mem ha
    obtain ⟨_, _, _, _, _, _, ⟨_, ho⟩, _⟩ := hS.at_ i _ (List.getElem?_eq_getElem hi)
    exact ho
/-- A slice that came in. -/
theorem open_row {P : Program} {t e : TypeId} (ht : P.underlying t = some (.slice e)) (hC : P.cellsOf e = Cel.size α) (hby : P.bytesOf e = Cel.bytes α) (he : Opens P e α)
    {H : Type} {enc : TypeId × Value → H} {w : World} {base b0 : Nat} {spare : Nat → Bool} {held : Bool} {r : Reach} {v : Value} {d : DataW H} {p : List MemPlace}
    (hv : Value.okWide P w r b0 t v) (h : DataW.Trod enc P w base spare held t v d p) (hz : Sized P t d) : ∃ x : Row α, v = x.v ∧ x.ok w := by
  obtain ⟨a0, len0, cap0, rfl⟩ := okWide_slice ht hv
  obtain ⟨fuel, hf⟩ := h
  obtain ⟨x, hx, ho⟩ := opens_row ht hC hby he hf hz
  refine ⟨x, ?_, ho⟩
  simpa [Value.cells, Cel.cells] using hx
end

/-- A number of 64 bits; a text; a Bool. -/
instance instCelInt : Cel Int where
  size := 1
  bytes := 8
  cells n := [.int .i64 n]
  ok _ n := I64 n
  len _ := rfl
  pos := Nat.zero_lt_one
  mono _ h := h
instance instCelText : Cel (List UInt8) where
  size := 1
  bytes := 16
  cells l := [.string ⟨l.toArray⟩]
  ok _ l := l.length ≤ 140737488351232
  len _ := rfl
  pos := Nat.zero_lt_one
  mono _ h := h
instance instCelBool : Cel Bool where
  size := 1
  bytes := 1
  cells b := [.bool b]
  ok _ _ := True
  len _ := rfl
  pos := Nat.zero_lt_one
  mono _ h := h

theorem opens_i64 {P : Program} {t : TypeId} (ht : P.underlying t = some (.int .i64)) : Opens P t Int := by
  intro H enc w base spare held fuel cs x h hz
  obtain ⟨n, hc, hw⟩ := opens_int ht h hz
  exact ⟨n, hc, bounds_i64 hw⟩
theorem flat_ints (l : List Int) : l.flatMap Cel.cells = l.map (Value.int .i64) := flat_one _ l
theorem flat_texts (l : List (List UInt8)) : l.flatMap Cel.cells = l.map (fun t => Value.string ⟨t.toArray⟩) := flat_one _ l
theorem Row.ok.ints {w : World} {x : Row Int} (h : x.ok w) : Rd w 1 x.A x.n (x.l.map (Value.int .i64)) := by have := h.rd; rwa [flat_ints] at this
theorem Row.ok.texts {w : World} {x : Row (List UInt8)} (h : x.ok w) : Rd w 1 x.A x.n (x.l.map (fun t => Value.string ⟨t.toArray⟩)) := by have := h.rd; rwa [flat_texts] at this

end Go.Proofs.Ytlclllkjnhgbjaa

namespace Go.Proofs.Ytlclllkjnhgbjaa
open Go.RowKit
set_option linter.unusedVariables false

theorem setCells_new (w : World) (t : TypeId) : ∀ (vs : List Value) (o : Nat) (cs : Array Value), (w.alloc (.cells cs t)).setCells w.heap.size o vs = w.alloc (.cells (setAll cs o vs) t)
  | [], o, cs => rfl
  | v :: vs, o, cs => by
    rw [World.setCells, World.setCell_alloc_at _ _ _ _ _ rfl, setCells_new w t vs (o + 1), setAll]

section
variable {P : Program}
theorem wpList_store_new {ops : Array Oper} {rest : List Oper} {op : Oper} {a : Act} {w : World} {Q : Exit → Act → World → Prop} (hgd : op.guard = none) {ty : TypeId} {n : Nat} (R : RowTy P ty n) (x y : Operand) (ho : op.op = .store ty x y)
    {t : TypeId} {cs : Array Value} (hx : a.eval x = .pointer (some ⟨w.heap.size, 0, none⟩)) (hn : cs.size = n) (cs' : Array Value) (hn' : cs'.size = n) (hy : a.eval y = .agg cs') (h1 : cs'.all (·.oneCell') = true)
    (h : wpList P ops Q rest (a.put op.dst undef) (w.alloc (.cells cs' t))) : wpList P ops Q (op :: rest) a (w.alloc (.cells cs t)) := by
  have hb : Blk (w.alloc (.cells cs t)) w.heap.size t cs := Blk.new w t cs
  refine wpList_store_mid hgd ty x y ho w.heap.size 0 cs' hx hy (hb.there (by omega)) (by rw [R.hi, hn']) h1 ?_
  rw [setCells_new, setAll_all cs cs' (by omega)]
  exact h
end

section
variable {w : World} {size n : Nat} {A : Option Addr} {xs : List Value}
theorem Rd.take (h : Rd w size A n xs) {k : Nat} (hk : k ≤ n) : Rd w size A k (xs.take (k * size)) := by
  refine ⟨by rw [List.length_take, h.1]; exact Nat.min_eq_left (Nat.mul_le_mul_right _ hk), fun h0 => ?_⟩
  obtain ⟨ad, e, hb, hc⟩ := h.2 (by omega)
  refine ⟨ad, e, hb, fun j u hu => ?_⟩
  rw [List.getElem?_take] at hu
  split at hu
  · exact hc j u hu
  · cases hu
theorem Rd.drop (h : Rd w size A n xs) {k cap : Nat} (hk : k ≤ n) (hc : n ≤ cap) : Rd w size (if cap = k then A else A.map (·.add (k * size))) (n - k) (xs.drop (k * size)) := Reads.cut h hk hc
end

section
variable {α : Type} [Cel α]
theorem rd_range {w : World} {A : Option Addr} {n k : Nat} {l : List α} (h : Rd w (Cel.size α) A n (l.flatMap Cel.cells)) (hk : k < n) :
    ∃ b o a, A = some ⟨b, o, none⟩ ∧ b < w.heap.size ∧ l[k]? = some a ∧ w.rangeAt b (o + k * Cel.size α) (Cel.cells a) := by
  obtain ⟨b, o, a, e, hb, ha, hc⟩ := rd_at h hk
  exact ⟨b, o, a, e, hb, ha, fun j v hv => hc j v hv⟩
end

/-- An element of one cell, its address written out. -/
theorem rd_cell {α : Type} [Cel α] {w : World} {A : Option Addr} {n k : Nat} {l : List α} (h1 : Cel.size α = 1) (h : Rd w (Cel.size α) A n (l.flatMap Cel.cells)) (hk : k < n) :
    ∃ b o a, A = some ⟨b, o, none⟩ ∧ l[k]? = some a ∧ ∀ u, Cel.cells a = [u] → w.cell? ⟨b, o + k, none⟩ = some u := by
  obtain ⟨b, o, a, e, _, ha, hc⟩ := rd_at h hk
  refine ⟨b, o, a, e, ha, fun u hu => ?_⟩
  have := hc 0 u (by rw [hu]; rfl)
  rw [h1, Nat.mul_one] at this
  exact this
theorem Row.ok.int {w : World} {x : Row Int} (h : x.ok w) {k : Nat} (hk : k < x.n) : ∃ b o z, x.A = some ⟨b, o, none⟩ ∧ x.l[k]? = some z ∧ I64 z ∧ w.cell? ⟨b, o + k, none⟩ = some (.int .i64 z) := by
  obtain ⟨b, o, z, e, hz, hc⟩ := rd_cell rfl h.rd hk
  exact ⟨b, o, z, e, hz, h.all z (List.mem_of_getElem? hz), hc _ rfl⟩

end Go.Proofs.Ytlclllkjnhgbjaa

namespace Go.Proofs.Ytlclllkjnhgbjaa
open Go.RowKit
set_option linter.unusedVariables false

/-- Two slices of the call's own do not share memory. -/
def Apart (u v : Value) : Prop := ∀ b, u.ownBlock = some b → v.ownBlock ≠ some b
theorem Apart.symm {u v : Value} (h : Apart u v) : Apart v u := fun b hv hu => h b hu hv
section
variable {w w' : World} {base : Nat} {e e' : TypeId} {size n size' n' : Nat} {u v v' : Value} {xs ys : List Value}
theorem own_lt (h : w.ownsRow base e size v n xs) {b : Nat} (hb : v.ownBlock = some b) : b < w.heap.size := (h.lt b hb).2
theorem own_ge (h : w.ownsRow base e size v n xs) {b : Nat} (hb : v.ownBlock = some b) : base ≤ b := (h.lt b hb).1
theorem own_blk (h : w.ownsRow base e size v n xs) {b : Nat} (hb : v.ownBlock = some b) : ∃ cs, Blk w b e cs := by
  rcases h.2 with ⟨rfl, _⟩ | ⟨g, cap, cur, rfl, _, hh, _⟩
  · simp [Value.ownBlock] at hb
  · have : g = b := by simpa [Value.ownBlock] using hb
    subst this
    exact ⟨cur, hh⟩
end

end Go.Proofs.Ytlclllkjnhgbjaa

namespace Go.Proofs.Ytlclllkjnhgbjaa
open Go.RowKit
set_option linter.unusedVariables false

theorem foldl_setAll : ∀ (vs : List Value) (k off : Nat) (cells : Array Value), (vs.zipIdx k).foldl (fun cs (x : Value × Nat) => cs.setIfInBounds (off + x.2) x.1) cells = setAll cells (off + k) vs
  | [], k, off, cells => rfl
  | v :: vs, k, off, cells => by
    rw [List.zipIdx_cons, List.foldl_cons, foldl_setAll vs (k + 1) off, setAll, Nat.add_assoc]
theorem fill_step (place : Nat → Option (Nat × Nat)) (cells : Array Value) (i : Nat) (v : Value) (rest : List (Nat × Value)) (off size : Nat) (hp : place i = some (off, size)) (hs : v.cells.size = size) (hb : off + size ≤ cells.size) :
    Instr.fill place cells ((i, v) :: rest) = Instr.fill place (setAll cells off v.cells.toList) rest := by
  have e : v.cells.zipIdx.foldl (fun cs (x : Value × Nat) => cs.setIfInBounds (off + x.2) x.1) cells = setAll cells off v.cells.toList := by
    have := foldl_setAll v.cells.toList 0 off cells
    rw [Nat.add_zero] at this
    rw [← this, ← Array.foldl_toList, Array.toList_zipIdx]
  rw [Instr.fill, hp]
  simp only
  rw [if_neg (by simp; omega)]
  exact congrArg (fun c => Instr.fill place c rest) e

section
variable {P : Program}
theorem run_buildSlice1 {t e : TypeId} {size bytes : Nat} (E : ElemInfo P t e size bytes) (v : Value) (hv : v.cells.size = size) (hs : size ≤ 1000) (w : World) :
    (Instr.buildSlice t 1 #[(0, v)]).run P w = .ok (.slice (some ⟨w.heap.size, 0, none⟩) 1 1) (w.alloc (.cells v.cells e)) := by
  obtain ⟨i, z, hi, hz, hsz, hby, hzs⟩ := E.hi
  have hp := E.pos
  have hl : ¬ 16777216 < size := by omega
  have hf : Instr.fill (fun i => some (i * size, size)) ((Array.range size).map (z.cells[· % z.cells.size]!)) [(0, v)] = some v.cells := by
    rw [fill_step _ _ _ _ _ 0 size (by simp) hv (by simp)]
    rw [setAll_all _ _ (by simp [hv])]
    rfl
  simp only [Instr.buildSlice, Sem.run_bind, run_underlying E.ht, Result.andThen_ok, sizeOf, typeInfo, zeroValue]
  simp [hi, hz, hsz, hl, newRow]
  rw [if_neg (by omega)]
  simp [hf]

theorem wpList_buildSlice1 {ops : Array Oper} {rest : List Oper} {o : Oper} {a : Act} {w : World} {Q : Exit → Act → World → Prop} (hgd : o.guard = none) {t e : TypeId} {size bytes : Nat} (E : ElemInfo P t e size bytes) (x : Operand) (ho : o.op = .buildSlice t 1 #[(0, x)])
    (cs : Array Value) (hx : a.eval x = .agg cs) (hv : cs.size = size) (hs : size ≤ 1000)
    (h : wpList P ops Q rest (a.put o.dst (.slice (some ⟨w.heap.size, 0, none⟩) 1 1)) (w.alloc (.cells cs e))) : wpList P ops Q (o :: rest) a w := by
  refine wpList_plain hgd fun K hK => ?_
  unfold Oper.wp execOp
  have hr := run_buildSlice1 E (.agg cs) hv hs w
  simp only [ho, List.map_toArray, List.map_cons, List.map_nil, hx, Sem.run_bind, hr, Result.andThen_ok, Sem.run_pure]
  exact hK _ _ h
end

end Go.Proofs.Ytlclllkjnhgbjaa

namespace Go.Proofs.Ytlclllkjnhgbjaa
open Go.RowKit
set_option linter.unusedVariables false

section
variable {P : Program}
theorem run_eqGuard_row {op : BinOp} {t : TypeId} {x y : Operand} {xs ys : Array Value} {w : World} (hg : P.eqGuardType P.depth t = false) : (eqGuard op t x y (.agg xs) (.agg ys)).run P w = .ok () w := by
  unfold eqGuard
  cases op <;> simp [hg]

theorem wpList_cmp_row {ops : Array Oper} {rest : List Oper} {op : Oper} {a : Act} {w : World} {Q : Exit → Act → World → Prop} (hw : Region.wanted op (yielded ops a.tmps) = true) (bo : BinOp) (t t2 : TypeId) (x y : Operand) (ho : op.op = .binOp bo t x y t2)
    {xs ys : Array Value} (hx : a.eval x = .agg xs) (hy : a.eval y = .agg ys) (hg : P.eqGuardType P.depth t = false) {b : Bool} (hrun : (binOp bo t (.agg xs) (.agg ys)).run P w = .ok (.bool b) w)
    (h : wpList P ops Q rest (a.put op.dst (.bool b)) w) : wpList P ops Q (op :: rest) a w := by
  refine wpList_step fun K hK => ?_
  rw [if_pos hw]
  unfold Oper.wp execOp
  simp only [ho, hx, hy, Sem.run_bind, run_eqGuard_row hg, Result.andThen_ok, hrun, Sem.run_pure]
  exact hK _ _ h
end

end Go.Proofs.Ytlclllkjnhgbjaa

namespace Go.Proofs.Ytlclllkjnhgbjaa
open Go.RowKit
set_option linter.unusedVariables false

section
variable {P : Program} {ops : Array Oper} {md : Region.Mode} {C : World → Prop}

/-- Whatever order is picked for the head; L: what is asked when its f operations have come up. -/
def wpHead (P : Program) (md : Region.Mode) (ops : Array Oper) (C : World → Prop) (n : Nat) (L : Array Bool → Act → Prop) : Nat → Array Bool → Act → Prop
  | 0, done, a => L done a
  | f + 1, done, a => Region.ready md ops done ≠ [] ∧ ∀ i ∈ Region.ready md ops done, i < n ∧ qOp P ops C i (wpHead P md ops C n L f (done.setIfInBounds i true)) a

theorem wpAny_of_wpHead {n g : Nat} {L : Array Bool → Act → Prop} {Q : Exit → Act → World → Prop} (hL : ∀ done a w, C w → L done a → wpAny P md ops Q g done a w) :
    ∀ (f : Nat) (done : Array Bool) (a : Act) (w : World), C w → wpHead P md ops C n L f done a → wpAny P md ops Q (f + g) done a w
  | 0, _, _, _, hC, h => by rw [Nat.zero_add]; exact hL _ _ _ hC h
  | f + 1, _, _, _, hC, h => by
    rw [Nat.add_right_comm]
    exact ⟨fun h0 => absurd h0 h.1, fun i hi => wpOp_of_qOp hC (fun a' w' hC' h' => wpAny_of_wpHead hL f _ a' w' hC' h') (h.2 i hi).2⟩

theorem head_first {n i : Nat} {oi : Oper} {v : Value} {L : Array Bool → Act → Prop} (hi : ops[i]? = some oi) (hsel : ∀ (j : Nat) (o : Oper) cs b, ops[j]? = some o → o.op ≠ .select cs b)
    (wait : ∀ done, HeadInv md ops n done → done.getD i true = false → ∀ j ∈ Region.ready md ops done, j < n) (hdone : ∀ done a, L done a → ∀ j ∈ Region.ready md ops done, n ≤ j) (f : Nat) :
    ∀ (done : Array Bool) (a : Act), HeadInv md ops n done →
      (∀ j oj, ops[j]? = some oj → j ≠ i → done.getD j true = false → (∀ e ∈ oj.after, Region.binds md e = true → e.on ≠ i) → oi.apart ops oj = true) →
      i ∈ Region.ready md ops done → YieldsIn P ops C oi v a →
      wpHead P md ops C n L f (done.setIfInBounds i true) (a.put oi.dst v) → wpHead P md ops C n L (f + 1) done a := by
  induction f with
  | zero =>
    intro done a inv _ hr hy H
    refine ⟨List.ne_nil_of_mem hr, fun j hj => ?_⟩
    have hjn := wait done inv (mem_ready.1 hr).1 j hj
    refine ⟨hjn, ?_⟩
    by_cases e : j = i
    · subst e; exact hy.qOp hi H
    · exact absurd (hdone _ _ H j (ready_mono hj e)) (by omega)
  | succ f ih =>
    intro done a inv hfree hr hy H
    have hun := (mem_ready.1 hr).1
    refine ⟨List.ne_nil_of_mem hr, fun j hj => ?_⟩
    have hjn := wait done inv hun j hj
    refine ⟨hjn, ?_⟩
    by_cases e : j = i
    · subst e; exact hy.qOp hi H
    · obtain ⟨hjun, oj, hoj, hall⟩ := mem_ready.1 hj
      have key := qOp_put hoj (hfree j oj hoj e hjun fun x hx hb hon => by
        have := hall x hx hb
        rw [hon, getD_both hun] at this
        cases this) (fun cs b => hsel i oi cs b hi) (fun cs b => hsel j oj cs b hoj) hy (H.2 j (ready_mono hj e)).2
      refine qOp_mono (fun a' h3 => ih (done.setIfInBounds j true) a' (inv.set hj hjn) (fun k ok hk hki hu hno => ?_) (ready_mono hr (Ne.symm e)) h3.1 ?_) key
      · by_cases hjk : j = k
        · subst hjk; exact hfree j ok hk hki hjun hno
        · rw [getD_set_ne true hjk] at hu; exact hfree k ok hk hki hu hno
      · rw [Array.setIfInBounds_comm _ _ e]; exact h3.2

theorem head_lex {n g : Nat} {Lq : Act → Prop} (hsel : Region.noSelect ops = true) (hs : Region.sinkB md ops n = true) (hc : Region.chainB md ops n = true) (hn : n < ops.size) :
    ∀ (l : List Oper) (k : Nat) (done : Array Bool) (a : Act), (∀ j, j < l.length → l[j]? = ops[k + j]?) → k + l.length = n → HeadInv md ops n done →
    Region.lexHead md ops g l.length k done = true → wpQuiet P ops C Lq l a → wpHead P md ops C n (fun done' a' => Region.seqB md ops g n done' = true ∧ Lq a') l.length done a
  | [], k, done, a, _, hk, _, hB, h => by
    obtain rfl : k = n := hk
    exact ⟨hB, h⟩
  | o :: l, k, done, a, hl, hk, inv, hB, h => by
    have h0 : ops[k]? = some o := (hl 0 (Nat.zero_lt_succ _)).symm
    simp only [List.length_cons, Region.lexHead, Bool.and_eq_true] at hB hk
    obtain ⟨⟨hr, hf⟩, hB'⟩ := hB
    have hr' : k ∈ Region.ready md ops done := List.contains_iff_mem.1 hr
    obtain ⟨v, hy, hK⟩ := yieldsIn_of_qOp h0 (K := wpQuiet P ops C Lq l) (by unfold qOp; simp only [h0]; exact h)
    refine head_first h0 (Region.noSelect_spec hsel) (fun done' inv' hu j hj => ?_) (fun _ _ hL => seqB_ready hL.1) l.length done a inv (Region.free_spec h0 hf) hr' hy
      (head_lex hsel hs hc hn l (k + 1) _ _ (fun j hj => ?_) (by omega) (inv.set hr' (by omega)) hB' hK)
    · rcases Nat.lt_or_ge j n with h' | h'
      · exact h'
      · exact absurd hj (tail_waits hs hc hn inv' _ k rfl (by omega) hu j h')
    · have := hl (j + 1) (Nat.succ_lt_succ hj)
      rw [List.getElem?_cons_succ] at this
      rw [this]
      congr 1
      omega

/-- A region: its first n operations are quiet over the world in which it began; the others come behind them in their order. -/
theorem wp_region_over_tail {w : World} {id : Nat} {Q : Exit → Act → World → Prop} {a : Act} {l : List Oper} (n : Nat) (hm : P.follows .mixedOrders = true) (hB : Region.lexTailB .any l.toArray n = true)
    (h : wpQuiet P l.toArray (fun w' => ∃ u : Over w, w' = u.wd) (fun a' => ∀ u : Over w, wpList P l.toArray Q (l.drop n) a' u.wd) (l.take n) a) : (Code.region id l.toArray true).wp P Q a w := by
  simp only [Region.lexTailB, Bool.and_eq_true, decide_eq_true_eq] at hB
  obtain ⟨⟨⟨⟨hsel, hn⟩, hs⟩, hc⟩, hlex⟩ := hB
  have hn' : n < l.length := hn
  have htl : (l.take n).length = n := by rw [List.length_take]; omega
  have inv0 : HeadInv .any l.toArray n (Array.replicate l.toArray.size false) :=
    ⟨Array.size_replicate, fun j oj _ hl => (by rw [getD_replicate_false] at hl; cases hl), fun t _ ht => getD_in (by rw [Array.size_replicate]; exact ht) (getD_replicate_false _ _)⟩
  have H := head_lex (md := .any) (g := l.toArray.size - n) hsel hs hc hn (l.take n) 0 _ a (fun j hj => by rw [htl] at hj; rw [List.getElem?_take_of_lt hj, Nat.zero_add, List.getElem?_toArray]) (by rw [htl, Nat.zero_add]) inv0 (by rw [htl]; exact hlex) h
  have hdl : (l.drop n).length = l.toArray.size - n := List.length_drop
  have W := wpAny_of_wpHead (Q := Q) (g := l.toArray.size - n) (fun done a' w' hC' hL => by
    obtain ⟨u, rfl⟩ := hC'
    have := wpAny_of_seq (md := .any) (Q' := Q) (l.drop n) n done a' u.wd (fun j => by rw [List.getElem?_drop, List.getElem?_toArray]) (by rw [hdl]; exact hL.1) (hL.2 u)
    rwa [hdl] at this) _ _ _ { w with drawn := w.drawn + 1 } ⟨⟨_, (Bel.refl w).drew⟩, rfl⟩ H
  rw [htl, Nat.add_sub_cancel' (Nat.le_of_lt hn)] at W
  exact wp_region_any hm W

/-- An operation that yields one value in every world of the class. -/
theorem wpQuiet_run {w : World} {Q : Act → Prop} {a : Act} {o : Oper} {rest : List Oper} (hw : Region.wanted o (yielded ops a.tmps) = true) (v : Value) (hr : ∀ u : Over w, (execOp a.eval o).run P u.wd = .ok (.value v) u.wd)
    (h : wpQuiet P ops (fun w' => ∃ u : Over w, w' = u.wd) Q rest (a.put o.dst v)) : wpQuiet P ops (fun w' => ∃ u : Over w, w' = u.wd) Q (o :: rest) a := by
  refine wpQuiet_step fun K hK => ?_
  rw [if_pos hw]
  refine ⟨v, fun w' hw' => ?_, hK _ h⟩
  obtain ⟨u, rfl⟩ := hw'
  unfold Oper.quietAt
  rw [hr u]
  exact ⟨rfl, rfl⟩
theorem rangeAt_over {w : World} {b o : Nat} {cs : List Value} (hb : b < w.heap.size) (h : w.rangeAt b o cs) (u : Over w) : u.wd.rangeAt b o cs := fun j v hv => (u.bel.cell (p := ⟨b, o + j, none⟩) hb).trans (h j v hv)
theorem rangeAt_bel {w w' : World} {b o : Nat} {cs : List Value} (hb : b < w.heap.size) (h : w.rangeAt b o cs) (hB : Bel w w') : w'.rangeAt b o cs := rangeAt_over hb h ⟨w', hB⟩
theorem wpQuiet_load_row {w : World} {Q : Act → Prop} {a : Act} {op : Oper} {rest : List Oper} (hw : Region.wanted op (yielded ops a.tmps) = true) {ty : TypeId} {n : Nat} (R : RowTy P ty n) (x : Operand) (ho : op.op = .load ty x)
    (b o : Nat) (hx : a.eval x = .pointer (some ⟨b, o, none⟩)) (cs : Array Value) (hn : cs.size = n) (hb : b < w.heap.size) (hc : w.rangeAt b o cs.toList)
    (h : wpQuiet P ops (fun w' => ∃ u : Over w, w' = u.wd) Q rest (a.put op.dst (.agg cs))) : wpQuiet P ops (fun w' => ∃ u : Over w, w' = u.wd) Q (op :: rest) a := by
  refine wpQuiet_run hw (.agg cs) (fun u => ?_) h
  obtain ⟨d, hu, hd⟩ := R.hu
  have hl := run_loadVar_mid (P := P) u.wd b o ty cs.toList d (rangeAt_over hb hc u) hu hd (by rw [R.hi]; simp [hn])
  unfold execOp
  simp only [ho, hx, Instr.loadAt, Instr.sureAddr, Sem.run_bind, Sem.run_pure, Result.andThen_ok, hl]
theorem wpQuiet_cmp_row {w : World} {Q : Act → Prop} {a : Act} {op : Oper} {rest : List Oper} (hw : Region.wanted op (yielded ops a.tmps) = true) (bo : BinOp) (t t2 : TypeId) (x y : Operand) (ho : op.op = .binOp bo t x y t2)
    {xs ys : Array Value} (hx : a.eval x = .agg xs) (hy : a.eval y = .agg ys) (hg : P.eqGuardType P.depth t = false) {b : Bool} (hrun : ∀ w, (binOp bo t (.agg xs) (.agg ys)).run P w = .ok (.bool b) w)
    (h : wpQuiet P ops (fun w' => ∃ u : Over w, w' = u.wd) Q rest (a.put op.dst (.bool b))) : wpQuiet P ops (fun w' => ∃ u : Over w, w' = u.wd) Q (op :: rest) a := by
  refine wpQuiet_run hw (.bool b) (fun u => ?_) h
  unfold execOp
  simp only [ho, hx, hy, Sem.run_bind, run_eqGuard_row hg, Result.andThen_ok, hrun, Sem.run_pure]
end

end Go.Proofs.Ytlclllkjnhgbjaa

namespace Go.Proofs.Ytlclllkjnhgbjaa
theorem get_o0 {α : Type} {x : α} {l : List α} : (List.toArray (x :: l))[0]? = some x := rfl
theorem get_os {α : Type} {x y : α} {l : List α} {i : Nat} (h : l.toArray[i]? = some x) : (List.toArray (y :: l))[i + 1]? = some x := by simpa using h
theorem get_ot {α : Type} {x y0 y1 y2 y3 y4 y5 y6 y7 y8 y9 : α} {l : List α} {i : Nat} (h : l.toArray[i]? = some x) : (List.toArray (y0 :: y1 :: y2 :: y3 :: y4 :: y5 :: y6 :: y7 :: y8 :: y9 :: l))[i + 10]? = some x := by simpa using h
end Go.Proofs.Ytlclllkjnhgbjaa

namespace Go.Proofs.Ytlclllkjnhgbjaa
open Go.RowKit
set_option linter.unusedVariables false

/-- All but two blocks is as it was; there may be more. -/
structure ButD (d0 d1 : Nat) (w w' : World) : Prop where
  os : w'.os = w.os
  tape : w'.tape = w.tape
  output : w'.output = w.output
  size : w.heap.size ≤ w'.heap.size
  block : ∀ g, g < w.heap.size → g ≠ d0 → g ≠ d1 → w'.heap[g]? = w.heap[g]?
theorem ButD.bel {d0 d1 : Nat} {a w w' : World} (h : ButD d0 d1 w w') (ha : Bel a w) (h0 : a.heap.size ≤ d0) (h1 : a.heap.size ≤ d1) : Bel a w' :=
  ⟨h.os.trans ha.os, h.tape.trans ha.tape, h.output.trans ha.output, Nat.le_trans ha.size h.size, fun k hk => (h.block k (Nat.lt_of_lt_of_le hk ha.size) (by omega) (by omega)).trans (ha.block k hk)⟩
theorem ButD.of_grown {d0 d1 : Nat} {w w1 w2 : World} (h1 : w.grownBy w1 (some d0)) (h2 : w1.grownBy w2 (some d1)) : ButD d0 d1 w w2 :=
  ⟨h2.os.trans h1.os, h2.tape.trans h1.tape, h2.output.trans h1.output, Nat.le_trans h1.size h2.size, fun g hg n0 n1 => (h2.block g (Nat.lt_of_lt_of_le hg h1.size) (by simpa using n1)).trans (h1.block g hg (by simpa using n0))⟩
theorem ButD.undrew {d0 d1 : Nat} {w w' : World} (h : ButD d0 d1 w.drew w') : ButD d0 d1 w w' := ⟨h.os, h.tape, h.output, h.size, h.block⟩
theorem Blk.butD {d0 d1 g : Nat} {w w' : World} {t : TypeId} {cs : Array Value} (h : Blk w g t cs) (hb : ButD d0 d1 w w') (n0 : g ≠ d0) (n1 : g ≠ d1) : Blk w' g t cs := (hb.block g h.lt n0 n1).trans h

/-- What is asked of the order of such a region. -/
structure PairOrd (o0 o1 o2 o3 : Oper) : Prop where
  sel : Region.noSelect #[o0, o1, o2, o3] = true
  f0 : Region.free .any #[o0, o1, o2, o3] #[false, false, false, false] 0 = true
  r0 : (Region.ready .any #[o0, o1, o2, o3] #[false, false, false, false]).contains 0 = true
  f1 : Region.free .any #[o0, o1, o2, o3] #[true, false, false, false] 1 = true
  r1 : (Region.ready .any #[o0, o1, o2, o3] #[true, false, false, false]).contains 1 = true
  r2 : Region.ready .any #[o0, o1, o2, o3] #[true, true, false, false] = [2]
  r3 : Region.ready .any #[o0, o1, o2, o3] #[true, true, true, false] = [3]
  r5 : Region.ready .any #[o0, o1, o2, o3] #[true, true, true, true] = []

section
variable {P : Program}
theorem wp_region_pair {id : Nat} {Q : Exit → Act → World → Prop} {a : Act} {w : World} {o0 o1 o2 o3 : Oper} (hm : P.follows .mixedOrders = true) (O : PairOrd o0 o1 o2 o3)
    {ty0 ty1 : TypeId} {n0 n1 : Nat} (R0 : RowTy P ty0 n0) (R1 : RowTy P ty1 n1) (x0 x1 p0 p1 y0 y1 : Operand)
    (e0 : o0.op = .load ty0 x0) (e1 : o1.op = .load ty1 x1) (e2 : o2.op = .store ty0 p0 y0) (e3 : o3.op = .store ty1 p1 y1)
    (k0 : o0.guard = none) (k1 : o1.guard = none) (k2 : o2.guard = none) (k3 : o3.guard = none) (u2 : o2.dst = none) (u3 : o3.dst = none)
    (b0 b1 d0 d1 : Nat) {s0 s1 t0 t1 : TypeId} {cs0 cs1 ds0 ds1 : Array Value} (B0 : Blk w b0 s0 cs0) (B1 : Blk w b1 s1 cs1) (D0 : Blk w d0 t0 ds0) (D1 : Blk w d1 t1 ds1)
    (z0 : cs0.size = n0) (z1 : cs1.size = n1) (z2 : ds0.size = n0) (z3 : ds1.size = n1) (l0 : cs0.all (·.oneCell') = true) (l1 : cs1.all (·.oneCell') = true)
    (ne : d0 ≠ d1) (ne0 : b0 ≠ d0) (ne1 : b0 ≠ d1) (ne2 : b1 ≠ d0) (ne3 : b1 ≠ d1)
    (v0 : a.eval x0 = .pointer (some ⟨b0, 0, none⟩)) (v1 : (a.put o0.dst (.agg cs0)).eval x1 = .pointer (some ⟨b1, 0, none⟩))
    (v2 : ((a.put o0.dst (.agg cs0)).put o1.dst (.agg cs1)).eval p0 = .pointer (some ⟨d0, 0, none⟩)) (v3 : ((a.put o0.dst (.agg cs0)).put o1.dst (.agg cs1)).eval p1 = .pointer (some ⟨d1, 0, none⟩))
    (v4 : ((a.put o0.dst (.agg cs0)).put o1.dst (.agg cs1)).eval y0 = .agg cs0) (v5 : ((a.put o0.dst (.agg cs0)).put o1.dst (.agg cs1)).eval y1 = .agg cs1)
    (hQ0 : ∀ c (a : Act) w, Q (.panic c) (a.put o0.dst (.agg cs0)) w → Q (.panic c) a w) (hQ1 : ∀ c (a : Act) w, Q (.panic c) (a.put o1.dst (.agg cs1)) w → Q (.panic c) a w)
    (h : ∀ w', Blk w' d0 t0 cs0 → Blk w' d1 t1 cs1 → ButD d0 d1 w w' → Q .normal ((a.put o0.dst (.agg cs0)).put o1.dst (.agg cs1)) w') : (Code.region id #[o0, o1, o2, o3] true).wp P Q a w := by
  obtain ⟨dd0, hu0, hd0⟩ := R0.hu
  obtain ⟨dd1, hu1, hd1⟩ := R1.hu
  have st0 : ∀ {w' : World} {cs : Array Value}, Blk w' d0 t0 cs → cs.size = n0 → Blk (w'.setCells d0 0 cs0.toList) d0 t0 cs0 := fun hb hz => by
    have := Blk.setAll cs0.toList 0 hb
    rwa [setAll_all _ cs0 (by omega)] at this
  have st1 : ∀ {w' : World} {cs : Array Value}, Blk w' d1 t1 cs → cs.size = n1 → Blk (w'.setCells d1 0 cs1.toList) d1 t1 cs1 := fun hb hz => by
    have := Blk.setAll cs1.toList 0 hb
    rwa [setAll_all _ cs1 (by omega)] at this
  have wn : ∀ {o : Oper} {ts}, o.guard = none → Region.wanted o ts = true := fun hg => by simp [Region.wanted, hg]
  refine wp_region_held_drew (S := fun w' => Blk w' b0 s0 cs0 ∧ Blk w' b1 s1 cs1) hm ⟨B0, B1⟩ (fun hS => ?_)
  refine wpAnyH_take (i := 0) (v := .agg cs0) (oi := o0) rfl O.sel O.f0 O.r0 hQ0
    (by have := yieldsIf_load_mid (P := P) (ops := #[o0, o1, o2, o3]) (S := fun w' => Blk w' b0 s0 cs0 ∧ Blk w' b1 s1 cs1) (op := o0) (a := a) (wn k0) ty0 x0 e0 b0 0 v0 cs0.toList dd0 (fun w' h => h.1.range) hu0 hd0 (by rw [R0.hi]; simp [z0]); simpa using this) hS ?_
  refine wpAnyH_take (i := 1) (v := .agg cs1) (oi := o1) rfl O.sel O.f1 O.r1 hQ1
    (by have := yieldsIf_load_mid (P := P) (ops := #[o0, o1, o2, o3]) (S := fun w' => Blk w' b0 s0 cs0 ∧ Blk w' b1 s1 cs1) (op := o1) (a := a.put o0.dst (.agg cs0)) (wn k1) ty1 x1 e1 b1 0 v1 cs1.toList dd1 (fun w' h => h.2.range) hu1 hd1 (by rw [R1.hi]; simp [z1]); simpa using this) hS ?_
  refine wpAnyH_ready (rs := [2]) O.r2 (by simp) ?_
  refine AllReadyH.cons (o := o2) rfl (fun K hK => ?_) AllReadyH.nil
  · rw [if_pos (wn k2)]
    refine wp_store_mid ty0 p0 y0 e2 d0 0 cs0 v2 v4 (D0.drew.there (by omega)) (by rw [R0.hi, z0]) l0 ?_
    have g1 := setCells_grown w.drew d0 cs0.toList 0
    refine hK.out _ _ ⟨B0.drew.grown g1 (by simpa using ne0), B1.drew.grown g1 (by simpa using ne2)⟩ (fun hS2 => ?_)
    rw [show (((a.put o0.dst (.agg cs0)).put o1.dst (.agg cs1)).put o2.dst undef) = ((a.put o0.dst (.agg cs0)).put o1.dst (.agg cs1)) by rw [u2]; rfl]
    refine wpAnyH_ready (rs := [3]) O.r3 (by simp) ?_
    refine AllReadyH.cons (o := o3) rfl (fun K hK => ?_) AllReadyH.nil
    rw [if_pos (wn k3)]
    have D1' := D1.drew.grown g1 (by simpa using Ne.symm ne)
    refine wp_store_mid ty1 p1 y1 e3 d1 0 cs1 v3 v5 (D1'.there (by omega)) (by rw [R1.hi, z1]) l1 ?_
    have g2 := setCells_grown (w.drew.setCells d0 0 cs0.toList) d1 cs1.toList 0
    refine hK.out _ _ ⟨hS2.1.grown g2 (by simpa using ne1), hS2.2.grown g2 (by simpa using ne3)⟩ (fun _ => ?_)
    rw [show (((a.put o0.dst (.agg cs0)).put o1.dst (.agg cs1)).put o3.dst undef) = ((a.put o0.dst (.agg cs0)).put o1.dst (.agg cs1)) by rw [u3]; rfl]
    exact wpAnyH_done O.r5 (h _ ((st0 D0.drew z2).grown g2 (by simpa using ne)) (st1 D1' z3) (ButD.of_grown g1 g2).undrew) _
end

/-- A function's two results, both structs in memory. -/
theorem results_blk2 {P : Program} {fn : Func} {p q : Tmp} {ty ty2 : TypeId} {n n2 : Nat} (h : fn.results = #[.cell p ty, .cell q ty2]) (R : RowTy P ty n) (R2 : RowTy P ty2 n2) {tmps : Array Value} {w : World} {g g2 : Nat} {t t2 : TypeId} {cs cs2 : Array Value}
    (hp : tmps.getD p undef = .pointer (some ⟨g, 0, none⟩)) (hq : tmps.getD q undef = .pointer (some ⟨g2, 0, none⟩)) (hb : Blk w g t cs) (hb2 : Blk w g2 t2 cs2) (hn : cs.size = n) (hn2 : cs2.size = n2) :
    (results fn tmps).run P w = .ok (.tuple #[.agg cs, .agg cs2]) w := by
  obtain ⟨d, hu, hd⟩ := R.hu
  obtain ⟨d2, hu2, hd2⟩ := R2.hu
  have hp' : tmps[p]?.getD undef = .pointer (some ⟨g, 0, none⟩) := by simpa using hp
  have hq' : tmps[q]?.getD undef = .pointer (some ⟨g2, 0, none⟩) := by simpa using hq
  have hl := run_loadVar_mid (P := P) w g 0 ty cs.toList d hb.range hu hd (by rw [R.hi]; simp [hn])
  have hl2 := run_loadVar_mid (P := P) w g2 0 ty2 cs2.toList d2 hb2.range hu2 hd2 (by rw [R2.hi]; simp [hn2])
  simp [results, h, hp', hq', asAddr, hl, hl2]

section
variable {P : Program}
/-- A struct stored into the midst of a block that is known whole. -/
theorem wpList_store_at {ops : Array Oper} {rest : List Oper} {op : Oper} {a : Act} {w : World} {Q : Exit → Act → World → Prop} (hgd : op.guard = none) {ty : TypeId} {n : Nat} (R : RowTy P ty n) (x y : Operand) (ho : op.op = .store ty x y)
    (g o : Nat) (hx : a.eval x = .pointer (some ⟨g, o, none⟩)) {t : TypeId} {cs : Array Value} (hb : Blk w g t cs) (cs' : Array Value) (hn' : cs'.size = n) (hfit : o + n ≤ cs.size) (hy : a.eval y = .agg cs') (h1 : cs'.all (·.oneCell') = true)
    (h : ∀ w', Blk w' g t (setAll cs o cs'.toList) → w.grownBy w' (some g) → wpList P ops Q rest (a.put op.dst undef) w') : wpList P ops Q (op :: rest) a w := by
  refine wpList_store_mid hgd ty x y ho g o cs' hx hy (fun j hj => ?_) (by rw [R.hi, hn']) h1 (h _ (Blk.setAll cs'.toList o hb) (setCells_grown w g _ _))
  rw [hb.cell, hb.frozen]
  exact ⟨by rw [Array.getElem?_eq_getElem (by omega)]; rfl, rfl⟩
end
/-- A function's one result, a struct in memory. -/
theorem results_blk1 {P : Program} {fn : Func} {p : Tmp} {ty : TypeId} {n : Nat} (h : fn.results = #[.cell p ty]) (R : RowTy P ty n) {tmps : Array Value} {w : World} {g : Nat} {t : TypeId} {cs : Array Value}
    (hp : tmps.getD p undef = .pointer (some ⟨g, 0, none⟩)) (hb : Blk w g t cs) (hn : cs.size = n) :
    (results fn tmps).run P w = .ok (.agg cs) w := by
  obtain ⟨d, hu, hd⟩ := R.hu
  have hp' : tmps[p]?.getD undef = .pointer (some ⟨g, 0, none⟩) := by simpa using hp
  have hl := run_loadVar_mid (P := P) w g 0 ty cs.toList d hb.range hu hd (by rw [R.hi]; simp [hn])
  simp [results, h, hp', asAddr, hl]

end Go.Proofs.Ytlclllkjnhgbjaa

namespace Go.Proofs.Ytlclllkjnhgbjaa
open Go.RowKit
set_option linter.unusedVariables false

section
variable {P : Program} {w : World}
theorem step_buildSlice1 {ops : Array Oper} {o : Oper} {a : Act} {K : Act → World → Prop} {Q : Exit → Act → World → Prop} {X : Prop} (hgd : o.guard = none) {t e : TypeId} {size bytes : Nat} (E : ElemInfo P t e size bytes) (x : Operand) (ho : o.op = .buildSlice t 1 #[(0, x)])
    (cs : Array Value) (hx : a.eval x = .agg cs) (hv : cs.size = size) (hs : size ≤ 1000)
    (h : K (a.put o.dst (.slice (some ⟨w.heap.size, 0, none⟩) 1 1)) (w.alloc (.cells cs e))) :
    if Region.wanted o (yielded ops a.tmps) = true then Oper.wp P o a w K Q else X := by
  have hw : Region.wanted o (yielded ops a.tmps) = true := by simp [Region.wanted, hgd]
  rw [if_pos hw]
  unfold Oper.wp execOp
  have hr := run_buildSlice1 E (.agg cs) hv hs w
  simp only [ho, List.map_toArray, List.map_cons, List.map_nil, hx, Sem.run_bind, hr, Result.andThen_ok, Sem.run_pure]
  exact h
theorem step_append0 {ops : Array Oper} {o : Oper} {a : Act} {K : Act → World → Prop} {Q : Exit → Act → World → Prop} {X : Prop} (hgd : o.guard = none) (s x : Operand) (t : TypeId)
    (ho : o.op = .call { callee := .builtin .append, args := #[s, x], argTypes := #[t, t] })
    {e : TypeId} {size bytes : Nat} (E : ElemInfo P t e size bytes) (base : Nat) (hB : base ≤ w.heap.size)
    (v : Value) (n : Nat) (xs : List Value) (hs : a.eval s = v) (hown : w.ownsRow base e size v n xs)
    (A : Option Addr) (m c : Nat) (news : List Value) (hx : a.eval x = .slice A m c) (hr : Rd w size A m news) (h1 : ∀ u ∈ news, u.oneCell' = true)
    (h63 : n + m ≤ maxLen) (hbytes : (n + m) * bytes ≤ 140737488355328)
    (h : ∀ v' w', w'.ownsRow base e size v' (n + m) (xs ++ news) → w.grownBy w' v.ownBlock → (v'.ownBlock = v.ownBlock ∨ v'.ownBlock = some w.heap.size) → K (a.put o.dst v') w') :
    if Region.wanted o (yielded ops a.tmps) = true then Oper.wp P o a w K Q else X := by
  have hw : Region.wanted o (yielded ops a.tmps) = true := by simp [Region.wanted, hgd]
  rw [if_pos hw]
  obtain ⟨i, z, hi, hz, hsz, hby, hzs⟩ := E.hi
  exact wp_append_any w s x t ho base e i z size bytes E.ht hi hz hsz hby hzs E.pos v n xs hs hown w.heap.size A m c news hx hr h1 h63 hbytes hB h
end

end Go.Proofs.Ytlclllkjnhgbjaa
