/- Arguments opened by their type's shape: what a reading of memory says of the cells. -/
import Derived.Test.YtnjpoamebkehbaaOp
import Derived.Deep.Slices
import Derived.SizedLaws
namespace Go.Proofs.Ytnjpoamebkehbaa
open Go.RowKit Go.ChangeShapes Go.WideShapes Go.Deep
set_option linter.unusedVariables false

theorem spot_of {w : World} {ad : Addr} {u : Value} (h : w.cell? (ad.add 0) = some u) : ad = ⟨ad.block, ad.off, none⟩ := by
  obtain ⟨b, o, sp⟩ := ad
  have h1 := World.cell?_spot h
  simp [Addr.add] at h1
  subst h1
  rfl

/-- A datum within the form's reach. -/
def Sized {H : Type} (P : Program) (t : TypeId) (d : DataW H) : Prop := ∀ n ∈ d.weights P t, n ≤ 140737488351232
theorem sized_all {H : Type} {P : Program} {e : TypeId} : ∀ {l : List (DataW H)} {d : DataW H}, d ∈ l → ∀ n ∈ d.weights P e, n ∈ DataW.weightsAll P e l
  | a :: l, d, hd, n, hn => by
    rw [DataW.weightsAll, List.mem_append]
    rcases List.mem_cons.1 hd with rfl | h
    · exact .inl hn
    · exact .inr (sized_all h n hn)
theorem Sized.arg {H : Type} {P : Program} {ts : List TypeId} {ds : List (DataW H)} (h : (DataW.weightsEach P ts ds).all (· ≤ reachBytes) = true) {j : Nat} {t : TypeId} {d : DataW H} (ht : ts[j]? = some t) (hd : ds[j]? = some d) : Sized P t d := fun n hn => by
  have := List.all_eq_true.1 h _ (DataW.weights_mem_each ht hd n hn)
  exact of_decide_eq_true this

/-- Whatever is read as of this type encodes a value: the cells, in that world. -/
def OpensTo (P : Program) (t : TypeId) {α : Type} (E : World → List Value → α → Prop) : Prop :=
  ∀ {H : Type} {enc : TypeId × Value → H} {w : World} {base : Nat} {spare : Nat → Bool} {held : Bool} {fuel : Nat} {cs : List Value} {x : DataW H × List MemPlace},
    DataW.trod enc P w base spare held fuel t cs = some x → Sized P t x.1 → ∃ y : α, E w cs y

theorem exists_list {α : Type} {n : Nat} {p : Nat → α → Prop} (h : ∀ i, i < n → ∃ a, p i a) : ∃ l : List α, l.length = n ∧ ∀ i a, l[i]? = some a → p i a := by
  induction n with
  | zero => exact ⟨[], rfl, by simp⟩
  | succ n ih =>
    obtain ⟨l, hl, hp⟩ := ih fun i hi => h i (by omega)
    obtain ⟨a, ha⟩ := h n (by omega)
    refine ⟨l ++ [a], by simp [hl], fun i b hb => ?_⟩
    rcases Nat.lt_or_ge i l.length with h1 | h1
    · rw [List.getElem?_append_left h1] at hb
      exact hp i b hb
    · rw [List.getElem?_append_right h1] at hb
      have : i = n := by
        have : i - l.length < [a].length := by
          rcases Nat.lt_or_ge (i - l.length) [a].length with h2 | h2
          · exact h2
          · rw [List.getElem?_eq_none h2] at hb; cases hb
        simp at this
        omega
      subst this
      rw [hl] at hb
      simp at hb
      subst hb
      exact ha

section
variable {P : Program}
theorem opens_int {t : TypeId} {k : IntKind} (ht : P.underlying t = some (.int k)) : OpensTo P t (fun _ cs (n : Int) => cs = [.int k n] ∧ (Lit.int k n).wf = true) := by
  intro H enc w base spare held fuel cs x h hz
  obtain ⟨n, hc, _, hw⟩ := DataW.trod_int ht h
  exact ⟨n, hc, hw⟩

/-- A slice whose elements encode values: cells, of so many an element. -/
structure SlOf (w : World) (size bytes : Nat) {α : Type} (E : World → List Value → α → Prop) (A : Option Addr) (n c : Nat) (l : List α) : Prop where
  len : l.length = n
  le : n ≤ c
  cap : c ≤ maxLen
  reach : n * bytes ≤ 140737488351232
  at_ : ∀ i a, l[i]? = some a → ∃ b o cs, A = some ⟨b, o, none⟩ ∧ b < w.heap.size ∧ cs.length = size ∧ E w cs a ∧ ∀ j u, cs[j]? = some u → w.cell? ⟨b, o + i * size + j, none⟩ = some u

theorem opens_slice {t e : TypeId} {size bytes : Nat} {α : Type} {E : World → List Value → α → Prop} (ht : P.underlying t = some (.slice e)) (hC : P.cellsOf e = size) (hby : P.bytesOf e = bytes) (hs : 0 < size) (he : OpensTo P e E) :
    OpensTo P t (fun w cs (l : List α) => ∃ A n c, cs = [.slice A n c] ∧ SlOf w size bytes E A n c l) := by
  intro H enc w base spare held fuel cs x h hz
  rcases open_slice ht h with ⟨hcs, _⟩ | ⟨a, len, cap, m, n, D, Pl, hcs, hb, hl, hm, hmm, hxe, hi⟩
  · exact ⟨[], none, 0, 0, hcs, ⟨rfl, Nat.le_refl _, Nat.zero_le _, by simp, by simp⟩⟩
  · have hlm : len ≤ m := by rw [hmm]; split <;> omega
    have hz2 : Sized P t (.slice ((List.range len).map D) ((List.range (m - len)).map fun j => D (len + j))) := by rw [hxe] at hz; exact hz
    have hrb : len * bytes ≤ 140737488351232 := by
      have h1 := hz2 ((((List.range len).map D).length + ((List.range (m - len)).map fun j => D (len + j)).length) * P.bytesOf e) (by simp only [DataW.weights, ht]; exact List.mem_cons_self)
      simp only [List.length_map, List.length_range, hby] at h1
      exact Nat.le_trans (Nat.mul_le_mul_right _ (by omega)) h1
    have hze : ∀ i, i < len → Sized P e (D i) := fun i hi n hn => hz2 n (by
      simp only [DataW.weights, ht]
      exact List.mem_cons_of_mem _ (List.mem_append_left _ (sized_all (List.mem_map.2 ⟨i, List.mem_range.2 hi, rfl⟩) n hn)))
    have key : ∀ i, i < len → ∃ y : α, ∃ cs', cs'.length = size ∧ E w cs' y ∧ ∀ j u, cs'[j]? = some u → w.cell? ((a.add (i * size)).add j) = some u := by
      intro i hil
      obtain ⟨cs', hc, ht'⟩ := hi i (by omega)
      rw [hC] at hc
      obtain ⟨_, hcl, hat⟩ := World.cells?_some hc
      obtain ⟨y, hy⟩ := he ht' (hze i hil)
      refine ⟨y, cs', hcl, hy, fun j u hu => ?_⟩
      have hj : j < size := by
        rcases Nat.lt_or_ge j size with h' | h'
        · exact h'
        · rw [List.getElem?_eq_none (by omega)] at hu; cases hu
      rw [hat j hj]
      exact hu
    obtain ⟨l, hll, hlp⟩ := exists_list key
    refine ⟨l, some a, len, cap, hcs, ⟨hll, hl, hm, hrb, fun i y hy => ?_⟩⟩
    have hil : i < len := by
      rcases Nat.lt_or_ge i len with h' | h'
      · exact h'
      · rw [List.getElem?_eq_none (by omega)] at hy; cases hy
    obtain ⟨cs', hcl, hE, hat⟩ := hlp i y hy
    obtain ⟨_, cs0, hcl0, _, hat0⟩ := key 0 (by omega)
    have h0 : w.cell? (a.add 0) = some (cs0[0]'(by omega)) := by
      have := hat0 0 _ (List.getElem?_eq_getElem (by omega))
      rw [Nat.zero_mul, add_of_add] at this
      exact this
    have hs0 := spot_of h0
    have hblk := World.block_lt_of_cell? _ _ h0
    rw [block_of_add] at hblk
    refine ⟨a.block, a.off, cs', by rw [← hs0], hblk, hcl, hE, fun j u hu => ?_⟩
    have := hat j u hu
    rw [add_of_add, hs0, Addr.add_mid] at this
    rw [Nat.add_assoc]
    exact this
theorem field_of {H : Type} {enc : TypeId × Value → H} {w : World} {base : Nat} {spare : Nat → Bool} {held : Bool} {fuel : Nat} {cs : List Value} {x : DataW H × List MemPlace} {t : TypeId} {fs : Array Field}
    (ht : P.underlying t = some (.struct fs)) (h : DataW.trod enc P w base spare held fuel t cs = some x) (hz : Sized P t x.1) {α : Type} {E : World → List Value → α → Prop} (i : Nat) (f : Field) (hf : fs[i]? = some f) (hE : OpensTo P f.type E) {size : Nat} (hC : P.cellsOf f.type = size) :
    ∃ y : α, E w ((cs.drop f.offset).take size) y := by
  obtain ⟨xs, n, _, hxe, _, hxl, hg⟩ := DataW.trod_struct ht h
  have h1 := hg i f hf
  have hi : i < fs.size := (Array.getElem?_eq_some_iff.1 hf).1
  rw [hC, List.getElem?_eq_getElem (by omega)] at h1
  refine hE h1 fun m hm => hz m ?_
  rw [hxe]
  simp only [DataW.weights, ht]
  exact DataW.weights_mem_each (j := i) (by rw [List.getElem?_map, Array.getElem?_toList, hf]; rfl) (by rw [List.getElem?_map, List.getElem?_eq_getElem (by omega)]; rfl) m hm
theorem struct_len {H : Type} {enc : TypeId × Value → H} {w : World} {base : Nat} {spare : Nat → Bool} {held : Bool} {fuel : Nat} {cs : List Value} {x : DataW H × List MemPlace} {t : TypeId} {fs : Array Field}
    (ht : P.underlying t = some (.struct fs)) (h : DataW.trod enc P w base spare held fuel t cs = some x) {size : Nat} (hC : P.cellsOf t = size) : cs.length = size := by
  obtain ⟨xs, n, _, _, hl, _, _⟩ := DataW.trod_struct ht h
  omega
theorem elem_of {H : Type} {enc : TypeId × Value → H} {w : World} {base : Nat} {spare : Nat → Bool} {held : Bool} {fuel : Nat} {cs : List Value} {x : DataW H × List MemPlace} {t e : TypeId} {n : Nat}
    (ht : P.underlying t = some (.array n e)) (h : DataW.trod enc P w base spare held fuel t cs = some x) (hz : Sized P t x.1) {α : Type} {E : World → List Value → α → Prop} (hE : OpensTo P e E) {size : Nat} (hC : P.cellsOf e = size) (i : Nat) (hi : i < n) :
    ∃ y : α, E w ((cs.drop (i * size)).take size) y := by
  obtain ⟨xs, m, _, hxe, _, hxl, hg⟩ := DataW.trod_array ht h
  have h1 := hg i hi
  rw [hC, List.getElem?_eq_getElem (by omega)] at h1
  refine hE h1 fun k hk => hz k ?_
  rw [hxe]
  simp only [DataW.weights, ht]
  exact sized_all (List.mem_map.2 ⟨_, List.getElem_mem (by omega), rfl⟩) k hk
end

theorem flat_rd {w : World} {size : Nat} {α : Type} {f : α → List Value} {ok : α → Prop} {A : Option Addr} {n c : Nat} {l : List α} (hs : 0 < size) (hf : ∀ a, (f a).length = size) {bytes : Nat} (h : SlOf w size bytes (fun _ cs a => cs = f a ∧ ok a) A n c l) :
    Rd w size A n (l.flatMap f) ∧ ∀ a ∈ l, ok a := by
  have hlen : ∀ m : List α, (m.flatMap f).length = m.length * size := by
    intro m
    induction m with
    | nil => simp
    | cons a m ih => rw [List.flatMap_cons, List.length_append, ih, hf, List.length_cons, Nat.add_mul]; omega
  have hget : ∀ (m : List α) (k j : Nat) (a : α), m[k]? = some a → j < size → (m.flatMap f)[k * size + j]? = (f a)[j]? := by
    intro m
    induction m with
    | nil => intro k j a h; simp at h
    | cons b m ih =>
      intro k j a h hj
      rw [List.flatMap_cons]
      cases k with
      | zero =>
        simp at h
        subst h
        rw [Nat.zero_mul, Nat.zero_add, List.getElem?_append_left (by rw [hf]; exact hj)]
      | succ k =>
        simp at h
        rw [List.getElem?_append_right (by rw [hf, Nat.add_mul]; omega), hf, ← ih k j a h hj]
        congr 1
        rw [Nat.add_mul]
        omega
  refine ⟨⟨by rw [hlen, h.len], fun hn => ?_⟩, fun a ha => ?_⟩
  · have hl := h.len
    obtain ⟨b, o, cs0, e, hb, _, _, _⟩ := h.at_ 0 (l[0]'(by omega)) (List.getElem?_eq_getElem (by omega))
    refine ⟨_, e, hb, fun j u hu => ?_⟩
    have hj : j < n * size := by
      rcases Nat.lt_or_ge j (n * size) with h' | h'
      · exact h'
      · rw [List.getElem?_eq_none (by rw [hlen, hl]; omega)] at hu; cases hu
    have hk : j / size < n := Nat.div_lt_of_lt_mul (by rw [Nat.mul_comm]; exact hj)
    have hjm : j / size * size + j % size = j := by rw [Nat.mul_comm]; exact Nat.div_add_mod j size
    have hla : l[j / size]? = some (l[j / size]'(by omega)) := List.getElem?_eq_getElem (by omega)
    obtain ⟨b', o', cs', e', _, _, ⟨hcs, _⟩, hat⟩ := h.at_ (j / size) _ hla
    rw [e] at e'
    injection e' with e'
    injection e' with e1 e2
    subst e1 e2
    rw [← hjm, hget l _ _ _ hla (Nat.mod_lt _ hs), ← hcs] at hu
    have := hat _ _ hu
    rw [Addr.add_mid]
    rw [Nat.add_assoc, hjm] at this
    exact this
  · obtain ⟨i, hi, rfl⟩ := List.getElem_of_mem ha
    obtain ⟨_, _, _, _, _, _, ⟨_, ho⟩, _⟩ := h.at_ i _ (List.getElem?_eq_getElem hi)
    exact ho

/-- Texts, and a row of them. -/
theorem opens_string {P : Program} {t : TypeId} (ht : P.underlying t = some .string) : OpensTo P t (fun _ cs (l : List UInt8) => cs = [.string ⟨l.toArray⟩] ∧ l.length ≤ 140737488351232) := by
  intro H enc w base spare held fuel cs x h hz
  obtain ⟨s, hc, hxe, hs⟩ := DataW.trod_string ht h
  exact ⟨s.data.toList, by rw [hc], hz _ (by rw [hxe]; simp [DataW.weights])⟩
theorem opens_bool {P : Program} {t : TypeId} (ht : P.underlying t = some .bool) : OpensTo P t (fun _ cs (b : Bool) => cs = [.bool b]) := by
  intro H enc w base spare held fuel cs x h hz
  obtain ⟨b, hc, _⟩ := DataW.trod_bool ht h
  exact ⟨b, hc⟩

theorem flat_one {α : Type} (f : α → Value) (l : List α) : (l.flatMap fun a => [f a]) = l.map f := by
  induction l with
  | nil => rfl
  | cons a l ih => rw [List.flatMap_cons, ih]; rfl

end Go.Proofs.Ytnjpoamebkehbaa
