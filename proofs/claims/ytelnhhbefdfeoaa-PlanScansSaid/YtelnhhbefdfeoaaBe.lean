/- Texts laid together: XTier XTierP XTierW XTierX XTierY XTierZ. -/
import Derived.Test.YtelnhhbefdfeoaaBb
import Derived.Test.YtelnhhbefdfeoaaBc
import Derived.Test.YtelnhhbefdfeoaaBd
import Derived.Maps.OwnSet
import Derived.Maps.OwnOps

namespace Go.Proofs.Ytelnhhbefdfeoaa
open Go.RowKit Go.ChangeShapes Go.WideShapes Go.Deep
set_option linter.unusedVariables false
/-- What Few tells of a schema. -/
def FewPost (P : Prop) (w : World) (e : Ending) (w' : World) : Prop := ∃ b : Bool, e = .returned (.bool b) ∧ (b = true → P) ∧ Bel w w'

/-- A slice, as it is read alone. -/
structure Row.rd {α : Type} [Cel α] (w : World) (x : Row α) : Prop where
  r : Rd w (Cel.size α) x.A x.n (x.l.flatMap Cel.cells)
  all : ∀ a ∈ x.l, Cel.ok w a
  n63 : x.n ≤ 9223372036854775807
section
variable {α : Type} [Cel α] {w w' : World} {x : Row α}
theorem Row.ok.rds (h : x.ok w) : x.rd w := ⟨h.rd, h.all, h.size⟩
theorem Row.rd.mono (h : x.rd w) (hb : Bel w w') : x.rd w' := ⟨h.r.bel hb, fun a ha => Cel.mono hb (h.all a ha), h.n63⟩
theorem Row.rd.len (h : x.rd w) : x.l.length = x.n := rd_len h.r
theorem Row.rd.texts {w : World} {x : Row (List UInt8)} (h : x.rd w) : Rd w 1 x.A x.n (x.l.map tx) := by have := h.r; rwa [flat_texts] at this
theorem Row.rd.ints {w : World} {x : Row Int} (h : x.rd w) : Rd w 1 x.A x.n (x.l.map (Value.int .i64)) := by have := h.r; rwa [flat_ints] at this
theorem Row.rd.txok {w : World} {x : Row (List UInt8)} (h : x.rd w) : TxOk x.l := fun t ht => Nat.le_trans (h.all t ht) (by omega)
theorem Row.nil_rd {α : Type} [Cel α] (w : World) : (Row.mk none 0 0 ([] : List α)).rd w := ⟨Rd.nil, (fun a ha => by cases ha), by show (0 : Nat) ≤ _; omega⟩
end

/-- A tier. -/
structure Tir where
  nm : List UInt8
  ts : Row (List UInt8)
  up : Row Int
abbrev Tir.cs (t : Tir) : Array Value := #[.string ⟨t.nm.toArray⟩, .slice t.ts.A t.ts.n t.ts.c, .slice t.up.A t.up.n t.up.c]
structure Tir.rd (w : World) (t : Tir) : Prop where
  nm : t.nm.length ≤ 140737488351232
  ts : t.ts.rd w
  up : t.up.rd w
theorem Tir.rd.mono {w w' : World} {t : Tir} (h : t.rd w) (hb : Bel w w') : t.rd w' := ⟨h.nm, h.ts.mono hb, h.up.mono hb⟩
instance instCelTir : Cel Tir where
  size := 3
  bytes := 64
  cells t := t.cs.toList
  ok w t := t.rd w
  len _ := rfl
  pos := by omega
  mono hb h := h.mono hb
theorem tir_one (t : Tir) : t.cs.all (·.oneCell') = true := by simp [Value.oneCell']
/-- A dimension. -/
structure Dm where
  nm : List UInt8
  tr : Row Tir
abbrev Dm.cs (d : Dm) : Array Value := #[.string ⟨d.nm.toArray⟩, .slice d.tr.A d.tr.n d.tr.c]
structure Dm.rd (w : World) (d : Dm) : Prop where
  nm : d.nm.length ≤ 140737488351232
  tr : d.tr.rd w
theorem Dm.rd.mono {w w' : World} {d : Dm} (h : d.rd w) (hb : Bel w w') : d.rd w' := ⟨h.nm, h.tr.mono hb⟩
instance instCelDm : Cel Dm where
  size := 2
  bytes := 40
  cells d := d.cs.toList
  ok w d := d.rd w
  len _ := rfl
  pos := by omega
  mono hb h := h.mono hb
theorem dm_one (d : Dm) : d.cs.all (·.oneCell') = true := by simp [Value.oneCell']

theorem rowTir : RowTy Try.prog 77 3 := ⟨⟨_, Try.underlying77, rfl⟩, by kernel_rfl⟩
theorem rowDm : RowTy Try.prog 66 2 := ⟨⟨_, Try.underlying66, rfl⟩, by kernel_rfl⟩
theorem E_tir : ElemInfo Try.prog 64 77 3 64 := ElemInfo.mk' (z := .agg #[.string ⟨#[]⟩, .slice none 0 0, .slice none 0 0]) Try.underlying64 (by kernel_rfl) rfl (by omega)
theorem E_dm : ElemInfo Try.prog 22 66 2 40 := ElemInfo.mk' (z := .agg #[.string ⟨#[]⟩, .slice none 0 0]) Try.underlying22 (by kernel_rfl) rfl (by omega)
theorem E_num : ElemInfo Try.prog 60 3 1 8 := ElemInfo.mk' (z := .int .i64 0) Try.underlying60 (by kernel_rfl) rfl (by omega)

set_option maxRecDepth 100000 in
theorem c_str : Try.prog.cellsOf 9 = 1 := by kernel_rfl
set_option maxRecDepth 100000 in
theorem c_int : Try.prog.cellsOf 3 = 1 := by kernel_rfl
set_option maxRecDepth 100000 in
theorem c_strs : Try.prog.cellsOf 23 = 1 := by kernel_rfl
set_option maxRecDepth 100000 in
theorem c_ints : Try.prog.cellsOf 60 = 1 := by kernel_rfl
set_option maxRecDepth 100000 in
theorem c_tir : Try.prog.cellsOf 77 = 3 := by kernel_rfl
set_option maxRecDepth 100000 in
theorem c_tirs : Try.prog.cellsOf 64 = 1 := by kernel_rfl
set_option maxRecDepth 100000 in
theorem c_dm : Try.prog.cellsOf 66 = 2 := by kernel_rfl
set_option maxRecDepth 100000 in
theorem c_dms : Try.prog.cellsOf 22 = 1 := by kernel_rfl
theorem opens_strs : Opens Try.prog 23 (Row (List UInt8)) := opens_row Try.underlying23 c_str (by kernel_rfl) (opens_text Try.underlying9)
theorem opens_nums : Opens Try.prog 60 (Row Int) := opens_row Try.underlying60 c_int (by kernel_rfl) (opens_i64 Try.underlying3)
theorem opens_tir : Opens Try.prog 77 Tir := by
  intro H enc w base spare held fuel cs x h hz
  have hl := struct_len Try.underlying77 h c_tir
  obtain ⟨a, ha, wa⟩ := field_of Try.underlying77 h hz 0 _ rfl (opens_text Try.underlying9) c_str
  obtain ⟨b, hb, wb⟩ := field_of Try.underlying77 h hz 1 _ rfl opens_strs c_strs
  obtain ⟨c, hc, wc⟩ := field_of Try.underlying77 h hz 2 _ rfl opens_nums c_ints
  refine ⟨⟨a, b, c⟩, ?_, ⟨wa, Row.ok.rds wb, Row.ok.rds wc⟩⟩
  match cs, hl with
  | [x0, x1, x2], _ =>
    simp [Cel.cells, Row.v] at ha hb hc
    simp [Cel.cells, ha, hb, hc]
theorem opens_tirs : Opens Try.prog 64 (Row Tir) := opens_row Try.underlying64 c_tir (by kernel_rfl) opens_tir
theorem opens_dm : Opens Try.prog 66 Dm := by
  intro H enc w base spare held fuel cs x h hz
  have hl := struct_len Try.underlying66 h c_dm
  obtain ⟨a, ha, wa⟩ := field_of Try.underlying66 h hz 0 _ rfl (opens_text Try.underlying9) c_str
  obtain ⟨b, hb, wb⟩ := field_of Try.underlying66 h hz 1 _ rfl opens_tirs c_tirs
  refine ⟨⟨a, b⟩, ?_, ⟨wa, Row.ok.rds wb⟩⟩
  match cs, hl with
  | [x0, x1], _ =>
    simp [Cel.cells, Row.v] at ha hb
    simp [Cel.cells, ha, hb]
theorem opens_dms : Opens Try.prog 22 (Row Dm) := opens_row Try.underlying22 c_dm (by kernel_rfl) opens_dm
set_option maxRecDepth 100000 in
theorem open_tir {H : Type} {enc : TypeId × Value → H} {w : World} {base b0 : Nat} {spare : Nat → Bool} {held : Bool} {r : Reach} {v : Value} {d : DataW H} {p : List MemPlace}
    (hv : Value.okWide Try.prog w r b0 77 v) (h : DataW.Trod enc Try.prog w base spare held 77 v d p) (hz : Sized Try.prog 77 d) : ∃ t : Tir, v = .agg t.cs ∧ t.rd w := by
  obtain ⟨cs, rfl, _⟩ := okWide_struct Try.underlying77 hv
  obtain ⟨fuel, hf⟩ := h
  obtain ⟨a, ha, ho⟩ := opens_tir hf hz
  refine ⟨a, ?_, ho⟩
  simp only [Value.cells] at ha
  rw [Array.toList_inj.1 ha]
set_option maxRecDepth 100000 in
theorem open_dm {H : Type} {enc : TypeId × Value → H} {w : World} {base b0 : Nat} {spare : Nat → Bool} {held : Bool} {r : Reach} {v : Value} {d : DataW H} {p : List MemPlace}
    (hv : Value.okWide Try.prog w r b0 66 v) (h : DataW.Trod enc Try.prog w base spare held 66 v d p) (hz : Sized Try.prog 66 d) : ∃ t : Dm, v = .agg t.cs ∧ t.rd w := by
  obtain ⟨cs, rfl, _⟩ := okWide_struct Try.underlying66 hv
  obtain ⟨fuel, hf⟩ := h
  obtain ⟨a, ha, ho⟩ := opens_dm hf hz
  refine ⟨a, ?_, ho⟩
  simp only [Value.cells] at ha
  rw [Array.toList_inj.1 ha]

/-- A cell of texts, of numbers, of tiers, at its place. -/
theorem Row.rd.textAt {w : World} {x : Row (List UInt8)} (h : x.rd w) {k : Nat} (hk : k < x.n) : ∃ b o t, x.A = some ⟨b, o, none⟩ ∧ x.l[k]? = some t ∧ t.length ≤ 140737488351232 ∧ w.cell? ⟨b, o + k, none⟩ = some (.string ⟨t.toArray⟩) := by
  obtain ⟨b, o, t, e, ht, hc⟩ := rd_cell rfl h.r hk
  exact ⟨b, o, t, e, ht, h.all t (List.mem_of_getElem? ht), hc _ rfl⟩
theorem Row.rd.intAt {w : World} {x : Row Int} (h : x.rd w) {k : Nat} (hk : k < x.n) : ∃ b o z, x.A = some ⟨b, o, none⟩ ∧ x.l[k]? = some z ∧ I64 z ∧ w.cell? ⟨b, o + k, none⟩ = some (.int .i64 z) := by
  obtain ⟨b, o, z, e, hz, hc⟩ := rd_cell rfl h.r hk
  exact ⟨b, o, z, e, hz, h.all z (List.mem_of_getElem? hz), hc _ rfl⟩
theorem Row.rd.tirAt {w : World} {x : Row Tir} (h : x.rd w) {k : Nat} (hk : k < x.n) : ∃ b o t, x.A = some ⟨b, o, none⟩ ∧ b < w.heap.size ∧ x.l[k]? = some t ∧ t.rd w ∧ w.rangeAt b (o + k * 3) t.cs.toList := by
  obtain ⟨b, o, t, e, hb, ht, hc⟩ := rd_range h.r hk
  exact ⟨b, o, t, e, hb, ht, h.all t (List.mem_of_getElem? ht), hc⟩
theorem Row.rd.dmAt {w : World} {x : Row Dm} (h : x.rd w) {k : Nat} (hk : k < x.n) : ∃ b o t, x.A = some ⟨b, o, none⟩ ∧ b < w.heap.size ∧ x.l[k]? = some t ∧ t.rd w ∧ w.rangeAt b (o + k * 2) t.cs.toList := by
  obtain ⟨b, o, t, e, hb, ht, hc⟩ := rd_range h.r hk
  exact ⟨b, o, t, e, hb, ht, h.all t (List.mem_of_getElem? ht), hc⟩

end Go.Proofs.Ytelnhhbefdfeoaa

namespace Go.Proofs.Ytelnhhbefdfeoaa
open Go.RowKit
set_option linter.unusedVariables false
set_option linter.unusedSimpArgs false

/-- What a tier says. -/
structure TC where
  nm : List UInt8
  ts : List (List UInt8)
  up : List Int
deriving DecidableEq
/-- Do members stand under those above, each of which comes? -/
def treeOk (up : List Int) (members : Nat) (above : Int) : Bool :=
  if above ≤ 0 then up.isEmpty
  else decide (up.length = members) && up.all (fun n => decide (0 ≤ n ∧ n < above)) && (List.range above.toNat).all (fun i => up.contains (i : Int))
def tierErr (t : TC) (above : Int) : Int :=
  if isName t.nm then (if t.ts.length < 1 ∨ 200 < t.ts.length then 5 else if rowErr t.ts ≠ 0 then rowErr t.ts else if treeOk t.up t.ts.length above then 0 else 14) else 2
def upPut (up : List Int) : List UInt8 := up.flatMap fun n => nput n.toNat
def tierPut (t : TC) : List UInt8 := ptext t.nm ++ tput t.ts ++ upPut t.up
/-- So many numbers that are not above another one. -/
def pnums (most : Int) : Nat → List UInt8 → PR (List Int)
  | 0, l => .ok ([], l)
  | n + 1, l =>
    match pnum most l with
    | .error k => .error k
    | .ok (x, r) =>
      match pnums most n r with
      | .error k => .error k
      | .ok (xs, r) => .ok ((x : Int) :: xs, r)
def pups (above : Int) (n : Nat) (l : List UInt8) : PR (List Int) := if 0 < above then pnums (above - 1) n l else .ok ([], l)
/-- A tier is read, and asked whether it may be. -/
def ptierC (above : Int) (t : TC) (r : List UInt8) : PR TC := if tierErr t above = 0 then .ok (t, r) else .error (tierErr t above)
def ptier (above : Int) (l : List UInt8) : PR TC :=
  match ptxt 12 l with
  | .error k => .error k
  | .ok (nm, r) =>
    match tread 200 r with
    | .error k => .error k
    | .ok (ts, r) =>
      match pups above ts.length r with
      | .error k => .error k
      | .ok (up, r) => ptierC above ⟨nm, ts, up⟩ r

theorem rowFrom_range (ts : List (List UInt8)) : ∀ p, rowFrom p ts = 0 ∨ rowFrom p ts = 2 ∨ rowFrom p ts = 4 := by
  induction ts with
  | nil => intro p; exact .inl rfl
  | cons t r ih =>
    intro p
    rw [rowFrom]
    split
    · split
      · exact .inr (.inr rfl)
      · exact ih _
    · exact .inr (.inl rfl)
theorem tierErr_range (t : TC) (above : Int) : tierErr t above = 0 ∨ tierErr t above = 2 ∨ tierErr t above = 4 ∨ tierErr t above = 5 ∨ tierErr t above = 14 := by
  unfold tierErr
  have := rowFrom_range t.ts none
  unfold rowErr
  (repeat' split) <;> omega
theorem tierErr_zero {t : TC} {above : Int} (h : tierErr t above = 0) : isName t.nm = true ∧ 1 ≤ t.ts.length ∧ t.ts.length ≤ 200 ∧ rowErr t.ts = 0 ∧ treeOk t.up t.ts.length above = true := by
  unfold tierErr at h
  split at h
  · rename_i h1
    split at h
    · cases h
    · rename_i h2
      split at h
      · rename_i h3; exact absurd h h3
      · rename_i h3
        split at h
        · rename_i h4
          exact ⟨h1, by omega, by omega, by omega, h4⟩
        · cases h
  · cases h
theorem isName_len {l : List UInt8} (h : isName l = true) : 1 ≤ l.length ∧ l.length ≤ 12 := by
  unfold isName at h
  simp at h
  exact h.1
theorem treeOk_top {up : List Int} {m : Nat} {above : Int} (h : above ≤ 0) : treeOk up m above = up.isEmpty := by unfold treeOk; rw [if_pos h]
theorem treeOk_up {up : List Int} {m : Nat} {above : Int} (h : 0 < above) (ht : treeOk up m above = true) : up.length = m ∧ (∀ n ∈ up, 0 ≤ n ∧ n < above) ∧ ∀ i : Nat, (i : Int) < above → (i : Int) ∈ up := by
  unfold treeOk at ht
  rw [if_neg (by omega)] at ht
  simp only [Bool.and_eq_true, decide_eq_true_eq, List.all_eq_true] at ht
  obtain ⟨⟨h1, h2⟩, h3⟩ := ht
  refine ⟨h1, fun n hn => by simpa using h2 n hn, fun i hi => ?_⟩
  have := h3 i (by simp; omega)
  simpa using this
theorem pnums_put {above : Int} : ∀ {up : List Int}, (∀ n ∈ up, 0 ≤ n ∧ n < above) → above ≤ 9223372036854775807 → ∀ r, pnums (above - 1) up.length (upPut up ++ r) = .ok (up, r) := by
  intro up
  induction up with
  | nil => intro h ha r; rfl
  | cons n up ih =>
    intro h ha r
    have hn := h n (List.mem_cons_self ..)
    have e : upPut (n :: up) ++ r = nput n.toNat ++ (upPut up ++ r) := by unfold upPut; rw [List.flatMap_cons, List.append_assoc]
    rw [List.length_cons, pnums, e, q_pnum (by omega) (by omega)]
    simp only
    rw [ih (fun x hx => h x (List.mem_cons_of_mem _ hx)) ha]
    simp only
    rw [show ((n.toNat : Nat) : Int) = n by omega]
theorem pnums_back {most : Int} : ∀ {n : Nat} {l r : List UInt8} {up : List Int}, pnums most n l = .ok (up, r) → up.length = n ∧ l = upPut up ++ r ∧ ∀ x ∈ up, 0 ≤ x ∧ x ≤ most := by
  intro n
  induction n with
  | zero =>
    intro l r up h
    injection h with h
    injection h with h1 h2
    subst h1
    subst h2
    exact ⟨rfl, rfl, fun x hx => by cases hx⟩
  | succ n ih =>
    intro l r up h
    rw [pnums] at h
    split at h
    · cases h
    · rename_i x r1 hp
      split at h
      · cases h
      · rename_i xs r2 hs
        injection h with h
        injection h with h1 h2
        subst h1
        subst h2
        obtain ⟨a1, a2, a3⟩ := ih hs
        refine ⟨by simp [a1], ?_, fun y hy => ?_⟩
        · rw [q_pnum_back hp, a2]
          unfold upPut
          rw [List.flatMap_cons, List.append_assoc]
          rfl
        · rcases List.mem_cons.1 hy with rfl | hy
          · have := pnum_ok hp
            omega
          · exact a3 y hy
theorem pnums_err {most : Int} : ∀ {n : Nat} {l : List UInt8} {k : Int}, pnums most n l = .error k → k = 3 ∨ k = 5 := by
  intro n
  induction n with
  | zero => intro l k h; cases h
  | succ n ih =>
    intro l k h
    rw [pnums] at h
    split at h
    · rename_i hp
      injection h with h
      subst h
      exact pnum_err hp
    · split at h
      · rename_i hs
        injection h with h
        subst h
        exact ih hs
      · cases h
theorem tread_tput {ts : List (List UInt8)} {most : Int} (h : rowErr ts = 0) (hn : (ts.length : Int) ≤ most) (hb : ts.length ≤ 100000) (r : List UInt8) : tread most (tput ts ++ r) = .ok (ts, r) := by
  unfold tread tput
  rw [List.append_assoc, q_pnum (by omega) hn]
  simp only
  exact treads_tputs (ts := ts) (p := none) (was := []) h (.inr ⟨rfl, rfl⟩) (by simp) r
theorem ptier_put {t : TC} {above : Int} (ha : above ≤ 9223372036854775807) (h : tierErr t above = 0) (r : List UInt8) : ptier above (tierPut t ++ r) = .ok (t, r) := by
  obtain ⟨h1, h2, h3, h4, h5⟩ := tierErr_zero h
  have hl := isName_len h1
  have e : tierPut t ++ r = ptext t.nm ++ (tput t.ts ++ (upPut t.up ++ r)) := by unfold tierPut; simp only [List.append_assoc]
  unfold ptier
  rw [e, q_ptxt (by omega) (by omega)]
  simp only
  rw [tread_tput h4 (by omega) (by omega)]
  simp only
  have hu : pups above t.ts.length (upPut t.up ++ r) = .ok (t.up, r) := by
    unfold pups
    by_cases h0 : 0 < above
    · rw [if_pos h0]
      obtain ⟨a1, a2, _⟩ := treeOk_up h0 h5
      rw [← a1]
      exact pnums_put a2 ha r
    · rw [if_neg h0]
      rw [treeOk_top (by omega)] at h5
      have : t.up = [] := by simpa using h5
      rw [this]
      rfl
  rw [hu]
  simp only
  unfold ptierC
  rw [if_pos h]
theorem ptier_back {above : Int} {l r : List UInt8} {t : TC} (h : ptier above l = .ok (t, r)) : tierErr t above = 0 ∧ l = tierPut t ++ r := by
  unfold ptier at h
  split at h
  · cases h
  · rename_i nm r1 h1
    split at h
    · cases h
    · rename_i ts r2 h2
      split at h
      · cases h
      · rename_i up r3 h3
        unfold ptierC at h
        split at h
        · rename_i h4
          injection h with h
          injection h with h5 h6
          subst h5
          subst h6
          refine ⟨h4, ?_⟩
          have hu : r2 = upPut up ++ r3 := by
            unfold pups at h3
            split at h3
            · exact (pnums_back h3).2.1
            · injection h3 with h3
              injection h3 with h7 h8
              subst h7
              subst h8
              rfl
          unfold tierPut
          rw [q_ptxt_back h1, (tread_back h2).2, hu]
          simp only [List.append_assoc]
        · cases h

theorem nodup_le : ∀ {xs ys : List Nat}, xs.Nodup → (∀ x ∈ xs, x ∈ ys) → xs.length ≤ ys.length
  | [], _, _, _ => by simp
  | x :: xs, ys, hd, hs => by
    obtain ⟨hx, hd'⟩ := List.nodup_cons.1 hd
    have hm := hs x (List.mem_cons_self ..)
    have h1 := nodup_le (xs := xs) (ys := ys.erase x) hd' (fun y hy => (List.mem_erase_of_ne (a := y) (b := x) (by intro e; rw [e] at hy; exact hx hy)).2 (hs y (List.mem_cons_of_mem _ hy)))
    rw [List.length_erase_of_mem hm] at h1
    have := List.length_pos_of_mem hm
    rw [List.length_cons]
    omega
/-- All numbers below another one come among some if and only if there are as many different ones. -/
theorem addKey_cover {xs : List Nat} {m : Nat} (h : ∀ x ∈ xs, x < m) (hd : xs.Nodup) : xs.length = m ↔ ∀ i, i < m → i ∈ xs := by
  constructor
  · intro hl i hi
    by_cases hm : i ∈ xs
    · exact hm
    · exfalso
      have h1 : (i :: xs).Nodup := List.nodup_cons.2 ⟨hm, hd⟩
      have h2 := nodup_le (ys := List.range m) h1 (by
        intro y hy
        rcases List.mem_cons.1 hy with rfl | hy
        · exact List.mem_range.2 hi
        · exact List.mem_range.2 (h y hy))
      simp at h2
      omega
  · intro hc
    have a := nodup_le (ys := List.range m) hd (fun y hy => List.mem_range.2 (h y hy))
    have b := nodup_le (xs := List.range m) (ys := xs) List.nodup_range (fun y hy => hc y (List.mem_range.1 hy))
    simp at a b
    omega

end Go.Proofs.Ytelnhhbefdfeoaa

namespace Go.Proofs.Ytelnhhbefdfeoaa
open Go.RowKit
set_option linter.unusedVariables false
set_option linter.unusedSimpArgs false

/-- The different ones among numbers. -/
def addI (acc : List Int) (x : Int) : List Int := if acc.contains x then acc else acc ++ [x]
theorem addKey_int (xs : List Int) : ∀ acc : List Int, (xs.map (Lit.int .i64)).foldl Maps.addKey (acc.map (Lit.int .i64)) = (xs.foldl addI acc).map (Lit.int .i64) := by
  induction xs with
  | nil => intro acc; rfl
  | cons x xs ih =>
    intro acc
    rw [List.map_cons, List.foldl_cons, List.foldl_cons, ← ih]
    congr 1
    unfold Maps.addKey addI
    have e : ((acc.map (Lit.int .i64)).any fun y => y.sameKey (Lit.int .i64 x)) = acc.contains x := by
      rw [List.any_map, List.contains_eq_any_beq]
      congr 1
      funext y
      simp only [Function.comp, Lit.sameKey]
      by_cases h : y = x <;> simp [h]
      exact fun e => h e.symm
    rw [e]
    split
    · rfl
    · simp
theorem addI_mem (xs : List Int) : ∀ (acc : List Int) (y : Int), y ∈ xs.foldl addI acc ↔ y ∈ acc ∨ y ∈ xs := by
  induction xs with
  | nil => intro acc y; simp
  | cons x xs ih =>
    intro acc y
    rw [List.foldl_cons, ih]
    unfold addI
    split
    · rename_i h
      have hx : x ∈ acc := by simpa using h
      simp only [List.mem_cons]
      constructor
      · rintro (h | h)
        · exact .inl h
        · exact .inr (.inr h)
      · rintro (h | h | h)
        · exact .inl h
        · subst h; exact .inl hx
        · exact .inr h
    · simp only [List.mem_append, List.mem_singleton, List.mem_cons, or_assoc, List.not_mem_nil, or_false]
theorem addI_nodup (xs : List Int) : ∀ acc : List Int, acc.Nodup → (xs.foldl addI acc).Nodup := by
  induction xs with
  | nil => intro acc h; exact h
  | cons x xs ih =>
    intro acc h
    rw [List.foldl_cons]
    apply ih
    unfold addI
    split
    · exact h
    · rename_i hx
      have hx' : x ∉ acc := by simpa using hx
      rw [List.nodup_append]
      exact ⟨h, by simp, fun a ha b hb => by simp at hb; subst hb; exact fun e => hx' (e ▸ ha)⟩
theorem addI_cover {xs : List Int} {above : Int} (h0 : 0 < above) (h : ∀ x ∈ xs, 0 ≤ x ∧ x < above) : decide (((xs.foldl addI []).length : Int) = above) = (List.range above.toNat).all (fun i => xs.contains (i : Int)) := by
  have hm : ∀ y, y ∈ xs.foldl addI [] ↔ y ∈ xs := fun y => by rw [addI_mem]; simp
  have hd := addI_nodup xs [] List.nodup_nil
  have hn : ((xs.foldl addI []).map Int.toNat).Nodup := by
    rw [List.Nodup, List.pairwise_map]
    refine List.Pairwise.imp_of_mem (fun {a b} ha hb hne e => hne ?_) hd
    have h1 := h a ((hm a).1 ha)
    have h2 := h b ((hm b).1 hb)
    omega
  have hc := addKey_cover (xs := (xs.foldl addI []).map Int.toNat) (m := above.toNat) (by
    intro x hx
    obtain ⟨y, hy, rfl⟩ := List.mem_map.1 hx
    have := h y ((hm y).1 hy)
    omega) hn
  rw [List.length_map] at hc
  rw [Bool.eq_iff_iff]
  simp only [decide_eq_true_eq, List.all_eq_true, List.mem_range]
  constructor
  · intro hl i hi
    have := hc.1 (by omega) i hi
    obtain ⟨y, hy, hyi⟩ := List.mem_map.1 this
    have h1 := h y ((hm y).1 hy)
    have : (i : Int) = y := by omega
    rw [this]
    simpa using (hm y).1 hy
  · intro ha
    have := hc.2 (fun i hi => by
      have h1 : (i : Int) ∈ xs := by simpa using ha i hi
      exact List.mem_map.2 ⟨(i : Int), (hm _).2 h1, by omega⟩)
    omega

abbrev one1 : DataW Unit := .lit (.int .i64 1)
def litsI (xs : List Int) : List Lit := xs.map (Lit.int .i64)
theorem litsI_key (xs : List Int) : ∀ x ∈ litsI xs, WideAt.IsKeyLit x := by
  intro x hx
  obtain ⟨y, _, rfl⟩ := List.mem_map.1 hx
  trivial
theorem size_lits (xs : List Int) : Maps.size (Maps.setOf one1 (litsI xs)) = (xs.foldl addI []).length := by
  rw [Maps.size_setOf _ _ (litsI_key xs)]
  have := addKey_int xs []
  rw [List.map_nil] at this
  unfold litsI
  rw [this, List.length_map]
theorem wf64 {z : Int} (h : I64 z) : (Lit.int .i64 z).wf = true := by
  unfold I64 at h
  simp [Lit.wf, IntKind.min, IntKind.max, IntKind.signed, IntKind.bits]
  omega
theorem take_snocI {up : List Int} {k : Nat} {z : Int} (h : up[k]? = some z) : litsI (up.take (k + 1)) = litsI (up.take k) ++ [.int .i64 z] := by
  obtain ⟨hk, rfl⟩ := List.getElem?_eq_some_iff.1 h
  unfold litsI
  rw [List.take_succ_eq_append_getElem hk, List.map_append]
  rfl
theorem Rd.intC {w : World} {A : Option Addr} {n k : Nat} {zs : List Int} (h : Rd w 1 A n (zs.map (Value.int .i64))) (hk : k < n) : ∃ ad z, A = some ad ∧ zs[k]? = some z ∧ w.cell? (ad.add k) = some (.int .i64 z) := by
  obtain ⟨ad, u, e, _, hx, hc⟩ := Reads.at_ h hk
  rw [List.getElem?_map] at hx
  cases hz : zs[k]? with
  | none => rw [hz] at hx; cases hx
  | some z =>
    rw [hz] at hx
    simp at hx
    subst hx
    exact ⟨ad, z, e, rfl, hc⟩

set_option maxRecDepth 100000 in
set_option maxHeartbeats 1000000 in
theorem tree_any (A : Option Addr) (n c : Nat) (up : List Int) (m : Nat) (above : Int) (w : World) (hr : Rd w 1 A n (up.map (Value.int .i64))) (hI : ∀ z ∈ up, I64 z) (hn : n ≤ 100000) (hm : m ≤ 9223372036854775807) (ha : I64 above) :
    Calls Try.prog 112 #[.slice A n c, .int .i64 m, .int .i64 above] w fun e w' => e = .returned (.bool (treeOk up m above)) ∧ Bel w w' := by
  have hlen : Hid (up.length = n) := by have := hr.len; show _ = _; simpa using this
  obtain ⟨a0, a1⟩ := ha
  by_cases h0 : above ≤ 0
  · have HT : Hid (treeOk up m above = decide (n = 0)) := by
      show _ = _
      rw [treeOk_top h0, ← hlen.out]
      cases up <;> simp
    go_enter Try.func112, Try.ntmps112
    go_wp2
    go_ret
    rw [HT.out]
    refine ⟨ret_bool ?_, Bel.refl _⟩
    by_cases h : n = 0 <;> simp [h]
  · have h0' : 0 < above := by omega
    have d0 : decide (above ≤ 0) = false := by simp; omega
    by_cases hl : n = m
    · subst hl
      have HT : Hid (treeOk up n above = (up.all (fun n => decide (0 ≤ n ∧ n < above)) && (List.range above.toNat).all (fun i => up.contains (i : Int)))) := by
        show _ = _
        unfold treeOk
        rw [if_neg h0, hlen.out]
        simp
      have hmm := @run_makeMap Try.prog
      have hHI := Lib.hid hI
      have hHr := Lib.hid hr
      clear hI
      go_enter Try.func112, Try.ntmps112
      go_wp2_with fail
      have M0 : Hid ((w.alloc (.map #[] 0)).ownsMap Try.prog 3 (plainElem Try.prog 3) w.heap.size 0 (Maps.setOf one1 (litsI (up.take 0)))) := World.ownsMap_made _ _ _ _
      have B0 : Hid (Bel w (w.alloc (.map #[] 0))) := (Bel.refl w).alloc _
      have A0 : Hid (∀ z ∈ up.take 0, 0 ≤ z ∧ z < above) := by show ∀ z ∈ up.take 0, _; simp
      go_loopg [22] n (fun gg i wr => ∃ k : Nat, gg = n - k ∧ k ≤ n ∧ i = .int .i64 k ∧ Hid (wr.ownsMap Try.prog 3 (plainElem (H := Unit) Try.prog 3) w.heap.size k (Maps.setOf one1 (litsI (up.take k)))) ∧ Hid (Bel w wr) ∧ Hid (∀ z ∈ up.take k, 0 ≤ z ∧ z < above))
      case atStart => exact ⟨0, rfl, by omega, rfl, M0, B0, A0⟩
      case round =>
        clear M0 B0 A0
        obtain ⟨k, hgk, hk, rfl, hM, hB, hA⟩ := hrel
        have Hgk := Lib.hid hgk
        clear hgk
        by_cases hlt : k < n
        · obtain ⟨ad, z, rfl, hz, hc⟩ := Rd.intC (hHr.out.bel hB.out) hlt
          obtain ⟨z0, z1⟩ := hHI.out z (List.mem_of_getElem? hz)
          have Hz := Lib.hid hz
          have hzm := Lib.hid (List.mem_of_getElem? hz)
          clear hz
          by_cases hz0 : 0 ≤ z
          · by_cases hz1 : z < above
            · have HA2 : Hid (∀ y ∈ up.take (k + 1), 0 ≤ y ∧ y < above) := by
                show ∀ y ∈ up.take (k + 1), _
                obtain ⟨hk', rfl⟩ := List.getElem?_eq_some_iff.1 Hz.out
                rw [List.take_succ_eq_append_getElem hk']
                intro y hy
                rcases List.mem_append.1 hy with hy | hy
                · exact hA.out y hy
                · simp at hy; subst hy; exact ⟨hz0, hz1⟩
              go_wp2_with ((with_reducible show wpList _ _ _ (⟨_, .mapUpdate _ _ _ _, _, _, _, _⟩ :: _) _ _); refine wpList_mapUpdate_own _ rfl (.tmp 33) (.tmp 34) _ 175 rfl 3 3 (Maps.int_keyed Try.underlying3) Try.underlying175 _ w.heap.size k _ rfl hM.out (by unfold maxLen; omega) _ _ (.int .i64 z) rfl rfl (Maps.keyOf_int_mk Try.underlying3 (wf64 ⟨z0, z1⟩)) one1 [] (plainElem_int Try.underlying3 (wf64 (by unfold I64; omega))) ?_; intro w1 hown1 hgrow1)
              go_roundg (n - (k + 1))
              case rel => exact ⟨k + 1, rfl, by omega, by go_num, by show World.ownsMap _ _ _ _ _ _ _; rw [take_snocI Hz.out, Maps.setOf_snoc]; exact hown1, hB.out.grownAt hgrow1 (Nat.le_refl _), HA2⟩
              case measure => rw [Hgk.out]; omega
            · have HF : Hid (treeOk up n above = false) := by
                show _ = _
                rw [HT.out, Bool.and_eq_false_iff]
                left
                rw [← Bool.not_eq_true, List.all_eq_true]
                intro h
                have := h z hzm.out
                simp at this
                omega
              go_wp2
              go_ret
              rw [HF.out]
              exact ⟨rfl, hB.out⟩
          · have HF : Hid (treeOk up n above = false) := by
              show _ = _
              rw [HT.out, Bool.and_eq_false_iff]
              left
              rw [← Bool.not_eq_true, List.all_eq_true]
              intro h
              have := h z hzm.out
              simp at this
              omega
            go_wp2
            go_ret
            rw [HF.out]
            exact ⟨rfl, hB.out⟩
        · have hkn : Hid (up.take k = up) := by show _ = _; exact List.take_of_length_le (by have := hlen.out; omega)
          rw [hkn.out] at hM hA
          have HF : Hid (treeOk up n above = decide (((Maps.size (Maps.setOf one1 (litsI up)) : Nat) : Int) = above)) := by
            show _ = _
            rw [HT.out, size_lits, addI_cover h0' hA.out]
            have : (up.all fun n => decide (0 ≤ n ∧ n < above)) = true := by rw [List.all_eq_true]; intro y hy; simpa using hA.out y hy
            rw [this, Bool.true_and]
          go_wp2_with ((with_reducible show wpList _ _ _ (⟨some 37, _, _, _, _, _⟩ :: _) _ _); refine wpList_len_own _ rfl (.tmp 36) 175 rfl 3 3 Try.underlying175 _ w.heap.size k _ rfl hM.out ?_)
          go_ret
          rw [HF.out]
          refine ⟨ret_bool ?_, hB.out⟩
          rw [Bool.eq_iff_iff]; simp
    · have HF : Hid (treeOk up m above = false) := by
        show _ = _
        unfold treeOk
        rw [if_neg h0, hlen.out]
        simp [hl]
      go_enter Try.func112, Try.ntmps112
      go_wp2
      go_ret
      rw [HF.out]
      exact ⟨rfl, Bel.refl _⟩

/-- What a tier in memory says. -/
abbrev Tir.con (t : Tir) : TC := ⟨t.nm, t.ts.l, t.up.l⟩

set_option maxRecDepth 100000 in
set_option maxHeartbeats 1000000 in
theorem trcheck_any (t : Tir) (above : Int) (w : World) (ht : t.rd w) (hn : t.up.n ≤ 100000) (ha : I64 above) :
    Calls Try.prog 103 #[.agg t.cs, .int .i64 above] w fun e w' => e = .returned (.int .i64 (tierErr t.con above)) ∧ Bel w w' := by
  have hW := (Bel.refl w).alloc (.cells t.cs 77)
  have h1 := ht.mono hW
  obtain ⟨hnm, hts, hup⟩ := ht
  have htl : Hid (t.ts.l.length = t.ts.n) := hts.len
  have hn63 := hts.n63
  obtain ⟨nm, ⟨A, n, c, ts⟩, ⟨A2, n2, c2, up⟩⟩ := t
  simp only [Tir.cs, Tir.con] at *
  have HR := Lib.hid h1.ts.texts
  have HX := Lib.hid h1.ts.txok
  have HU := Lib.hid h1.up.ints
  have HUI := Lib.hid h1.up.all
  have HW := Lib.hid hW
  clear hW h1 hts hup
  cases hN : isName nm with
  | false =>
    have HE : Hid (tierErr ⟨nm, ts, up⟩ above = 2) := by show _ = _; unfold tierErr; simp [hN]
    go_enter Try.func103, Try.ntmps103
    go_wp2_with fail
    refine (name_any nm _ (by omega)).mono ?_; rintro e w1 ⟨rfl, rfl⟩
    rw [hN, show errOf false = 2 from rfl]
    go_wp2
    go_ret
    rw [HE.out]
    exact ⟨rfl, HW.out⟩
  | true =>
    by_cases hl : 1 ≤ n ∧ n ≤ 200
    · obtain ⟨hl1, hl2⟩ := hl
      have d1 : decide ((n : Int) < 1) = false := by simp; omega
      have d2 : decide ((200 : Int) < n) = false := by simp; omega
      by_cases hE : rowErr ts = 0
      · have HE : Hid (tierErr ⟨nm, ts, up⟩ above = if treeOk up n above then 0 else 14) := by
          show _ = _
          unfold tierErr
          simp only [hN, if_true]
          rw [if_neg (by have := htl.out; omega), if_neg (by omega), htl.out]
        have HE0 := Lib.hid hE
        clear hE
        go_enter Try.func103, Try.ntmps103
        go_wp2_with fail
        refine (name_any nm _ (by omega)).mono ?_; rintro e w1 ⟨rfl, rfl⟩
        rw [hN, show errOf true = 0 from rfl]
        go_wp2_with fail
        refine (trow_any A n c ts _ HR.out HX.out (by omega)).mono ?_; rintro e w1 ⟨rfl, rfl⟩
        rw [HE0.out]
        go_wp2_with fail
        refine (tree_any A2 n2 c2 up n above _ HU.out HUI.out hn (by omega) ha).mono ?_; rintro e w1 ⟨rfl, hb1⟩
        cases hT : treeOk up n above with
        | false =>
          rw [hT] at HE
          go_wp2
          go_ret
          rw [HE.out]
          exact ⟨rfl, HW.out.trans hb1⟩
        | true =>
          rw [hT] at HE
          go_wp2
          go_ret
          rw [HE.out]
          exact ⟨rfl, HW.out.trans hb1⟩
      · have HE : Hid (tierErr ⟨nm, ts, up⟩ above = rowErr ts) := by
          show _ = _
          unfold tierErr
          simp only [hN, if_true]
          rw [if_neg (by have := htl.out; omega), if_pos hE]
        have dE : (rowErr ts != 0) = true := by simpa using hE
        have dE2 : (rowErr ts == 0) = false := by simpa using hE
        clear hE
        go_enter Try.func103, Try.ntmps103
        go_wp2_with fail
        refine (name_any nm _ (by omega)).mono ?_; rintro e w1 ⟨rfl, rfl⟩
        rw [hN, show errOf true = 0 from rfl]
        go_wp2_with fail
        refine (trow_any A n c ts _ HR.out HX.out (by omega)).mono ?_; rintro e w1 ⟨rfl, rfl⟩
        go_wp2
        go_ret
        rw [HE.out]
        exact ⟨rfl, HW.out⟩
    · have HE : Hid (tierErr ⟨nm, ts, up⟩ above = 5) := by
        show _ = _
        unfold tierErr
        simp only [hN, if_true]
        rw [if_pos (by have := htl.out; omega)]
      rcases (show n < 1 ∨ (1 ≤ n ∧ 200 < n) by omega) with h | ⟨h, h'⟩
      all_goals
        first | (have d1 : decide ((n : Int) < 1) = true := by simp; omega) | (have d1 : decide ((n : Int) < 1) = false := by simp; omega)
        first | (have d2 : decide ((200 : Int) < n) = true := by simp; omega) | (have d2 : decide ((200 : Int) < n) = false := by simp; omega)
        clear hl
        go_enter Try.func103, Try.ntmps103
        go_wp2_with fail
        refine (name_any nm _ (by omega)).mono ?_; rintro e w1 ⟨rfl, rfl⟩
        rw [hN, show errOf true = 0 from rfl]
        go_wp2
        go_ret
        rw [HE.out]
        exact ⟨rfl, HW.out⟩

end Go.Proofs.Ytelnhhbefdfeoaa

namespace Go.Proofs.Ytelnhhbefdfeoaa
open Go.RowKit
set_option linter.unusedVariables false
set_option linter.unusedSimpArgs false

set_option maxRecDepth 100000 in
set_option maxHeartbeats 1000000 in
theorem rin_any (A : Option Addr) (n c : Nat) (up : List Int) (x : Int) (w : World) (hr : Rd w 1 A n (up.map (Value.int .i64))) (hn : n ≤ 9223372036854775806) :
    Calls Try.prog 111 #[.slice A n c, .int .i64 x] w fun e w' => e = .returned (.bool (up.contains x)) ∧ w = w' := by
  have hlen : Hid (up.length = n) := by have := hr.len; show _ = _; simpa using this
  have HF0 : Hid (up.contains x = (up.drop 0).contains x) := rfl
  go_enter Try.func111, Try.ntmps111
  go_wp2
  go_loopg [9] n (fun gg i wr => ∃ k : Nat, gg = n - k ∧ k ≤ n ∧ i = .int .i64 k ∧ wr = w ∧ Hid (up.contains x = (up.drop k).contains x))
  case atStart => exact ⟨0, rfl, by omega, rfl, rfl, HF0⟩
  case round =>
    clear HF0
    obtain ⟨k, hgk, hk, rfl, rfl, hF⟩ := hrel
    have Hgk := Lib.hid hgk
    clear hgk
    by_cases hlt : k < n
    · obtain ⟨ad, z, rfl, hz, hc⟩ := Rd.intC hr hlt
      have hd : up.drop k = z :: up.drop (k + 1) := by
        obtain ⟨hk', rfl⟩ := List.getElem?_eq_some_iff.1 hz
        exact List.drop_eq_getElem_cons hk'
      by_cases hzx : z = x
      · have HN : Hid (up.contains x = true) := by show _ = _; rw [hF.out, hd, hzx]; simp
        have e1 : (z == x) = true := by simp [hzx]
        clear hF hd hz hzx
        go_wp2
        go_ret
        rw [HN.out]
        exact ⟨rfl, rfl⟩
      · have HN : Hid (up.contains x = (up.drop (k + 1)).contains x) := by
          show _ = _
          rw [hF.out, hd, List.contains_cons]
          have : (x == z) = false := by simp; exact fun e => hzx e.symm
          rw [this, Bool.false_or]
        have e1 : (z == x) = false := by simp [hzx]
        clear hF hd hz hzx
        go_wp2
        go_roundg (n - (k + 1))
        case rel => exact ⟨k + 1, rfl, by omega, by go_num, rfl, HN⟩
        case measure => rw [Hgk.out]; omega
    · have HN : Hid (up.contains x = false) := by show _ = _; rw [hF.out, List.drop_of_length_le (by have := hlen.out; omega)]; rfl
      clear hF
      go_wp2
      go_ret
      rw [HN.out]
      exact ⟨rfl, rfl⟩

theorem addI_len (xs : List Int) : ∀ acc : List Int, (xs.foldl addI acc).length ≤ acc.length + xs.length := by
  induction xs with
  | nil => intro acc; simp
  | cons x xs ih =>
    intro acc
    rw [List.foldl_cons]
    have h1 := ih (addI acc x)
    have h2 : (addI acc x).length ≤ acc.length + 1 := by unfold addI; split <;> simp
    simp only [List.length_cons]
    omega
theorem all_dropI {up : List Int} {above : Int} {k : Nat} {z : Int} (hz : up[k]? = some z) : (up.drop k).all (fun n => decide (0 ≤ n ∧ n < above)) = (decide (0 ≤ z ∧ z < above) && (up.drop (k + 1)).all (fun n => decide (0 ≤ n ∧ n < above))) := by
  obtain ⟨hk', rfl⟩ := List.getElem?_eq_some_iff.1 hz
  rw [List.drop_eq_getElem_cons hk', List.all_cons]

set_option maxRecDepth 100000 in
set_option maxHeartbeats 1000000 in
theorem rtree_any (t : Tir) (above : Int) (w : World) (ht : t.rd w) (hn : t.ts.n ≤ 200) (ha : I64 above) :
    Calls Try.prog 100 #[.agg t.cs, .int .i64 above] w fun e w' => e = .returned (.bool (treeOk t.up.l t.ts.n above)) ∧ Bel w w' := by
  have hW := (Bel.refl w).alloc (.cells t.cs 77)
  have h1 := ht.mono hW
  obtain ⟨hnm, hts, hup⟩ := ht
  have htl : Hid (t.ts.l.length = t.ts.n) := hts.len
  have hul : Hid (t.up.l.length = t.up.n) := hup.len
  have hn63 := hts.n63
  have hu63 := hup.n63
  obtain ⟨nm, ⟨A, n, c, ts⟩, ⟨A2, n2, c2, up⟩⟩ := t
  simp only [Tir.cs, Tir.con] at *
  have HR := Lib.hid h1.ts.texts
  have HX := Lib.hid h1.ts.txok
  have HU := Lib.hid h1.up.ints
  have HUI := Lib.hid h1.up.all
  have HW := Lib.hid hW
  clear hW h1 hts hup
  obtain ⟨a0, a1⟩ := ha
  have hBK := Blk.new w 77 #[.string ⟨nm.toArray⟩, .slice A n c, .slice A2 n2 c2]
  by_cases h0 : above ≤ 0
  · have HT : Hid (treeOk up n above = decide (n2 = 0)) := by
      show _ = _
      rw [treeOk_top h0, ← hul.out]
      cases up <;> simp
    go_enter Try.func100, Try.ntmps100
    go_wp2
    go_ret
    rw [HT.out]
    refine ⟨ret_bool ?_, HW.out⟩
    by_cases h : n2 = 0 <;> simp [h]
  · have d0 : decide (above ≤ 0) = false := by simp; omega
    by_cases hl : n2 = n
    · subst hl
      by_cases h200 : 200 < above
      · have d2 : decide ((200 : Int) < above) = true := by simp; omega
        have HF : Hid (treeOk up n2 above = false) := by
          show _ = _
          rw [← Bool.not_eq_true]
          intro hT
          obtain ⟨b1, b2, b3⟩ := treeOk_up (by omega) hT
          have := (addI_cover (xs := up) (above := above) (by omega) b2)
          have h4 : (List.range above.toNat).all (fun i => up.contains (i : Int)) = true := by
            rw [List.all_eq_true]
            intro i hi
            have := b3 i (by have := List.mem_range.1 hi; omega)
            simpa using this
          rw [h4] at this
          simp only [decide_eq_true_eq] at this
          have h5 := addI_len up []
          simp at h5
          omega
        go_enter Try.func100, Try.ntmps100
        go_wp2
        go_ret
        rw [HF.out]
        exact ⟨rfl, HW.out⟩
      · have d2 : decide ((200 : Int) < above) = false := by simp; omega
        have HT : Hid (treeOk up n2 above = ((up.drop 0).all (fun n => decide (0 ≤ n ∧ n < above)) && (List.range above.toNat).all (fun i => up.contains (i : Int)))) := by
          show _ = _
          unfold treeOk
          rw [if_neg h0, hul.out]
          simp
        go_enter Try.func100, Try.ntmps100
        go_wp2_with fail
        have hzz : w.heap.size < (w.alloc (.cells #[.string ⟨nm.toArray⟩, .slice A n2 c, .slice A2 n2 c2] 77)).heap.size := by simp
        have cu := hBK.cell 2
        simp only [List.getElem?_toArray, List.getElem?_cons_succ, List.getElem?_cons_zero] at cu
        generalize w.alloc (.cells #[.string ⟨nm.toArray⟩, .slice A n2 c, .slice A2 n2 c2] 77) = W at *
        clear hBK
        go_loopg [28] n2 (fun gg i wr => ∃ k : Nat, gg = n2 - k ∧ k ≤ n2 ∧ i = .int .i64 k ∧ wr = W ∧ Hid (treeOk up n2 above = ((up.drop k).all (fun n => decide (0 ≤ n ∧ n < above)) && (List.range above.toNat).all (fun i => up.contains (i : Int)))))
        case atStart => exact ⟨0, rfl, by omega, rfl, rfl, HT⟩
        case round =>
          clear HT
          obtain ⟨k, hgk, hk, rfl, rfl, hF⟩ := hrel
          have Hgk := Lib.hid hgk
          clear hgk
          by_cases hlt : k < n2
          · obtain ⟨ad, z, rfl, hz, hc⟩ := Rd.intC HU.out hlt
            obtain ⟨z0, z1⟩ := HUI.out z (List.mem_of_getElem? hz)
            have HS := Lib.hid (all_dropI (above := above) hz)
            clear hz
            by_cases hz0 : 0 ≤ z
            · by_cases hz1 : z < above
              · have HN : Hid (treeOk up n2 above = ((up.drop (k + 1)).all (fun n => decide (0 ≤ n ∧ n < above)) && (List.range above.toNat).all (fun i => up.contains (i : Int)))) := by
                  show _ = _
                  rw [hF.out, HS.out]
                  simp [hz0, hz1]
                clear hF HS
                go_wp2
                go_roundg (n2 - (k + 1))
                case rel => exact ⟨k + 1, rfl, by omega, by go_num, rfl, HN⟩
                case measure => rw [Hgk.out]; omega
              · have HN : Hid (treeOk up n2 above = false) := by show _ = _; rw [hF.out, HS.out]; simp [hz1]
                clear hF HS
                go_wp2
                go_ret
                rw [HN.out]
                exact ⟨rfl, HW.out⟩
            · have HN : Hid (treeOk up n2 above = false) := by show _ = _; rw [hF.out, HS.out]; simp [hz0]
              clear hF HS
              go_wp2
              go_ret
              rw [HN.out]
              exact ⟨rfl, HW.out⟩
          · have HN : Hid (treeOk up n2 above = (List.range' 0 (above.toNat - 0)).all (fun i => up.contains (i : Int))) := by
              show _ = _
              rw [hF.out, List.drop_of_length_le (by have := hul.out; omega), List.range_eq_range']
              simp
            clear hF
            go_wp2_with fail
            go_loopg [7] above.toNat (fun gg i wx => ∃ k : Nat, gg = above.toNat - k ∧ (k : Int) ≤ above ∧ i = .int .i64 k ∧ wx = wr ∧ Hid (treeOk up n2 above = (List.range' k (above.toNat - k)).all (fun i => up.contains (i : Int))))
            case atStart => exact ⟨0, rfl, by omega, rfl, rfl, HN⟩
            case round =>
              clear HN
              obtain ⟨j, hgj, hj, rfl, rfl, hF⟩ := hrel
              have Hgj := Lib.hid hgj
              clear hgj
              by_cases hjl : (j : Int) < above
              · have HS : Hid ((List.range' j (above.toNat - j)).all (fun i => up.contains (i : Int)) = (up.contains (j : Int) && (List.range' (j + 1) (above.toNat - (j + 1))).all (fun i => up.contains (i : Int)))) := by
                  show _ = _
                  rw [show above.toNat - j = (above.toNat - (j + 1)) + 1 by omega, List.range'_succ, List.all_cons]
                go_wp2_with fail
                refine (rin_any A2 n2 c2 up j _ HU.out (by omega)).mono ?_; rintro e w1 ⟨rfl, rfl⟩
                cases hC : up.contains (j : Int) with
                | false =>
                  have HN : Hid (treeOk up n2 above = false) := by show _ = _; rw [hF.out, HS.out, hC]; rfl
                  clear hF HS hC
                  go_wp2
                  go_ret
                  rw [HN.out]
                  exact ⟨rfl, HW.out⟩
                | true =>
                  have HN : Hid (treeOk up n2 above = (List.range' (j + 1) (above.toNat - (j + 1))).all (fun i => up.contains (i : Int))) := by show _ = _; rw [hF.out, HS.out, hC]; rfl
                  clear hF HS hC
                  go_wp2
                  go_roundg (above.toNat - (j + 1))
                  case rel => exact ⟨j + 1, rfl, by omega, by go_num, rfl, HN⟩
                  case measure => rw [Hgj.out]; omega
              · have HN : Hid (treeOk up n2 above = true) := by show _ = _; rw [hF.out, show above.toNat - j = 0 by omega]; rfl
                clear hF
                go_wp2
                go_ret
                rw [HN.out]
                exact ⟨rfl, HW.out⟩
    · have HF : Hid (treeOk up n above = false) := by
        show _ = _
        unfold treeOk
        rw [if_neg h0, hul.out]
        simp [hl]
      have dl : ((n2 : Int) != (n : Int)) = true := by simp; omega
      have dl2 : ((n2 : Int) == (n : Int)) = false := by simp; omega
      go_enter Try.func100, Try.ntmps100
      go_wp2
      go_ret
      rw [HF.out]
      exact ⟨rfl, HW.out⟩

set_option maxRecDepth 100000 in
set_option maxHeartbeats 1000000 in
theorem trwrong_any (t : Tir) (above : Int) (w : World) (ht : t.rd w) (ha : I64 above) :
    Calls Try.prog 77 #[.agg t.cs, .int .i64 above] w fun e w' => e = .returned (.int .i64 (tierErr t.con above)) ∧ Bel w w' := by
  have HTR := Lib.hid (fun (hl : t.ts.n ≤ 200) w' (hb : Bel w w') => rtree_any t above w' (ht.mono hb) hl ha)
  have hW := (Bel.refl w).alloc (.cells t.cs 77)
  have h1 := ht.mono hW
  obtain ⟨hnm, hts, hup⟩ := ht
  have htl : Hid (t.ts.l.length = t.ts.n) := hts.len
  have hul : Hid (t.up.l.length = t.up.n) := hup.len
  have hn63 := hts.n63
  obtain ⟨nm, ⟨A, n, c, ts⟩, ⟨A2, n2, c2, up⟩⟩ := t
  simp only [Tir.cs, Tir.con] at *
  have HR := Lib.hid h1.ts.texts
  have HX := Lib.hid h1.ts.txok
  have HU := Lib.hid h1.up.ints
  have HUI := Lib.hid h1.up.all
  have HW := Lib.hid hW
  clear hW h1 hts hup
  cases hN : isName nm with
  | false =>
    have HE : Hid (tierErr ⟨nm, ts, up⟩ above = 2) := by show _ = _; unfold tierErr; simp [hN]
    go_enter Try.func77, Try.ntmps77
    go_wp2_with fail
    refine (rname_any nm _ (by omega)).mono ?_; rintro e w1 ⟨rfl, rfl⟩
    rw [hN]
    go_wp2
    go_ret
    rw [HE.out]
    exact ⟨rfl, HW.out⟩
  | true =>
    by_cases hl : 1 ≤ n ∧ n ≤ 200
    · obtain ⟨hl1, hl2⟩ := hl
      have d1 : decide ((n : Int) < 1) = false := by simp; omega
      have d2 : decide ((200 : Int) < n) = false := by simp; omega
      have HTR2 := Lib.hid (HTR.out hl2)
      clear HTR
      by_cases hE : rowErr ts = 0
      · have HE : Hid (tierErr ⟨nm, ts, up⟩ above = if treeOk up n above then 0 else 14) := by
          show _ = _
          unfold tierErr
          simp only [hN, if_true]
          rw [if_neg (by have := htl.out; omega), if_neg (by omega), htl.out]
        have HE0 := Lib.hid hE
        clear hE
        go_enter Try.func77, Try.ntmps77
        go_wp2_with fail
        refine (rname_any nm _ (by omega)).mono ?_; rintro e w1 ⟨rfl, rfl⟩
        rw [hN]
        go_wp2_with fail
        refine (rtrow_any A n c ts _ HR.out HX.out (by omega)).mono ?_; rintro e w1 ⟨rfl, hb1⟩
        rw [HE0.out]
        have q1 := ((Blk.new w 77 #[.string ⟨nm.toArray⟩, .slice A n c, .slice A2 n2 c2]).bel hb1)
        have HB1 := Lib.hid (HW.out.trans hb1)
        clear hb1
        go_wp2_with ((with_reducible show wpList _ _ _ (⟨some 26, _, _, _, _, _⟩ :: _) _ _); refine wpList_load_blk rfl rowTir (.tmp 2) rfl w.heap.size rfl q1 rfl ?_)
        refine (HTR2.out _ HB1.out).mono ?_; rintro e w2 ⟨rfl, hb2⟩
        cases hT : treeOk up n above with
        | false =>
          rw [hT] at HE
          go_wp2
          go_ret
          rw [HE.out]
          exact ⟨rfl, HB1.out.trans hb2⟩
        | true =>
          rw [hT] at HE
          go_wp2
          go_ret
          rw [HE.out]
          exact ⟨rfl, HB1.out.trans hb2⟩
      · have HE : Hid (tierErr ⟨nm, ts, up⟩ above = rowErr ts) := by
          show _ = _
          unfold tierErr
          simp only [hN, if_true]
          rw [if_neg (by have := htl.out; omega), if_pos hE]
        have dE : (rowErr ts != 0) = true := by simpa using hE
        have dE2 : (rowErr ts == 0) = false := by simpa using hE
        clear hE
        go_enter Try.func77, Try.ntmps77
        go_wp2_with fail
        refine (rname_any nm _ (by omega)).mono ?_; rintro e w1 ⟨rfl, rfl⟩
        rw [hN]
        go_wp2_with fail
        refine (rtrow_any A n c ts _ HR.out HX.out (by omega)).mono ?_; rintro e w1 ⟨rfl, hb1⟩
        go_wp2
        go_ret
        rw [HE.out]
        exact ⟨rfl, HW.out.trans hb1⟩
    · have HE : Hid (tierErr ⟨nm, ts, up⟩ above = 5) := by
        show _ = _
        unfold tierErr
        simp only [hN, if_true]
        rw [if_pos (by have := htl.out; omega)]
      rcases (show n < 1 ∨ (1 ≤ n ∧ 200 < n) by omega) with h | ⟨h, h'⟩
      all_goals
        first | (have d1 : decide ((n : Int) < 1) = true := by simp; omega) | (have d1 : decide ((n : Int) < 1) = false := by simp; omega)
        first | (have d2 : decide ((200 : Int) < n) = true := by simp; omega) | (have d2 : decide ((200 : Int) < n) = false := by simp; omega)
        clear hl
        go_enter Try.func77, Try.ntmps77
        go_wp2_with fail
        refine (rname_any nm _ (by omega)).mono ?_; rintro e w1 ⟨rfl, rfl⟩
        rw [hN]
        go_wp2
        go_ret
        rw [HE.out]
        exact ⟨rfl, HW.out⟩

end Go.Proofs.Ytelnhhbefdfeoaa

namespace Go.Proofs.Ytelnhhbefdfeoaa
open Go.RowKit
set_option linter.unusedVariables false
set_option linter.unusedSimpArgs false

def tierPutV (t : TC) (above : Int) : List UInt8 × Int := if tierErr t above = 0 then (tierPut t, 0) else ([], tierErr t above)
theorem tierErr_up {t : TC} {above : Int} (h : tierErr t above = 0) : t.up.length ≤ 200 := by
  obtain ⟨_, _, h3, _, h5⟩ := tierErr_zero h
  by_cases h0 : 0 < above
  · have := (treeOk_up h0 h5).1
    omega
  · rw [treeOk_top (by omega)] at h5
    have : t.up = [] := by simpa using h5
    rw [this]
    simp

end Go.Proofs.Ytelnhhbefdfeoaa

namespace Go.Proofs.Ytelnhhbefdfeoaa
open Go.RowKit
set_option linter.unusedVariables false
set_option linter.unusedSimpArgs false

def sameC (a b : TC) : Bool := (a.nm == b.nm) && (a.ts == b.ts) && (a.up == b.up)
theorem sameC_iff (a b : TC) : sameC a b = decide (a = b) := by
  obtain ⟨n1, t1, u1⟩ := a
  obtain ⟨n2, t2, u2⟩ := b
  unfold sameC
  rw [Bool.eq_iff_iff]
  simp [and_assoc]
theorem sameC_self (a : TC) : sameC a a = true := by unfold sameC; simp
theorem intsEq_step {xs ys : List Int} {k : Nat} {a b : Int} (ha : xs[k]? = some a) (hb : ys[k]? = some b) : (xs.drop k == ys.drop k) = ((a == b) && (xs.drop (k + 1) == ys.drop (k + 1))) := by
  obtain ⟨h1, rfl⟩ := List.getElem?_eq_some_iff.1 ha
  obtain ⟨h2, rfl⟩ := List.getElem?_eq_some_iff.1 hb
  rw [List.drop_eq_getElem_cons h1, List.drop_eq_getElem_cons h2]
  rfl
theorem beq_len {α : Type} [BEq α] [LawfulBEq α] {xs ys : List α} (h : xs.length ≠ ys.length) : (xs == ys) = false := by
  rw [beq_eq_false_iff_ne]
  intro e
  exact h (by rw [e])

set_option maxRecDepth 100000 in
set_option maxHeartbeats 1000000 in
theorem trfew_any (t : Tir) (w : World) (ht : t.rd w) :
    Calls Try.prog 48 #[.agg t.cs] w fun e w' => ∃ b : Bool, e = .returned (.bool b) ∧ (b = true → t.ts.n ≤ 220 ∧ t.up.n ≤ 220) ∧ Bel w w' := by
  have hW := (Bel.refl w).alloc (.cells t.cs 77)
  have h1 := ht.mono hW
  obtain ⟨hnm, hts, hup⟩ := ht
  have htl : Hid (t.ts.l.length = t.ts.n) := hts.len
  have hul : Hid (t.up.l.length = t.up.n) := hup.len
  have hn63 := hts.n63
  have hu63 := hup.n63
  obtain ⟨nm, ⟨A, n, c, ts⟩, ⟨A2, n2, c2, up⟩⟩ := t
  simp only [Tir.cs, Tir.con] at *
  have HR := Lib.hid h1.ts.texts
  have HX := Lib.hid h1.ts.txok
  have HU := Lib.hid h1.up.ints
  have HUI := Lib.hid h1.up.all
  have HW := Lib.hid hW
  clear hW h1 hts hup
  have q0 := Blk.new w 77 #[.string ⟨nm.toArray⟩, .slice A n c, .slice A2 n2 c2]
  obtain ⟨g0, g1, g2, _, _, _⟩ := q0.three
  have m0 : (0 : Int) ≤ min (nm.length : Int) 5000 ∧ min (nm.length : Int) 5000 ≤ 5000 := by omega
  obtain ⟨m, hm⟩ : ∃ m : Nat, min (nm.length : Int) 5000 = (m : Int) := ⟨(min (nm.length : Int) 5000).toNat, by omega⟩
  go_enter Try.func48, Try.ntmps48
  go_wp2_with fail
  generalize w.alloc (.cells #[.string ⟨nm.toArray⟩, .slice A n c, .slice A2 n2 c2] 77) = W at *
  have hm5 : m ≤ 5000 := by omega
  have hz := q0.lt
  clear q0 m0 hm
  go_loopg [3, 4] 222 (fun gg s3 i wr => ∃ k x : Nat, gg = 222 - k ∧ k ≤ 221 ∧ k ≤ n ∧ i = .int .i64 k ∧ s3 = .int .i64 x ∧ x ≤ 5000 * (k + 1) ∧ wr = W)
  case atStart => exact ⟨0, m, rfl, by omega, by omega, rfl, rfl, by omega, rfl⟩
  case round =>
    obtain ⟨k, x, hgk, hk, hkn, rfl, rfl, hx, rfl⟩ := hrel
    have Hgk := Lib.hid hgk
    clear hgk
    by_cases hlt : k < n ∧ k ≤ 220
    · obtain ⟨h1, h2⟩ := hlt
      obtain ⟨ad, a, rfl, hak, hc⟩ := HR.out.tx h1
      have ha := HX.out a (List.mem_of_getElem? hak)
      obtain ⟨y, hy⟩ : ∃ y : Nat, min (a.length : Int) 5000 = (y : Int) := ⟨(min (a.length : Int) 5000).toNat, by omega⟩
      have hy5 : y ≤ 5000 := by omega
      have e1 : decide ((k : Int) ≤ 220) = true := by simp; omega
      clear hak
      go_wp2
      go_roundg (222 - (k + 1))
      case rel => exact ⟨k + 1, x + y, rfl, by omega, by omega, by go_num, by go_num, by omega, rfl⟩
      case measure => rw [Hgk.out]; omega
    · have hx2 : (x : Int) ≤ 1200000 := by omega
      have e0 : (decide ((k : Int) < n) = false ∧ decide (k < n) = false ∧ ¬ k < n) ∨ (decide ((k : Int) < n) = true ∧ decide (k < n) = true ∧ k < n ∧ decide ((k : Int) ≤ 220) = false) := by
        by_cases h : k < n
        · right
          refine ⟨by simp; omega, by simp; omega, h, by simp; omega⟩
        · left
          refine ⟨by simp; omega, by simp; omega, h⟩
      clear hlt
      rcases e0 with ⟨e0, e0', e0''⟩ | ⟨e0, e0', e0'', e1⟩
      all_goals
        by_cases h1 : n ≤ 220
        · have f1 : decide ((n : Int) ≤ 220) = true := by simp; omega
          by_cases h2 : n2 ≤ 220
          · have f2 : decide ((n2 : Int) ≤ 220) = true := by simp; omega
            go_wp2
            go_ret
            exact ⟨_, rfl, fun _ => ⟨h1, h2⟩, HW.out⟩
          · have f2 : decide ((n2 : Int) ≤ 220) = false := by simp; omega
            go_wp2
            go_ret
            exact ⟨false, rfl, (fun h => by cases h), HW.out⟩
        · have f1 : decide ((n : Int) ≤ 220) = false := by simp; omega
          go_wp2
          go_ret
          exact ⟨false, rfl, (fun h => by cases h), HW.out⟩

end Go.Proofs.Ytelnhhbefdfeoaa
