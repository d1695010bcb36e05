/- Texts laid together: XTier XTierP XTierW XTierX XTierY XTierZ. -/
import Derived.Test.YtlclllkjnhgbjaaBb
import Derived.Test.YtlclllkjnhgbjaaBc
import Derived.Test.YtlclllkjnhgbjaaBd
import Derived.Maps.OwnSet
import Derived.Maps.OwnOps

namespace Go.Proofs.Ytlclllkjnhgbjaa
open Go.RowKit Go.ChangeShapes Go.WideShapes Go.Deep
set_option linter.unusedVariables false
/-- What Few tells of a schema. -/
def FewPost (P : Prop) (w : World) (e : Ending) (w' : World) : Prop := ∃ b : Bool, e = .returned (.bool b) ∧ (b = true → P) ∧ Bel w w'

/-- A slice, as it is read alone. -/
structure Row.rd {α : Type} [Cel α] (w : World) (x : Row α) : Prop where
  r : Rd w (Cel.size α) x.A x.n (x.l.flatMap Cel.cells)
  all : ∀ a ∈ x.l, Cel.ok w a
  n63 : x.n ≤ 9223372036854775807
section
variable {α : Type} [Cel α] {w w' : World} {x : Row α}
theorem Row.ok.rds (h : x.ok w) : x.rd w := ⟨h.rd, h.all, h.size⟩
theorem Row.rd.mono (h : x.rd w) (hb : Bel w w') : x.rd w' := ⟨h.r.bel hb, fun a ha => Cel.mono hb (h.all a ha), h.n63⟩
theorem Row.rd.len (h : x.rd w) : x.l.length = x.n := rd_len h.r
theorem Row.rd.texts {w : World} {x : Row (List UInt8)} (h : x.rd w) : Rd w 1 x.A x.n (x.l.map tx) := by have := h.r; rwa [flat_texts] at this
theorem Row.rd.ints {w : World} {x : Row Int} (h : x.rd w) : Rd w 1 x.A x.n (x.l.map (Value.int .i64)) := by have := h.r; rwa [flat_ints] at this
theorem Row.rd.txok {w : World} {x : Row (List UInt8)} (h : x.rd w) : TxOk x.l := fun t ht => Nat.le_trans (h.all t ht) (by omega)
theorem Row.nil_rd {α : Type} [Cel α] (w : World) : (Row.mk none 0 0 ([] : List α)).rd w := ⟨Rd.nil, (fun a ha => by cases ha), by show (0 : Nat) ≤ _; omega⟩
end

/-- A tier. -/
structure Tir where
  nm : List UInt8
  ts : Row (List UInt8)
  up : Row Int
abbrev Tir.cs (t : Tir) : Array Value := #[.string ⟨t.nm.toArray⟩, .slice t.ts.A t.ts.n t.ts.c, .slice t.up.A t.up.n t.up.c]
structure Tir.rd (w : World) (t : Tir) : Prop where
  nm : t.nm.length ≤ 140737488351232
  ts : t.ts.rd w
  up : t.up.rd w
theorem Tir.rd.mono {w w' : World} {t : Tir} (h : t.rd w) (hb : Bel w w') : t.rd w' := ⟨h.nm, h.ts.mono hb, h.up.mono hb⟩
instance instCelTir : Cel Tir where
  size := 3
  bytes := 64
  cells t := t.cs.toList
  ok w t := t.rd w
  len _ := rfl
  pos := by omega
  mono hb h := h.mono hb
theorem tir_one (t : Tir) : t.cs.all (·.oneCell') = true := by simp [Value.oneCell']
/-- A dimension. -/
structure Dm where
  nm : List UInt8
  tr : Row Tir
abbrev Dm.cs (d : Dm) : Array Value := #[.string ⟨d.nm.toArray⟩, .slice d.tr.A d.tr.n d.tr.c]
structure Dm.rd (w : World) (d : Dm) : Prop where
  nm : d.nm.length ≤ 140737488351232
  tr : d.tr.rd w
theorem Dm.rd.mono {w w' : World} {d : Dm} (h : d.rd w) (hb : Bel w w') : d.rd w' := ⟨h.nm, h.tr.mono hb⟩
instance instCelDm : Cel Dm where
  size := 2
  bytes := 40
  cells d := d.cs.toList
  ok w d := d.rd w
  len _ := rfl
  pos := by omega
  mono hb h := h.mono hb
theorem dm_one (d : Dm) : d.cs.all (·.oneCell') = true := by simp [Value.oneCell']

theorem E_num : ElemInfo Try.prog 59 3 1 8 := ElemInfo.mk' (z := .int .i64 0) Try.underlying59 (by kernel_rfl) rfl (by omega)

set_option maxRecDepth 100000 in
theorem c_str : Try.prog.cellsOf 9 = 1 := by kernel_rfl
set_option maxRecDepth 100000 in
theorem c_int : Try.prog.cellsOf 3 = 1 := by kernel_rfl
set_option maxRecDepth 100000 in
theorem c_ints : Try.prog.cellsOf 59 = 1 := by kernel_rfl
theorem opens_nums : Opens Try.prog 59 (Row Int) := opens_row Try.underlying59 c_int (by kernel_rfl) (opens_i64 Try.underlying3)
/-- A cell of texts, of numbers, of tiers, at its place. -/
theorem Row.rd.textAt {w : World} {x : Row (List UInt8)} (h : x.rd w) {k : Nat} (hk : k < x.n) : ∃ b o t, x.A = some ⟨b, o, none⟩ ∧ x.l[k]? = some t ∧ t.length ≤ 140737488351232 ∧ w.cell? ⟨b, o + k, none⟩ = some (.string ⟨t.toArray⟩) := by
  obtain ⟨b, o, t, e, ht, hc⟩ := rd_cell rfl h.r hk
  exact ⟨b, o, t, e, ht, h.all t (List.mem_of_getElem? ht), hc _ rfl⟩
theorem Row.rd.intAt {w : World} {x : Row Int} (h : x.rd w) {k : Nat} (hk : k < x.n) : ∃ b o z, x.A = some ⟨b, o, none⟩ ∧ x.l[k]? = some z ∧ I64 z ∧ w.cell? ⟨b, o + k, none⟩ = some (.int .i64 z) := by
  obtain ⟨b, o, z, e, hz, hc⟩ := rd_cell rfl h.r hk
  exact ⟨b, o, z, e, hz, h.all z (List.mem_of_getElem? hz), hc _ rfl⟩
theorem Row.rd.tirAt {w : World} {x : Row Tir} (h : x.rd w) {k : Nat} (hk : k < x.n) : ∃ b o t, x.A = some ⟨b, o, none⟩ ∧ b < w.heap.size ∧ x.l[k]? = some t ∧ t.rd w ∧ w.rangeAt b (o + k * 3) t.cs.toList := by
  obtain ⟨b, o, t, e, hb, ht, hc⟩ := rd_range h.r hk
  exact ⟨b, o, t, e, hb, ht, h.all t (List.mem_of_getElem? ht), hc⟩
theorem Row.rd.dmAt {w : World} {x : Row Dm} (h : x.rd w) {k : Nat} (hk : k < x.n) : ∃ b o t, x.A = some ⟨b, o, none⟩ ∧ b < w.heap.size ∧ x.l[k]? = some t ∧ t.rd w ∧ w.rangeAt b (o + k * 2) t.cs.toList := by
  obtain ⟨b, o, t, e, hb, ht, hc⟩ := rd_range h.r hk
  exact ⟨b, o, t, e, hb, ht, h.all t (List.mem_of_getElem? ht), hc⟩

end Go.Proofs.Ytlclllkjnhgbjaa

namespace Go.Proofs.Ytlclllkjnhgbjaa
open Go.RowKit
set_option linter.unusedVariables false
set_option linter.unusedSimpArgs false

/-- What a tier says. -/
structure TC where
  nm : List UInt8
  ts : List (List UInt8)
  up : List Int
deriving DecidableEq
/-- Do members stand under those above, each of which comes? -/
def treeOk (up : List Int) (members : Nat) (above : Int) : Bool :=
  if above ≤ 0 then up.isEmpty
  else decide (up.length = members) && up.all (fun n => decide (0 ≤ n ∧ n < above)) && (List.range above.toNat).all (fun i => up.contains (i : Int))
def tierErr (t : TC) (above : Int) : Int :=
  if isName t.nm then (if t.ts.length < 1 ∨ 200 < t.ts.length then 5 else if rowErr t.ts ≠ 0 then rowErr t.ts else if treeOk t.up t.ts.length above then 0 else 14) else 2
def upPut (up : List Int) : List UInt8 := up.flatMap fun n => nput n.toNat
def tierPut (t : TC) : List UInt8 := ptext t.nm ++ tput t.ts ++ upPut t.up
/-- So many numbers that are not above another one. -/
def pnums (most : Int) : Nat → List UInt8 → PR (List Int)
  | 0, l => .ok ([], l)
  | n + 1, l =>
    match pnum most l with
    | .error k => .error k
    | .ok (x, r) =>
      match pnums most n r with
      | .error k => .error k
      | .ok (xs, r) => .ok ((x : Int) :: xs, r)
def pups (above : Int) (n : Nat) (l : List UInt8) : PR (List Int) := if 0 < above then pnums (above - 1) n l else .ok ([], l)
/-- A tier is read, and asked whether it may be. -/
def ptierC (above : Int) (t : TC) (r : List UInt8) : PR TC := if tierErr t above = 0 then .ok (t, r) else .error (tierErr t above)
def ptier (above : Int) (l : List UInt8) : PR TC :=
  match ptxt 12 l with
  | .error k => .error k
  | .ok (nm, r) =>
    match tread 200 r with
    | .error k => .error k
    | .ok (ts, r) =>
      match pups above ts.length r with
      | .error k => .error k
      | .ok (up, r) => ptierC above ⟨nm, ts, up⟩ r

theorem rowFrom_range (ts : List (List UInt8)) : ∀ p, rowFrom p ts = 0 ∨ rowFrom p ts = 2 ∨ rowFrom p ts = 4 := by
  induction ts with
  | nil => intro p; exact .inl rfl
  | cons t r ih =>
    intro p
    rw [rowFrom]
    split
    · split
      · exact .inr (.inr rfl)
      · exact ih _
    · exact .inr (.inl rfl)
theorem tierErr_range (t : TC) (above : Int) : tierErr t above = 0 ∨ tierErr t above = 2 ∨ tierErr t above = 4 ∨ tierErr t above = 5 ∨ tierErr t above = 14 := by
  unfold tierErr
  have := rowFrom_range t.ts none
  unfold rowErr
  (repeat' split) <;> omega
theorem tierErr_zero {t : TC} {above : Int} (h : tierErr t above = 0) : isName t.nm = true ∧ 1 ≤ t.ts.length ∧ t.ts.length ≤ 200 ∧ rowErr t.ts = 0 ∧ treeOk t.up t.ts.length above = true := by
  unfold tierErr at h
  split at h
  · rename_i h1
    split at h
    · cases h
    · rename_i h2
      split at h
      · rename_i h3; exact absurd h h3
      · rename_i h3
        split at h
        · rename_i h4
          exact ⟨h1, by omega, by omega, by omega, h4⟩
        · cases h
  · cases h
theorem isName_len {l : List UInt8} (h : isName l = true) : 1 ≤ l.length ∧ l.length ≤ 12 := by
  unfold isName at h
  simp at h
  exact h.1
theorem treeOk_top {up : List Int} {m : Nat} {above : Int} (h : above ≤ 0) : treeOk up m above = up.isEmpty := by unfold treeOk; rw [if_pos h]
theorem treeOk_up {up : List Int} {m : Nat} {above : Int} (h : 0 < above) (ht : treeOk up m above = true) : up.length = m ∧ (∀ n ∈ up, 0 ≤ n ∧ n < above) ∧ ∀ i : Nat, (i : Int) < above → (i : Int) ∈ up := by
  unfold treeOk at ht
  rw [if_neg (by omega)] at ht
  simp only [Bool.and_eq_true, decide_eq_true_eq, List.all_eq_true] at ht
  obtain ⟨⟨h1, h2⟩, h3⟩ := ht
  refine ⟨h1, fun n hn => by simpa using h2 n hn, fun i hi => ?_⟩
  have := h3 i (by simp; omega)
  simpa using this
theorem pnums_put {above : Int} : ∀ {up : List Int}, (∀ n ∈ up, 0 ≤ n ∧ n < above) → above ≤ 9223372036854775807 → ∀ r, pnums (above - 1) up.length (upPut up ++ r) = .ok (up, r) := by
  intro up
  induction up with
  | nil => intro h ha r; rfl
  | cons n up ih =>
    intro h ha r
    have hn := h n (List.mem_cons_self ..)
    have e : upPut (n :: up) ++ r = nput n.toNat ++ (upPut up ++ r) := by unfold upPut; rw [List.flatMap_cons, List.append_assoc]
    rw [List.length_cons, pnums, e, q_pnum (by omega) (by omega)]
    simp only
    rw [ih (fun x hx => h x (List.mem_cons_of_mem _ hx)) ha]
    simp only
    rw [show ((n.toNat : Nat) : Int) = n by omega]
theorem pnums_back {most : Int} : ∀ {n : Nat} {l r : List UInt8} {up : List Int}, pnums most n l = .ok (up, r) → up.length = n ∧ l = upPut up ++ r ∧ ∀ x ∈ up, 0 ≤ x ∧ x ≤ most := by
  intro n
  induction n with
  | zero =>
    intro l r up h
    injection h with h
    injection h with h1 h2
    subst h1
    subst h2
    exact ⟨rfl, rfl, fun x hx => by cases hx⟩
  | succ n ih =>
    intro l r up h
    rw [pnums] at h
    split at h
    · cases h
    · rename_i x r1 hp
      split at h
      · cases h
      · rename_i xs r2 hs
        injection h with h
        injection h with h1 h2
        subst h1
        subst h2
        obtain ⟨a1, a2, a3⟩ := ih hs
        refine ⟨by simp [a1], ?_, fun y hy => ?_⟩
        · rw [q_pnum_back hp, a2]
          unfold upPut
          rw [List.flatMap_cons, List.append_assoc]
          rfl
        · rcases List.mem_cons.1 hy with rfl | hy
          · have := pnum_ok hp
            omega
          · exact a3 y hy
theorem pnums_err {most : Int} : ∀ {n : Nat} {l : List UInt8} {k : Int}, pnums most n l = .error k → k = 3 ∨ k = 5 := by
  intro n
  induction n with
  | zero => intro l k h; cases h
  | succ n ih =>
    intro l k h
    rw [pnums] at h
    split at h
    · rename_i hp
      injection h with h
      subst h
      exact pnum_err hp
    · split at h
      · rename_i hs
        injection h with h
        subst h
        exact ih hs
      · cases h
theorem tread_tput {ts : List (List UInt8)} {most : Int} (h : rowErr ts = 0) (hn : (ts.length : Int) ≤ most) (hb : ts.length ≤ 100000) (r : List UInt8) : tread most (tput ts ++ r) = .ok (ts, r) := by
  unfold tread tput
  rw [List.append_assoc, q_pnum (by omega) hn]
  simp only
  exact treads_tputs (ts := ts) (p := none) (was := []) h (.inr ⟨rfl, rfl⟩) (by simp) r
theorem ptier_put {t : TC} {above : Int} (ha : above ≤ 9223372036854775807) (h : tierErr t above = 0) (r : List UInt8) : ptier above (tierPut t ++ r) = .ok (t, r) := by
  obtain ⟨h1, h2, h3, h4, h5⟩ := tierErr_zero h
  have hl := isName_len h1
  have e : tierPut t ++ r = ptext t.nm ++ (tput t.ts ++ (upPut t.up ++ r)) := by unfold tierPut; simp only [List.append_assoc]
  unfold ptier
  rw [e, q_ptxt (by omega) (by omega)]
  simp only
  rw [tread_tput h4 (by omega) (by omega)]
  simp only
  have hu : pups above t.ts.length (upPut t.up ++ r) = .ok (t.up, r) := by
    unfold pups
    by_cases h0 : 0 < above
    · rw [if_pos h0]
      obtain ⟨a1, a2, _⟩ := treeOk_up h0 h5
      rw [← a1]
      exact pnums_put a2 ha r
    · rw [if_neg h0]
      rw [treeOk_top (by omega)] at h5
      have : t.up = [] := by simpa using h5
      rw [this]
      rfl
  rw [hu]
  simp only
  unfold ptierC
  rw [if_pos h]
theorem ptier_back {above : Int} {l r : List UInt8} {t : TC} (h : ptier above l = .ok (t, r)) : tierErr t above = 0 ∧ l = tierPut t ++ r := by
  unfold ptier at h
  split at h
  · cases h
  · rename_i nm r1 h1
    split at h
    · cases h
    · rename_i ts r2 h2
      split at h
      · cases h
      · rename_i up r3 h3
        unfold ptierC at h
        split at h
        · rename_i h4
          injection h with h
          injection h with h5 h6
          subst h5
          subst h6
          refine ⟨h4, ?_⟩
          have hu : r2 = upPut up ++ r3 := by
            unfold pups at h3
            split at h3
            · exact (pnums_back h3).2.1
            · injection h3 with h3
              injection h3 with h7 h8
              subst h7
              subst h8
              rfl
          unfold tierPut
          rw [q_ptxt_back h1, (tread_back h2).2, hu]
          simp only [List.append_assoc]
        · cases h

theorem nodup_le : ∀ {xs ys : List Nat}, xs.Nodup → (∀ x ∈ xs, x ∈ ys) → xs.length ≤ ys.length
  | [], _, _, _ => by simp
  | x :: xs, ys, hd, hs => by
    obtain ⟨hx, hd'⟩ := List.nodup_cons.1 hd
    have hm := hs x (List.mem_cons_self ..)
    have h1 := nodup_le (xs := xs) (ys := ys.erase x) hd' (fun y hy => (List.mem_erase_of_ne (a := y) (b := x) (by intro e; rw [e] at hy; exact hx hy)).2 (hs y (List.mem_cons_of_mem _ hy)))
    rw [List.length_erase_of_mem hm] at h1
    have := List.length_pos_of_mem hm
    rw [List.length_cons]
    omega
/-- All numbers below another one come among some if and only if there are as many different ones. -/
theorem addKey_cover {xs : List Nat} {m : Nat} (h : ∀ x ∈ xs, x < m) (hd : xs.Nodup) : xs.length = m ↔ ∀ i, i < m → i ∈ xs := by
  constructor
  · intro hl i hi
    by_cases hm : i ∈ xs
    · exact hm
    · exfalso
      have h1 : (i :: xs).Nodup := List.nodup_cons.2 ⟨hm, hd⟩
      have h2 := nodup_le (ys := List.range m) h1 (by
        intro y hy
        rcases List.mem_cons.1 hy with rfl | hy
        · exact List.mem_range.2 hi
        · exact List.mem_range.2 (h y hy))
      simp at h2
      omega
  · intro hc
    have a := nodup_le (ys := List.range m) hd (fun y hy => List.mem_range.2 (h y hy))
    have b := nodup_le (xs := List.range m) (ys := xs) List.nodup_range (fun y hy => hc y (List.mem_range.1 hy))
    simp at a b
    omega

end Go.Proofs.Ytlclllkjnhgbjaa

namespace Go.Proofs.Ytlclllkjnhgbjaa
open Go.RowKit
set_option linter.unusedVariables false
set_option linter.unusedSimpArgs false

/-- The different ones among numbers. -/
def addI (acc : List Int) (x : Int) : List Int := if acc.contains x then acc else acc ++ [x]
theorem addKey_int (xs : List Int) : ∀ acc : List Int, (xs.map (Lit.int .i64)).foldl Maps.addKey (acc.map (Lit.int .i64)) = (xs.foldl addI acc).map (Lit.int .i64) := by
  induction xs with
  | nil => intro acc; rfl
  | cons x xs ih =>
    intro acc
    rw [List.map_cons, List.foldl_cons, List.foldl_cons, ← ih]
    congr 1
    unfold Maps.addKey addI
    have e : ((acc.map (Lit.int .i64)).any fun y => y.sameKey (Lit.int .i64 x)) = acc.contains x := by
      rw [List.any_map, List.contains_eq_any_beq]
      congr 1
      funext y
      simp only [Function.comp, Lit.sameKey]
      by_cases h : y = x <;> simp [h]
      exact fun e => h e.symm
    rw [e]
    split
    · rfl
    · simp
theorem addI_mem (xs : List Int) : ∀ (acc : List Int) (y : Int), y ∈ xs.foldl addI acc ↔ y ∈ acc ∨ y ∈ xs := by
  induction xs with
  | nil => intro acc y; simp
  | cons x xs ih =>
    intro acc y
    rw [List.foldl_cons, ih]
    unfold addI
    split
    · rename_i h
      have hx : x ∈ acc := by simpa using h
      simp only [List.mem_cons]
      constructor
      · rintro (h | h)
        · exact .inl h
        · exact .inr (.inr h)
      · rintro (h | h | h)
        · exact .inl h
        · subst h; exact .inl hx
        · exact .inr h
    · simp only [List.mem_append, List.mem_singleton, List.mem_cons, or_assoc, List.not_mem_nil, or_false]
theorem addI_nodup (xs : List Int) : ∀ acc : List Int, acc.Nodup → (xs.foldl addI acc).Nodup := by
  induction xs with
  | nil => intro acc h; exact h
  | cons x xs ih =>
    intro acc h
    rw [List.foldl_cons]
    apply ih
    unfold addI
    split
    · exact h
    · rename_i hx
      have hx' : x ∉ acc := by simpa using hx
      rw [List.nodup_append]
      exact ⟨h, by simp, fun a ha b hb => by simp at hb; subst hb; exact fun e => hx' (e ▸ ha)⟩
theorem addI_cover {xs : List Int} {above : Int} (h0 : 0 < above) (h : ∀ x ∈ xs, 0 ≤ x ∧ x < above) : decide (((xs.foldl addI []).length : Int) = above) = (List.range above.toNat).all (fun i => xs.contains (i : Int)) := by
  have hm : ∀ y, y ∈ xs.foldl addI [] ↔ y ∈ xs := fun y => by rw [addI_mem]; simp
  have hd := addI_nodup xs [] List.nodup_nil
  have hn : ((xs.foldl addI []).map Int.toNat).Nodup := by
    rw [List.Nodup, List.pairwise_map]
    refine List.Pairwise.imp_of_mem (fun {a b} ha hb hne e => hne ?_) hd
    have h1 := h a ((hm a).1 ha)
    have h2 := h b ((hm b).1 hb)
    omega
  have hc := addKey_cover (xs := (xs.foldl addI []).map Int.toNat) (m := above.toNat) (by
    intro x hx
    obtain ⟨y, hy, rfl⟩ := List.mem_map.1 hx
    have := h y ((hm y).1 hy)
    omega) hn
  rw [List.length_map] at hc
  rw [Bool.eq_iff_iff]
  simp only [decide_eq_true_eq, List.all_eq_true, List.mem_range]
  constructor
  · intro hl i hi
    have := hc.1 (by omega) i hi
    obtain ⟨y, hy, hyi⟩ := List.mem_map.1 this
    have h1 := h y ((hm y).1 hy)
    have : (i : Int) = y := by omega
    rw [this]
    simpa using (hm y).1 hy
  · intro ha
    have := hc.2 (fun i hi => by
      have h1 : (i : Int) ∈ xs := by simpa using ha i hi
      exact List.mem_map.2 ⟨(i : Int), (hm _).2 h1, by omega⟩)
    omega

abbrev one1 : DataW Unit := .lit (.int .i64 1)
def litsI (xs : List Int) : List Lit := xs.map (Lit.int .i64)
theorem litsI_key (xs : List Int) : ∀ x ∈ litsI xs, WideAt.IsKeyLit x := by
  intro x hx
  obtain ⟨y, _, rfl⟩ := List.mem_map.1 hx
  trivial
theorem size_lits (xs : List Int) : Maps.size (Maps.setOf one1 (litsI xs)) = (xs.foldl addI []).length := by
  rw [Maps.size_setOf _ _ (litsI_key xs)]
  have := addKey_int xs []
  rw [List.map_nil] at this
  unfold litsI
  rw [this, List.length_map]
theorem wf64 {z : Int} (h : I64 z) : (Lit.int .i64 z).wf = true := by
  unfold I64 at h
  simp [Lit.wf, IntKind.min, IntKind.max, IntKind.signed, IntKind.bits]
  omega
theorem take_snocI {up : List Int} {k : Nat} {z : Int} (h : up[k]? = some z) : litsI (up.take (k + 1)) = litsI (up.take k) ++ [.int .i64 z] := by
  obtain ⟨hk, rfl⟩ := List.getElem?_eq_some_iff.1 h
  unfold litsI
  rw [List.take_succ_eq_append_getElem hk, List.map_append]
  rfl
theorem Rd.intC {w : World} {A : Option Addr} {n k : Nat} {zs : List Int} (h : Rd w 1 A n (zs.map (Value.int .i64))) (hk : k < n) : ∃ ad z, A = some ad ∧ zs[k]? = some z ∧ w.cell? (ad.add k) = some (.int .i64 z) := by
  obtain ⟨ad, u, e, _, hx, hc⟩ := Reads.at_ h hk
  rw [List.getElem?_map] at hx
  cases hz : zs[k]? with
  | none => rw [hz] at hx; cases hx
  | some z =>
    rw [hz] at hx
    simp at hx
    subst hx
    exact ⟨ad, z, e, rfl, hc⟩

/-- What a tier in memory says. -/
abbrev Tir.con (t : Tir) : TC := ⟨t.nm, t.ts.l, t.up.l⟩

end Go.Proofs.Ytlclllkjnhgbjaa

namespace Go.Proofs.Ytlclllkjnhgbjaa
open Go.RowKit
set_option linter.unusedVariables false
set_option linter.unusedSimpArgs false

theorem addI_len (xs : List Int) : ∀ acc : List Int, (xs.foldl addI acc).length ≤ acc.length + xs.length := by
  induction xs with
  | nil => intro acc; simp
  | cons x xs ih =>
    intro acc
    rw [List.foldl_cons]
    have h1 := ih (addI acc x)
    have h2 : (addI acc x).length ≤ acc.length + 1 := by unfold addI; split <;> simp
    simp only [List.length_cons]
    omega
theorem all_dropI {up : List Int} {above : Int} {k : Nat} {z : Int} (hz : up[k]? = some z) : (up.drop k).all (fun n => decide (0 ≤ n ∧ n < above)) = (decide (0 ≤ z ∧ z < above) && (up.drop (k + 1)).all (fun n => decide (0 ≤ n ∧ n < above))) := by
  obtain ⟨hk', rfl⟩ := List.getElem?_eq_some_iff.1 hz
  rw [List.drop_eq_getElem_cons hk', List.all_cons]

end Go.Proofs.Ytlclllkjnhgbjaa

namespace Go.Proofs.Ytlclllkjnhgbjaa
open Go.RowKit
set_option linter.unusedVariables false
set_option linter.unusedSimpArgs false

def tierPutV (t : TC) (above : Int) : List UInt8 × Int := if tierErr t above = 0 then (tierPut t, 0) else ([], tierErr t above)
theorem tierErr_up {t : TC} {above : Int} (h : tierErr t above = 0) : t.up.length ≤ 200 := by
  obtain ⟨_, _, h3, _, h5⟩ := tierErr_zero h
  by_cases h0 : 0 < above
  · have := (treeOk_up h0 h5).1
    omega
  · rw [treeOk_top (by omega)] at h5
    have : t.up = [] := by simpa using h5
    rw [this]
    simp

end Go.Proofs.Ytlclllkjnhgbjaa

namespace Go.Proofs.Ytlclllkjnhgbjaa
open Go.RowKit
set_option linter.unusedVariables false
set_option linter.unusedSimpArgs false

def sameC (a b : TC) : Bool := (a.nm == b.nm) && (a.ts == b.ts) && (a.up == b.up)
theorem sameC_iff (a b : TC) : sameC a b = decide (a = b) := by
  obtain ⟨n1, t1, u1⟩ := a
  obtain ⟨n2, t2, u2⟩ := b
  unfold sameC
  rw [Bool.eq_iff_iff]
  simp [and_assoc]
theorem sameC_self (a : TC) : sameC a a = true := by unfold sameC; simp
theorem intsEq_step {xs ys : List Int} {k : Nat} {a b : Int} (ha : xs[k]? = some a) (hb : ys[k]? = some b) : (xs.drop k == ys.drop k) = ((a == b) && (xs.drop (k + 1) == ys.drop (k + 1))) := by
  obtain ⟨h1, rfl⟩ := List.getElem?_eq_some_iff.1 ha
  obtain ⟨h2, rfl⟩ := List.getElem?_eq_some_iff.1 hb
  rw [List.drop_eq_getElem_cons h1, List.drop_eq_getElem_cons h2]
  rfl
theorem beq_len {α : Type} [BEq α] [LawfulBEq α] {xs ys : List α} (h : xs.length ≠ ys.length) : (xs == ys) = false := by
  rw [beq_eq_false_iff_ne]
  intro e
  exact h (by rw [e])

end Go.Proofs.Ytlclllkjnhgbjaa
