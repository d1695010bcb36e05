/- Texts laid together: XFindT XRowW XBatW XBatP XBatX XSepL. -/
import Derived.Test.YtlclllkjnhgbjaaBe
import Derived.Test.YtlclllkjnhgbjaaBc
import Derived.Test.YtlclllkjnhgbjaaBr
import Derived.Test.YtlclllkjnhgbjaaBd
import Derived.Test.YtlclllkjnhgbjaaSep

namespace Go.Proofs.Ytlclllkjnhgbjaa
open Go.RowKit
set_option linter.unusedVariables false
set_option linter.unusedSimpArgs false

theorem less_irr (a : List UInt8) : Op.bytesLess a a = false := by
  induction a with
  | nil => rfl
  | cons x r ih => simp [Op.bytesLess, ih]
theorem less_trans {a b c : List UInt8} (h1 : Op.bytesLess a b = true) (h2 : Op.bytesLess b c = true) : Op.bytesLess a c = true := by
  induction a generalizing b c with
  | nil =>
    cases b with
    | nil => simp [Op.bytesLess] at h1
    | cons y r =>
      cases c with
      | nil => simp [Op.bytesLess] at h2
      | cons z s => rfl
  | cons x r ih =>
    cases b with
    | nil => simp [Op.bytesLess] at h1
    | cons y s =>
      cases c with
      | nil => simp [Op.bytesLess] at h2
      | cons z t =>
        simp only [Op.bytesLess, Bool.or_eq_true, decide_eq_true_eq, Bool.and_eq_true, beq_iff_eq] at h1 h2 ⊢
        rcases h1 with h1 | ⟨rfl, h1⟩
        · rcases h2 with h2 | ⟨rfl, h2⟩
          · exact .inl (UInt8.lt_trans h1 h2)
          · exact .inl h1
        · rcases h2 with h2 | ⟨rfl, h2⟩
          · exact .inl h2
          · exact .inr ⟨rfl, ih h1 h2⟩
/-- Each text stands ahead of all behind it. -/
def RiseT (ts : List (List UInt8)) : Prop := ts.Pairwise (fun a b => Op.bytesLess a b = true)
theorem riseT_from {ts : List (List UInt8)} : ∀ {p : Option (List UInt8)}, rowFrom p ts = 0 → RiseT ts ∧ ∀ q, p = some q → ∀ t ∈ ts, Op.bytesLess q t = true := by
  induction ts with
  | nil => intro p _; exact ⟨List.Pairwise.nil, fun q _ t ht => by cases ht⟩
  | cons t r ih =>
    intro p h
    rw [rowFrom] at h
    split at h
    · split at h
      · cases h
      · rename_i h1 h2
        obtain ⟨i1, i2⟩ := ih h
        have i3 := i2 t rfl
        refine ⟨List.Pairwise.cons i3 i1, fun q hq u hu => ?_⟩
        subst hq
        have hqt : Op.bytesLess q t = true := by simpa using h2
        rcases List.mem_cons.1 hu with rfl | hu
        · exact hqt
        · exact less_trans hqt (i3 u hu)
    · cases h
theorem riseT_row {ts : List (List UInt8)} (h : rowErr ts = 0) : RiseT ts := (riseT_from h).1
theorem RiseT.lt {ts : List (List UInt8)} (h : RiseT ts) {i j : Nat} {a b : List UInt8} (hij : i < j) (ha : ts[i]? = some a) (hb : ts[j]? = some b) : Op.bytesLess a b = true := by
  obtain ⟨h1, rfl⟩ := List.getElem?_eq_some_iff.1 ha
  obtain ⟨h2, rfl⟩ := List.getElem?_eq_some_iff.1 hb
  exact List.pairwise_iff_getElem.1 h i j h1 h2 hij
/-- The first place at which a text stands. -/
def posOf (s : List UInt8) : List (List UInt8) → Option Nat
  | [] => none
  | t :: r => if t == s then some 0 else (posOf s r).map (· + 1)
theorem posOf_none {s : List UInt8} {ts : List (List UInt8)} (h : ∀ (k : Nat) t, ts[k]? = some t → (t == s) = false) : posOf s ts = none := by
  induction ts with
  | nil => rfl
  | cons t r ih =>
    rw [posOf, h 0 t rfl, ih fun k u hu => h (k + 1) u hu]
    rfl
theorem posOf_some {s : List UInt8} {ts : List (List UInt8)} : ∀ {i : Nat} {t : List UInt8}, ts[i]? = some t → (t == s) = true → (∀ (k : Nat) u, k < i → ts[k]? = some u → (u == s) = false) → posOf s ts = some i := by
  induction ts with
  | nil => intro i t h; simp at h
  | cons a r ih =>
    intro i t h he hn
    cases i with
    | zero =>
      injection h with h
      subst h
      rw [posOf, he]
      rfl
    | succ i =>
      rw [posOf, hn 0 a (by omega) rfl, ih h he fun k u hk hu => hn (k + 1) u (by omega) hu]
      rfl
theorem posOf_lt {s : List UInt8} {ts : List (List UInt8)} : ∀ {i : Nat}, posOf s ts = some i → i < ts.length := by
  induction ts with
  | nil => intro i h; cases h
  | cons a r ih =>
    intro i h
    rw [posOf] at h
    split at h
    · injection h with h; subst h; simp
    · cases hp : posOf s r with
      | none => rw [hp] at h; cases h
      | some j => rw [hp] at h; simp at h; have := ih hp; simp; omega
/-- How far a search came. -/
def FoundT (s : List UInt8) (ts : List (List UInt8)) (k : Nat) (b : Bool) : Prop := k ≤ ts.length ∧ (b = true → posOf s ts = some k) ∧ (b = false → posOf s ts = none)
theorem found_yes {s t : List UInt8} {ts : List (List UInt8)} {i : Nat} (h1 : ∀ (m : Nat) u, m < i → ts[m]? = some u → Op.bytesLess u s = true) (ht : ts[i]? = some t) (he : (t == s) = true) : FoundT s ts i true := by
  refine ⟨Nat.le_of_lt (List.getElem?_eq_some_iff.1 ht).1, fun _ => posOf_some ht he fun k u hk hu => ?_, fun h => by cases h⟩
  rw [beq_eq_false_iff_ne]
  rintro rfl
  have := h1 k u hk hu
  rw [less_irr] at this
  cases this
theorem found_no {s : List UInt8} {ts : List (List UInt8)} {i : Nat} (hr : RiseT ts) (hi : i ≤ ts.length) (h1 : ∀ (m : Nat) u, m < i → ts[m]? = some u → Op.bytesLess u s = true) (h2 : ∀ (m : Nat) u, i ≤ m → ts[m]? = some u → Op.bytesLess u s = false) (h3 : ∀ u, ts[i]? = some u → (u == s) = false) : FoundT s ts i false := by
  refine ⟨hi, (fun h => by cases h), fun _ => posOf_none fun k u hu => ?_⟩
  rcases Nat.lt_trichotomy k i with hk | hk | hk
  · rw [beq_eq_false_iff_ne]
    rintro rfl
    have := h1 k u hk hu
    rw [less_irr] at this
    cases this
  · subst hk
    exact h3 u hu
  · rw [beq_eq_false_iff_ne]
    rintro rfl
    have hk2 := (List.getElem?_eq_some_iff.1 hu).1
    have := hr.lt hk (List.getElem?_eq_getElem (by omega : i < ts.length)) hu
    have h4 := h2 i _ (Nat.le_refl _) (List.getElem?_eq_getElem (by omega : i < ts.length))
    rw [this] at h4
    cases h4

def SrchPost (s : List UInt8) (ts : List (List UInt8)) (w : World) (e : Ending) (w' : World) : Prop := ∃ (k : Nat) (b : Bool), e = .returned (.tuple #[.int .i64 k, .bool b]) ∧ w = w' ∧ FoundT s ts k b
def atOf (s : List UInt8) (ts : List (List UInt8)) : Int := match posOf s ts with | some k => k | none => -1
end Go.Proofs.Ytlclllkjnhgbjaa

namespace Go.Proofs.Ytlclllkjnhgbjaa
open Go.RowKit Go.ChangeShapes Go.WideShapes Go.Deep
set_option linter.unusedVariables false
set_option linter.unusedSimpArgs false

/-- A row. -/
structure Rw where
  ts : Row (List UInt8)
  vs : Row Int
abbrev Rw.cs (r : Rw) : Array Value := #[.slice r.ts.A r.ts.n r.ts.c, .slice r.vs.A r.vs.n r.vs.c]
structure Rw.rd (w : World) (r : Rw) : Prop where
  ts : r.ts.rd w
  vs : r.vs.rd w
theorem Rw.rd.mono {w w' : World} {s : Rw} (h : s.rd w) (hb : Bel w w') : s.rd w' := ⟨h.ts.mono hb, h.vs.mono hb⟩
instance instCelRw : Cel Rw where
  size := 2
  bytes := 48
  cells s := s.cs.toList
  ok w s := s.rd w
  len _ := rfl
  pos := by omega
  mono hb h := h.mono hb
structure RC where
  ts : List (List UInt8)
  vs : List Int
deriving DecidableEq
abbrev Rw.con (r : Rw) : RC := ⟨r.ts.l, r.vs.l⟩
theorem rw_one (r : Rw) : r.cs.all (·.oneCell') = true := by simp [Value.oneCell']
set_option maxRecDepth 100000 in
theorem c_i64 : Try.prog.cellsOf 2 = 1 := by kernel_rfl
theorem Row.rd.rwAt {w : World} {x : Row Rw} (h : x.rd w) {k : Nat} (hk : k < x.n) : ∃ b o t, x.A = some ⟨b, o, none⟩ ∧ b < w.heap.size ∧ x.l[k]? = some t ∧ t.rd w ∧ w.rangeAt b (o + k * 2) t.cs.toList := by
  obtain ⟨b, o, t, e, hb, ht, hc⟩ := rd_range h.r hk
  exact ⟨b, o, t, e, hb, ht, h.all t (List.mem_of_getElem? ht), hc⟩
/-- The places of a row's members. -/
def rowKeys : List DC → List (List UInt8) → Except Int (List Int)
  | d :: ds, t :: ts =>
    match d.trs with
    | [] => .error 2
    | tr :: _ =>
      match posOf t tr.ts with
      | none => .error 13
      | some k =>
        match rowKeys ds ts with
        | .error e => .error e
        | .ok ks => .ok ((k : Int) :: ks)
  | _, _ => .ok []
def rowOf (s : SC) (r : RC) : Except Int (List Int) := if r.ts.length ≠ s.dims.length ∨ r.vs.length ≠ s.ms.length then .error 2 else rowKeys s.dims r.ts
def aheadK (acc : List Int) (o : Except Int (List Int)) : Except Int (List Int) := match o with | .error e => .error e | .ok ks => .ok (acc ++ ks)
theorem aheadK_nil (o : Except Int (List Int)) : aheadK [] o = o := by cases o <;> rfl
theorem aheadK_step {acc : List Int} {k : Int} {o : Except Int (List Int)} : aheadK acc (match o with | .error e => .error e | .ok ks => .ok (k :: ks)) = aheadK (acc ++ [k]) o := by cases o <;> simp [aheadK]
theorem rowKeys_drop {ds : List DC} {ts : List (List UInt8)} {k : Nat} {d : DC} {t : List UInt8} (hd : ds[k]? = some d) (ht : ts[k]? = some t) : rowKeys (ds.drop k) (ts.drop k) = match d.trs with | [] => .error 2 | tr :: _ => match posOf t tr.ts with | none => .error 13 | some p => match rowKeys (ds.drop (k + 1)) (ts.drop (k + 1)) with | .error e => .error e | .ok ks => .ok ((p : Int) :: ks) := by
  obtain ⟨h1, rfl⟩ := List.getElem?_eq_some_iff.1 hd
  obtain ⟨h2, rfl⟩ := List.getElem?_eq_some_iff.1 ht
  rw [List.drop_eq_getElem_cons h1, List.drop_eq_getElem_cons h2, rowKeys]
theorem rowKeys_drop0 {ds : List DC} {ts : List (List UInt8)} {k : Nat} {d : DC} {t : List UInt8} (hd : ds[k]? = some d) (ht : ts[k]? = some t) (h : d.trs = []) : rowKeys (ds.drop k) (ts.drop k) = .error 2 := by rw [rowKeys_drop hd ht, h]
theorem rowKeys_drop1 {ds : List DC} {ts : List (List UInt8)} {k : Nat} {d : DC} {t : List UInt8} {tr : TC} {r : List TC} (hd : ds[k]? = some d) (ht : ts[k]? = some t) (h : d.trs = tr :: r) : rowKeys (ds.drop k) (ts.drop k) = match posOf t tr.ts with | none => .error 13 | some p => match rowKeys (ds.drop (k + 1)) (ts.drop (k + 1)) with | .error e => .error e | .ok ks => .ok ((p : Int) :: ks) := by rw [rowKeys_drop hd ht, h]
/-- How Row ends. -/
def RowPost (o : Except Int (List Int)) (w : World) (e : Ending) (w' : World) : Prop :=
  match o with
  | .error k => e = .returned (.tuple #[.slice none 0 0, .int .i64 k]) ∧ Bel w w'
  | .ok ks => ∃ (A : Option Addr) (c : Nat), e = .returned (.tuple #[.slice A ks.length c, .int .i64 0]) ∧ Bel w w' ∧ w'.ownsRow w.heap.size 3 1 (.slice A ks.length c) ks.length (ks.map (Value.int .i64))

end Go.Proofs.Ytlclllkjnhgbjaa

namespace Go.Proofs.Ytlclllkjnhgbjaa
open Go.RowKit
set_option linter.unusedVariables false
set_option linter.unusedSimpArgs false

def rowsErr (s : SC) : List RC → Int
  | [] => 0
  | r :: rs => match rowOf s r with | .error e => e | .ok _ => rowsErr s rs
def batErr (s : SC) (rows : List RC) : Int := if schErr s ≠ 0 then schErr s else if 300 < rows.length then 5 else rowsErr s rows
def rowPut (r : RC) : List UInt8 := r.ts.flatMap ptext ++ r.vs.flatMap (fun x => nput (nfold x))
def batPut (rows : List RC) : List UInt8 := nput rows.length ++ rows.flatMap rowPut
def batPutV (s : SC) (rows : List RC) : List UInt8 × Int := if batErr s rows = 0 then (batPut rows, 0) else ([], batErr s rows)
theorem rowsErr_drop {s : SC} {rows : List RC} {k : Nat} {r : RC} (h : rows[k]? = some r) : rowsErr s (rows.drop k) = match rowOf s r with | .error e => e | .ok _ => rowsErr s (rows.drop (k + 1)) := by
  obtain ⟨h1, rfl⟩ := List.getElem?_eq_some_iff.1 h
  rw [List.drop_eq_getElem_cons h1, rowsErr]
theorem rowKeys_err {ds : List DC} : ∀ {ts : List (List UInt8)} {e : Int}, rowKeys ds ts = .error e → e = 2 ∨ e = 13 := by
  induction ds with
  | nil => intro ts e h; cases ts <;> simp [rowKeys] at h
  | cons d ds ih =>
    intro ts e h
    cases ts with
    | nil => simp [rowKeys] at h
    | cons t ts =>
      rw [rowKeys] at h
      split at h
      · injection h with h; exact .inl h.symm
      · split at h
        · injection h with h; exact .inr h.symm
        · split at h
          · rename_i h1; injection h with h; subst h; exact ih h1
          · cases h
theorem rowOf_err {s : SC} {r : RC} {e : Int} (h : rowOf s r = .error e) : e = 2 ∨ e = 13 := by
  unfold rowOf at h
  split at h
  · injection h with h; exact .inl h.symm
  · exact rowKeys_err h
theorem rowsErr_ok {s : SC} {rows : List RC} (h : rowsErr s rows = 0) : ∀ r ∈ rows, ∃ ks, rowOf s r = .ok ks := by
  induction rows with
  | nil => intro r hr; cases hr
  | cons a rs ih =>
    intro r hr
    rw [rowsErr] at h
    cases ha : rowOf s a with
    | error e =>
      rw [ha] at h
      have := rowOf_err ha
      simp only at h
      omega
    | ok ks =>
      rw [ha] at h
      rcases List.mem_cons.1 hr with rfl | hr
      · exact ⟨ks, ha⟩
      · exact ih h r hr
theorem batErr_zero {s : SC} {rows : List RC} (h : batErr s rows = 0) : schErr s = 0 ∧ rows.length ≤ 300 ∧ ∀ r ∈ rows, ∃ ks, rowOf s r = .ok ks := by
  unfold batErr at h
  split at h
  · rename_i h1; exact absurd h h1
  · split at h
    · cases h
    · exact ⟨by omega, by omega, rowsErr_ok h⟩
theorem posOf_mem {s : List UInt8} {ts : List (List UInt8)} : ∀ {i : Nat}, posOf s ts = some i → s ∈ ts := by
  induction ts with
  | nil => intro i h; cases h
  | cons a r ih =>
    intro i h
    rw [posOf] at h
    split at h
    · rename_i h1; rw [beq_iff_eq] at h1; subst h1; exact List.mem_cons_self ..
    · cases hp : posOf s r with
      | none => rw [hp] at h; cases h
      | some j => exact List.mem_cons_of_mem _ (ih hp)
theorem rowKeys_small {ds : List DC} : ∀ {ts : List (List UInt8)} {ks : List Int}, (∀ d ∈ ds, ∀ tr ∈ d.trs, ∀ t ∈ tr.ts, t.length ≤ 16) → ts.length = ds.length → rowKeys ds ts = .ok ks → ∀ t ∈ ts, t.length ≤ 16 := by
  induction ds with
  | nil => intro ts ks _ hl _ t ht; cases ts with | nil => cases ht | cons a r => simp at hl
  | cons d ds ih =>
    intro ts ks hd hl h t ht
    cases ts with
    | nil => cases ht
    | cons a r =>
      rw [rowKeys] at h
      split at h
      · cases h
      · rename_i tr rest htr
        split at h
        · cases h
        · rename_i k hp
          split at h
          · cases h
          · rename_i ks' hk
            rcases List.mem_cons.1 ht with rfl | ht
            · exact hd d (List.mem_cons_self ..) tr (by rw [htr]; exact List.mem_cons_self ..) _ (posOf_mem hp)
            · exact ih (fun d' hd' => hd d' (List.mem_cons_of_mem _ hd')) (by simpa using hl) hk t ht
theorem dim_terms {d : DC} (h : dimErr d = 0) : ∀ tr ∈ d.trs, rowErr tr.ts = 0 ∧ tr.ts.length ≤ 200 := fun tr htr => by
  obtain ⟨a, ha⟩ := allOk_mem (dimFrom_ok (dimErr_zero h).2.2.2) htr
  exact ⟨(tierErr_zero ha).2.2.2.1, (tierErr_zero ha).2.2.1⟩
theorem row_small {s : SC} {r : RC} {ks : List Int} (hE : schErr s = 0) (h : rowOf s r = .ok ks) : r.ts.length ≤ 16 ∧ r.vs.length ≤ 3 ∧ ∀ t ∈ r.ts, t.length ≤ 16 := by
  obtain ⟨h1, h2, h3, h4, h5, h6⟩ := schErr_zero hE
  unfold rowOf at h
  split at h
  · cases h
  · rename_i h7
    refine ⟨by omega, by omega, rowKeys_small (fun d hd tr htr t ht => rowErr_len (dim_terms (h3 d hd) tr htr).1 ht) (by omega) h⟩
theorem sch_rise {s : Sch} {w : World} (hs : s.rd w) (hE : schErr s.con = 0) : ∀ d ∈ s.dm.l, ∀ t ∈ d.tr.l, RiseT t.ts.l ∧ t.ts.n ≤ 1000000 := fun d hd t ht => by
  have h3 := (schErr_zero hE).2.2.1 d.con (List.mem_map.2 ⟨d, hd, rfl⟩)
  have h4 := dim_terms h3 t.con (List.mem_map.2 ⟨t, ht, rfl⟩)
  have h5 : t.ts.l.length = t.ts.n := Row.rd.len (Tir.rd.ts (Row.rd.all (Dm.rd.tr (Row.rd.all (Sch.rd.dm hs) d hd)) t ht))
  exact ⟨riseT_row h4.1, by have := h4.2; simp only at this; omega⟩
theorem rowPut_len {r : RC} (h1 : r.ts.length ≤ 16) (h2 : r.vs.length ≤ 3) (h3 : ∀ t ∈ r.ts, t.length ≤ 16) : (rowPut r).length ≤ 500 := by
  have h4 : (r.ts.flatMap ptext).length ≤ 26 * r.ts.length := flat_len fun t ht => by
    have := h3 t ht
    have := nput_le9 t.length
    unfold ptext
    rw [List.length_append]
    omega
  have h5 : (r.vs.flatMap (fun x => nput (nfold x))).length ≤ 9 * r.vs.length := flat_len fun x hx => nput_le9 _
  unfold rowPut
  rw [List.length_append]
  omega

end Go.Proofs.Ytlclllkjnhgbjaa

namespace Go.Proofs.Ytlclllkjnhgbjaa
open Go.RowKit
set_option linter.unusedVariables false
set_option linter.unusedSimpArgs false

theorem i_pint_back {l r : List UInt8} {x : Int} (h : pint l = .ok (x, r)) : l = nput (nfold x) ++ r ∧ I64 x := by
  unfold pint at h
  rcases pnumber_cases (l := l) with ⟨hp, hn⟩ | ⟨n, z, hn, hz, hlt, hp⟩
  · rw [hp] at h; cases h
  · rw [hp] at h
    injection h with h
    injection h with h1 h2
    subst h1
    subst h2
    have := ntake_true (l := l) (by rw [hn])
    rw [hn] at this
    rw [nfold_nunfold, ← this.1, List.take_append_drop]
    exact ⟨rfl, nunfold_in hlt⟩
theorem i_pint_err {l : List UInt8} {k : Int} (h : pint l = .error k) : k = 3 := by
  unfold pint at h
  rcases pnumber_cases (l := l) with ⟨hp, hn⟩ | ⟨n, z, hn, hz, hlt, hp⟩
  · rw [hp] at h; injection h with h; exact h.symm
  · rw [hp] at h; cases h
/-- A label read; a row of a batch; the rows. -/
def ptrm (l : List UInt8) : PR (List UInt8) := match ptxt 16 l with | .error k => .error k | .ok (x, r) => if isTerm x = true then .ok (x, r) else .error 3
def oVs (M : Nat) (o : PR (List (List UInt8))) : PR (List Int) := match o with | .error k => .error k | .ok (_, r) => pmany pint M [] r
def prow (D M : Nat) (l : List UInt8) : PR RC := match pmany ptrm D [] l with | .error k => .error k | .ok (ts, r) => (match pmany pint M [] r with | .error k => .error k | .ok (vs, r2) => .ok (⟨ts, vs⟩, r2))
def prws (D M : Nat) (l : List UInt8) : PR (List RC) := match pnum 300 l with | .error k => .error k | .ok (n, r) => pmany (prow D M) n [] r
theorem ptrm_err {l : List UInt8} {k : Int} (h : ptrm l = .error k) : k ≠ 0 := by
  unfold ptrm at h
  split at h
  · rename_i h1; injection h with h; subst h; have := ptxt_err h1; omega
  · split at h
    · cases h
    · injection h with h; omega
theorem ptrm_back {l r : List UInt8} {x : List UInt8} (h : ptrm l = .ok (x, r)) : l = ptext x ++ r := by
  unfold ptrm at h
  split at h
  · cases h
  · rename_i h1
    split at h
    · injection h with h
      injection h with e1 e2
      subst e1 e2
      exact q_ptxt_back h1
    · cases h
theorem prow_err {D M : Nat} {l : List UInt8} {k : Int} (h : prow D M l = .error k) : k ≠ 0 := by
  unfold prow at h
  split at h
  · rename_i h1; injection h with h; subst h; exact pmany_err (fun l k h => ptrm_err h) h1
  · split at h
    · rename_i h1; injection h with h; subst h; exact pmany_err (fun l k h => by have := i_pint_err h; omega) h1
    · cases h
theorem prow_back {D M : Nat} {l r : List UInt8} {x : RC} (h : prow D M l = .ok (x, r)) : l = rowPut x ++ r := by
  unfold prow at h
  split at h
  · cases h
  · rename_i ts r1 h1
    split at h
    · cases h
    · rename_i vs r2 h2
      injection h with h
      injection h with e1 e2
      subst e1 e2
      obtain ⟨xs, a1, a2, a3⟩ := pmany_back (put := ptext) (fun l x r h => ptrm_back h) h1
      obtain ⟨ys, b1, b2, b3⟩ := pmany_back (put := fun x => nput (nfold x)) (fun l x r h => (i_pint_back h).1) h2
      rw [List.nil_append] at a1 b1
      subst a1 b1
      unfold rowPut
      rw [a3, b3]
      simp only [List.append_assoc]
theorem prws_err {D M : Nat} {l : List UInt8} {k : Int} (h : prws D M l = .error k) : k ≠ 0 := by
  unfold prws at h
  split at h
  · rename_i h1; injection h with h; subst h; have := pnum_err h1; omega
  · exact pmany_err (fun l k h => prow_err h) h
theorem prws_back {D M : Nat} {l r : List UInt8} {x : List RC} (h : prws D M l = .ok (x, r)) : l = batPut x ++ r := by
  unfold prws at h
  split at h
  · cases h
  · rename_i n r1 h1
    obtain ⟨xs, a1, a2, a3⟩ := pmany_back (put := rowPut) (fun l x r h => prow_back h) h
    rw [List.nil_append] at a1
    subst a1
    unfold batPut
    rw [q_pnum_back h1, a3, a2]
    simp only [List.append_assoc]
/-- What batch.Take answers. -/
def battake (s : SC) (l : List UInt8) : List RC × Int :=
  if schErr s ≠ 0 then ([], schErr s) else
  match prws s.dims.length s.ms.length l with
  | .error k => ([], k)
  | .ok (rows, r) => if r = [] then (if batErr s rows = 0 then (rows, 0) else ([], batErr s rows)) else ([], 3)

end Go.Proofs.Ytlclllkjnhgbjaa

namespace Go.Proofs.Ytlclllkjnhgbjaa
open Go.RowKit
set_option linter.unusedVariables false
set_option linter.unusedSimpArgs false

/-- The next thing read from a scan, whatever it stands at. -/
def Nxt {α : Type} (s : List UInt8) (p : List UInt8 → PR α) (t k t' k' : Int) (x : α) : Prop := (k ≠ 0 ∧ t' = t ∧ k' = k) ∨ (k = 0 ∧ ∃ tn : Nat, t = tn ∧ tn ≤ s.length ∧ SRes s (p (s.drop tn)) t' k' x)
theorem LInv.next {α : Type} {s : List UInt8} {o : PR (List α)} {p : List UInt8 → PR α} {n k : Nat} {acc : List α} {t kk t' k' : Int} {x : α} (h : LInv s o p n k acc t kk) (hk : k < n) (hx : Nxt s p t kk t' k' x) : LInv s o p n (k + 1) (acc ++ [x]) t' k' := by
  rcases h with ⟨h1, h2⟩ | ⟨h1, tn, h3, h4, h2⟩
  · rcases hx with ⟨_, rfl, rfl⟩ | ⟨h, _⟩
    · exact .inl ⟨h1, h2⟩
    · exact absurd h h1
  · rcases hx with ⟨h, _⟩ | ⟨_, tm, h5, h6, h7⟩
    · exact absurd h1 h
    · have : tm = tn := by omega
      subst this
      exact LInv.step hk h2 h7
theorem LInv.st {α : Type} {s : List UInt8} {o : PR (List α)} {p : List UInt8 → PR α} {n k : Nat} {acc : List α} {t kk : Int} (h : LInv s o p n k acc t kk) : kk ≠ 0 ∨ (kk = 0 ∧ ∃ tn : Nat, t = tn ∧ tn ≤ s.length) := by
  rcases h with ⟨h1, h2⟩ | ⟨h1, tn, h3, h4, h2⟩
  · exact .inl h1
  · exact .inr ⟨h1, tn, h3, h4⟩
theorem Nxt.trm {s : List UInt8} {t k t' k' : Int} {x : List UInt8} (h : Nxt s (ptxt 16) t k t' k' x) : Nxt s ptrm t k t' (wantK k' (isTerm x) 3) x := by
  rcases h with ⟨h1, h2, rfl⟩ | ⟨h1, tn, h3, h4, h⟩
  · exact .inl ⟨h1, h2, by unfold wantK; rw [if_pos h1]⟩
  · refine .inr ⟨h1, tn, h3, h4, ?_⟩
    unfold ptrm wantK
    rcases h with ⟨h5, h6⟩ | ⟨rfl, tm, h6, h7, h8⟩
    · rw [if_pos h5, h6]
      exact .inl ⟨h5, rfl⟩
    · rw [if_neg (by omega), h8]
      cases hT : isTerm x with
      | true => exact .inr ⟨rfl, tm, h6, h7, by simp only [hT, if_true]⟩
      | false => exact .inl ⟨by decide, by simp only [hT]; rfl⟩
theorem rintN_any (s : List UInt8) (t k : Int) (hst : k ≠ 0 ∨ (k = 0 ∧ ∃ tn : Nat, t = tn ∧ tn ≤ s.length)) (hs : s.length ≤ 1000001) (w : World) :
    Calls Try.prog 103 #[scn s t k] w fun e w' => ∃ (t' k' x : Int), e = .returned (.tuple #[scn s t' k', .int .i64 x]) ∧ Bel w w' ∧ I64 x ∧ Hid (Nxt s pint t k t' k' x) := by
  rcases hst with hk | ⟨rfl, tn, rfl, htn⟩
  · refine (rint_bad s t k hk w).mono ?_
    rintro e w' ⟨rfl, hb⟩
    exact ⟨t, k, 0, rfl, hb, by unfold I64; omega, .inl ⟨hk, rfl, rfl⟩⟩
  · refine (rint_any s tn hs htn w).mono ?_
    rintro e w' ⟨hb, hm⟩
    cases ho : pint (s.drop tn) with
    | error k =>
      rw [ho] at hm
      obtain ⟨t, rfl⟩ := hm
      exact ⟨t, k, 0, rfl, hb, by unfold I64; omega, .inr ⟨rfl, tn, rfl, htn, .inl ⟨by have := i_pint_err ho; omega, ho⟩⟩⟩
    | ok q =>
      obtain ⟨x, l⟩ := q
      rw [ho] at hm
      obtain ⟨t, ht, hl, rfl⟩ := hm
      exact ⟨t, 0, x, rfl, hb, (i_pint_back ho).2, .inr ⟨rfl, tn, rfl, htn, .inr ⟨rfl, t, rfl, ht, by rw [ho, hl]⟩⟩⟩
theorem LInv.startW {s : List UInt8} {t k : Int} {n D M : Nat} {l : List UInt8} (h : SRes s (pnum 300 l) t k n) : LInv s (prws D M l) (prow D M) n 0 [] t k := by
  rcases h with ⟨h1, h2⟩ | ⟨h1, tn, h3, h4, h2⟩
  · exact .inl ⟨h1, by unfold prws; rw [h2]⟩
  · exact .inr ⟨h1, tn, h3, h4, by unfold prws; rw [h2]; rfl⟩
theorem LInv.startV {s : List UInt8} {t k : Int} {M : Nat} {o : PR (List (List UInt8))} {ts : List (List UInt8)} (h : SRes s o t k ts) : LInv s (oVs M o) pint M 0 [] t k := by
  rcases h with ⟨h1, h2⟩ | ⟨h1, tn, h3, h4, h2⟩
  · exact .inl ⟨h1, by unfold oVs; rw [h2]⟩
  · exact .inr ⟨h1, tn, h3, h4, by unfold oVs; rw [h2]; rfl⟩
theorem SRes.prow {s : List UInt8} {D M : Nat} {l : List UInt8} {t1 k1 t2 k2 : Int} {ts : List (List UInt8)} {vs : List Int} (h1 : SRes s (pmany ptrm D [] l) t1 k1 ts) (h2 : SRes s (oVs M (pmany ptrm D [] l)) t2 k2 vs) : SRes s (prow D M l) t2 k2 ⟨ts, vs⟩ := by
  unfold oVs at h2
  unfold Go.Proofs.Ytlclllkjnhgbjaa.prow
  cases ho : pmany ptrm D [] l with
  | error e =>
    rw [ho] at h2
    rcases h2 with ⟨a, b⟩ | ⟨_, _, _, _, b⟩
    · simp only at b
      injection b with b
      exact .inl ⟨a, by simp only [b]⟩
    · cases b
  | ok q =>
    obtain ⟨ts', r⟩ := q
    rw [ho] at h1 h2
    simp only at h2 ⊢
    rcases h1 with ⟨_, b⟩ | ⟨_, tn, _, _, b⟩
    · cases b
    · injection b with b
      injection b with b1 b2
      subst b1
      rcases h2 with ⟨a, b⟩ | ⟨a, tm, c, d, b⟩
      · exact .inl ⟨a, by rw [b]⟩
      · exact .inr ⟨a, tm, c, d, by rw [b]⟩
section
variable {P : Program} {w : World}
theorem step_store_blk {ops : Array Oper} {o : Oper} {a : Act} {K : Act → World → Prop} {Q : Exit → Act → World → Prop} {X : Prop} (hgd : o.guard = none) {ty : TypeId} {n : Nat} (R : RowTy P ty n) (x y : Operand) (ho : o.op = .store ty x y)
    (g : Nat) (hx : a.eval x = .pointer (some ⟨g, 0, none⟩)) {t : TypeId} {cs : Array Value} (hb : Blk w g t cs) (hn : cs.size = n) (cs' : Array Value) (hn' : cs'.size = n) (hy : a.eval y = .agg cs') (h1 : cs'.all (·.oneCell') = true)
    (h : ∀ w', Blk w' g t cs' → w.grownBy w' (some g) → K (a.put o.dst undef) w') : if Region.wanted o (yielded ops a.tmps) = true then Oper.wp P o a w K Q else X := by
  have hw : Region.wanted o (yielded ops a.tmps) = true := by simp [Region.wanted, hgd]
  rw [if_pos hw]
  refine wp_store_mid ty x y ho g 0 cs' hx hy (hb.there (by omega)) (by rw [R.hi, hn']) h1 (h _ ?_ (setCells_grown w g _ _))
  have := Blk.setAll cs'.toList 0 hb
  rwa [setAll_all cs cs' (by omega)] at this
end

end Go.Proofs.Ytlclllkjnhgbjaa

namespace Go.Proofs.Ytlclllkjnhgbjaa
open Go.RowKit
set_option linter.unusedVariables false

abbrev rListD {α : Type} (r : α → Res) (l : List α) : Res := ⟨fun g => ∃ a, a ∈ l ∧ (r a).D g, fun w => (∀ a ∈ l, (r a).holds w) ∧ l.Pairwise (fun a b => ∀ g, (r a).D g → ¬ (r b).D g)⟩
theorem holds_listD_nil {α : Type} (r : α → Res) (w : World) : (rListD r []).holds w := ⟨fun g ⟨a, ha, _⟩ => (by cases ha), fun w' _ _ => ⟨(fun a ha => by cases ha), List.Pairwise.nil⟩⟩
theorem listD_nil_D {α : Type} {r : α → Res} {P : Nat → Prop} : ∀ g, (rListD r []).D g → P g := fun g ⟨a, ha, _⟩ => by cases ha
section
variable {α : Type} {r : α → Res} {S : Nat → Prop} {w0 w w' : World} {l : List Res}
/-- A piece joins a list. -/
theorem SL.snocD (h : SL S w0 w l) (i j : Nat) {bs : List α} {a : α} (hij : i ≠ j) (hi : l[i]? = some (rListD r bs)) (hj : l[j]? = some (r a)) : SL S w0 w ((l.set i (rListD r (bs ++ [a]))).eraseIdx j) := by
  have h1 := h.get i hi
  have h2 := h.get j hj
  refine h.both i j hij hi hj _ ⟨fun g ⟨u, hu, hg⟩ => ?_, fun w' hs hk => ⟨fun u hu => ?_, ?_⟩⟩ (fun g ⟨u, hu, hg⟩ => ?_)
  · rcases List.mem_append.1 hu with hu | hu
    · exact h1.1 g ⟨u, hu, hg⟩
    · rw [List.mem_singleton] at hu; subst hu; exact h2.1 g hg
  · rcases List.mem_append.1 hu with hu' | hu'
    · exact (h1.now.1 u hu').keep hs fun g hg => hk g ⟨u, hu, hg⟩
    · rw [List.mem_singleton] at hu'; subst hu'; exact h2.keep hs fun g hg => hk g ⟨u, hu, hg⟩
  · rw [List.pairwise_append]
    refine ⟨h1.now.2, List.pairwise_singleton _ _, fun u hu v hv g hg hg' => ?_⟩
    rw [List.mem_singleton] at hv
    subst hv
    exact h.dis i j _ _ hij hi hj g ⟨u, hu, hg⟩ hg'
  · rcases List.mem_append.1 hu with hu | hu
    · exact .inl ⟨u, hu, hg⟩
    · rw [List.mem_singleton] at hu; subst hu; exact .inr hg
/-- The first of a list, on its own. -/
theorem SL.splitD (h : SL S w0 w l) (i : Nat) {a : α} {bs : List α} (hi : l[i]? = some (rListD r (a :: bs))) : SL S w0 w (l.set i (r a) ++ [rListD r bs]) := by
  have hil : i < l.length := (List.getElem?_eq_some_iff.1 hi).1
  have h1 := h.get i hi
  have hD : ∀ g, (r a).D g → (rListD r (a :: bs)).D g := fun g hg => ⟨a, List.mem_cons_self .., hg⟩
  have hD2 : ∀ g, (rListD r bs).D g → (rListD r (a :: bs)).D g := fun g ⟨u, hu, hg⟩ => ⟨u, List.mem_cons_of_mem _ hu, hg⟩
  have hp := h1.now
  have hpw := hp.2
  rw [List.pairwise_cons] at hpw
  refine (h.turn i hi (r a) (hp.1 a (List.mem_cons_self ..)) hD).ext (rListD r bs) ⟨fun g hg => h1.1 g (hD2 g hg), fun w' hs hk => ⟨fun u hu => (hp.1 u (List.mem_cons_of_mem _ hu)).keep hs fun g hg => hk g ⟨u, hu, hg⟩, hpw.2⟩⟩ (fun j q hq g hg hg' => ?_) (fun g hg => h.own i _ hi g (hD2 g hg))
  by_cases e : i = j
  · subst e
    rw [List.getElem?_set_self hil] at hq
    injection hq with hq
    subst hq
    obtain ⟨u, hu, hug⟩ := hg'
    exact hpw.1 u hu g hg hug
  · rw [List.getElem?_set_ne e] at hq
    exact h.dis j i q _ (fun h => e h.symm) hq hi g hg (hD2 g hg')
/-- What a call hands back joins what its caller owns. -/
theorem SL.join {l' : List Res} (h : SL S w0 w l) (h' : SL No w w' l') : SL S w0 w' (l ++ l') := by
  have hb := h.bel h'.to
  have key : ∀ (j : Nat) q, (l ++ l')[j]? = some q → (l[j]? = some q ∧ j < l.length) ∨ (l'[j - l.length]? = some q ∧ l.length ≤ j) := by
    intro j q hq
    rcases Nat.lt_or_ge j l.length with hj | hj
    · rw [List.getElem?_append_left hj] at hq
      exact .inl ⟨hq, hj⟩
    · rw [List.getElem?_append_right hj] at hq
      exact .inr ⟨hq, hj⟩
  have hlt : ∀ (i : Nat) q, l[i]? = some q → ∀ g, q.D g → g < w.heap.size := fun i q hi g hg => (h.all i q hi).1 g hg
  have hge : ∀ (i : Nat) q, l'[i]? = some q → ∀ g, q.D g → w.heap.size ≤ g := fun i q hi g hg => (h'.own i q hi g hg).elim (fun h => h) (fun h => h.elim)
  refine ⟨hb.fr, fun j q hq => ?_, fun j k q q' hjk hq hq' g hg hg' => ?_, fun j q hq g hg => ?_⟩
  · rcases key j q hq with ⟨hq1, _⟩ | ⟨hq1, _⟩
    · exact hb.all j q hq1
    · exact h'.all _ q hq1
  · rcases key j q hq with ⟨hq1, hj⟩ | ⟨hq1, hj⟩
    · rcases key k q' hq' with ⟨hq2, hk⟩ | ⟨hq2, hk⟩
      · exact h.dis j k q q' hjk hq1 hq2 g hg hg'
      · have := hlt j q hq1 g hg
        have := hge _ q' hq2 g hg'
        omega
    · rcases key k q' hq' with ⟨hq2, hk⟩ | ⟨hq2, hk⟩
      · have := hlt k q' hq2 g hg'
        have := hge _ q hq1 g hg
        omega
      · exact h'.dis (j - l.length) (k - l.length) q q' (by omega) hq1 hq2 g hg hg'
  · rcases key j q hq with ⟨hq1, _⟩ | ⟨hq1, _⟩
    · exact h.own j q hq1 g hg
    · exact .inl (Nat.le_trans h.fr.size (hge _ q hq1 g hg))
end
/-- An element of an own row of plain values turned. -/
theorem own_setCell1 {w : World} {base : Nat} {e : TypeId} {g n c : Nat} {xs : List Value} (h : w.ownsRow base e 1 (.slice (some ⟨g, 0, none⟩) n c) n xs) {j : Nat} (hj : j < n) (u : Value) : (w.setCell ⟨g, j, none⟩ u).ownsRow base e 1 (.slice (some ⟨g, 0, none⟩) n c) n (xs.set j u) := by
  refine ⟨by rw [List.length_set]; exact h.1, ?_⟩
  rcases h.2 with ⟨h0, h1⟩ | ⟨g', cap, cur, hv, hb, hh, hn, hm, hs, hx⟩
  · cases h0
  · injection hv with hv1 _ hv2
    injection hv1 with hv1
    injection hv1 with hv1 _ _
    subst hv1 hv2
    refine .inr ⟨g, c, cur.setIfInBounds j u, rfl, hb, Blk.set_ (t := e) (cs := cur) hh j u, hn, hm, by simpa using hs, ?_⟩
    rw [← hx, Array.toList_setIfInBounds, List.take_set]
theorem SL.setElem {S : Nat → Prop} {w0 w : World} {l : List Res} (h : SL S w0 w l) (i : Nat) {e : TypeId} {g n c : Nat} {xs : List Value} (hi : l[i]? = some (rRow e 1 (.slice (some ⟨g, 0, none⟩) n c) n xs)) {j : Nat} (hj : j < n) (u : Value) : SL S w0 (w.setCell ⟨g, j, none⟩ u) (l.set i (rRow e 1 (.slice (some ⟨g, 0, none⟩) n c) n (xs.set j u))) :=
  h.setRow i hi (grownBy_setCell w g j u) (own_setCell1 (h.row i hi) hj u) (.inl rfl)
theorem own_block0 {w : World} {e : TypeId} {size n c : Nat} {A : Option Addr} {xs : List Value} (h : w.ownsRow 0 e size (.slice A n c) n xs) (hn : 0 < n) : ∃ g, A = some ⟨g, 0, none⟩ := by
  rcases h.2 with ⟨h0, h1⟩ | ⟨g', cap, cur, hv, _⟩
  · omega
  · injection hv with hv1 _ _
    exact ⟨g', hv1⟩

end Go.Proofs.Ytlclllkjnhgbjaa
