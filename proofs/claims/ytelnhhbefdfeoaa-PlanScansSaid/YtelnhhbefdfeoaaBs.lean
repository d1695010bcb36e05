/- Texts laid together: XFindT XRowW XBatW XBatP XBatX XBatR XBatT XSepL XBatA XBatV. -/
import Derived.Test.YtelnhhbefdfeoaaBe
import Derived.Test.YtelnhhbefdfeoaaBc
import Derived.Test.YtelnhhbefdfeoaaBr
import Derived.Test.YtelnhhbefdfeoaaBd
import Derived.Test.YtelnhhbefdfeoaaSep

namespace Go.Proofs.Ytelnhhbefdfeoaa
open Go.RowKit
set_option linter.unusedVariables false
set_option linter.unusedSimpArgs false

theorem less_irr (a : List UInt8) : Op.bytesLess a a = false := by
  induction a with
  | nil => rfl
  | cons x r ih => simp [Op.bytesLess, ih]
theorem less_trans {a b c : List UInt8} (h1 : Op.bytesLess a b = true) (h2 : Op.bytesLess b c = true) : Op.bytesLess a c = true := by
  induction a generalizing b c with
  | nil =>
    cases b with
    | nil => simp [Op.bytesLess] at h1
    | cons y r =>
      cases c with
      | nil => simp [Op.bytesLess] at h2
      | cons z s => rfl
  | cons x r ih =>
    cases b with
    | nil => simp [Op.bytesLess] at h1
    | cons y s =>
      cases c with
      | nil => simp [Op.bytesLess] at h2
      | cons z t =>
        simp only [Op.bytesLess, Bool.or_eq_true, decide_eq_true_eq, Bool.and_eq_true, beq_iff_eq] at h1 h2 ⊢
        rcases h1 with h1 | ⟨rfl, h1⟩
        · rcases h2 with h2 | ⟨rfl, h2⟩
          · exact .inl (UInt8.lt_trans h1 h2)
          · exact .inl h1
        · rcases h2 with h2 | ⟨rfl, h2⟩
          · exact .inl h2
          · exact .inr ⟨rfl, ih h1 h2⟩
/-- Each text stands ahead of all behind it. -/
def RiseT (ts : List (List UInt8)) : Prop := ts.Pairwise (fun a b => Op.bytesLess a b = true)
theorem riseT_from {ts : List (List UInt8)} : ∀ {p : Option (List UInt8)}, rowFrom p ts = 0 → RiseT ts ∧ ∀ q, p = some q → ∀ t ∈ ts, Op.bytesLess q t = true := by
  induction ts with
  | nil => intro p _; exact ⟨List.Pairwise.nil, fun q _ t ht => by cases ht⟩
  | cons t r ih =>
    intro p h
    rw [rowFrom] at h
    split at h
    · split at h
      · cases h
      · rename_i h1 h2
        obtain ⟨i1, i2⟩ := ih h
        have i3 := i2 t rfl
        refine ⟨List.Pairwise.cons i3 i1, fun q hq u hu => ?_⟩
        subst hq
        have hqt : Op.bytesLess q t = true := by simpa using h2
        rcases List.mem_cons.1 hu with rfl | hu
        · exact hqt
        · exact less_trans hqt (i3 u hu)
    · cases h
theorem riseT_row {ts : List (List UInt8)} (h : rowErr ts = 0) : RiseT ts := (riseT_from h).1
theorem RiseT.lt {ts : List (List UInt8)} (h : RiseT ts) {i j : Nat} {a b : List UInt8} (hij : i < j) (ha : ts[i]? = some a) (hb : ts[j]? = some b) : Op.bytesLess a b = true := by
  obtain ⟨h1, rfl⟩ := List.getElem?_eq_some_iff.1 ha
  obtain ⟨h2, rfl⟩ := List.getElem?_eq_some_iff.1 hb
  exact List.pairwise_iff_getElem.1 h i j h1 h2 hij
/-- The first place at which a text stands. -/
def posOf (s : List UInt8) : List (List UInt8) → Option Nat
  | [] => none
  | t :: r => if t == s then some 0 else (posOf s r).map (· + 1)
theorem posOf_none {s : List UInt8} {ts : List (List UInt8)} (h : ∀ (k : Nat) t, ts[k]? = some t → (t == s) = false) : posOf s ts = none := by
  induction ts with
  | nil => rfl
  | cons t r ih =>
    rw [posOf, h 0 t rfl, ih fun k u hu => h (k + 1) u hu]
    rfl
theorem posOf_some {s : List UInt8} {ts : List (List UInt8)} : ∀ {i : Nat} {t : List UInt8}, ts[i]? = some t → (t == s) = true → (∀ (k : Nat) u, k < i → ts[k]? = some u → (u == s) = false) → posOf s ts = some i := by
  induction ts with
  | nil => intro i t h; simp at h
  | cons a r ih =>
    intro i t h he hn
    cases i with
    | zero =>
      injection h with h
      subst h
      rw [posOf, he]
      rfl
    | succ i =>
      rw [posOf, hn 0 a (by omega) rfl, ih h he fun k u hk hu => hn (k + 1) u (by omega) hu]
      rfl
theorem posOf_lt {s : List UInt8} {ts : List (List UInt8)} : ∀ {i : Nat}, posOf s ts = some i → i < ts.length := by
  induction ts with
  | nil => intro i h; cases h
  | cons a r ih =>
    intro i h
    rw [posOf] at h
    split at h
    · injection h with h; subst h; simp
    · cases hp : posOf s r with
      | none => rw [hp] at h; cases h
      | some j => rw [hp] at h; simp at h; have := ih hp; simp; omega
/-- How far a search came. -/
def FoundT (s : List UInt8) (ts : List (List UInt8)) (k : Nat) (b : Bool) : Prop := k ≤ ts.length ∧ (b = true → posOf s ts = some k) ∧ (b = false → posOf s ts = none)
theorem found_yes {s t : List UInt8} {ts : List (List UInt8)} {i : Nat} (h1 : ∀ (m : Nat) u, m < i → ts[m]? = some u → Op.bytesLess u s = true) (ht : ts[i]? = some t) (he : (t == s) = true) : FoundT s ts i true := by
  refine ⟨Nat.le_of_lt (List.getElem?_eq_some_iff.1 ht).1, fun _ => posOf_some ht he fun k u hk hu => ?_, fun h => by cases h⟩
  rw [beq_eq_false_iff_ne]
  rintro rfl
  have := h1 k u hk hu
  rw [less_irr] at this
  cases this
theorem found_no {s : List UInt8} {ts : List (List UInt8)} {i : Nat} (hr : RiseT ts) (hi : i ≤ ts.length) (h1 : ∀ (m : Nat) u, m < i → ts[m]? = some u → Op.bytesLess u s = true) (h2 : ∀ (m : Nat) u, i ≤ m → ts[m]? = some u → Op.bytesLess u s = false) (h3 : ∀ u, ts[i]? = some u → (u == s) = false) : FoundT s ts i false := by
  refine ⟨hi, (fun h => by cases h), fun _ => posOf_none fun k u hu => ?_⟩
  rcases Nat.lt_trichotomy k i with hk | hk | hk
  · rw [beq_eq_false_iff_ne]
    rintro rfl
    have := h1 k u hk hu
    rw [less_irr] at this
    cases this
  · subst hk
    exact h3 u hu
  · rw [beq_eq_false_iff_ne]
    rintro rfl
    have hk2 := (List.getElem?_eq_some_iff.1 hu).1
    have := hr.lt hk (List.getElem?_eq_getElem (by omega : i < ts.length)) hu
    have h4 := h2 i _ (Nat.le_refl _) (List.getElem?_eq_getElem (by omega : i < ts.length))
    rw [this] at h4
    cases h4

set_option maxRecDepth 100000 in
theorem cnan_any (s : List UInt8) (w : World) : Calls Try.prog 114 #[.string ⟨s.toArray⟩] w fun e w' => e = .returned (.bool false) ∧ w = w' := by
  have h : (s != s) = false := by simp
  go_enter Try.func114, Try.ntmps114
  go_wp2
  go_ret
  exact ⟨rfl, rfl⟩
set_option maxRecDepth 100000 in
theorem snan_any (s : List UInt8) (w : World) : Calls Try.prog 109 #[.string ⟨s.toArray⟩] w fun e w' => e = .returned (.bool false) ∧ w = w' := by
  have h : (s != s) = false := by simp
  go_enter Try.func109, Try.ntmps109
  go_wp2
  go_ret
  exact ⟨rfl, rfl⟩
set_option maxRecDepth 100000 in
theorem sless_any (a b : List UInt8) (w : World) : Calls Try.prog 108 #[.string ⟨a.toArray⟩, .string ⟨b.toArray⟩] w fun e w' => e = .returned (.bool (Op.bytesLess a b)) ∧ w = w' := by
  go_enter Try.func108, Try.ntmps108
  go_wp2_with fail
  refine (cnan_any a _).mono ?_; rintro e w1 ⟨rfl, rfl⟩
  go_wp2
  go_ret
  exact ⟨rfl, rfl⟩
def SrchPost (s : List UInt8) (ts : List (List UInt8)) (w : World) (e : Ending) (w' : World) : Prop := ∃ (k : Nat) (b : Bool), e = .returned (.tuple #[.int .i64 k, .bool b]) ∧ w = w' ∧ FoundT s ts k b
set_option maxRecDepth 100000 in
set_option maxHeartbeats 2000000 in
theorem sbin_any (x : Row (List UInt8)) (s : List UInt8) (w : World) (hx : x.rd w) (hr : RiseT x.l) (hn : x.n ≤ 1000000) :
    Calls Try.prog 97 #[.slice x.A x.n x.c, .string ⟨s.toArray⟩] w (SrchPost s x.l w) := by
  have hlen : Hid (x.l.length = x.n) := hx.len
  have HX := Lib.hid hx
  have HR := Lib.hid hr
  obtain ⟨A, n, c, ts⟩ := x
  simp only at *
  clear hx hr
  go_enter Try.func97, Try.ntmps97
  go_wp2_with fail
  have HF : Hid ((∀ (m : Nat) u, m < 0 → ts[m]? = some u → Op.bytesLess u s = true) ∧ (∀ (m : Nat) u, n ≤ m → ts[m]? = some u → Op.bytesLess u s = false)) := ⟨fun m u h => absurd h (by omega), fun m u hm hu => by
    have := (List.getElem?_eq_some_iff.1 hu).1
    have := hlen.out
    omega⟩
  go_loopg [7, 8] n (fun gg s7 s8 wr => ∃ i j : Nat, gg = j - i ∧ i ≤ j ∧ j ≤ n ∧ s7 = .int .i64 i ∧ s8 = .int .i64 j ∧ w = wr ∧ Hid ((∀ (m : Nat) u, m < i → ts[m]? = some u → Op.bytesLess u s = true) ∧ (∀ (m : Nat) u, j ≤ m → ts[m]? = some u → Op.bytesLess u s = false)))
  case atStart => exact ⟨0, n, by omega, by omega, by omega, rfl, rfl, rfl, HF⟩
  case round =>
    clear HF
    obtain ⟨i, j, hgk, hij, hj, rfl, rfl, rfl, HF⟩ := hrel
    have Hgk := Lib.hid hgk
    clear hgk
    by_cases hlt : i < j
    · obtain ⟨b, o, t, hA, ht, htl, hc⟩ := HX.out.textAt (k := (i + j) / 2) (by show _ < n; omega)
      simp only at hA
      subst hA
      have HT := Lib.hid ht
      clear ht
      go_wp2_with fail
      refine (sless_any t s _).mono ?_; rintro e w1 ⟨rfl, rfl⟩
      cases hL : Op.bytesLess t s with
      | true =>
        have HN : Hid ((∀ (m : Nat) u, m < (i + j) / 2 + 1 → ts[m]? = some u → Op.bytesLess u s = true) ∧ (∀ (m : Nat) u, j ≤ m → ts[m]? = some u → Op.bytesLess u s = false)) := by
          refine ⟨fun m u hm hu => ?_, HF.out.2⟩
          rcases (show m < (i + j) / 2 ∨ m = (i + j) / 2 by omega) with h | h
          · exact less_trans (HR.out.lt h hu HT.out) hL
          · subst h
            rw [HT.out] at hu
            injection hu with hu
            subst hu
            exact hL
        clear HF hL
        go_wp2
        go_roundg (j - ((i + j) / 2 + 1))
        case rel => exact ⟨(i + j) / 2 + 1, j, rfl, by omega, hj, by go_num, rfl, rfl, HN⟩
        case measure => rw [Hgk.out]; omega
      | false =>
        have HN : Hid ((∀ (m : Nat) u, m < i → ts[m]? = some u → Op.bytesLess u s = true) ∧ (∀ (m : Nat) u, (i + j) / 2 ≤ m → ts[m]? = some u → Op.bytesLess u s = false)) := by
          refine ⟨HF.out.1, fun m u hm hu => ?_⟩
          rcases (show (i + j) / 2 < m ∨ m = (i + j) / 2 by omega) with h | h
          · cases hq : Op.bytesLess u s with
            | false => rfl
            | true => rw [less_trans (HR.out.lt h HT.out hu) hq] at hL; cases hL
          · subst h
            rw [HT.out] at hu
            injection hu with hu
            subst hu
            exact hL
        clear HF hL
        go_wp2
        go_roundg ((i + j) / 2 - i)
        case rel => exact ⟨i, (i + j) / 2, rfl, by omega, by omega, rfl, by go_num, rfl, HN⟩
        case measure => rw [Hgk.out]; omega
    · obtain rfl : i = j := by omega
      by_cases hin : i < n
      · obtain ⟨b, o, t, hA, ht, htl, hc⟩ := HX.out.textAt (k := i) hin
        simp only at hA
        subst hA
        have HT := Lib.hid ht
        clear ht
        cases hE : (t == s) with
        | true =>
          have HP := Lib.hid (found_yes HF.out.1 HT.out hE)
          clear HF
          go_wp2
          go_ret2
          exact ⟨i, true, rfl, rfl, HP.out⟩
        | false =>
          have HP := Lib.hid (found_no HR.out (by have := hlen.out; omega) HF.out.1 HF.out.2 (fun u hu => by rw [HT.out] at hu; injection hu with hu; subst hu; exact hE))
          clear HF
          go_wp2_with fail
          refine (snan_any t _).mono ?_; rintro e w1 ⟨rfl, rfl⟩
          go_wp2
          go_ret2
          exact ⟨i, false, rfl, rfl, HP.out⟩
      · have HP := Lib.hid (found_no HR.out (by have := hlen.out; omega) HF.out.1 HF.out.2 (fun u hu => by have := (List.getElem?_eq_some_iff.1 hu).1; have := hlen.out; omega))
        clear HF
        go_wp2
        go_ret2
        exact ⟨i, false, rfl, rfl, HP.out⟩
set_option maxRecDepth 100000 in
theorem tfind_any (x : Row (List UInt8)) (s : List UInt8) (w : World) (hx : x.rd w) (hr : RiseT x.l) (hn : x.n ≤ 1000000) :
    Calls Try.prog 73 #[.slice x.A x.n x.c, .string ⟨s.toArray⟩] w (SrchPost s x.l w) := by
  have HB := Lib.hid (sbin_any x s w hx hr hn)
  go_enter Try.func73, Try.ntmps73
  go_wp2_with fail
  refine HB.out.mono ?_; rintro e w1 ⟨k, b, rfl, rfl, hF⟩
  have HF := Lib.hid hF
  clear hF
  go_wp2
  go_ret2
  exact ⟨k, b, rfl, rfl, HF.out⟩
def atOf (s : List UInt8) (ts : List (List UInt8)) : Int := match posOf s ts with | some k => k | none => -1
set_option maxRecDepth 100000 in
set_option maxHeartbeats 1000000 in
theorem rat_any (x : Row (List UInt8)) (s : List UInt8) (w : World) (hx : x.rd w) :
    Calls Try.prog 56 #[.slice x.A x.n x.c, .string ⟨s.toArray⟩] w fun e w' => e = .returned (.int .i64 (atOf s x.l)) ∧ w = w' := by
  have hlen : Hid (x.l.length = x.n) := hx.len
  have HX := Lib.hid hx
  have n63 := hx.n63
  obtain ⟨A, n, c, ts⟩ := x
  simp only at *
  clear hx
  go_enter Try.func56, Try.ntmps56
  go_wp2_with fail
  have HF : Hid (∀ (k : Nat) u, k < 0 → ts[k]? = some u → (u == s) = false) := fun m u h => absurd h (by omega)
  go_loopg [5] n (fun gg s5 wr => ∃ i : Nat, gg = n - i ∧ i ≤ n ∧ s5 = .int .i64 i ∧ w = wr ∧ Hid (∀ (k : Nat) u, k < i → ts[k]? = some u → (u == s) = false))
  case atStart => exact ⟨0, rfl, by omega, rfl, rfl, HF⟩
  case round =>
    clear HF
    obtain ⟨i, hgk, hi, rfl, rfl, HF⟩ := hrel
    have Hgk := Lib.hid hgk
    clear hgk
    by_cases hlt : i < n
    · obtain ⟨b, o, t, hA, ht, htl, hc⟩ := HX.out.textAt (k := i) hlt
      simp only at hA
      subst hA
      have HT := Lib.hid ht
      have i0 : (0 : Int) ≤ i := by omega
      have i1 : (i : Int) < n := by omega
      clear ht
      cases hE : (t == s) with
      | true =>
        have HP : Hid (atOf s ts = i) := by show _ = _; unfold atOf; rw [posOf_some HT.out hE HF.out]
        clear HF
        go_wp2
        go_ret
        rw [HP.out]
        exact ⟨rfl, rfl⟩
      | false =>
        have HN : Hid (∀ (k : Nat) u, k < i + 1 → ts[k]? = some u → (u == s) = false) := by
          intro k u hk hu
          rcases (show k < i ∨ k = i by omega) with h | h
          · exact HF.out k u h hu
          · subst h
            rw [HT.out] at hu
            injection hu with hu
            subst hu
            exact hE
        clear HF
        go_wp2
        go_roundg (n - (i + 1))
        case rel => exact ⟨i + 1, rfl, by omega, by go_num, rfl, HN⟩
        case measure => rw [Hgk.out]; omega
    · have HP : Hid (atOf s ts = -1) := by
        show _ = _
        unfold atOf
        rw [posOf_none fun k u hu => HF.out k u (by have := (List.getElem?_eq_some_iff.1 hu).1; have := hlen.out; omega) hu]
      clear HF
      go_wp2
      go_ret
      rw [HP.out]
      exact ⟨rfl, rfl⟩

end Go.Proofs.Ytelnhhbefdfeoaa

namespace Go.Proofs.Ytelnhhbefdfeoaa
open Go.RowKit Go.ChangeShapes Go.WideShapes Go.Deep
set_option linter.unusedVariables false
set_option linter.unusedSimpArgs false

/-- A row. -/
structure Rw where
  ts : Row (List UInt8)
  vs : Row Int
abbrev Rw.cs (r : Rw) : Array Value := #[.slice r.ts.A r.ts.n r.ts.c, .slice r.vs.A r.vs.n r.vs.c]
structure Rw.rd (w : World) (r : Rw) : Prop where
  ts : r.ts.rd w
  vs : r.vs.rd w
theorem Rw.rd.mono {w w' : World} {s : Rw} (h : s.rd w) (hb : Bel w w') : s.rd w' := ⟨h.ts.mono hb, h.vs.mono hb⟩
instance instCelRw : Cel Rw where
  size := 2
  bytes := 48
  cells s := s.cs.toList
  ok w s := s.rd w
  len _ := rfl
  pos := by omega
  mono hb h := h.mono hb
structure RC where
  ts : List (List UInt8)
  vs : List Int
deriving DecidableEq
abbrev Rw.con (r : Rw) : RC := ⟨r.ts.l, r.vs.l⟩
theorem rw_one (r : Rw) : r.cs.all (·.oneCell') = true := by simp [Value.oneCell']
theorem rowRw : RowTy Try.prog 43 2 := ⟨⟨_, Try.underlying43, rfl⟩, by kernel_rfl⟩
theorem E_rw : ElemInfo Try.prog 26 43 2 48 := ElemInfo.mk' (z := .agg #[.slice none 0 0, .slice none 0 0]) Try.underlying26 (by kernel_rfl) rfl (by omega)
theorem E_i64 : ElemInfo Try.prog 41 2 1 8 := ElemInfo.mk' (z := .int .i64 0) Try.underlying41 (by kernel_rfl) rfl (by omega)
set_option maxRecDepth 100000 in
theorem c_rw : Try.prog.cellsOf 43 = 2 := by kernel_rfl
set_option maxRecDepth 100000 in
theorem c_i64 : Try.prog.cellsOf 2 = 1 := by kernel_rfl
set_option maxRecDepth 100000 in
theorem c_i64s : Try.prog.cellsOf 41 = 1 := by kernel_rfl
theorem opens_i64s : Opens Try.prog 41 (Row Int) := opens_row Try.underlying41 c_i64 (by kernel_rfl) (opens_i64 Try.underlying2)
theorem opens_rw : Opens Try.prog 43 Rw := by
  intro H enc w base spare held fuel cs x h hz
  have hl := struct_len Try.underlying43 h c_rw
  obtain ⟨a, ha, wa⟩ := field_of Try.underlying43 h hz 0 _ rfl opens_strs c_strs
  obtain ⟨b, hb, wb⟩ := field_of Try.underlying43 h hz 1 _ rfl opens_i64s c_i64s
  refine ⟨⟨a, b⟩, ?_, ⟨Row.ok.rds wa, Row.ok.rds wb⟩⟩
  match cs, hl with
  | [x0, x1], _ =>
    simp [Cel.cells, Row.v] at ha hb
    simp [Cel.cells, ha, hb]
set_option maxRecDepth 100000 in
theorem open_rws {H : Type} {enc : TypeId × Value → H} {w : World} {base b0 : Nat} {spare : Nat → Bool} {held : Bool} {r : Reach} {v : Value} {d : DataW H} {p : List MemPlace}
    (hv : Value.okWide Try.prog w r b0 26 v) (h : DataW.Trod enc Try.prog w base spare held 26 v d p) (hz : Sized Try.prog 26 d) : ∃ x : Row Rw, v = x.v ∧ x.rd w := by
  obtain ⟨x, hx, ho⟩ := open_row Try.underlying26 c_rw (by kernel_rfl) opens_rw hv h hz
  exact ⟨x, hx, ho.rds⟩
theorem Row.rd.rwAt {w : World} {x : Row Rw} (h : x.rd w) {k : Nat} (hk : k < x.n) : ∃ b o t, x.A = some ⟨b, o, none⟩ ∧ b < w.heap.size ∧ x.l[k]? = some t ∧ t.rd w ∧ w.rangeAt b (o + k * 2) t.cs.toList := by
  obtain ⟨b, o, t, e, hb, ht, hc⟩ := rd_range h.r hk
  exact ⟨b, o, t, e, hb, ht, h.all t (List.mem_of_getElem? ht), hc⟩
/-- The places of a row's members. -/
def rowKeys : List DC → List (List UInt8) → Except Int (List Int)
  | d :: ds, t :: ts =>
    match d.trs with
    | [] => .error 2
    | tr :: _ =>
      match posOf t tr.ts with
      | none => .error 13
      | some k =>
        match rowKeys ds ts with
        | .error e => .error e
        | .ok ks => .ok ((k : Int) :: ks)
  | _, _ => .ok []
def rowOf (s : SC) (r : RC) : Except Int (List Int) := if r.ts.length ≠ s.dims.length ∨ r.vs.length ≠ s.ms.length then .error 2 else rowKeys s.dims r.ts
def aheadK (acc : List Int) (o : Except Int (List Int)) : Except Int (List Int) := match o with | .error e => .error e | .ok ks => .ok (acc ++ ks)
theorem aheadK_nil (o : Except Int (List Int)) : aheadK [] o = o := by cases o <;> rfl
theorem aheadK_step {acc : List Int} {k : Int} {o : Except Int (List Int)} : aheadK acc (match o with | .error e => .error e | .ok ks => .ok (k :: ks)) = aheadK (acc ++ [k]) o := by cases o <;> simp [aheadK]
theorem rowKeys_drop {ds : List DC} {ts : List (List UInt8)} {k : Nat} {d : DC} {t : List UInt8} (hd : ds[k]? = some d) (ht : ts[k]? = some t) : rowKeys (ds.drop k) (ts.drop k) = match d.trs with | [] => .error 2 | tr :: _ => match posOf t tr.ts with | none => .error 13 | some p => match rowKeys (ds.drop (k + 1)) (ts.drop (k + 1)) with | .error e => .error e | .ok ks => .ok ((p : Int) :: ks) := by
  obtain ⟨h1, rfl⟩ := List.getElem?_eq_some_iff.1 hd
  obtain ⟨h2, rfl⟩ := List.getElem?_eq_some_iff.1 ht
  rw [List.drop_eq_getElem_cons h1, List.drop_eq_getElem_cons h2, rowKeys]
theorem rowKeys_drop0 {ds : List DC} {ts : List (List UInt8)} {k : Nat} {d : DC} {t : List UInt8} (hd : ds[k]? = some d) (ht : ts[k]? = some t) (h : d.trs = []) : rowKeys (ds.drop k) (ts.drop k) = .error 2 := by rw [rowKeys_drop hd ht, h]
theorem rowKeys_drop1 {ds : List DC} {ts : List (List UInt8)} {k : Nat} {d : DC} {t : List UInt8} {tr : TC} {r : List TC} (hd : ds[k]? = some d) (ht : ts[k]? = some t) (h : d.trs = tr :: r) : rowKeys (ds.drop k) (ts.drop k) = match posOf t tr.ts with | none => .error 13 | some p => match rowKeys (ds.drop (k + 1)) (ts.drop (k + 1)) with | .error e => .error e | .ok ks => .ok ((p : Int) :: ks) := by rw [rowKeys_drop hd ht, h]
/-- How Row ends. -/
def RowPost (o : Except Int (List Int)) (w : World) (e : Ending) (w' : World) : Prop :=
  match o with
  | .error k => e = .returned (.tuple #[.slice none 0 0, .int .i64 k]) ∧ Bel w w'
  | .ok ks => ∃ (A : Option Addr) (c : Nat), e = .returned (.tuple #[.slice A ks.length c, .int .i64 0]) ∧ Bel w w' ∧ w'.ownsRow w.heap.size 3 1 (.slice A ks.length c) ks.length (ks.map (Value.int .i64))

set_option maxRecDepth 100000 in
set_option maxHeartbeats 2000000 in
theorem schrow_any (s : Sch) (r : Rw) (w : World) (hs : s.rd w) (hrw : r.rd w) (hn : s.dm.n ≤ 1000000) (hr : ∀ d ∈ s.dm.l, ∀ t ∈ d.tr.l, RiseT t.ts.l ∧ t.ts.n ≤ 1000000) :
    Calls Try.prog 50 #[.agg s.cs, .agg r.cs] w (RowPost (rowOf s.con r.con) w) := by
  have hl1 : Hid (s.dm.l.length = s.dm.n) := hs.dm.len
  have hl2 : Hid (s.ms.l.length = s.ms.n) := hs.ms.len
  have hl3 : Hid (r.ts.l.length = r.ts.n) := hrw.ts.len
  have hl4 : Hid (r.vs.l.length = r.vs.n) := hrw.vs.len
  have HD := Lib.hid hs.dm
  have HT := Lib.hid hrw.ts
  have HRI := Lib.hid hr
  have n63 := hs.dm.n63
  have m63 := hrw.vs.n63
  have t63 := hrw.ts.n63
  have e63 := hs.ms.n63
  have H := Lib.hid (((SL.start No w).alloc s.cs 25).alloc r.cs 43)
  (try simp only [List.set_cons_zero, List.set_cons_succ, List.cons_append, List.nil_append, List.eraseIdx_cons_zero, List.eraseIdx_cons_succ, List.setIfInBounds_toArray, World.size_alloc, selR, List.getD_cons_zero, List.getD_cons_succ] at H)
  obtain ⟨⟨A, n, c, ds⟩, ⟨A2, n2, c2, ms⟩⟩ := s
  obtain ⟨⟨A3, n3, c3, ts⟩, ⟨A4, n4, c4, vs⟩⟩ := r
  simp only [Sch.cs, Sch.con, Rw.cs, Rw.con] at *
  clear hs hrw hr
  go_enter Try.func50, Try.ntmps50
  have cc0 := (H.out.blk 0 rfl).cell 0; simp only [List.getElem?_toArray, List.getElem?_cons_zero, List.getElem?_cons_succ] at cc0
  have cc1 := (H.out.blk 1 rfl).cell 0; simp only [List.getElem?_toArray, List.getElem?_cons_zero, List.getElem?_cons_succ] at cc1
  have cc5 := (H.out.blk 0 rfl).cell 1; simp only [List.getElem?_toArray, List.getElem?_cons_zero, List.getElem?_cons_succ] at cc5
  have cc6 := (H.out.blk 1 rfl).cell 1; simp only [List.getElem?_toArray, List.getElem?_cons_zero, List.getElem?_cons_succ] at cc6
  by_cases h1 : n3 = n
  · subst h1
    by_cases h2 : n4 = n2
    · subst h2
      have HE : Hid (rowOf ⟨ds.map Dm.con, ms⟩ ⟨ts, vs⟩ = aheadK [] (rowKeys ((ds.map Dm.con).drop 0) (ts.drop 0))) := by
        show _ = _
        unfold rowOf
        rw [if_neg (by have := hl1.out; have := hl2.out; have := hl3.out; have := hl4.out; simp; omega), aheadK_nil]
        rfl
      go_wp2_with fail
      clear cc0 cc1 cc5 cc6
      generalize w.heap.size + 1 = y at *
      generalize w.heap.size = x at *
      replace H := Lib.hid (H.out.addNil 3 1); (try simp only [List.set_cons_zero, List.set_cons_succ, List.cons_append, List.nil_append, List.eraseIdx_cons_zero, List.eraseIdx_cons_succ, List.setIfInBounds_toArray, World.size_alloc, selR, List.getD_cons_zero, List.getD_cons_succ] at H)
      generalize World.alloc _ _ = w1 at *
      go_loopg [6, 30] n3 (fun gg s6 si wr => ∃ (k : Nat) (ks : List Int) (B : Option Addr) (d : Nat), gg = n3 - k ∧ k ≤ n3 ∧ si = .int .i64 k ∧ s6 = .slice B k d ∧ Hid (ks.length = k) ∧ Hid (SL No w wr [rBlk x 25 #[.slice A n3 c, .slice A2 n4 c2], rBlk y 43 #[.slice A3 n3 c3, .slice A4 n4 c4], rRow 3 1 (.slice B k d) k (ks.map (Value.int .i64))]) ∧ Hid (rowOf ⟨ds.map Dm.con, ms⟩ ⟨ts, vs⟩ = aheadK ks (rowKeys ((ds.map Dm.con).drop k) (ts.drop k))))
      case atStart => exact ⟨0, [], none, 0, rfl, by omega, rfl, rfl, rfl, H, HE⟩
      case round =>
        clear H HE
        obtain ⟨k, ks, B, d, hgk, hk, rfl, rfl, hkc, H, HE⟩ := hrel
        have Hgk := Lib.hid hgk
        clear hgk
        by_cases hlt : k < n3
        · obtain ⟨b1, o1, D, hA, hb1, hDk, hDr, hrg⟩ := (HD.out.mono H.out.to).dmAt (k := k) hlt
          simp only at hA
          subst hA
          obtain ⟨b3, o3, t, hA3, htk, htl, q3⟩ := (HT.out.mono H.out.to).textAt (k := k) hlt
          simp only at hA3
          subst hA3
          have hDc : (ds.map Dm.con)[k]? = some D.con := by rw [List.getElem?_map, hDk]; rfl
          have HDc := Lib.hid hDc
          have HTk : Hid (ts[k]? = some t) := htk
          have HDK := Lib.hid hDk
          have q1 := hrg 1 _ rfl
          have htrl : Hid (D.tr.l.length = D.tr.n) := hDr.tr.len
          have HDR := Lib.hid hDr
          have D63 := hDr.tr.n63
          have i0 : (0 : Int) ≤ k := by omega
          have i1 : (k : Int) < n3 := by omega
          have cc0 := (H.out.blk 0 rfl).cell 0; simp only [List.getElem?_toArray, List.getElem?_cons_zero, List.getElem?_cons_succ] at cc0
          have cc1 := (H.out.blk 1 rfl).cell 0; simp only [List.getElem?_toArray, List.getElem?_cons_zero, List.getElem?_cons_succ] at cc1
          clear hDk hrg hDc htk hDr hb1
          by_cases hz : D.tr.n = 0
          · have HN : Hid (rowOf ⟨ds.map Dm.con, ms⟩ ⟨ts, vs⟩ = .error 2) := by
              show _ = _
              rw [HE.out, rowKeys_drop0 HDc.out HTk.out (by show D.tr.l.map Tir.con = []; rw [List.eq_nil_of_length_eq_zero (l := D.tr.l) (by rw [htrl.out]; exact hz)]; rfl)]
              rfl
            have z1 : ((D.tr.n : Int) == 0) = true := by simp [hz]
            have z2 : (D.tr.n == 0) = true := by simp [hz]
            clear HE HDc HTk
            rw [hz] at q1
            clear hz z1 z2
            go_wp2
            go_ret2
            rw [HN.out]
            exact ⟨rfl, H.out.to⟩
          · have z1 : ((D.tr.n : Int) == 0) = false := by simp <;> omega
            have z2 : (D.tr.n == 0) = false := by simp <;> omega
            obtain ⟨b2, o2, T, hT, hb2, hT0, hTr, hrg2⟩ := HDR.out.tr.tirAt (k := 0) (by omega)
            have q2 := hrg2 1 _ rfl
            simp only [Nat.zero_mul, Nat.add_zero] at q2
            rw [hT] at q1
            have j1 : (0 : Int) < D.tr.n := by omega
            have hT0c : (D.tr.l.map Tir.con) = T.con :: (D.tr.l.map Tir.con).tail := by
              cases hl : D.tr.l with
              | nil => rw [hl] at hT0; cases hT0
              | cons a r => rw [hl] at hT0; injection hT0 with hT0; subst hT0; rfl
            have HTC := Lib.hid hT0c
            have HTr := Lib.hid hTr.ts
            obtain ⟨hri, hTn⟩ := HRI.out D (List.mem_of_getElem? HDK.out) T (List.mem_of_getElem? hT0)
            have HRi := Lib.hid hri
            clear hri
            clear hT hT0 hTr hrg2 hT0c hb2
            go_wp2_with fail
            refine (tfind_any T.ts t _ HTr.out HRi.out hTn).mono ?_; rintro e w5 ⟨p, fb, rfl, rfl, hF⟩
            clear cc0 cc1 q1 q2 q3
            cases fb with
            | false =>
              have HN : Hid (rowOf ⟨ds.map Dm.con, ms⟩ ⟨ts, vs⟩ = .error 13) := by show _ = _; rw [HE.out, rowKeys_drop1 HDc.out HTk.out (show D.con.trs = _ from HTC.out)]; show aheadK ks (match posOf t T.ts.l with | none => _ | some k => _) = _; rw [hF.2.2 rfl]; rfl
              clear HE HDc HTk hF
              go_wp2
              go_ret2
              rw [HN.out]
              exact ⟨rfl, H.out.to⟩
            | true =>
              have HN : Hid (rowOf ⟨ds.map Dm.con, ms⟩ ⟨ts, vs⟩ = aheadK (ks ++ [(p : Int)]) (rowKeys ((ds.map Dm.con).drop (k + 1)) (ts.drop (k + 1)))) := by
                show _ = _
                rw [HE.out, rowKeys_drop1 HDc.out HTk.out (show D.con.trs = _ from HTC.out)]
                show aheadK ks (match posOf t T.ts.l with | none => _ | some k => _) = _
                rw [hF.2.1 rfl]
                exact aheadK_step
              clear HE HDc HTk hF
              go_wp2_with ((with_reducible show wpList _ _ _ (⟨some 62, _, _, _, _, _⟩ :: _) _ _); (replace H := Lib.hid (H.out.alloc #[.int .i64 (p : Nat)] 3); (try simp only [List.set_cons_zero, List.set_cons_succ, List.cons_append, List.nil_append, List.eraseIdx_cons_zero, List.eraseIdx_cons_succ, List.setIfInBounds_toArray, World.size_alloc, selR, List.getD_cons_zero, List.getD_cons_succ] at H); refine wpList_append0 rfl (.tmp 59) (.tmp 61) _ rfl E_num 0 (Nat.zero_le _) _ k _ rfl (H.out.row 2 rfl) _ 1 1 [.int .i64 (p : Nat)] rfl (reads_of_block (H.out.blk 3 rfl) rfl) (by simp [Value.oneCell']) (by unfold maxLen; omega) (by omega) ?_; intro vq wq howq hgq hatq; replace H := Lib.hid (H.out.setRow 2 rfl hgq howq hatq); (try simp only [List.set_cons_zero, List.set_cons_succ, List.cons_append, List.nil_append, List.eraseIdx_cons_zero, List.eraseIdx_cons_succ, List.setIfInBounds_toArray, World.size_alloc, selR, List.getD_cons_zero, List.getD_cons_succ] at H); clear howq hgq hatq; obtain ⟨A9, c9, rfl, _⟩ := own_slice (H.out.row 2 rfl)))
              replace H := Lib.hid (H.out.sel [0, 1, 2] (by decide) (by simp)); (try simp only [List.set_cons_zero, List.set_cons_succ, List.cons_append, List.nil_append, List.eraseIdx_cons_zero, List.eraseIdx_cons_succ, List.setIfInBounds_toArray, World.size_alloc, selR, List.getD_cons_zero, List.getD_cons_succ] at H)
              go_roundg (n3 - (k + 1))
              case rel => exact ⟨k + 1, ks ++ [(p : Int)], A9, c9, rfl, by omega, by go_num, rfl, by show _ = _; rw [List.length_append, hkc.out]; rfl, by rw [List.map_append]; exact H, HN⟩
              case measure => rw [Hgk.out]; omega
        · have HN : Hid (rowOf ⟨ds.map Dm.con, ms⟩ ⟨ts, vs⟩ = .ok ks) := by
            show _ = _
            rw [HE.out, List.drop_of_length_le (by have := hl1.out; simp; omega)]
            show aheadK ks (.ok []) = _
            unfold aheadK
            simp
          have hks := hkc.out
          clear HE
          go_wp2
          go_ret2
          rw [HN.out]
          refine ⟨B, d, ?_, H.out.to, ?_⟩
          · rw [hks]; rfl
          · rw [hks]; exact H.out.rowB 2 rfl
    · have HE : Hid (rowOf ⟨ds.map Dm.con, ms⟩ ⟨ts, vs⟩ = .error 2) := by show _ = _; unfold rowOf; rw [if_pos (.inr (by have := hl2.out; have := hl4.out; simp; omega))]
      have g1 : ((n4 : Int) != (n2 : Int)) = true := by simp <;> omega
      have g2 : (n4 != n2) = true := by simp <;> omega
      go_wp2
      go_ret2
      rw [HE.out]
      exact ⟨rfl, H.out.to⟩
  · have HE : Hid (rowOf ⟨ds.map Dm.con, ms⟩ ⟨ts, vs⟩ = .error 2) := by show _ = _; unfold rowOf; rw [if_pos (.inl (by have := hl1.out; have := hl3.out; simp; omega))]
    have g1 : ((n3 : Int) != (n : Int)) = true := by simp <;> omega
    have g2 : (n3 != n) = true := by simp <;> omega
    go_wp2
    go_ret2
    rw [HE.out]
    exact ⟨rfl, H.out.to⟩

set_option maxRecDepth 100000 in
set_option maxHeartbeats 2000000 in
theorem rrow2_any (s : Sch) (r : Rw) (w : World) (hs : s.rd w) (hrw : r.rd w) (hn : s.dm.n ≤ 1000000) :
    Calls Try.prog 35 #[.agg s.cs, .agg r.cs] w (RowPost (rowOf s.con r.con) w) := by
  have hl1 : Hid (s.dm.l.length = s.dm.n) := hs.dm.len
  have hl2 : Hid (s.ms.l.length = s.ms.n) := hs.ms.len
  have hl3 : Hid (r.ts.l.length = r.ts.n) := hrw.ts.len
  have hl4 : Hid (r.vs.l.length = r.vs.n) := hrw.vs.len
  have HD := Lib.hid hs.dm
  have HT := Lib.hid hrw.ts
  have n63 := hs.dm.n63
  have m63 := hrw.vs.n63
  have t63 := hrw.ts.n63
  have e63 := hs.ms.n63
  have H := Lib.hid (((SL.start No w).alloc s.cs 25).alloc r.cs 43)
  (try simp only [List.set_cons_zero, List.set_cons_succ, List.cons_append, List.nil_append, List.eraseIdx_cons_zero, List.eraseIdx_cons_succ, List.setIfInBounds_toArray, World.size_alloc, selR, List.getD_cons_zero, List.getD_cons_succ] at H)
  obtain ⟨⟨A, n, c, ds⟩, ⟨A2, n2, c2, ms⟩⟩ := s
  obtain ⟨⟨A3, n3, c3, ts⟩, ⟨A4, n4, c4, vs⟩⟩ := r
  simp only [Sch.cs, Sch.con, Rw.cs, Rw.con] at *
  clear hs hrw
  go_enter Try.func35, Try.ntmps35
  have cc0 := (H.out.blk 0 rfl).cell 0; simp only [List.getElem?_toArray, List.getElem?_cons_zero, List.getElem?_cons_succ] at cc0
  have cc1 := (H.out.blk 1 rfl).cell 0; simp only [List.getElem?_toArray, List.getElem?_cons_zero, List.getElem?_cons_succ] at cc1
  have cc5 := (H.out.blk 0 rfl).cell 1; simp only [List.getElem?_toArray, List.getElem?_cons_zero, List.getElem?_cons_succ] at cc5
  have cc6 := (H.out.blk 1 rfl).cell 1; simp only [List.getElem?_toArray, List.getElem?_cons_zero, List.getElem?_cons_succ] at cc6
  by_cases h1 : n3 = n
  · subst h1
    by_cases h2 : n4 = n2
    · subst h2
      have HE : Hid (rowOf ⟨ds.map Dm.con, ms⟩ ⟨ts, vs⟩ = aheadK [] (rowKeys ((ds.map Dm.con).drop 0) (ts.drop 0))) := by
        show _ = _
        unfold rowOf
        rw [if_neg (by have := hl1.out; have := hl2.out; have := hl3.out; have := hl4.out; simp; omega), aheadK_nil]
        rfl
      go_wp2_with fail
      clear cc0 cc1 cc5 cc6
      generalize w.heap.size + 1 = y at *
      generalize w.heap.size = x at *
      replace H := Lib.hid (H.out.addNil 3 1); (try simp only [List.set_cons_zero, List.set_cons_succ, List.cons_append, List.nil_append, List.eraseIdx_cons_zero, List.eraseIdx_cons_succ, List.setIfInBounds_toArray, World.size_alloc, selR, List.getD_cons_zero, List.getD_cons_succ] at H)
      generalize World.alloc _ _ = w1 at *
      go_loopg [6, 28] n3 (fun gg s6 si wr => ∃ (k : Nat) (ks : List Int) (B : Option Addr) (d : Nat), gg = n3 - k ∧ k ≤ n3 ∧ si = .int .i64 k ∧ s6 = .slice B k d ∧ Hid (ks.length = k) ∧ Hid (SL No w wr [rBlk x 25 #[.slice A n3 c, .slice A2 n4 c2], rBlk y 43 #[.slice A3 n3 c3, .slice A4 n4 c4], rRow 3 1 (.slice B k d) k (ks.map (Value.int .i64))]) ∧ Hid (rowOf ⟨ds.map Dm.con, ms⟩ ⟨ts, vs⟩ = aheadK ks (rowKeys ((ds.map Dm.con).drop k) (ts.drop k))))
      case atStart => exact ⟨0, [], none, 0, rfl, by omega, rfl, rfl, rfl, H, HE⟩
      case round =>
        clear H HE
        obtain ⟨k, ks, B, d, hgk, hk, rfl, rfl, hkc, H, HE⟩ := hrel
        have Hgk := Lib.hid hgk
        clear hgk
        by_cases hlt : k < n3
        · obtain ⟨b1, o1, D, hA, hb1, hDk, hDr, hrg⟩ := (HD.out.mono H.out.to).dmAt (k := k) hlt
          simp only at hA
          subst hA
          obtain ⟨b3, o3, t, hA3, htk, htl, q3⟩ := (HT.out.mono H.out.to).textAt (k := k) hlt
          simp only at hA3
          subst hA3
          have hDc : (ds.map Dm.con)[k]? = some D.con := by rw [List.getElem?_map, hDk]; rfl
          have HDc := Lib.hid hDc
          have HTk : Hid (ts[k]? = some t) := htk
          have HDK := Lib.hid hDk
          have q1 := hrg 1 _ rfl
          have htrl : Hid (D.tr.l.length = D.tr.n) := hDr.tr.len
          have HDR := Lib.hid hDr
          have D63 := hDr.tr.n63
          have i0 : (0 : Int) ≤ k := by omega
          have i1 : (k : Int) < n3 := by omega
          have cc0 := (H.out.blk 0 rfl).cell 0; simp only [List.getElem?_toArray, List.getElem?_cons_zero, List.getElem?_cons_succ] at cc0
          have cc1 := (H.out.blk 1 rfl).cell 0; simp only [List.getElem?_toArray, List.getElem?_cons_zero, List.getElem?_cons_succ] at cc1
          clear hDk hrg hDc htk hDr hb1
          by_cases hz : D.tr.n = 0
          · have HN : Hid (rowOf ⟨ds.map Dm.con, ms⟩ ⟨ts, vs⟩ = .error 2) := by
              show _ = _
              rw [HE.out, rowKeys_drop0 HDc.out HTk.out (by show D.tr.l.map Tir.con = []; rw [List.eq_nil_of_length_eq_zero (l := D.tr.l) (by rw [htrl.out]; exact hz)]; rfl)]
              rfl
            have z1 : ((D.tr.n : Int) == 0) = true := by simp [hz]
            have z2 : (D.tr.n == 0) = true := by simp [hz]
            clear HE HDc HTk
            rw [hz] at q1
            clear hz z1 z2
            go_wp2
            go_ret2
            rw [HN.out]
            exact ⟨rfl, H.out.to⟩
          · have z1 : ((D.tr.n : Int) == 0) = false := by simp <;> omega
            have z2 : (D.tr.n == 0) = false := by simp <;> omega
            obtain ⟨b2, o2, T, hT, hb2, hT0, hTr, hrg2⟩ := HDR.out.tr.tirAt (k := 0) (by omega)
            have q2 := hrg2 1 _ rfl
            simp only [Nat.zero_mul, Nat.add_zero] at q2
            rw [hT] at q1
            have j1 : (0 : Int) < D.tr.n := by omega
            have hT0c : (D.tr.l.map Tir.con) = T.con :: (D.tr.l.map Tir.con).tail := by
              cases hl : D.tr.l with
              | nil => rw [hl] at hT0; cases hT0
              | cons a r => rw [hl] at hT0; injection hT0 with hT0; subst hT0; rfl
            have HTC := Lib.hid hT0c
            have HTr := Lib.hid hTr.ts
            clear hT hT0 hTr hrg2 hT0c hb2
            go_upto_region 9 with fail
            have f0 := fun u : Over wr => Over.cell cc0 u
            have f1 := fun u : Over wr => Over.cell cc1 u
            have f2 := fun u : Over wr => Over.cell q1 u
            have f3 := fun u : Over wr => Over.cell q2 u
            have f4 := fun u : Over wr => Over.cell q3 u
            refine wp_region_over (by kernel_rfl) (by kernel_rfl) ?_
            repeat (go_big_quiet_step ((go_at_call 56; rename_i u; exact calls_over_same (rat_any T.ts t _ (HTr.out.mono u.bel)))))
            refine wpQuiet_nil ?_
            rintro _ ⟨⟨w5, hw5⟩, rfl⟩
            replace H := Lib.hid (H.out.bel hw5); (try simp only [List.set_cons_zero, List.set_cons_succ, List.cons_append, List.nil_append, List.eraseIdx_cons_zero, List.eraseIdx_cons_succ, List.setIfInBounds_toArray, World.size_alloc, selR, List.getD_cons_zero, List.getD_cons_succ] at H)
            clear hw5 f0 f1 f2 f3 f4 cc0 cc1 q1 q2 q3
            cases hP : posOf t T.ts.l with
            | none =>
              have HN : Hid (rowOf ⟨ds.map Dm.con, ms⟩ ⟨ts, vs⟩ = .error 13) := by show _ = _; rw [HE.out, rowKeys_drop1 HDc.out HTk.out (show D.con.trs = _ from HTC.out)]; show aheadK ks (match posOf t T.ts.l with | none => _ | some k => _) = _; rw [hP]; rfl
              have hAt : atOf t T.ts.l = -1 := by unfold atOf; rw [hP]
              rw [hAt]
              clear HE HDc HTk hP hAt
              go_wp2
              go_ret2
              rw [HN.out]
              exact ⟨rfl, H.out.to⟩
            | some p =>
              have hpl := posOf_lt hP
              have hTn63 := HTr.out.n63
              rw [HTr.out.len] at hpl
              have HN : Hid (rowOf ⟨ds.map Dm.con, ms⟩ ⟨ts, vs⟩ = aheadK (ks ++ [(p : Int)]) (rowKeys ((ds.map Dm.con).drop (k + 1)) (ts.drop (k + 1)))) := by
                show _ = _
                rw [HE.out, rowKeys_drop1 HDc.out HTk.out (show D.con.trs = _ from HTC.out)]
                show aheadK ks (match posOf t T.ts.l with | none => _ | some k => _) = _
                rw [hP]
                exact aheadK_step
              have hAt : atOf t T.ts.l = (p : Int) := by unfold atOf; rw [hP]
              rw [hAt]
              clear HE HDc HTk hP hAt
              go_wp2_with ((with_reducible show wpList _ _ _ (⟨some 59, _, _, _, _, _⟩ :: _) _ _); (replace H := Lib.hid (H.out.alloc #[.int .i64 (p : Nat)] 3); (try simp only [List.set_cons_zero, List.set_cons_succ, List.cons_append, List.nil_append, List.eraseIdx_cons_zero, List.eraseIdx_cons_succ, List.setIfInBounds_toArray, World.size_alloc, selR, List.getD_cons_zero, List.getD_cons_succ] at H); refine wpList_append0 rfl (.tmp 56) (.tmp 58) _ rfl E_num 0 (Nat.zero_le _) _ k _ rfl (H.out.row 2 rfl) _ 1 1 [.int .i64 (p : Nat)] rfl (reads_of_block (H.out.blk 3 rfl) rfl) (by simp [Value.oneCell']) (by unfold maxLen; omega) (by omega) ?_; intro vq wq howq hgq hatq; replace H := Lib.hid (H.out.setRow 2 rfl hgq howq hatq); (try simp only [List.set_cons_zero, List.set_cons_succ, List.cons_append, List.nil_append, List.eraseIdx_cons_zero, List.eraseIdx_cons_succ, List.setIfInBounds_toArray, World.size_alloc, selR, List.getD_cons_zero, List.getD_cons_succ] at H); clear howq hgq hatq; obtain ⟨A9, c9, rfl, _⟩ := own_slice (H.out.row 2 rfl)))
              replace H := Lib.hid (H.out.sel [0, 1, 2] (by decide) (by simp)); (try simp only [List.set_cons_zero, List.set_cons_succ, List.cons_append, List.nil_append, List.eraseIdx_cons_zero, List.eraseIdx_cons_succ, List.setIfInBounds_toArray, World.size_alloc, selR, List.getD_cons_zero, List.getD_cons_succ] at H)
              go_roundg (n3 - (k + 1))
              case rel => exact ⟨k + 1, ks ++ [(p : Int)], A9, c9, rfl, by omega, by go_num, rfl, by show _ = _; rw [List.length_append, hkc.out]; rfl, by rw [List.map_append]; exact H, HN⟩
              case measure => rw [Hgk.out]; omega
        · have HN : Hid (rowOf ⟨ds.map Dm.con, ms⟩ ⟨ts, vs⟩ = .ok ks) := by
            show _ = _
            rw [HE.out, List.drop_of_length_le (by have := hl1.out; simp; omega)]
            show aheadK ks (.ok []) = _
            unfold aheadK
            simp
          have hks := hkc.out
          clear HE
          go_wp2
          go_ret2
          rw [HN.out]
          refine ⟨B, d, ?_, H.out.to, ?_⟩
          · rw [hks]; rfl
          · rw [hks]; exact H.out.rowB 2 rfl
    · have HE : Hid (rowOf ⟨ds.map Dm.con, ms⟩ ⟨ts, vs⟩ = .error 2) := by show _ = _; unfold rowOf; rw [if_pos (.inr (by have := hl2.out; have := hl4.out; simp; omega))]
      have g1 : ((n4 : Int) != (n2 : Int)) = true := by simp <;> omega
      have g2 : (n4 != n2) = true := by simp <;> omega
      go_wp2
      go_ret2
      rw [HE.out]
      exact ⟨rfl, H.out.to⟩
  · have HE : Hid (rowOf ⟨ds.map Dm.con, ms⟩ ⟨ts, vs⟩ = .error 2) := by show _ = _; unfold rowOf; rw [if_pos (.inl (by have := hl1.out; have := hl3.out; simp; omega))]
    have g1 : ((n3 : Int) != (n : Int)) = true := by simp <;> omega
    have g2 : (n3 != n) = true := by simp <;> omega
    go_wp2
    go_ret2
    rw [HE.out]
    exact ⟨rfl, H.out.to⟩


end Go.Proofs.Ytelnhhbefdfeoaa

namespace Go.Proofs.Ytelnhhbefdfeoaa
open Go.RowKit
set_option linter.unusedVariables false
set_option linter.unusedSimpArgs false

def rowsErr (s : SC) : List RC → Int
  | [] => 0
  | r :: rs => match rowOf s r with | .error e => e | .ok _ => rowsErr s rs
def batErr (s : SC) (rows : List RC) : Int := if schErr s ≠ 0 then schErr s else if 300 < rows.length then 5 else rowsErr s rows
def rowPut (r : RC) : List UInt8 := r.ts.flatMap ptext ++ r.vs.flatMap (fun x => nput (nfold x))
def batPut (rows : List RC) : List UInt8 := nput rows.length ++ rows.flatMap rowPut
def batPutV (s : SC) (rows : List RC) : List UInt8 × Int := if batErr s rows = 0 then (batPut rows, 0) else ([], batErr s rows)
theorem rowsErr_drop {s : SC} {rows : List RC} {k : Nat} {r : RC} (h : rows[k]? = some r) : rowsErr s (rows.drop k) = match rowOf s r with | .error e => e | .ok _ => rowsErr s (rows.drop (k + 1)) := by
  obtain ⟨h1, rfl⟩ := List.getElem?_eq_some_iff.1 h
  rw [List.drop_eq_getElem_cons h1, rowsErr]
theorem rowKeys_err {ds : List DC} : ∀ {ts : List (List UInt8)} {e : Int}, rowKeys ds ts = .error e → e = 2 ∨ e = 13 := by
  induction ds with
  | nil => intro ts e h; cases ts <;> simp [rowKeys] at h
  | cons d ds ih =>
    intro ts e h
    cases ts with
    | nil => simp [rowKeys] at h
    | cons t ts =>
      rw [rowKeys] at h
      split at h
      · injection h with h; exact .inl h.symm
      · split at h
        · injection h with h; exact .inr h.symm
        · split at h
          · rename_i h1; injection h with h; subst h; exact ih h1
          · cases h
theorem rowOf_err {s : SC} {r : RC} {e : Int} (h : rowOf s r = .error e) : e = 2 ∨ e = 13 := by
  unfold rowOf at h
  split at h
  · injection h with h; exact .inl h.symm
  · exact rowKeys_err h
theorem rowsErr_ok {s : SC} {rows : List RC} (h : rowsErr s rows = 0) : ∀ r ∈ rows, ∃ ks, rowOf s r = .ok ks := by
  induction rows with
  | nil => intro r hr; cases hr
  | cons a rs ih =>
    intro r hr
    rw [rowsErr] at h
    cases ha : rowOf s a with
    | error e =>
      rw [ha] at h
      have := rowOf_err ha
      simp only at h
      omega
    | ok ks =>
      rw [ha] at h
      rcases List.mem_cons.1 hr with rfl | hr
      · exact ⟨ks, ha⟩
      · exact ih h r hr
theorem batErr_zero {s : SC} {rows : List RC} (h : batErr s rows = 0) : schErr s = 0 ∧ rows.length ≤ 300 ∧ ∀ r ∈ rows, ∃ ks, rowOf s r = .ok ks := by
  unfold batErr at h
  split at h
  · rename_i h1; exact absurd h h1
  · split at h
    · cases h
    · exact ⟨by omega, by omega, rowsErr_ok h⟩
theorem posOf_mem {s : List UInt8} {ts : List (List UInt8)} : ∀ {i : Nat}, posOf s ts = some i → s ∈ ts := by
  induction ts with
  | nil => intro i h; cases h
  | cons a r ih =>
    intro i h
    rw [posOf] at h
    split at h
    · rename_i h1; rw [beq_iff_eq] at h1; subst h1; exact List.mem_cons_self ..
    · cases hp : posOf s r with
      | none => rw [hp] at h; cases h
      | some j => exact List.mem_cons_of_mem _ (ih hp)
theorem rowKeys_small {ds : List DC} : ∀ {ts : List (List UInt8)} {ks : List Int}, (∀ d ∈ ds, ∀ tr ∈ d.trs, ∀ t ∈ tr.ts, t.length ≤ 16) → ts.length = ds.length → rowKeys ds ts = .ok ks → ∀ t ∈ ts, t.length ≤ 16 := by
  induction ds with
  | nil => intro ts ks _ hl _ t ht; cases ts with | nil => cases ht | cons a r => simp at hl
  | cons d ds ih =>
    intro ts ks hd hl h t ht
    cases ts with
    | nil => cases ht
    | cons a r =>
      rw [rowKeys] at h
      split at h
      · cases h
      · rename_i tr rest htr
        split at h
        · cases h
        · rename_i k hp
          split at h
          · cases h
          · rename_i ks' hk
            rcases List.mem_cons.1 ht with rfl | ht
            · exact hd d (List.mem_cons_self ..) tr (by rw [htr]; exact List.mem_cons_self ..) _ (posOf_mem hp)
            · exact ih (fun d' hd' => hd d' (List.mem_cons_of_mem _ hd')) (by simpa using hl) hk t ht
theorem dim_terms {d : DC} (h : dimErr d = 0) : ∀ tr ∈ d.trs, rowErr tr.ts = 0 ∧ tr.ts.length ≤ 200 := fun tr htr => by
  obtain ⟨a, ha⟩ := allOk_mem (dimFrom_ok (dimErr_zero h).2.2.2) htr
  exact ⟨(tierErr_zero ha).2.2.2.1, (tierErr_zero ha).2.2.1⟩
theorem row_small {s : SC} {r : RC} {ks : List Int} (hE : schErr s = 0) (h : rowOf s r = .ok ks) : r.ts.length ≤ 16 ∧ r.vs.length ≤ 3 ∧ ∀ t ∈ r.ts, t.length ≤ 16 := by
  obtain ⟨h1, h2, h3, h4, h5, h6⟩ := schErr_zero hE
  unfold rowOf at h
  split at h
  · cases h
  · rename_i h7
    refine ⟨by omega, by omega, rowKeys_small (fun d hd tr htr t ht => rowErr_len (dim_terms (h3 d hd) tr htr).1 ht) (by omega) h⟩
theorem sch_rise {s : Sch} {w : World} (hs : s.rd w) (hE : schErr s.con = 0) : ∀ d ∈ s.dm.l, ∀ t ∈ d.tr.l, RiseT t.ts.l ∧ t.ts.n ≤ 1000000 := fun d hd t ht => by
  have h3 := (schErr_zero hE).2.2.1 d.con (List.mem_map.2 ⟨d, hd, rfl⟩)
  have h4 := dim_terms h3 t.con (List.mem_map.2 ⟨t, ht, rfl⟩)
  have h5 : t.ts.l.length = t.ts.n := Row.rd.len (Tir.rd.ts (Row.rd.all (Dm.rd.tr (Row.rd.all (Sch.rd.dm hs) d hd)) t ht))
  exact ⟨riseT_row h4.1, by have := h4.2; simp only at this; omega⟩
theorem rowPut_len {r : RC} (h1 : r.ts.length ≤ 16) (h2 : r.vs.length ≤ 3) (h3 : ∀ t ∈ r.ts, t.length ≤ 16) : (rowPut r).length ≤ 500 := by
  have h4 : (r.ts.flatMap ptext).length ≤ 26 * r.ts.length := flat_len fun t ht => by
    have := h3 t ht
    have := nput_le9 t.length
    unfold ptext
    rw [List.length_append]
    omega
  have h5 : (r.vs.flatMap (fun x => nput (nfold x))).length ≤ 9 * r.vs.length := flat_len fun x hx => nput_le9 _
  unfold rowPut
  rw [List.length_append]
  omega

set_option maxRecDepth 100000 in
set_option maxHeartbeats 1000000 in
theorem batcheck_any (s : Sch) (x : Row Rw) (w : World) (hs : s.rd w) (hx : x.rd w) (hn : s.dm.n ≤ 1000000) (hm : s.ms.n ≤ 1000000) (hd : ∀ d ∈ s.dm.l, d.tr.n ≤ 1000000 ∧ ∀ t ∈ d.tr.l, t.up.n ≤ 100000) :
    Calls Try.prog 49 #[.agg s.cs, .slice x.A x.n x.c] w fun e w' => e = .returned (.int .i64 (batErr s.con (x.l.map Rw.con))) ∧ Bel w w' := by
  have HC := Lib.hid (fun w' (hb : Bel w w') => schcheck_any s w' (hs.mono hb) hn hm hd)
  have hlen : Hid (x.l.length = x.n) := hx.len
  have HX := Lib.hid hx
  have HR := Lib.hid (fun (hE : schErr s.con = 0) r w' (hr : Rw.rd w' r) (hb : Bel w w') => schrow_any s r w' (hs.mono hb) hr hn (sch_rise hs hE))
  have n63 := hx.n63
  have H := Lib.hid ((SL.start No w).alloc s.cs 25)
  (try simp only [List.set_cons_zero, List.set_cons_succ, List.cons_append, List.nil_append, List.eraseIdx_cons_zero, List.eraseIdx_cons_succ, List.setIfInBounds_toArray, World.size_alloc, selR, List.getD_cons_zero, List.getD_cons_succ] at H)
  obtain ⟨A, n, c, rows⟩ := x
  simp only at *
  have hcs : s.cs = #[.slice s.dm.A s.dm.n s.dm.c, .slice s.ms.A s.ms.n s.ms.c] := rfl
  have HCS := Lib.hid hcs
  clear hs hx hd hcs
  go_enter Try.func49, Try.ntmps49
  rw [← HCS.out] at *
  go_wp2_with ((with_reducible show wpList _ _ _ (⟨some 10, _, _, _, _, _⟩ :: _) _ _); (refine wpList_load_blk rfl rowSch (.tmp 2) rfl _ rfl (H.out.blk 0 rfl) rfl ?_))
  refine (HC.out _ H.out.to).mono ?_; rintro e w1 ⟨rfl, hb1⟩
  replace H := Lib.hid (H.out.bel hb1); (try simp only [List.set_cons_zero, List.set_cons_succ, List.cons_append, List.nil_append, List.eraseIdx_cons_zero, List.eraseIdx_cons_succ, List.setIfInBounds_toArray, World.size_alloc, selR, List.getD_cons_zero, List.getD_cons_succ] at H)
  clear hb1 HC
  by_cases hE : schErr s.con = 0
  · rw [hE]
    by_cases hl : n ≤ 300
    · have d1 : decide ((300 : Int) < n) = false := by simp <;> omega
      have HB : Hid (batErr s.con (rows.map Rw.con) = rowsErr s.con ((rows.map Rw.con).drop 0)) := by show _ = _; unfold batErr; rw [if_neg (by omega), if_neg (by have := hlen.out; simp; omega)]; rfl
      have HE := Lib.hid hE
      clear hE
      go_wp2_with fail
      generalize w.heap.size = x at *
      clear d1
      go_loopg [20] n (fun gg i wr => ∃ k : Nat, gg = n - k ∧ k ≤ n ∧ i = .int .i64 k ∧ Hid (SL No w wr [rBlk x 25 s.cs]) ∧ Hid (batErr s.con (rows.map Rw.con) = rowsErr s.con ((rows.map Rw.con).drop k)))
      case atStart => exact ⟨0, rfl, by omega, rfl, H, HB⟩
      case round =>
        clear H HB
        obtain ⟨k, hgk, hk, rfl, H, HB⟩ := hrel
        have Hgk := Lib.hid hgk
        clear hgk
        by_cases hlt : k < n
        · obtain ⟨bb, oo, r, hA, hbb, hrk, hrr, hrg⟩ := (HX.out.mono H.out.to).rwAt (k := k) hlt
          simp only at hA
          subst hA
          have hrc : (rows.map Rw.con)[k]? = some r.con := by rw [List.getElem?_map, hrk]; rfl
          have HSt := Lib.hid (rowsErr_drop (s := s.con) hrc)
          have HRg := Lib.hid hrg
          have HRr := Lib.hid hrr
          clear hrk hrr hrg hrc hbb
          go_wp2_with (first | ((with_reducible show wpList _ _ _ (⟨some 23, _, _, _, _, _⟩ :: _) _ _); (refine wpList_load_row_at rfl rowRw (.tmp 22) rfl bb (oo + k * 2) rfl r.cs rfl HRg.out ?_)) | ((with_reducible show wpList _ _ _ (⟨_, .store _ (.tmp 7) _, _, _, _, _⟩ :: _) _ _); (refine wpList_store_new rfl rowRw (.tmp 7) (.tmp 23) rfl rfl rfl (r.cs) rfl rfl (rw_one r) ?_; replace H := Lib.hid (H.out.alloc (r.cs) 43); (try simp only [List.set_cons_zero, List.set_cons_succ, List.cons_append, List.nil_append, List.eraseIdx_cons_zero, List.eraseIdx_cons_succ, List.setIfInBounds_toArray, World.size_alloc, selR, List.getD_cons_zero, List.getD_cons_succ] at H))) | ((with_reducible show wpList _ _ _ (⟨some 25, _, _, _, _, _⟩ :: _) _ _); (refine wpList_load_blk rfl rowSch (.tmp 2) rfl _ rfl (H.out.blk 0 rfl) rfl ?_)) | ((with_reducible show wpList _ _ _ (⟨some 26, _, _, _, _, _⟩ :: _) _ _); (refine wpList_load_blk rfl rowRw (.tmp 7) rfl _ rfl (H.out.blk 1 rfl) rfl ?_)))
          have HRo := Lib.hid (HR.out HE.out r _ (HRr.out.mono ((Bel.refl _).alloc (.cells r.cs 43))) H.out.to)
          cases ho : rowOf s.con r.con with
          | error e1 =>
            have hE2 := rowOf_err ho
            have HN : Hid (batErr s.con (rows.map Rw.con) = e1) := by show _ = _; rw [HB.out, HSt.out, ho]
            rw [ho] at HRo
            have z1 : (e1 != 0) = true := by simp <;> omega
            have z2 : (e1 == 0) = false := by simp <;> omega
            clear ho HB HSt hE2
            refine HRo.out.mono ?_; rintro e w2 ⟨rfl, hb2⟩
            replace H := Lib.hid (H.out.bel hb2); (try simp only [List.set_cons_zero, List.set_cons_succ, List.cons_append, List.nil_append, List.eraseIdx_cons_zero, List.eraseIdx_cons_succ, List.setIfInBounds_toArray, World.size_alloc, selR, List.getD_cons_zero, List.getD_cons_succ] at H)
            clear hb2
            go_wp2
            go_ret
            rw [HN.out]
            exact ⟨rfl, H.out.to⟩
          | ok ks =>
            have HN : Hid (batErr s.con (rows.map Rw.con) = rowsErr s.con ((rows.map Rw.con).drop (k + 1))) := by show _ = _; rw [HB.out, HSt.out, ho]
            rw [ho] at HRo
            clear ho HB HSt
            refine HRo.out.mono ?_; rintro e w2 ⟨B, d, rfl, hb2, _⟩
            replace H := Lib.hid (H.out.bel hb2); (try simp only [List.set_cons_zero, List.set_cons_succ, List.cons_append, List.nil_append, List.eraseIdx_cons_zero, List.eraseIdx_cons_succ, List.setIfInBounds_toArray, World.size_alloc, selR, List.getD_cons_zero, List.getD_cons_succ] at H)
            replace H := Lib.hid (H.out.sel [0] (by decide) (by simp)); (try simp only [List.set_cons_zero, List.set_cons_succ, List.cons_append, List.nil_append, List.eraseIdx_cons_zero, List.eraseIdx_cons_succ, List.setIfInBounds_toArray, World.size_alloc, selR, List.getD_cons_zero, List.getD_cons_succ] at H)
            clear hb2 HRo
            go_wp2
            go_roundg (n - (k + 1))
            case rel => exact ⟨k + 1, rfl, by omega, by go_num, H, HN⟩
            case measure => rw [Hgk.out]; omega
        · have HN : Hid (batErr s.con (rows.map Rw.con) = 0) := by show _ = _; rw [HB.out, List.drop_of_length_le (by have := hlen.out; simp; omega)]; rfl
          clear HB
          go_wp2
          go_ret
          rw [HN.out]
          exact ⟨rfl, H.out.to⟩
    · have d1 : decide ((300 : Int) < n) = true := by simp <;> omega
      have HN : Hid (batErr s.con (rows.map Rw.con) = 5) := by show _ = _; unfold batErr; rw [if_neg (by omega), if_pos (by have := hlen.out; simp; omega)]
      clear hE
      go_wp2
      go_ret
      rw [HN.out]
      exact ⟨rfl, H.out.to⟩
  · have HN : Hid (batErr s.con (rows.map Rw.con) = schErr s.con) := by show _ = _; unfold batErr; rw [if_pos hE]
    have z1 : (schErr s.con != 0) = true := by simpa using hE
    have z2 : (schErr s.con == 0) = false := by simpa using hE
    clear hE
    go_wp2
    go_ret
    rw [HN.out]
    exact ⟨rfl, H.out.to⟩

end Go.Proofs.Ytelnhhbefdfeoaa

namespace Go.Proofs.Ytelnhhbefdfeoaa
open Go.RowKit
set_option linter.unusedVariables false
set_option linter.unusedSimpArgs false

theorem i_pint_back {l r : List UInt8} {x : Int} (h : pint l = .ok (x, r)) : l = nput (nfold x) ++ r ∧ I64 x := by
  unfold pint at h
  rcases pnumber_cases (l := l) with ⟨hp, hn⟩ | ⟨n, z, hn, hz, hlt, hp⟩
  · rw [hp] at h; cases h
  · rw [hp] at h
    injection h with h
    injection h with h1 h2
    subst h1
    subst h2
    have := ntake_true (l := l) (by rw [hn])
    rw [hn] at this
    rw [nfold_nunfold, ← this.1, List.take_append_drop]
    exact ⟨rfl, nunfold_in hlt⟩
theorem i_pint_err {l : List UInt8} {k : Int} (h : pint l = .error k) : k = 3 := by
  unfold pint at h
  rcases pnumber_cases (l := l) with ⟨hp, hn⟩ | ⟨n, z, hn, hz, hlt, hp⟩
  · rw [hp] at h; injection h with h; exact h.symm
  · rw [hp] at h; cases h
/-- A label read; a row of a batch; the rows. -/
def ptrm (l : List UInt8) : PR (List UInt8) := match ptxt 16 l with | .error k => .error k | .ok (x, r) => if isTerm x = true then .ok (x, r) else .error 3
def oVs (M : Nat) (o : PR (List (List UInt8))) : PR (List Int) := match o with | .error k => .error k | .ok (_, r) => pmany pint M [] r
def prow (D M : Nat) (l : List UInt8) : PR RC := match pmany ptrm D [] l with | .error k => .error k | .ok (ts, r) => (match pmany pint M [] r with | .error k => .error k | .ok (vs, r2) => .ok (⟨ts, vs⟩, r2))
def prws (D M : Nat) (l : List UInt8) : PR (List RC) := match pnum 300 l with | .error k => .error k | .ok (n, r) => pmany (prow D M) n [] r
theorem ptrm_err {l : List UInt8} {k : Int} (h : ptrm l = .error k) : k ≠ 0 := by
  unfold ptrm at h
  split at h
  · rename_i h1; injection h with h; subst h; have := ptxt_err h1; omega
  · split at h
    · cases h
    · injection h with h; omega
theorem ptrm_back {l r : List UInt8} {x : List UInt8} (h : ptrm l = .ok (x, r)) : l = ptext x ++ r := by
  unfold ptrm at h
  split at h
  · cases h
  · rename_i h1
    split at h
    · injection h with h
      injection h with e1 e2
      subst e1 e2
      exact q_ptxt_back h1
    · cases h
theorem prow_err {D M : Nat} {l : List UInt8} {k : Int} (h : prow D M l = .error k) : k ≠ 0 := by
  unfold prow at h
  split at h
  · rename_i h1; injection h with h; subst h; exact pmany_err (fun l k h => ptrm_err h) h1
  · split at h
    · rename_i h1; injection h with h; subst h; exact pmany_err (fun l k h => by have := i_pint_err h; omega) h1
    · cases h
theorem prow_back {D M : Nat} {l r : List UInt8} {x : RC} (h : prow D M l = .ok (x, r)) : l = rowPut x ++ r := by
  unfold prow at h
  split at h
  · cases h
  · rename_i ts r1 h1
    split at h
    · cases h
    · rename_i vs r2 h2
      injection h with h
      injection h with e1 e2
      subst e1 e2
      obtain ⟨xs, a1, a2, a3⟩ := pmany_back (put := ptext) (fun l x r h => ptrm_back h) h1
      obtain ⟨ys, b1, b2, b3⟩ := pmany_back (put := fun x => nput (nfold x)) (fun l x r h => (i_pint_back h).1) h2
      rw [List.nil_append] at a1 b1
      subst a1 b1
      unfold rowPut
      rw [a3, b3]
      simp only [List.append_assoc]
theorem prws_err {D M : Nat} {l : List UInt8} {k : Int} (h : prws D M l = .error k) : k ≠ 0 := by
  unfold prws at h
  split at h
  · rename_i h1; injection h with h; subst h; have := pnum_err h1; omega
  · exact pmany_err (fun l k h => prow_err h) h
theorem prws_back {D M : Nat} {l r : List UInt8} {x : List RC} (h : prws D M l = .ok (x, r)) : l = batPut x ++ r := by
  unfold prws at h
  split at h
  · cases h
  · rename_i n r1 h1
    obtain ⟨xs, a1, a2, a3⟩ := pmany_back (put := rowPut) (fun l x r h => prow_back h) h
    rw [List.nil_append] at a1
    subst a1
    unfold batPut
    rw [q_pnum_back h1, a3, a2]
    simp only [List.append_assoc]
/-- What batch.Take answers. -/
def battake (s : SC) (l : List UInt8) : List RC × Int :=
  if schErr s ≠ 0 then ([], schErr s) else
  match prws s.dims.length s.ms.length l with
  | .error k => ([], k)
  | .ok (rows, r) => if r = [] then (if batErr s rows = 0 then (rows, 0) else ([], batErr s rows)) else ([], 3)

end Go.Proofs.Ytelnhhbefdfeoaa

namespace Go.Proofs.Ytelnhhbefdfeoaa
open Go.RowKit
set_option linter.unusedVariables false
set_option linter.unusedSimpArgs false

set_option maxRecDepth 100000 in
set_option maxHeartbeats 1000000 in
theorem rbwrong_any (s : Sch) (x : Row Rw) (w : World) (hs : s.rd w) (hx : x.rd w) (hn : s.dm.n ≤ 1000000) (hm : s.ms.n ≤ 1000000) (hd : ∀ d ∈ s.dm.l, d.tr.n ≤ 1000000 ∧ ∀ t ∈ d.tr.l, t.up.n ≤ 100000) :
    Calls Try.prog 11 #[.agg s.cs, .slice x.A x.n x.c] w fun e w' => e = .returned (.int .i64 (batErr s.con (x.l.map Rw.con))) ∧ Bel w w' := by
  have HC := Lib.hid (fun w' (hb : Bel w w') => schwrong_any s w' (hs.mono hb) hn hm (fun d hd' => (hd d hd').1))
  have hlen : Hid (x.l.length = x.n) := hx.len
  have HX := Lib.hid hx
  have HR := Lib.hid (fun r w' (hr : Rw.rd w' r) (hb : Bel w w') => rrow2_any s r w' (hs.mono hb) hr hn)
  have n63 := hx.n63
  have H := Lib.hid ((SL.start No w).alloc s.cs 25)
  (try simp only [List.set_cons_zero, List.set_cons_succ, List.cons_append, List.nil_append, List.eraseIdx_cons_zero, List.eraseIdx_cons_succ, List.setIfInBounds_toArray, World.size_alloc, selR, List.getD_cons_zero, List.getD_cons_succ] at H)
  obtain ⟨A, n, c, rows⟩ := x
  simp only at *
  have hcs : s.cs = #[.slice s.dm.A s.dm.n s.dm.c, .slice s.ms.A s.ms.n s.ms.c] := rfl
  have HCS := Lib.hid hcs
  clear hs hx hd hcs
  go_enter Try.func11, Try.ntmps11
  rw [← HCS.out] at *
  go_wp2_with ((with_reducible show wpList _ _ _ (⟨some 10, _, _, _, _, _⟩ :: _) _ _); (refine wpList_load_blk rfl rowSch (.tmp 2) rfl _ rfl (H.out.blk 0 rfl) rfl ?_))
  refine (HC.out _ H.out.to).mono ?_; rintro e w1 ⟨rfl, hb1⟩
  replace H := Lib.hid (H.out.bel hb1); (try simp only [List.set_cons_zero, List.set_cons_succ, List.cons_append, List.nil_append, List.eraseIdx_cons_zero, List.eraseIdx_cons_succ, List.setIfInBounds_toArray, World.size_alloc, selR, List.getD_cons_zero, List.getD_cons_succ] at H)
  clear hb1 HC
  by_cases hE : schErr s.con = 0
  · rw [hE]
    by_cases hl : n ≤ 300
    · have d1 : decide ((300 : Int) < n) = false := by simp <;> omega
      have HB : Hid (batErr s.con (rows.map Rw.con) = rowsErr s.con ((rows.map Rw.con).drop 0)) := by show _ = _; unfold batErr; rw [if_neg (by omega), if_neg (by have := hlen.out; simp; omega)]; rfl
      have HE := Lib.hid hE
      clear hE
      go_wp2_with fail
      generalize w.heap.size = x at *
      clear d1
      go_loopg [20] n (fun gg i wr => ∃ k : Nat, gg = n - k ∧ k ≤ n ∧ i = .int .i64 k ∧ Hid (SL No w wr [rBlk x 25 s.cs]) ∧ Hid (batErr s.con (rows.map Rw.con) = rowsErr s.con ((rows.map Rw.con).drop k)))
      case atStart => exact ⟨0, rfl, by omega, rfl, H, HB⟩
      case round =>
        clear H HB
        obtain ⟨k, hgk, hk, rfl, H, HB⟩ := hrel
        have Hgk := Lib.hid hgk
        clear hgk
        by_cases hlt : k < n
        · obtain ⟨bb, oo, r, hA, hbb, hrk, hrr, hrg⟩ := (HX.out.mono H.out.to).rwAt (k := k) hlt
          simp only at hA
          subst hA
          have hrc : (rows.map Rw.con)[k]? = some r.con := by rw [List.getElem?_map, hrk]; rfl
          have HSt := Lib.hid (rowsErr_drop (s := s.con) hrc)
          have HRg := Lib.hid hrg
          have HRr := Lib.hid hrr
          clear hrk hrr hrg hrc hbb
          go_wp2_with (first | ((with_reducible show wpList _ _ _ (⟨some 23, _, _, _, _, _⟩ :: _) _ _); (refine wpList_load_row_at rfl rowRw (.tmp 22) rfl bb (oo + k * 2) rfl r.cs rfl HRg.out ?_)) | ((with_reducible show wpList _ _ _ (⟨_, .store _ (.tmp 7) _, _, _, _, _⟩ :: _) _ _); (refine wpList_store_new rfl rowRw (.tmp 7) (.tmp 23) rfl rfl rfl (r.cs) rfl rfl (rw_one r) ?_; replace H := Lib.hid (H.out.alloc (r.cs) 43); (try simp only [List.set_cons_zero, List.set_cons_succ, List.cons_append, List.nil_append, List.eraseIdx_cons_zero, List.eraseIdx_cons_succ, List.setIfInBounds_toArray, World.size_alloc, selR, List.getD_cons_zero, List.getD_cons_succ] at H))) | ((with_reducible show wpList _ _ _ (⟨some 25, _, _, _, _, _⟩ :: _) _ _); (refine wpList_load_blk rfl rowSch (.tmp 2) rfl _ rfl (H.out.blk 0 rfl) rfl ?_)) | ((with_reducible show wpList _ _ _ (⟨some 26, _, _, _, _, _⟩ :: _) _ _); (refine wpList_load_blk rfl rowRw (.tmp 7) rfl _ rfl (H.out.blk 1 rfl) rfl ?_)))
          have HRo := Lib.hid (HR.out r _ (HRr.out.mono ((Bel.refl _).alloc (.cells r.cs 43))) H.out.to)
          cases ho : rowOf s.con r.con with
          | error e1 =>
            have hE2 := rowOf_err ho
            have HN : Hid (batErr s.con (rows.map Rw.con) = e1) := by show _ = _; rw [HB.out, HSt.out, ho]
            rw [ho] at HRo
            have z1 : (e1 != 0) = true := by simp <;> omega
            have z2 : (e1 == 0) = false := by simp <;> omega
            clear ho HB HSt hE2
            refine HRo.out.mono ?_; rintro e w2 ⟨rfl, hb2⟩
            replace H := Lib.hid (H.out.bel hb2); (try simp only [List.set_cons_zero, List.set_cons_succ, List.cons_append, List.nil_append, List.eraseIdx_cons_zero, List.eraseIdx_cons_succ, List.setIfInBounds_toArray, World.size_alloc, selR, List.getD_cons_zero, List.getD_cons_succ] at H)
            clear hb2
            go_wp2
            go_ret
            rw [HN.out]
            exact ⟨rfl, H.out.to⟩
          | ok ks =>
            have HN : Hid (batErr s.con (rows.map Rw.con) = rowsErr s.con ((rows.map Rw.con).drop (k + 1))) := by show _ = _; rw [HB.out, HSt.out, ho]
            rw [ho] at HRo
            clear ho HB HSt
            refine HRo.out.mono ?_; rintro e w2 ⟨B, d, rfl, hb2, _⟩
            replace H := Lib.hid (H.out.bel hb2); (try simp only [List.set_cons_zero, List.set_cons_succ, List.cons_append, List.nil_append, List.eraseIdx_cons_zero, List.eraseIdx_cons_succ, List.setIfInBounds_toArray, World.size_alloc, selR, List.getD_cons_zero, List.getD_cons_succ] at H)
            replace H := Lib.hid (H.out.sel [0] (by decide) (by simp)); (try simp only [List.set_cons_zero, List.set_cons_succ, List.cons_append, List.nil_append, List.eraseIdx_cons_zero, List.eraseIdx_cons_succ, List.setIfInBounds_toArray, World.size_alloc, selR, List.getD_cons_zero, List.getD_cons_succ] at H)
            clear hb2 HRo
            go_wp2
            go_roundg (n - (k + 1))
            case rel => exact ⟨k + 1, rfl, by omega, by go_num, H, HN⟩
            case measure => rw [Hgk.out]; omega
        · have HN : Hid (batErr s.con (rows.map Rw.con) = 0) := by show _ = _; rw [HB.out, List.drop_of_length_le (by have := hlen.out; simp; omega)]; rfl
          clear HB
          go_wp2
          go_ret
          rw [HN.out]
          exact ⟨rfl, H.out.to⟩
    · have d1 : decide ((300 : Int) < n) = true := by simp <;> omega
      have HN : Hid (batErr s.con (rows.map Rw.con) = 5) := by show _ = _; unfold batErr; rw [if_neg (by omega), if_pos (by have := hlen.out; simp; omega)]
      clear hE
      go_wp2
      go_ret
      rw [HN.out]
      exact ⟨rfl, H.out.to⟩
  · have HN : Hid (batErr s.con (rows.map Rw.con) = schErr s.con) := by show _ = _; unfold batErr; rw [if_pos hE]
    have z1 : (schErr s.con != 0) = true := by simpa using hE
    have z2 : (schErr s.con == 0) = false := by simpa using hE
    clear hE
    go_wp2
    go_ret
    rw [HN.out]
    exact ⟨rfl, H.out.to⟩

/-- The next thing read from a scan, whatever it stands at. -/
def Nxt {α : Type} (s : List UInt8) (p : List UInt8 → PR α) (t k t' k' : Int) (x : α) : Prop := (k ≠ 0 ∧ t' = t ∧ k' = k) ∨ (k = 0 ∧ ∃ tn : Nat, t = tn ∧ tn ≤ s.length ∧ SRes s (p (s.drop tn)) t' k' x)
theorem LInv.next {α : Type} {s : List UInt8} {o : PR (List α)} {p : List UInt8 → PR α} {n k : Nat} {acc : List α} {t kk t' k' : Int} {x : α} (h : LInv s o p n k acc t kk) (hk : k < n) (hx : Nxt s p t kk t' k' x) : LInv s o p n (k + 1) (acc ++ [x]) t' k' := by
  rcases h with ⟨h1, h2⟩ | ⟨h1, tn, h3, h4, h2⟩
  · rcases hx with ⟨_, rfl, rfl⟩ | ⟨h, _⟩
    · exact .inl ⟨h1, h2⟩
    · exact absurd h h1
  · rcases hx with ⟨h, _⟩ | ⟨_, tm, h5, h6, h7⟩
    · exact absurd h1 h
    · have : tm = tn := by omega
      subst this
      exact LInv.step hk h2 h7
theorem LInv.st {α : Type} {s : List UInt8} {o : PR (List α)} {p : List UInt8 → PR α} {n k : Nat} {acc : List α} {t kk : Int} (h : LInv s o p n k acc t kk) : kk ≠ 0 ∨ (kk = 0 ∧ ∃ tn : Nat, t = tn ∧ tn ≤ s.length) := by
  rcases h with ⟨h1, h2⟩ | ⟨h1, tn, h3, h4, h2⟩
  · exact .inl h1
  · exact .inr ⟨h1, tn, h3, h4⟩
theorem Nxt.trm {s : List UInt8} {t k t' k' : Int} {x : List UInt8} (h : Nxt s (ptxt 16) t k t' k' x) : Nxt s ptrm t k t' (wantK k' (isTerm x) 3) x := by
  rcases h with ⟨h1, h2, rfl⟩ | ⟨h1, tn, h3, h4, h⟩
  · exact .inl ⟨h1, h2, by unfold wantK; rw [if_pos h1]⟩
  · refine .inr ⟨h1, tn, h3, h4, ?_⟩
    unfold ptrm wantK
    rcases h with ⟨h5, h6⟩ | ⟨rfl, tm, h6, h7, h8⟩
    · rw [if_pos h5, h6]
      exact .inl ⟨h5, rfl⟩
    · rw [if_neg (by omega), h8]
      cases hT : isTerm x with
      | true => exact .inr ⟨rfl, tm, h6, h7, by simp only [hT, if_true]⟩
      | false => exact .inl ⟨by decide, by simp only [hT]; rfl⟩
theorem LInv.startW {s : List UInt8} {t k : Int} {n D M : Nat} {l : List UInt8} (h : SRes s (pnum 300 l) t k n) : LInv s (prws D M l) (prow D M) n 0 [] t k := by
  rcases h with ⟨h1, h2⟩ | ⟨h1, tn, h3, h4, h2⟩
  · exact .inl ⟨h1, by unfold prws; rw [h2]⟩
  · exact .inr ⟨h1, tn, h3, h4, by unfold prws; rw [h2]; rfl⟩
theorem LInv.startV {s : List UInt8} {t k : Int} {M : Nat} {o : PR (List (List UInt8))} {ts : List (List UInt8)} (h : SRes s o t k ts) : LInv s (oVs M o) pint M 0 [] t k := by
  rcases h with ⟨h1, h2⟩ | ⟨h1, tn, h3, h4, h2⟩
  · exact .inl ⟨h1, by unfold oVs; rw [h2]⟩
  · exact .inr ⟨h1, tn, h3, h4, by unfold oVs; rw [h2]; rfl⟩
theorem SRes.prow {s : List UInt8} {D M : Nat} {l : List UInt8} {t1 k1 t2 k2 : Int} {ts : List (List UInt8)} {vs : List Int} (h1 : SRes s (pmany ptrm D [] l) t1 k1 ts) (h2 : SRes s (oVs M (pmany ptrm D [] l)) t2 k2 vs) : SRes s (prow D M l) t2 k2 ⟨ts, vs⟩ := by
  unfold oVs at h2
  unfold Go.Proofs.Ytelnhhbefdfeoaa.prow
  cases ho : pmany ptrm D [] l with
  | error e =>
    rw [ho] at h2
    rcases h2 with ⟨a, b⟩ | ⟨_, _, _, _, b⟩
    · simp only at b
      injection b with b
      exact .inl ⟨a, by simp only [b]⟩
    · cases b
  | ok q =>
    obtain ⟨ts', r⟩ := q
    rw [ho] at h1 h2
    simp only at h2 ⊢
    rcases h1 with ⟨_, b⟩ | ⟨_, tn, _, _, b⟩
    · cases b
    · injection b with b
      injection b with b1 b2
      subst b1
      rcases h2 with ⟨a, b⟩ | ⟨a, tm, c, d, b⟩
      · exact .inl ⟨a, by rw [b]⟩
      · exact .inr ⟨a, tm, c, d, by rw [b]⟩
section
variable {P : Program} {w : World}
theorem step_store_blk {ops : Array Oper} {o : Oper} {a : Act} {K : Act → World → Prop} {Q : Exit → Act → World → Prop} {X : Prop} (hgd : o.guard = none) {ty : TypeId} {n : Nat} (R : RowTy P ty n) (x y : Operand) (ho : o.op = .store ty x y)
    (g : Nat) (hx : a.eval x = .pointer (some ⟨g, 0, none⟩)) {t : TypeId} {cs : Array Value} (hb : Blk w g t cs) (hn : cs.size = n) (cs' : Array Value) (hn' : cs'.size = n) (hy : a.eval y = .agg cs') (h1 : cs'.all (·.oneCell') = true)
    (h : ∀ w', Blk w' g t cs' → w.grownBy w' (some g) → K (a.put o.dst undef) w') : if Region.wanted o (yielded ops a.tmps) = true then Oper.wp P o a w K Q else X := by
  have hw : Region.wanted o (yielded ops a.tmps) = true := by simp [Region.wanted, hgd]
  rw [if_pos hw]
  refine wp_store_mid ty x y ho g 0 cs' hx hy (hb.there (by omega)) (by rw [R.hi, hn']) h1 (h _ ?_ (setCells_grown w g _ _))
  have := Blk.setAll cs'.toList 0 hb
  rwa [setAll_all cs cs' (by omega)] at this
end

end Go.Proofs.Ytelnhhbefdfeoaa

namespace Go.Proofs.Ytelnhhbefdfeoaa
open Go.RowKit
set_option linter.unusedVariables false
set_option linter.unusedSimpArgs false

/-- A row of the call's own. -/
structure RwOwn (r : Rw) (w : World) : Prop where
  ts : w.ownsRow 0 9 1 (.slice r.ts.A r.ts.n r.ts.c) r.ts.n (r.ts.l.map tx)
  tl : ∀ t ∈ r.ts.l, t.length ≤ 16
  vs : w.ownsRow 0 2 1 (.slice r.vs.A r.vs.n r.vs.c) r.vs.n (r.vs.l.map (Value.int .i64))
  vl : ∀ x ∈ r.vs.l, I64 x
  tn : r.ts.n ≤ 16
  vn : r.vs.n ≤ 3
def Rw.D (r : Rw) (g : Nat) : Prop := r.ts.v.ownBlock = some g ∨ r.vs.v.ownBlock = some g
abbrev rRw (r : Rw) : Res := ⟨r.D, RwOwn r⟩
theorem RwOwn.rd {r : Rw} {w : World} (h : RwOwn r w) : Rw.rd w r :=
  ⟨⟨by have := Rd.of_own h.ts; rw [flat_texts]; exact this, fun t ht => by have := h.tl t ht; show t.length ≤ _; omega, by have := h.tn; omega⟩, ⟨by have := Rd.of_own h.vs; rw [flat_ints]; exact this, fun t ht => h.vl t ht, by have := h.vn; omega⟩⟩
theorem holds_rw {A B : Option Addr} {n c m d : Nat} {ts : List (List UInt8)} {vs : List Int} {w : World} (h1 : (rRow 9 1 (.slice A n c) n (ts.map tx)).holds w) (h2 : (rRow 2 1 (.slice B m d) m (vs.map (Value.int .i64))).holds w) (h3 : ∀ x ∈ ts, x.length ≤ 16) (h4 : ∀ x ∈ vs, I64 x) (h5 : n ≤ 16) (h6 : m ≤ 3) : (rRw ⟨⟨A, n, c, ts⟩, ⟨B, m, d, vs⟩⟩).holds w := by
  refine ⟨?_, fun w' hs hk => ⟨h1.2 w' hs fun g hg => hk g (.inl hg), h3, h2.2 w' hs fun g hg => hk g (.inr hg), h4, h5, h6⟩⟩
  rintro g (hg | hg)
  · exact h1.1 g hg
  · exact h2.1 g hg
theorem int_i64 {l r : List UInt8} {v : Int} (h : pint l = .ok (v, r)) : I64 v := (i_pint_back h).2
theorem prow1 {D M : Nat} {l : List UInt8} {k : Int} (h : pmany ptrm D [] l = .error k) : prow D M l = .error k := by unfold prow; rw [h]
theorem prow2 {D M : Nat} {l r : List UInt8} {ts : List (List UInt8)} (h : pmany ptrm D [] l = .ok (ts, r)) : prow D M l = match pmany pint M [] r with | .error k => .error k | .ok (vs, r2) => .ok (⟨ts, vs⟩, r2) := by unfold prow; rw [h] <;> rfl

end Go.Proofs.Ytelnhhbefdfeoaa

namespace Go.Proofs.Ytelnhhbefdfeoaa
open Go.RowKit
set_option linter.unusedVariables false
set_option linter.unusedSimpArgs false

theorem rw1_one (D : Rw) : ∀ u ∈ ([.slice D.ts.A D.ts.n D.ts.c, .slice D.vs.A D.vs.n D.vs.c] : List Value), u.oneCell' = true := by simp [Value.oneCell']
/-- Rows of the call's own, with all that they hold. -/
abbrev rBat (X : Row Rw) : Res := ⟨fun g => (rRow 43 2 (.slice X.A X.n X.c) X.n (X.l.flatMap Cel.cells)).D g ∨ (rList rRw X.l).D g, fun w => X.rd w ∧ X.n ≤ 300⟩
theorem holds_bat {X : Row Rw} {w : World} (h1 : (rRow 43 2 (.slice X.A X.n X.c) X.n (X.l.flatMap Cel.cells)).holds w) (h2 : (rList rRw X.l).holds w) (h3 : X.n ≤ 300) : (rBat X).holds w :=
  ⟨fun g hg => hg.elim (h1.1 g) (h2.1 g), fun w' hs hk => ⟨⟨Rd.of_own (h1.2 w' hs fun g hg => hk g (.inl hg)), fun r hr => (h2.2 w' hs (fun g hg => hk g (.inr hg)) r hr).rd, by omega⟩, h3⟩⟩
theorem holds_bat_nil (w : World) : (rBat ⟨none, 0, 0, []⟩).holds w := holds_bat (holds_row (World.ownsRow_nil w 0 _ _)) (holds_list_nil _ w) (by show 0 ≤ 300; omega)
theorem bat_nil_new {m : Nat} : ∀ g, (rBat ⟨none, 0, 0, []⟩).D g → m ≤ g := by
  rintro g (h | ⟨T, hT, _⟩)
  · simp [Value.ownBlock] at h
  · cases hT
def Tkbat (r : List RC × Int) (w : World) (e : Ending) (w' : World) : Prop := ∃ X : Row Rw, e = .returned (.tuple #[.slice X.A X.n X.c, .int .i64 r.2]) ∧ X.l.map Rw.con = r.1 ∧ Bel w w' ∧ NewR w w' (rBat X)

end Go.Proofs.Ytelnhhbefdfeoaa

namespace Go.Proofs.Ytelnhhbefdfeoaa
open Go.RowKit
set_option linter.unusedVariables false

abbrev rListD {α : Type} (r : α → Res) (l : List α) : Res := ⟨fun g => ∃ a, a ∈ l ∧ (r a).D g, fun w => (∀ a ∈ l, (r a).holds w) ∧ l.Pairwise (fun a b => ∀ g, (r a).D g → ¬ (r b).D g)⟩
theorem holds_listD_nil {α : Type} (r : α → Res) (w : World) : (rListD r []).holds w := ⟨fun g ⟨a, ha, _⟩ => (by cases ha), fun w' _ _ => ⟨(fun a ha => by cases ha), List.Pairwise.nil⟩⟩
theorem listD_nil_D {α : Type} {r : α → Res} {P : Nat → Prop} : ∀ g, (rListD r []).D g → P g := fun g ⟨a, ha, _⟩ => by cases ha
section
variable {α : Type} {r : α → Res} {S : Nat → Prop} {w0 w w' : World} {l : List Res}
/-- A piece joins a list. -/
theorem SL.snocD (h : SL S w0 w l) (i j : Nat) {bs : List α} {a : α} (hij : i ≠ j) (hi : l[i]? = some (rListD r bs)) (hj : l[j]? = some (r a)) : SL S w0 w ((l.set i (rListD r (bs ++ [a]))).eraseIdx j) := by
  have h1 := h.get i hi
  have h2 := h.get j hj
  refine h.both i j hij hi hj _ ⟨fun g ⟨u, hu, hg⟩ => ?_, fun w' hs hk => ⟨fun u hu => ?_, ?_⟩⟩ (fun g ⟨u, hu, hg⟩ => ?_)
  · rcases List.mem_append.1 hu with hu | hu
    · exact h1.1 g ⟨u, hu, hg⟩
    · rw [List.mem_singleton] at hu; subst hu; exact h2.1 g hg
  · rcases List.mem_append.1 hu with hu' | hu'
    · exact (h1.now.1 u hu').keep hs fun g hg => hk g ⟨u, hu, hg⟩
    · rw [List.mem_singleton] at hu'; subst hu'; exact h2.keep hs fun g hg => hk g ⟨u, hu, hg⟩
  · rw [List.pairwise_append]
    refine ⟨h1.now.2, List.pairwise_singleton _ _, fun u hu v hv g hg hg' => ?_⟩
    rw [List.mem_singleton] at hv
    subst hv
    exact h.dis i j _ _ hij hi hj g ⟨u, hu, hg⟩ hg'
  · rcases List.mem_append.1 hu with hu | hu
    · exact .inl ⟨u, hu, hg⟩
    · rw [List.mem_singleton] at hu; subst hu; exact .inr hg
/-- The first of a list, on its own. -/
theorem SL.splitD (h : SL S w0 w l) (i : Nat) {a : α} {bs : List α} (hi : l[i]? = some (rListD r (a :: bs))) : SL S w0 w (l.set i (r a) ++ [rListD r bs]) := by
  have hil : i < l.length := (List.getElem?_eq_some_iff.1 hi).1
  have h1 := h.get i hi
  have hD : ∀ g, (r a).D g → (rListD r (a :: bs)).D g := fun g hg => ⟨a, List.mem_cons_self .., hg⟩
  have hD2 : ∀ g, (rListD r bs).D g → (rListD r (a :: bs)).D g := fun g ⟨u, hu, hg⟩ => ⟨u, List.mem_cons_of_mem _ hu, hg⟩
  have hp := h1.now
  have hpw := hp.2
  rw [List.pairwise_cons] at hpw
  refine (h.turn i hi (r a) (hp.1 a (List.mem_cons_self ..)) hD).ext (rListD r bs) ⟨fun g hg => h1.1 g (hD2 g hg), fun w' hs hk => ⟨fun u hu => (hp.1 u (List.mem_cons_of_mem _ hu)).keep hs fun g hg => hk g ⟨u, hu, hg⟩, hpw.2⟩⟩ (fun j q hq g hg hg' => ?_) (fun g hg => h.own i _ hi g (hD2 g hg))
  by_cases e : i = j
  · subst e
    rw [List.getElem?_set_self hil] at hq
    injection hq with hq
    subst hq
    obtain ⟨u, hu, hug⟩ := hg'
    exact hpw.1 u hu g hg hug
  · rw [List.getElem?_set_ne e] at hq
    exact h.dis j i q _ (fun h => e h.symm) hq hi g hg (hD2 g hg')
/-- What a call hands back joins what its caller owns. -/
theorem SL.join {l' : List Res} (h : SL S w0 w l) (h' : SL No w w' l') : SL S w0 w' (l ++ l') := by
  have hb := h.bel h'.to
  have key : ∀ (j : Nat) q, (l ++ l')[j]? = some q → (l[j]? = some q ∧ j < l.length) ∨ (l'[j - l.length]? = some q ∧ l.length ≤ j) := by
    intro j q hq
    rcases Nat.lt_or_ge j l.length with hj | hj
    · rw [List.getElem?_append_left hj] at hq
      exact .inl ⟨hq, hj⟩
    · rw [List.getElem?_append_right hj] at hq
      exact .inr ⟨hq, hj⟩
  have hlt : ∀ (i : Nat) q, l[i]? = some q → ∀ g, q.D g → g < w.heap.size := fun i q hi g hg => (h.all i q hi).1 g hg
  have hge : ∀ (i : Nat) q, l'[i]? = some q → ∀ g, q.D g → w.heap.size ≤ g := fun i q hi g hg => (h'.own i q hi g hg).elim (fun h => h) (fun h => h.elim)
  refine ⟨hb.fr, fun j q hq => ?_, fun j k q q' hjk hq hq' g hg hg' => ?_, fun j q hq g hg => ?_⟩
  · rcases key j q hq with ⟨hq1, _⟩ | ⟨hq1, _⟩
    · exact hb.all j q hq1
    · exact h'.all _ q hq1
  · rcases key j q hq with ⟨hq1, hj⟩ | ⟨hq1, hj⟩
    · rcases key k q' hq' with ⟨hq2, hk⟩ | ⟨hq2, hk⟩
      · exact h.dis j k q q' hjk hq1 hq2 g hg hg'
      · have := hlt j q hq1 g hg
        have := hge _ q' hq2 g hg'
        omega
    · rcases key k q' hq' with ⟨hq2, hk⟩ | ⟨hq2, hk⟩
      · have := hlt k q' hq2 g hg'
        have := hge _ q hq1 g hg
        omega
      · exact h'.dis (j - l.length) (k - l.length) q q' (by omega) hq1 hq2 g hg hg'
  · rcases key j q hq with ⟨hq1, _⟩ | ⟨hq1, _⟩
    · exact h.own j q hq1 g hg
    · exact .inl (Nat.le_trans h.fr.size (hge _ q hq1 g hg))
end
/-- An element of an own row of plain values turned. -/
theorem own_setCell1 {w : World} {base : Nat} {e : TypeId} {g n c : Nat} {xs : List Value} (h : w.ownsRow base e 1 (.slice (some ⟨g, 0, none⟩) n c) n xs) {j : Nat} (hj : j < n) (u : Value) : (w.setCell ⟨g, j, none⟩ u).ownsRow base e 1 (.slice (some ⟨g, 0, none⟩) n c) n (xs.set j u) := by
  refine ⟨by rw [List.length_set]; exact h.1, ?_⟩
  rcases h.2 with ⟨h0, h1⟩ | ⟨g', cap, cur, hv, hb, hh, hn, hm, hs, hx⟩
  · cases h0
  · injection hv with hv1 _ hv2
    injection hv1 with hv1
    injection hv1 with hv1 _ _
    subst hv1 hv2
    refine .inr ⟨g, c, cur.setIfInBounds j u, rfl, hb, Blk.set_ (t := e) (cs := cur) hh j u, hn, hm, by simpa using hs, ?_⟩
    rw [← hx, Array.toList_setIfInBounds, List.take_set]
theorem SL.setElem {S : Nat → Prop} {w0 w : World} {l : List Res} (h : SL S w0 w l) (i : Nat) {e : TypeId} {g n c : Nat} {xs : List Value} (hi : l[i]? = some (rRow e 1 (.slice (some ⟨g, 0, none⟩) n c) n xs)) {j : Nat} (hj : j < n) (u : Value) : SL S w0 (w.setCell ⟨g, j, none⟩ u) (l.set i (rRow e 1 (.slice (some ⟨g, 0, none⟩) n c) n (xs.set j u))) :=
  h.setRow i hi (grownBy_setCell w g j u) (own_setCell1 (h.row i hi) hj u) (.inl rfl)
theorem own_block0 {w : World} {e : TypeId} {size n c : Nat} {A : Option Addr} {xs : List Value} (h : w.ownsRow 0 e size (.slice A n c) n xs) (hn : 0 < n) : ∃ g, A = some ⟨g, 0, none⟩ := by
  rcases h.2 with ⟨h0, h1⟩ | ⟨g', cap, cur, hv, _⟩
  · omega
  · injection hv with hv1 _ _
    exact ⟨g', hv1⟩

end Go.Proofs.Ytelnhhbefdfeoaa

namespace Go.Proofs.Ytelnhhbefdfeoaa
open Go.RowKit
set_option linter.unusedVariables false
set_option linter.unusedSimpArgs false

theorem exBat1 : batPutV ⟨[exDC], [[109]]⟩ [⟨[[97]], [3]⟩] = ([1, 1, 97, 6], 0) := by decide +kernel
theorem exBat0 : batPutV ⟨[exDC], [[109]]⟩ [] = ([0], 0) := by decide +kernel
end Go.Proofs.Ytelnhhbefdfeoaa

namespace Go.Proofs.Ytelnhhbefdfeoaa
open Go.RowKit
set_option linter.unusedVariables false
set_option linter.unusedSimpArgs false

/-- A row of numbers of the call's own. -/
abbrev rIv (x : Row Int) : Res := rRow 2 1 (.slice x.A x.n x.c) x.n (x.l.map (Value.int .i64))
def ValsPost (rows : List Rw) (w : World) (e : Ending) (w' : World) : Prop := ∃ (A : Option Addr) (c : Nat) (L : List (Row Int)), e = .returned (.slice A rows.length c) ∧ L.map Row.l = rows.map (fun r => r.vs.l) ∧ SL No w w' [rRow 41 1 (.slice A rows.length c) rows.length (L.map Row.v), rListD rIv L]
theorem made0 (w : World) (t : TypeId) (size : Nat) : (w.alloc (.cells #[] t)).ownsRow w.heap.size t size (.slice (some ⟨w.heap.size, 0, none⟩) 0 0) 0 [] := World.ownsRow_made w #[] 0 (Nat.le_refl _) (by unfold maxLen; omega) (by simp)
/-- What Few tells of rows. -/
def FewR (x : Row Rw) : Prop := x.n ≤ 310 ∧ ∀ r ∈ x.l, r.ts.n ≤ 20 ∧ r.vs.n ≤ 20
set_option maxRecDepth 100000 in
set_option maxHeartbeats 2000000 in
theorem rwfew_any (x : Row Rw) (w : World) (hx : x.rd w) : Calls Try.prog 8 #[.slice x.A x.n x.c] w (FewPost (FewR x) w) := by
  have hlen : Hid (x.l.length = x.n) := hx.len
  have HX := Lib.hid hx
  have n63 := hx.n63
  have HB : Hid (Bel w w) := Bel.refl _
  obtain ⟨A, n, c, rows⟩ := x
  simp only at *
  clear hx
  have HA : Hid (∀ (i : Nat) r, i < 0 → rows[i]? = some r → r.ts.n ≤ 20 ∧ r.vs.n ≤ 20) := fun i t hi => absurd hi (by omega)
  go_enter Try.func8, Try.ntmps8
  go_wp2_with fail
  go_loopg [3, 4] 312 (fun gg s3 s4 wr => ∃ (k sm : Nat), gg = 312 - k ∧ k ≤ 311 ∧ k ≤ n ∧ s4 = .int .i64 k ∧ s3 = .int .i64 sm ∧ sm ≤ 20000 * k ∧ w = wr ∧ Hid (∀ (i : Nat) r, i < k → rows[i]? = some r → r.ts.n ≤ 20 ∧ r.vs.n ≤ 20))
  case atStart => exact ⟨0, 0, rfl, by omega, by omega, rfl, rfl, by omega, rfl, HA⟩
  case round =>
    clear HA
    obtain ⟨k, sm, hgk, hk311, hkn, rfl, rfl, hsm, rfl, HA⟩ := hrel
    have Hgk := Lib.hid hgk
    clear hgk
    by_cases hlt : k < n ∧ k ≤ 310
    · obtain ⟨h1, h2⟩ := hlt
      have e1 : decide ((k : Int) ≤ 310) = true := by simp <;> omega
      obtain ⟨bb, oo, r, hA, hbb, hrk, hrr, hrg⟩ := HX.out.rwAt (k := k) h1
      simp only at hA
      subst hA
      have q0 := hrg 0 _ rfl
      have q1 := hrg 1 _ rfl
      simp only [Nat.add_zero] at q0
      have HRK := Lib.hid hrk
      have HTR := Lib.hid hrr.ts
      have i0 : (0 : Int) ≤ k := by omega
      have i1 : (k : Int) < n := by omega
      clear hrk hrg hbb
      by_cases g1 : r.ts.n ≤ 20
      · have e2 : decide ((20 : Int) < r.ts.n) = false := by simp <;> omega
        by_cases g2 : r.vs.n ≤ 20
        · have e3 : decide ((20 : Int) < r.vs.n) = false := by simp <;> omega
          have HN : Hid (∀ (i : Nat) r, i < k + 1 → rows[i]? = some r → r.ts.n ≤ 20 ∧ r.vs.n ≤ 20) := by
            intro i r' hi hir
            rcases (show i < k ∨ i = k by omega) with h | h
            · exact HA.out i r' h hir
            · subst h
              rw [HRK.out] at hir
              injection hir with hir
              subst hir
              exact ⟨g1, g2⟩
          clear HA hrr
          obtain ⟨⟨A3, n3, c3, ts⟩, ⟨A4, n4, c4, vs⟩⟩ := r
          simp only at *
          go_wp2_with fail
          clear q0 q1
          go_loopg [3, 39] n3 (fun gg s3 s39 wx => ∃ (j s2 : Nat), gg = n3 - j ∧ j ≤ n3 ∧ s39 = .int .i64 j ∧ s3 = .int .i64 s2 ∧ s2 ≤ 20000 * k + 1000 * j ∧ w = wx)
          case atStart => exact ⟨0, sm, rfl, by omega, rfl, rfl, by omega, rfl⟩
          case round =>
            obtain ⟨j, s2, hgj, hj, rfl, rfl, hs2, rfl⟩ := hrel
            have Hgj := Lib.hid hgj
            clear hgj
            by_cases hjlt : j < n3
            · obtain ⟨b4, o4, t, hA4, htk, htl, q⟩ := HTR.out.textAt (k := j) hjlt
              simp only at hA4
              subst hA4
              have hmin : ∃ q : Nat, (min (t.length : Int) 1000) = q ∧ q ≤ 1000 := ⟨min t.length 1000, by omega, by omega⟩
              obtain ⟨qq, hq, hq2⟩ := hmin
              have HQ := Lib.hid hq
              clear htk hq
              go_wp2
              rw [HQ.out]
              go_roundg (n3 - (j + 1))
              case rel => exact ⟨j + 1, s2 + qq, rfl, by omega, by go_num, by go_num, by omega, rfl⟩
              case measure => rw [Hgj.out]; omega
            · go_wp2_with fail
              go_roundg (312 - (k + 1))
              case rel => exact ⟨k + 1, s2, rfl, by omega, by omega, by go_num, rfl, by omega, rfl, HN⟩
              case measure => rw [Hgk.out]; omega
        · have e3 : decide ((20 : Int) < r.vs.n) = true := by simp <;> omega
          go_wp2
          go_ret
          exact ⟨false, rfl, (fun h => by cases h), HB.out⟩
      · have e2 : decide ((20 : Int) < r.ts.n) = true := by simp <;> omega
        go_wp2
        go_ret
        exact ⟨false, rfl, (fun h => by cases h), HB.out⟩
    · have e0 : (decide ((k : Int) < n) = false ∧ decide (k < n) = false ∧ ¬ k < n) ∨ (decide ((k : Int) < n) = true ∧ decide (k < n) = true ∧ k < n ∧ decide ((k : Int) ≤ 310) = false) := by
        by_cases h : k < n
        · right
          refine ⟨by simp <;> omega, by simp <;> omega, h, by simp <;> omega⟩
        · left
          refine ⟨by simp <;> omega, by simp <;> omega, h⟩
      clear hlt
      have HALL : Hid (n ≤ 310 → ∀ r ∈ rows, r.ts.n ≤ 20 ∧ r.vs.n ≤ 20) := by
        intro h20 d hd
        obtain ⟨i, hi⟩ := List.mem_iff_getElem?.1 hd
        have hil : i < rows.length := (List.getElem?_eq_some_iff.1 hi).1
        refine HA.out i d ?_ hi
        have := hlen.out
        rcases e0 with ⟨_, _, h⟩ | ⟨_, _, h, h'⟩
        · omega
        · simp at h'; omega
      clear HA
      rcases e0 with ⟨e1, e2, e3⟩ | ⟨e1, e2, e3, e4⟩
      all_goals
        by_cases z1 : n ≤ 310
        · have z3 : decide ((n : Int) ≤ 310) = true := by simp <;> omega
          go_wp2
          all_goals
            go_ret
            exact ⟨_, rfl, fun _ => ⟨z1, HALL.out z1⟩, HB.out⟩
        · have z3 : decide ((n : Int) ≤ 310) = false := by simp <;> omega
          go_wp2
          go_ret
          exact ⟨false, rfl, (fun h => by cases h), HB.out⟩

end Go.Proofs.Ytelnhhbefdfeoaa
