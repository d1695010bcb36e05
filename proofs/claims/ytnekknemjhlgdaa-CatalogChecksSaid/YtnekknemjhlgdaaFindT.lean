/- A text searched for in a row of texts. -/
import Derived.Test.YtnekknemjhlgdaaBe
import Derived.Test.YtnekknemjhlgdaaBc
namespace Go.Proofs.Ytnekknemjhlgdaa
open Go.RowKit
set_option linter.unusedVariables false
set_option linter.unusedSimpArgs false

theorem less_irr (a : List UInt8) : Op.bytesLess a a = false := by
  induction a with
  | nil => rfl
  | cons x r ih => simp [Op.bytesLess, ih]
theorem less_trans {a b c : List UInt8} (h1 : Op.bytesLess a b = true) (h2 : Op.bytesLess b c = true) : Op.bytesLess a c = true := by
  induction a generalizing b c with
  | nil =>
    cases b with
    | nil => simp [Op.bytesLess] at h1
    | cons y r =>
      cases c with
      | nil => simp [Op.bytesLess] at h2
      | cons z s => rfl
  | cons x r ih =>
    cases b with
    | nil => simp [Op.bytesLess] at h1
    | cons y s =>
      cases c with
      | nil => simp [Op.bytesLess] at h2
      | cons z t =>
        simp only [Op.bytesLess, Bool.or_eq_true, decide_eq_true_eq, Bool.and_eq_true, beq_iff_eq] at h1 h2 ⊢
        rcases h1 with h1 | ⟨rfl, h1⟩
        · rcases h2 with h2 | ⟨rfl, h2⟩
          · exact .inl (UInt8.lt_trans h1 h2)
          · exact .inl h1
        · rcases h2 with h2 | ⟨rfl, h2⟩
          · exact .inl h2
          · exact .inr ⟨rfl, ih h1 h2⟩
/-- Each text stands ahead of all behind it. -/
def RiseT (ts : List (List UInt8)) : Prop := ts.Pairwise (fun a b => Op.bytesLess a b = true)
theorem riseT_from {ts : List (List UInt8)} : ∀ {p : Option (List UInt8)}, rowFrom p ts = 0 → RiseT ts ∧ ∀ q, p = some q → ∀ t ∈ ts, Op.bytesLess q t = true := by
  induction ts with
  | nil => intro p _; exact ⟨List.Pairwise.nil, fun q _ t ht => by cases ht⟩
  | cons t r ih =>
    intro p h
    rw [rowFrom] at h
    split at h
    · split at h
      · cases h
      · rename_i h1 h2
        obtain ⟨i1, i2⟩ := ih h
        have i3 := i2 t rfl
        refine ⟨List.Pairwise.cons i3 i1, fun q hq u hu => ?_⟩
        subst hq
        have hqt : Op.bytesLess q t = true := by simpa using h2
        rcases List.mem_cons.1 hu with rfl | hu
        · exact hqt
        · exact less_trans hqt (i3 u hu)
    · cases h
theorem riseT_row {ts : List (List UInt8)} (h : rowErr ts = 0) : RiseT ts := (riseT_from h).1
theorem RiseT.lt {ts : List (List UInt8)} (h : RiseT ts) {i j : Nat} {a b : List UInt8} (hij : i < j) (ha : ts[i]? = some a) (hb : ts[j]? = some b) : Op.bytesLess a b = true := by
  obtain ⟨h1, rfl⟩ := List.getElem?_eq_some_iff.1 ha
  obtain ⟨h2, rfl⟩ := List.getElem?_eq_some_iff.1 hb
  exact List.pairwise_iff_getElem.1 h i j h1 h2 hij
/-- The first place at which a text stands. -/
def posOf (s : List UInt8) : List (List UInt8) → Option Nat
  | [] => none
  | t :: r => if t == s then some 0 else (posOf s r).map (· + 1)
theorem posOf_none {s : List UInt8} {ts : List (List UInt8)} (h : ∀ (k : Nat) t, ts[k]? = some t → (t == s) = false) : posOf s ts = none := by
  induction ts with
  | nil => rfl
  | cons t r ih =>
    rw [posOf, h 0 t rfl, ih fun k u hu => h (k + 1) u hu]
    rfl
theorem posOf_some {s : List UInt8} {ts : List (List UInt8)} : ∀ {i : Nat} {t : List UInt8}, ts[i]? = some t → (t == s) = true → (∀ (k : Nat) u, k < i → ts[k]? = some u → (u == s) = false) → posOf s ts = some i := by
  induction ts with
  | nil => intro i t h; simp at h
  | cons a r ih =>
    intro i t h he hn
    cases i with
    | zero =>
      injection h with h
      subst h
      rw [posOf, he]
      rfl
    | succ i =>
      rw [posOf, hn 0 a (by omega) rfl, ih h he fun k u hk hu => hn (k + 1) u (by omega) hu]
      rfl
theorem posOf_lt {s : List UInt8} {ts : List (List UInt8)} : ∀ {i : Nat}, posOf s ts = some i → i < ts.length := by
  induction ts with
  | nil => intro i h; cases h
  | cons a r ih =>
    intro i h
    rw [posOf] at h
    split at h
    · injection h with h; subst h; simp
    · cases hp : posOf s r with
      | none => rw [hp] at h; cases h
      | some j => rw [hp] at h; simp at h; have := ih hp; simp; omega
/-- How far a search came. -/
def FoundT (s : List UInt8) (ts : List (List UInt8)) (k : Nat) (b : Bool) : Prop := k ≤ ts.length ∧ (b = true → posOf s ts = some k) ∧ (b = false → posOf s ts = none)
theorem found_yes {s t : List UInt8} {ts : List (List UInt8)} {i : Nat} (h1 : ∀ (m : Nat) u, m < i → ts[m]? = some u → Op.bytesLess u s = true) (ht : ts[i]? = some t) (he : (t == s) = true) : FoundT s ts i true := by
  refine ⟨Nat.le_of_lt (List.getElem?_eq_some_iff.1 ht).1, fun _ => posOf_some ht he fun k u hk hu => ?_, fun h => by cases h⟩
  rw [beq_eq_false_iff_ne]
  rintro rfl
  have := h1 k u hk hu
  rw [less_irr] at this
  cases this
theorem found_no {s : List UInt8} {ts : List (List UInt8)} {i : Nat} (hr : RiseT ts) (hi : i ≤ ts.length) (h1 : ∀ (m : Nat) u, m < i → ts[m]? = some u → Op.bytesLess u s = true) (h2 : ∀ (m : Nat) u, i ≤ m → ts[m]? = some u → Op.bytesLess u s = false) (h3 : ∀ u, ts[i]? = some u → (u == s) = false) : FoundT s ts i false := by
  refine ⟨hi, (fun h => by cases h), fun _ => posOf_none fun k u hu => ?_⟩
  rcases Nat.lt_trichotomy k i with hk | hk | hk
  · rw [beq_eq_false_iff_ne]
    rintro rfl
    have := h1 k u hk hu
    rw [less_irr] at this
    cases this
  · subst hk
    exact h3 u hu
  · rw [beq_eq_false_iff_ne]
    rintro rfl
    have hk2 := (List.getElem?_eq_some_iff.1 hu).1
    have := hr.lt hk (List.getElem?_eq_getElem (by omega : i < ts.length)) hu
    have h4 := h2 i _ (Nat.le_refl _) (List.getElem?_eq_getElem (by omega : i < ts.length))
    rw [this] at h4
    cases h4

set_option maxRecDepth 100000 in
theorem cnan_any (s : List UInt8) (w : World) : Calls Try.prog 238 #[.string ⟨s.toArray⟩] w fun e w' => e = .returned (.bool false) ∧ w = w' := by
  have h : (s != s) = false := by simp
  go_enter Try.func238, Try.ntmps238
  go_wp2
  go_ret
  exact ⟨rfl, rfl⟩
set_option maxRecDepth 100000 in
theorem snan_any (s : List UInt8) (w : World) : Calls Try.prog 237 #[.string ⟨s.toArray⟩] w fun e w' => e = .returned (.bool false) ∧ w = w' := by
  have h : (s != s) = false := by simp
  go_enter Try.func237, Try.ntmps237
  go_wp2
  go_ret
  exact ⟨rfl, rfl⟩
set_option maxRecDepth 100000 in
theorem sless_any (a b : List UInt8) (w : World) : Calls Try.prog 236 #[.string ⟨a.toArray⟩, .string ⟨b.toArray⟩] w fun e w' => e = .returned (.bool (Op.bytesLess a b)) ∧ w = w' := by
  go_enter Try.func236, Try.ntmps236
  go_wp2_with fail
  refine (cnan_any a _).mono ?_; rintro e w1 ⟨rfl, rfl⟩
  go_wp2
  go_ret
  exact ⟨rfl, rfl⟩
def SrchPost (s : List UInt8) (ts : List (List UInt8)) (w : World) (e : Ending) (w' : World) : Prop := ∃ (k : Nat) (b : Bool), e = .returned (.tuple #[.int .i64 k, .bool b]) ∧ w = w' ∧ FoundT s ts k b
set_option maxRecDepth 100000 in
set_option maxHeartbeats 2000000 in
theorem sbin_any (x : Row (List UInt8)) (s : List UInt8) (w : World) (hx : x.rd w) (hr : RiseT x.l) (hn : x.n ≤ 1000000) :
    Calls Try.prog 230 #[.slice x.A x.n x.c, .string ⟨s.toArray⟩] w (SrchPost s x.l w) := by
  have hlen : Hid (x.l.length = x.n) := hx.len
  have HX := Lib.hid hx
  have HR := Lib.hid hr
  obtain ⟨A, n, c, ts⟩ := x
  simp only at *
  clear hx hr
  go_enter Try.func230, Try.ntmps230
  go_wp2_with fail
  have HF : Hid ((∀ (m : Nat) u, m < 0 → ts[m]? = some u → Op.bytesLess u s = true) ∧ (∀ (m : Nat) u, n ≤ m → ts[m]? = some u → Op.bytesLess u s = false)) := ⟨fun m u h => absurd h (by omega), fun m u hm hu => by
    have := (List.getElem?_eq_some_iff.1 hu).1
    have := hlen.out
    omega⟩
  go_loopg [7, 8] n (fun gg s7 s8 wr => ∃ i j : Nat, gg = j - i ∧ i ≤ j ∧ j ≤ n ∧ s7 = .int .i64 i ∧ s8 = .int .i64 j ∧ w = wr ∧ Hid ((∀ (m : Nat) u, m < i → ts[m]? = some u → Op.bytesLess u s = true) ∧ (∀ (m : Nat) u, j ≤ m → ts[m]? = some u → Op.bytesLess u s = false)))
  case atStart => exact ⟨0, n, by omega, by omega, by omega, rfl, rfl, rfl, HF⟩
  case round =>
    clear HF
    obtain ⟨i, j, hgk, hij, hj, rfl, rfl, rfl, HF⟩ := hrel
    have Hgk := Lib.hid hgk
    clear hgk
    by_cases hlt : i < j
    · obtain ⟨b, o, t, hA, ht, htl, hc⟩ := HX.out.textAt (k := (i + j) / 2) (by show _ < n; omega)
      simp only at hA
      subst hA
      have HT := Lib.hid ht
      clear ht
      go_wp2_with fail
      refine (sless_any t s _).mono ?_; rintro e w1 ⟨rfl, rfl⟩
      cases hL : Op.bytesLess t s with
      | true =>
        have HN : Hid ((∀ (m : Nat) u, m < (i + j) / 2 + 1 → ts[m]? = some u → Op.bytesLess u s = true) ∧ (∀ (m : Nat) u, j ≤ m → ts[m]? = some u → Op.bytesLess u s = false)) := by
          refine ⟨fun m u hm hu => ?_, HF.out.2⟩
          rcases (show m < (i + j) / 2 ∨ m = (i + j) / 2 by omega) with h | h
          · exact less_trans (HR.out.lt h hu HT.out) hL
          · subst h
            rw [HT.out] at hu
            injection hu with hu
            subst hu
            exact hL
        clear HF hL
        go_wp2
        go_roundg (j - ((i + j) / 2 + 1))
        case rel => exact ⟨(i + j) / 2 + 1, j, rfl, by omega, hj, by go_num, rfl, rfl, HN⟩
        case measure => rw [Hgk.out]; omega
      | false =>
        have HN : Hid ((∀ (m : Nat) u, m < i → ts[m]? = some u → Op.bytesLess u s = true) ∧ (∀ (m : Nat) u, (i + j) / 2 ≤ m → ts[m]? = some u → Op.bytesLess u s = false)) := by
          refine ⟨HF.out.1, fun m u hm hu => ?_⟩
          rcases (show (i + j) / 2 < m ∨ m = (i + j) / 2 by omega) with h | h
          · cases hq : Op.bytesLess u s with
            | false => rfl
            | true => rw [less_trans (HR.out.lt h HT.out hu) hq] at hL; cases hL
          · subst h
            rw [HT.out] at hu
            injection hu with hu
            subst hu
            exact hL
        clear HF hL
        go_wp2
        go_roundg ((i + j) / 2 - i)
        case rel => exact ⟨i, (i + j) / 2, rfl, by omega, by omega, rfl, by go_num, rfl, HN⟩
        case measure => rw [Hgk.out]; omega
    · obtain rfl : i = j := by omega
      by_cases hin : i < n
      · obtain ⟨b, o, t, hA, ht, htl, hc⟩ := HX.out.textAt (k := i) hin
        simp only at hA
        subst hA
        have HT := Lib.hid ht
        clear ht
        cases hE : (t == s) with
        | true =>
          have HP := Lib.hid (found_yes HF.out.1 HT.out hE)
          clear HF
          go_wp2
          go_ret2
          exact ⟨i, true, rfl, rfl, HP.out⟩
        | false =>
          have HP := Lib.hid (found_no HR.out (by have := hlen.out; omega) HF.out.1 HF.out.2 (fun u hu => by rw [HT.out] at hu; injection hu with hu; subst hu; exact hE))
          clear HF
          go_wp2_with fail
          refine (snan_any t _).mono ?_; rintro e w1 ⟨rfl, rfl⟩
          go_wp2
          go_ret2
          exact ⟨i, false, rfl, rfl, HP.out⟩
      · have HP := Lib.hid (found_no HR.out (by have := hlen.out; omega) HF.out.1 HF.out.2 (fun u hu => by have := (List.getElem?_eq_some_iff.1 hu).1; have := hlen.out; omega))
        clear HF
        go_wp2
        go_ret2
        exact ⟨i, false, rfl, rfl, HP.out⟩
set_option maxRecDepth 100000 in
theorem tfind_any (x : Row (List UInt8)) (s : List UInt8) (w : World) (hx : x.rd w) (hr : RiseT x.l) (hn : x.n ≤ 1000000) :
    Calls Try.prog 211 #[.slice x.A x.n x.c, .string ⟨s.toArray⟩] w (SrchPost s x.l w) := by
  have HB := Lib.hid (sbin_any x s w hx hr hn)
  go_enter Try.func211, Try.ntmps211
  go_wp2_with fail
  refine HB.out.mono ?_; rintro e w1 ⟨k, b, rfl, rfl, hF⟩
  have HF := Lib.hid hF
  clear hF
  go_wp2
  go_ret2
  exact ⟨k, b, rfl, rfl, HF.out⟩
def atOf (s : List UInt8) (ts : List (List UInt8)) : Int := match posOf s ts with | some k => k | none => -1
set_option maxRecDepth 100000 in
set_option maxHeartbeats 1000000 in
theorem rat_any (x : Row (List UInt8)) (s : List UInt8) (w : World) (hx : x.rd w) :
    Calls Try.prog 164 #[.slice x.A x.n x.c, .string ⟨s.toArray⟩] w fun e w' => e = .returned (.int .i64 (atOf s x.l)) ∧ w = w' := by
  have hlen : Hid (x.l.length = x.n) := hx.len
  have HX := Lib.hid hx
  have n63 := hx.n63
  obtain ⟨A, n, c, ts⟩ := x
  simp only at *
  clear hx
  go_enter Try.func164, Try.ntmps164
  go_wp2_with fail
  have HF : Hid (∀ (k : Nat) u, k < 0 → ts[k]? = some u → (u == s) = false) := fun m u h => absurd h (by omega)
  go_loopg [5] n (fun gg s5 wr => ∃ i : Nat, gg = n - i ∧ i ≤ n ∧ s5 = .int .i64 i ∧ w = wr ∧ Hid (∀ (k : Nat) u, k < i → ts[k]? = some u → (u == s) = false))
  case atStart => exact ⟨0, rfl, by omega, rfl, rfl, HF⟩
  case round =>
    clear HF
    obtain ⟨i, hgk, hi, rfl, rfl, HF⟩ := hrel
    have Hgk := Lib.hid hgk
    clear hgk
    by_cases hlt : i < n
    · obtain ⟨b, o, t, hA, ht, htl, hc⟩ := HX.out.textAt (k := i) hlt
      simp only at hA
      subst hA
      have HT := Lib.hid ht
      have i0 : (0 : Int) ≤ i := by omega
      have i1 : (i : Int) < n := by omega
      clear ht
      cases hE : (t == s) with
      | true =>
        have HP : Hid (atOf s ts = i) := by show _ = _; unfold atOf; rw [posOf_some HT.out hE HF.out]
        clear HF
        go_wp2
        go_ret
        rw [HP.out]
        exact ⟨rfl, rfl⟩
      | false =>
        have HN : Hid (∀ (k : Nat) u, k < i + 1 → ts[k]? = some u → (u == s) = false) := by
          intro k u hk hu
          rcases (show k < i ∨ k = i by omega) with h | h
          · exact HF.out k u h hu
          · subst h
            rw [HT.out] at hu
            injection hu with hu
            subst hu
            exact hE
        clear HF
        go_wp2
        go_roundg (n - (i + 1))
        case rel => exact ⟨i + 1, rfl, by omega, by go_num, rfl, HN⟩
        case measure => rw [Hgk.out]; omega
    · have HP : Hid (atOf s ts = -1) := by
        show _ = _
        unfold atOf
        rw [posOf_none fun k u hu => HF.out k u (by have := (List.getElem?_eq_some_iff.1 hu).1; have := hlen.out; omega) hu]
      clear HF
      go_wp2
      go_ret
      rw [HP.out]
      exact ⟨rfl, rfl⟩

end Go.Proofs.Ytnekknemjhlgdaa
