/- Searches, and where they came to; term.Between. -/
import Derived.Test.YtelnhhbefdfeoaaBs
namespace Go.Proofs.Ytelnhhbefdfeoaa
open Go.RowKit
set_option linter.unusedVariables false
set_option linter.unusedSimpArgs false


theorem less_total {a b : List UInt8} : Op.bytesLess a b = false → a ≠ b → Op.bytesLess b a = true := by
  induction a generalizing b with
  | nil =>
    intro h hn
    cases b with
    | nil => exact absurd rfl hn
    | cons x l => simp [Op.bytesLess] at h
  | cons x l ih =>
    intro h hn
    cases b with
    | nil => rfl
    | cons y m =>
      rw [Op.bytesLess, Bool.or_eq_false_iff] at h
      rw [Op.bytesLess, Bool.or_eq_true]
      by_cases h2 : y < x
      · exact .inl (by simpa using h2)
      · right
        have h1 : ¬ x < y := by simpa using h.1
        have hxy : x = y := by
          apply UInt8.toNat_inj.1
          have a1 : ¬ x.toNat < y.toNat := fun h => h1 h
          have a2 : ¬ y.toNat < x.toNat := fun h => h2 h
          omega
        subst hxy
        have h3 := h.2
        simp only [beq_self_eq_true, Bool.true_and] at h3 ⊢
        exact ih h3 (fun e => hn (by rw [e]))
/-- How far a search came, and where that is. -/
def Found2 (s : List UInt8) (ts : List (List UInt8)) (k : Nat) (b : Bool) : Prop := k ≤ ts.length ∧ (∀ (m : Nat) u, m < k → ts[m]? = some u → Op.bytesLess u s = true) ∧ (∀ (m : Nat) u, k ≤ m → ts[m]? = some u → Op.bytesLess u s = false) ∧ (b = true → ts[k]? = some s) ∧ (b = false → ∀ (m : Nat), k ≤ m → ts[m]? ≠ some s)
theorem found2_yes {s t : List UInt8} {ts : List (List UInt8)} {i : Nat} (hr : RiseT ts) (h1 : ∀ (m : Nat) u, m < i → ts[m]? = some u → Op.bytesLess u s = true) (h2 : ∀ (m : Nat) u, i ≤ m → ts[m]? = some u → Op.bytesLess u s = false) (ht : ts[i]? = some t) (he : (t == s) = true) : Found2 s ts i true := by
  obtain rfl := eq_of_beq he
  exact ⟨Nat.le_of_lt (List.getElem?_eq_some_iff.1 ht).1, h1, h2, fun _ => ht, fun h => by cases h⟩
theorem found2_no {s : List UInt8} {ts : List (List UInt8)} {i : Nat} (hr : RiseT ts) (hi : i ≤ ts.length) (h1 : ∀ (m : Nat) u, m < i → ts[m]? = some u → Op.bytesLess u s = true) (h2 : ∀ (m : Nat) u, i ≤ m → ts[m]? = some u → Op.bytesLess u s = false) (h3 : ∀ u, ts[i]? = some u → (u == s) = false) : Found2 s ts i false := by
  refine ⟨hi, h1, h2, (fun h => by cases h), fun _ m hm hu => ?_⟩
  rcases Nat.lt_or_ge i m with hk | hk
  · have hk2 := (List.getElem?_eq_some_iff.1 hu).1
    have := hr.lt hk (List.getElem?_eq_getElem (by omega : i < ts.length)) hu
    have h4 := h2 i _ (Nat.le_refl _) (List.getElem?_eq_getElem (by omega : i < ts.length))
    rw [this] at h4
    cases h4
  · obtain rfl : m = i := by omega
    have := h3 s hu
    rw [beq_self_eq_true] at this
    cases this
/-- Does a text stand from one to another one? -/
def within (lo hi u : List UInt8) : Bool := !Op.bytesLess u lo && !Op.bytesLess hi u
theorem within_found {ts : List (List UInt8)} {lo hi u : List UInt8} {a k : Nat} {b b0 : Bool} (hr : RiseT ts) (ha : Found2 lo ts a b0) (hk : Found2 hi ts k b) {i : Nat} (hu : ts[i]? = some u) : within lo hi u = decide (min a (if b then k + 1 else k) ≤ i ∧ i < (if b then k + 1 else k)) := by
  have e1 : Op.bytesLess u lo = decide (i < a) := by
    by_cases h : i < a
    · rw [ha.2.1 i u h hu]; simp [h]
    · rw [ha.2.2.1 i u (by omega) hu]; simp [h]
  have e2 : Op.bytesLess hi u = decide (¬ i < (if b then k + 1 else k)) := by
    by_cases h : i < k
    · have h1 := hk.2.1 i u h hu
      have h2 : Op.bytesLess hi u = false := by
        cases hq : Op.bytesLess hi u with
        | false => rfl
        | true => have := less_trans h1 hq; rw [less_irr] at this; cases this
      rw [h2]
      cases b <;> simp <;> omega
    · cases b with
      | true =>
        have hs := hk.2.2.2.1 rfl
        rcases (show i = k ∨ k < i by omega) with h3 | h3
        · subst h3
          rw [hs] at hu
          injection hu with hu
          subst hu
          rw [less_irr]
          simp
        · rw [hr.lt h3 hs hu]
          simp
          omega
      | false =>
        have h4 := hk.2.2.1 i u (by omega) hu
        have h5 : u ≠ hi := fun e => hk.2.2.2.2 rfl i (by omega) (by rw [hu, e])
        rw [less_total h4 h5]
        simp
        omega
  unfold within
  rw [e1, e2]
  generalize (if b = true then k + 1 else k) = z
  by_cases h1 : i < a <;> by_cases h2 : i < z <;> simp [h1, h2] <;> omega
def Srch2 (s : List UInt8) (ts : List (List UInt8)) (w : World) (e : Ending) (w' : World) : Prop := ∃ (k : Nat) (b : Bool), e = .returned (.tuple #[.int .i64 k, .bool b]) ∧ w = w' ∧ Found2 s ts k b
set_option maxRecDepth 100000 in
set_option maxHeartbeats 2000000 in
theorem sbin2_any (x : Row (List UInt8)) (s : List UInt8) (w : World) (hx : x.rd w) (hr : RiseT x.l) (hn : x.n ≤ 1000000) :
    Calls Try.prog 97 #[.slice x.A x.n x.c, .string ⟨s.toArray⟩] w (Srch2 s x.l w) := by
  have hlen : Hid (x.l.length = x.n) := hx.len
  have HX := Lib.hid hx
  have HR := Lib.hid hr
  obtain ⟨A, n, c, ts⟩ := x
  simp only at *
  clear hx hr
  go_enter Try.func97, Try.ntmps97
  go_wp2_with fail
  have HF : Hid ((∀ (m : Nat) u, m < 0 → ts[m]? = some u → Op.bytesLess u s = true) ∧ (∀ (m : Nat) u, n ≤ m → ts[m]? = some u → Op.bytesLess u s = false)) := ⟨fun m u h => absurd h (by omega), fun m u hm hu => by
    have := (List.getElem?_eq_some_iff.1 hu).1
    have := hlen.out
    omega⟩
  go_loopg [7, 8] n (fun gg s7 s8 wr => ∃ i j : Nat, gg = j - i ∧ i ≤ j ∧ j ≤ n ∧ s7 = .int .i64 i ∧ s8 = .int .i64 j ∧ w = wr ∧ Hid ((∀ (m : Nat) u, m < i → ts[m]? = some u → Op.bytesLess u s = true) ∧ (∀ (m : Nat) u, j ≤ m → ts[m]? = some u → Op.bytesLess u s = false)))
  case atStart => exact ⟨0, n, by omega, by omega, by omega, rfl, rfl, rfl, HF⟩
  case round =>
    clear HF
    obtain ⟨i, j, hgk, hij, hj, rfl, rfl, rfl, HF⟩ := hrel
    have Hgk := Lib.hid hgk
    clear hgk
    by_cases hlt : i < j
    · obtain ⟨b, o, t, hA, ht, htl, hc⟩ := HX.out.textAt (k := (i + j) / 2) (by show _ < n; omega)
      simp only at hA
      subst hA
      have HT := Lib.hid ht
      clear ht
      go_wp2_with fail
      refine (sless_any t s _).mono ?_; rintro e w1 ⟨rfl, rfl⟩
      cases hL : Op.bytesLess t s with
      | true =>
        have HN : Hid ((∀ (m : Nat) u, m < (i + j) / 2 + 1 → ts[m]? = some u → Op.bytesLess u s = true) ∧ (∀ (m : Nat) u, j ≤ m → ts[m]? = some u → Op.bytesLess u s = false)) := by
          refine ⟨fun m u hm hu => ?_, HF.out.2⟩
          rcases (show m < (i + j) / 2 ∨ m = (i + j) / 2 by omega) with h | h
          · exact less_trans (HR.out.lt h hu HT.out) hL
          · subst h
            rw [HT.out] at hu
            injection hu with hu
            subst hu
            exact hL
        clear HF hL
        go_wp2
        go_roundg (j - ((i + j) / 2 + 1))
        case rel => exact ⟨(i + j) / 2 + 1, j, rfl, by omega, hj, by go_num, rfl, rfl, HN⟩
        case measure => rw [Hgk.out]; omega
      | false =>
        have HN : Hid ((∀ (m : Nat) u, m < i → ts[m]? = some u → Op.bytesLess u s = true) ∧ (∀ (m : Nat) u, (i + j) / 2 ≤ m → ts[m]? = some u → Op.bytesLess u s = false)) := by
          refine ⟨HF.out.1, fun m u hm hu => ?_⟩
          rcases (show (i + j) / 2 < m ∨ m = (i + j) / 2 by omega) with h | h
          · cases hq : Op.bytesLess u s with
            | false => rfl
            | true => rw [less_trans (HR.out.lt h HT.out hu) hq] at hL; cases hL
          · subst h
            rw [HT.out] at hu
            injection hu with hu
            subst hu
            exact hL
        clear HF hL
        go_wp2
        go_roundg ((i + j) / 2 - i)
        case rel => exact ⟨i, (i + j) / 2, rfl, by omega, by omega, rfl, by go_num, rfl, HN⟩
        case measure => rw [Hgk.out]; omega
    · obtain rfl : i = j := by omega
      by_cases hin : i < n
      · obtain ⟨b, o, t, hA, ht, htl, hc⟩ := HX.out.textAt (k := i) hin
        simp only at hA
        subst hA
        have HT := Lib.hid ht
        clear ht
        cases hE : (t == s) with
        | true =>
          have HP := Lib.hid (found2_yes HR.out HF.out.1 HF.out.2 HT.out hE)
          clear HF
          go_wp2
          go_ret2
          exact ⟨i, true, rfl, rfl, HP.out⟩
        | false =>
          have HP := Lib.hid (found2_no HR.out (by have := hlen.out; omega) HF.out.1 HF.out.2 (fun u hu => by rw [HT.out] at hu; injection hu with hu; subst hu; exact hE))
          clear HF
          go_wp2_with fail
          refine (snan_any t _).mono ?_; rintro e w1 ⟨rfl, rfl⟩
          go_wp2
          go_ret2
          exact ⟨i, false, rfl, rfl, HP.out⟩
      · have HP := Lib.hid (found2_no HR.out (by have := hlen.out; omega) HF.out.1 HF.out.2 (fun u hu => by have := (List.getElem?_eq_some_iff.1 hu).1; have := hlen.out; omega))
        clear HF
        go_wp2
        go_ret2
        exact ⟨i, false, rfl, rfl, HP.out⟩
set_option maxRecDepth 100000 in
theorem tfind2_any (x : Row (List UInt8)) (s : List UInt8) (w : World) (hx : x.rd w) (hr : RiseT x.l) (hn : x.n ≤ 1000000) :
    Calls Try.prog 73 #[.slice x.A x.n x.c, .string ⟨s.toArray⟩] w (Srch2 s x.l w) := by
  have HB := Lib.hid (sbin2_any x s w hx hr hn)
  go_enter Try.func73, Try.ntmps73
  go_wp2_with fail
  refine HB.out.mono ?_; rintro e w1 ⟨k, b, rfl, rfl, hF⟩
  have HF := Lib.hid hF
  clear hF
  go_wp2
  go_ret2
  exact ⟨k, b, rfl, rfl, HF.out⟩

/-- How term.Between ends. -/
def BetPost (lo hi : List UInt8) (ts : List (List UInt8)) (w : World) (e : Ending) (w' : World) : Prop := ∃ (a b : Nat), e = .returned (.tuple #[.int .i64 a, .int .i64 b]) ∧ w = w' ∧ a ≤ 1000001 ∧ b ≤ 1000001 ∧ ∀ (i : Nat) u, ts[i]? = some u → within lo hi u = (decide (a ≤ i) && decide (i < b))
set_option maxRecDepth 100000 in
set_option maxHeartbeats 1000000 in
theorem between_any (x : Row (List UInt8)) (lo hi : List UInt8) (w : World) (hx : x.rd w) (hr : RiseT x.l) (hn : x.n ≤ 1000000) :
    Calls Try.prog 91 #[.slice x.A x.n x.c, .string ⟨lo.toArray⟩, .string ⟨hi.toArray⟩] w (BetPost lo hi x.l w) := by
  have HL := Lib.hid (tfind2_any x lo w hx hr hn)
  have HI := Lib.hid (tfind2_any x hi w hx hr hn)
  have HR := Lib.hid hr
  have hlen : Hid (x.l.length = x.n) := hx.len
  obtain ⟨A, n, c, ts⟩ := x
  simp only at *
  clear hx hr
  go_enter Try.func91, Try.ntmps91
  go_wp2_with fail
  refine HL.out.mono ?_; rintro e w1 ⟨a, b0, rfl, rfl, hA⟩
  have ha : a ≤ 1000000 := by have := hA.1; have := hlen.out; omega
  have HA := Lib.hid hA
  clear hA HL
  go_wp2_with fail
  refine HI.out.mono ?_; rintro e w2 ⟨k, b, rfl, rfl, hK⟩
  have hk : k ≤ 1000000 := by have := hK.1; have := hlen.out; omega
  have HK := Lib.hid hK
  clear hK HI
  cases b with
  | true =>
    obtain ⟨m, hm, hm2⟩ : ∃ m : Nat, (min (a : Int) ((k : Int) + 1)) = m ∧ m = min a (k + 1) := ⟨min a (k + 1), by omega, rfl⟩
    have HM := Lib.hid hm2
    clear hm2
    go_wp2
    go_ret2
    refine ⟨m, k + 1, by first | rfl | go_num | (simp [hm]), rfl, by have := HM.out; omega, by omega, fun i u hu => ?_⟩
    rw [within_found HR.out HA.out HK.out hu, HM.out]
    simp
  | false =>
    obtain ⟨m, hm, hm2⟩ : ∃ m : Nat, (min (a : Int) (k : Int)) = m ∧ m = min a k := ⟨min a k, by omega, rfl⟩
    have HM := Lib.hid hm2
    clear hm2
    go_wp2
    go_ret2
    refine ⟨m, k, by first | rfl | go_num | (simp [hm]), rfl, by have := HM.out; omega, by omega, fun i u hu => ?_⟩
    rw [within_found HR.out HA.out HK.out hu, HM.out]
    simp

end Go.Proofs.Ytelnhhbefdfeoaa
