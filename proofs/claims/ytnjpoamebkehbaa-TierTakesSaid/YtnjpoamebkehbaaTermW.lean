/- Walks of term.Check, term.Name, the document's, and how many bytes texts have. -/
import Derived.Test.YtnjpoamebkehbaaSl
import Derived.OpenShut
namespace Go.Proofs.Ytnjpoamebkehbaa
open Go.RowKit
set_option linter.unusedVariables false
attribute [local go_sem] str_at

/-- May a text be a member? -/
def isTerm (l : List UInt8) : Bool := decide (1 ≤ l.length ∧ l.length ≤ 16)
/-- The error of a text that may not be a member. -/
def errOf (b : Bool) : Int := if b then 0 else 2
/-- May a sign stand in a name? -/
def isSign (c : Nat) : Bool := (decide (97 ≤ c) && decide (c ≤ 122)) || (decide (48 ≤ c) && decide (c ≤ 57)) || c == 95
/-- May a text be a name? -/
def isName (l : List UInt8) : Bool := decide (1 ≤ l.length ∧ l.length ≤ 12) && l.all fun c => isSign c.toNat

theorem empty_iff (l : List UInt8) : l.isEmpty = decide (l.length = 0) := by cases l <;> simp

set_option maxRecDepth 100000 in
set_option maxHeartbeats 1000000 in
theorem check_any (l : List UInt8) (w : World) (hl : l.length ≤ 9223372036854775807) :
    Calls Try.prog 136 #[.string ⟨l.toArray⟩] w fun e w' => e = .returned (.int .i64 (errOf (isTerm l))) ∧ w = w' := by
  cases l with
  | nil =>
    go_enter Try.func136, Try.ntmps136
    go_wp2
    go_ret
    exact ⟨rfl, rfl⟩
  | cons c r =>
    simp only [List.length_cons] at hl
    by_cases h : 16 < r.length + 1
    · have HI : Hid (isTerm (c :: r) = false) := by show _ = _; unfold isTerm; simp; omega
      go_enter Try.func136, Try.ntmps136
      go_wp2
      go_ret
      rw [HI.out]
      exact ⟨rfl, rfl⟩
    · have HI : Hid (isTerm (c :: r) = true) := by show _ = _; unfold isTerm; simp; omega
      go_enter Try.func136, Try.ntmps136
      go_wp2
      go_ret
      rw [HI.out]
      exact ⟨rfl, rfl⟩

set_option maxRecDepth 100000 in
set_option maxHeartbeats 1000000 in
theorem is_any (l : List UInt8) (w : World) (hl : l.length ≤ 9223372036854775807) :
    Calls Try.prog 114 #[.string ⟨l.toArray⟩] w fun e w' => e = .returned (.bool (isTerm l)) ∧ w = w' := by
  by_cases h1 : 1 ≤ l.length
  · by_cases h2 : l.length ≤ 16
    · have d1 : decide ((l.length : Int) ≤ 16) = true := by simp; omega
      have HI : Hid (isTerm l = true) := by show _ = _; unfold isTerm; simp; omega
      go_enter Try.func114, Try.ntmps114
      go_wp2
      go_ret
      rw [HI.out]
      exact ⟨rfl, rfl⟩
    · have d1 : decide ((l.length : Int) ≤ 16) = false := by simp; omega
      have HI : Hid (isTerm l = false) := by show _ = _; unfold isTerm; simp; omega
      go_enter Try.func114, Try.ntmps114
      go_wp2
      go_ret
      rw [HI.out]
      exact ⟨rfl, rfl⟩
  · have HI : Hid (isTerm l = false) := by show _ = _; unfold isTerm; simp; omega
    go_enter Try.func114, Try.ntmps114
    go_wp2
    go_ret
    rw [HI.out]
    exact ⟨rfl, rfl⟩

theorem sign_letter {c : Nat} (h1 : 97 ≤ c) (h2 : c ≤ 122) : isSign c = true := by simp [isSign, h1, h2]
theorem sign_digit {c : Nat} (h1 : 48 ≤ c) (h2 : c ≤ 57) : isSign c = true := by simp [isSign, h1, h2]
theorem sign_line {c : Nat} (h : c = 95) : isSign c = true := by simp [isSign, h]
theorem sign_none {c : Nat} (h1 : c < 97 ∨ 122 < c) (h2 : c < 48 ∨ 57 < c) (h3 : ¬ c = 95) : isSign c = false := by
  simp [isSign, h3]
  omega

theorem all_snoc_sign (l : List UInt8) (k : Nat) (h : k < l.length) : ((l.take (k + 1)).all fun c => isSign c.toNat) = (((l.take k).all fun c => isSign c.toNat) && isSign l[k].toNat) := by
  rw [List.take_succ_eq_append_getElem h, List.all_append]
  simp
theorem all_take_false {l : List UInt8} {k : Nat} (h : ((l.take k).all fun c => isSign c.toNat) = false) : (l.all fun c => isSign c.toNat) = false := by
  rw [← List.take_append_drop k l, List.all_append, h]
  rfl

set_option maxRecDepth 100000 in
set_option maxHeartbeats 1000000 in
theorem name_any (l : List UInt8) (w : World) (hl : l.length ≤ 9223372036854775807) :
    Calls Try.prog 88 #[.string ⟨l.toArray⟩] w fun e w' => e = .returned (.int .i64 (errOf (isName l))) ∧ w = w' := by
  cases hl0 : l with
  | nil =>
    subst hl0
    go_enter Try.func88, Try.ntmps88
    go_wp2
    go_ret
    exact ⟨rfl, rfl⟩
  | cons c0 r0 =>
    have hp : 1 ≤ l.length := by rw [hl0]; simp
    have he : l.isEmpty = false := by rw [hl0]; rfl
    rw [← hl0]
    clear hl0
    by_cases h : 12 < l.length
    · have HI : Hid (isName l = false) := by show _ = _; unfold isName; simp; omega
      go_enter Try.func88, Try.ntmps88
      go_wp2
      go_ret
      rw [HI.out]
      exact ⟨rfl, rfl⟩
    · have dl : decide (12 < (l.length : Int)) = false := by simp; omega
      go_enter Try.func88, Try.ntmps88
      go_wp2
      go_loopg [14] l.length (fun g i wr => ∃ k : Nat, g = l.length - k ∧ k ≤ l.length ∧ i = .int .i64 k ∧ wr = w ∧ Hid (((l.take k).all fun c => isSign c.toNat) = true))
      case atStart => exact ⟨0, rfl, by omega, rfl, rfl, by show _ = _; simp⟩
      case round =>
        obtain ⟨k, hgk, hk, rfl, rfl, hF⟩ := hrel
        have Hgk := Lib.hid hgk
        clear hgk
        by_cases hlt : k < l.length
        · have hb := l[k].toNat_lt
          have Hs := Lib.hid (all_snoc_sign l k hlt)
          by_cases a1 : 97 ≤ l[k].toNat
          · by_cases a2 : l[k].toNat ≤ 122
            · have HG : Hid (isSign l[k].toNat = true) := sign_letter a1 a2
              go_wp2
              go_roundg (l.length - (k + 1))
              case rel => exact ⟨k + 1, rfl, by omega, by go_num, rfl, by show _ = _; rw [Hs.out, hF.out, HG.out]; rfl⟩
              case measure => rw [Hgk.out]; omega
            · have HG : Hid (isSign l[k].toNat = false) := sign_none (by omega) (by omega) (by omega)
              have q : ((l[k].toNat : Int) == 95) = false := by simp; omega
              have HI : Hid (isName l = false) := by show _ = _; unfold isName; rw [all_take_false (k := k + 1) (by rw [Hs.out, HG.out]; simp)]; simp
              go_wp2
              go_ret
              rw [HI.out]
              exact ⟨rfl, rfl⟩
          · by_cases a2 : 48 ≤ l[k].toNat
            · by_cases a3 : l[k].toNat ≤ 57
              · have HG : Hid (isSign l[k].toNat = true) := sign_digit a2 a3
                go_wp2
                go_roundg (l.length - (k + 1))
                case rel => exact ⟨k + 1, rfl, by omega, by go_num, rfl, by show _ = _; rw [Hs.out, hF.out, HG.out]; rfl⟩
                case measure => rw [Hgk.out]; omega
              · by_cases a4 : l[k].toNat = 95
                · have HG : Hid (isSign l[k].toNat = true) := sign_line a4
                  have q : ((l[k].toNat : Int) == 95) = true := by simp; omega
                  clear a4
                  go_wp2
                  go_roundg (l.length - (k + 1))
                  case rel => exact ⟨k + 1, rfl, by omega, by go_num, rfl, by show _ = _; rw [Hs.out, hF.out, HG.out]; rfl⟩
                  case measure => rw [Hgk.out]; omega
                · have HG : Hid (isSign l[k].toNat = false) := sign_none (by omega) (by omega) a4
                  have q : ((l[k].toNat : Int) == 95) = false := by simp; omega
                  clear a4
                  have HI : Hid (isName l = false) := by show _ = _; unfold isName; rw [all_take_false (k := k + 1) (by rw [Hs.out, HG.out]; simp)]; simp
                  go_wp2
                  go_ret
                  rw [HI.out]
                  exact ⟨rfl, rfl⟩
            · have HG : Hid (isSign l[k].toNat = false) := sign_none (by omega) (by omega) (by omega)
              have q : ((l[k].toNat : Int) == 95) = false := by simp; omega
              have HI : Hid (isName l = false) := by show _ = _; unfold isName; rw [all_take_false (k := k + 1) (by rw [Hs.out, HG.out]; simp)]; simp
              go_wp2
              go_ret
              rw [HI.out]
              exact ⟨rfl, rfl⟩
        · have HI : Hid (isName l = true) := by
            show _ = _
            have := hF.out
            rw [List.take_of_length_le (by omega)] at this
            unfold isName
            rw [this]
            simp
            omega
          clear hF
          go_wp2
          go_ret
          rw [HI.out]
          exact ⟨rfl, rfl⟩

set_option maxRecDepth 100000 in
set_option maxHeartbeats 1000000 in
theorem rname_any (l : List UInt8) (w : World) (hl : l.length ≤ 9223372036854775807) :
    Calls Try.prog 75 #[.string ⟨l.toArray⟩] w fun e w' => e = .returned (.bool (isName l)) ∧ w = w' := by
  cases hl0 : l with
  | nil =>
    subst hl0
    go_enter Try.func75, Try.ntmps75
    go_wp2
    go_ret
    exact ⟨rfl, rfl⟩
  | cons c0 r0 =>
    have hp : 1 ≤ l.length := by rw [hl0]; simp
    rw [← hl0]
    clear hl0
    by_cases h : 12 < l.length
    · have HI : Hid (isName l = false) := by show _ = _; unfold isName; simp; omega
      go_enter Try.func75, Try.ntmps75
      go_wp2
      go_ret
      rw [HI.out]
      exact ⟨rfl, rfl⟩
    · have dl : decide (12 < (l.length : Int)) = false := by simp; omega
      have dl1 : decide ((l.length : Int) < 1) = false := by simp; omega
      go_enter Try.func75, Try.ntmps75
      go_wp2
      go_loopg [3] l.length (fun g i wr => ∃ k : Nat, g = l.length - k ∧ k ≤ l.length ∧ i = .int .i64 k ∧ wr = w ∧ Hid (((l.take k).all fun c => isSign c.toNat) = true))
      case atStart => exact ⟨0, rfl, by omega, rfl, rfl, by show _ = _; simp⟩
      case round =>
        obtain ⟨k, hgk, hk, rfl, rfl, hF⟩ := hrel
        have Hgk := Lib.hid hgk
        clear hgk
        by_cases hlt : k < l.length
        · have hb := l[k].toNat_lt
          have Hs := Lib.hid (all_snoc_sign l k hlt)
          by_cases a1 : 97 ≤ l[k].toNat
          · by_cases a2 : l[k].toNat ≤ 122
            · have HG : Hid (isSign l[k].toNat = true) := sign_letter a1 a2
              go_wp2
              go_roundg (l.length - (k + 1))
              case rel => exact ⟨k + 1, rfl, by omega, by go_num, rfl, by show _ = _; rw [Hs.out, hF.out, HG.out]; rfl⟩
              case measure => rw [Hgk.out]; omega
            · have HG : Hid (isSign l[k].toNat = false) := sign_none (by omega) (by omega) (by omega)
              have q : ((l[k].toNat : Int) == 95) = false := by simp; omega
              have d1 : decide ((l[k].toNat : Int) ≤ 122) = false := by simp; omega
              have d2 : decide ((l[k].toNat : Int) ≤ 57) = false := by simp; omega
              have HI : Hid (isName l = false) := by show _ = _; unfold isName; rw [all_take_false (k := k + 1) (by rw [Hs.out, HG.out]; simp)]; simp
              go_wp2
              go_ret
              rw [HI.out]
              exact ⟨rfl, rfl⟩
          · by_cases a2 : 48 ≤ l[k].toNat
            · by_cases a3 : l[k].toNat ≤ 57
              · have HG : Hid (isSign l[k].toNat = true) := sign_digit a2 a3
                go_wp2
                go_roundg (l.length - (k + 1))
                case rel => exact ⟨k + 1, rfl, by omega, by go_num, rfl, by show _ = _; rw [Hs.out, hF.out, HG.out]; rfl⟩
                case measure => rw [Hgk.out]; omega
              · by_cases a4 : l[k].toNat = 95
                · have HG : Hid (isSign l[k].toNat = true) := sign_line a4
                  have q : ((l[k].toNat : Int) == 95) = true := by simp; omega
                  clear a4
                  go_wp2
                  go_roundg (l.length - (k + 1))
                  case rel => exact ⟨k + 1, rfl, by omega, by go_num, rfl, by show _ = _; rw [Hs.out, hF.out, HG.out]; rfl⟩
                  case measure => rw [Hgk.out]; omega
                · have HG : Hid (isSign l[k].toNat = false) := sign_none (by omega) (by omega) a4
                  have d2 : decide ((l[k].toNat : Int) ≤ 57) = false := by simp; omega
                  have q : ((l[k].toNat : Int) == 95) = false := by simp; omega
                  clear a4
                  have HI : Hid (isName l = false) := by show _ = _; unfold isName; rw [all_take_false (k := k + 1) (by rw [Hs.out, HG.out]; simp)]; simp
                  go_wp2
                  go_ret
                  rw [HI.out]
                  exact ⟨rfl, rfl⟩
            · have HG : Hid (isSign l[k].toNat = false) := sign_none (by omega) (by omega) (by omega)
              have q : ((l[k].toNat : Int) == 95) = false := by simp; omega
              have HI : Hid (isName l = false) := by show _ = _; unfold isName; rw [all_take_false (k := k + 1) (by rw [Hs.out, HG.out]; simp)]; simp
              go_wp2
              go_ret
              rw [HI.out]
              exact ⟨rfl, rfl⟩
        · have HI : Hid (isName l = true) := by
            show _ = _
            have := hF.out
            rw [List.take_of_length_le (by omega)] at this
            unfold isName
            rw [this]
            simp
            omega
          clear hF
          go_wp2
          go_ret
          rw [HI.out]
          exact ⟨rfl, rfl⟩

end Go.Proofs.Ytnjpoamebkehbaa
