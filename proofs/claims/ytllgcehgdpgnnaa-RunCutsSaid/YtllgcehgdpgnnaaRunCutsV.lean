/- The law RunCuts at every input. -/
import Derived.Test.YtllgcehgdpgnnaaRunCutsW
namespace Go.Proofs.Ytllgcehgdpgnnaa
open Go.RowKit
set_option linter.unusedVariables false

set_option maxRecDepth 100000 in
theorem runCuts_not (m : Int) (hm : m < 1) (x : Row Fct) (w : World) (hx : x.ok w) (hF : fewF 80 x.l = true) :
    Calls Try.prog 3 #[.int .i64 m, x.v] w fun e w' => e = .returned (.bool true) ∧ Bel w w' := by
  have Hx := Lib.hid hx
  have HF := Lib.hid hF
  clear hx hF
  obtain ⟨A, n, c, l⟩ := x
  simp only [Row.v] at *
  go_enter Try.func3, Try.ntmps3
  go_wp2_with fail
  refine (few19_any ⟨A, n, c, l⟩ _ _ Hx.out (by omega) (by omega)).mono ?_; rintro e w1 ⟨rfl, rfl⟩
  rw [show Int.toNat 80 = 80 from rfl, HF.out]
  go_wp2_with fail
  refine (cut_not m hm _ _).mono ?_; rintro e w1 ⟨rfl, hb⟩
  have Hb := Lib.hid hb
  clear hb
  go_wp2_with fail
  refine (runs_not m hm _ _).mono ?_; rintro e w2 ⟨rfl, hb⟩
  have Hb2 := Lib.hid hb
  clear hb
  have d : decide (m < 1) = true := by simp; omega
  go_wp2_with fail
  refine (awake21_any _).mono ?_; rintro e w7 ⟨rfl, hb7⟩
  go_wp2
  go_ret
  exact ⟨rfl, (Hb.out.trans Hb2.out).trans hb7⟩

theorem runCuts_small (m : Int) (x : Row Fct) (w : World) (hx : x.ok w) (hF : fewF 80 x.l = false) :
    Calls Try.prog 3 #[.int .i64 m, x.v] w fun e w' => e = .returned (.bool true) ∧ Bel w w' := by
  have Hx := Lib.hid hx
  have HF := Lib.hid hF
  clear hx hF
  obtain ⟨A, n, c, l⟩ := x
  simp only [Row.v] at *
  go_enter Try.func3, Try.ntmps3
  go_wp2_with fail
  refine (few19_any ⟨A, n, c, l⟩ _ _ Hx.out (by omega) (by omega)).mono ?_; rintro e w1 ⟨rfl, rfl⟩
  rw [show Int.toNat 80 = 80 from rfl, HF.out]
  go_wp2_with fail
  refine (awake21_any _).mono ?_; rintro e w7 ⟨rfl, hb7⟩
  go_wp2
  go_ret
  exact ⟨rfl, hb7⟩

theorem walk_runCuts (w : World) (m : Int) (wm : (Lit.int .i64 m).wf = true) (x : Row Fct) (hx : x.ok w) : Calls Try.prog 3 #[.int .i64 m, x.v] w fun e w' => e = .returned (.bool true) ∧ Bel w w' := by
  cases hF : fewF 80 x.l with
  | false => exact runCuts_small m x w hx hF
  | true =>
    by_cases h1 : m < 1
    · exact runCuts_not m h1 x w hx hF
    · obtain ⟨k, rfl⟩ := Int.eq_ofNat_of_zero_le (show 0 ≤ m by omega)
      have hb := bounds_i64 wm
      exact runCuts_main k (by omega) (by omega) x w hx hF
end Go.Proofs.Ytllgcehgdpgnnaa
