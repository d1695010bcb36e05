/- The walk of the law FactOrder, at every input. -/
import Derived.Test.YtbociponcacmpaaFactOrderW
namespace Go.Proofs.Ytbociponcacmpaa
open Go.RowKit
set_option linter.unusedVariables false

set_option maxRecDepth 100000 in
set_option maxHeartbeats 1000000 in
theorem walk_factOrder (w : World) (x : Row Fct) (hx : x.ok w) (y : Row Fct) (hy : y.ok w) :
    Calls Try.prog 14 #[x.v, y.v] w fun e w' => e = .returned (.bool true) ∧ Bel w w' := by
  cases hF : fewF 60 x.l with
  | false =>
    have HF := Lib.hid hF
    have Hx := Lib.hid hx
    clear hF hx hy
    obtain ⟨A, n, c, l⟩ := x
    obtain ⟨B, m, d, q⟩ := y
    simp only [Row.v] at *
    go_enter Try.func14, Try.ntmps14
    go_wp2_with fail
    refine (few19_any ⟨A, n, c, l⟩ _ _ Hx.out (by omega) (by omega)).mono ?_; rintro e w1 ⟨rfl, rfl⟩
    rw [show Int.toNat 60 = 60 from rfl, HF.out]
    go_wp2_with fail
    refine (awake19_any _).mono ?_; rintro e w1 ⟨rfl, hb⟩
    go_wp2
    go_ret
    exact ⟨rfl, hb⟩
  | true =>
    cases hG : fewF 60 y.l with
    | true => exact factOrder_main x y w hx hy hF hG
    | false =>
      have HF := Lib.hid hF
      have HG := Lib.hid hG
      have Hx := Lib.hid hx
      have Hy := Lib.hid hy
      clear hF hG hx hy
      obtain ⟨A, n, c, l⟩ := x
      obtain ⟨B, m, d, q⟩ := y
      simp only [Row.v] at *
      go_enter Try.func14, Try.ntmps14
      go_wp2_with fail
      refine (few19_any ⟨A, n, c, l⟩ _ _ Hx.out (by omega) (by omega)).mono ?_; rintro e w1 ⟨rfl, rfl⟩
      rw [show Int.toNat 60 = 60 from rfl, HF.out]
      go_wp2_with fail
      refine (few19_any ⟨B, m, d, q⟩ _ _ Hy.out (by omega) (by omega)).mono ?_; rintro e w1 ⟨rfl, rfl⟩
      rw [show Int.toNat 60 = 60 from rfl, HG.out]
      go_wp2_with fail
      refine (awake19_any _).mono ?_; rintro e w1 ⟨rfl, hb⟩
      go_wp2
      go_ret
      exact ⟨rfl, hb⟩

end Go.Proofs.Ytbociponcacmpaa
