/- The walk of the law FactFinds, at every input. -/
import Derived.Test.YtbociponcacmpaaFactFindsW
namespace Go.Proofs.Ytbociponcacmpaa
open Go.RowKit
set_option linter.unusedVariables false

set_option maxRecDepth 100000 in
set_option maxHeartbeats 1000000 in
theorem walk_factFinds (w : World) (x : Row Fct) (hx : x.ok w) (k : Row Int) (hk : k.ok w) :
    Calls Try.prog 12 #[x.v, k.v] w fun e w' => e = .returned (.bool true) ∧ Bel w w' := by
  have hkn := hk.size
  cases hF : fewF 60 x.l with
  | false =>
    have HF := Lib.hid hF
    have Hx := Lib.hid hx
    clear hF hx hk
    obtain ⟨A, n, c, l⟩ := x
    obtain ⟨kA, kn, kc, kl⟩ := k
    simp only [Row.v] at *
    go_enter Try.func12, Try.ntmps12
    go_wp2_with fail
    refine (few19_any ⟨A, n, c, l⟩ _ _ Hx.out (by omega) (by omega)).mono ?_; rintro e w1 ⟨rfl, rfl⟩
    rw [show Int.toNat 60 = 60 from rfl, HF.out]
    go_wp2_with fail
    refine (awake19_any _).mono ?_; rintro e w1 ⟨rfl, hb⟩
    go_wp2
    go_ret
    exact ⟨rfl, hb⟩
  | true =>
    by_cases h100 : 100 < k.n
    · have HF := Lib.hid hF
      have Hx := Lib.hid hx
      clear hF hx hk
      obtain ⟨A, n, c, l⟩ := x
      obtain ⟨kA, kn, kc, kl⟩ := k
      simp only [Row.v] at *
      have d1 : decide (100 < (kn : Int)) = true := by simp; omega
      go_enter Try.func12, Try.ntmps12
      go_wp2_with fail
      refine (few19_any ⟨A, n, c, l⟩ _ _ Hx.out (by omega) (by omega)).mono ?_; rintro e w1 ⟨rfl, rfl⟩
      rw [show Int.toNat 60 = 60 from rfl, HF.out]
      go_wp2_with fail
      refine (awake19_any _).mono ?_; rintro e w1 ⟨rfl, hb⟩
      go_wp2
      go_ret
      exact ⟨rfl, hb⟩
    · cases hR : risesF x.l with
      | true => exact factFinds_main x k w hx hk hF (by omega) hR
      | false =>
        have hn : x.n ≤ 60 := by have := fewF_len hF; rw [hx.len] at this; exact this
        have HF := Lib.hid hF
        have HR := Lib.hid hR
        have Hx := Lib.hid hx
        clear hF hx hk hR
        obtain ⟨A, n, c, l⟩ := x
        obtain ⟨kA, kn, kc, kl⟩ := k
        simp only [Row.v] at *
        have d1 : decide (100 < (kn : Int)) = false := by simp; omega
        go_enter Try.func12, Try.ntmps12
        go_wp2_with fail
        refine (few19_any ⟨A, n, c, l⟩ _ _ Hx.out (by omega) (by omega)).mono ?_; rintro e w1 ⟨rfl, rfl⟩
        rw [show Int.toNat 60 = 60 from rfl, HF.out]
        go_wp2_with fail
        refine (rises_any ⟨A, n, c, l⟩ _ Hx.out (by simp only; omega)).mono ?_; rintro e w1 ⟨rfl, hb1⟩
        rw [HR.out]
        go_wp2_with fail
        refine (awake19_any _).mono ?_; rintro e w2 ⟨rfl, hb⟩
        go_wp2
        go_ret
        exact ⟨rfl, hb1.trans hb⟩

end Go.Proofs.Ytbociponcacmpaa
