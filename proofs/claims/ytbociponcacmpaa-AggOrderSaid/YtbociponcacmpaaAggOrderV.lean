/- The walk of the law AggOrder, at every input. -/
import Derived.Test.YtbociponcacmpaaAggOrderW
namespace Go.Proofs.Ytbociponcacmpaa
open Go.RowKit
set_option linter.unusedVariables false

set_option maxRecDepth 100000 in
set_option maxHeartbeats 1000000 in
theorem aggOrder_big (x : Row (Row Int)) (cut : Int) (turn : Bool) (w : World) (hx : x.n ≤ 9223372036854775807) (h : 60 < x.n ∨ cut < 0 ∨ (x.n : Int) < cut) :
    Calls Try.prog 6 #[x.v, .int .i64 cut, .bool turn] w fun e w' => e = .returned (.bool true) ∧ Bel w w' := by
  obtain ⟨A, n, c, rows⟩ := x
  simp only [Row.v] at *
  by_cases h1 : 60 < n
  · have d1 : decide (60 < (n : Int)) = true := by simp; omega
    clear h
    go_enter Try.func6, Try.ntmps6
    go_wp2_with fail
    refine (awake06_any _).mono ?_; rintro e w1 ⟨rfl, hb⟩
    go_wp2
    go_ret
    exact ⟨rfl, hb⟩
  · have d1 : decide (60 < (n : Int)) = false := by simp; omega
    by_cases h2 : cut < 0
    · have d2 : decide (cut < 0) = true := by simp; omega
      clear h
      go_enter Try.func6, Try.ntmps6
      go_wp2_with fail
      refine (awake06_any _).mono ?_; rintro e w1 ⟨rfl, hb⟩
      go_wp2
      go_ret
      exact ⟨rfl, hb⟩
    · have d2 : decide (cut < 0) = false := by simp; omega
      have h3 : (n : Int) < cut := by omega
      have d3 : decide ((n : Int) < cut) = true := by simp; omega
      clear h
      go_enter Try.func6, Try.ntmps6
      go_wp2_with fail
      refine (awake06_any _).mono ?_; rintro e w1 ⟨rfl, hb⟩
      go_wp2
      go_ret
      exact ⟨rfl, hb⟩

theorem walk_aggOrder (w : World) (x : Row (Row Int)) (hx : x.ok w) (cut : Int) (wc : (Lit.int .i64 cut).wf = true) (turn : Bool) :
    Calls Try.prog 6 #[x.v, .int .i64 cut, .bool turn] w fun e w' => e = .returned (.bool true) ∧ Bel w w' := by
  by_cases h : 60 < x.n ∨ cut < 0 ∨ (x.n : Int) < cut
  · exact aggOrder_big x cut turn w hx.size h
  · obtain ⟨k, rfl⟩ := Int.eq_ofNat_of_zero_le (show 0 ≤ cut by omega)
    exact aggOrder_main x k turn w hx (by omega) (by omega)

end Go.Proofs.Ytbociponcacmpaa
