/- The walk of the law NumPuts. -/
import Derived.Test.YtbociponcacmpaaNumR
namespace Go.Proofs.Ytbociponcacmpaa
open Go.RowKit
set_option linter.unusedVariables false

theorem u64_bounds' {a : Int} (h : (Lit.int .u64 a).wf = true) : 0 ≤ a ∧ a < 18446744073709551616 := by
  have := bounds_u64 h
  omega

set_option maxRecDepth 100000 in
set_option maxHeartbeats 400000 in
theorem walk_numPuts (a : Int) (wa : (Lit.int .u64 a).wf = true) (i : Int) (wi : (Lit.int .i64 i).wf = true) (w : World) :
    Calls Try.prog 4 #[.int .u64 a, .int .i64 i] w fun e w' => e = .returned (.bool true) ∧ Bel w w' := by
  have A := Lib.hid (u64_bounds' wa)
  have I := Lib.hid (bounds_i64 wi)
  have F := Lib.hid (nfold_lt I.out.1 I.out.2)
  clear wa wi
  have hB := Bel.refl w
  go_enter Try.func4, Try.ntmps4
  go_wp2_with fail
  refine (put_any _ _ A.out.1 A.out.2).mono ?_; rintro e w1 ⟨rfl, hb⟩; replace hB := hB.trans hb; clear hb
  go_wp2_with fail
  refine (rput_any _ _ A.out.1 A.out.2).mono ?_; rintro e w2 ⟨rfl, hb⟩; replace hB := hB.trans hb; clear hb
  go_wp2_with fail
  refine (size_any _ _ A.out.1).mono ?_; rintro e w3 ⟨rfl, rfl⟩
  go_wp2_with fail
  refine (rsize_any _ _ A.out.1).mono ?_; rintro e w3 ⟨rfl, rfl⟩
  go_wp2_with fail
  refine (fold_any _ _ I.out.1 I.out.2).mono ?_; rintro e w3 ⟨rfl, rfl⟩
  go_wp2_with fail
  refine (rfold_any _ _ I.out.1 I.out.2).mono ?_; rintro e w3 ⟨rfl, rfl⟩
  go_wp2_with fail
  refine (unfold_any _ _ A.out.1 A.out.2).mono ?_; rintro e w3 ⟨rfl, rfl⟩
  go_wp2_with fail
  refine (runfold_any _ _ A.out.1 A.out.2).mono ?_; rintro e w3 ⟨rfl, rfl⟩
  go_wp2_with fail
  refine (putInt_any _ _ I.out.1 I.out.2).mono ?_; rintro e w4 ⟨rfl, hb⟩; replace hB := hB.trans hb; clear hb
  go_wp2_with fail
  refine (rfold_any _ _ I.out.1 I.out.2).mono ?_; rintro e w5 ⟨rfl, rfl⟩
  go_wp2_with fail
  refine (rput_any _ _ (by omega) (by have := F.out; omega)).mono ?_; rintro e w5 ⟨rfl, hb⟩; replace hB := hB.trans hb; clear hb
  rw [Int.toNat_natCast]
  go_wp2_with fail
  refine (awake01_any _).mono ?_; rintro e w6 ⟨rfl, hb⟩; replace hB := hB.trans hb; clear hb
  go_wp2
  go_ret
  exact ⟨rfl, hB⟩

end Go.Proofs.Ytbociponcacmpaa
