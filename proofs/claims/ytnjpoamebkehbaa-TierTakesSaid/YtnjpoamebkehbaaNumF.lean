/- Walks of Fold, Unfold (the program's and the document's), PutInt. -/
import Derived.Test.YtnjpoamebkehbaaNumW
import Derived.OpenShut
import Derived.Laws.BitsAllLaws
import Derived.Laws.Bits64
namespace Go.Proofs.Ytnjpoamebkehbaa
open Go.RowKit
set_option linter.unusedVariables false

/-- Numbers with a sign beside one another. -/
def nfold (i : Int) : Nat := if i < 0 then (2 * (-i - 1) + 1).toNat else (2 * i).toNat
/-- It leads back. -/
def nunfold (n : Nat) : Int := if n % 2 = 1 then -((n / 2 : Nat) : Int) - 1 else ((n / 2 : Nat) : Int)

theorem nunfold_nfold (i : Int) : nunfold (nfold i) = i := by
  unfold nfold nunfold
  by_cases h : i < 0
  · rw [if_pos h, if_pos (by omega)]; omega
  · rw [if_neg h, if_neg (by omega)]; omega
theorem nfold_nunfold (n : Nat) : nfold (nunfold n) = n := by
  unfold nfold nunfold
  by_cases h : n % 2 = 1
  · rw [if_pos h, if_pos (by omega)]; omega
  · rw [if_neg h, if_neg (by omega)]; omega
theorem nfold_lt {i : Int} (h0 : -9223372036854775808 ≤ i) (h1 : i ≤ 9223372036854775807) : nfold i < 18446744073709551616 := by
  unfold nfold
  by_cases h : i < 0
  · rw [if_pos h]; omega
  · rw [if_neg h]; omega
theorem nunfold_bounds {n : Nat} (h : n < 18446744073709551616) : -9223372036854775808 ≤ nunfold n ∧ nunfold n ≤ 9223372036854775807 := by
  unfold nunfold
  by_cases h : n % 2 = 1
  · rw [if_pos h]; omega
  · rw [if_neg h]; omega

theorem xor_m1 (x : Int) (h0 : -9223372036854775808 ≤ x) (h1 : x ≤ 9223372036854775807) : bits .xor .i64 (-1) x = -x - 1 := by
  show IntKind.i64.wrap ((BitVec.ofInt 64 (-1) ^^^ BitVec.ofInt 64 x).toNat : Int) = _
  rw [show BitVec.ofInt 64 (-1) = BitVec.allOnes 64 from rfl, BitVec.allOnes_xor, BitVec.toNat_not, BitVec.toNat_ofInt, IntKind.wrap_i64]
  simp only [Nat.reducePow]
  omega
theorem or_one_u64 (a : Int) (h0 : 0 ≤ a) (h1 : a * 2 < 18446744073709551616) : bits .or .u64 (a * 2) 1 = a * 2 + 1 := by
  obtain ⟨n, rfl⟩ := Int.eq_ofNat_of_zero_le h0
  have h := u64_or_nat (n * 2) 1 (by omega) (by omega)
  rw [Nat.or_comm, nat_join1' (n * 2) 1 (by omega) (by omega)] at h
  have e : ((n * 2 : Nat) : Int) = (n : Int) * 2 := by omega
  have e1 : ((1 : Nat) : Int) = 1 := rfl
  rw [e, e1] at h
  rw [h]
  omega

set_option maxHeartbeats 400000 in
theorem fold_any (x : Int) (w : World) (h0 : -9223372036854775808 ≤ x) (h1 : x ≤ 9223372036854775807) :
    Calls Try.prog 164 #[.int .i64 x] w fun e w' => e = .returned (.int .u64 (nfold x : Nat)) ∧ w = w' := by
  by_cases h : x < 0
  · have q1 := xor_m1 x h0 h1
    have q3 : Hid (bits BinOp.or IntKind.u64 (IntKind.u64.wrap (IntKind.u64.wrap (-x - 1) * 2)) 1 = (nfold x : Int)) := by
      show _ = _
      rw [IntKind.wrap_u64, IntKind.wrap_u64, Int.emod_eq_of_lt (by omega) (by omega), Int.emod_eq_of_lt (by omega) (by omega), or_one_u64 (-x - 1) (by omega) (by omega)]
      unfold nfold; rw [if_pos h]; omega
    have b1 : 0 ≤ -x - 1 := by omega
    have b2 : -x - 1 ≤ 9223372036854775807 := by omega
    go_enter Try.func164, Try.ntmps164
    go_wp2
    go_ret
    exact ⟨ret_int q3.out, rfl⟩
  · have q3 : Hid ((nfold x : Int) = x * 2) := by show _ = _; unfold nfold; rw [if_neg h]; omega
    go_enter Try.func164, Try.ntmps164
    go_wp2
    go_ret
    exact ⟨ret_int q3.out.symm, rfl⟩

set_option maxHeartbeats 400000 in
theorem rfold_any (x : Int) (w : World) (h0 : -9223372036854775808 ≤ x) (h1 : x ≤ 9223372036854775807) :
    Calls Try.prog 147 #[.int .i64 x] w fun e w' => e = .returned (.int .u64 (nfold x : Nat)) ∧ w = w' := by
  by_cases h : x < 0
  · have q3 : Hid ((nfold x : Int) = 2 * (-(x + 1)) + 1) := by show _ = _; unfold nfold; rw [if_pos h]; omega
    go_enter Try.func147, Try.ntmps147
    go_wp2
    go_ret
    exact ⟨ret_int q3.out.symm, rfl⟩
  · have q3 : Hid ((nfold x : Int) = 2 * x) := by show _ = _; unfold nfold; rw [if_neg h]; omega
    go_enter Try.func147, Try.ntmps147
    go_wp2
    go_ret
    exact ⟨ret_int q3.out.symm, rfl⟩

set_option maxHeartbeats 400000 in
theorem unfold_any (x : Int) (w : World) (h0 : 0 ≤ x) (h1 : x < 18446744073709551616) :
    Calls Try.prog 163 #[.int .u64 x] w fun e w' => e = .returned (.int .i64 (nunfold x.toNat)) ∧ w = w' := by
  obtain ⟨n, rfl⟩ := Int.eq_ofNat_of_zero_le h0
  rw [Int.toNat_natCast]
  have b1 : (0 : Int) ≤ (n : Int) / 2 := by omega
  have b2 : (n : Int) / 2 ≤ 9223372036854775807 := by omega
  have q1 := xor_m1 ((n : Int) / 2) (by omega) (by omega)
  by_cases h : n % 2 = 1
  · have q2 : (bits BinOp.and IntKind.u64 (n : Int) 1 == 1) = true := by rw [and_one_u64 _ (by omega) (by omega)]; simp; omega
    have q3 : Hid (nunfold n = -((n : Int) / 2) - 1) := by show _ = _; unfold nunfold; rw [if_pos h]; omega
    clear h0 h1 h
    go_enter Try.func163, Try.ntmps163
    go_wp2
    go_ret
    exact ⟨ret_int q3.out.symm, rfl⟩
  · have q2 : (bits BinOp.and IntKind.u64 (n : Int) 1 == 1) = false := by rw [and_one_u64 _ (by omega) (by omega)]; simp; omega
    have q3 : Hid (nunfold n = (n : Int) / 2) := by show _ = _; unfold nunfold; rw [if_neg h]; omega
    clear h0 h1 h
    go_enter Try.func163, Try.ntmps163
    go_wp2
    go_ret
    exact ⟨ret_int q3.out.symm, rfl⟩

set_option maxHeartbeats 400000 in
theorem runfold_any (x : Int) (w : World) (h0 : 0 ≤ x) (h1 : x < 18446744073709551616) :
    Calls Try.prog 143 #[.int .u64 x] w fun e w' => e = .returned (.int .i64 (nunfold x.toNat)) ∧ w = w' := by
  obtain ⟨n, rfl⟩ := Int.eq_ofNat_of_zero_le h0
  rw [Int.toNat_natCast]
  have b1 : (0 : Int) ≤ (n : Int) / 2 := by omega
  have b2 : (n : Int) / 2 ≤ 9223372036854775807 := by omega
  by_cases h : n % 2 = 1
  · have q2 : ((n : Int) % 2 == 0) = false := by simp; omega
    have q3 : Hid (nunfold n = -((n : Int) / 2) - 1) := by show _ = _; unfold nunfold; rw [if_pos h]; omega
    clear h0 h1 h
    go_enter Try.func143, Try.ntmps143
    go_wp2
    go_ret
    exact ⟨ret_int q3.out.symm, rfl⟩
  · have q2 : ((n : Int) % 2 == 0) = true := by simp; omega
    have q3 : Hid (nunfold n = (n : Int) / 2) := by show _ = _; unfold nunfold; rw [if_neg h]; omega
    clear h0 h1 h
    go_enter Try.func143, Try.ntmps143
    go_wp2
    go_ret
    exact ⟨ret_int q3.out.symm, rfl⟩

set_option maxHeartbeats 400000 in
theorem putInt_any (x : Int) (w : World) (h0 : -9223372036854775808 ≤ x) (h1 : x ≤ 9223372036854775807) :
    Calls Try.prog 144 #[.int .i64 x] w fun e w' => e = .returned (.string ⟨(nput (nfold x)).toArray⟩) ∧ Bel w w' := by
  have hf := nfold_lt h0 h1
  go_enter Try.func144, Try.ntmps144
  go_wp2_with fail
  refine (fold_any _ _ h0 h1).mono ?_; rintro e w1 ⟨rfl, rfl⟩
  have Hf := Lib.hid hf
  clear h0 h1 hf
  go_wp2_with fail
  refine (put_any _ _ (by omega) (by have := Hf.out; omega)).mono ?_; rintro e w2 ⟨rfl, hb⟩
  rw [Int.toNat_natCast]
  go_wp2
  go_ret
  exact ⟨rfl, hb⟩

end Go.Proofs.Ytnjpoamebkehbaa
