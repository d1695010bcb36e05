/- The walk of the law NumOrder. -/
import Derived.Test.YtbociponcacmpaaNumW
import Derived.Test.YtbociponcacmpaaNumL
import Derived.OpenShut
namespace Go.Proofs.Ytbociponcacmpaa
open Go.RowKit
set_option linter.unusedVariables false

theorem u64_bounds {a : Int} (h : (Lit.int .u64 a).wf = true) : 0 ≤ a ∧ a < 18446744073709551616 := by
  have := bounds_u64 h
  omega

theorem order_begins {m n : Nat} (hm : m < 18446744073709551616) (hn : n < 18446744073709551616) (hl : (nput m).length ≤ (nput n).length) :
    ((ByteArray.extract ⟨(nput n).toArray⟩ 0 (min ((nput m).length : Int) ((nput n).length : Int)).toNat).toList == nput m) = ((m : Int) == (n : Int)) := by
  have e : (min ((nput m).length : Int) ((nput n).length : Int)).toNat = nsize m := by
    rw [Int.min_eq_left (by omega), Int.toNat_natCast, nput_length]
  have e2 : (ByteArray.extract ⟨(nput n).toArray⟩ 0 (nsize m)).toList = (nput n).take (nsize m) := by
    rw [ByteArray.toList_eq, Lib.extract_data]
    simp
  rw [e, e2, Bool.eq_iff_iff]
  simp only [beq_iff_eq]
  constructor
  · intro h
    rw [nput_length, nput_length] at hl
    rw [nput_begins hm hn hl h]
  · intro h
    have : m = n := by omega
    subst this
    rw [← nput_length, List.take_length]
theorem order_apart {m n : Nat} (hl : ¬ (nput m).length ≤ (nput n).length) : ((m : Int) == (n : Int)) = false := by
  have : m ≠ n := by rintro rfl; omega
  simp; omega

set_option maxHeartbeats 400000 in
theorem walk_numOrder (a : Int) (wa : (Lit.int .u64 a).wf = true) (b : Int) (wb : (Lit.int .u64 b).wf = true) (w : World) :
    Calls Try.prog 3 #[.int .u64 a, .int .u64 b] w fun e w' => e = .returned (.bool true) ∧ Bel w w' := by
  obtain ⟨a0, a1⟩ := u64_bounds wa
  obtain ⟨b0, b1⟩ := u64_bounds wb
  clear wa wb
  obtain ⟨m, rfl⟩ := Int.eq_ofNat_of_zero_le a0
  obtain ⟨n, rfl⟩ := Int.eq_ofNat_of_zero_le b0
  have H1 := Lib.hid (nput_less (a := m) (b := n) (by omega) (by omega))
  have H2 := Lib.hid (order_begins (m := m) (n := n) (by omega) (by omega))
  have H3 := Lib.hid (order_apart (m := m) (n := n))
  have hB := Bel.refl w
  go_enter Try.func3, Try.ntmps3
  have A1 := Lib.hid a1
  have B1 := Lib.hid b1
  clear a1 b1
  go_wp2_with fail
  refine (put_any _ _ (by omega) A1.out).mono ?_; rintro e w1 ⟨rfl, hb⟩; replace hB := hB.trans hb; clear hb
  go_wp2_with fail
  refine (put_any _ _ (by omega) B1.out).mono ?_; rintro e w2 ⟨rfl, hb⟩; replace hB := hB.trans hb; clear hb
  rw [Int.toNat_natCast]
  clear A1 B1
  generalize nput m = x at *
  generalize nput n = y at *
  have q1 := H1.out
  by_cases hl : x.length ≤ y.length
  · have q2 := H2.out hl
    clear H1 H2 H3
    go_wp2_with fail
    refine (awake01_any _).mono ?_; rintro e w3 ⟨rfl, hb⟩; replace hB := hB.trans hb; clear hb
    go_wp2
    go_ret
    exact ⟨rfl, hB⟩
  · have q2 := H3.out hl
    clear H1 H2 H3
    go_wp2_with fail
    refine (awake01_any _).mono ?_; rintro e w3 ⟨rfl, hb⟩; replace hB := hB.trans hb; clear hb
    go_wp2
    go_ret
    exact ⟨rfl, hB⟩

end Go.Proofs.Ytbociponcacmpaa
