/- The walk of the law NumTakes. -/
import Derived.Test.YtbociponcacmpaaNumRT
namespace Go.Proofs.Ytbociponcacmpaa
open Go.RowKit
set_option linter.unusedVariables false

set_option maxRecDepth 100000 in
set_option maxHeartbeats 400000 in
theorem walk_numTakes (s : ByteArray) (ws : s.size ≤ maxLen) (w : World) :
    Calls Try.prog 7 #[.string s] w fun e w' => e = .returned (.bool true) ∧ Bel w w' := by
  obtain ⟨⟨l⟩⟩ := s
  show Calls Try.prog 7 #[.string ⟨l.toArray⟩] w fun e w' => e = .returned (.bool true) ∧ Bel w w'
  have hl : l.length ≤ maxLen := ws
  unfold maxLen at hl
  clear ws
  have hB := Bel.refl w
  by_cases h : 1000 < l.length
  · go_enter Try.func7, Try.ntmps7
    go_wp2_with fail
    refine (awake01_any _).mono ?_; rintro e w6 ⟨rfl, hb⟩; replace hB := hB.trans hb; clear hb
    go_wp2
    go_ret
    exact ⟨rfl, hB⟩
  · have H := Lib.hid (ntake_lt l)
    go_enter Try.func7, Try.ntmps7
    go_wp2_with fail
    refine (take_any l _ (by omega)).mono ?_; rintro e w1 ⟨rfl, hb⟩; replace hB := hB.trans hb; clear hb
    go_wp2_with fail
    refine (rtake_any l _ (by omega)).mono ?_; rintro e w2 ⟨rfl, hb⟩; replace hB := hB.trans hb; clear hb
    go_wp2_with fail
    refine (takeInt_any l _ (by omega)).mono ?_; rintro e w3 ⟨rfl, hb⟩; replace hB := hB.trans hb; clear hb
    go_wp2_with fail
    refine (runfold_any _ _ (by omega) (by have := H.out; omega)).mono ?_; rintro e w4 ⟨rfl, rfl⟩
    rw [Int.toNat_natCast]
    go_wp2_with fail
    refine (awake01_any _).mono ?_; rintro e w6 ⟨rfl, hb⟩; replace hB := hB.trans hb; clear hb
    go_wp2
    go_ret
    exact ⟨rfl, hB⟩

set_option maxRecDepth 100000 in
set_option maxHeartbeats 400000 in
theorem walk_numBack (a : Int) (wa : (Lit.int .u64 a).wf = true) (i : Int) (wi : (Lit.int .i64 i).wf = true) (s : ByteArray) (ws : s.size ≤ maxLen) (w : World) :
    Calls Try.prog 9 #[.int .u64 a, .int .i64 i, .string s] w fun e w' => e = .returned (.bool true) ∧ Bel w w' := by
  obtain ⟨⟨l⟩⟩ := s
  show Calls Try.prog 9 #[.int .u64 a, .int .i64 i, .string ⟨l.toArray⟩] w fun e w' => e = .returned (.bool true) ∧ Bel w w'
  have hl : l.length ≤ maxLen := ws
  unfold maxLen at hl
  clear ws
  have hB := Bel.refl w
  by_cases h : 1000 < l.length
  · clear wa wi
    go_enter Try.func9, Try.ntmps9
    go_wp2_with fail
    refine (awake01_any _).mono ?_; rintro e w6 ⟨rfl, hb⟩; replace hB := hB.trans hb; clear hb
    go_wp2
    go_ret
    exact ⟨rfl, hB⟩
  · have b1 := bounds_u64 wa
    have b2 := bounds_i64 wi
    obtain ⟨n, rfl⟩ := Int.eq_ofNat_of_zero_le b1.1
    have A := Lib.hid b1
    have I := Lib.hid b2
    have F := Lib.hid (nfold_lt b2.1 b2.2)
    clear wa wi b1 b2
    have ln : Hid ((nput n ++ l).length ≤ 1000001) := by show _ ≤ _; rw [List.length_append, nput_length]; have := nsize_le n; omega
    have li : Hid ((nput (nfold i) ++ l).length ≤ 1000001) := by show _ ≤ _; rw [List.length_append, nput_length]; have := nsize_le (nfold i); omega
    have En := Lib.hid (ntake_nput (n := n) (by have := A.out; omega) l)
    have Ei := Lib.hid (ntake_nput (n := nfold i) F.out l)
    have l1 : (nput n).length ≤ 9 := by rw [nput_length]; exact nsize_le n
    have l2 : (nput (nfold i)).length ≤ 9 := by rw [nput_length]; exact nsize_le _
    go_enter Try.func9, Try.ntmps9
    go_wp2_with fail
    refine (put_any _ _ (by omega) (by have := A.out; omega)).mono ?_; rintro e w1 ⟨rfl, hb⟩; replace hB := hB.trans hb; clear hb
    rw [Int.toNat_natCast]
    go_wp2_with fail
    rw [str_append]
    refine (take_any _ _ ln.out).mono ?_; rintro e w2 ⟨rfl, hb⟩; replace hB := hB.trans hb; clear hb
    rw [En.out]
    go_wp2_with fail
    refine (putInt_any _ _ I.out.1 I.out.2).mono ?_; rintro e w3 ⟨rfl, hb⟩; replace hB := hB.trans hb; clear hb
    go_wp2_with fail
    rw [str_append]
    refine (takeInt_any _ _ li.out).mono ?_; rintro e w4 ⟨rfl, hb⟩; replace hB := hB.trans hb; clear hb
    rw [Ei.out, nunfold_nfold]
    go_wp2_with fail
    refine (size_any _ _ (by omega)).mono ?_; rintro e w5 ⟨rfl, rfl⟩
    rw [Int.toNat_natCast]
    go_wp2_with fail
    refine (putInt_any _ _ I.out.1 I.out.2).mono ?_; rintro e w5 ⟨rfl, hb⟩; replace hB := hB.trans hb; clear hb
    have l3 := nput_length (nfold i)
    go_wp2_with fail
    refine (fold_any _ _ I.out.1 I.out.2).mono ?_; rintro e w6 ⟨rfl, rfl⟩
    go_wp2_with fail
    refine (unfold_any _ _ (by omega) (by have := F.out; omega)).mono ?_; rintro e w6 ⟨rfl, rfl⟩
    rw [Int.toNat_natCast, nunfold_nfold]
    go_wp2_with fail
    refine (unfold_any _ _ (by omega) (by have := A.out; omega)).mono ?_; rintro e w6 ⟨rfl, rfl⟩
    rw [Int.toNat_natCast]
    have B := Lib.hid (nunfold_bounds (n := n) (by have := A.out; omega))
    go_wp2_with fail
    refine (fold_any _ _ B.out.1 B.out.2).mono ?_; rintro e w6 ⟨rfl, rfl⟩
    rw [nfold_nunfold]
    go_wp2_with fail
    refine (awake01_any _).mono ?_; rintro e w6 ⟨rfl, hb⟩; replace hB := hB.trans hb; clear hb
    go_wp2
    go_ret
    exact ⟨rfl, hB⟩

end Go.Proofs.Ytbociponcacmpaa
