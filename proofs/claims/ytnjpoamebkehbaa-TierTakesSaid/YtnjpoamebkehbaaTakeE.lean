/- The document's reader, its end; the bytes that are put; the chapter's example. -/
import Derived.Test.YtnjpoamebkehbaaTakeC
import Derived.Test.YtnjpoamebkehbaaTakeD
import Derived.Test.YtnjpoamebkehbaaTermP
namespace Go.Proofs.Ytnjpoamebkehbaa
open Go.RowKit
set_option linter.unusedVariables false

set_option maxRecDepth 100000 in
theorem rwant_bad (s : List UInt8) (t k n : Int) (is : Bool) (hk : k ≠ 0) (w : World) :
    Calls Try.prog 98 #[scn s t k, .bool is, .int .i64 n] w fun e w' => e = .returned (scn s t k) ∧ Bel w w' := by
  have d : (k == 0) = false := by simpa using hk
  clear hk
  go_enter Try.func98, Try.ntmps98
  go_wp2
  refine bodyPost_ret (v := scn s t k) (by simp [results, Try.results98, go_sem]) rfl ⟨rfl, ?_⟩
  exact ((Bel.refl w).alloc _).alloc _
set_option maxRecDepth 100000 in
theorem rwant_yes (s : List UInt8) (t n : Int) (w : World) :
    Calls Try.prog 98 #[scn s t 0, .bool true, .int .i64 n] w fun e w' => e = .returned (scn s t 0) ∧ Bel w w' := by
  go_enter Try.func98, Try.ntmps98
  go_wp2
  refine bodyPost_ret (v := scn s t 0) (by simp [results, Try.results98, go_sem]) rfl ⟨rfl, ?_⟩
  exact ((Bel.refl w).alloc _).alloc _
set_option maxRecDepth 100000 in
theorem rwant_no (s : List UInt8) (t n : Int) (w : World) :
    Calls Try.prog 98 #[scn s t 0, .bool false, .int .i64 n] w fun e w' => e = .returned (scn s t (wantErr n)) ∧ Bel w w' := by
  by_cases hn : n = 0
  · subst hn
    go_enter Try.func98, Try.ntmps98
    go_wp2
    refine bodyPost_ret (v := scn s t 3) (by simp [results, Try.results98, go_sem]) rfl ⟨rfl, ?_⟩
    exact ((Bel.refl w).alloc _).alloc _
  · have HN : Hid (wantErr n = n) := by show _ = _; unfold wantErr; rw [if_neg hn]
    have d : (n == 0) = false := by simpa using hn
    clear hn
    go_enter Try.func98, Try.ntmps98
    go_wp2
    refine bodyPost_ret (v := scn s t n) (by simp [results, Try.results98, go_sem]) rfl ⟨by rw [HN.out], ?_⟩
    exact ((Bel.refl w).alloc _).alloc _

/-- How a scan ends: its error; or, if bytes are left, 3. -/
def endOf (s : List UInt8) (t k : Int) : Int := if k ≠ 0 then k else if t = s.length then 0 else 3

set_option maxRecDepth 100000 in
theorem rend_any (s : List UInt8) (t k : Int) (w : World) :
    Calls Try.prog 29 #[scn s t k] w fun e w' => e = .returned (.int .i64 (endOf s t k)) ∧ Bel w w' := by
  have hfl : ∀ (s : List UInt8) (t k : Int) (w : World), (Instr.field 47 (scn s t k) 2).run Try.prog w = .ok (.int .i64 k) w := fun _ _ _ _ => by kernel_rfl
  by_cases hk : k = 0
  · subst hk
    by_cases ht : t = s.length
    · subst ht
      have HE : Hid (endOf s s.length 0 = 0) := by show _ = _; unfold endOf; simp
      go_enter Try.func29, Try.ntmps29
      go_wp2_with fail
      refine (rwant_yes s _ _ _).mono ?_; rintro e w1 ⟨rfl, hb1⟩
      go_wp2
      go_ret
      exact ⟨by rw [HE.out]; rfl, ((Bel.refl w).alloc _).trans hb1⟩
    · have HE : Hid (endOf s t 0 = 3) := by show _ = _; unfold endOf; simp [ht]
      have d : (t == (s.length : Int)) = false := by simpa using ht
      clear ht
      go_enter Try.func29, Try.ntmps29
      go_wp2_with fail
      refine (rwant_no s _ _ _).mono ?_; rintro e w1 ⟨rfl, hb1⟩
      go_wp2
      go_ret
      exact ⟨by rw [HE.out]; rfl, ((Bel.refl w).alloc _).trans hb1⟩
  · have HE : Hid (endOf s t k = k) := by show _ = _; unfold endOf; simp [hk]
    have HK : Hid (k ≠ 0) := hk
    clear hk
    go_enter Try.func29, Try.ntmps29
    go_wp2_with fail
    refine (rwant_bad s _ _ _ _ HK.out _).mono ?_; rintro e w1 ⟨rfl, hb1⟩
    go_wp2
    go_ret
    exact ⟨by rw [HE.out]; rfl, ((Bel.refl w).alloc _).trans hb1⟩

theorem rputNum_any (x : Int) (w : World) (h0 : -9223372036854775808 ≤ x) (h1 : x ≤ 9223372036854775807) :
    Calls Try.prog 94 #[.int .i64 x] w fun e w' => e = .returned (.string ⟨(nput x.toNat).toArray⟩) ∧ Bel w w' := by
  by_cases h : x < 0
  · have e0 : Hid (x.toNat = 0) := by show _ = _; omega
    go_enter Try.func94, Try.ntmps94
    go_wp2_with fail
    refine (rput_any 0 _ (by omega) (by omega)).mono ?_; rintro e w1 ⟨rfl, hb1⟩
    go_wp2
    go_ret
    exact ⟨by rw [e0.out]; rfl, hb1⟩
  · have wx : IntKind.u64.wrap x = x := IntWalk.u64_in _ (by omega)
    have d : decide (x < 0) = false := by simp; omega
    go_enter Try.func94, Try.ntmps94
    go_wp2_with fail
    refine (rput_any x _ (by omega) (by omega)).mono ?_; rintro e w1 ⟨rfl, hb1⟩
    go_wp2
    go_ret
    exact ⟨rfl, hb1⟩
theorem rputInt_any (x : Int) (w : World) (h0 : -9223372036854775808 ≤ x) (h1 : x ≤ 9223372036854775807) :
    Calls Try.prog 120 #[.int .i64 x] w fun e w' => e = .returned (.string ⟨(nput (nfold x)).toArray⟩) ∧ Bel w w' := by
  have hf := nfold_lt h0 h1
  go_enter Try.func120, Try.ntmps120
  go_wp2_with fail
  refine (rfold_any x _ h0 h1).mono ?_; rintro e w1 ⟨rfl, rfl⟩
  go_wp2_with fail
  refine (rput_any (nfold x : Nat) _ (by omega) (by omega)).mono ?_; rintro e w1 ⟨rfl, hb1⟩
  rw [Int.toNat_natCast]
  go_wp2
  go_ret
  exact ⟨rfl, hb1⟩
theorem rputText_any (l : List UInt8) (w : World) (hl : l.length ≤ 1000000000) :
    Calls Try.prog 92 #[.string ⟨l.toArray⟩] w fun e w' => e = .returned (.string ⟨(ptext l).toArray⟩) ∧ Bel w w' := by
  have hpl : (nput l.length).length ≤ 9 := by rw [nput_length]; exact nsize_le _
  go_enter Try.func92, Try.ntmps92
  go_wp2_with fail
  refine (rputNum_any (l.length : Int) _ (by omega) (by omega)).mono ?_; rintro e w1 ⟨rfl, hb1⟩
  rw [Int.toNat_natCast]
  go_wp2
  go_ret
  rw [str_append]
  exact ⟨rfl, hb1⟩
theorem pputInt_any (x : Int) (w : World) (h0 : -9223372036854775808 ≤ x) (h1 : x ≤ 9223372036854775807) :
    Calls Try.prog 116 #[.int .i64 x] w fun e w' => e = .returned (.string ⟨(nput (nfold x)).toArray⟩) ∧ Bel w w' := by
  go_enter Try.func116, Try.ntmps116
  go_wp2_with fail
  refine (putInt_any x _ h0 h1).mono ?_; rintro e w1 ⟨rfl, hb1⟩
  go_wp2
  go_ret
  exact ⟨rfl, hb1⟩

end Go.Proofs.Ytnjpoamebkehbaa
