/- Walks of exact.Add and the document's Add. -/
import Derived.Test.YtnjpoamebkehbaaBase
namespace Go.Proofs.Ytnjpoamebkehbaa
open Go.RowKit
set_option linter.unusedVariables false

/-- A number of int64. -/
def I64 (x : Int) : Prop := -9223372036854775808 ≤ x ∧ x ≤ 9223372036854775807
instance (x : Int) : Decidable (I64 x) := by unfold I64; infer_instance
/-- A sum that fits, or that it does not. -/
def xfit (x : Int) : Int × Bool := if I64 x then (x, true) else (0, false)
theorem xfit_pos {x : Int} (h : I64 x) : xfit x = (x, true) := by rw [xfit, if_pos h]
theorem xfit_neg {x : Int} (h : ¬ I64 x) : xfit x = (0, false) := by rw [xfit, if_neg h]
def xadd (a b : Int) : Int × Bool := xfit (a + b)

set_option maxRecDepth 100000 in
set_option maxHeartbeats 1000000 in
theorem add_any (a b : Int) (w : World) (ha : I64 a) (hb : I64 b) :
    Calls Try.prog 154 #[.int .i64 a, .int .i64 b] w fun e w' => e = .returned (.tuple #[.int .i64 (xadd a b).1, .bool (xadd a b).2]) ∧ w = w' := by
  unfold I64 at ha hb
  obtain ⟨a0, a1⟩ := ha
  obtain ⟨b0, b1⟩ := hb
  by_cases h : I64 (a + b)
  · have HX : Hid (xadd a b = (a + b, true)) := xfit_pos h
    unfold I64 at h
    obtain ⟨h0, h1⟩ := h
    rcases Int.lt_trichotomy b 0 with hs | hs | hs
    · go_enter Try.func154, Try.ntmps154
      go_wp2
      go_ret2
      rw [HX.out]
      exact ⟨rfl, rfl⟩
    · subst hs
      go_enter Try.func154, Try.ntmps154
      go_wp2
      go_ret2
      rw [HX.out]
      exact ⟨by simp, rfl⟩
    · go_enter Try.func154, Try.ntmps154
      go_wp2
      go_ret2
      rw [HX.out]
      exact ⟨rfl, rfl⟩
  · have HX : Hid (xadd a b = (0, false)) := xfit_neg h
    unfold I64 at h
    rcases Int.lt_trichotomy b 0 with hs | hs | hs
    · have h' : a + b < -9223372036854775808 := by omega
      clear h
      go_enter Try.func154, Try.ntmps154
      go_wp2
      go_ret2
      rw [HX.out]
      exact ⟨rfl, rfl⟩
    · omega
    · have h' : 9223372036854775807 < a + b := by omega
      clear h
      go_enter Try.func154, Try.ntmps154
      go_wp2
      go_ret2
      rw [HX.out]
      exact ⟨rfl, rfl⟩

theorem tmodK_neg {n : Int} (h : n.tmod 4294967296 < 0) : n.tmod 4294967296 = n % 4294967296 - 4294967296 := by
  have e := Int.tmod_eq_emod (a := n) (b := 4294967296)
  split at e
  · omega
  · simp at e
    omega
theorem tmodK_pos {n : Int} (h : ¬ n.tmod 4294967296 < 0) : n.tmod 4294967296 = n % 4294967296 := by
  have e := Int.tmod_eq_emod (a := n) (b := 4294967296)
  split at e
  · omega
  · simp at e
    omega
theorem bigK {n : Int} (h0 : -9223372036854775808 ≤ n) (h1 : n ≤ 9223372036854775807) : wrap64 ((wrap64 (n - n % 4294967296)).tdiv 4294967296) = n / 4294967296 := by
  rw [IntWalk.wrap64_in (n - n % 4294967296) ⟨by omega, by omega⟩, show n - n % 4294967296 = 4294967296 * (n / 4294967296) by omega, Int.mul_tdiv_cancel_left _ (by omega), IntWalk.wrap64_in _ ⟨by omega, by omega⟩]

set_option maxRecDepth 100000 in
set_option maxHeartbeats 1000000 in
theorem big_any (n : Int) (w : World) (hn : I64 n) :
    Calls Try.prog 155 #[.int .i64 n] w fun e w' => e = .returned (.tuple #[.int .i64 (n / 4294967296), .int .i64 (n % 4294967296)]) ∧ w = w' := by
  unfold I64 at hn
  obtain ⟨a0, a1⟩ := hn
  by_cases h : n.tmod 4294967296 < 0
  · go_enter Try.func155, Try.ntmps155
    go_wp2
    go_ret2
    refine ⟨?_, rfl⟩
    show Ending.returned (.tuple #[.int .i64 (wrap64 ((wrap64 (n - wrap64 (n.tmod 4294967296 + 4294967296))).tdiv 4294967296)), .int .i64 (wrap64 (n.tmod 4294967296 + 4294967296))]) = _
    rw [tmodK_neg h, Int.sub_add_cancel, IntWalk.wrap64_in (n % 4294967296) ⟨by omega, by omega⟩, bigK a0 a1]
  · go_enter Try.func155, Try.ntmps155
    go_wp2
    go_ret2
    refine ⟨?_, rfl⟩
    show Ending.returned (.tuple #[.int .i64 (wrap64 ((wrap64 (n - n.tmod 4294967296)).tdiv 4294967296)), .int .i64 (n.tmod 4294967296)]) = _
    rw [tmodK_pos (by omega), bigK a0 a1]

set_option maxRecDepth 100000 in
set_option maxHeartbeats 1000000 in
theorem small_any (h l : Int) (w : World) (h0 : -4294967296 ≤ h) (h1 : h ≤ 4294967294) (l0 : 0 ≤ l) (l1 : l ≤ 8589934590) :
    Calls Try.prog 156 #[.int .i64 h, .int .i64 l] w fun e w' =>
      e = .returned (.tuple #[.int .i64 (xfit (h * 4294967296 + l)).1, .bool (xfit (h * 4294967296 + l)).2]) ∧ w = w' := by
  go_enter Try.func156, Try.ntmps156
  go_wp2
  go_loopg [0, 1] 1 (fun g x y wr => ∃ i j : Int, wr = w ∧ x = .int .i64 i ∧ y = .int .i64 j ∧ -4294967296 ≤ i ∧ i ≤ 4294967295 - (g : Int) ∧ 0 ≤ j ∧ j < 4294967296 + 4294967296 * (g : Int) ∧ g ≤ 1 ∧ Hid (i * 4294967296 + j = h * 4294967296 + l))
  case atStart => exact ⟨h, l, rfl, rfl, rfl, h0, by omega, l0, by omega, by omega, rfl⟩
  case round =>
    obtain ⟨i, j, rfl, rfl, rfl, i0, i1, j0, j1, hg, hE⟩ := hrel
    by_cases hge : 4294967296 ≤ j
    · have hg1 : 1 ≤ gk := by omega
      go_wp2
      go_roundg 0
      case rel => exact ⟨i + 1, j - 4294967296, rfl, rfl, rfl, by omega, by omega, by omega, by omega, by omega, by have := hE.out; show _ = _; omega⟩
      case measure => omega
    · have hj : j < 4294967296 := by omega
      have hi : i ≤ 4294967295 := by omega
      clear hge i1 j1
      go_wp2
      go_loopg [0, 1] 0 (fun g x y wx => wx = wr ∧ x = .int .i64 i ∧ y = .int .i64 j)
      case atStart => exact ⟨rfl, rfl, rfl⟩
      case round =>
        obtain ⟨rfl, rfl, rfl⟩ := hrel
        by_cases c1 : i < -2147483648
        · have HX : Hid (xfit (h * 4294967296 + l) = (0, false)) := xfit_neg (by unfold I64; have := hE.out; omega)
          clear hE
          go_wp2
          go_ret2
          rw [HX.out]
          exact ⟨rfl, rfl⟩
        · by_cases c2 : 2147483647 < i
          · have HX : Hid (xfit (h * 4294967296 + l) = (0, false)) := xfit_neg (by unfold I64; have := hE.out; omega)
            clear hE
            go_wp2
            go_ret2
            rw [HX.out]
            exact ⟨rfl, rfl⟩
          · have HX : Hid (xfit (h * 4294967296 + l) = (i * 4294967296 + j, true)) := by rw [← hE.out]; exact xfit_pos (by unfold I64; omega)
            go_wp2
            go_ret2
            rw [HX.out]
            exact ⟨rfl, rfl⟩

set_option maxRecDepth 100000 in
set_option maxHeartbeats 1000000 in
theorem radd_any (a b : Int) (w : World) (ha : I64 a) (hb : I64 b) :
    Calls Try.prog 132 #[.int .i64 a, .int .i64 b] w fun e w' => e = .returned (.tuple #[.int .i64 (xadd a b).1, .bool (xadd a b).2]) ∧ w = w' := by
  have HA := Lib.hid ha
  have HB := Lib.hid hb
  unfold I64 at ha hb
  have f1 : -2147483648 ≤ a / 4294967296 ∧ a / 4294967296 ≤ 2147483647 := by omega
  have f2 : -2147483648 ≤ b / 4294967296 ∧ b / 4294967296 ≤ 2147483647 := by omega
  have f3 : 0 ≤ a % 4294967296 ∧ a % 4294967296 ≤ 4294967295 := by omega
  have f4 : 0 ≤ b % 4294967296 ∧ b % 4294967296 ≤ 4294967295 := by omega
  have E : Hid ((a / 4294967296 + b / 4294967296) * 4294967296 + (a % 4294967296 + b % 4294967296) = a + b) := by show _ = _; omega
  clear ha hb
  obtain ⟨p, hp⟩ : ∃ p, Hid (a / 4294967296 = p) := ⟨_, rfl⟩
  obtain ⟨q, hq⟩ : ∃ q, Hid (b / 4294967296 = q) := ⟨_, rfl⟩
  obtain ⟨r, hr⟩ : ∃ r, Hid (a % 4294967296 = r) := ⟨_, rfl⟩
  obtain ⟨t, ht⟩ : ∃ t, Hid (b % 4294967296 = t) := ⟨_, rfl⟩
  rw [hp.out] at f1 E
  rw [hq.out] at f2 E
  rw [hr.out] at f3 E
  rw [ht.out] at f4 E
  obtain ⟨f1, f1'⟩ := f1
  obtain ⟨f2, f2'⟩ := f2
  obtain ⟨f3, f3'⟩ := f3
  obtain ⟨f4, f4'⟩ := f4
  go_enter Try.func132, Try.ntmps132
  go_wp2_with fail
  refine (big_any _ _ HA.out).mono ?_; rintro e w1 ⟨rfl, rfl⟩
  rw [hp.out, hr.out]
  go_wp2_with fail
  refine (big_any _ _ HB.out).mono ?_; rintro e w1 ⟨rfl, rfl⟩
  rw [hq.out, ht.out]
  go_wp2_with fail
  refine (small_any _ _ _ (by omega) (by omega) (by omega) (by omega)).mono ?_; rintro e w1 ⟨rfl, rfl⟩
  rw [E.out]
  obtain ⟨⟨z, ok⟩, Hz⟩ : ∃ z, Hid (xadd a b = z) := ⟨_, rfl⟩
  rw [show xfit (a + b) = (z, ok) from Hz.out]
  go_wp2
  go_ret2
  rw [Hz.out]
  exact ⟨rfl, rfl⟩

end Go.Proofs.Ytnjpoamebkehbaa
