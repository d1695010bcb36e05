/- The walk of pitheadlaw06.fits. -/
import Derived.Test.YtbociponcacmpaaAggOrderP
import Derived.Test.YtbociponcacmpaaRow
namespace Go.Proofs.Ytbociponcacmpaa
open Go.RowKit
set_option linter.unusedVariables false

instance (l : List Int) : Decidable (FitC l) := by unfold FitC; infer_instance
def fitsB (l : List Int) : Bool := decide (FitC l)
theorem pos_snoc {l : List Int} {k : Nat} {z : Int} (h : l[k]? = some z) : posOf (l.take (k + 1)) = posOf (l.take k) + max z 0 ∧ negOf (l.take (k + 1)) = negOf (l.take k) + min z 0 := by
  rw [List.take_add_one, h]
  simp [posOf, negOf]
theorem fits_take {l : List Int} {k : Nat} (h : ¬ FitC (l.take k)) : fitsB l = false := by
  unfold fitsB
  rw [decide_eq_false_iff_not]
  intro hf
  rw [← List.take_append_drop k l] at hf
  exact h hf.left

set_option maxRecDepth 100000 in
set_option maxHeartbeats 1000000 in
theorem fits_any (A : Option Addr) (n c : Nat) (zs : List Int) (w : World) (hr : Rd w 1 A n (zs.map (Value.int .i64))) (hz : ∀ z ∈ zs, I64 z) (hn : n ≤ 1000000) :
    Calls Try.prog 31 #[.slice A n c] w fun e w' => e = .returned (.bool (fitsB zs)) ∧ w = w' := by
  have hlen : Hid (zs.length = n) := by have := hr.len; show _ = _; simpa using this
  have Hz := Lib.hid hz
  clear hz
  go_enter Try.func31, Try.ntmps31
  go_wp2
  go_loopg [3, 4, 9] n (fun g u d i wr => ∃ (k : Nat) (up down : Int), g = n - k ∧ k ≤ n ∧ i = .int .i64 k ∧ u = .int .i64 up ∧ d = .int .i64 down ∧ 0 ≤ up ∧ up ≤ 9223372036854775807 ∧ down ≤ 0 ∧ -9223372036854775808 ≤ down ∧ wr = w ∧ Hid (up = posOf (zs.take k) ∧ down = negOf (zs.take k)))
  case atStart => exact ⟨0, 0, 0, rfl, by omega, rfl, rfl, rfl, by omega, by omega, by omega, by omega, rfl, ⟨rfl, rfl⟩⟩
  case round =>
    obtain ⟨k, up, down, hgk, hk, rfl, rfl, rfl, u0, u1, d0, d1, rfl, hF⟩ := hrel
    have Hgk := Lib.hid hgk
    clear hgk
    by_cases hlt : k < n
    · obtain ⟨ad, z, rfl, hzk, hc⟩ := hr.int hlt
      have hzI := Hz.out z (List.mem_of_getElem? hzk)
      have HP := Lib.hid (pos_snoc hzk)
      clear hzk
      obtain ⟨z0, z1⟩ := hzI
      by_cases a1 : 0 < z
      · have b1 : decide (0 < z) = true := by simp; omega
        have b2 : decide (z < 0) = false := by simp; omega
        by_cases a2 : 9223372036854775807 - z < up
        · have HR : Hid (fitsB zs = false) := by
            show _ = _
            refine fits_take (k := k + 1) fun h => ?_
            have h1 := HP.out
            have h2 := hF.out
            have h3 := h.1
            omega
          clear hF HP
          go_wp2
          go_ret
          rw [HR.out]
          exact ⟨rfl, rfl⟩
        · have b3 : decide (9223372036854775807 - z < up) = false := by simp; omega
          have HR : Hid (up + z = posOf (zs.take (k + 1)) ∧ down = negOf (zs.take (k + 1))) := by
            have h1 := HP.out
            have h2 := hF.out
            show _ ∧ _
            omega
          clear hF HP
          go_wp2
          go_roundg (n - (k + 1))
          case rel => exact ⟨k + 1, up + z, down, rfl, by omega, by go_num, rfl, rfl, by omega, by omega, by omega, by omega, rfl, HR⟩
          case measure => rw [Hgk.out]; omega
      · have b1 : decide (0 < z) = false := by simp; omega
        by_cases a3 : z < 0
        · have b2 : decide (z < 0) = true := by simp; omega
          by_cases a2 : down < -9223372036854775808 - z
          · have HR : Hid (fitsB zs = false) := by
              show _ = _
              refine fits_take (k := k + 1) fun h => ?_
              have h1 := HP.out
              have h2 := hF.out
              have h3 := h.2
              omega
            clear hF HP
            go_wp2
            go_ret
            rw [HR.out]
            exact ⟨rfl, rfl⟩
          · have b3 : decide (down < -9223372036854775808 - z) = false := by simp; omega
            have HR : Hid (up = posOf (zs.take (k + 1)) ∧ down + z = negOf (zs.take (k + 1))) := by
              have h1 := HP.out
              have h2 := hF.out
              show _ ∧ _
              omega
            clear hF HP
            go_wp2
            go_roundg (n - (k + 1))
            case rel => exact ⟨k + 1, up, down + z, rfl, by omega, by go_num, rfl, rfl, by omega, by omega, by omega, by omega, rfl, HR⟩
            case measure => rw [Hgk.out]; omega
        · have b2 : decide (z < 0) = false := by simp; omega
          have HR : Hid (up = posOf (zs.take (k + 1)) ∧ down + z = negOf (zs.take (k + 1))) := by
            have h1 := HP.out
            have h2 := hF.out
            show _ ∧ _
            omega
          clear hF HP
          go_wp2
          go_roundg (n - (k + 1))
          case rel => exact ⟨k + 1, up, down + z, rfl, by omega, by go_num, rfl, rfl, by omega, by omega, by omega, by omega, rfl, HR⟩
          case measure => rw [Hgk.out]; omega
    · have HR : Hid (fitsB zs = true) := by
        show _ = _
        have h2 := hF.out
        rw [List.take_of_length_le (by have := hlen.out; omega)] at h2
        unfold fitsB
        rw [decide_eq_true_iff]
        unfold FitC
        omega
      clear hF
      go_wp2
      go_ret
      rw [HR.out]
      exact ⟨rfl, rfl⟩

end Go.Proofs.Ytbociponcacmpaa
