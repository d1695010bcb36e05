/- Walks of package num: what its functions compute. -/
import Derived.Test.YtnjpoamebkehbaaBase
import Derived.Test.YtnjpoamebkehbaaNumP
import Derived.Outline
import Derived.Deep.RegionHeld3
import Derived.Deep.QuietTactic
import Derived.BigQuiet
import Derived.Lib.SlBytesRow
namespace Go.Proofs.Ytnjpoamebkehbaa
open Go.RowKit
set_option linter.unusedVariables false

theorem cast_div_zero {n k : Nat} (h : ((n : Int) / 2 ^ k == 0) = true) : n < 2 ^ k := by
  have h1 : (n : Int) / ((2 ^ k : Nat) : Int) = 0 := by simpa using h
  rw [← Int.natCast_ediv] at h1
  exact div_zero_iff.1 (by omega)
theorem cast_div_pos {n k : Nat} (h : ((n : Int) / 2 ^ k == 0) = false) : 2 ^ k ≤ n := by
  have h1 : ¬ (n : Int) / ((2 ^ k : Nat) : Int) = 0 := by simpa using h
  rw [← Int.natCast_ediv] at h1
  have h2 : ¬ n / 2 ^ k = 0 := by omega
  rw [div_zero_iff] at h2
  omega

set_option maxHeartbeats 400000 in
theorem size_any (x : Int) (w : World) (h0 : 0 ≤ x) :
    Calls Try.prog 157 #[.int .u64 x] w fun e w' => e = .returned (.int .i64 (nsize x.toNat : Nat)) ∧ w = w' := by
  obtain ⟨n, rfl⟩ := Int.eq_ofNat_of_zero_le h0
  rw [Int.toNat_natCast]
  clear h0
  go_enter Try.func157, Try.ntmps157
  go_wp2
  go_loop [3] (fun i => ∃ k : Nat, 1 ≤ k ∧ k ≤ 9 ∧ i = .int .i64 k ∧ Hid (k = 1 ∨ 2^(7*(k-1)) ≤ n)) (fun i => 9 - (intOf i).toNat)
  case atStart => exact ⟨1, by omega, by omega, rfl, Or.inl rfl⟩
  case round =>
    obtain ⟨k, hk1, hk2, rfl, hd⟩ := hrel
    by_cases hlt : k < 9
    · go_wp2
      · have h : ((n : Int) / 2 ^ (7 * k) == 0) = true := by assumption
        have := nsize_of hk1 (by omega) (cast_div_zero h) hd.out
        go_ret
        exact ⟨ret_int (by omega), rfl⟩
      · have h : ((n : Int) / 2 ^ (7 * k) == 0) = false := by assumption
        have := cast_div_pos h
        go_round
        case rel => exact ⟨k + 1, by omega, by omega, by go_num, Or.inr this⟩
        case measure => simp [intOf]; omega
    · have hk : k = 9 := by omega
      have hN : Hid (nsize n = 9) := nsize_nine (by rcases hd.out with h | h; omega; subst hk; exact h)
      clear hd hk
      go_wp2
      go_ret
      exact ⟨ret_int (by have := hN.out; omega), rfl⟩

theorem lead_eq (s : Nat) (h1 : 1 ≤ s) (h2 : s ≤ 9) : ((255 * 2 ^ (9 - s) % 256 : Int)) = (lead s : Nat) := by
  obtain rfl | rfl | rfl | rfl | rfl | rfl | rfl | rfl | rfl : s = 1 ∨ s = 2 ∨ s = 3 ∨ s = 4 ∨ s = 5 ∨ s = 6 ∨ s = 7 ∨ s = 8 ∨ s = 9 := by omega
  all_goals decide

set_option maxHeartbeats 400000 in
theorem first_any (x : Int) (w : World) (h1 : 1 ≤ x) (h2 : x ≤ 9) :
    Calls Try.prog 158 #[.int .i64 x] w fun e w' => e = .returned (.int .u8 (lead x.toNat : Nat)) ∧ w = w' := by
  obtain ⟨s, rfl⟩ := Int.eq_ofNat_of_zero_le (show 0 ≤ x by omega)
  rw [Int.toNat_natCast]
  go_enter Try.func158, Try.ntmps158
  go_wp2
  go_ret
  exact ⟨ret_int (lead_eq s (by omega) (by omega)), rfl⟩

/-- The nine bytes while the lowest ones, from place t on, are laid. -/
def putByte (s n t j : Nat) : Nat := if t ≤ j ∧ j < s then n / 256 ^ (s - 1 - j) % 256 else 0
def putCells (s n t : Nat) : Array Value := ((List.range 9).map fun j => Value.int .u8 (putByte s n t j : Nat)).toArray
theorem putCells_size (s n t : Nat) : (putCells s n t).size = 9 := by simp [putCells]
theorem putCells_get (s n t j : Nat) (h : j < 9) : (putCells s n t)[j]? = some (Value.int .u8 (putByte s n t j : Nat)) := by simp [putCells, h]
theorem putCells_start (s n : Nat) : putCells s n s = #[.int .u8 0, .int .u8 0, .int .u8 0, .int .u8 0, .int .u8 0, .int .u8 0, .int .u8 0, .int .u8 0, .int .u8 0] := by
  have h : ∀ j, putByte s n s j = 0 := fun j => by unfold putByte; rw [if_neg (by omega)]
  simp [putCells, h, List.range_succ]
theorem putCells_step (s n t : Nat) (h : t < s) (hs : s ≤ 9) : (putCells s n (t + 1)).setIfInBounds t (.int .u8 (n / 256 ^ (s - 1 - t) % 256 : Nat)) = putCells s n t := by
  apply Array.ext_getElem?
  intro j
  rw [Array.getElem?_setIfInBounds]
  by_cases hj : j < 9
  · rw [putCells_get _ _ _ _ hj, putCells_get _ _ _ _ hj, putCells_size]
    by_cases e : t = j
    · subst e
      rw [if_pos rfl, if_pos hj]
      unfold putByte
      rw [if_pos (by omega)]
    · rw [if_neg e]
      unfold putByte
      by_cases c : t ≤ j ∧ j < s
      · rw [if_pos (by omega), if_pos c]
      · rw [if_neg (by omega), if_neg c]
  · rw [if_neg (by omega), Array.getElem?_eq_none (by rw [putCells_size]; omega), Array.getElem?_eq_none (by rw [putCells_size]; omega)]

/-- The nine bytes at the end. -/
def finCells (n : Nat) : Array Value := ((List.range 9).map fun j => Value.int .u8 (((nput n).getD j 0).toNat : Nat)).toArray
theorem finCells_size (n : Nat) : (finCells n).size = 9 := by simp [finCells]
theorem finCells_get (n j : Nat) (h : j < 9) : (finCells n)[j]? = some (Value.int .u8 (((nput n).getD j 0).toNat : Nat)) := by simp [finCells, h]

theorem or_lead : ∀ s : Nat, s < 9 → 1 ≤ s → ∀ a : Nat, a < 2 ^ (8 - s) → bits .or .u8 (a : Int) (lead s : Nat) = ((lead s + a : Nat) : Int) := by decide +kernel

theorem put_first {n : Nat} (hn : n < 18446744073709551616) : putByte (nsize n) n 0 0 = n / 256 ^ (nsize n - 1) ∧ (nput n).getD 0 0 = UInt8.ofNat (lead (nsize n) + n / 256 ^ (nsize n - 1)) ∧ lead (nsize n) + n / 256 ^ (nsize n - 1) < 256 ∧ (nsize n < 9 → n / 256 ^ (nsize n - 1) < 2 ^ (8 - nsize n)) ∧ (nsize n = 9 → n / 256 ^ (nsize n - 1) = 0) := by
  have h1 := nsize_pos n
  have h2 := nsize_le n
  have ht : n / 256 ^ (nsize n - 1) < 2 ^ (8 - nsize n) ∨ (nsize n = 9 ∧ n / 256 ^ (nsize n - 1) = 0) := by
    rcases top_lt hn with h | h
    · by_cases h9 : nsize n = 9
      · rw [h9] at h; simp at h
      · left; rwa [show 9 - nsize n = 8 - nsize n + 1 by omega, Nat.pow_succ, Nat.mul_div_cancel _ (by omega)] at h
    · exact .inr h
  have hlt : lead (nsize n) + n / 256 ^ (nsize n - 1) < 256 := by
    unfold lead
    rcases ht with h | ⟨h, h'⟩
    · by_cases h9 : nsize n = 9
      · rw [h9] at h ⊢; simp at h ⊢; omega
      · have h3 : 2 ^ (9 - nsize n) = 2 ^ (8 - nsize n) * 2 := by rw [← Nat.pow_succ]; congr 1; omega
        have h4 : (2 : Nat) ^ (8 - nsize n) ≤ 2 ^ 7 := Nat.pow_le_pow_right (by omega) (by omega)
        simp only [Nat.reducePow] at h4
        omega
    · rw [h', h]; simp
  refine ⟨?_, rfl, hlt, ?_, ?_⟩
  · unfold putByte
    rw [if_pos (by omega), Nat.sub_zero]
    exact Nat.mod_eq_of_lt (by omega)
  · intro h
    rcases ht with h' | h'
    · exact h'
    · omega
  · intro h
    rcases ht with h' | h'
    · rw [h] at h' ⊢; simp at h'; exact Nat.div_eq_of_lt hn
    · exact h'.2

theorem putCells_fin {n : Nat} (hn : n < 18446744073709551616) : (putCells (nsize n) n 0).setIfInBounds 0 (.int .u8 (lead (nsize n) + n / 256 ^ (nsize n - 1) : Nat)) = finCells n := by
  have h1 := nsize_pos n
  have h2 := nsize_le n
  obtain ⟨_, e2, e3, _, _⟩ := put_first hn
  apply Array.ext_getElem?
  intro j
  rw [Array.getElem?_setIfInBounds]
  by_cases hj : j < 9
  · rw [putCells_get _ _ _ _ hj, finCells_get _ _ hj, putCells_size]
    by_cases e : 0 = j
    · subst e
      rw [if_pos rfl, if_pos hj, e2]
      simp [Nat.mod_eq_of_lt e3]
    · rw [if_neg e]
      unfold putByte
      by_cases c : j < nsize n
      · have := nput_getElem? n j hn c
        rw [if_pos (by omega), List.getD_eq_getElem?_getD, this]
        simp [show ¬ j = 0 by omega]
      · rw [if_neg (by omega), List.getD_eq_getElem?_getD, List.getElem?_eq_none (by rw [nput_length]; omega)]
        simp
  · rw [if_neg (by omega), Array.getElem?_eq_none (by rw [putCells_size]; omega), Array.getElem?_eq_none (by rw [finCells_size]; omega)]

theorem conv_fin (n : Nat) (w w' : World) (hw : ∀ i, w'.cell? ⟨w.heap.size, i, none⟩ = (finCells n)[i]?) (cap : Nat) (s : Nat) (hs : nsize n = s) :
    (convert 214 9 (.slice (some ⟨w.heap.size, 0, none⟩) s cap)).run Try.prog w' = .ok (.string ⟨(nput n).toArray⟩) w' := by
  have h2 := nsize_le n
  have hsz : (⟨(nput n).toArray⟩ : ByteArray).size = s := by simp [ByteArray.size, nput_length, hs]
  have h := Lib.run_convert_whole (P := Try.prog) w' 214 5 9 Try.underlying214 Try.underlying5 Try.underlying9 w.heap.size 0 ⟨(nput n).toArray⟩ (fun i hi => by
    have hi' : i < nsize n := by rw [hs, ← hsz]; exact hi
    rw [Nat.zero_add, hw, finCells_get _ _ (by omega)]
    have : (⟨(nput n).toArray⟩ : ByteArray)[i] = (nput n).getD i 0 := by
      simp [ByteArray.getElem_eq_getElem_data, List.getD_eq_getElem?_getD, List.getElem?_eq_getElem (show i < (nput n).length by rw [nput_length]; exact hi')]
    rw [this]) cap
  rw [hsz] at h
  exact h

theorem put_or {n : Nat} (hn : n < 18446744073709551616) (h9 : nsize n < 9) :
    (putCells (nsize n) n 0).setIfInBounds 0 (.int .u8 (bits .or .u8 (putByte (nsize n) n 0 0 : Nat) (lead (nsize n) : Nat))) = finCells n := by
  obtain ⟨e1, _, _, e4, _⟩ := put_first hn
  rw [e1, or_lead _ h9 (nsize_pos n) _ (e4 h9), putCells_fin hn]
theorem put_nine {n : Nat} (hn : n < 18446744073709551616) (h9 : nsize n = 9) :
    (putCells (nsize n) n 0).setIfInBounds 0 (.int .u8 (lead (nsize n) : Nat)) = finCells n := by
  obtain ⟨_, _, _, _, e5⟩ := put_first hn
  rw [← putCells_fin hn, e5 h9]
  rfl

theorem len9 : Try.prog.arrayLen 211 = 9 := by kernel_rfl
theorem slice9 (a : Addr) (s : Nat) (hs : s ≤ 9) (W : World) : (Instr.sliceAt 211 (.pointer (some a)) none (some (.int .i64 s)) none).run Try.prog W = .ok (.slice (some a) s 9) W := by
  have hz : ∀ w, (sizeOf (Try.prog.elem 211)).run Try.prog w = .ok 1 w := fun _ => by kernel_rfl
  rw [run_sliceAt_array_h W 211 a (by kernel_rfl) .i64 s (by omega) (by rw [len9]; omega), hz]
  simp [len9, slicedAt, Addr.add]

set_option maxRecDepth 100000 in
set_option maxHeartbeats 400000 in
theorem put_any (x : Int) (w : World) (h0 : 0 ≤ x) (hx : x < 18446744073709551616) :
    Calls Try.prog 134 #[.int .u64 x] w fun e w' => e = .returned (.string ⟨(nput x.toNat).toArray⟩) ∧ Bel w w' := by
  obtain ⟨n, rfl⟩ := Int.eq_ofNat_of_zero_le h0
  rw [Int.toNat_natCast]
  have hn : n < 18446744073709551616 := by omega
  clear h0 hx
  have hs1 := nsize_pos n
  have hs2 := nsize_le n
  have Hn := Lib.hid hn
  clear hn
  go_enter Try.func134, Try.ntmps134
  go_wp2_with (go_at_call 157; refine (size_any _ _ (by omega)).mono ?_; rintro e w' ⟨rfl, rfl⟩)
  rw [← putCells_start (nsize n) n]
  obtain ⟨s, Hs⟩ : ∃ s, Hid (nsize n = s) := ⟨_, rfl⟩
  rw [Hs.out] at hs1 hs2
  rw [Hs.out]
  go_loopw [0, 5] (fun m i wr => ∃ t : Nat, t ≤ s ∧ i = .int .i64 ((t : Int) - 1) ∧ m = .int .u64 (n / 256 ^ (s - t) : Nat) ∧ wr = w.alloc (.cells (putCells s n t) 211)) (fun _ i _ => (intOf i + 1).toNat)
  case atStart => exact ⟨s, by omega, rfl, by simp, rfl⟩
  case round =>
    obtain ⟨t, ht, rfl, rfl, rfl⟩ := hrel
    cases t with
    | succ t =>
      have hg := putCells_get s n (t + 1) t (by omega)
      go_wp2
      go_roundw
      case rel =>
        refine ⟨t, by omega, rfl, ?_, ?_⟩
        · rw [show s - t = s - (t + 1) + 1 by omega, Nat.pow_succ, ← Nat.div_div_eq_div_mul]
          simp
        · rw [← putCells_step s n t (by omega) hs2, show s - 1 - t = s - (t + 1) by omega]
          simp
      case measure => simp [intOf]
    | zero =>
      have hg := putCells_get s n 0 0 (by omega)
      by_cases h9 : s < 9
      · go_wp2
        go_region_with (go_at_call 158; refine (first_any _ _ (by omega) (by omega)).mono ?_; rintro e w' ⟨rfl, rfl⟩)
        all_goals
          have q1 := put_or Hn.out (by rw [Hs.out]; exact h9)
          have q3 := conv_fin n w (w.alloc (.cells (finCells n) 211)).drew (fun i => by simp) 9 s Hs.out
          rw [Hs.out] at q1
          rw [q1]
          clear q1
          have q4 := slice9 ⟨w.heap.size, 0, none⟩ s (by omega)
          go_wp2
          go_ret
          exact ⟨rfl, ((Bel.refl _).alloc _).drew⟩
      · obtain rfl : s = 9 := by omega
        have q1 := put_nine Hn.out Hs.out
        rw [Hs.out] at q1
        have q3 := conv_fin n w (w.alloc (.cells (finCells n) 211)) (fun i => by simp) 9 9 Hs.out
        clear h9
        go_wp2_with (go_at_call 158; refine (first_any _ _ (by omega) (by omega)).mono ?_; rintro e w' ⟨rfl, rfl⟩; simp only [show Int.toNat 9 = 9 from rfl])
        go_ret
        exact ⟨rfl, (Bel.refl _).alloc _⟩

theorem nput_127 : nput 127 = [127] := by decide
theorem nput_128 : nput 128 = [128, 128] := by decide
theorem nput_16384 : nput 16384 = [192, 64, 0] := by decide
theorem nsize_128 : nsize 128 = 2 := by decide

end Go.Proofs.Ytnjpoamebkehbaa
