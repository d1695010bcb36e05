/- Walks of the document's bound, lead, Size, Put. -/
import Derived.Test.YtnjpoamebkehbaaNumF
import Derived.Test.YtnjpoamebkehbaaNumL
namespace Go.Proofs.Ytnjpoamebkehbaa
open Go.RowKit
set_option linter.unusedVariables false

theorem pow2_le {i : Nat} (h : i ≤ 56) : (2 : Nat) ^ i ≤ 72057594037927936 := by
  have : (2 : Nat) ^ i ≤ 2 ^ 56 := Nat.pow_le_pow_right (by omega) h
  simpa using this

set_option maxHeartbeats 400000 in
theorem bound_any (x : Int) (w : World) (h0 : 0 ≤ x) (h1 : x ≤ 8) :
    Calls Try.prog 167 #[.int .i64 x] w fun e w' => e = .returned (.int .u64 ((2 ^ (7 * x.toNat) : Nat) : Int)) ∧ w = w' := by
  obtain ⟨s, rfl⟩ := Int.eq_ofNat_of_zero_le h0
  rw [Int.toNat_natCast]
  go_enter Try.func167, Try.ntmps167
  go_wp2
  go_loop [3, 4] (fun n i => ∃ k p : Nat, k ≤ 7 * s ∧ i = .int .i64 k ∧ n = .int .u64 p ∧ Hid (p = 2 ^ k)) (fun _ i => 7 * s - (intOf i).toNat)
  case atStart => exact ⟨0, 1, by omega, rfl, rfl, rfl⟩
  case round =>
    obtain ⟨k, p, hk, rfl, rfl, hp⟩ := hrel
    by_cases hlt : k < 7 * s
    · have hb : p ≤ 72057594037927936 := by rw [hp.out]; exact pow2_le (by omega)
      go_wp2
      go_round
      case rel => exact ⟨k + 1, p * 2, by omega, by go_num, by go_num, by show _ = _; rw [hp.out, Nat.pow_succ]⟩
      case measure => simp [intOf]; omega
    · have : k = 7 * s := by omega
      have hq : Hid (p = 2 ^ (7 * s)) := by rw [← this]; exact hp
      clear hp this
      go_wp2
      go_ret
      exact ⟨ret_int (by simp [hq.out]), rfl⟩

theorem lead_step : ∀ k : Nat, k < 9 → 1 ≤ k → lead k + 128 / 2 ^ (k - 1) = lead (k + 1) ∧ 128 / 2 ^ (k - 1) / 2 = 128 / 2 ^ k ∧ lead k ≤ 255 ∧ 128 / 2 ^ (k - 1) ≤ 128 := by decide

set_option maxHeartbeats 400000 in
theorem rlead_any (x : Int) (w : World) (h0 : 1 ≤ x) (h1 : x ≤ 9) :
    Calls Try.prog 160 #[.int .i64 x] w fun e w' => e = .returned (.int .i64 (lead x.toNat : Nat)) ∧ w = w' := by
  obtain ⟨s, rfl⟩ := Int.eq_ofNat_of_zero_le (show 0 ≤ x by omega)
  rw [Int.toNat_natCast]
  go_enter Try.func160, Try.ntmps160
  go_wp2
  go_loop [3, 4, 5] (fun n b i => ∃ k p q : Nat, 1 ≤ k ∧ k ≤ s ∧ i = .int .i64 k ∧ n = .int .i64 p ∧ b = .int .i64 q ∧ Hid (p = lead k ∧ q = 128 / 2 ^ (k - 1))) (fun _ _ i => s - (intOf i).toNat)
  case atStart => exact ⟨1, 0, 128, by omega, by omega, rfl, rfl, rfl, rfl, rfl⟩
  case round =>
    obtain ⟨k, p, q, hk1, hk, rfl, rfl, rfl, hp⟩ := hrel
    by_cases hlt : k < s
    · obtain ⟨s1, s2, s3, s4⟩ := lead_step k (by omega) hk1
      have b1 : p ≤ 255 := by rw [hp.out.1]; exact s3
      have b2 : q ≤ 128 := by rw [hp.out.2]; exact s4
      have S : Hid (p + q = lead (k + 1) ∧ q / 2 = 128 / 2 ^ k) := by rw [hp.out.1, hp.out.2]; exact ⟨s1, s2⟩
      clear s1 s2 s3 s4
      go_wp2
      go_round
      case rel => exact ⟨k + 1, p + q, q / 2, by omega, by omega, by go_num, by go_num, by go_num, S.out.1, S.out.2⟩
      case measure => simp [intOf]; omega
    · have : k = s := by omega
      have hq : Hid (p = lead s) := by rw [← this]; exact hp.out.1
      clear hp this
      go_wp2
      go_ret
      exact ⟨ret_int (by simp [hq.out]), rfl⟩

set_option maxHeartbeats 400000 in
theorem rsize_any (x : Int) (w : World) (h0 : 0 ≤ x) :
    Calls Try.prog 159 #[.int .u64 x] w fun e w' => e = .returned (.int .i64 (nsize x.toNat : Nat)) ∧ w = w' := by
  obtain ⟨n, rfl⟩ := Int.eq_ofNat_of_zero_le h0
  rw [Int.toNat_natCast]
  clear h0
  go_enter Try.func159, Try.ntmps159
  go_wp2
  go_loop [3] (fun i => ∃ k : Nat, 1 ≤ k ∧ k ≤ 9 ∧ i = .int .i64 k ∧ Hid (k = 1 ∨ 2^(7*(k-1)) ≤ n)) (fun i => 9 - (intOf i).toNat)
  case atStart => exact ⟨1, by omega, by omega, rfl, Or.inl rfl⟩
  case round =>
    obtain ⟨k, hk1, hk2, rfl, hd⟩ := hrel
    by_cases hlt : k < 9
    · obtain ⟨p, hp⟩ : ∃ p : Nat, Hid (2 ^ (7 * k) = p) := ⟨_, rfl⟩
      by_cases hc : p ≤ n
      · go_wp2_with (go_at_call 167; refine (bound_any _ _ (by omega) (by omega)).mono ?_; rintro e w' ⟨rfl, rfl⟩; rw [Int.toNat_natCast, hp.out])
        go_round
        case rel => exact ⟨k + 1, by omega, by omega, by go_num, Or.inr (by rw [Nat.add_sub_cancel, hp.out]; exact hc)⟩
        case measure => simp [intOf]; omega
      · have hN : Hid (nsize n = k) := nsize_of hk1 (by omega) (by rw [hp.out]; omega) hd.out
        go_wp2_with (go_at_call 167; refine (bound_any _ _ (by omega) (by omega)).mono ?_; rintro e w' ⟨rfl, rfl⟩; rw [Int.toNat_natCast, hp.out])
        go_ret
        exact ⟨ret_int (by have := hN.out; omega), rfl⟩
    · have hk : k = 9 := by omega
      have hN : Hid (nsize n = 9) := nsize_nine (by rcases hd.out with h | h; omega; subst hk; exact h)
      clear hd hk
      go_wp2
      go_ret
      exact ⟨ret_int (by have := hN.out; omega), rfl⟩

theorem be_cons (k n : Nat) : be (k + 1) n = UInt8.ofNat (n / 256 ^ k % 256) :: be k n := by
  apply List.ext_getElem?
  intro j
  by_cases hj : j < k + 1
  · rw [be_getElem? _ _ _ hj]
    cases j with
    | zero => simp
    | succ j => rw [List.getElem?_cons_succ, be_getElem? _ _ _ (by omega)]; simp; congr 4; omega
  · rw [List.getElem?_eq_none (by rw [be_length]; omega), List.getElem?_eq_none (by simp [be_length]; omega)]

/-- A new slice of one byte as a string. -/
theorem conv1 (x : Int) (h0 : 0 ≤ x) (h1 : x < 256) (W : World) :
    (convert 214 9 (.slice (some ⟨W.heap.size, 0, none⟩) 1 1)).run Try.prog (W.alloc (.cells #[.int .u8 x] 5)) = .ok (.string ⟨[UInt8.ofNat x.toNat].toArray⟩) (W.alloc (.cells #[.int .u8 x] 5)) := by
  exact Lib.run_convert_whole (P := Try.prog) _ 214 5 9 Try.underlying214 Try.underlying5 Try.underlying9 W.heap.size 0 ⟨[UInt8.ofNat x.toNat].toArray⟩ (fun i hi => by
    have hi' : i = 0 := by
      have : i < 1 := hi
      omega
    subst hi'
    have : (⟨[UInt8.ofNat x.toNat].toArray⟩ : ByteArray)[0] = UInt8.ofNat x.toNat := rfl
    rw [this]
    have e : ((UInt8.ofNat x.toNat).toNat : Int) = x := by
      rw [UInt8.toNat_ofNat']
      omega
    rw [e]
    simp) 1

theorem nput_eq (n s : Nat) (h : nsize n = s) (c : Nat) (hc : c = lead s + n / 256 ^ (s - 1)) (l : List UInt8) (hl : l = be (s - 1) n) : UInt8.ofNat c :: l = nput n := by
  subst h hc hl
  rfl

theorem rput_top {n : Nat} (hn : n < 18446744073709551616) : n / 256 ^ (nsize n - 1) ≤ 255 ∧ lead (nsize n) + n / 256 ^ (nsize n - 1) < 256 := by
  obtain ⟨_, _, e3, _, _⟩ := put_first hn
  omega

set_option maxRecDepth 100000 in
set_option maxHeartbeats 400000 in
theorem rput_any (x : Int) (w : World) (h0 : 0 ≤ x) (hx : x < 18446744073709551616) :
    Calls Try.prog 138 #[.int .u64 x] w fun e w' => e = .returned (.string ⟨(nput x.toNat).toArray⟩) ∧ Bel w w' := by
  obtain ⟨n, rfl⟩ := Int.eq_ofNat_of_zero_le h0
  rw [Int.toNat_natCast]
  have hn : n < 18446744073709551616 := by omega
  clear h0 hx
  have hs1 := nsize_pos n
  have hs2 := nsize_le n
  have Hn := Lib.hid hn
  clear hn
  go_enter Try.func138, Try.ntmps138
  go_wp2_with (go_at_call 159; refine (rsize_any _ _ (by omega)).mono ?_; rintro e w' ⟨rfl, rfl⟩)
  obtain ⟨s, Hs⟩ : ∃ s, Hid (nsize n = s) := ⟨_, rfl⟩
  rw [Hs.out] at hs1 hs2
  rw [Hs.out]
  go_loopw [0, 4, 5] (fun m o i wr => ∃ (t p : Nat) (l : List UInt8), 1 ≤ t ∧ t ≤ s ∧ i = .int .i64 t ∧ m = .int .u64 p ∧ o = .string ⟨l.toArray⟩ ∧ Bel w wr ∧ Hid (p = n / 256 ^ (t - 1) ∧ l = be (t - 1) n)) (fun _ _ i _ => s - (intOf i).toNat)
  case atStart => exact ⟨1, n, [], by omega, by omega, rfl, rfl, rfl, Bel.refl _, by simp, rfl⟩
  case round =>
    obtain ⟨t, p, l, ht1, ht, rfl, rfl, rfl, hB, hp⟩ := hrel
    by_cases hlt : t < s
    · have c1 := conv1 ((p : Int) % 256) (by omega) (by omega)
      have hl : l.length ≤ 9 := by rw [hp.out.2, be_length]; omega
      have hpn : p ≤ 18446744073709551615 := by
        have h1 := Hn.out
        have h2 : p ≤ n := by rw [hp.out.1]; exact Nat.div_le_self _ _
        omega
      go_wp2
      go_roundw
      case rel =>
        refine ⟨t + 1, p / 256, UInt8.ofNat (p % 256) :: l, by omega, by omega, by go_num, by go_num, ?_, hB.alloc _, ?_, ?_⟩
        · rw [str_cons]
        · rw [hp.out.1, Nat.div_div_eq_div_mul, ← Nat.pow_succ, show (t - 1).succ = t + 1 - 1 by omega]
        · rw [hp.out.1, hp.out.2, show t + 1 - 1 = t - 1 + 1 by omega, be_cons]
      case measure => simp [intOf]; omega
    · have hts : t = s := by omega
      have Hp : Hid (p = n / 256 ^ (s - 1) ∧ l = be (s - 1) n) := by rw [← hts]; exact hp
      have htop : p ≤ 255 ∧ lead s + p < 256 := by rw [Hp.out.1, ← Hs.out]; exact rput_top Hn.out
      have hl : l.length ≤ 9 := by rw [Hp.out.2, be_length]; omega
      clear hp hts
      obtain ⟨b1, b2⟩ := htop
      obtain ⟨q, Hq⟩ : ∃ q : Nat, Hid (lead s = q) := ⟨_, rfl⟩
      rw [Hq.out] at b2
      have c1 := conv1 ((q : Int) + p) (by omega) (by omega)
      go_wp2_with (go_at_call 160; refine (rlead_any _ _ (by omega) (by omega)).mono ?_; rintro e w' ⟨rfl, rfl⟩; rw [Int.toNat_natCast, Hq.out])
      go_ret
      have hfin := nput_eq n s Hs.out (q + p) (by rw [Hq.out, ← Hp.out.1]) l Hp.out.2
      rw [← hfin]
      refine ⟨?_, hB.alloc _⟩
      show Ending.returned (.string _) = _
      rw [str_cons, UInt8.ofNat_add]

end Go.Proofs.Ytnjpoamebkehbaa
