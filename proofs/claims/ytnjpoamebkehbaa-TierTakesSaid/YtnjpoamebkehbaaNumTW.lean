/- Walks of num.ones, num.Take, num.TakeInt. -/
import Derived.Test.YtnjpoamebkehbaaNumT
import Derived.Test.YtnjpoamebkehbaaNumF
import Derived.Laws.BitsAllLaws
namespace Go.Proofs.Ytnjpoamebkehbaa
open Go.RowKit
set_option linter.unusedVariables false

attribute [local go_sem] str_at

theorem ones_step : ∀ b : Nat, b < 256 → (if bits BinOp.and IntKind.u8 (b : Int) 128 = 0 then fsize b = 1 else fsize b = 1 + fsize (b * 2 % 256)) := by decide +kernel

set_option maxRecDepth 100000 in
set_option maxHeartbeats 400000 in
theorem ones_any (x : Int) (w : World) (h0 : 0 ≤ x) (h1 : x < 256) :
    Calls Try.prog 168 #[.int .u8 x] w fun e w' => e = .returned (.int .i64 ((fsize x.toNat : Nat) - 1 : Int)) ∧ w = w' := by
  obtain ⟨c, rfl⟩ := Int.eq_ofNat_of_zero_le h0
  rw [Int.toNat_natCast]
  have hc := fsize_le c
  go_enter Try.func168, Try.ntmps168
  go_wp2
  go_loop [0, 3] (fun b n => ∃ k p : Nat, p < 256 ∧ k + fsize p ≤ 9 ∧ n = .int .i64 k ∧ b = .int .u8 p ∧ Hid (k + fsize p = fsize c)) (fun b _ => fsize (intOf b).toNat)
  case atStart => exact ⟨0, c, by omega, by omega, rfl, rfl, by show _ = _; omega⟩
  case round =>
    obtain ⟨k, p, hp, hk, rfl, rfl, hd⟩ := hrel
    have hst := ones_step p hp
    by_cases hb : bits BinOp.and IntKind.u8 (p : Int) 128 = 0
    · rw [if_pos hb] at hst
      have q1 : (bits BinOp.and IntKind.u8 (p : Int) 128 != 0) = false := by simp [hb]
      have hq : Hid ((k : Int) = (fsize c : Int) - 1) := by have := hd.out; show _ = _; omega
      clear hb hst hd
      go_wp2
      go_ret
      exact ⟨ret_int hq.out, rfl⟩
    · rw [if_neg hb] at hst
      have q1 : (bits BinOp.and IntKind.u8 (p : Int) 128 != 0) = true := by simp [hb]
      have Hst := Lib.hid hst
      clear hb hst
      go_wp2
      go_round
      case rel => exact ⟨k + 1, p * 2 % 256, by omega, by have := Hst.out; omega, by go_num, by simp, by have := Hst.out; have := hd.out; show _ = _; omega⟩
      case measure => have := Hst.out; simp only [intOf, Int.toNat_natCast]; rw [show ((p : Int) * 2 % 256).toNat = p * 2 % 256 by omega]; omega

set_option maxRecDepth 100000 in
set_option maxHeartbeats 400000 in
theorem take_nil (w : World) : Calls Try.prog 162 #[.string ⟨([] : List UInt8).toArray⟩] w fun e w' => e = .returned (.tuple #[.int .u64 0, .int .i64 0, .bool false]) ∧ w = w' := by
  go_enter Try.func162, Try.ntmps162
  go_wp2
  go_ret3
  exact ⟨rfl, rfl⟩

set_option maxRecDepth 100000 in
set_option maxHeartbeats 400000 in
theorem take_short (c : UInt8) (r : List UInt8) (w : World) (hr : r.length ≤ 1000000) (h : r.length + 1 < fsize c.toNat) : Calls Try.prog 162 #[.string ⟨(c :: r).toArray⟩] w fun e w' => e = .returned (.tuple #[.int .u64 0, .int .i64 0, .bool false]) ∧ w = w' := by
  have hc := fsize_le c.toNat
  have hc' := c.toNat_lt
  go_enter Try.func162, Try.ntmps162
  go_wp2_with fail
  refine (ones_any _ _ (by omega) (by omega)).mono ?_; rintro e w1 ⟨rfl, rfl⟩
  go_wp2
  go_ret3
  exact ⟨rfl, rfl⟩

theorem andNot_lead : ∀ c : Nat, c < 256 → bits BinOp.andNot IntKind.u8 (c : Int) ((lead (fsize c) : Nat) : Int) = ((c - lead (fsize c) : Nat) : Int) := by decide +kernel

theorem first_same (x : Int) (w : World) (h1 : 1 ≤ x) (h2 : x ≤ 9) :
    Calls Try.prog 158 #[.int .i64 x] w fun e w' => e = .returned (.int .u8 (lead x.toNat : Nat)) ∧ w' = w :=
  (first_any x w h1 h2).mono fun _ _ h => ⟨h.1, h.2.symm⟩

/-- The number while its bytes are read. -/
def pval (d : Nat) (r : List UInt8) (k : Nat) : Nat := d * 256 ^ k + bval (r.take k)
theorem pval_zero (d : Nat) (r : List UInt8) : pval d r 0 = d := by simp [pval, bval]
theorem pval_step (d : Nat) (r : List UInt8) (k : Nat) (h : k < r.length) : pval d r (k + 1) = pval d r k * 256 + r[k].toNat := by
  unfold pval
  rw [List.take_succ_eq_append_getElem h, bval_append]
  simp only [bval, List.length_cons, List.length_nil, Nat.zero_add, Nat.pow_zero, Nat.mul_one, Nat.add_zero, Nat.pow_succ, Nat.add_mul, Nat.mul_assoc]
  omega
theorem pval_lt (c : Nat) (hc : c < 256) (r : List UInt8) (k : Nat) (h : k + 1 < fsize c) (hk : k ≤ r.length) : pval (c - lead (fsize c)) r k < 72057594037927936 := by
  have h2 := fsize_le c
  have h3 := fsize_top c hc
  have h4 := bval_lt (r.take k)
  rw [take_len hk] at h4
  unfold pval
  generalize c - lead (fsize c) = d at *
  generalize bval (r.take k) = v at *
  generalize fsize c = s at *
  have h5 : (d + 1) * 256 ^ k ≤ 2 ^ (8 - s) * 256 ^ k := Nat.mul_le_mul_right _ h3
  have h6 : 2 ^ (8 - s) * 256 ^ k ≤ 2 ^ (8 - s) * 256 ^ (s - 2) := Nat.mul_le_mul_left _ (Nat.pow_le_pow_right (by omega) (by omega))
  have h7 : 2 ^ (8 - s) * 256 ^ (s - 2) ≤ 72057594037927936 := by
    obtain rfl | rfl | rfl | rfl | rfl | rfl | rfl | rfl : s = 2 ∨ s = 3 ∨ s = 4 ∨ s = 5 ∨ s = 6 ∨ s = 7 ∨ s = 8 ∨ s = 9 := by omega
    all_goals decide
  rw [Nat.add_mul] at h5
  omega

theorem or_byte_u64 (p b : Nat) (hp : p < 72057594037927936) (hb : b < 256) : bits .or .u64 ((p : Int) * 256) (b : Int) = ((p * 256 + b : Nat) : Int) := by
  have h := u64_or_nat (p * 256) b (by omega) (by omega)
  rw [Nat.or_comm, nat_join8' (p * 256) b (by omega) (by omega)] at h
  rw [← h]
  simp

set_option maxRecDepth 100000 in
set_option maxHeartbeats 400000 in
theorem take_long (c : UInt8) (r : List UInt8) (w : World) (hr : r.length ≤ 1000000) (h : ¬ r.length + 1 < fsize c.toNat) :
    Calls Try.prog 162 #[.string ⟨(c :: r).toArray⟩] w fun e w' => e = .returned (.tuple #[.int .u64 ((ntake (c :: r)).1 : Nat), .int .i64 ((ntake (c :: r)).2.1 : Nat), .bool (ntake (c :: r)).2.2]) ∧ Bel w w' := by
  have hc := fsize_le c.toNat
  have hc1 := fsize_pos c.toNat
  have hc' := c.toNat_lt
  have q1 := andNot_lead c.toNat hc'
  have hd : c.toNat - lead (fsize c.toNat) ≤ 255 := by omega
  obtain ⟨d, Hd⟩ : ∃ d, Hid (c.toNat - lead (fsize c.toNat) = d) := ⟨_, rfl⟩
  rw [Hd.out] at q1 hd
  have Hl := Lib.hid (pval_lt c.toNat hc' r)
  have He : Hid (tval c.toNat r = pval d r (fsize c.toNat - 1)) := by show _ = _; unfold tval pval; rw [Hd.out]
  have Hf : Hid (ntake (c :: r) = if nsize (tval c.toNat r) = fsize c.toNat then (tval c.toNat r, fsize c.toNat, true) else (0, 0, false)) := by show _ = _; rw [ntake, if_neg h]
  rw [Hd.out] at Hl
  have hd0 : decide ((r.length : Int) + 1 < ((fsize c.toNat : Nat) : Int)) = false := by simp; omega
  go_enter Try.func162, Try.ntmps162
  go_wp2_with fail
  refine (ones_any _ _ (by omega) (by omega)).mono ?_; rintro e w1 ⟨rfl, rfl⟩
  go_wp2_with fail
  go_quiet ((go_at_call 158; exact Calls.quiet_of_same (first_same _ _ (by omega) (by omega))))
  rw [Int.toNat_natCast]
  have q2 : (((fsize c.toNat : Nat) : Int) == 9) = decide (fsize c.toNat = 9) := by rw [Bool.eq_iff_iff]; simp; omega
  have e9 : fsize c.toNat = 9 → d = 0 := by
    intro e
    have := (fsize_lead c.toNat hc').2.2.1 e
    rw [← Hd.out, e, this]
    rfl
  clear hd0
  obtain ⟨s, Hs⟩ : ∃ s, Hid (fsize c.toNat = s) := ⟨_, rfl⟩
  rw [Hs.out] at hc hc1 h Hl He Hf q2 e9 ⊢
  obtain ⟨b9, q3, q4⟩ : ∃ b, ((s : Int) == 9) = b ∧ Hid (b = true → d = 0) := ⟨_, rfl, fun hb => e9 (by simpa [q2] using hb)⟩
  clear q1 q2 e9
  cases b9
  all_goals
    go_wp2_with fail
    go_loop [6, 7] (fun n i => ∃ k p : Nat, k + 1 ≤ s ∧ i = .int .i64 ((k : Int) + 1) ∧ n = .int .u64 p ∧ Hid (p = pval d r k)) (fun _ i => s - (intOf i).toNat)
    case atStart => first | exact ⟨0, d, by omega, by simp, rfl, (pval_zero d r).symm⟩ | exact ⟨0, 0, by omega, by simp, rfl, by rw [pval_zero]; exact (q4.out (by first | rfl | trivial)).symm⟩
    case round =>
      obtain ⟨k, p, hk, rfl, rfl, hp⟩ := hrel
      by_cases hlt : k + 1 < s
      · have hkr : k < r.length := by omega
        have b1 : p < 72057594037927936 := by rw [hp.out]; exact Hl.out k hlt (by omega)
        have b2 := r[k].toNat_lt
        have q5 := or_byte_u64 p r[k].toNat b1 b2
        have Hst := Lib.hid (pval_step d r k hkr)
        go_wp2
        go_round
        case rel => exact ⟨k + 1, p * 256 + r[k].toNat, by omega, by go_num, by go_num, by rw [hp.out]; exact Hst.out.symm⟩
        case measure => simp [intOf]; omega
      · have hks : k + 1 = s := by omega
        have Hp : Hid (tval c.toNat r = p) := by show _ = _; rw [He.out, hp.out, ← hks]; rfl
        rw [Hp.out] at Hf
        clear hp He hks
        by_cases hz : nsize p = s
        · have Hz := Lib.hid hz
          have q6 : (((nsize p : Nat) : Int) != (s : Int)) = false := by simp [hz]
          clear hz
          go_wp2_with (go_at_call 157; refine (size_any _ _ (by omega)).mono ?_; rintro e w2 ⟨rfl, rfl⟩; rw [Int.toNat_natCast])
          go_ret3
          rw [Hf.out, if_pos Hz.out]
          exact ⟨rfl, (Bel.refl w).drewN _⟩
        · have Hz := Lib.hid hz
          have q6 : (((nsize p : Nat) : Int) != (s : Int)) = true := by simp; omega
          clear hz
          go_wp2_with (go_at_call 157; refine (size_any _ _ (by omega)).mono ?_; rintro e w2 ⟨rfl, rfl⟩; rw [Int.toNat_natCast])
          go_ret3
          rw [Hf.out, if_neg Hz.out]
          exact ⟨rfl, (Bel.refl w).drewN _⟩

/-- num.Take. -/
theorem take_any (l : List UInt8) (w : World) (hl : l.length ≤ 1000001) :
    Calls Try.prog 162 #[.string ⟨l.toArray⟩] w fun e w' => e = .returned (.tuple #[.int .u64 ((ntake l).1 : Nat), .int .i64 ((ntake l).2.1 : Nat), .bool (ntake l).2.2]) ∧ Bel w w' := by
  cases l with
  | nil => exact (take_nil w).mono fun _ _ h => ⟨h.1, h.2 ▸ Bel.refl w⟩
  | cons c r =>
    have hr : r.length ≤ 1000000 := by simpa using hl
    by_cases h : r.length + 1 < fsize c.toNat
    · refine (take_short c r w hr h).mono fun _ _ h' => ⟨?_, h'.2 ▸ Bel.refl w⟩
      rw [ntake, if_pos h]
      exact h'.1
    · exact take_long c r w hr h

end Go.Proofs.Ytnjpoamebkehbaa
