/- Plain laws on the bytes of numbers: their order; none begins another one's; they lead back. No program here. -/
import Derived.Test.YtnjpoamebkehbaaNumP
import GoSem.Op.String
namespace Go.Proofs.Ytnjpoamebkehbaa
open Go

/-- The value of bytes, the lowest last. -/
def bval : List UInt8 → Nat
  | [] => 0
  | c :: l => c.toNat * 256 ^ l.length + bval l

theorem bval_lt (l : List UInt8) : bval l < 256 ^ l.length := by
  induction l with
  | nil => simp [bval]
  | cons c l ih =>
    simp only [bval, List.length_cons, Nat.pow_succ]
    have := c.toNat_lt
    have h : c.toNat * 256 ^ l.length ≤ 255 * 256 ^ l.length := Nat.mul_le_mul_right _ (by omega)
    omega

theorem bval_append (a b : List UInt8) : bval (a ++ b) = bval a * 256 ^ b.length + bval b := by
  induction a with
  | nil => simp [bval]
  | cons c a ih =>
    simp only [List.cons_append, bval, List.length_append, ih, Nat.pow_add, Nat.add_mul, Nat.mul_assoc]
    omega

theorem bval_be (k n : Nat) : bval (be k n) = n % 256 ^ k := by
  induction k generalizing n with
  | zero => simp [be, bval, Nat.mod_one]
  | succ k ih =>
    rw [be, bval_append, ih]
    simp only [bval, List.length_cons, List.length_nil, Nat.zero_add, Nat.pow_one, Nat.pow_zero, Nat.mul_one, Nat.add_zero]
    rw [Nat.pow_succ, Nat.mul_comm (256 ^ k) 256, Nat.mod_mul]
    have : (UInt8.ofNat (n % 256)).toNat = n % 256 := by simp
    omega

/-- Of bytes of one length the order is that of the values. -/
theorem bytesLess_bval {a b : List UInt8} (h : a.length = b.length) : Op.bytesLess a b = decide (bval a < bval b) := by
  induction a generalizing b with
  | nil =>
    have : b = [] := List.eq_nil_of_length_eq_zero (by simpa using h.symm)
    subst this
    simp [Op.bytesLess]
  | cons c a ih =>
    cases b with
    | nil => simp at h
    | cons d b =>
      have h' : a.length = b.length := by simpa using h
      simp only [Op.bytesLess, ih h', bval, ← h']
      have ha := bval_lt a
      have hb := bval_lt b
      rw [← h'] at hb
      by_cases e : c = d
      · subst e
        simp
      · have e' : c.toNat ≠ d.toNat := fun h => e (UInt8.toNat_inj.1 h)
        by_cases l : c < d
        · have l' : c.toNat < d.toNat := UInt8.lt_iff_toNat_lt.1 l
          have h1 : (c.toNat + 1) * 256 ^ a.length ≤ d.toNat * 256 ^ a.length := Nat.mul_le_mul_right _ l'
          rw [Nat.add_mul] at h1
          simp [l]
          omega
        · have l' : d.toNat < c.toNat := by
            have : ¬ c.toNat < d.toNat := fun h => l (UInt8.lt_iff_toNat_lt.2 h)
            omega
          have h1 : (d.toNat + 1) * 256 ^ a.length ≤ c.toNat * 256 ^ a.length := Nat.mul_le_mul_right _ l'
          rw [Nat.add_mul] at h1
          have e2 : (c == d) = false := by simpa using e
          have e3 : (decide (c < d)) = false := by simpa using l
          rw [e2, e3]
          simp
          omega

theorem bval_inj {a b : List UInt8} (h : a.length = b.length) (hv : bval a = bval b) : a = b := by
  induction a generalizing b with
  | nil => exact (List.eq_nil_of_length_eq_zero (by simpa using h.symm)).symm
  | cons c a ih =>
    cases b with
    | nil => simp at h
    | cons d b =>
      have h' : a.length = b.length := by simpa using h
      simp only [bval, ← h'] at hv
      have ha := bval_lt a
      have hb := bval_lt b
      rw [← h'] at hb
      have e : c.toNat = d.toNat := by
        have h1 : (c.toNat * 256 ^ a.length + bval a) / 256 ^ a.length = (d.toNat * 256 ^ a.length + bval b) / 256 ^ a.length := by rw [hv]
        rw [Nat.mul_comm, Nat.mul_comm d.toNat, Nat.mul_add_div (Nat.pow_pos (by omega)), Nat.mul_add_div (Nat.pow_pos (by omega)), Nat.div_eq_of_lt ha, Nat.div_eq_of_lt hb] at h1
        omega
      have e1 : c = d := UInt8.toNat_inj.1 e
      subst e1
      rw [ih h' (by omega)]

theorem bval_nput {n : Nat} (hn : n < 18446744073709551616) : bval (nput n) = lead (nsize n) * 256 ^ (nsize n - 1) + n := by
  have hlt : lead (nsize n) + n / 256 ^ (nsize n - 1) < 256 := by
    have h1 := nsize_pos n
    have h2 := nsize_le n
    unfold lead
    rcases top_lt hn with h | ⟨h, h'⟩
    · have h3 : (2 : Nat) ^ (9 - nsize n) ≤ 2 ^ 8 := Nat.pow_le_pow_right (by omega) (by omega)
      have h4 := Nat.two_pow_pos (9 - nsize n)
      simp only [Nat.reducePow] at h3
      omega
    · rw [h', h]; simp
  simp only [nput, bval, be_length, bval_be]
  have : (UInt8.ofNat (lead (nsize n) + n / 256 ^ (nsize n - 1))).toNat = lead (nsize n) + n / 256 ^ (nsize n - 1) := by simp [Nat.mod_eq_of_lt hlt]
  rw [this, Nat.add_mul, Nat.add_assoc]
  have := Nat.div_add_mod n (256 ^ (nsize n - 1))
  rw [Nat.mul_comm] at this
  omega

theorem nput_inj {a b : Nat} (ha : a < 18446744073709551616) (hb : b < 18446744073709551616) (h : nput a = nput b) : a = b := by
  have hs : nsize a = nsize b := by rw [← nput_length, ← nput_length, h]
  have h1 := bval_nput ha
  have h2 := bval_nput hb
  rw [h, h2, hs] at h1
  omega

/-- The first byte tells the size. -/
theorem first_bounds {n : Nat} (hn : n < 18446744073709551616) : ∃ c, (nput n).head? = some c ∧ lead (nsize n) ≤ c.toNat ∧ (nsize n < 9 → c.toNat < lead (nsize n + 1)) := by
  have h1 := nsize_pos n
  have h2 := nsize_le n
  refine ⟨_, rfl, ?_⟩
  have hlt : lead (nsize n) + n / 256 ^ (nsize n - 1) < 256 ∧ (nsize n < 9 → lead (nsize n) + n / 256 ^ (nsize n - 1) < lead (nsize n + 1)) := by
    unfold lead
    have h3 : (2 : Nat) ^ (9 - nsize n) ≤ 2 ^ 8 := Nat.pow_le_pow_right (by omega) (by omega)
    simp only [Nat.reducePow] at h3
    have h5 := Nat.two_pow_pos (9 - nsize n)
    rcases top_lt hn with h | ⟨h, h'⟩
    · refine ⟨by omega, fun h9 => ?_⟩
      have h4 : (2 : Nat) ^ (9 - nsize n) = 2 ^ (9 - (nsize n + 1)) * 2 := by rw [← Nat.pow_succ]; congr 1; omega
      omega
    · rw [h', h]; simp
  have : (UInt8.ofNat (lead (nsize n) + n / 256 ^ (nsize n - 1))).toNat = lead (nsize n) + n / 256 ^ (nsize n - 1) := by simp [Nat.mod_eq_of_lt hlt.1]
  rw [this]
  exact ⟨Nat.le_add_right _ _, hlt.2⟩

theorem lead_mono {s t : Nat} (h : s < t) (ht : t ≤ 9) : lead (s + 1) ≤ lead t := by
  unfold lead
  have : (2 : Nat) ^ (9 - t) ≤ 2 ^ (9 - (s + 1)) := Nat.pow_le_pow_right (by omega) (by omega)
  omega

theorem nsize_mono {a b : Nat} (h : a ≤ b) : nsize a ≤ nsize b := by
  rcases Nat.lt_or_ge (nsize b) (nsize a) with l | l
  · have h1 := nsize_le a
    have h2 := nsize_pos b
    have h3 := nsize_lt (show nsize b ≤ 8 by omega)
    have h4 := nsize_ge (show 2 ≤ nsize a by omega)
    have h5 : (2 : Nat) ^ (7 * nsize b) ≤ 2 ^ (7 * (nsize a - 1)) := Nat.pow_le_pow_right (by omega) (by omega)
    omega
  · exact l

theorem less_of_first {x y : List UInt8} {c d : UInt8} (hx : x.head? = some c) (hy : y.head? = some d) (h : c.toNat < d.toNat) : Op.bytesLess x y = true ∧ Op.bytesLess y x = false := by
  cases x with
  | nil => simp at hx
  | cons c' x =>
    cases y with
    | nil => simp at hy
    | cons d' y =>
      simp at hx hy
      subst hx hy
      have h1 : c' < d' := UInt8.lt_iff_toNat_lt.2 h
      have h2 : ¬ d' < c' := fun k => by have := UInt8.lt_iff_toNat_lt.1 k; omega
      have h3 : ¬ d' = c' := fun k => by subst k; omega
      simp [Op.bytesLess, h1, h2, h3]

theorem nput_less {a b : Nat} (ha : a < 18446744073709551616) (hb : b < 18446744073709551616) : Op.bytesLess (nput a) (nput b) = decide (a < b) := by
  obtain ⟨c, hc, hc1, hc2⟩ := first_bounds ha
  obtain ⟨d, hd, hd1, hd2⟩ := first_bounds hb
  have la := nsize_le a
  have lb := nsize_le b
  by_cases e : nsize a = nsize b
  · rw [bytesLess_bval (by rw [nput_length, nput_length, e]), bval_nput ha, bval_nput hb, e]
    by_cases h : a < b <;> simp [h]
  · by_cases l : nsize a < nsize b
    · have h1 := lead_mono l lb
      have h2 := hc2 (by omega)
      have hab : a < b := by
        rcases Nat.lt_or_ge a b with h | h
        · exact h
        · have := nsize_mono h; omega
      rw [(less_of_first hc hd (by omega)).1]
      simp [hab]
    · have h1 := lead_mono (show nsize b < nsize a by omega) la
      have h2 := hd2 (by omega)
      have hab : ¬ a < b := by
        intro h
        have := nsize_mono (Nat.le_of_lt h)
        omega
      rw [(less_of_first hd hc (by omega)).2]
      simp [hab]

/-- None's bytes begin with another one's. -/
theorem nput_begins {a b : Nat} (ha : a < 18446744073709551616) (hb : b < 18446744073709551616) (hl : nsize a ≤ nsize b) (h : (nput b).take (nsize a) = nput a) : a = b := by
  obtain ⟨c, hc, hc1, hc2⟩ := first_bounds ha
  obtain ⟨d, hd, hd1, hd2⟩ := first_bounds hb
  have lb := nsize_le b
  have hcd : c = d := by
    have h1 := nsize_pos a
    rw [← h, List.head?_take, if_neg (by omega), hd] at hc
    injection hc with hc
    exact hc.symm
  have e : nsize a = nsize b := by
    rcases Nat.lt_or_ge (nsize a) (nsize b) with l | l
    · have h1 := lead_mono l lb
      have h2 := hc2 (by omega)
      rw [hcd] at h2
      omega
    · omega
  rw [e, ← nput_length b, List.take_length] at h
  exact (nput_inj hb ha h).symm

end Go.Proofs.Ytnjpoamebkehbaa
