/- Plain facts on the bytes of a number: no program here. -/
namespace Go.Proofs.Ytnjpoamebkehbaa

/-- How many bytes a number takes. -/
def nsize (n : Nat) : Nat :=
  if n < 128 then 1 else if n < 16384 then 2 else if n < 2097152 then 3 else if n < 268435456 then 4 else
  if n < 34359738368 then 5 else if n < 4398046511104 then 6 else if n < 562949953421312 then 7 else if n < 72057594037927936 then 8 else 9

theorem nsize_pos (n : Nat) : 1 ≤ nsize n := by unfold nsize; (repeat' split) <;> omega
theorem nsize_le (n : Nat) : nsize n ≤ 9 := by unfold nsize; (repeat' split) <;> omega

theorem nsize_of {n k : Nat} (h1 : 1 ≤ k) (h8 : k ≤ 8) (hlt : n < 2 ^ (7 * k)) (hge : k = 1 ∨ 2 ^ (7 * (k - 1)) ≤ n) : nsize n = k := by
  obtain rfl | rfl | rfl | rfl | rfl | rfl | rfl | rfl : k = 1 ∨ k = 2 ∨ k = 3 ∨ k = 4 ∨ k = 5 ∨ k = 6 ∨ k = 7 ∨ k = 8 := by omega
  all_goals
    simp only [Nat.reduceMul, Nat.reduceSub, Nat.reducePow] at hlt hge
    unfold nsize
    (repeat' split) <;> omega

theorem nsize_nine {n : Nat} (hge : 2 ^ (7 * 8) ≤ n) : nsize n = 9 := by
  simp only [Nat.reduceMul, Nat.reducePow] at hge
  unfold nsize
  (repeat' split) <;> omega

theorem div_zero_iff {n k : Nat} : n / 2 ^ k = 0 ↔ n < 2 ^ k := by
  rw [Nat.div_eq_zero_iff]
  have := Nat.two_pow_pos k
  omega

/-- The bound that goes with a size: below 2 to the power of seven times so many; of nine none but the number's own. -/
theorem nsize_lt {n : Nat} (h : nsize n ≤ 8) : n < 2 ^ (7 * nsize n) := by
  have := nsize_pos n
  revert h
  unfold nsize
  (repeat' split) <;> intro h <;> simp only [Nat.reduceMul, Nat.reducePow] <;> omega

theorem nsize_ge {n : Nat} (h : 2 ≤ nsize n) : 2 ^ (7 * (nsize n - 1)) ≤ n := by
  revert h
  unfold nsize
  (repeat' split) <;> intro h <;> simp only [Nat.reduceMul, Nat.reduceSub, Nat.reducePow] <;> omega

/-- The first byte of a form, without the number's own bits. -/
def lead (s : Nat) : Nat := 256 - 2 ^ (9 - s)

/-- So many bytes of a number, the lowest last. -/
def be : Nat → Nat → List UInt8
  | 0, _ => []
  | k + 1, n => be k (n / 256) ++ [UInt8.ofNat (n % 256)]

/-- A number's bytes. -/
def nput (n : Nat) : List UInt8 := UInt8.ofNat (lead (nsize n) + n / 256 ^ (nsize n - 1)) :: be (nsize n - 1) n

theorem be_length (k n : Nat) : (be k n).length = k := by
  induction k generalizing n with
  | zero => rfl
  | succ k ih => simp [be, ih]

theorem be_getElem? (k n j : Nat) (h : j < k) : (be k n)[j]? = some (UInt8.ofNat (n / 256 ^ (k - 1 - j) % 256)) := by
  induction k generalizing n j with
  | zero => omega
  | succ k ih =>
    simp only [be]
    by_cases hj : j < k
    · rw [List.getElem?_append_left (by simpa [be_length] using hj), ih _ _ hj, Nat.div_div_eq_div_mul, ← Nat.pow_succ']
      rw [show (k - 1 - j).succ = k + 1 - 1 - j by omega]
    · have : j = k := by omega
      subst this
      rw [List.getElem?_append_right (by simp [be_length])]
      simp [be_length]

theorem nput_length (n : Nat) : (nput n).length = nsize n := by
  have := nsize_pos n
  simp [nput, be_length]; omega

theorem pow256 (k : Nat) : 256 ^ k = 2 ^ (8 * k) := by
  rw [Nat.pow_mul]

/-- The first byte's own bits stay below what the lead has. -/
theorem top_lt {n : Nat} (hn : n < 18446744073709551616) : n / 256 ^ (nsize n - 1) < 2 ^ (9 - nsize n) / 2 ∨ (nsize n = 9 ∧ n / 256 ^ (nsize n - 1) = 0) := by
  by_cases h : nsize n ≤ 8
  · left
    have hlt := nsize_lt h
    have h1 := nsize_pos n
    revert hlt h1 h
    generalize nsize n = k
    intro hlt h1 h
    obtain rfl | rfl | rfl | rfl | rfl | rfl | rfl | rfl : k = 1 ∨ k = 2 ∨ k = 3 ∨ k = 4 ∨ k = 5 ∨ k = 6 ∨ k = 7 ∨ k = 8 := by omega
    all_goals
      simp only [Nat.reduceSub, Nat.reducePow, Nat.reduceDiv] at hlt ⊢
      omega
  · right
    have : nsize n = 9 := by have := nsize_le n; omega
    rw [this]
    exact ⟨rfl, Nat.div_eq_of_lt hn⟩

theorem nput_getElem? (n j : Nat) (hn : n < 18446744073709551616) (h : j < nsize n) :
    (nput n)[j]? = some (UInt8.ofNat ((if j = 0 then lead (nsize n) else 0) + n / 256 ^ (nsize n - 1 - j) % 256)) := by
  unfold nput
  cases j with
  | zero =>
    have ht : n / 256 ^ (nsize n - 1) < 256 := by
      rcases top_lt hn with h1 | h1
      · have h2 : (2 : Nat) ^ (9 - nsize n) ≤ 2 ^ 9 := Nat.pow_le_pow_right (by omega) (by omega)
        simp only [Nat.reducePow] at h2
        omega
      · omega
    rw [if_pos rfl, Nat.sub_zero, Nat.mod_eq_of_lt ht]
    rfl
  | succ j =>
    rw [List.getElem?_cons_succ, be_getElem? _ _ _ (by omega)]
    simp
    congr 4
    omega

end Go.Proofs.Ytnjpoamebkehbaa
