/- The number with which bytes begin: plain facts. No program here. -/
import Derived.Test.YtnjpoamebkehbaaNumL
namespace Go.Proofs.Ytnjpoamebkehbaa
open Go

/-- How many bytes a form has whose first byte is this. -/
def fsize (c : Nat) : Nat :=
  if c < 128 then 1 else if c < 192 then 2 else if c < 224 then 3 else if c < 240 then 4 else if c < 248 then 5 else if c < 252 then 6 else if c < 254 then 7 else if c < 255 then 8 else 9

theorem fsize_pos (c : Nat) : 1 ≤ fsize c := by unfold fsize; (repeat' split) <;> omega
theorem fsize_le (c : Nat) : fsize c ≤ 9 := by unfold fsize; (repeat' split) <;> omega
theorem fsize_lead : ∀ c : Nat, c < 256 → lead (fsize c) ≤ c ∧ (fsize c < 9 → c < lead (fsize c + 1)) ∧ (fsize c = 9 → c = 255) ∧ lead (fsize c) ≤ 255 := by decide +kernel
theorem fsize_of' : ∀ c : Nat, c < 256 → ∀ s : Nat, s < 10 → (decide (1 ≤ s) && decide (lead s ≤ c) && (!decide (s < 9) || decide (c < lead (s + 1)))) = true → fsize c = s := by decide +kernel
theorem fsize_of (c : Nat) (hc : c < 256) (s : Nat) (hs : s < 10) (h1 : 1 ≤ s) (h2 : lead s ≤ c) (h3 : s < 9 → c < lead (s + 1)) : fsize c = s := by
  apply fsize_of' c hc s hs
  by_cases h9 : s < 9
  · simp [h1, h2, h9, h3 h9]
  · simp [h1, h2, h9]
theorem fsize_top : ∀ c : Nat, c < 256 → c - lead (fsize c) < 2 ^ (8 - fsize c) := by decide +kernel

/-- The number of a form: of the first byte what is behind the lead, and the further bytes. -/
def tval (c : Nat) (r : List UInt8) : Nat := (c - lead (fsize c)) * 256 ^ (fsize c - 1) + bval (r.take (fsize c - 1))

/-- The number with which bytes begin, how many bytes it has, and whether there is one. -/
def ntake : List UInt8 → Nat × Nat × Bool
  | [] => (0, 0, false)
  | c :: r => if r.length + 1 < fsize c.toNat then (0, 0, false) else if nsize (tval c.toNat r) = fsize c.toNat then (tval c.toNat r, fsize c.toNat, true) else (0, 0, false)

theorem take_len {r : List UInt8} {k : Nat} (h : k ≤ r.length) : (r.take k).length = k := by rw [List.length_take]; omega

theorem tval_lt (c : UInt8) (r : List UInt8) (h : ¬ r.length + 1 < fsize c.toNat) : tval c.toNat r < 18446744073709551616 := by
  have h1 := fsize_pos c.toNat
  have h2 := fsize_le c.toNat
  have h3 := fsize_top c.toNat c.toNat_lt
  have h4 := bval_lt (r.take (fsize c.toNat - 1))
  rw [take_len (by omega)] at h4
  unfold tval
  generalize c.toNat - lead (fsize c.toNat) = d at *
  generalize bval (r.take (fsize c.toNat - 1)) = v at *
  generalize fsize c.toNat = s at *
  obtain rfl | rfl | rfl | rfl | rfl | rfl | rfl | rfl | rfl : s = 1 ∨ s = 2 ∨ s = 3 ∨ s = 4 ∨ s = 5 ∨ s = 6 ∨ s = 7 ∨ s = 8 ∨ s = 9 := by omega
  all_goals
    simp only [Nat.reduceSub, Nat.reducePow] at *
    omega

theorem bval_form (c : UInt8) (r : List UInt8) (h : ¬ r.length + 1 < fsize c.toNat) : bval ((c :: r).take (fsize c.toNat)) = lead (fsize c.toNat) * 256 ^ (fsize c.toNat - 1) + tval c.toNat r := by
  have h1 := fsize_pos c.toNat
  have h2 := (fsize_lead c.toNat c.toNat_lt).1
  obtain ⟨k, hk⟩ : ∃ k, fsize c.toNat = k + 1 := ⟨fsize c.toNat - 1, by omega⟩
  unfold tval
  rw [hk] at h ⊢ h2
  rw [List.take_succ_cons, bval, take_len (by omega), Nat.add_sub_cancel]
  have : c.toNat * 256 ^ k = lead (k + 1) * 256 ^ k + (c.toNat - lead (k + 1)) * 256 ^ k := by rw [← Nat.add_mul]; congr 1; omega
  omega

/-- The bytes are the number's own just where the sizes agree. -/
theorem form_iff (c : UInt8) (r : List UInt8) (h : ¬ r.length + 1 < fsize c.toNat) : nput (tval c.toNat r) = (c :: r).take (fsize c.toNat) ↔ nsize (tval c.toNat r) = fsize c.toNat := by
  have hl : ((c :: r).take (fsize c.toNat)).length = fsize c.toNat := take_len (by simp; omega)
  constructor
  · intro e
    rw [← nput_length, e, hl]
  · intro e
    apply bval_inj (by rw [nput_length, hl, e])
    rw [bval_nput (tval_lt c r h), bval_form c r h, e]

theorem ntake_lt (l : List UInt8) : (ntake l).1 < 18446744073709551616 := by
  unfold ntake
  split
  · decide
  · rename_i c r
    by_cases h : r.length + 1 < fsize c.toNat
    · rw [if_pos h]; decide
    · rw [if_neg h]
      by_cases h' : nsize (tval c.toNat r) = fsize c.toNat
      · rw [if_pos h']; exact tval_lt c r h
      · rw [if_neg h']; decide
theorem ntake_size (l : List UInt8) : (ntake l).2.1 ≤ l.length ∧ (ntake l).2.1 ≤ 9 ∧ ((ntake l).2.2 = true → 1 ≤ (ntake l).2.1) := by
  unfold ntake
  split
  · simp
  · rename_i c r
    have := fsize_le c.toNat
    have := fsize_pos c.toNat
    by_cases h : r.length + 1 < fsize c.toNat
    · rw [if_pos h]; simp
    · rw [if_neg h]
      by_cases h' : nsize (tval c.toNat r) = fsize c.toNat
      · rw [if_pos h']; simp; omega
      · rw [if_neg h']; simp

/-- A number comes back from its bytes, whatever stands behind them. -/
theorem ntake_nput {n : Nat} (hn : n < 18446744073709551616) (t : List UInt8) : ntake (nput n ++ t) = (n, nsize n, true) := by
  obtain ⟨c, hc, hc1, hc2⟩ := first_bounds hn
  have h1 := nsize_pos n
  have h2 := nsize_le n
  obtain ⟨r, hr⟩ : ∃ r, nput n = c :: r := by
    cases h : nput n with
    | nil => rw [h] at hc; simp at hc
    | cons d r => rw [h] at hc; simp at hc; subst hc; exact ⟨r, rfl⟩
  have hs : fsize c.toNat = nsize n := fsize_of c.toNat c.toNat_lt _ (by omega) h1 hc1 hc2
  have hrl : r.length = nsize n - 1 := by
    have := nput_length n
    rw [hr] at this
    simp at this
    omega
  have hlen : ¬ (r ++ t).length + 1 < fsize c.toNat := by rw [hs]; simp; omega
  have hb := bval_form c (r ++ t) hlen
  have htk : (c :: (r ++ t)).take (fsize c.toNat) = nput n := by
    rw [hs, hr, ← List.cons_append, List.take_append_of_le_length (by simp; omega), List.take_of_length_le (by simp; omega)]
  rw [htk, bval_nput hn, hs] at hb
  have hv : tval c.toNat (r ++ t) = n := by omega
  rw [hr, List.cons_append, ntake, if_neg hlen, hv, hs, if_pos rfl]

/-- What is taken are the bytes of the number. -/
theorem ntake_true {l : List UInt8} (h : (ntake l).2.2 = true) : l.take (ntake l).2.1 = nput (ntake l).1 ∧ (ntake l).2.1 = nsize (ntake l).1 := by
  unfold ntake at h ⊢
  split at h
  · simp at h
  · rename_i c r
    by_cases h1 : r.length + 1 < fsize c.toNat
    · rw [if_pos h1] at h; simp at h
    · rw [if_neg h1] at h ⊢
      by_cases h' : nsize (tval c.toNat r) = fsize c.toNat
      · simp only [if_pos h']
        exact ⟨((form_iff c r h1).2 h').symm, h'.symm⟩
      · rw [if_neg h'] at h; simp at h
theorem ntake_false {l : List UInt8} (h : (ntake l).2.2 = false) : ntake l = (0, 0, false) := by
  unfold ntake at h ⊢
  split at h
  · rfl
  · rename_i c r
    by_cases h1 : r.length + 1 < fsize c.toNat
    · simp only [if_pos h1]
    · rw [if_neg h1] at h
      simp only [if_neg h1]
      by_cases h' : nsize (tval c.toNat r) = fsize c.toNat
      · rw [if_pos h'] at h; simp at h
      · simp only [if_neg h']

end Go.Proofs.Ytnjpoamebkehbaa
