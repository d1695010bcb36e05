/- Texts laid together: XNumP XNumL XNumT XBase XNumW XNumF XNumTW XSl XOver XMem XNumR XNumRT. -/
import GoSem.Op.String
import Derived.Test.YtlclllkjnhgbjaaProg
import Derived.WalkKit
import Derived.WalkLawsBesides
import Derived.WalkSpells
import Derived.Lib.Hide
import Derived.Below
import Derived.Deep.Draws
import Derived.Deep.QuietTactic
import Derived.BigQuiet
import Derived.IntWalk
import Derived.Deep.LoopGhost
import Derived.Outline
import Derived.Lib.SlBytesRow
import Derived.Deep.RegionHeld3
import Derived.OpenShut
import Derived.Laws.BitsAllLaws
import Derived.Laws.Bits64
import Derived.Laws.OwnMore
import Derived.Maps.AppendAt
import Derived.Deep.AppendLies
import Derived.RegionTactic
import Derived.OwnWalk
import Derived.Deep.RegionLaw
import Derived.Laws.Rows
import Derived.Deep.MidRow
import Derived.Laws.ResultCell

namespace Go.Proofs.Ytlclllkjnhgbjaa

/-- How many bytes a number takes. -/
def nsize (n : Nat) : Nat :=
  if n < 128 then 1 else if n < 16384 then 2 else if n < 2097152 then 3 else if n < 268435456 then 4 else
  if n < 34359738368 then 5 else if n < 4398046511104 then 6 else if n < 562949953421312 then 7 else if n < 72057594037927936 then 8 else 9

theorem nsize_pos (n : Nat) : 1 ≤ nsize n := by unfold nsize; (repeat' split) <;> omega
theorem nsize_le (n : Nat) : nsize n ≤ 9 := by unfold nsize; (repeat' split) <;> omega

theorem nsize_of {n k : Nat} (h1 : 1 ≤ k) (h8 : k ≤ 8) (hlt : n < 2 ^ (7 * k)) (hge : k = 1 ∨ 2 ^ (7 * (k - 1)) ≤ n) : nsize n = k := by
  obtain rfl | rfl | rfl | rfl | rfl | rfl | rfl | rfl : k = 1 ∨ k = 2 ∨ k = 3 ∨ k = 4 ∨ k = 5 ∨ k = 6 ∨ k = 7 ∨ k = 8 := by omega
  all_goals
    simp only [Nat.reduceMul, Nat.reduceSub, Nat.reducePow] at hlt hge
    unfold nsize
    (repeat' split) <;> omega

theorem nsize_nine {n : Nat} (hge : 2 ^ (7 * 8) ≤ n) : nsize n = 9 := by
  simp only [Nat.reduceMul, Nat.reducePow] at hge
  unfold nsize
  (repeat' split) <;> omega

theorem div_zero_iff {n k : Nat} : n / 2 ^ k = 0 ↔ n < 2 ^ k := by
  rw [Nat.div_eq_zero_iff]
  have := Nat.two_pow_pos k
  omega

/-- The bound that goes with a size: below 2 to the power of seven times so many; of nine none but the number's own. -/
theorem nsize_lt {n : Nat} (h : nsize n ≤ 8) : n < 2 ^ (7 * nsize n) := by
  have := nsize_pos n
  revert h
  unfold nsize
  (repeat' split) <;> intro h <;> simp only [Nat.reduceMul, Nat.reducePow] <;> omega

theorem nsize_ge {n : Nat} (h : 2 ≤ nsize n) : 2 ^ (7 * (nsize n - 1)) ≤ n := by
  revert h
  unfold nsize
  (repeat' split) <;> intro h <;> simp only [Nat.reduceMul, Nat.reduceSub, Nat.reducePow] <;> omega

/-- The first byte of a form, without the number's own bits. -/
def lead (s : Nat) : Nat := 256 - 2 ^ (9 - s)

/-- So many bytes of a number, the lowest last. -/
def be : Nat → Nat → List UInt8
  | 0, _ => []
  | k + 1, n => be k (n / 256) ++ [UInt8.ofNat (n % 256)]

/-- A number's bytes. -/
def nput (n : Nat) : List UInt8 := UInt8.ofNat (lead (nsize n) + n / 256 ^ (nsize n - 1)) :: be (nsize n - 1) n

theorem be_length (k n : Nat) : (be k n).length = k := by
  induction k generalizing n with
  | zero => rfl
  | succ k ih => simp [be, ih]

theorem be_getElem? (k n j : Nat) (h : j < k) : (be k n)[j]? = some (UInt8.ofNat (n / 256 ^ (k - 1 - j) % 256)) := by
  induction k generalizing n j with
  | zero => omega
  | succ k ih =>
    simp only [be]
    by_cases hj : j < k
    · rw [List.getElem?_append_left (by simpa [be_length] using hj), ih _ _ hj, Nat.div_div_eq_div_mul, ← Nat.pow_succ']
      rw [show (k - 1 - j).succ = k + 1 - 1 - j by omega]
    · have : j = k := by omega
      subst this
      rw [List.getElem?_append_right (by simp [be_length])]
      simp [be_length]

theorem nput_length (n : Nat) : (nput n).length = nsize n := by
  have := nsize_pos n
  simp [nput, be_length]; omega

/-- The first byte's own bits stay below what the lead has. -/
theorem top_lt {n : Nat} (hn : n < 18446744073709551616) : n / 256 ^ (nsize n - 1) < 2 ^ (9 - nsize n) / 2 ∨ (nsize n = 9 ∧ n / 256 ^ (nsize n - 1) = 0) := by
  by_cases h : nsize n ≤ 8
  · left
    have hlt := nsize_lt h
    have h1 := nsize_pos n
    revert hlt h1 h
    generalize nsize n = k
    intro hlt h1 h
    obtain rfl | rfl | rfl | rfl | rfl | rfl | rfl | rfl : k = 1 ∨ k = 2 ∨ k = 3 ∨ k = 4 ∨ k = 5 ∨ k = 6 ∨ k = 7 ∨ k = 8 := by omega
    all_goals
      simp only [Nat.reduceSub, Nat.reducePow, Nat.reduceDiv] at hlt ⊢
      omega
  · right
    have : nsize n = 9 := by have := nsize_le n; omega
    rw [this]
    exact ⟨rfl, Nat.div_eq_of_lt hn⟩

theorem nput_getElem? (n j : Nat) (hn : n < 18446744073709551616) (h : j < nsize n) :
    (nput n)[j]? = some (UInt8.ofNat ((if j = 0 then lead (nsize n) else 0) + n / 256 ^ (nsize n - 1 - j) % 256)) := by
  unfold nput
  cases j with
  | zero =>
    have ht : n / 256 ^ (nsize n - 1) < 256 := by
      rcases top_lt hn with h1 | h1
      · have h2 : (2 : Nat) ^ (9 - nsize n) ≤ 2 ^ 9 := Nat.pow_le_pow_right (by omega) (by omega)
        simp only [Nat.reducePow] at h2
        omega
      · omega
    rw [if_pos rfl, Nat.sub_zero, Nat.mod_eq_of_lt ht]
    rfl
  | succ j =>
    rw [List.getElem?_cons_succ, be_getElem? _ _ _ (by omega)]
    simp
    congr 4
    omega

end Go.Proofs.Ytlclllkjnhgbjaa

namespace Go.Proofs.Ytlclllkjnhgbjaa
open Go

/-- The value of bytes, the lowest last. -/
def bval : List UInt8 → Nat
  | [] => 0
  | c :: l => c.toNat * 256 ^ l.length + bval l

theorem bval_lt (l : List UInt8) : bval l < 256 ^ l.length := by
  induction l with
  | nil => simp [bval]
  | cons c l ih =>
    simp only [bval, List.length_cons, Nat.pow_succ]
    have := c.toNat_lt
    have h : c.toNat * 256 ^ l.length ≤ 255 * 256 ^ l.length := Nat.mul_le_mul_right _ (by omega)
    omega

theorem bval_append (a b : List UInt8) : bval (a ++ b) = bval a * 256 ^ b.length + bval b := by
  induction a with
  | nil => simp [bval]
  | cons c a ih =>
    simp only [List.cons_append, bval, List.length_append, ih, Nat.pow_add, Nat.add_mul, Nat.mul_assoc]
    omega

theorem bval_be (k n : Nat) : bval (be k n) = n % 256 ^ k := by
  induction k generalizing n with
  | zero => simp [be, bval, Nat.mod_one]
  | succ k ih =>
    rw [be, bval_append, ih]
    simp only [bval, List.length_cons, List.length_nil, Nat.zero_add, Nat.pow_one, Nat.pow_zero, Nat.mul_one, Nat.add_zero]
    rw [Nat.pow_succ, Nat.mul_comm (256 ^ k) 256, Nat.mod_mul]
    have : (UInt8.ofNat (n % 256)).toNat = n % 256 := by simp
    omega

theorem bval_inj {a b : List UInt8} (h : a.length = b.length) (hv : bval a = bval b) : a = b := by
  induction a generalizing b with
  | nil => exact (List.eq_nil_of_length_eq_zero (by simpa using h.symm)).symm
  | cons c a ih =>
    cases b with
    | nil => simp at h
    | cons d b =>
      have h' : a.length = b.length := by simpa using h
      simp only [bval, ← h'] at hv
      have ha := bval_lt a
      have hb := bval_lt b
      rw [← h'] at hb
      have e : c.toNat = d.toNat := by
        have h1 : (c.toNat * 256 ^ a.length + bval a) / 256 ^ a.length = (d.toNat * 256 ^ a.length + bval b) / 256 ^ a.length := by rw [hv]
        rw [Nat.mul_comm, Nat.mul_comm d.toNat, Nat.mul_add_div (Nat.pow_pos (by omega)), Nat.mul_add_div (Nat.pow_pos (by omega)), Nat.div_eq_of_lt ha, Nat.div_eq_of_lt hb] at h1
        omega
      have e1 : c = d := UInt8.toNat_inj.1 e
      subst e1
      rw [ih h' (by omega)]

theorem bval_nput {n : Nat} (hn : n < 18446744073709551616) : bval (nput n) = lead (nsize n) * 256 ^ (nsize n - 1) + n := by
  have hlt : lead (nsize n) + n / 256 ^ (nsize n - 1) < 256 := by
    have h1 := nsize_pos n
    have h2 := nsize_le n
    unfold lead
    rcases top_lt hn with h | ⟨h, h'⟩
    · have h3 : (2 : Nat) ^ (9 - nsize n) ≤ 2 ^ 8 := Nat.pow_le_pow_right (by omega) (by omega)
      have h4 := Nat.two_pow_pos (9 - nsize n)
      simp only [Nat.reducePow] at h3
      omega
    · rw [h', h]; simp
  simp only [nput, bval, be_length, bval_be]
  have : (UInt8.ofNat (lead (nsize n) + n / 256 ^ (nsize n - 1))).toNat = lead (nsize n) + n / 256 ^ (nsize n - 1) := by simp [Nat.mod_eq_of_lt hlt]
  rw [this, Nat.add_mul, Nat.add_assoc]
  have := Nat.div_add_mod n (256 ^ (nsize n - 1))
  rw [Nat.mul_comm] at this
  omega

/-- The first byte tells the size. -/
theorem first_bounds {n : Nat} (hn : n < 18446744073709551616) : ∃ c, (nput n).head? = some c ∧ lead (nsize n) ≤ c.toNat ∧ (nsize n < 9 → c.toNat < lead (nsize n + 1)) := by
  have h1 := nsize_pos n
  have h2 := nsize_le n
  refine ⟨_, rfl, ?_⟩
  have hlt : lead (nsize n) + n / 256 ^ (nsize n - 1) < 256 ∧ (nsize n < 9 → lead (nsize n) + n / 256 ^ (nsize n - 1) < lead (nsize n + 1)) := by
    unfold lead
    have h3 : (2 : Nat) ^ (9 - nsize n) ≤ 2 ^ 8 := Nat.pow_le_pow_right (by omega) (by omega)
    simp only [Nat.reducePow] at h3
    have h5 := Nat.two_pow_pos (9 - nsize n)
    rcases top_lt hn with h | ⟨h, h'⟩
    · refine ⟨by omega, fun h9 => ?_⟩
      have h4 : (2 : Nat) ^ (9 - nsize n) = 2 ^ (9 - (nsize n + 1)) * 2 := by rw [← Nat.pow_succ]; congr 1; omega
      omega
    · rw [h', h]; simp
  have : (UInt8.ofNat (lead (nsize n) + n / 256 ^ (nsize n - 1))).toNat = lead (nsize n) + n / 256 ^ (nsize n - 1) := by simp [Nat.mod_eq_of_lt hlt.1]
  rw [this]
  exact ⟨Nat.le_add_right _ _, hlt.2⟩

theorem lead_mono {s t : Nat} (h : s < t) (ht : t ≤ 9) : lead (s + 1) ≤ lead t := by
  unfold lead
  have : (2 : Nat) ^ (9 - t) ≤ 2 ^ (9 - (s + 1)) := Nat.pow_le_pow_right (by omega) (by omega)
  omega

theorem nsize_mono {a b : Nat} (h : a ≤ b) : nsize a ≤ nsize b := by
  rcases Nat.lt_or_ge (nsize b) (nsize a) with l | l
  · have h1 := nsize_le a
    have h2 := nsize_pos b
    have h3 := nsize_lt (show nsize b ≤ 8 by omega)
    have h4 := nsize_ge (show 2 ≤ nsize a by omega)
    have h5 : (2 : Nat) ^ (7 * nsize b) ≤ 2 ^ (7 * (nsize a - 1)) := Nat.pow_le_pow_right (by omega) (by omega)
    omega
  · exact l

end Go.Proofs.Ytlclllkjnhgbjaa

namespace Go.Proofs.Ytlclllkjnhgbjaa
open Go

/-- How many bytes a form has whose first byte is this. -/
def fsize (c : Nat) : Nat :=
  if c < 128 then 1 else if c < 192 then 2 else if c < 224 then 3 else if c < 240 then 4 else if c < 248 then 5 else if c < 252 then 6 else if c < 254 then 7 else if c < 255 then 8 else 9

theorem fsize_pos (c : Nat) : 1 ≤ fsize c := by unfold fsize; (repeat' split) <;> omega
theorem fsize_le (c : Nat) : fsize c ≤ 9 := by unfold fsize; (repeat' split) <;> omega
theorem fsize_lead : ∀ c : Nat, c < 256 → lead (fsize c) ≤ c ∧ (fsize c < 9 → c < lead (fsize c + 1)) ∧ (fsize c = 9 → c = 255) ∧ lead (fsize c) ≤ 255 := by decide +kernel
theorem fsize_of' : ∀ c : Nat, c < 256 → ∀ s : Nat, s < 10 → (decide (1 ≤ s) && decide (lead s ≤ c) && (!decide (s < 9) || decide (c < lead (s + 1)))) = true → fsize c = s := by decide +kernel
theorem fsize_of (c : Nat) (hc : c < 256) (s : Nat) (hs : s < 10) (h1 : 1 ≤ s) (h2 : lead s ≤ c) (h3 : s < 9 → c < lead (s + 1)) : fsize c = s := by
  apply fsize_of' c hc s hs
  by_cases h9 : s < 9
  · simp [h1, h2, h9, h3 h9]
  · simp [h1, h2, h9]
theorem fsize_top : ∀ c : Nat, c < 256 → c - lead (fsize c) < 2 ^ (8 - fsize c) := by decide +kernel

/-- The number of a form: of the first byte what is behind the lead, and the further bytes. -/
def tval (c : Nat) (r : List UInt8) : Nat := (c - lead (fsize c)) * 256 ^ (fsize c - 1) + bval (r.take (fsize c - 1))

/-- The number with which bytes begin, how many bytes it has, and whether there is one. -/
def ntake : List UInt8 → Nat × Nat × Bool
  | [] => (0, 0, false)
  | c :: r => if r.length + 1 < fsize c.toNat then (0, 0, false) else if nsize (tval c.toNat r) = fsize c.toNat then (tval c.toNat r, fsize c.toNat, true) else (0, 0, false)

theorem take_len {r : List UInt8} {k : Nat} (h : k ≤ r.length) : (r.take k).length = k := by rw [List.length_take]; omega

theorem tval_lt (c : UInt8) (r : List UInt8) (h : ¬ r.length + 1 < fsize c.toNat) : tval c.toNat r < 18446744073709551616 := by
  have h1 := fsize_pos c.toNat
  have h2 := fsize_le c.toNat
  have h3 := fsize_top c.toNat c.toNat_lt
  have h4 := bval_lt (r.take (fsize c.toNat - 1))
  rw [take_len (by omega)] at h4
  unfold tval
  generalize c.toNat - lead (fsize c.toNat) = d at *
  generalize bval (r.take (fsize c.toNat - 1)) = v at *
  generalize fsize c.toNat = s at *
  obtain rfl | rfl | rfl | rfl | rfl | rfl | rfl | rfl | rfl : s = 1 ∨ s = 2 ∨ s = 3 ∨ s = 4 ∨ s = 5 ∨ s = 6 ∨ s = 7 ∨ s = 8 ∨ s = 9 := by omega
  all_goals
    simp only [Nat.reduceSub, Nat.reducePow] at *
    omega

theorem bval_form (c : UInt8) (r : List UInt8) (h : ¬ r.length + 1 < fsize c.toNat) : bval ((c :: r).take (fsize c.toNat)) = lead (fsize c.toNat) * 256 ^ (fsize c.toNat - 1) + tval c.toNat r := by
  have h1 := fsize_pos c.toNat
  have h2 := (fsize_lead c.toNat c.toNat_lt).1
  obtain ⟨k, hk⟩ : ∃ k, fsize c.toNat = k + 1 := ⟨fsize c.toNat - 1, by omega⟩
  unfold tval
  rw [hk] at h ⊢ h2
  rw [List.take_succ_cons, bval, take_len (by omega), Nat.add_sub_cancel]
  have : c.toNat * 256 ^ k = lead (k + 1) * 256 ^ k + (c.toNat - lead (k + 1)) * 256 ^ k := by rw [← Nat.add_mul]; congr 1; omega
  omega

/-- The bytes are the number's own just where the sizes agree. -/
theorem form_iff (c : UInt8) (r : List UInt8) (h : ¬ r.length + 1 < fsize c.toNat) : nput (tval c.toNat r) = (c :: r).take (fsize c.toNat) ↔ nsize (tval c.toNat r) = fsize c.toNat := by
  have hl : ((c :: r).take (fsize c.toNat)).length = fsize c.toNat := take_len (by simp; omega)
  constructor
  · intro e
    rw [← nput_length, e, hl]
  · intro e
    apply bval_inj (by rw [nput_length, hl, e])
    rw [bval_nput (tval_lt c r h), bval_form c r h, e]

theorem ntake_lt (l : List UInt8) : (ntake l).1 < 18446744073709551616 := by
  unfold ntake
  split
  · decide
  · rename_i c r
    by_cases h : r.length + 1 < fsize c.toNat
    · rw [if_pos h]; decide
    · rw [if_neg h]
      by_cases h' : nsize (tval c.toNat r) = fsize c.toNat
      · rw [if_pos h']; exact tval_lt c r h
      · rw [if_neg h']; decide
theorem ntake_size (l : List UInt8) : (ntake l).2.1 ≤ l.length ∧ (ntake l).2.1 ≤ 9 ∧ ((ntake l).2.2 = true → 1 ≤ (ntake l).2.1) := by
  unfold ntake
  split
  · simp
  · rename_i c r
    have := fsize_le c.toNat
    have := fsize_pos c.toNat
    by_cases h : r.length + 1 < fsize c.toNat
    · rw [if_pos h]; simp
    · rw [if_neg h]
      by_cases h' : nsize (tval c.toNat r) = fsize c.toNat
      · rw [if_pos h']; simp; omega
      · rw [if_neg h']; simp

/-- A number comes back from its bytes, whatever stands behind them. -/
theorem ntake_nput {n : Nat} (hn : n < 18446744073709551616) (t : List UInt8) : ntake (nput n ++ t) = (n, nsize n, true) := by
  obtain ⟨c, hc, hc1, hc2⟩ := first_bounds hn
  have h1 := nsize_pos n
  have h2 := nsize_le n
  obtain ⟨r, hr⟩ : ∃ r, nput n = c :: r := by
    cases h : nput n with
    | nil => rw [h] at hc; simp at hc
    | cons d r => rw [h] at hc; simp at hc; subst hc; exact ⟨r, rfl⟩
  have hs : fsize c.toNat = nsize n := fsize_of c.toNat c.toNat_lt _ (by omega) h1 hc1 hc2
  have hrl : r.length = nsize n - 1 := by
    have := nput_length n
    rw [hr] at this
    simp at this
    omega
  have hlen : ¬ (r ++ t).length + 1 < fsize c.toNat := by rw [hs]; simp; omega
  have hb := bval_form c (r ++ t) hlen
  have htk : (c :: (r ++ t)).take (fsize c.toNat) = nput n := by
    rw [hs, hr, ← List.cons_append, List.take_append_of_le_length (by simp; omega), List.take_of_length_le (by simp; omega)]
  rw [htk, bval_nput hn, hs] at hb
  have hv : tval c.toNat (r ++ t) = n := by omega
  rw [hr, List.cons_append, ntake, if_neg hlen, hv, hs, if_pos rfl]

/-- What is taken are the bytes of the number. -/
theorem ntake_true {l : List UInt8} (h : (ntake l).2.2 = true) : l.take (ntake l).2.1 = nput (ntake l).1 ∧ (ntake l).2.1 = nsize (ntake l).1 := by
  unfold ntake at h ⊢
  split at h
  · simp at h
  · rename_i c r
    by_cases h1 : r.length + 1 < fsize c.toNat
    · rw [if_pos h1] at h; simp at h
    · rw [if_neg h1] at h ⊢
      by_cases h' : nsize (tval c.toNat r) = fsize c.toNat
      · simp only [if_pos h']
        exact ⟨((form_iff c r h1).2 h').symm, h'.symm⟩
      · rw [if_neg h'] at h; simp at h
theorem ntake_false {l : List UInt8} (h : (ntake l).2.2 = false) : ntake l = (0, 0, false) := by
  unfold ntake at h ⊢
  split at h
  · rfl
  · rename_i c r
    by_cases h1 : r.length + 1 < fsize c.toNat
    · simp only [if_pos h1]
    · rw [if_neg h1] at h
      simp only [if_neg h1]
      by_cases h' : nsize (tval c.toNat r) = fsize c.toNat
      · rw [if_pos h'] at h; simp at h
      · simp only [if_neg h']

end Go.Proofs.Ytlclllkjnhgbjaa

namespace Go.Proofs.Ytlclllkjnhgbjaa
open Go.RowKit
set_option linter.unusedVariables false

theorem ret_int {k : IntKind} {a b : Int} (h : a = b) : Ending.returned (.int k a) = .returned (.int k b) := by rw [h]
/-- Strings as lists of bytes. -/
theorem str_at (l : List UInt8) (i : Nat) (h : i < (⟨l.toArray⟩ : ByteArray).size) : (⟨l.toArray⟩ : ByteArray)[i]'h = l[i]'(by simpa [ByteArray.size] using h) := by
  simp [ByteArray.getElem_eq_getElem_data]
theorem str_append (a b : List UInt8) : ((⟨a.toArray⟩ : ByteArray) ++ ⟨b.toArray⟩) = ⟨(a ++ b).toArray⟩ := by
  apply ByteArray.ext
  simp
theorem str_cons (c : UInt8) (b : List UInt8) : ((⟨#[c]⟩ : ByteArray) ++ ⟨b.toArray⟩) = ⟨(c :: b).toArray⟩ := str_append [c] b
theorem str_extract (l : List UInt8) (a b : Nat) : (⟨l.toArray⟩ : ByteArray).extract a b = ⟨((l.drop a).take (b - a)).toArray⟩ := by
  apply ByteArray.ext
  apply Array.toList_inj.1
  rw [Lib.extract_data]

/-- A quiet call, where the walk stands behind a quiet region. -/
theorem quiet_more {P : Program} {f : FuncId} {args : Array Value} {w : World} {a n : Nat} {v : Value}
    (h : Calls P f args (w.drewN (a + n)) fun e w' => e = .returned v ∧ w' = w.drewN (a + n)) :
    Calls P f args (w.drewN (a + n)) fun e w'' => e = .returned v ∧ ∃ m, w'' = w.drewN (a + m) :=
  h.mono fun _ _ ⟨he, hm⟩ => ⟨he, n, hm⟩

/-- All that was in memory is as it was; there may be more. -/
def Bel (w w' : World) : Prop := Below w.heap.size w w'
theorem Bel.refl (w : World) : Bel w w := Below.refl _ _
theorem Bel.size {w w' : World} (h : Bel w w') : w.heap.size ≤ w'.heap.size := Below.size h
theorem Bel.trans {a b c : World} (h : Bel a b) (k : Bel b c) : Bel a c := Below.trans h (Below.mono k h.size)
theorem Bel.alloc {a w : World} (h : Bel a w) (o : Obj) : Bel a (w.alloc o) := Below.alloc h h.size o
theorem Bel.drew {a w : World} (h : Bel a w) : Bel a w.drew := Below.drew h
theorem Bel.drewN {a w : World} (h : Bel a w) (n : Nat) : Bel a (w.drewN n) := ⟨h.os, h.tape, h.output, h.size, h.block⟩
theorem Bel.setCell {a w : World} (h : Bel a w) {p : Addr} (hp : a.heap.size ≤ p.block) (u : Value) : Bel a (w.setCell p u) := Below.setCell h hp u
theorem Bel.grown {a w w' : World} {row : Option Nat} (h : Bel a w) (hg : w.grownBy w' row) (hr : ∀ k, row = some k → a.heap.size ≤ k) : Bel a w' := Below.grown h hg h.size hr
theorem Bel.cell {w w' : World} (h : Bel w w') {p : Addr} (hp : p.block < w.heap.size) : w'.cell? p = w.cell? p := Below.cell h hp
theorem Bel.frozen {w w' : World} (h : Bel w w') {p : Addr} (hp : p.block < w.heap.size) : w'.frozen? p = w.frozen? p := Below.frozen h hp

end Go.Proofs.Ytlclllkjnhgbjaa

namespace Go.Proofs.Ytlclllkjnhgbjaa
open Go.RowKit
set_option linter.unusedVariables false

theorem cast_div_zero {n k : Nat} (h : ((n : Int) / 2 ^ k == 0) = true) : n < 2 ^ k := by
  have h1 : (n : Int) / ((2 ^ k : Nat) : Int) = 0 := by simpa using h
  rw [← Int.natCast_ediv] at h1
  exact div_zero_iff.1 (by omega)
theorem cast_div_pos {n k : Nat} (h : ((n : Int) / 2 ^ k == 0) = false) : 2 ^ k ≤ n := by
  have h1 : ¬ (n : Int) / ((2 ^ k : Nat) : Int) = 0 := by simpa using h
  rw [← Int.natCast_ediv] at h1
  have h2 : ¬ n / 2 ^ k = 0 := by omega
  rw [div_zero_iff] at h2
  omega

set_option maxHeartbeats 400000 in
theorem size_any (x : Int) (w : World) (h0 : 0 ≤ x) :
    Calls Try.prog 76 #[.int .u64 x] w fun e w' => e = .returned (.int .i64 (nsize x.toNat : Nat)) ∧ w = w' := by
  obtain ⟨n, rfl⟩ := Int.eq_ofNat_of_zero_le h0
  rw [Int.toNat_natCast]
  clear h0
  go_enter Try.func76, Try.ntmps76
  go_wp2
  go_loop [3] (fun i => ∃ k : Nat, 1 ≤ k ∧ k ≤ 9 ∧ i = .int .i64 k ∧ Hid (k = 1 ∨ 2^(7*(k-1)) ≤ n)) (fun i => 9 - (intOf i).toNat)
  case atStart => exact ⟨1, by omega, by omega, rfl, Or.inl rfl⟩
  case round =>
    obtain ⟨k, hk1, hk2, rfl, hd⟩ := hrel
    by_cases hlt : k < 9
    · go_wp2
      · have h : ((n : Int) / 2 ^ (7 * k) == 0) = true := by assumption
        have := nsize_of hk1 (by omega) (cast_div_zero h) hd.out
        go_ret
        exact ⟨ret_int (by omega), rfl⟩
      · have h : ((n : Int) / 2 ^ (7 * k) == 0) = false := by assumption
        have := cast_div_pos h
        go_round
        case rel => exact ⟨k + 1, by omega, by omega, by go_num, Or.inr this⟩
        case measure => simp [intOf]; omega
    · have hk : k = 9 := by omega
      have hN : Hid (nsize n = 9) := nsize_nine (by rcases hd.out with h | h; omega; subst hk; exact h)
      clear hd hk
      go_wp2
      go_ret
      exact ⟨ret_int (by have := hN.out; omega), rfl⟩

theorem lead_eq (s : Nat) (h1 : 1 ≤ s) (h2 : s ≤ 9) : ((255 * 2 ^ (9 - s) % 256 : Int)) = (lead s : Nat) := by
  obtain rfl | rfl | rfl | rfl | rfl | rfl | rfl | rfl | rfl : s = 1 ∨ s = 2 ∨ s = 3 ∨ s = 4 ∨ s = 5 ∨ s = 6 ∨ s = 7 ∨ s = 8 ∨ s = 9 := by omega
  all_goals decide

set_option maxHeartbeats 400000 in
theorem first_any (x : Int) (w : World) (h1 : 1 ≤ x) (h2 : x ≤ 9) :
    Calls Try.prog 75 #[.int .i64 x] w fun e w' => e = .returned (.int .u8 (lead x.toNat : Nat)) ∧ w = w' := by
  obtain ⟨s, rfl⟩ := Int.eq_ofNat_of_zero_le (show 0 ≤ x by omega)
  rw [Int.toNat_natCast]
  go_enter Try.func75, Try.ntmps75
  go_wp2
  go_ret
  exact ⟨ret_int (lead_eq s (by omega) (by omega)), rfl⟩

/-- The nine bytes while the lowest ones, from place t on, are laid. -/
def putByte (s n t j : Nat) : Nat := if t ≤ j ∧ j < s then n / 256 ^ (s - 1 - j) % 256 else 0
def putCells (s n t : Nat) : Array Value := ((List.range 9).map fun j => Value.int .u8 (putByte s n t j : Nat)).toArray
theorem putCells_size (s n t : Nat) : (putCells s n t).size = 9 := by simp [putCells]
theorem putCells_get (s n t j : Nat) (h : j < 9) : (putCells s n t)[j]? = some (Value.int .u8 (putByte s n t j : Nat)) := by simp [putCells, h]
theorem putCells_start (s n : Nat) : putCells s n s = #[.int .u8 0, .int .u8 0, .int .u8 0, .int .u8 0, .int .u8 0, .int .u8 0, .int .u8 0, .int .u8 0, .int .u8 0] := by
  have h : ∀ j, putByte s n s j = 0 := fun j => by unfold putByte; rw [if_neg (by omega)]
  simp [putCells, h, List.range_succ]
theorem putCells_step (s n t : Nat) (h : t < s) (hs : s ≤ 9) : (putCells s n (t + 1)).setIfInBounds t (.int .u8 (n / 256 ^ (s - 1 - t) % 256 : Nat)) = putCells s n t := by
  apply Array.ext_getElem?
  intro j
  rw [Array.getElem?_setIfInBounds]
  by_cases hj : j < 9
  · rw [putCells_get _ _ _ _ hj, putCells_get _ _ _ _ hj, putCells_size]
    by_cases e : t = j
    · subst e
      rw [if_pos rfl, if_pos hj]
      unfold putByte
      rw [if_pos (by omega)]
    · rw [if_neg e]
      unfold putByte
      by_cases c : t ≤ j ∧ j < s
      · rw [if_pos (by omega), if_pos c]
      · rw [if_neg (by omega), if_neg c]
  · rw [if_neg (by omega), Array.getElem?_eq_none (by rw [putCells_size]; omega), Array.getElem?_eq_none (by rw [putCells_size]; omega)]

/-- The nine bytes at the end. -/
def finCells (n : Nat) : Array Value := ((List.range 9).map fun j => Value.int .u8 (((nput n).getD j 0).toNat : Nat)).toArray
theorem finCells_size (n : Nat) : (finCells n).size = 9 := by simp [finCells]
theorem finCells_get (n j : Nat) (h : j < 9) : (finCells n)[j]? = some (Value.int .u8 (((nput n).getD j 0).toNat : Nat)) := by simp [finCells, h]

theorem or_lead : ∀ s : Nat, s < 9 → 1 ≤ s → ∀ a : Nat, a < 2 ^ (8 - s) → bits .or .u8 (a : Int) (lead s : Nat) = ((lead s + a : Nat) : Int) := by decide +kernel

theorem put_first {n : Nat} (hn : n < 18446744073709551616) : putByte (nsize n) n 0 0 = n / 256 ^ (nsize n - 1) ∧ (nput n).getD 0 0 = UInt8.ofNat (lead (nsize n) + n / 256 ^ (nsize n - 1)) ∧ lead (nsize n) + n / 256 ^ (nsize n - 1) < 256 ∧ (nsize n < 9 → n / 256 ^ (nsize n - 1) < 2 ^ (8 - nsize n)) ∧ (nsize n = 9 → n / 256 ^ (nsize n - 1) = 0) := by
  have h1 := nsize_pos n
  have h2 := nsize_le n
  have ht : n / 256 ^ (nsize n - 1) < 2 ^ (8 - nsize n) ∨ (nsize n = 9 ∧ n / 256 ^ (nsize n - 1) = 0) := by
    rcases top_lt hn with h | h
    · by_cases h9 : nsize n = 9
      · rw [h9] at h; simp at h
      · left; rwa [show 9 - nsize n = 8 - nsize n + 1 by omega, Nat.pow_succ, Nat.mul_div_cancel _ (by omega)] at h
    · exact .inr h
  have hlt : lead (nsize n) + n / 256 ^ (nsize n - 1) < 256 := by
    unfold lead
    rcases ht with h | ⟨h, h'⟩
    · by_cases h9 : nsize n = 9
      · rw [h9] at h ⊢; simp at h ⊢; omega
      · have h3 : 2 ^ (9 - nsize n) = 2 ^ (8 - nsize n) * 2 := by rw [← Nat.pow_succ]; congr 1; omega
        have h4 : (2 : Nat) ^ (8 - nsize n) ≤ 2 ^ 7 := Nat.pow_le_pow_right (by omega) (by omega)
        simp only [Nat.reducePow] at h4
        omega
    · rw [h', h]; simp
  refine ⟨?_, rfl, hlt, ?_, ?_⟩
  · unfold putByte
    rw [if_pos (by omega), Nat.sub_zero]
    exact Nat.mod_eq_of_lt (by omega)
  · intro h
    rcases ht with h' | h'
    · exact h'
    · omega
  · intro h
    rcases ht with h' | h'
    · rw [h] at h' ⊢; simp at h'; exact Nat.div_eq_of_lt hn
    · exact h'.2

theorem putCells_fin {n : Nat} (hn : n < 18446744073709551616) : (putCells (nsize n) n 0).setIfInBounds 0 (.int .u8 (lead (nsize n) + n / 256 ^ (nsize n - 1) : Nat)) = finCells n := by
  have h1 := nsize_pos n
  have h2 := nsize_le n
  obtain ⟨_, e2, e3, _, _⟩ := put_first hn
  apply Array.ext_getElem?
  intro j
  rw [Array.getElem?_setIfInBounds]
  by_cases hj : j < 9
  · rw [putCells_get _ _ _ _ hj, finCells_get _ _ hj, putCells_size]
    by_cases e : 0 = j
    · subst e
      rw [if_pos rfl, if_pos hj, e2]
      simp [Nat.mod_eq_of_lt e3]
    · rw [if_neg e]
      unfold putByte
      by_cases c : j < nsize n
      · have := nput_getElem? n j hn c
        rw [if_pos (by omega), List.getD_eq_getElem?_getD, this]
        simp [show ¬ j = 0 by omega]
      · rw [if_neg (by omega), List.getD_eq_getElem?_getD, List.getElem?_eq_none (by rw [nput_length]; omega)]
        simp
  · rw [if_neg (by omega), Array.getElem?_eq_none (by rw [putCells_size]; omega), Array.getElem?_eq_none (by rw [finCells_size]; omega)]

theorem conv_fin (n : Nat) (w w' : World) (hw : ∀ i, w'.cell? ⟨w.heap.size, i, none⟩ = (finCells n)[i]?) (cap : Nat) (s : Nat) (hs : nsize n = s) :
    (convert 103 9 (.slice (some ⟨w.heap.size, 0, none⟩) s cap)).run Try.prog w' = .ok (.string ⟨(nput n).toArray⟩) w' := by
  have h2 := nsize_le n
  have hsz : (⟨(nput n).toArray⟩ : ByteArray).size = s := by simp [ByteArray.size, nput_length, hs]
  have h := Lib.run_convert_whole (P := Try.prog) w' 103 5 9 Try.underlying103 Try.underlying5 Try.underlying9 w.heap.size 0 ⟨(nput n).toArray⟩ (fun i hi => by
    have hi' : i < nsize n := by rw [hs, ← hsz]; exact hi
    rw [Nat.zero_add, hw, finCells_get _ _ (by omega)]
    have : (⟨(nput n).toArray⟩ : ByteArray)[i] = (nput n).getD i 0 := by
      simp [ByteArray.getElem_eq_getElem_data, List.getD_eq_getElem?_getD, List.getElem?_eq_getElem (show i < (nput n).length by rw [nput_length]; exact hi')]
    rw [this]) cap
  rw [hsz] at h
  exact h

theorem put_or {n : Nat} (hn : n < 18446744073709551616) (h9 : nsize n < 9) :
    (putCells (nsize n) n 0).setIfInBounds 0 (.int .u8 (bits .or .u8 (putByte (nsize n) n 0 0 : Nat) (lead (nsize n) : Nat))) = finCells n := by
  obtain ⟨e1, _, _, e4, _⟩ := put_first hn
  rw [e1, or_lead _ h9 (nsize_pos n) _ (e4 h9), putCells_fin hn]
theorem put_nine {n : Nat} (hn : n < 18446744073709551616) (h9 : nsize n = 9) :
    (putCells (nsize n) n 0).setIfInBounds 0 (.int .u8 (lead (nsize n) : Nat)) = finCells n := by
  obtain ⟨_, _, _, _, e5⟩ := put_first hn
  rw [← putCells_fin hn, e5 h9]
  rfl

theorem len9 : Try.prog.arrayLen 146 = 9 := by kernel_rfl
theorem slice9 (a : Addr) (s : Nat) (hs : s ≤ 9) (W : World) : (Instr.sliceAt 146 (.pointer (some a)) none (some (.int .i64 s)) none).run Try.prog W = .ok (.slice (some a) s 9) W := by
  have hz : ∀ w, (sizeOf (Try.prog.elem 146)).run Try.prog w = .ok 1 w := fun _ => by kernel_rfl
  rw [run_sliceAt_array_h W 146 a (by kernel_rfl) .i64 s (by omega) (by rw [len9]; omega), hz]
  simp [len9, slicedAt, Addr.add]

set_option maxRecDepth 100000 in
set_option maxHeartbeats 400000 in
theorem put_any (x : Int) (w : World) (h0 : 0 ≤ x) (hx : x < 18446744073709551616) :
    Calls Try.prog 68 #[.int .u64 x] w fun e w' => e = .returned (.string ⟨(nput x.toNat).toArray⟩) ∧ Bel w w' := by
  obtain ⟨n, rfl⟩ := Int.eq_ofNat_of_zero_le h0
  rw [Int.toNat_natCast]
  have hn : n < 18446744073709551616 := by omega
  clear h0 hx
  have hs1 := nsize_pos n
  have hs2 := nsize_le n
  have Hn := Lib.hid hn
  clear hn
  go_enter Try.func68, Try.ntmps68
  go_wp2_with (go_at_call 76; refine (size_any _ _ (by omega)).mono ?_; rintro e w' ⟨rfl, rfl⟩)
  rw [← putCells_start (nsize n) n]
  obtain ⟨s, Hs⟩ : ∃ s, Hid (nsize n = s) := ⟨_, rfl⟩
  rw [Hs.out] at hs1 hs2
  rw [Hs.out]
  go_loopw [0, 5] (fun m i wr => ∃ t : Nat, t ≤ s ∧ i = .int .i64 ((t : Int) - 1) ∧ m = .int .u64 (n / 256 ^ (s - t) : Nat) ∧ wr = w.alloc (.cells (putCells s n t) 146)) (fun _ i _ => (intOf i + 1).toNat)
  case atStart => exact ⟨s, by omega, rfl, by simp, rfl⟩
  case round =>
    obtain ⟨t, ht, rfl, rfl, rfl⟩ := hrel
    cases t with
    | succ t =>
      have hg := putCells_get s n (t + 1) t (by omega)
      go_wp2
      go_roundw
      case rel =>
        refine ⟨t, by omega, rfl, ?_, ?_⟩
        · rw [show s - t = s - (t + 1) + 1 by omega, Nat.pow_succ, ← Nat.div_div_eq_div_mul]
          simp
        · rw [← putCells_step s n t (by omega) hs2, show s - 1 - t = s - (t + 1) by omega]
          simp
      case measure => simp [intOf]
    | zero =>
      have hg := putCells_get s n 0 0 (by omega)
      by_cases h9 : s < 9
      · go_wp2
        go_region_with (go_at_call 75; refine (first_any _ _ (by omega) (by omega)).mono ?_; rintro e w' ⟨rfl, rfl⟩)
        all_goals
          have q1 := put_or Hn.out (by rw [Hs.out]; exact h9)
          have q3 := conv_fin n w (w.alloc (.cells (finCells n) 146)).drew (fun i => by simp) 9 s Hs.out
          rw [Hs.out] at q1
          rw [q1]
          clear q1
          have q4 := slice9 ⟨w.heap.size, 0, none⟩ s (by omega)
          go_wp2
          go_ret
          exact ⟨rfl, ((Bel.refl _).alloc _).drew⟩
      · obtain rfl : s = 9 := by omega
        have q1 := put_nine Hn.out Hs.out
        rw [Hs.out] at q1
        have q3 := conv_fin n w (w.alloc (.cells (finCells n) 146)) (fun i => by simp) 9 9 Hs.out
        clear h9
        go_wp2_with (go_at_call 75; refine (first_any _ _ (by omega) (by omega)).mono ?_; rintro e w' ⟨rfl, rfl⟩; simp only [show Int.toNat 9 = 9 from rfl])
        go_ret
        exact ⟨rfl, (Bel.refl _).alloc _⟩

end Go.Proofs.Ytlclllkjnhgbjaa

namespace Go.Proofs.Ytlclllkjnhgbjaa
open Go.RowKit
set_option linter.unusedVariables false

/-- Numbers with a sign beside one another. -/
def nfold (i : Int) : Nat := if i < 0 then (2 * (-i - 1) + 1).toNat else (2 * i).toNat
/-- It leads back. -/
def nunfold (n : Nat) : Int := if n % 2 = 1 then -((n / 2 : Nat) : Int) - 1 else ((n / 2 : Nat) : Int)

theorem nunfold_nfold (i : Int) : nunfold (nfold i) = i := by
  unfold nfold nunfold
  by_cases h : i < 0
  · rw [if_pos h, if_pos (by omega)]; omega
  · rw [if_neg h, if_neg (by omega)]; omega
theorem nfold_nunfold (n : Nat) : nfold (nunfold n) = n := by
  unfold nfold nunfold
  by_cases h : n % 2 = 1
  · rw [if_pos h, if_pos (by omega)]; omega
  · rw [if_neg h, if_neg (by omega)]; omega
theorem nfold_lt {i : Int} (h0 : -9223372036854775808 ≤ i) (h1 : i ≤ 9223372036854775807) : nfold i < 18446744073709551616 := by
  unfold nfold
  by_cases h : i < 0
  · rw [if_pos h]; omega
  · rw [if_neg h]; omega
theorem xor_m1 (x : Int) (h0 : -9223372036854775808 ≤ x) (h1 : x ≤ 9223372036854775807) : bits .xor .i64 (-1) x = -x - 1 := by
  show IntKind.i64.wrap ((BitVec.ofInt 64 (-1) ^^^ BitVec.ofInt 64 x).toNat : Int) = _
  rw [show BitVec.ofInt 64 (-1) = BitVec.allOnes 64 from rfl, BitVec.allOnes_xor, BitVec.toNat_not, BitVec.toNat_ofInt, IntKind.wrap_i64]
  simp only [Nat.reducePow]
  omega
theorem or_one_u64 (a : Int) (h0 : 0 ≤ a) (h1 : a * 2 < 18446744073709551616) : bits .or .u64 (a * 2) 1 = a * 2 + 1 := by
  obtain ⟨n, rfl⟩ := Int.eq_ofNat_of_zero_le h0
  have h := u64_or_nat (n * 2) 1 (by omega) (by omega)
  rw [Nat.or_comm, nat_join1' (n * 2) 1 (by omega) (by omega)] at h
  have e : ((n * 2 : Nat) : Int) = (n : Int) * 2 := by omega
  have e1 : ((1 : Nat) : Int) = 1 := rfl
  rw [e, e1] at h
  rw [h]
  omega

set_option maxHeartbeats 400000 in
theorem fold_any (x : Int) (w : World) (h0 : -9223372036854775808 ≤ x) (h1 : x ≤ 9223372036854775807) :
    Calls Try.prog 114 #[.int .i64 x] w fun e w' => e = .returned (.int .u64 (nfold x : Nat)) ∧ w = w' := by
  by_cases h : x < 0
  · have q1 := xor_m1 x h0 h1
    have q3 : Hid (bits BinOp.or IntKind.u64 (IntKind.u64.wrap (IntKind.u64.wrap (-x - 1) * 2)) 1 = (nfold x : Int)) := by
      show _ = _
      rw [IntKind.wrap_u64, IntKind.wrap_u64, Int.emod_eq_of_lt (by omega) (by omega), Int.emod_eq_of_lt (by omega) (by omega), or_one_u64 (-x - 1) (by omega) (by omega)]
      unfold nfold; rw [if_pos h]; omega
    have b1 : 0 ≤ -x - 1 := by omega
    have b2 : -x - 1 ≤ 9223372036854775807 := by omega
    go_enter Try.func114, Try.ntmps114
    go_wp2
    go_ret
    exact ⟨ret_int q3.out, rfl⟩
  · have q3 : Hid ((nfold x : Int) = x * 2) := by show _ = _; unfold nfold; rw [if_neg h]; omega
    go_enter Try.func114, Try.ntmps114
    go_wp2
    go_ret
    exact ⟨ret_int q3.out.symm, rfl⟩

set_option maxHeartbeats 400000 in
theorem rfold_any (x : Int) (w : World) (h0 : -9223372036854775808 ≤ x) (h1 : x ≤ 9223372036854775807) :
    Calls Try.prog 110 #[.int .i64 x] w fun e w' => e = .returned (.int .u64 (nfold x : Nat)) ∧ w = w' := by
  by_cases h : x < 0
  · have q3 : Hid ((nfold x : Int) = 2 * (-(x + 1)) + 1) := by show _ = _; unfold nfold; rw [if_pos h]; omega
    go_enter Try.func110, Try.ntmps110
    go_wp2
    go_ret
    exact ⟨ret_int q3.out.symm, rfl⟩
  · have q3 : Hid ((nfold x : Int) = 2 * x) := by show _ = _; unfold nfold; rw [if_neg h]; omega
    go_enter Try.func110, Try.ntmps110
    go_wp2
    go_ret
    exact ⟨ret_int q3.out.symm, rfl⟩

set_option maxHeartbeats 400000 in
theorem unfold_any (x : Int) (w : World) (h0 : 0 ≤ x) (h1 : x < 18446744073709551616) :
    Calls Try.prog 115 #[.int .u64 x] w fun e w' => e = .returned (.int .i64 (nunfold x.toNat)) ∧ w = w' := by
  obtain ⟨n, rfl⟩ := Int.eq_ofNat_of_zero_le h0
  rw [Int.toNat_natCast]
  have b1 : (0 : Int) ≤ (n : Int) / 2 := by omega
  have b2 : (n : Int) / 2 ≤ 9223372036854775807 := by omega
  have q1 := xor_m1 ((n : Int) / 2) (by omega) (by omega)
  by_cases h : n % 2 = 1
  · have q2 : (bits BinOp.and IntKind.u64 (n : Int) 1 == 1) = true := by rw [and_one_u64 _ (by omega) (by omega)]; simp; omega
    have q3 : Hid (nunfold n = -((n : Int) / 2) - 1) := by show _ = _; unfold nunfold; rw [if_pos h]; omega
    clear h0 h1 h
    go_enter Try.func115, Try.ntmps115
    go_wp2
    go_ret
    exact ⟨ret_int q3.out.symm, rfl⟩
  · have q2 : (bits BinOp.and IntKind.u64 (n : Int) 1 == 1) = false := by rw [and_one_u64 _ (by omega) (by omega)]; simp; omega
    have q3 : Hid (nunfold n = (n : Int) / 2) := by show _ = _; unfold nunfold; rw [if_neg h]; omega
    clear h0 h1 h
    go_enter Try.func115, Try.ntmps115
    go_wp2
    go_ret
    exact ⟨ret_int q3.out.symm, rfl⟩

set_option maxHeartbeats 400000 in
theorem runfold_any (x : Int) (w : World) (h0 : 0 ≤ x) (h1 : x < 18446744073709551616) :
    Calls Try.prog 112 #[.int .u64 x] w fun e w' => e = .returned (.int .i64 (nunfold x.toNat)) ∧ w = w' := by
  obtain ⟨n, rfl⟩ := Int.eq_ofNat_of_zero_le h0
  rw [Int.toNat_natCast]
  have b1 : (0 : Int) ≤ (n : Int) / 2 := by omega
  have b2 : (n : Int) / 2 ≤ 9223372036854775807 := by omega
  by_cases h : n % 2 = 1
  · have q2 : ((n : Int) % 2 == 0) = false := by simp; omega
    have q3 : Hid (nunfold n = -((n : Int) / 2) - 1) := by show _ = _; unfold nunfold; rw [if_pos h]; omega
    clear h0 h1 h
    go_enter Try.func112, Try.ntmps112
    go_wp2
    go_ret
    exact ⟨ret_int q3.out.symm, rfl⟩
  · have q2 : ((n : Int) % 2 == 0) = true := by simp; omega
    have q3 : Hid (nunfold n = (n : Int) / 2) := by show _ = _; unfold nunfold; rw [if_neg h]; omega
    clear h0 h1 h
    go_enter Try.func112, Try.ntmps112
    go_wp2
    go_ret
    exact ⟨ret_int q3.out.symm, rfl⟩

set_option maxHeartbeats 400000 in
theorem putInt_any (x : Int) (w : World) (h0 : -9223372036854775808 ≤ x) (h1 : x ≤ 9223372036854775807) :
    Calls Try.prog 108 #[.int .i64 x] w fun e w' => e = .returned (.string ⟨(nput (nfold x)).toArray⟩) ∧ Bel w w' := by
  have hf := nfold_lt h0 h1
  go_enter Try.func108, Try.ntmps108
  go_wp2_with fail
  refine (fold_any _ _ h0 h1).mono ?_; rintro e w1 ⟨rfl, rfl⟩
  have Hf := Lib.hid hf
  clear h0 h1 hf
  go_wp2_with fail
  refine (put_any _ _ (by omega) (by have := Hf.out; omega)).mono ?_; rintro e w2 ⟨rfl, hb⟩
  rw [Int.toNat_natCast]
  go_wp2
  go_ret
  exact ⟨rfl, hb⟩

end Go.Proofs.Ytlclllkjnhgbjaa

namespace Go.Proofs.Ytlclllkjnhgbjaa
open Go.RowKit
set_option linter.unusedVariables false

attribute [local go_sem] str_at

theorem ones_step : ∀ b : Nat, b < 256 → (if bits BinOp.and IntKind.u8 (b : Int) 128 = 0 then fsize b = 1 else fsize b = 1 + fsize (b * 2 % 256)) := by decide +kernel

set_option maxRecDepth 100000 in
set_option maxHeartbeats 400000 in
theorem ones_any (x : Int) (w : World) (h0 : 0 ≤ x) (h1 : x < 256) :
    Calls Try.prog 74 #[.int .u8 x] w fun e w' => e = .returned (.int .i64 ((fsize x.toNat : Nat) - 1 : Int)) ∧ w = w' := by
  obtain ⟨c, rfl⟩ := Int.eq_ofNat_of_zero_le h0
  rw [Int.toNat_natCast]
  have hc := fsize_le c
  go_enter Try.func74, Try.ntmps74
  go_wp2
  go_loop [0, 3] (fun b n => ∃ k p : Nat, p < 256 ∧ k + fsize p ≤ 9 ∧ n = .int .i64 k ∧ b = .int .u8 p ∧ Hid (k + fsize p = fsize c)) (fun b _ => fsize (intOf b).toNat)
  case atStart => exact ⟨0, c, by omega, by omega, rfl, rfl, by show _ = _; omega⟩
  case round =>
    obtain ⟨k, p, hp, hk, rfl, rfl, hd⟩ := hrel
    have hst := ones_step p hp
    by_cases hb : bits BinOp.and IntKind.u8 (p : Int) 128 = 0
    · rw [if_pos hb] at hst
      have q1 : (bits BinOp.and IntKind.u8 (p : Int) 128 != 0) = false := by simp [hb]
      have hq : Hid ((k : Int) = (fsize c : Int) - 1) := by have := hd.out; show _ = _; omega
      clear hb hst hd
      go_wp2
      go_ret
      exact ⟨ret_int hq.out, rfl⟩
    · rw [if_neg hb] at hst
      have q1 : (bits BinOp.and IntKind.u8 (p : Int) 128 != 0) = true := by simp [hb]
      have Hst := Lib.hid hst
      clear hb hst
      go_wp2
      go_round
      case rel => exact ⟨k + 1, p * 2 % 256, by omega, by have := Hst.out; omega, by go_num, by simp, by have := Hst.out; have := hd.out; show _ = _; omega⟩
      case measure => have := Hst.out; simp only [intOf, Int.toNat_natCast]; rw [show ((p : Int) * 2 % 256).toNat = p * 2 % 256 by omega]; omega

set_option maxRecDepth 100000 in
set_option maxHeartbeats 400000 in
theorem take_nil (w : World) : Calls Try.prog 42 #[.string ⟨([] : List UInt8).toArray⟩] w fun e w' => e = .returned (.tuple #[.int .u64 0, .int .i64 0, .bool false]) ∧ w = w' := by
  go_enter Try.func42, Try.ntmps42
  go_wp2
  go_ret3
  exact ⟨rfl, rfl⟩

set_option maxRecDepth 100000 in
set_option maxHeartbeats 400000 in
theorem take_short (c : UInt8) (r : List UInt8) (w : World) (hr : r.length ≤ 1000000) (h : r.length + 1 < fsize c.toNat) : Calls Try.prog 42 #[.string ⟨(c :: r).toArray⟩] w fun e w' => e = .returned (.tuple #[.int .u64 0, .int .i64 0, .bool false]) ∧ w = w' := by
  have hc := fsize_le c.toNat
  have hc' := c.toNat_lt
  go_enter Try.func42, Try.ntmps42
  go_wp2_with fail
  refine (ones_any _ _ (by omega) (by omega)).mono ?_; rintro e w1 ⟨rfl, rfl⟩
  go_wp2
  go_ret3
  exact ⟨rfl, rfl⟩

theorem andNot_lead : ∀ c : Nat, c < 256 → bits BinOp.andNot IntKind.u8 (c : Int) ((lead (fsize c) : Nat) : Int) = ((c - lead (fsize c) : Nat) : Int) := by decide +kernel

theorem first_same (x : Int) (w : World) (h1 : 1 ≤ x) (h2 : x ≤ 9) :
    Calls Try.prog 75 #[.int .i64 x] w fun e w' => e = .returned (.int .u8 (lead x.toNat : Nat)) ∧ w' = w :=
  (first_any x w h1 h2).mono fun _ _ h => ⟨h.1, h.2.symm⟩

/-- The number while its bytes are read. -/
def pval (d : Nat) (r : List UInt8) (k : Nat) : Nat := d * 256 ^ k + bval (r.take k)
theorem pval_zero (d : Nat) (r : List UInt8) : pval d r 0 = d := by simp [pval, bval]
theorem pval_step (d : Nat) (r : List UInt8) (k : Nat) (h : k < r.length) : pval d r (k + 1) = pval d r k * 256 + r[k].toNat := by
  unfold pval
  rw [List.take_succ_eq_append_getElem h, bval_append]
  simp only [bval, List.length_cons, List.length_nil, Nat.zero_add, Nat.pow_zero, Nat.mul_one, Nat.add_zero, Nat.pow_succ, Nat.add_mul, Nat.mul_assoc]
  omega
theorem pval_lt (c : Nat) (hc : c < 256) (r : List UInt8) (k : Nat) (h : k + 1 < fsize c) (hk : k ≤ r.length) : pval (c - lead (fsize c)) r k < 72057594037927936 := by
  have h2 := fsize_le c
  have h3 := fsize_top c hc
  have h4 := bval_lt (r.take k)
  rw [take_len hk] at h4
  unfold pval
  generalize c - lead (fsize c) = d at *
  generalize bval (r.take k) = v at *
  generalize fsize c = s at *
  have h5 : (d + 1) * 256 ^ k ≤ 2 ^ (8 - s) * 256 ^ k := Nat.mul_le_mul_right _ h3
  have h6 : 2 ^ (8 - s) * 256 ^ k ≤ 2 ^ (8 - s) * 256 ^ (s - 2) := Nat.mul_le_mul_left _ (Nat.pow_le_pow_right (by omega) (by omega))
  have h7 : 2 ^ (8 - s) * 256 ^ (s - 2) ≤ 72057594037927936 := by
    obtain rfl | rfl | rfl | rfl | rfl | rfl | rfl | rfl : s = 2 ∨ s = 3 ∨ s = 4 ∨ s = 5 ∨ s = 6 ∨ s = 7 ∨ s = 8 ∨ s = 9 := by omega
    all_goals decide
  rw [Nat.add_mul] at h5
  omega

theorem or_byte_u64 (p b : Nat) (hp : p < 72057594037927936) (hb : b < 256) : bits .or .u64 ((p : Int) * 256) (b : Int) = ((p * 256 + b : Nat) : Int) := by
  have h := u64_or_nat (p * 256) b (by omega) (by omega)
  rw [Nat.or_comm, nat_join8' (p * 256) b (by omega) (by omega)] at h
  rw [← h]
  simp

set_option maxRecDepth 100000 in
set_option maxHeartbeats 400000 in
theorem take_long (c : UInt8) (r : List UInt8) (w : World) (hr : r.length ≤ 1000000) (h : ¬ r.length + 1 < fsize c.toNat) :
    Calls Try.prog 42 #[.string ⟨(c :: r).toArray⟩] w fun e w' => e = .returned (.tuple #[.int .u64 ((ntake (c :: r)).1 : Nat), .int .i64 ((ntake (c :: r)).2.1 : Nat), .bool (ntake (c :: r)).2.2]) ∧ Bel w w' := by
  have hc := fsize_le c.toNat
  have hc1 := fsize_pos c.toNat
  have hc' := c.toNat_lt
  have q1 := andNot_lead c.toNat hc'
  have hd : c.toNat - lead (fsize c.toNat) ≤ 255 := by omega
  obtain ⟨d, Hd⟩ : ∃ d, Hid (c.toNat - lead (fsize c.toNat) = d) := ⟨_, rfl⟩
  rw [Hd.out] at q1 hd
  have Hl := Lib.hid (pval_lt c.toNat hc' r)
  have He : Hid (tval c.toNat r = pval d r (fsize c.toNat - 1)) := by show _ = _; unfold tval pval; rw [Hd.out]
  have Hf : Hid (ntake (c :: r) = if nsize (tval c.toNat r) = fsize c.toNat then (tval c.toNat r, fsize c.toNat, true) else (0, 0, false)) := by show _ = _; rw [ntake, if_neg h]
  rw [Hd.out] at Hl
  have hd0 : decide ((r.length : Int) + 1 < ((fsize c.toNat : Nat) : Int)) = false := by simp; omega
  go_enter Try.func42, Try.ntmps42
  go_wp2_with fail
  refine (ones_any _ _ (by omega) (by omega)).mono ?_; rintro e w1 ⟨rfl, rfl⟩
  go_wp2_with fail
  go_quiet ((go_at_call 75; exact Calls.quiet_of_same (first_same _ _ (by omega) (by omega))))
  rw [Int.toNat_natCast]
  have q2 : (((fsize c.toNat : Nat) : Int) == 9) = decide (fsize c.toNat = 9) := by rw [Bool.eq_iff_iff]; simp; omega
  have e9 : fsize c.toNat = 9 → d = 0 := by
    intro e
    have := (fsize_lead c.toNat hc').2.2.1 e
    rw [← Hd.out, e, this]
    rfl
  clear hd0
  obtain ⟨s, Hs⟩ : ∃ s, Hid (fsize c.toNat = s) := ⟨_, rfl⟩
  rw [Hs.out] at hc hc1 h Hl He Hf q2 e9 ⊢
  obtain ⟨b9, q3, q4⟩ : ∃ b, ((s : Int) == 9) = b ∧ Hid (b = true → d = 0) := ⟨_, rfl, fun hb => e9 (by simpa [q2] using hb)⟩
  clear q1 q2 e9
  cases b9
  all_goals
    go_wp2_with fail
    go_loop [6, 7] (fun n i => ∃ k p : Nat, k + 1 ≤ s ∧ i = .int .i64 ((k : Int) + 1) ∧ n = .int .u64 p ∧ Hid (p = pval d r k)) (fun _ i => s - (intOf i).toNat)
    case atStart => first | exact ⟨0, d, by omega, by simp, rfl, (pval_zero d r).symm⟩ | exact ⟨0, 0, by omega, by simp, rfl, by rw [pval_zero]; exact (q4.out (by first | rfl | trivial)).symm⟩
    case round =>
      obtain ⟨k, p, hk, rfl, rfl, hp⟩ := hrel
      by_cases hlt : k + 1 < s
      · have hkr : k < r.length := by omega
        have b1 : p < 72057594037927936 := by rw [hp.out]; exact Hl.out k hlt (by omega)
        have b2 := r[k].toNat_lt
        have q5 := or_byte_u64 p r[k].toNat b1 b2
        have Hst := Lib.hid (pval_step d r k hkr)
        go_wp2
        go_round
        case rel => exact ⟨k + 1, p * 256 + r[k].toNat, by omega, by go_num, by go_num, by rw [hp.out]; exact Hst.out.symm⟩
        case measure => simp [intOf]; omega
      · have hks : k + 1 = s := by omega
        have Hp : Hid (tval c.toNat r = p) := by show _ = _; rw [He.out, hp.out, ← hks]; rfl
        rw [Hp.out] at Hf
        clear hp He hks
        by_cases hz : nsize p = s
        · have Hz := Lib.hid hz
          have q6 : (((nsize p : Nat) : Int) != (s : Int)) = false := by simp [hz]
          clear hz
          go_wp2_with (go_at_call 76; refine (size_any _ _ (by omega)).mono ?_; rintro e w2 ⟨rfl, rfl⟩; rw [Int.toNat_natCast])
          go_ret3
          rw [Hf.out, if_pos Hz.out]
          exact ⟨rfl, (Bel.refl w).drewN _⟩
        · have Hz := Lib.hid hz
          have q6 : (((nsize p : Nat) : Int) != (s : Int)) = true := by simp; omega
          clear hz
          go_wp2_with (go_at_call 76; refine (size_any _ _ (by omega)).mono ?_; rintro e w2 ⟨rfl, rfl⟩; rw [Int.toNat_natCast])
          go_ret3
          rw [Hf.out, if_neg Hz.out]
          exact ⟨rfl, (Bel.refl w).drewN _⟩

/-- num.Take. -/
theorem take_any (l : List UInt8) (w : World) (hl : l.length ≤ 1000001) :
    Calls Try.prog 42 #[.string ⟨l.toArray⟩] w fun e w' => e = .returned (.tuple #[.int .u64 ((ntake l).1 : Nat), .int .i64 ((ntake l).2.1 : Nat), .bool (ntake l).2.2]) ∧ Bel w w' := by
  cases l with
  | nil => exact (take_nil w).mono fun _ _ h => ⟨h.1, h.2 ▸ Bel.refl w⟩
  | cons c r =>
    have hr : r.length ≤ 1000000 := by simpa using hl
    by_cases h : r.length + 1 < fsize c.toNat
    · refine (take_short c r w hr h).mono fun _ _ h' => ⟨?_, h'.2 ▸ Bel.refl w⟩
      rw [ntake, if_pos h]
      exact h'.1
    · exact take_long c r w hr h

end Go.Proofs.Ytlclllkjnhgbjaa

namespace Go.Proofs.Ytlclllkjnhgbjaa
open Go.RowKit
set_option linter.unusedVariables false

theorem block_of_add (a : Addr) (n : Nat) : (a.add n).block = a.block := by unfold Addr.add; split <;> rfl
theorem add_of_add (a : Addr) (i j : Nat) : (a.add i).add j = a.add (i + j) := by
  unfold Addr.add
  by_cases hi : i = 0 <;> by_cases hj : j = 0 <;> simp [hi, hj, Nat.add_assoc]

def Reads (w : World) (B size : Nat) (A : Option Addr) (n : Nat) (xs : List Value) : Prop :=
  xs.length = n * size ∧ (0 < n → ∃ ad, A = some ad ∧ ad.block < B ∧ ∀ j u, xs[j]? = some u → w.cell? (ad.add j) = some u)

section
variable {w w' : World} {B B' size n : Nat} {A : Option Addr} {xs : List Value}
theorem Reads.at_ {k : Nat} (h : Reads w B 1 A n xs) (hk : k < n) : ∃ ad u, A = some ad ∧ ad.block < B ∧ xs[k]? = some u ∧ w.cell? (ad.add k) = some u := by
  obtain ⟨ad, e, hb, hc⟩ := h.2 (by omega)
  have hl : k < xs.length := by have := h.1; omega
  exact ⟨ad, xs[k], e, hb, List.getElem?_eq_getElem hl, hc k _ (List.getElem?_eq_getElem hl)⟩
theorem Reads.keep (h : Reads w B size A n xs) (hk : ∀ p : Addr, p.block < B → w'.cell? p = w.cell? p) : Reads w' B size A n xs :=
  ⟨h.1, fun hn => by
    obtain ⟨ad, e, hb, hc⟩ := h.2 hn
    exact ⟨ad, e, hb, fun j u hu => (hk _ (by rw [block_of_add]; exact hb)).trans (hc j u hu)⟩⟩
theorem Reads.more (h : Reads w B size A n xs) (hB : B ≤ B') : Reads w B' size A n xs :=
  ⟨h.1, fun hn => by
    obtain ⟨ad, e, hb, hc⟩ := h.2 hn
    exact ⟨ad, e, by omega, hc⟩⟩
theorem Reads.below (h : Reads w B size A n xs) (hb : Below B w w') : Reads w' B size A n xs := h.keep fun _ hp => hb.cell hp
theorem Reads.drew (h : Reads w B size A n xs) : Reads w.drew B size A n xs := h
theorem Reads.drewN (h : Reads w B size A n xs) (k : Nat) : Reads (w.drewN k) B size A n xs := h
theorem Reads.alloc (h : Reads w B size A n xs) (hB : B ≤ w.heap.size) (o : Obj) : Reads (w.alloc o) B size A n xs := h.keep fun p hp => World.cell?_alloc_lt w o p (by omega)
theorem Reads.setCell (h : Reads w B size A n xs) {p : Addr} (hB : B ≤ p.block) (u : Value) : Reads (w.setCell p u) B size A n xs :=
  h.keep fun q hq => World.cell?_setCell_other w p q u (fun e => by subst e; omega)
theorem Reads.grown (h : Reads w B size A n xs) {row : Option Nat} (hg : w.grownBy w' row) (hB : B ≤ w.heap.size) (hr : ∀ g, row = some g → B ≤ g) : Reads w' B size A n xs :=
  h.keep fun p hp => World.cell?_of_block (hg.block p.block (by omega) (fun e => by have := hr _ e.symm; omega))
theorem Reads.cut (h : Reads w B size A n xs) {k cap : Nat} (hk : k ≤ n) (hc : n ≤ cap) :
    Reads w B size (if cap = k then A else A.map (·.add (k * size))) (n - k) (xs.drop (k * size)) := by
  refine ⟨by rw [List.length_drop, h.1, Nat.sub_mul], fun hn => ?_⟩
  obtain ⟨ad, rfl, hb, hcell⟩ := h.2 (by omega)
  rw [if_neg (by omega)]
  refine ⟨ad.add (k * size), rfl, by rw [block_of_add]; exact hb, fun j u hu => ?_⟩
  rw [add_of_add]
  exact hcell _ u (by rw [← hu, List.getElem?_drop])
theorem Reads.of_own {base : Nat} {e : TypeId} {c : Nat} (h : w.ownsRow base e size (.slice A n c) n xs) : Reads w w.heap.size size A n xs := by
  refine ⟨h.1, fun hn => ?_⟩
  obtain ⟨g, cap, hv, _, hlt⟩ := h.form hn
  have hA : A = some ⟨g, 0, none⟩ := by injection hv
  subst hA
  exact ⟨_, rfl, hlt, h.cells (g := g) rfl⟩
end

section
variable {P : Program} (w : World)

theorem run_append_of_nil (base : Nat) (t ty e : TypeId) (i : TypeInfo) (size : Nat) (ht : P.underlying t = some (.slice e)) (hi : P.info? e = some i)
    (v : Value) (n : Nat) (xs : List Value) (hown : w.ownsRow base e size v n xs) (c : Nat) : (Builtin.append_ #[t, t] ty #[v, .slice none 0 c]).run P w = .ok v w := by
  rcases hown.2 with ⟨rfl, rfl⟩ | ⟨g, cap, cur, rfl, _, _, hnc, _⟩
  · simp [Builtin.append_, run_underlying ht, sizeOf, typeInfo, hi, Builtin.lenOf, Builtin.firstCells]
  · simp [Builtin.append_, run_underlying ht, sizeOf, typeInfo, hi, Builtin.lenOf, Builtin.firstCells, hnc, storeCells]

theorem run_append_any (base : Nat) (t ty e : TypeId) (i : TypeInfo) (z : Value) (size bytes : Nat) (ht : P.underlying t = some (.slice e)) (hi : P.info? e = some i) (hz : i.zero = some z)
    (hsize : i.size = size) (hby : i.bytes = bytes) (hzs : z.cells.size = size) (hsz : 0 < size)
    (v : Value) (n : Nat) (xs : List Value) (hown : w.ownsRow base e size v n xs)
    (B : Nat) (A : Option Addr) (m c : Nat) (news : List Value) (hr : Reads w B size A m news) (h1 : ∀ u ∈ news, u.oneCell' = true)
    (h63 : n + m ≤ maxLen) (hbytes : (n + m) * bytes ≤ 140737488355328) (hbase : base ≤ w.heap.size) :
    ∃ v' w', (Builtin.append_ #[t, t] ty #[v, .slice A m c]).run P w = .ok v' w' ∧ w'.ownsRow base e size v' (n + m) (xs ++ news) ∧ w.grownBy w' v.ownBlock ∧
      (v'.ownBlock = v.ownBlock ∨ v'.ownBlock = some w.heap.size) := by
  rcases A with _ | ad
  · have hm : m = 0 := by
      rcases Nat.eq_zero_or_pos m with h0 | h0
      · exact h0
      · obtain ⟨ad, h, _⟩ := hr.2 h0
        cases h
    subst hm
    have hn : news = [] := List.eq_nil_of_length_eq_zero (by simpa using hr.1)
    subst hn
    exact ⟨v, w, run_append_of_nil w base t ty e i size ht hi v n xs hown c, by simpa using hown, World.grownBy.refl w _, .inl rfl⟩
  · have hcells : ∀ j u, news[j]? = some u → w.cell? (ad.add j) = some u := by
      intro j u hu
      rcases Nat.eq_zero_or_pos m with h0 | h0
      · subst h0
        have hn : news = [] := List.eq_nil_of_length_eq_zero (by simpa using hr.1)
        subst hn
        simp at hu
      · obtain ⟨ad', h, _, hc⟩ := hr.2 h0
        injection h with h
        subst h
        exact hc j u hu
    obtain ⟨v', w', hrun, h2, h3, _, h5⟩ := run_append_own_at (P := P) w base t ty e i z size bytes ht hi hz hsize hby hzs hsz v n xs hown ad m c news hr.1 hcells h1 h63 hbytes hbase
    exact ⟨v', w', hrun, h2, h3, h5⟩

theorem wp_append_any {o : Oper} {a : Act} {K : Act → World → Prop} {Q : Exit → Act → World → Prop} (s x : Operand) (t : TypeId)
    (ho : o.op = .call { callee := .builtin .append, args := #[s, x], argTypes := #[t, t] })
    (base : Nat) (e : TypeId) (i : TypeInfo) (z : Value) (size bytes : Nat) (ht : P.underlying t = some (.slice e)) (hi : P.info? e = some i) (hz : i.zero = some z)
    (hsize : i.size = size) (hby : i.bytes = bytes) (hzs : z.cells.size = size) (hsz : 0 < size)
    (v : Value) (n : Nat) (xs : List Value) (hs : a.eval s = v) (hown : w.ownsRow base e size v n xs)
    (B : Nat) (A : Option Addr) (m c : Nat) (news : List Value) (hx : a.eval x = .slice A m c) (hr : Reads w B size A m news) (h1 : ∀ u ∈ news, u.oneCell' = true)
    (h63 : n + m ≤ maxLen) (hbytes : (n + m) * bytes ≤ 140737488355328) (hbase : base ≤ w.heap.size)
    (h : ∀ v' w', w'.ownsRow base e size v' (n + m) (xs ++ news) → w.grownBy w' v.ownBlock → (v'.ownBlock = v.ownBlock ∨ v'.ownBlock = some w.heap.size) → K (a.put o.dst v') w') : o.wp P a w K Q := by
  obtain ⟨v', w', hrun, h2, h3, h4⟩ := run_append_any (P := P) w base t o.type e i z size bytes ht hi hz hsize hby hzs hsz v n xs hown B A m c news hr h1 h63 hbytes hbase
  unfold Oper.wp execOp
  simp only [ho, resolve, invoke, builtin, Sem.run_bind, Sem.run_pure, Result.andThen_ok, List.map_toArray, List.map_cons, List.map_nil, hs, hx, hrun]
  exact h v' w' h2 h3 h4

end

/-- A slice value reads as these cells. -/
def Rd (w : World) (size : Nat) (A : Option Addr) (n : Nat) (xs : List Value) : Prop := Reads w w.heap.size size A n xs
theorem Rd.bel {w w' : World} {size n : Nat} {A : Option Addr} {xs : List Value} (h : Rd w size A n xs) (hb : Bel w w') : Rd w' size A n xs := (Reads.below h hb).more hb.size
theorem Rd.of_own {w : World} {base : Nat} {e : TypeId} {size n c : Nat} {A : Option Addr} {xs : List Value} (h : w.ownsRow base e size (.slice A n c) n xs) : Rd w size A n xs := Reads.of_own h
theorem Rd.nil {w : World} {size : Nat} {A : Option Addr} : Rd w size A 0 [] := ⟨by simp, fun h => absurd h (by omega)⟩
theorem Rd.int {w : World} {A : Option Addr} {n k : Nat} {kd : IntKind} {zs : List Int} (h : Rd w 1 A n (zs.map (Value.int kd))) (hk : k < n) :
    ∃ ad z, A = some ad ∧ zs[k]? = some z ∧ w.cell? (ad.add k) = some (.int kd z) := by
  obtain ⟨ad, u, e, _, hx, hc⟩ := Reads.at_ h hk
  rw [List.getElem?_map] at hx
  cases hz : zs[k]? with
  | none => rw [hz] at hx; cases hx
  | some z =>
    rw [hz] at hx
    simp at hx
    subst hx
    exact ⟨ad, z, e, rfl, hc⟩
theorem Rd.len {w : World} {A : Option Addr} {n : Nat} {xs : List Value} (h : Rd w 1 A n xs) : xs.length = n := by have := h.1; omega

/-- What append asks of a slice's type. -/
structure ElemInfo (P : Program) (t e : TypeId) (size bytes : Nat) : Prop where
  ht : P.underlying t = some (.slice e)
  hi : ∃ i z, P.info? e = some i ∧ i.zero = some z ∧ i.size = size ∧ i.bytes = bytes ∧ z.cells.size = size
  pos : 0 < size

theorem ElemInfo.mk' {P : Program} {t e : TypeId} {size bytes : Nat} {z : Value} (ht : P.underlying t = some (.slice e))
    (h : (P.info? e).map (fun i => (i.zero, i.size, i.bytes)) = some (some z, size, bytes)) (hz : z.cells.size = size) (pos : 0 < size) : ElemInfo P t e size bytes := by
  obtain ⟨i0, hi0, hz0, hz1, hz2⟩ := info_parts h
  exact ⟨ht, ⟨i0, z, hi0, hz0, hz1, hz2, hz⟩, pos⟩

theorem own_slice {w : World} {base : Nat} {e : TypeId} {size n : Nat} {v : Value} {xs : List Value} (h : w.ownsRow base e size v n xs) : ∃ A c, v = .slice A n c ∧ n ≤ c := by
  rcases h.2 with ⟨rfl, rfl⟩ | ⟨g, cap, cur, rfl, _, _, hc, _⟩
  · exact ⟨_, _, rfl, Nat.le_refl _⟩
  · exact ⟨_, _, rfl, hc⟩

theorem reads_of_block {w : World} {g m size : Nat} {cs : Array Value} {e : TypeId} (hb : w.heap[g]? = some (.cells cs e (0, 0))) (hcs : cs.size = m * size) : Reads w w.heap.size size (some ⟨g, 0, none⟩) m cs.toList := by
  refine ⟨by simpa using hcs, fun _ => ⟨_, rfl, ?_, fun j u hu => ?_⟩⟩
  · rcases Nat.lt_or_ge g w.heap.size with h | h
    · exact h
    · rw [Array.getElem?_eq_none h] at hb; cases hb
  · have ha : (⟨g, 0, none⟩ : Addr).add j = ⟨g, j, none⟩ := by
      unfold Addr.add
      split
      · rename_i h; subst h; rfl
      · simp
    rw [ha, cell_of_row w g j cs e (0, 0) hb]
    simpa using hu

section
variable {P : Program} {w : World}
end

theorem grown_of_bel {w w' : World} (h : Bel w w') (row : Option Nat) : w.grownBy w' row := ⟨h.os, h.tape, h.output, h.size, fun i hi _ => h.block i hi⟩
theorem own_bel {w w' : World} {base : Nat} {e : TypeId} {size n : Nat} {v : Value} {xs : List Value} (h : w.ownsRow base e size v n xs) (hb : Bel w w') : w'.ownsRow base e size v n xs := by
  refine h.kept (grown_of_bel hb none) ?_
  cases v.ownBlock with
  | none => exact .inl rfl
  | some k => exact .inr (by simp)
def Blk (w : World) (g : Nat) (t : TypeId) (cs : Array Value) : Prop := w.heap[g]? = some (.cells cs t (0, 0))

section
variable {w w' : World} {g : Nat} {t : TypeId} {cs : Array Value}
theorem Blk.lt (h : Blk w g t cs) : g < w.heap.size := by
  rcases Nat.lt_or_ge g w.heap.size with hlt | hge
  · exact hlt
  · unfold Blk at h; rw [Array.getElem?_eq_none hge] at h; cases h
theorem Blk.cell (h : Blk w g t cs) (i : Nat) : w.cell? ⟨g, i, none⟩ = cs[i]? := cell_of_row w g i cs t (0, 0) h
theorem Blk.frozen (h : Blk w g t cs) (i : Nat) : w.frozen? ⟨g, i, none⟩ = false := by
  unfold Blk at h
  simp [World.frozen?, h]
theorem Blk.new (w : World) (t : TypeId) (cs : Array Value) : Blk (w.alloc (.cells cs t)) w.heap.size t cs := heap_alloc_new w _
theorem Blk.drew (h : Blk w g t cs) : Blk w.drew g t cs := h
theorem Blk.drewN (h : Blk w g t cs) (n : Nat) : Blk (w.drewN n) g t cs := h
theorem Blk.alloc (h : Blk w g t cs) (o : Obj) : Blk (w.alloc o) g t cs := (Below.heap_alloc w o g h.lt).trans h
theorem Blk.set_ (h : Blk w g t cs) (i : Nat) (u : Value) : Blk (w.setCell ⟨g, i, none⟩ u) g t (cs.setIfInBounds i u) := by
  unfold Blk at h ⊢
  simp [World.setCell, Array.getElem?_modify, h]
theorem Blk.far (h : Blk w g t cs) {p : Addr} (hp : g ≠ p.block) (u : Value) : Blk (w.setCell p u) g t cs := (Below.heap_setCell w p u g hp).trans h
theorem Blk.below {B : Nat} (h : Blk w g t cs) (hb : Below B w w') (hg : g < B) : Blk w' g t cs := (hb.block g hg).trans h
theorem Blk.grown {row : Option Nat} (h : Blk w g t cs) (hb : w.grownBy w' row) (hg : some g ≠ row) : Blk w' g t cs := (hb.block g h.lt hg).trans h
theorem Blk.ne_ {g' : Nat} {t' : TypeId} {cs' : Array Value} (h : Blk w g t cs) (h' : Blk w g' t' cs') (hne : t ≠ t') : g ≠ g' := by
  rintro rfl
  unfold Blk at h h'
  rw [h] at h'
  injection h' with h'
  injection h' with _ ht
  exact hne ht
theorem own_blk_ne {base : Nat} {e : TypeId} {size n : Nat} {v : Value} {xs : List Value} (h : w.ownsRow base e size v n xs) (hg : Blk w g t cs) (hne : e ≠ t) : v.ownBlock ≠ some g := by
  rcases h.2 with ⟨rfl, _⟩ | ⟨g', cap, cur, rfl, _, hh, _⟩
  · simp [Value.ownBlock]
  · intro he
    have : g' = g := by simpa [Value.ownBlock] using he
    subst this
    exact Blk.ne_ (t := e) hh hg hne rfl
end
theorem Blk.bel {w w' : World} {g : Nat} {t : TypeId} {cs : Array Value} (h : Blk w g t cs) (hb : Bel w w') : Blk w' g t cs := h.below hb h.lt

end Go.Proofs.Ytlclllkjnhgbjaa

namespace Go.Proofs.Ytlclllkjnhgbjaa
open Go.RowKit
set_option linter.unusedVariables false

theorem str_from (l : List UInt8) (a : Nat) : (⟨l.toArray⟩ : ByteArray).extract a l.length = ⟨(l.drop a).toArray⟩ := by
  rw [str_extract, List.take_of_length_le (by simp)]
theorem str_upto (l : List UInt8) (b : Nat) : (⟨l.toArray⟩ : ByteArray).extract 0 b = ⟨(l.take b).toArray⟩ := by
  rw [str_extract]
  simp

/-- A world in which all of another one is as it was. -/
structure Over (w : World) where
  wd : World
  bel : Bel w wd
instance (w : World) : Nonempty (Over w) := ⟨⟨w, Bel.refl w⟩⟩

section
variable {P : Program} {w : World}
theorem wp_region_over {id : Nat} {Q : Exit → Act → World → Prop} {a : Act} {l : List Oper} (hm : P.follows .mixedOrders = true) (hB : Region.lexB .any l.toArray = true)
    (h : wpQuiet P l.toArray (fun w' => ∃ u : Over w, w' = u.wd) (fun a' => ∀ w', (∃ u : Over w, w' = u.wd) → Q .normal a' w') l a) : (Code.region id l.toArray true).wp P Q a w :=
  wp_region_quiet (C := fun w' => ∃ u : Over w, w' = u.wd) hm hB ⟨⟨_, (Bel.refl w).drew⟩, rfl⟩ (by simpa using h)

theorem calls_over {f : FuncId} {args : Array Value} {u : Over w} {v : Value} (h : Calls P f args u.wd fun e w' => e = .returned v ∧ Bel u.wd w') :
    Calls P f args u.wd fun e w'' => e = .returned v ∧ ∃ m : Over w, w'' = m.wd :=
  h.mono fun _ w' ⟨he, hm⟩ => ⟨he, ⟨w', u.bel.trans hm⟩, rfl⟩
theorem calls_over_same {f : FuncId} {args : Array Value} {u : Over w} {v : Value} (h : Calls P f args u.wd fun e w' => e = .returned v ∧ u.wd = w') :
    Calls P f args u.wd fun e w'' => e = .returned v ∧ ∃ m : Over w, w'' = m.wd :=
  h.mono fun _ w' ⟨he, hm⟩ => ⟨he, u, hm.symm⟩
theorem Over.cell {p : Addr} {v : Value} (h : w.cell? p = some v) (u : Over w) : u.wd.cell? p = some v := (u.bel.cell (World.block_lt_of_cell? _ _ h)).trans h
end

end Go.Proofs.Ytlclllkjnhgbjaa

namespace Go.Proofs.Ytlclllkjnhgbjaa
open Go.RowKit
set_option linter.unusedVariables false

/-- The cells of a whole struct in memory. -/
theorem Blk.range {w : World} {g : Nat} {t : TypeId} {cs : Array Value} (h : Blk w g t cs) : w.rangeAt g 0 cs.toList := fun j v hv => by
  rw [Nat.zero_add, h.cell]
  simpa using hv
theorem Blk.there {w : World} {g : Nat} {t : TypeId} {cs : Array Value} (h : Blk w g t cs) {n : Nat} (hn : n ≤ cs.size) : w.there g 0 n := fun j hj => by
  rw [Nat.zero_add, h.cell, h.frozen]
  exact ⟨by rw [Array.getElem?_eq_getElem (by omega)]; rfl, rfl⟩

/-- What a whole load or store asks of a struct's or array's type. -/
structure RowTy (P : Program) (ty : TypeId) (n : Nat) : Prop where
  hu : ∃ d, P.underlying ty = some d ∧ d.isRow = true
  hi : (P.info? ty).map (·.size) = some n

section
variable {P : Program}
theorem wpList_load_row_at {ops : Array Oper} {rest : List Oper} {op : Oper} {a : Act} {w : World} {Q : Exit → Act → World → Prop} (hgd : op.guard = none) {ty : TypeId} {n : Nat} (R : RowTy P ty n) (x : Operand) (ho : op.op = .load ty x)
    (b o : Nat) (hx : a.eval x = .pointer (some ⟨b, o, none⟩)) (cs : Array Value) (hn : cs.size = n) (hc : w.rangeAt b o cs.toList)
    (h : wpList P ops Q rest (a.put op.dst (.agg cs)) w) : wpList P ops Q (op :: rest) a w := by
  obtain ⟨d, hu, hd⟩ := R.hu
  exact wpList_load_mid hgd ty x ho b o hx cs.toList d hc hu hd (by rw [R.hi]; simp [hn]) (by simpa using h)
theorem wpList_load_blk {ops : Array Oper} {rest : List Oper} {op : Oper} {a : Act} {w : World} {Q : Exit → Act → World → Prop} (hgd : op.guard = none) {ty : TypeId} {n : Nat} (R : RowTy P ty n) (x : Operand) (ho : op.op = .load ty x)
    (g : Nat) (hx : a.eval x = .pointer (some ⟨g, 0, none⟩)) {t : TypeId} {cs : Array Value} (hb : Blk w g t cs) (hn : cs.size = n)
    (h : wpList P ops Q rest (a.put op.dst (.agg cs)) w) : wpList P ops Q (op :: rest) a w :=
  wpList_load_row_at hgd R x ho g 0 hx cs hn hb.range h

theorem wpList_load_blkG {ops : Array Oper} {rest : List Oper} {op : Oper} {a : Act} {w : World} {Q : Exit → Act → World → Prop} (hw : Region.wanted op (yielded ops a.tmps) = true) {ty : TypeId} {n : Nat} (R : RowTy P ty n) (x : Operand) (ho : op.op = .load ty x)
    (g : Nat) (hx : a.eval x = .pointer (some ⟨g, 0, none⟩)) {t : TypeId} {cs : Array Value} (hb : Blk w g t cs) (hn : cs.size = n)
    (h : wpList P ops Q rest (a.put op.dst (.agg cs)) w) : wpList P ops Q (op :: rest) a w := by
  obtain ⟨d, hu, hd⟩ := R.hu
  refine wpList_step fun K hK => ?_
  rw [if_pos hw]
  exact wp_load_mid ty x ho g 0 hx cs.toList d hb.range hu hd (by rw [R.hi]; simp [hn]) (hK _ _ (by simpa using h))

theorem setCells_grown (w : World) (g : Nat) : ∀ (vs : List Value) (o : Nat), w.grownBy (w.setCells g o vs) (some g)
  | [], o => World.grownBy.refl w _
  | v :: vs, o => by
    have h1 : w.grownBy (w.setCell ⟨g, o, none⟩ v) (some g) :=
      ⟨rfl, rfl, rfl, by simp [World.setCell], fun i hi hne => Below.heap_setCell w _ _ i (fun e => hne (by rw [e]))⟩
    have h2 := setCells_grown (w.setCell ⟨g, o, none⟩ v) g vs (o + 1)
    exact h1.trans h2

/-- Cells laid one behind the other. -/
def setAll (cs : Array Value) : Nat → List Value → Array Value
  | _, [] => cs
  | o, v :: vs => setAll (cs.setIfInBounds o v) (o + 1) vs
theorem setAll_size : ∀ (vs : List Value) (o : Nat) (cs : Array Value), (setAll cs o vs).size = cs.size
  | [], _, _ => rfl
  | v :: vs, o, cs => by rw [setAll, setAll_size vs]; simp
theorem setAll_get : ∀ (vs : List Value) (o : Nat) (cs : Array Value) (j : Nat), j < cs.size → (setAll cs o vs)[j]? = if o ≤ j ∧ j < o + vs.length then vs[j - o]? else cs[j]?
  | [], o, cs, j, hj => by rw [if_neg (by simp), setAll]
  | v :: vs, o, cs, j, hj => by
    rw [setAll, setAll_get vs (o + 1) _ j (by simpa using hj)]
    by_cases h1 : o + 1 ≤ j ∧ j < o + 1 + vs.length
    · rw [if_pos h1, if_pos (by simp only [List.length_cons]; omega), show j - o = (j - (o + 1)) + 1 by omega, List.getElem?_cons_succ]
    · rw [if_neg h1, Array.getElem?_setIfInBounds]
      by_cases h2 : o = j
      · subst h2
        rw [if_pos rfl, if_pos hj, if_pos (by simp)]
        simp
      · rw [if_neg h2, if_neg (by simp only [List.length_cons]; omega)]
theorem setAll_all (cs cs' : Array Value) (h : cs.size = cs'.size) : setAll cs 0 cs'.toList = cs' := by
  apply Array.ext_getElem?
  intro j
  by_cases hj : j < cs.size
  · rw [setAll_get _ _ _ _ hj, if_pos (by simp; omega)]
    simp
  · rw [Array.getElem?_eq_none (by rw [setAll_size]; omega), Array.getElem?_eq_none (by omega)]
theorem Blk.setAll {t : TypeId} : ∀ (vs : List Value) (o : Nat) {w : World} {g : Nat} {cs : Array Value}, Blk w g t cs → Blk (w.setCells g o vs) g t (Proofs.Ytlclllkjnhgbjaa.setAll cs o vs)
  | [], o, _, _, _, h => h
  | v :: vs, o, _, _, _, h => Blk.setAll vs (o + 1) (h.set_ o v)

/-- A whole struct stored at a block's head: the block is the struct; nothing else has turned. -/
theorem wpList_store_blk {ops : Array Oper} {rest : List Oper} {op : Oper} {a : Act} {w : World} {Q : Exit → Act → World → Prop} (hgd : op.guard = none) {ty : TypeId} {n : Nat} (R : RowTy P ty n) (x y : Operand) (ho : op.op = .store ty x y)
    (g : Nat) (hx : a.eval x = .pointer (some ⟨g, 0, none⟩)) {t : TypeId} {cs : Array Value} (hb : Blk w g t cs) (hn : cs.size = n) (cs' : Array Value) (hn' : cs'.size = n) (hy : a.eval y = .agg cs') (h1 : cs'.all (·.oneCell') = true)
    (h : ∀ w', Blk w' g t cs' → w.grownBy w' (some g) → wpList P ops Q rest (a.put op.dst undef) w') : wpList P ops Q (op :: rest) a w := by
  refine wpList_store_mid hgd ty x y ho g 0 cs' hx hy (hb.there (by omega)) (by rw [R.hi, hn']) h1 (h _ ?_ (setCells_grown w g _ _))
  have := Blk.setAll cs'.toList 0 hb
  rwa [setAll_all cs cs' (by omega)] at this

theorem Bel.grownAt {a w w' : World} {g : Nat} (h : Bel a w) (hg : w.grownBy w' (some g)) (hr : a.heap.size ≤ g) : Bel a w' := h.grown hg fun k e => by injection e with e; omega
end

/-- A function's two results, the first a struct in memory. -/
theorem results_blk {P : Program} {fn : Func} {p u : Tmp} {ty : TypeId} {n : Nat} (h : fn.results = #[.cell p ty, .tmp u]) (R : RowTy P ty n) {tmps : Array Value} {w : World} {g : Nat} {t : TypeId} {cs : Array Value}
    (hp : tmps.getD p undef = .pointer (some ⟨g, 0, none⟩)) (hb : Blk w g t cs) (hn : cs.size = n) :
    (results fn tmps).run P w = .ok (.tuple #[.agg cs, tmps.getD u undef]) w := by
  obtain ⟨d, hu, hd⟩ := R.hu
  rw [results_cell_tmp h, hp]
  simp only [asAddr, Sem.run_pure, Result.andThen_ok]
  rw [run_loadVar_mid w g 0 ty cs.toList d hb.range hu hd (by rw [R.hi]; simp [hn])]
  simp

end Go.Proofs.Ytlclllkjnhgbjaa

namespace Go.Proofs.Ytlclllkjnhgbjaa
open Go.RowKit
set_option linter.unusedVariables false

theorem pow2_le {i : Nat} (h : i ≤ 56) : (2 : Nat) ^ i ≤ 72057594037927936 := by
  have : (2 : Nat) ^ i ≤ 2 ^ 56 := Nat.pow_le_pow_right (by omega) h
  simpa using this

set_option maxHeartbeats 400000 in
theorem bound_any (x : Int) (w : World) (h0 : 0 ≤ x) (h1 : x ≤ 8) :
    Calls Try.prog 109 #[.int .i64 x] w fun e w' => e = .returned (.int .u64 ((2 ^ (7 * x.toNat) : Nat) : Int)) ∧ w = w' := by
  obtain ⟨s, rfl⟩ := Int.eq_ofNat_of_zero_le h0
  rw [Int.toNat_natCast]
  go_enter Try.func109, Try.ntmps109
  go_wp2
  go_loop [3, 4] (fun n i => ∃ k p : Nat, k ≤ 7 * s ∧ i = .int .i64 k ∧ n = .int .u64 p ∧ Hid (p = 2 ^ k)) (fun _ i => 7 * s - (intOf i).toNat)
  case atStart => exact ⟨0, 1, by omega, rfl, rfl, rfl⟩
  case round =>
    obtain ⟨k, p, hk, rfl, rfl, hp⟩ := hrel
    by_cases hlt : k < 7 * s
    · have hb : p ≤ 72057594037927936 := by rw [hp.out]; exact pow2_le (by omega)
      go_wp2
      go_round
      case rel => exact ⟨k + 1, p * 2, by omega, by go_num, by go_num, by show _ = _; rw [hp.out, Nat.pow_succ]⟩
      case measure => simp [intOf]; omega
    · have : k = 7 * s := by omega
      have hq : Hid (p = 2 ^ (7 * s)) := by rw [← this]; exact hp
      clear hp this
      go_wp2
      go_ret
      exact ⟨ret_int (by simp [hq.out]), rfl⟩

theorem lead_step : ∀ k : Nat, k < 9 → 1 ≤ k → lead k + 128 / 2 ^ (k - 1) = lead (k + 1) ∧ 128 / 2 ^ (k - 1) / 2 = 128 / 2 ^ k ∧ lead k ≤ 255 ∧ 128 / 2 ^ (k - 1) ≤ 128 := by decide

set_option maxHeartbeats 400000 in
theorem rlead_any (x : Int) (w : World) (h0 : 1 ≤ x) (h1 : x ≤ 9) :
    Calls Try.prog 82 #[.int .i64 x] w fun e w' => e = .returned (.int .i64 (lead x.toNat : Nat)) ∧ w = w' := by
  obtain ⟨s, rfl⟩ := Int.eq_ofNat_of_zero_le (show 0 ≤ x by omega)
  rw [Int.toNat_natCast]
  go_enter Try.func82, Try.ntmps82
  go_wp2
  go_loop [3, 4, 5] (fun n b i => ∃ k p q : Nat, 1 ≤ k ∧ k ≤ s ∧ i = .int .i64 k ∧ n = .int .i64 p ∧ b = .int .i64 q ∧ Hid (p = lead k ∧ q = 128 / 2 ^ (k - 1))) (fun _ _ i => s - (intOf i).toNat)
  case atStart => exact ⟨1, 0, 128, by omega, by omega, rfl, rfl, rfl, rfl, rfl⟩
  case round =>
    obtain ⟨k, p, q, hk1, hk, rfl, rfl, rfl, hp⟩ := hrel
    by_cases hlt : k < s
    · obtain ⟨s1, s2, s3, s4⟩ := lead_step k (by omega) hk1
      have b1 : p ≤ 255 := by rw [hp.out.1]; exact s3
      have b2 : q ≤ 128 := by rw [hp.out.2]; exact s4
      have S : Hid (p + q = lead (k + 1) ∧ q / 2 = 128 / 2 ^ k) := by rw [hp.out.1, hp.out.2]; exact ⟨s1, s2⟩
      clear s1 s2 s3 s4
      go_wp2
      go_round
      case rel => exact ⟨k + 1, p + q, q / 2, by omega, by omega, by go_num, by go_num, by go_num, S.out.1, S.out.2⟩
      case measure => simp [intOf]; omega
    · have : k = s := by omega
      have hq : Hid (p = lead s) := by rw [← this]; exact hp.out.1
      clear hp this
      go_wp2
      go_ret
      exact ⟨ret_int (by simp [hq.out]), rfl⟩

set_option maxHeartbeats 400000 in
theorem rsize_any (x : Int) (w : World) (h0 : 0 ≤ x) :
    Calls Try.prog 97 #[.int .u64 x] w fun e w' => e = .returned (.int .i64 (nsize x.toNat : Nat)) ∧ w = w' := by
  obtain ⟨n, rfl⟩ := Int.eq_ofNat_of_zero_le h0
  rw [Int.toNat_natCast]
  clear h0
  go_enter Try.func97, Try.ntmps97
  go_wp2
  go_loop [3] (fun i => ∃ k : Nat, 1 ≤ k ∧ k ≤ 9 ∧ i = .int .i64 k ∧ Hid (k = 1 ∨ 2^(7*(k-1)) ≤ n)) (fun i => 9 - (intOf i).toNat)
  case atStart => exact ⟨1, by omega, by omega, rfl, Or.inl rfl⟩
  case round =>
    obtain ⟨k, hk1, hk2, rfl, hd⟩ := hrel
    by_cases hlt : k < 9
    · obtain ⟨p, hp⟩ : ∃ p : Nat, Hid (2 ^ (7 * k) = p) := ⟨_, rfl⟩
      by_cases hc : p ≤ n
      · go_wp2_with (go_at_call 109; refine (bound_any _ _ (by omega) (by omega)).mono ?_; rintro e w' ⟨rfl, rfl⟩; rw [Int.toNat_natCast, hp.out])
        go_round
        case rel => exact ⟨k + 1, by omega, by omega, by go_num, Or.inr (by rw [Nat.add_sub_cancel, hp.out]; exact hc)⟩
        case measure => simp [intOf]; omega
      · have hN : Hid (nsize n = k) := nsize_of hk1 (by omega) (by rw [hp.out]; omega) hd.out
        go_wp2_with (go_at_call 109; refine (bound_any _ _ (by omega) (by omega)).mono ?_; rintro e w' ⟨rfl, rfl⟩; rw [Int.toNat_natCast, hp.out])
        go_ret
        exact ⟨ret_int (by have := hN.out; omega), rfl⟩
    · have hk : k = 9 := by omega
      have hN : Hid (nsize n = 9) := nsize_nine (by rcases hd.out with h | h; omega; subst hk; exact h)
      clear hd hk
      go_wp2
      go_ret
      exact ⟨ret_int (by have := hN.out; omega), rfl⟩

theorem be_cons (k n : Nat) : be (k + 1) n = UInt8.ofNat (n / 256 ^ k % 256) :: be k n := by
  apply List.ext_getElem?
  intro j
  by_cases hj : j < k + 1
  · rw [be_getElem? _ _ _ hj]
    cases j with
    | zero => simp
    | succ j => rw [List.getElem?_cons_succ, be_getElem? _ _ _ (by omega)]; simp; congr 4; omega
  · rw [List.getElem?_eq_none (by rw [be_length]; omega), List.getElem?_eq_none (by simp [be_length]; omega)]

/-- A new slice of one byte as a string. -/
theorem conv1 (x : Int) (h0 : 0 ≤ x) (h1 : x < 256) (W : World) :
    (convert 103 9 (.slice (some ⟨W.heap.size, 0, none⟩) 1 1)).run Try.prog (W.alloc (.cells #[.int .u8 x] 5)) = .ok (.string ⟨[UInt8.ofNat x.toNat].toArray⟩) (W.alloc (.cells #[.int .u8 x] 5)) := by
  exact Lib.run_convert_whole (P := Try.prog) _ 103 5 9 Try.underlying103 Try.underlying5 Try.underlying9 W.heap.size 0 ⟨[UInt8.ofNat x.toNat].toArray⟩ (fun i hi => by
    have hi' : i = 0 := by
      have : i < 1 := hi
      omega
    subst hi'
    have : (⟨[UInt8.ofNat x.toNat].toArray⟩ : ByteArray)[0] = UInt8.ofNat x.toNat := rfl
    rw [this]
    have e : ((UInt8.ofNat x.toNat).toNat : Int) = x := by
      rw [UInt8.toNat_ofNat']
      omega
    rw [e]
    simp) 1

theorem nput_eq (n s : Nat) (h : nsize n = s) (c : Nat) (hc : c = lead s + n / 256 ^ (s - 1)) (l : List UInt8) (hl : l = be (s - 1) n) : UInt8.ofNat c :: l = nput n := by
  subst h hc hl
  rfl

theorem rput_top {n : Nat} (hn : n < 18446744073709551616) : n / 256 ^ (nsize n - 1) ≤ 255 ∧ lead (nsize n) + n / 256 ^ (nsize n - 1) < 256 := by
  obtain ⟨_, _, e3, _, _⟩ := put_first hn
  omega

set_option maxRecDepth 100000 in
set_option maxHeartbeats 400000 in
theorem rput_any (x : Int) (w : World) (h0 : 0 ≤ x) (hx : x < 18446744073709551616) :
    Calls Try.prog 72 #[.int .u64 x] w fun e w' => e = .returned (.string ⟨(nput x.toNat).toArray⟩) ∧ Bel w w' := by
  obtain ⟨n, rfl⟩ := Int.eq_ofNat_of_zero_le h0
  rw [Int.toNat_natCast]
  have hn : n < 18446744073709551616 := by omega
  clear h0 hx
  have hs1 := nsize_pos n
  have hs2 := nsize_le n
  have Hn := Lib.hid hn
  clear hn
  go_enter Try.func72, Try.ntmps72
  go_wp2_with (go_at_call 97; refine (rsize_any _ _ (by omega)).mono ?_; rintro e w' ⟨rfl, rfl⟩)
  obtain ⟨s, Hs⟩ : ∃ s, Hid (nsize n = s) := ⟨_, rfl⟩
  rw [Hs.out] at hs1 hs2
  rw [Hs.out]
  go_loopw [0, 4, 5] (fun m o i wr => ∃ (t p : Nat) (l : List UInt8), 1 ≤ t ∧ t ≤ s ∧ i = .int .i64 t ∧ m = .int .u64 p ∧ o = .string ⟨l.toArray⟩ ∧ Bel w wr ∧ Hid (p = n / 256 ^ (t - 1) ∧ l = be (t - 1) n)) (fun _ _ i _ => s - (intOf i).toNat)
  case atStart => exact ⟨1, n, [], by omega, by omega, rfl, rfl, rfl, Bel.refl _, by simp, rfl⟩
  case round =>
    obtain ⟨t, p, l, ht1, ht, rfl, rfl, rfl, hB, hp⟩ := hrel
    by_cases hlt : t < s
    · have c1 := conv1 ((p : Int) % 256) (by omega) (by omega)
      have hl : l.length ≤ 9 := by rw [hp.out.2, be_length]; omega
      have hpn : p ≤ 18446744073709551615 := by
        have h1 := Hn.out
        have h2 : p ≤ n := by rw [hp.out.1]; exact Nat.div_le_self _ _
        omega
      go_wp2
      go_roundw
      case rel =>
        refine ⟨t + 1, p / 256, UInt8.ofNat (p % 256) :: l, by omega, by omega, by go_num, by go_num, ?_, hB.alloc _, ?_, ?_⟩
        · rw [str_cons]
        · rw [hp.out.1, Nat.div_div_eq_div_mul, ← Nat.pow_succ, show (t - 1).succ = t + 1 - 1 by omega]
        · rw [hp.out.1, hp.out.2, show t + 1 - 1 = t - 1 + 1 by omega, be_cons]
      case measure => simp [intOf]; omega
    · have hts : t = s := by omega
      have Hp : Hid (p = n / 256 ^ (s - 1) ∧ l = be (s - 1) n) := by rw [← hts]; exact hp
      have htop : p ≤ 255 ∧ lead s + p < 256 := by rw [Hp.out.1, ← Hs.out]; exact rput_top Hn.out
      have hl : l.length ≤ 9 := by rw [Hp.out.2, be_length]; omega
      clear hp hts
      obtain ⟨b1, b2⟩ := htop
      obtain ⟨q, Hq⟩ : ∃ q : Nat, Hid (lead s = q) := ⟨_, rfl⟩
      rw [Hq.out] at b2
      have c1 := conv1 ((q : Int) + p) (by omega) (by omega)
      go_wp2_with (go_at_call 82; refine (rlead_any _ _ (by omega) (by omega)).mono ?_; rintro e w' ⟨rfl, rfl⟩; rw [Int.toNat_natCast, Hq.out])
      go_ret
      have hfin := nput_eq n s Hs.out (q + p) (by rw [Hq.out, ← Hp.out.1]) l Hp.out.2
      rw [← hfin]
      refine ⟨?_, hB.alloc _⟩
      show Ending.returned (.string _) = _
      rw [str_cons, UInt8.ofNat_add]

end Go.Proofs.Ytlclllkjnhgbjaa

namespace Go.Proofs.Ytlclllkjnhgbjaa
open Go.RowKit
set_option linter.unusedVariables false
attribute [local go_sem] str_at

theorem rlead_same (x : Int) (w : World) (h1 : 1 ≤ x) (h2 : x ≤ 9) :
    Calls Try.prog 82 #[.int .i64 x] w fun e w' => e = .returned (.int .i64 (lead x.toNat : Nat)) ∧ w' = w :=
  (rlead_any x w h1 h2).mono fun _ _ h => ⟨h.1, h.2.symm⟩

set_option maxRecDepth 100000 in
set_option maxHeartbeats 1000000 in
theorem rtake_nil (w : World) : Calls Try.prog 46 #[.string ⟨([] : List UInt8).toArray⟩] w fun e w' => e = .returned (.tuple #[.int .u64 0, .int .i64 0, .bool false]) ∧ Bel w w' := by
  go_enter Try.func46, Try.ntmps46
  go_wp2
  go_loopw [5] (fun i wr => ∃ k : Nat, 1 ≤ k ∧ k ≤ 10 ∧ i = .int .i64 k ∧ Bel w wr) (fun i _ => 10 - (intOf i).toNat)
  case atStart => exact ⟨1, by omega, by omega, rfl, Bel.refl _⟩
  case round =>
    obtain ⟨k, hk1, hk2, rfl, hB⟩ := hrel
    by_cases hlt : k ≤ 9
    · have d1 : 0 < k := by omega
      go_wp2_with fail
      go_quiet (fail)
      go_wp2
      go_roundw
      case rel => exact ⟨k + 1, by omega, by omega, by go_num, hB.drewN _⟩
      case measure => simp [intOf]; omega
    · go_wp2
      go_ret3
      exact ⟨rfl, hB⟩

theorem rlead_nat (k : Nat) (w : World) (h1 : 1 ≤ k) (h2 : k ≤ 9) :
    Calls Try.prog 82 #[.int .i64 k] w fun e w' => e = .returned (.int .i64 (lead k : Nat)) ∧ w' = w := by
  have := rlead_same k w (by omega) (by omega)
  rwa [Int.toNat_natCast] at this
theorem rlead_succ (k : Nat) (w : World) (h2 : k + 1 ≤ 9) :
    Calls Try.prog 82 #[.int .i64 ((k : Int) + 1)] w fun e w' => e = .returned (.int .i64 (lead (k + 1) : Nat)) ∧ w' = w := by
  have := rlead_nat (k + 1) w (by omega) (by omega)
  rwa [show ((k + 1 : Nat) : Int) = (k : Int) + 1 by omega] at this
theorem ext_toList (l : List UInt8) (k : Nat) : (ByteArray.extract ⟨l.toArray⟩ 0 k).toList = l.take k := by
  rw [str_extract, ByteArray.toList_eq]
  simp
/-- Of the sizes the first byte fits one alone. -/
theorem size_cases (c k : Nat) (hc : c < 256) (h1 : 1 ≤ k) (h9 : k ≤ 9) : (c < lead k ∧ fsize c < k) ∨ (lead k ≤ c ∧ k < 9 ∧ lead (k + 1) ≤ c ∧ k < fsize c) ∨ (lead k ≤ c ∧ fsize c = k ∧ (k < 9 → c < lead (k + 1))) := by
  obtain ⟨l1, l2, l3, _⟩ := fsize_lead c hc
  have p1 := fsize_pos c
  have p2 := fsize_le c
  rcases Nat.lt_trichotomy (fsize c) k with h | h | h
  · have := lead_mono h h9
    left
    refine ⟨?_, h⟩
    have := l2 (by omega)
    omega
  · subst h
    exact .inr (.inr ⟨l1, rfl, l2⟩)
  · have h2 := lead_mono h p2
    have h3 : lead k ≤ lead (k + 1) := by
      unfold lead
      have : (2 : Nat) ^ (9 - (k + 1)) ≤ 2 ^ (9 - k) := Nat.pow_le_pow_right (by omega) (by omega)
      omega
    exact .inr (.inl ⟨by omega, by omega, by omega, h⟩)

set_option maxRecDepth 100000 in
set_option maxHeartbeats 2000000 in
theorem rtake_cons (c : UInt8) (r : List UInt8) (w : World) (hr : r.length ≤ 1000000) :
    Calls Try.prog 46 #[.string ⟨(c :: r).toArray⟩] w fun e w' => e = .returned (.tuple #[.int .u64 ((ntake (c :: r)).1 : Nat), .int .i64 ((ntake (c :: r)).2.1 : Nat), .bool (ntake (c :: r)).2.2]) ∧ Bel w w' := by
  have hc' := c.toNat_lt
  go_enter Try.func46, Try.ntmps46
  go_wp2
  go_loopw [5] (fun i wr => ∃ k : Nat, 1 ≤ k ∧ k ≤ 10 ∧ i = .int .i64 k ∧ Bel w wr ∧ Hid (fsize c.toNat < k → ntake (c :: r) = (0, 0, false))) (fun i _ => 10 - (intOf i).toNat)
  case atStart => exact ⟨1, by omega, by omega, rfl, Bel.refl _, fun h => by have := fsize_pos c.toNat; omega⟩
  case round =>
    obtain ⟨k, hk1, hk2, rfl, hB, Hk⟩ := hrel
    by_cases hlt : k ≤ 9
    · by_cases hA : r.length + 1 < k
      · have Hn : Hid (fsize c.toNat < k + 1 → ntake (c :: r) = (0, 0, false)) := by
          intro h
          rcases Nat.lt_or_ge (fsize c.toNat) k with h' | h'
          · exact Hk.out h'
          · rw [ntake, if_pos (by omega)]
        have d1 : decide ((r.length : Int) + 1 < (k : Int)) = true := by simp; omega
        clear Hk
        go_wp2_with fail
        go_quiet (fail)
        go_wp2
        go_roundw
        case rel => exact ⟨k + 1, by omega, by omega, by go_num, hB.drewN _, Hn⟩
        case measure => simp [intOf]; omega
      · have d1 : decide ((r.length : Int) + 1 < (k : Int)) = false := by simp; omega
        rcases size_cases c.toNat k hc' hk1 hlt with ⟨h1, h2⟩ | ⟨h1, h2, h3, h4⟩ | ⟨h1, h2, h3⟩
        · have Hn : Hid (fsize c.toNat < k + 1 → ntake (c :: r) = (0, 0, false)) := fun _ => Hk.out h2
          clear Hk
          go_wp2_with fail
          go_quiet ((go_at_call 82; exact Calls.quiet_of_same (rlead_nat _ _ (by omega) (by omega))))
          go_wp2
          go_roundw
          case rel => exact ⟨k + 1, by omega, by omega, by go_num, hB.drewN _, Hn⟩
          case measure => simp [intOf]; omega
        · have Hn : Hid (fsize c.toNat < k + 1 → ntake (c :: r) = (0, 0, false)) := fun h => by omega
          have d2 : decide (c.toNat < lead k) = false := by simp; omega
          have d3 : decide (lead (k + 1) ≤ c.toNat) = true := by simp; omega
          have d4 : decide ((k : Int) < 9) = true := by simp; omega
          have wr1 : IntKind.i64.wrap ((k : Int) + 1) = (k : Int) + 1 := IntWalk.i64_in _ (by omega)
          have wr0 : IntKind.i64.wrap (c.toNat : Int) = (c.toNat : Int) := IntWalk.i64_in _ (by omega)
          clear Hk
          go_wp2_with fail
          go_quiet (first | (go_at_call 82; exact Calls.quiet_of_same (rlead_nat _ _ (by omega) (by omega))) | (go_at_call 82; exact Calls.quiet_of_same (rlead_succ _ _ (by omega))))
          clear wr1 wr0
          go_wp2
          go_roundw
          case rel => exact ⟨k + 1, by omega, by omega, by go_num, hB.drewN _, Hn⟩
          case measure => simp [intOf]; omega
        · have H3 := Lib.hid h3
          have dk9 : decide ((k : Int) ≤ 9) = true := by simp; omega
          have d2 : decide (c.toNat < lead k) = false := by simp; omega
          have wr0 : IntKind.i64.wrap (c.toNat : Int) = (c.toNat : Int) := IntWalk.i64_in _ (by omega)
          have h2' := Lib.hid h2
          clear Hk h3 h2
          go_wp2_with fail
          have hcl : (c.toNat : Int) - ((lead k : Nat) : Int) = ((c.toNat - lead k : Nat) : Int) := by omega
          have wr2 : IntKind.i64.wrap ((c.toNat : Int) - ((lead k : Nat) : Int)) = (c.toNat : Int) - ((lead k : Nat) : Int) := IntWalk.i64_in _ (by omega)
          have wr3 : IntKind.u64.wrap ((c.toNat - lead k : Nat) : Int) = ((c.toNat - lead k : Nat) : Int) := by rw [IntKind.wrap_u64]; omega
          rcases Nat.lt_or_ge k 9 with k9 | k9
          case' inl =>
            have h4 := H3.out k9
            have d3 : decide (lead (k + 1) ≤ c.toNat) = false := by simp; omega
            have d4 : decide ((k : Int) < 9) = true := by simp; omega
            have wr1 : IntKind.i64.wrap ((k : Int) + 1) = (k : Int) + 1 := IntWalk.i64_in _ (by omega)
            go_quiet (first | (go_at_call 82; exact Calls.quiet_of_same (rlead_nat _ _ (by omega) (by omega))) | (go_at_call 82; exact Calls.quiet_of_same (rlead_succ _ _ (by omega))))
            go_wp2_with fail
            go_quiet (first | (go_at_call 82; exact quiet_more (rlead_nat _ _ (by omega) (by omega))))
            clear wr0 wr1 wr2 wr3 hcl d3 d4 h4
            go_wp2_with fail
          case' inr =>
            have d3 : decide ((k : Int) < 9) = false := by simp; omega
            go_quiet (first | (go_at_call 82; exact Calls.quiet_of_same (rlead_nat _ _ (by omega) (by omega))))
            go_wp2_with fail
            go_quiet (first | (go_at_call 82; exact quiet_more (rlead_nat _ _ (by omega) (by omega))))
            clear wr0 wr2 wr3 hcl d3
            go_wp2_with fail
          all_goals
            obtain ⟨d, Hd⟩ : ∃ d : Nat, Hid (c.toNat - lead k = d) := ⟨_, rfl⟩
            rw [Hd.out, World.drewN_drewN]
            clear d2 H3
            go_loop [6, 7] (fun n i => ∃ j p : Nat, j + 1 ≤ k ∧ i = .int .i64 ((j : Int) + 1) ∧ n = .int .u64 p ∧ Hid (p = pval d r j)) (fun _ i => k - (intOf i).toNat)
            case atStart => exact ⟨0, d, by omega, by simp, rfl, (pval_zero d r).symm⟩
            case round =>
              obtain ⟨j, p, hj, rfl, rfl, hp⟩ := hrel
              by_cases hjk : j + 1 < k
              · have hkr : j < r.length := by omega
                have b1 : p < 72057594037927936 := by
                  have := pval_lt c.toNat hc' r j (by rw [h2'.out]; omega) (by omega)
                  rw [h2'.out, Hd.out] at this
                  rw [hp.out]
                  exact this
                have b2 := r[j].toNat_lt
                have Hst := Lib.hid (pval_step d r j hkr)
                go_wp2
                go_round
                case rel => exact ⟨j + 1, p * 256 + r[j].toNat, by omega, by go_num, by go_num, by rw [hp.out]; exact Hst.out.symm⟩
                case measure => simp [intOf]; omega
              · have hjk' : j + 1 = k := by omega
                have Hp : Hid (tval c.toNat r = p) := by
                  show tval c.toNat r = p
                  unfold tval
                  rw [h2'.out, Hd.out, hp.out, ← hjk']
                  rfl
                have Hlt : Hid (p < 18446744073709551616) := by rw [← Hp.out]; exact tval_lt c r (by rw [h2'.out]; exact hA)
                clear hp hjk'
                have hA' : ¬ r.length + 1 < fsize c.toNat := by rw [h2'.out]; exact hA
                have HF := Lib.hid (form_iff c r hA')
                have HN : Hid (ntake (c :: r) = if nsize p = k then (p, k, true) else (0, 0, false)) := by
                  show _ = _
                  rw [ntake, if_neg hA', h2'.out, Hp.out]
                rw [h2'.out, Hp.out] at HF
                clear hA'
                by_cases hz : nsize p = k
                · have q7 : (nput p == (ByteArray.extract ⟨(c :: r).toArray⟩ 0 k).toList) = true := by
                    rw [ext_toList, beq_iff_eq]
                    exact HF.out.2 hz
                  have Hf : Hid (ntake (c :: r) = (p, k, true)) := by show _ = _; rw [HN.out, if_pos hz]
                  clear hz HF HN
                  go_wp2_with fail
                  go_region_with (go_at_call 72; refine (rput_any _ _ (by omega) (by have := Hlt.out; omega)).mono ?_; rintro e w3 ⟨rfl, hb⟩; rw [Int.toNat_natCast])
                  all_goals
                    go_wp2
                    go_ret3
                    rw [Hf.out]
                    exact ⟨rfl, (hB.drewN _).trans hb⟩
                · have q7 : (nput p == (ByteArray.extract ⟨(c :: r).toArray⟩ 0 k).toList) = false := by
                    rw [ext_toList, beq_eq_false_iff_ne]
                    exact fun h => hz (HF.out.1 h)
                  have Hn : Hid (fsize c.toNat < k + 1 → ntake (c :: r) = (0, 0, false)) := fun _ => by rw [HN.out, if_neg hz]
                  clear hz HF HN
                  go_wp2_with fail
                  go_region_with (go_at_call 72; refine (rput_any _ _ (by omega) (by have := Hlt.out; omega)).mono ?_; rintro e w3 ⟨rfl, hb⟩; rw [Int.toNat_natCast])
                  all_goals
                    go_wp2
                    go_roundw
                    case rel => exact ⟨k + 1, by omega, by omega, by go_num, (hB.drewN _).trans hb, Hn⟩
                    case measure => simp [intOf]; omega
    · have Hn : Hid (ntake (c :: r) = (0, 0, false)) := Hk.out (by have := fsize_le c.toNat; omega)
      clear Hk
      go_wp2
      go_ret3
      rw [Hn.out]
      exact ⟨rfl, hB⟩

/-- The document's Take. -/
theorem rtake_any (l : List UInt8) (w : World) (hl : l.length ≤ 1000001) :
    Calls Try.prog 46 #[.string ⟨l.toArray⟩] w fun e w' => e = .returned (.tuple #[.int .u64 ((ntake l).1 : Nat), .int .i64 ((ntake l).2.1 : Nat), .bool (ntake l).2.2]) ∧ Bel w w' := by
  cases l with
  | nil => exact rtake_nil w
  | cons c r => exact rtake_cons c r w (by simpa using hl)

end Go.Proofs.Ytlclllkjnhgbjaa
