/- Rows of texts, put and read: plain. -/
import Derived.Test.YtnjpoamebkehbaaTermU
namespace Go.Proofs.Ytnjpoamebkehbaa
open Go.RowKit
set_option linter.unusedVariables false
set_option linter.unusedSimpArgs false

theorem q_pnumber {n : Nat} (hn : n < 18446744073709551616) (t : List UInt8) : pnumber (nput n ++ t) = .ok (n, t) := by
  unfold pnumber
  rw [ntake_nput hn]
  simp only [if_true]
  rw [List.drop_append_of_le_length (by rw [nput_length]; exact Nat.le_refl _), List.drop_of_length_le (by rw [nput_length]; exact Nat.le_refl _)]
  rfl
theorem q_pnum {n : Nat} {most : Int} (hn : n < 18446744073709551616) (hm : (n : Int) ≤ most) (t : List UInt8) : pnum most (nput n ++ t) = .ok (n, t) := by
  unfold pnum
  rw [q_pnumber hn]
  simp only
  rw [if_neg (by omega)]
theorem q_ptxt {l : List UInt8} {most : Int} (hl : (l.length : Int) ≤ most) (h2 : l.length < 18446744073709551616) (t : List UInt8) : ptxt most (ptext l ++ t) = .ok (l, t) := by
  unfold ptxt
  have e : ptext l ++ t = nput l.length ++ (l ++ t) := by unfold ptext; rw [List.append_assoc]
  rw [e, q_pnum h2 hl]
  simp only
  unfold pfix
  rw [if_neg (by rw [List.length_append]; omega), Int.toNat_natCast, List.take_left, List.drop_left]
/-- What a number is read of begins with its bytes. -/
theorem q_pnum_back {most : Int} {l r : List UInt8} {n : Nat} (h : pnum most l = .ok (n, r)) : l = nput n ++ r := by
  rcases pnum_cases (most := most) (l := l) with ⟨e, _⟩ | ⟨n', z, hn, hz, _, ⟨e, _⟩ | ⟨e, h2, h3⟩⟩
  · rw [h] at e; cases e
  · rw [h] at e; cases e
  · rw [h] at e
    injection e with e
    injection e with e1 e2
    subst e1
    subst e2
    have := ntake_true (l := l) (by rw [hn])
    rw [hn] at this
    rw [← this.1, List.take_append_drop]
theorem q_ptxt_back {most : Int} {l x r : List UInt8} (h : ptxt most l = .ok (x, r)) : l = ptext x ++ r := by
  unfold ptxt at h
  split at h
  · cases h
  · rename_i n r1 hp
    unfold pfix at h
    split at h
    · cases h
    · rename_i hc
      injection h with h
      injection h with e1 e2
      have := q_pnum_back hp
      rw [this]
      unfold ptext
      rw [← e1, ← e2, Int.toNat_natCast, List.length_take, Nat.min_eq_left (by omega), List.append_assoc, List.take_append_drop]

theorem alike_take (x y : List UInt8) : x.take (alike x y) = y.take (alike x y) := by
  induction x generalizing y with
  | nil => simp [alike]
  | cons a x ih =>
    cases y with
    | nil => simp [alike]
    | cons b y =>
      rw [alike]
      split
      · rename_i h
        subst h
        simp [ih y]
      · rfl
theorem alike_join (x y : List UInt8) : x.take (alike x y) ++ y.drop (alike x y) = y := by
  rw [alike_take, List.take_append_drop]

theorem tround_tput {was t : List UInt8} (ht : isTerm t = true) (hl : Op.bytesLess was t = true) (hw : was.length ≤ 16) (r : List UInt8) : tround was (nput (alike was t) ++ ptext (t.drop (alike was t)) ++ r) = .ok (t, r) := by
  have h1 := alike_le was t
  have h16 : t.length ≤ 16 := by unfold isTerm at ht; simp at ht; omega
  unfold tround
  rw [List.append_assoc, q_pnum (by omega) (by omega)]
  simp only
  rw [q_ptxt (by simp; omega) (by simp; omega)]
  simp only
  rw [alike_join, ht, hl]
  simp
theorem treads_tputs {ts : List (List UInt8)} : ∀ {p : Option (List UInt8)} {was : List UInt8}, rowFrom p ts = 0 → (p = some was ∨ (p = none ∧ was = [])) → was.length ≤ 16 → ∀ r, treads was ts.length (tputs was ts ++ r) = .ok (ts, r) := by
  induction ts with
  | nil => intro p was h hp hw r; rfl
  | cons t ts ih =>
    intro p was h hp hw r
    rw [rowFrom] at h
    split at h
    · rename_i ht
      split at h
      · cases h
      · rename_i hn
        have h16 : t.length ≤ 16 := by unfold isTerm at ht; simp at ht; omega
        have hl : Op.bytesLess was t = true := by
          rcases hp with hp | ⟨hp, hw0⟩
          · subst hp
            simpa using hn
          · subst hw0
            unfold isTerm at ht
            cases t with
            | nil => simp at ht
            | cons a t => rfl
        rw [List.length_cons, treads, tputs, List.append_assoc, tround_tput ht hl hw]
        simp only
        rw [ih h (.inl rfl) h16]
    · cases h
theorem ttake_tput {ts : List (List UInt8)} (h : rowErr ts = 0) (hn : ts.length ≤ 100000) : ttake ts.length (tput ts) = (ts, 0) := by
  unfold ttake tread tput
  rw [q_pnum (by omega) (Int.le_refl _)]
  have := treads_tputs (ts := ts) (p := none) (was := []) h (.inr ⟨rfl, rfl⟩) (by simp) []
  rw [List.append_nil] at this
  simp only
  rw [this]
  simp

/-- What is read rises, and is put as it was read. -/
theorem tround_back {was l s r : List UInt8} (h : tround was l = .ok (s, r)) : isTerm s = true ∧ Op.bytesLess was s = true ∧ l = (nput (alike was s) ++ ptext (s.drop (alike was s))) ++ r := by
  unfold tround at h
  split at h
  · cases h
  · rename_i k r1 hp
    split at h
    · cases h
    · rename_i x r2 hx
      split at h
      · rename_i hc
        injection h with h
        injection h with e1 e2
        subst e2
        simp only [Bool.and_eq_true, beq_iff_eq] at hc
        rw [e1] at hc
        obtain ⟨⟨h1, h2⟩, h3⟩ := hc
        refine ⟨h1, h3, ?_⟩
        have hk : k ≤ was.length := by have := (pnum_ok hp).2.1; omega
        have hd : s.drop k = x := by
          rw [← e1, List.drop_append_of_le_length (by simp; omega), List.drop_of_length_le (by simp; omega)]
          rfl
        rw [h2, hd, q_pnum_back hp, q_ptxt_back hx, List.append_assoc]
      · cases h
theorem treads_back {n : Nat} : ∀ {was l r : List UInt8} {ts : List (List UInt8)} {p : Option (List UInt8)}, treads was n l = .ok (ts, r) → (p = some was ∨ (p = none ∧ was = [])) → rowFrom p ts = 0 ∧ ts.length = n ∧ l = tputs was ts ++ r := by
  induction n with
  | zero =>
    intro was l r ts p h hp
    injection h with h
    injection h with e1 e2
    subst e1
    subst e2
    exact ⟨rfl, rfl, rfl⟩
  | succ n ih =>
    intro was l r ts p h hp
    rw [treads] at h
    split at h
    · cases h
    · rename_i s r1 hs
      split at h
      · cases h
      · rename_i us r2 hu
        injection h with h
        injection h with e1 e2
        subst e1
        subst e2
        obtain ⟨a1, a2, a3⟩ := tround_back hs
        obtain ⟨b1, b2, b3⟩ := ih (p := some s) hu (.inl rfl)
        refine ⟨?_, by simp [b2], ?_⟩
        · rw [rowFrom, a1]
          simp only [if_true]
          rw [if_neg]
          · exact b1
          · rcases hp with hp | ⟨hp, hw⟩
            · subst hp; simp [a2]
            · subst hp; simp
        · rw [tputs, a3, b3, List.append_assoc, List.append_assoc]
          simp only [List.append_assoc]
theorem tread_back {most : Int} {l r : List UInt8} {ts : List (List UInt8)} (h : tread most l = .ok (ts, r)) : rowErr ts = 0 ∧ l = tput ts ++ r := by
  unfold tread at h
  split at h
  · cases h
  · rename_i n r1 hp
    obtain ⟨h1, h2, h3⟩ := treads_back (p := none) h (.inr ⟨rfl, rfl⟩)
    refine ⟨h1, ?_⟩
    unfold tput
    rw [h2, q_pnum_back hp, h3, List.append_assoc]

end Go.Proofs.Ytnjpoamebkehbaa
