/- Dimensions: plain: whether one may be; its bytes; how it is read. -/
import Derived.Test.YtnekknemjhlgdaaBe
namespace Go.Proofs.Ytnekknemjhlgdaa
open Go.RowKit
set_option linter.unusedVariables false
set_option linter.unusedSimpArgs false

/-- What a dimension says. -/
structure DC where
  nm : List UInt8
  trs : List TC
deriving DecidableEq
/-- How many members the lowest of some tiers has. -/
def aboveOf : List TC → Int
  | [] => 0
  | t :: _ => t.ts.length
def dimFrom : List (List UInt8) → List TC → Int
  | _, [] => 0
  | seen, t :: r => if tierErr t (aboveOf r) ≠ 0 then tierErr t (aboveOf r) else if t.nm ∈ seen then 11 else dimFrom (seen ++ [t.nm]) r
def dimErr (d : DC) : Int := if isName d.nm then (if d.trs.length < 1 ∨ 4 < d.trs.length then 5 else dimFrom [] d.trs) else 2
def dimPut (d : DC) : List UInt8 := ptext d.nm ++ nput d.trs.length ++ d.trs.reverse.flatMap tierPut
/-- So many tiers more, each below those that are there. -/
def pdims : Nat → List TC → List UInt8 → PR (List TC)
  | 0, acc, l => .ok (acc, l)
  | n + 1, acc, l =>
    match ptier (aboveOf acc) l with
    | .error k => .error k
    | .ok (t, r) => pdims n (t :: acc) r
def pdimC (d : DC) (r : List UInt8) : PR DC := if dimErr d = 0 then .ok (d, r) else .error (dimErr d)
def pdim (l : List UInt8) : PR DC :=
  match ptxt 12 l with
  | .error k => .error k
  | .ok (nm, r) =>
    match pnum 4 r with
    | .error k => .error k
    | .ok (n, r) =>
      match pdims n [] r with
      | .error k => .error k
      | .ok (trs, r) => pdimC ⟨nm, trs⟩ r

def AllOk : List TC → Prop
  | [] => True
  | t :: r => tierErr t (aboveOf r) = 0 ∧ AllOk r
def OkDown : List TC → List TC → Prop
  | _, [] => True
  | acc, t :: rs => tierErr t (aboveOf acc) = 0 ∧ OkDown (t :: acc) rs
theorem allOk_suffix {ms acc : List TC} (h : AllOk (ms ++ acc)) : AllOk acc := by
  induction ms with
  | nil => exact h
  | cons t ms ih => exact ih h.2
theorem okDown_of {rs : List TC} : ∀ {acc : List TC}, AllOk (rs.reverse ++ acc) → OkDown acc rs := by
  induction rs with
  | nil => intro acc h; trivial
  | cons t rs ih =>
    intro acc h
    rw [List.reverse_cons, List.append_assoc] at h
    exact ⟨(allOk_suffix h).1, ih h⟩
theorem dimFrom_ok {trs : List TC} : ∀ {seen : List (List UInt8)}, dimFrom seen trs = 0 → AllOk trs := by
  induction trs with
  | nil => intro seen h; trivial
  | cons t r ih =>
    intro seen h
    rw [dimFrom] at h
    split at h
    · rename_i h1; exact absurd h h1
    · rename_i h1
      split at h
      · cases h
      · exact ⟨by omega, ih h⟩
theorem dimErr_zero {d : DC} (h : dimErr d = 0) : isName d.nm = true ∧ 1 ≤ d.trs.length ∧ d.trs.length ≤ 4 ∧ dimFrom [] d.trs = 0 := by
  unfold dimErr at h
  split at h
  · rename_i h1
    split at h
    · cases h
    · rename_i h2
      exact ⟨h1, by omega, by omega, h⟩
  · cases h
theorem aboveOf_le {trs : List TC} (h : AllOk trs) : aboveOf trs ≤ 9223372036854775807 := by
  cases trs with
  | nil => show (0 : Int) ≤ _; omega
  | cons t r =>
    have := (tierErr_zero h.1).2.2.1
    show ((t.ts.length : Nat) : Int) ≤ _
    omega
theorem pdims_put {rs : List TC} : ∀ {acc : List TC} (r : List UInt8), OkDown acc rs → AllOk acc → pdims rs.length acc (rs.flatMap tierPut ++ r) = .ok (rs.reverse ++ acc, r) := by
  induction rs with
  | nil => intro acc r h ha; rfl
  | cons t rs ih =>
    intro acc r h ha
    rw [List.length_cons, pdims, List.flatMap_cons, List.append_assoc, ptier_put (aboveOf_le ha) h.1]
    simp only
    rw [ih r h.2 ⟨h.1, ha⟩]
    simp
theorem pdim_put {d : DC} (h : dimErr d = 0) (r : List UInt8) : pdim (dimPut d ++ r) = .ok (d, r) := by
  obtain ⟨h1, h2, h3, h4⟩ := dimErr_zero h
  have hl := isName_len h1
  have e : dimPut d ++ r = ptext d.nm ++ (nput d.trs.length ++ (d.trs.reverse.flatMap tierPut ++ r)) := by unfold dimPut; simp only [List.append_assoc]
  unfold pdim
  rw [e, q_ptxt (by omega) (by omega)]
  simp only
  rw [q_pnum (by omega) (by omega)]
  simp only
  have hd : OkDown [] d.trs.reverse := okDown_of (by simpa using dimFrom_ok h4)
  have := pdims_put r hd trivial
  rw [List.length_reverse, List.reverse_reverse, List.append_nil] at this
  rw [this]
  simp only
  unfold pdimC
  rw [if_pos h]
theorem pdims_back {n : Nat} : ∀ {acc trs : List TC} {l r : List UInt8}, pdims n acc l = .ok (trs, r) → ∃ ms : List TC, trs = ms ++ acc ∧ ms.length = n ∧ l = ms.reverse.flatMap tierPut ++ r := by
  induction n with
  | zero =>
    intro acc trs l r h
    injection h with h
    injection h with h1 h2
    subst h1
    subst h2
    exact ⟨[], rfl, rfl, rfl⟩
  | succ n ih =>
    intro acc trs l r h
    rw [pdims] at h
    split at h
    · cases h
    · rename_i t r1 h1
      obtain ⟨ms, e1, e2, e3⟩ := ih h
      refine ⟨ms ++ [t], ?_, by simp [e2], ?_⟩
      · rw [e1]
        simp
      · rw [(ptier_back h1).2, e3]
        simp
theorem pdim_back {l r : List UInt8} {d : DC} (h : pdim l = .ok (d, r)) : dimErr d = 0 ∧ l = dimPut d ++ r := by
  unfold pdim at h
  split at h
  · cases h
  · rename_i nm r1 h1
    split at h
    · cases h
    · rename_i n r2 h2
      split at h
      · cases h
      · rename_i trs r3 h3
        unfold pdimC at h
        split at h
        · rename_i h4
          injection h with h
          injection h with h5 h6
          subst h5
          subst h6
          refine ⟨h4, ?_⟩
          obtain ⟨ms, e1, e2, e3⟩ := pdims_back h3
          rw [List.append_nil] at e1
          subst e1
          unfold dimPut
          rw [q_ptxt_back h1, q_pnum_back h2, e3, e2]
          simp only [List.append_assoc]
        · cases h
theorem dimFrom_range (trs : List TC) : ∀ seen, dimFrom seen trs = 0 ∨ dimFrom seen trs = 2 ∨ dimFrom seen trs = 4 ∨ dimFrom seen trs = 5 ∨ dimFrom seen trs = 11 ∨ dimFrom seen trs = 14 := by
  induction trs with
  | nil => intro seen; exact .inl rfl
  | cons t r ih =>
    intro seen
    rw [dimFrom]
    have := tierErr_range t (aboveOf r)
    split
    · omega
    · split
      · omega
      · exact ih _
theorem dimErr_range (d : DC) : dimErr d = 0 ∨ dimErr d = 2 ∨ dimErr d = 4 ∨ dimErr d = 5 ∨ dimErr d = 11 ∨ dimErr d = 14 := by
  unfold dimErr
  have := dimFrom_range d.trs []
  split
  · split
    · omega
    · exact this
  · omega

end Go.Proofs.Ytnekknemjhlgdaa
