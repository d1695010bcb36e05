/- Catalogs grown: the plain law. -/
import Derived.Test.YtigjghfonpfdlaaCatE
namespace Go.Proofs.Ytigjghfonpfdlaa
open Go.RowKit
set_option linter.unusedVariables false
set_option linter.unusedSimpArgs false


theorem drop_get {α : Type} {l : List α} {k : Nat} {a : α} (h : l[k]? = some a) : l.drop k = a :: l.drop (k + 1) := by
  obtain ⟨h1, rfl⟩ := List.getElem?_eq_some_iff.1 h
  exact List.drop_eq_getElem_cons h1
theorem xadd_i64 {a b : Int} : I64 (xadd a b).1 := by
  unfold xadd xfit
  split
  · assumption
  · exact i64_zero
theorem egrow_i64 {p q v : Int} (hp : I64 p) (hq : I64 q) : I64 (egrow p q v).1.1 ∧ I64 (egrow p q v).1.2 := by
  unfold egrow
  split
  · simp only
    split
    · exact ⟨hp, xadd_i64⟩
    · exact ⟨i64_zero, i64_zero⟩
  · simp only
    split
    · exact ⟨xadd_i64, hq⟩
    · exact ⟨i64_zero, i64_zero⟩
/-- A catalog with one of its totals grown by a value. -/
def cupd (c : CC) (i : Nat) (v : Int) : CC × Bool :=
  if i = 0 then (let g := egrow c.p0 c.q0 v; (⟨c.sc, c.fa, g.1.1, g.1.2, c.p1, c.q1, c.p2, c.q2⟩, g.2))
  else if i = 1 then (let g := egrow c.p1 c.q1 v; (⟨c.sc, c.fa, c.p0, c.q0, g.1.1, g.1.2, c.p2, c.q2⟩, g.2))
  else (let g := egrow c.p2 c.q2 v; (⟨c.sc, c.fa, c.p0, c.q0, c.p1, c.q1, g.1.1, g.1.2⟩, g.2))
/-- A row more, from a measure on. -/
def crow (c : CC) (i : Nat) : List Int → Option CC
  | [] => some c
  | v :: l => if (cupd c i v).2 then crow (cupd c i v).1 (i + 1) l else none
/-- Rows more. -/
def crows (m : Nat) (c : CC) : List (List Int) → CC × Int
  | [] => (c, 0)
  | r :: l => if r.length ≠ m then (CC.nil, 2) else match crow c 0 r with
    | none => (CC.nil, 12)
    | some d => crows m d l
def cfin (n : Nat) (o : CC × Int) : CC × Int := if o.2 = 0 then (⟨o.1.sc, o.1.fa + n, o.1.p0, o.1.q0, o.1.p1, o.1.q1, o.1.p2, o.1.q2⟩, 0) else o
/-- A catalog behind rows more. -/
def catGrow (c : CC) (rows : List (List Int)) : CC × Int :=
  if catErr c ≠ 0 then (CC.nil, catErr c)
  else if 4000 < c.fa + rows.length then (CC.nil, 6)
  else cfin rows.length (crows c.sc.ms.length c rows)
theorem catErr_zero {c : CC} (h : catErr c = 0) : schErr c.sc = 0 ∧ 0 ≤ c.fa ∧ c.fa ≤ 4000 := by
  unfold catErr at h
  split at h
  · rename_i h1; exact absurd h h1
  · rename_i h1
    split at h
    · cases h
    · rename_i h2
      exact ⟨by simpa using h1, by omega, by omega⟩
theorem crows_bad {m : Nat} {c : CC} {r : List Int} {l : List (List Int)} (h : r.length ≠ m) : crows m c (r :: l) = (CC.nil, 2) := by rw [crows, if_pos h]
theorem crows_over {m : Nat} {c : CC} {r : List Int} {l : List (List Int)} (h : r.length = m) (h2 : crow c 0 r = none) : crows m c (r :: l) = (CC.nil, 12) := by rw [crows, if_neg (by simp [h]), h2]
theorem crows_ok {m : Nat} {c d : CC} {r : List Int} {l : List (List Int)} (h : r.length = m) (h2 : crow c 0 r = some d) : crows m c (r :: l) = crows m d l := by rw [crows, if_neg (by simp [h]), h2]
theorem crow_step {c : CC} {i : Nat} {v : Int} {l : List Int} (h : (cupd c i v).2 = true) : crow c i (v :: l) = crow (cupd c i v).1 (i + 1) l := by rw [crow, if_pos h]
theorem crow_none {c : CC} {i : Nat} {v : Int} {l : List Int} (h : (cupd c i v).2 = false) : crow c i (v :: l) = none := by rw [crow, if_neg (by simp [h])]

end Go.Proofs.Ytigjghfonpfdlaa
