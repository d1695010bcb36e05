/- Batches read: plain. -/
import Derived.Test.YtnekknemjhlgdaaBatW
import Derived.Test.YtnekknemjhlgdaaBd
namespace Go.Proofs.Ytnekknemjhlgdaa
open Go.RowKit
set_option linter.unusedVariables false
set_option linter.unusedSimpArgs false

theorem i_pint_back {l r : List UInt8} {x : Int} (h : pint l = .ok (x, r)) : l = nput (nfold x) ++ r ∧ I64 x := by
  unfold pint at h
  rcases pnumber_cases (l := l) with ⟨hp, hn⟩ | ⟨n, z, hn, hz, hlt, hp⟩
  · rw [hp] at h; cases h
  · rw [hp] at h
    injection h with h
    injection h with h1 h2
    subst h1
    subst h2
    have := ntake_true (l := l) (by rw [hn])
    rw [hn] at this
    rw [nfold_nunfold, ← this.1, List.take_append_drop]
    exact ⟨rfl, nunfold_in hlt⟩
theorem i_pint_err {l : List UInt8} {k : Int} (h : pint l = .error k) : k = 3 := by
  unfold pint at h
  rcases pnumber_cases (l := l) with ⟨hp, hn⟩ | ⟨n, z, hn, hz, hlt, hp⟩
  · rw [hp] at h; injection h with h; exact h.symm
  · rw [hp] at h; cases h
/-- A label read; a row of a batch; the rows. -/
def ptrm (l : List UInt8) : PR (List UInt8) := match ptxt 16 l with | .error k => .error k | .ok (x, r) => if isTerm x = true then .ok (x, r) else .error 3
def oVs (M : Nat) (o : PR (List (List UInt8))) : PR (List Int) := match o with | .error k => .error k | .ok (_, r) => pmany pint M [] r
def prow (D M : Nat) (l : List UInt8) : PR RC := match pmany ptrm D [] l with | .error k => .error k | .ok (ts, r) => (match pmany pint M [] r with | .error k => .error k | .ok (vs, r2) => .ok (⟨ts, vs⟩, r2))
def prws (D M : Nat) (l : List UInt8) : PR (List RC) := match pnum 300 l with | .error k => .error k | .ok (n, r) => pmany (prow D M) n [] r
theorem ptrm_err {l : List UInt8} {k : Int} (h : ptrm l = .error k) : k ≠ 0 := by
  unfold ptrm at h
  split at h
  · rename_i h1; injection h with h; subst h; have := ptxt_err h1; omega
  · split at h
    · cases h
    · injection h with h; omega
theorem ptrm_back {l r : List UInt8} {x : List UInt8} (h : ptrm l = .ok (x, r)) : l = ptext x ++ r := by
  unfold ptrm at h
  split at h
  · cases h
  · rename_i h1
    split at h
    · injection h with h
      injection h with e1 e2
      subst e1 e2
      exact q_ptxt_back h1
    · cases h
theorem prow_err {D M : Nat} {l : List UInt8} {k : Int} (h : prow D M l = .error k) : k ≠ 0 := by
  unfold prow at h
  split at h
  · rename_i h1; injection h with h; subst h; exact pmany_err (fun l k h => ptrm_err h) h1
  · split at h
    · rename_i h1; injection h with h; subst h; exact pmany_err (fun l k h => by have := i_pint_err h; omega) h1
    · cases h
theorem prow_back {D M : Nat} {l r : List UInt8} {x : RC} (h : prow D M l = .ok (x, r)) : l = rowPut x ++ r := by
  unfold prow at h
  split at h
  · cases h
  · rename_i ts r1 h1
    split at h
    · cases h
    · rename_i vs r2 h2
      injection h with h
      injection h with e1 e2
      subst e1 e2
      obtain ⟨xs, a1, a2, a3⟩ := pmany_back (put := ptext) (fun l x r h => ptrm_back h) h1
      obtain ⟨ys, b1, b2, b3⟩ := pmany_back (put := fun x => nput (nfold x)) (fun l x r h => (i_pint_back h).1) h2
      rw [List.nil_append] at a1 b1
      subst a1 b1
      unfold rowPut
      rw [a3, b3]
      simp only [List.append_assoc]
theorem prws_err {D M : Nat} {l : List UInt8} {k : Int} (h : prws D M l = .error k) : k ≠ 0 := by
  unfold prws at h
  split at h
  · rename_i h1; injection h with h; subst h; have := pnum_err h1; omega
  · exact pmany_err (fun l k h => prow_err h) h
theorem prws_back {D M : Nat} {l r : List UInt8} {x : List RC} (h : prws D M l = .ok (x, r)) : l = batPut x ++ r := by
  unfold prws at h
  split at h
  · cases h
  · rename_i n r1 h1
    obtain ⟨xs, a1, a2, a3⟩ := pmany_back (put := rowPut) (fun l x r h => prow_back h) h
    rw [List.nil_append] at a1
    subst a1
    unfold batPut
    rw [q_pnum_back h1, a3, a2]
    simp only [List.append_assoc]
/-- What batch.Take answers. -/
def battake (s : SC) (l : List UInt8) : List RC × Int :=
  if schErr s ≠ 0 then ([], schErr s) else
  match prws s.dims.length s.ms.length l with
  | .error k => ([], k)
  | .ok (rows, r) => if r = [] then (if batErr s rows = 0 then (rows, 0) else ([], batErr s rows)) else ([], 3)

end Go.Proofs.Ytnekknemjhlgdaa
