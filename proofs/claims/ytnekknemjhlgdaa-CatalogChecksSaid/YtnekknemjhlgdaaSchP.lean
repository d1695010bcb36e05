/- Schemas: plain: whether one may be; its bytes; how it is read. -/
import Derived.Test.YtnekknemjhlgdaaDimR
import Derived.Test.YtnekknemjhlgdaaBd
namespace Go.Proofs.Ytnekknemjhlgdaa
open Go.RowKit
set_option linter.unusedVariables false
set_option linter.unusedSimpArgs false

/-- So many things more, one behind the other. -/
def pmany {α : Type} (p : List UInt8 → PR α) : Nat → List α → List UInt8 → PR (List α)
  | 0, acc, l => .ok (acc, l)
  | n + 1, acc, l =>
    match p l with
    | .error k => .error k
    | .ok (x, r) => pmany p n (acc ++ [x]) r
theorem pmany_put {α : Type} {p : List UInt8 → PR α} {put : α → List UInt8} {xs : List α} : ∀ {acc : List α} (r : List UInt8), (∀ x ∈ xs, ∀ r, p (put x ++ r) = .ok (x, r)) → pmany p xs.length acc (xs.flatMap put ++ r) = .ok (acc ++ xs, r) := by
  induction xs with
  | nil => intro acc r _; simp [pmany]
  | cons x xs ih =>
    intro acc r h
    rw [List.length_cons, pmany, List.flatMap_cons, List.append_assoc, h x (List.mem_cons_self ..)]
    simp only
    rw [ih r fun y hy => h y (List.mem_cons_of_mem _ hy)]
    simp
theorem pmany_back {α : Type} {p : List UInt8 → PR α} {put : α → List UInt8} {n : Nat} : ∀ {acc xs : List α} {l r : List UInt8}, (∀ l x r, p l = .ok (x, r) → l = put x ++ r) → pmany p n acc l = .ok (xs, r) → ∃ ms : List α, xs = acc ++ ms ∧ ms.length = n ∧ l = ms.flatMap put ++ r := by
  induction n with
  | zero =>
    intro acc xs l r _ h
    injection h with h
    injection h with h1 h2
    subst h1 h2
    exact ⟨[], by simp, rfl, rfl⟩
  | succ n ih =>
    intro acc xs l r hp h
    rw [pmany] at h
    split at h
    · cases h
    · rename_i x r1 h1
      obtain ⟨ms, e1, e2, e3⟩ := ih hp h
      exact ⟨x :: ms, by rw [e1]; simp, by simp [e2], by rw [hp _ _ _ h1, e3]; simp⟩
theorem pmany_err {α : Type} {p : List UInt8 → PR α} {n : Nat} {k : Int} : ∀ {acc : List α} {l : List UInt8}, (∀ l k, p l = .error k → k ≠ 0) → pmany p n acc l = .error k → k ≠ 0 := by
  induction n with
  | zero => intro acc l _ h; cases h
  | succ n ih =>
    intro acc l hp h
    rw [pmany] at h
    split at h
    · rename_i h1; injection h with h; subst h; exact hp _ _ h1
    · exact ih hp h
theorem pmany_step {α : Type} {p : List UInt8 → PR α} {n k : Nat} {acc : List α} {l : List UInt8} (hk : k < n) : pmany p (n - k) acc l = match p l with | .error e => .error e | .ok (x, r) => pmany p (n - (k + 1)) (acc ++ [x]) r := by
  rw [show n - k = (n - (k + 1)) + 1 by omega, pmany]

/-- What a schema says. -/
structure SC where
  dims : List DC
  ms : List (List UInt8)
deriving DecidableEq
def dimsFrom : List (List UInt8) → List DC → Int
  | _, [] => 0
  | seen, d :: r => if dimErr d ≠ 0 then dimErr d else if d.nm ∈ seen then 11 else dimsFrom (seen ++ [d.nm]) r
def measFrom : List (List UInt8) → List (List UInt8) → Int
  | _, [] => 0
  | seen, m :: r => if isName m = true then (if m ∈ seen then 11 else measFrom (seen ++ [m]) r) else 2
def measErr (l : List (List UInt8)) : Int := if l.length < 1 ∨ 3 < l.length then 5 else measFrom [] l
def schErr (s : SC) : Int := if s.dims.length < 1 ∨ 16 < s.dims.length then 5 else if dimsFrom [] s.dims ≠ 0 then dimsFrom [] s.dims else measErr s.ms
def schPut (s : SC) : List UInt8 := nput s.dims.length ++ s.dims.flatMap dimPut ++ nput s.ms.length ++ s.ms.flatMap ptext
def pschC (s : SC) (r : List UInt8) : PR SC := if schErr s = 0 then .ok (s, r) else .error (schErr s)
def psch2 (ds : List DC) (o : PR (List (List UInt8))) : PR SC := match o with | .error k => .error k | .ok (ms, r) => pschC ⟨ds, ms⟩ r
def pschM (ds : List DC) (l : List UInt8) : PR SC := match pnum 3 l with | .error k => .error k | .ok (n, r) => psch2 ds (pmany (ptxt 12) n [] r)
def psch1 (o : PR (List DC)) : PR SC := match o with | .error k => .error k | .ok (ds, r) => pschM ds r
def psch (l : List UInt8) : PR SC := match pnum 16 l with | .error k => .error k | .ok (n, r) => psch1 (pmany pdim n [] r)
theorem dimsFrom_drop {ds : List DC} {k : Nat} {d : DC} {seen : List (List UInt8)} (h : ds[k]? = some d) : dimsFrom seen (ds.drop k) = if dimErr d ≠ 0 then dimErr d else if d.nm ∈ seen then 11 else dimsFrom (seen ++ [d.nm]) (ds.drop (k + 1)) := by
  obtain ⟨hk, rfl⟩ := List.getElem?_eq_some_iff.1 h
  rw [List.drop_eq_getElem_cons hk, dimsFrom]
theorem measFrom_drop {ms : List (List UInt8)} {k : Nat} {m : List UInt8} {seen : List (List UInt8)} (h : ms[k]? = some m) : measFrom seen (ms.drop k) = if isName m = true then (if m ∈ seen then 11 else measFrom (seen ++ [m]) (ms.drop (k + 1))) else 2 := by
  obtain ⟨hk, rfl⟩ := List.getElem?_eq_some_iff.1 h
  rw [List.drop_eq_getElem_cons hk, measFrom]
theorem dimsFrom_ok {ds : List DC} : ∀ {seen : List (List UInt8)}, dimsFrom seen ds = 0 → ∀ d ∈ ds, dimErr d = 0 := by
  induction ds with
  | nil => intro seen _ d hd; cases hd
  | cons a r ih =>
    intro seen h d hd
    rw [dimsFrom] at h
    split at h
    · rename_i h1; exact absurd h h1
    · rename_i h1
      split at h
      · cases h
      · rcases List.mem_cons.1 hd with rfl | hd
        · omega
        · exact ih h d hd
theorem measFrom_ok {ms : List (List UInt8)} : ∀ {seen : List (List UInt8)}, measFrom seen ms = 0 → ∀ m ∈ ms, isName m = true := by
  induction ms with
  | nil => intro seen _ d hd; cases hd
  | cons a r ih =>
    intro seen h d hd
    rw [measFrom] at h
    split at h
    · rename_i h1
      split at h
      · cases h
      · rcases List.mem_cons.1 hd with rfl | hd
        · exact h1
        · exact ih h d hd
    · cases h
theorem schErr_zero {s : SC} (h : schErr s = 0) : 1 ≤ s.dims.length ∧ s.dims.length ≤ 16 ∧ (∀ d ∈ s.dims, dimErr d = 0) ∧ 1 ≤ s.ms.length ∧ s.ms.length ≤ 3 ∧ ∀ m ∈ s.ms, isName m = true := by
  unfold schErr at h
  split at h
  · cases h
  · split at h
    · rename_i h1; exact absurd h h1
    · rename_i h1 h2
      unfold measErr at h
      split at h
      · cases h
      · exact ⟨by omega, by omega, dimsFrom_ok (seen := []) (by omega), by omega, by omega, measFrom_ok (seen := []) h⟩
theorem psch_put {s : SC} (h : schErr s = 0) (r : List UInt8) : psch (schPut s ++ r) = .ok (s, r) := by
  obtain ⟨h1, h2, h3, h4, h5, h6⟩ := schErr_zero h
  have e : schPut s ++ r = nput s.dims.length ++ (s.dims.flatMap dimPut ++ (nput s.ms.length ++ (s.ms.flatMap ptext ++ r))) := by unfold schPut; simp only [List.append_assoc]
  unfold psch
  rw [e, q_pnum (by omega) (by omega)]
  simp only
  rw [pmany_put (put := dimPut) _ fun d hd r => pdim_put (h3 d hd) r]
  simp only [psch1, pschM]
  rw [q_pnum (by omega) (by omega)]
  simp only
  rw [pmany_put (put := ptext) _ fun m hm r => q_ptxt (by have := isName_len (h6 m hm); omega) (by have := isName_len (h6 m hm); omega) r]
  simp only [psch2, pschC, List.nil_append]
  rw [if_pos h]
theorem psch_back {l r : List UInt8} {s : SC} (h : psch l = .ok (s, r)) : schErr s = 0 ∧ l = schPut s ++ r := by
  unfold psch at h
  split at h
  · cases h
  · rename_i n r1 h1
    unfold psch1 at h
    split at h
    · cases h
    · rename_i ds r2 h2
      unfold pschM at h
      split at h
      · cases h
      · rename_i m r3 h3
        unfold psch2 at h
        split at h
        · cases h
        · rename_i ms r4 h4
          unfold pschC at h
          split at h
          · rename_i h5
            injection h with h
            injection h with e1 e2
            subst e1 e2
            refine ⟨h5, ?_⟩
            obtain ⟨xs, a1, a2, a3⟩ := pmany_back (put := dimPut) (fun l x r h => (pdim_back h).2) h2
            obtain ⟨ys, b1, b2, b3⟩ := pmany_back (put := ptext) (fun l x r h => q_ptxt_back h) h4
            rw [List.nil_append] at a1 b1
            subst a1 b1
            unfold schPut
            rw [q_pnum_back h1, a3, q_pnum_back h3, b3, a2, b2]
            simp only [List.append_assoc]
          · cases h
theorem psch_err {k : Int} {l : List UInt8} (h : psch l = .error k) : k ≠ 0 := by
  unfold psch at h
  split at h
  · rename_i h1; injection h with h; subst h; have := pnum_err h1; omega
  · unfold psch1 at h
    split at h
    · rename_i h1; injection h with h; subst h; exact pmany_err (fun l k h => pdim_err h) h1
    · unfold pschM at h
      split at h
      · rename_i h1; injection h with h; subst h; have := pnum_err h1; omega
      · unfold psch2 at h
        split at h
        · rename_i h1; injection h with h; subst h; exact pmany_err (fun l k h => by have := ptxt_err h; omega) h1
        · unfold pschC at h
          split at h
          · cases h
          · rename_i h1; injection h with h; subst h; exact h1

end Go.Proofs.Ytnekknemjhlgdaa
