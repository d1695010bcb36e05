/- Tiers: plain: whether one may be; its bytes; how it is read. -/
import Derived.Test.YtnjpoamebkehbaaTermQ
namespace Go.Proofs.Ytnjpoamebkehbaa
open Go.RowKit
set_option linter.unusedVariables false
set_option linter.unusedSimpArgs false

/-- What a tier says. -/
structure TC where
  nm : List UInt8
  ts : List (List UInt8)
  up : List Int
deriving DecidableEq
/-- Do members stand under those above, each of which comes? -/
def treeOk (up : List Int) (members : Nat) (above : Int) : Bool :=
  if above ≤ 0 then up.isEmpty
  else decide (up.length = members) && up.all (fun n => decide (0 ≤ n ∧ n < above)) && (List.range above.toNat).all (fun i => up.contains (i : Int))
def tierErr (t : TC) (above : Int) : Int :=
  if isName t.nm then (if t.ts.length < 1 ∨ 200 < t.ts.length then 5 else if rowErr t.ts ≠ 0 then rowErr t.ts else if treeOk t.up t.ts.length above then 0 else 14) else 2
def upPut (up : List Int) : List UInt8 := up.flatMap fun n => nput n.toNat
def tierPut (t : TC) : List UInt8 := ptext t.nm ++ tput t.ts ++ upPut t.up
/-- So many numbers that are not above another one. -/
def pnums (most : Int) : Nat → List UInt8 → PR (List Int)
  | 0, l => .ok ([], l)
  | n + 1, l =>
    match pnum most l with
    | .error k => .error k
    | .ok (x, r) =>
      match pnums most n r with
      | .error k => .error k
      | .ok (xs, r) => .ok ((x : Int) :: xs, r)
def pups (above : Int) (n : Nat) (l : List UInt8) : PR (List Int) := if 0 < above then pnums (above - 1) n l else .ok ([], l)
/-- A tier is read, and asked whether it may be. -/
def ptierC (above : Int) (t : TC) (r : List UInt8) : PR TC := if tierErr t above = 0 then .ok (t, r) else .error (tierErr t above)
def ptier (above : Int) (l : List UInt8) : PR TC :=
  match ptxt 12 l with
  | .error k => .error k
  | .ok (nm, r) =>
    match tread 200 r with
    | .error k => .error k
    | .ok (ts, r) =>
      match pups above ts.length r with
      | .error k => .error k
      | .ok (up, r) => ptierC above ⟨nm, ts, up⟩ r

theorem rowFrom_range (ts : List (List UInt8)) : ∀ p, rowFrom p ts = 0 ∨ rowFrom p ts = 2 ∨ rowFrom p ts = 4 := by
  induction ts with
  | nil => intro p; exact .inl rfl
  | cons t r ih =>
    intro p
    rw [rowFrom]
    split
    · split
      · exact .inr (.inr rfl)
      · exact ih _
    · exact .inr (.inl rfl)
theorem tierErr_range (t : TC) (above : Int) : tierErr t above = 0 ∨ tierErr t above = 2 ∨ tierErr t above = 4 ∨ tierErr t above = 5 ∨ tierErr t above = 14 := by
  unfold tierErr
  have := rowFrom_range t.ts none
  unfold rowErr
  (repeat' split) <;> omega
theorem tierErr_zero {t : TC} {above : Int} (h : tierErr t above = 0) : isName t.nm = true ∧ 1 ≤ t.ts.length ∧ t.ts.length ≤ 200 ∧ rowErr t.ts = 0 ∧ treeOk t.up t.ts.length above = true := by
  unfold tierErr at h
  split at h
  · rename_i h1
    split at h
    · cases h
    · rename_i h2
      split at h
      · rename_i h3; exact absurd h h3
      · rename_i h3
        split at h
        · rename_i h4
          exact ⟨h1, by omega, by omega, by omega, h4⟩
        · cases h
  · cases h
theorem isName_len {l : List UInt8} (h : isName l = true) : 1 ≤ l.length ∧ l.length ≤ 12 := by
  unfold isName at h
  simp at h
  exact h.1
theorem treeOk_top {up : List Int} {m : Nat} {above : Int} (h : above ≤ 0) : treeOk up m above = up.isEmpty := by unfold treeOk; rw [if_pos h]
theorem treeOk_up {up : List Int} {m : Nat} {above : Int} (h : 0 < above) (ht : treeOk up m above = true) : up.length = m ∧ (∀ n ∈ up, 0 ≤ n ∧ n < above) ∧ ∀ i : Nat, (i : Int) < above → (i : Int) ∈ up := by
  unfold treeOk at ht
  rw [if_neg (by omega)] at ht
  simp only [Bool.and_eq_true, decide_eq_true_eq, List.all_eq_true] at ht
  obtain ⟨⟨h1, h2⟩, h3⟩ := ht
  refine ⟨h1, fun n hn => by simpa using h2 n hn, fun i hi => ?_⟩
  have := h3 i (by simp; omega)
  simpa using this
theorem pnums_put {above : Int} : ∀ {up : List Int}, (∀ n ∈ up, 0 ≤ n ∧ n < above) → above ≤ 9223372036854775807 → ∀ r, pnums (above - 1) up.length (upPut up ++ r) = .ok (up, r) := by
  intro up
  induction up with
  | nil => intro h ha r; rfl
  | cons n up ih =>
    intro h ha r
    have hn := h n (List.mem_cons_self ..)
    have e : upPut (n :: up) ++ r = nput n.toNat ++ (upPut up ++ r) := by unfold upPut; rw [List.flatMap_cons, List.append_assoc]
    rw [List.length_cons, pnums, e, q_pnum (by omega) (by omega)]
    simp only
    rw [ih (fun x hx => h x (List.mem_cons_of_mem _ hx)) ha]
    simp only
    rw [show ((n.toNat : Nat) : Int) = n by omega]
theorem pnums_back {most : Int} : ∀ {n : Nat} {l r : List UInt8} {up : List Int}, pnums most n l = .ok (up, r) → up.length = n ∧ l = upPut up ++ r ∧ ∀ x ∈ up, 0 ≤ x ∧ x ≤ most := by
  intro n
  induction n with
  | zero =>
    intro l r up h
    injection h with h
    injection h with h1 h2
    subst h1
    subst h2
    exact ⟨rfl, rfl, fun x hx => by cases hx⟩
  | succ n ih =>
    intro l r up h
    rw [pnums] at h
    split at h
    · cases h
    · rename_i x r1 hp
      split at h
      · cases h
      · rename_i xs r2 hs
        injection h with h
        injection h with h1 h2
        subst h1
        subst h2
        obtain ⟨a1, a2, a3⟩ := ih hs
        refine ⟨by simp [a1], ?_, fun y hy => ?_⟩
        · rw [q_pnum_back hp, a2]
          unfold upPut
          rw [List.flatMap_cons, List.append_assoc]
          rfl
        · rcases List.mem_cons.1 hy with rfl | hy
          · have := pnum_ok hp
            omega
          · exact a3 y hy
theorem pnums_err {most : Int} : ∀ {n : Nat} {l : List UInt8} {k : Int}, pnums most n l = .error k → k = 3 ∨ k = 5 := by
  intro n
  induction n with
  | zero => intro l k h; cases h
  | succ n ih =>
    intro l k h
    rw [pnums] at h
    split at h
    · rename_i hp
      injection h with h
      subst h
      exact pnum_err hp
    · split at h
      · rename_i hs
        injection h with h
        subst h
        exact ih hs
      · cases h
theorem tread_tput {ts : List (List UInt8)} {most : Int} (h : rowErr ts = 0) (hn : (ts.length : Int) ≤ most) (hb : ts.length ≤ 100000) (r : List UInt8) : tread most (tput ts ++ r) = .ok (ts, r) := by
  unfold tread tput
  rw [List.append_assoc, q_pnum (by omega) hn]
  simp only
  exact treads_tputs (ts := ts) (p := none) (was := []) h (.inr ⟨rfl, rfl⟩) (by simp) r
theorem ptier_put {t : TC} {above : Int} (ha : above ≤ 9223372036854775807) (h : tierErr t above = 0) (r : List UInt8) : ptier above (tierPut t ++ r) = .ok (t, r) := by
  obtain ⟨h1, h2, h3, h4, h5⟩ := tierErr_zero h
  have hl := isName_len h1
  have e : tierPut t ++ r = ptext t.nm ++ (tput t.ts ++ (upPut t.up ++ r)) := by unfold tierPut; simp only [List.append_assoc]
  unfold ptier
  rw [e, q_ptxt (by omega) (by omega)]
  simp only
  rw [tread_tput h4 (by omega) (by omega)]
  simp only
  have hu : pups above t.ts.length (upPut t.up ++ r) = .ok (t.up, r) := by
    unfold pups
    by_cases h0 : 0 < above
    · rw [if_pos h0]
      obtain ⟨a1, a2, _⟩ := treeOk_up h0 h5
      rw [← a1]
      exact pnums_put a2 ha r
    · rw [if_neg h0]
      rw [treeOk_top (by omega)] at h5
      have : t.up = [] := by simpa using h5
      rw [this]
      rfl
  rw [hu]
  simp only
  unfold ptierC
  rw [if_pos h]
theorem ptier_back {above : Int} {l r : List UInt8} {t : TC} (h : ptier above l = .ok (t, r)) : tierErr t above = 0 ∧ l = tierPut t ++ r := by
  unfold ptier at h
  split at h
  · cases h
  · rename_i nm r1 h1
    split at h
    · cases h
    · rename_i ts r2 h2
      split at h
      · cases h
      · rename_i up r3 h3
        unfold ptierC at h
        split at h
        · rename_i h4
          injection h with h
          injection h with h5 h6
          subst h5
          subst h6
          refine ⟨h4, ?_⟩
          have hu : r2 = upPut up ++ r3 := by
            unfold pups at h3
            split at h3
            · exact (pnums_back h3).2.1
            · injection h3 with h3
              injection h3 with h7 h8
              subst h7
              subst h8
              rfl
          unfold tierPut
          rw [q_ptxt_back h1, (tread_back h2).2, hu]
          simp only [List.append_assoc]
        · cases h

theorem nodup_le : ∀ {xs ys : List Nat}, xs.Nodup → (∀ x ∈ xs, x ∈ ys) → xs.length ≤ ys.length
  | [], _, _, _ => by simp
  | x :: xs, ys, hd, hs => by
    obtain ⟨hx, hd'⟩ := List.nodup_cons.1 hd
    have hm := hs x (List.mem_cons_self ..)
    have h1 := nodup_le (xs := xs) (ys := ys.erase x) hd' (fun y hy => (List.mem_erase_of_ne (a := y) (b := x) (by intro e; rw [e] at hy; exact hx hy)).2 (hs y (List.mem_cons_of_mem _ hy)))
    rw [List.length_erase_of_mem hm] at h1
    have := List.length_pos_of_mem hm
    rw [List.length_cons]
    omega
/-- All numbers below another one come among some if and only if there are as many different ones. -/
theorem addKey_cover {xs : List Nat} {m : Nat} (h : ∀ x ∈ xs, x < m) (hd : xs.Nodup) : xs.length = m ↔ ∀ i, i < m → i ∈ xs := by
  constructor
  · intro hl i hi
    by_cases hm : i ∈ xs
    · exact hm
    · exfalso
      have h1 : (i :: xs).Nodup := List.nodup_cons.2 ⟨hm, hd⟩
      have h2 := nodup_le (ys := List.range m) h1 (by
        intro y hy
        rcases List.mem_cons.1 hy with rfl | hy
        · exact List.mem_range.2 hi
        · exact List.mem_range.2 (h y hy))
      simp at h2
      omega
  · intro hc
    have a := nodup_le (ys := List.range m) hd (fun y hy => List.mem_range.2 (h y hy))
    have b := nodup_le (xs := List.range m) (ys := xs) List.nodup_range (fun y hy => hc y (List.mem_range.1 hy))
    simp at a b
    omega

end Go.Proofs.Ytnjpoamebkehbaa
