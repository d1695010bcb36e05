/- Aggregates as bytes: plain. -/
import Derived.Test.YtllgcehgdpgnnaaAggM
import Derived.Test.YtllgcehgdpgnnaaTermQ
namespace Go.Proofs.Ytllgcehgdpgnnaa
open Go.RowKit
set_option linter.unusedVariables false
set_option linter.unusedSimpArgs false

theorem q_pint {x : Int} (hx : I64 x) (t : List UInt8) : pint (nput (nfold x) ++ t) = .ok (x, t) := by
  unfold pint
  rw [q_pnumber (nfold_lt hx.1 hx.2)]
  simp only
  rw [nunfold_nfold]
theorem q_pint_back {l r : List UInt8} {x : Int} (h : pint l = .ok (x, r)) : l = nput (nfold x) ++ r ∧ I64 x := by
  unfold pint at h
  rcases pnumber_cases (l := l) with ⟨hp, hn⟩ | ⟨n, z, hn, hz, hlt, hp⟩
  · rw [hp] at h; cases h
  · rw [hp] at h
    injection h with h
    injection h with h1 h2
    subst h1
    subst h2
    have := ntake_true (l := l) (by rw [hn])
    rw [hn] at this
    rw [nfold_nunfold, ← this.1, List.take_append_drop]
    exact ⟨rfl, nunfold_in hlt⟩
theorem q_pint_err {l : List UInt8} {k : Int} (h : pint l = .error k) : k = 3 := by
  unfold pint at h
  rcases pnumber_cases (l := l) with ⟨hp, hn⟩ | ⟨n, z, hn, hz, hlt, hp⟩
  · rw [hp] at h; injection h with h; exact h.symm
  · rw [hp] at h; cases h

def Ag.prt (a : Ag) : Nat → Prt
  | 0 => a.p
  | 1 => a.q
  | _ => a.r
def Ag.set (a : Ag) (k : Nat) (x : Prt) : Ag :=
  match k with
  | 0 => { a with p := x }
  | 1 => { a with q := x }
  | _ => { a with r := x }
theorem Ag.set_c (a : Ag) (k : Nat) (x : Prt) : (a.set k x).c = a.c := by unfold Ag.set; split <;> rfl
/-- A part's bytes; and those of so many from one on. -/
def prtPut (c : Int) (x : Prt) : List UInt8 := nput (nfold x.s) ++ (if 1 < c then nput (nfold x.mn) ++ nput (nfold x.mx) else [])
def putsFrom (a : Ag) : Nat → Nat → List UInt8
  | _, 0 => []
  | k, n + 1 => prtPut a.c (a.prt k) ++ putsFrom a (k + 1) n
def agPut (m : Nat) (a : Ag) : List UInt8 := nput (nfold a.c) ++ putsFrom a 0 m
def agPutV (m : Int) (a : Ag) : List UInt8 × Int := if mayAg m a then (agPut m.toNat a, 0) else ([], 2)
/-- A part read; so many from one on; an aggregate. -/
def pprt (c : Int) (l : List UInt8) : PR Prt :=
  match pint l with
  | .error k => .error k
  | .ok (s, r) =>
    if 1 < c then
      match pint r with
      | .error k => .error k
      | .ok (x, r) =>
        match pint r with
        | .error k => .error k
        | .ok (y, r) => .ok (⟨s, x, y⟩, r)
    else .ok (⟨s, s, s⟩, r)
def prtsFrom : Nat → Nat → Ag → List UInt8 → PR Ag
  | _, 0, a, l => .ok (a, l)
  | k, n + 1, a, l =>
    match pprt a.c l with
    | .error e => .error e
    | .ok (x, r) => prtsFrom (k + 1) n (a.set k x) r
def mayC (m c : Int) : Bool := decide (0 ≤ m) && decide (m ≤ 3) && decide (1 ≤ c)
def pag (m : Int) (l : List UInt8) : PR Ag :=
  match pint l with
  | .error k => .error k
  | .ok (c, r) =>
    if mayC m c then
      match prtsFrom 0 m.toNat ⟨c, .zero, .zero, .zero⟩ r with
      | .error e => .error e
      | .ok (a, r) => if mayAg m a then .ok (a, r) else .error 3
    else .error 3

theorem pprt_put {c : Int} {x : Prt} (hx : x.ok) (h : 1 < c ∨ (x.s = x.mn ∧ x.s = x.mx)) (t : List UInt8) : pprt c (prtPut c x ++ t) = .ok (x, t) := by
  unfold pprt prtPut
  by_cases hc : 1 < c
  · rw [if_pos hc, List.append_assoc, q_pint hx.s]
    simp only
    rw [if_pos hc, List.append_assoc, q_pint hx.mn]
    simp only
    rw [q_pint hx.mx]
  · rw [if_neg hc, List.append_assoc, q_pint hx.s]
    simp only
    rw [if_neg hc]
    obtain ⟨s, mn, mx⟩ := x
    simp only at h
    rcases h with h | ⟨h1, h2⟩
    · exact absurd h hc
    · subst h1
      subst h2
      rfl
theorem pprt_back {c : Int} {x : Prt} {l r : List UInt8} (h : pprt c l = .ok (x, r)) : l = prtPut c x ++ r ∧ x.ok := by
  unfold pprt at h
  split at h
  · cases h
  · rename_i s r1 h1
    obtain ⟨e1, o1⟩ := q_pint_back h1
    split at h
    · rename_i hc
      split at h
      · cases h
      · rename_i y r2 h2
        obtain ⟨e2, o2⟩ := q_pint_back h2
        split at h
        · cases h
        · rename_i z r3 h3
          obtain ⟨e3, o3⟩ := q_pint_back h3
          injection h with h
          injection h with h4 h5
          subst h4
          subst h5
          unfold prtPut
          rw [if_pos hc, e1, e2, e3]
          simp only [List.append_assoc]
          exact ⟨trivial, o1, o2, o3⟩
    · rename_i hc
      injection h with h
      injection h with h4 h5
      subst h4
      subst h5
      unfold prtPut
      rw [if_neg hc, e1]
      simp only [List.append_nil]
      exact ⟨trivial, o1, o1, o1⟩
theorem prtMay_in {c : Int} {x : Prt} (hc : 1 ≤ c) (h : prtMay true c x = true) : 1 < c ∨ (x.s = x.mn ∧ x.s = x.mx) := by
  unfold prtMay at h
  simp at h
  omega
theorem prtMay_out {c : Int} {x : Prt} (h : prtMay false c x = true) : x = .zero := by
  unfold prtMay at h
  simpa using h
theorem mayAg_parts {m : Int} {a : Ag} (h : mayAg m a = true) : 0 ≤ m ∧ m ≤ 3 ∧ 1 ≤ a.c ∧ prtMay (decide (0 < m)) a.c a.p = true ∧ prtMay (decide (1 < m)) a.c a.q = true ∧ prtMay (decide (2 < m)) a.c a.r = true := by
  unfold mayAg at h
  simp only [Bool.and_eq_true, decide_eq_true_eq] at h
  obtain ⟨⟨⟨⟨⟨h1, h2⟩, h3⟩, h4⟩, h5⟩, h6⟩ := h
  exact ⟨h1, h2, h3, h4, h5, h6⟩
theorem pag_agPut {m : Int} {a : Ag} (ha : a.ok) (h : mayAg m a = true) (t : List UInt8) : pag m (agPut m.toNat a ++ t) = .ok (a, t) := by
  obtain ⟨h0, h3, hc, hp, hq, hr⟩ := mayAg_parts h
  have hm : mayC m a.c = true := by unfold mayC; simp [h0, h3, hc]
  unfold pag agPut
  rw [List.append_assoc, q_pint ha.c]
  simp only
  rw [if_pos hm]
  have key : prtsFrom 0 m.toNat ⟨a.c, .zero, .zero, .zero⟩ (putsFrom a 0 m.toNat ++ t) = .ok (a, t) := by
    obtain ⟨c, p, q, r⟩ := a
    simp only at *
    rcases (show m = 0 ∨ m = 1 ∨ m = 2 ∨ m = 3 by omega) with rfl | rfl | rfl | rfl
    · rw [prtMay_out hp, prtMay_out hq, prtMay_out hr]
      rfl
    · have e1 := fun t => pprt_put ha.p (prtMay_in hc hp) t
      simp only at e1
      rw [prtMay_out hq, prtMay_out hr]
      simp only [show (1 : Int).toNat = 1 from rfl, putsFrom, prtsFrom, Ag.prt, List.append_assoc, e1, Ag.set, List.nil_append]
    · have e1 := fun t => pprt_put ha.p (prtMay_in hc hp) t
      have e2 := fun t => pprt_put ha.q (prtMay_in hc hq) t
      simp only at e1 e2
      rw [prtMay_out hr]
      simp only [show (2 : Int).toNat = 2 from rfl, putsFrom, prtsFrom, Ag.prt, List.append_assoc, e1, e2, Ag.set, List.nil_append]
    · have e1 := fun t => pprt_put ha.p (prtMay_in hc hp) t
      have e2 := fun t => pprt_put ha.q (prtMay_in hc hq) t
      have e3 := fun t => pprt_put ha.r (prtMay_in hc hr) t
      simp only at e1 e2 e3
      simp only [show (3 : Int).toNat = 3 from rfl, putsFrom, prtsFrom, Ag.prt, List.append_assoc, e1, e2, e3, Ag.set, List.nil_append]
  rw [key]
  simp only
  rw [if_pos h]
theorem prtsFrom_back {n : Nat} : ∀ {k : Nat} {a b : Ag} {l r : List UInt8}, prtsFrom k n a l = .ok (b, r) → k + n ≤ 3 → a.ok → l = putsFrom b k n ++ r ∧ b.ok ∧ b.c = a.c ∧ ∀ j, j < k → b.prt j = a.prt j := by
  induction n with
  | zero =>
    intro k a b l r h hk ha
    injection h with h
    injection h with h1 h2
    subst h1
    subst h2
    exact ⟨rfl, ha, rfl, fun _ _ => rfl⟩
  | succ n ih =>
    intro k a b l r h hk ha
    rw [prtsFrom] at h
    split at h
    · cases h
    · rename_i x r1 h1
      obtain ⟨e1, o1⟩ := pprt_back h1
      obtain ⟨e2, o2, e3, e4⟩ := ih h (by omega) (by
        rcases (show k = 0 ∨ k = 1 ∨ k = 2 by omega) with rfl | rfl | rfl
        · exact ⟨ha.c, o1, ha.q, ha.r⟩
        · exact ⟨ha.c, ha.p, o1, ha.r⟩
        · exact ⟨ha.c, ha.p, ha.q, o1⟩)
      rw [Ag.set_c] at e3
      have e5 : b.prt k = x := by
        rw [e4 k (by omega)]
        rcases (show k = 0 ∨ k = 1 ∨ k = 2 by omega) with rfl | rfl | rfl <;> rfl
      refine ⟨?_, o2, e3, fun j hj => ?_⟩
      · rw [putsFrom, e5, e3, e1, e2, List.append_assoc]
      · rw [e4 j (by omega)]
        rcases (show (k = 1 ∧ j = 0) ∨ (k = 2 ∧ j = 0) ∨ (k = 2 ∧ j = 1) by omega) with ⟨rfl, rfl⟩ | ⟨rfl, rfl⟩ | ⟨rfl, rfl⟩ <;> rfl
theorem pag_back {m : Int} {a : Ag} {l r : List UInt8} (h : pag m l = .ok (a, r)) : l = agPut m.toNat a ++ r ∧ mayAg m a = true ∧ a.ok := by
  unfold pag at h
  split at h
  · cases h
  · rename_i c r1 h1
    obtain ⟨e1, o1⟩ := q_pint_back h1
    split at h
    · rename_i hm
      unfold mayC at hm
      simp only [Bool.and_eq_true, decide_eq_true_eq] at hm
      split at h
      · cases h
      · rename_i b r2 h2
        obtain ⟨e2, o2, e3, _⟩ := prtsFrom_back h2 (by omega) ⟨o1, prt_zero_ok, prt_zero_ok, prt_zero_ok⟩
        split at h
        · rename_i hmay
          injection h with h
          injection h with h3 h4
          subst h3
          subst h4
          refine ⟨?_, hmay, o2⟩
          unfold agPut
          rw [e3, e1, e2, List.append_assoc]
        · cases h
    · cases h
theorem pprt_err {c k : Int} {l : List UInt8} (h : pprt c l = .error k) : k = 3 := by
  unfold pprt at h
  split at h
  · rename_i h1
    injection h with h
    subst h
    exact q_pint_err h1
  · split at h
    · split at h
      · rename_i h1
        injection h with h
        subst h
        exact q_pint_err h1
      · split at h
        · rename_i h1
          injection h with h
          subst h
          exact q_pint_err h1
        · cases h
    · cases h
theorem prtsFrom_err {n : Nat} : ∀ {j : Nat} {a : Ag} {l : List UInt8} {k : Int}, prtsFrom j n a l = .error k → k = 3 := by
  induction n with
  | zero => intro j a l k h; cases h
  | succ n ih =>
    intro j a l k h
    rw [prtsFrom] at h
    split at h
    · rename_i h1
      injection h with h
      subst h
      exact pprt_err h1
    · exact ih h
theorem pag_err {m k : Int} {l : List UInt8} (h : pag m l = .error k) : k = 3 := by
  unfold pag at h
  split at h
  · rename_i h1
    injection h with h
    subst h
    exact q_pint_err h1
  · split at h
    · split at h
      · rename_i h1
        injection h with h
        subst h
        exact prtsFrom_err h1
      · split at h
        · cases h
        · injection h with h; exact h.symm
    · injection h with h; exact h.symm
theorem pint_lt {l r : List UInt8} {x : Int} (h : pint l = .ok (x, r)) : r.length ≤ l.length := by
  have := (q_pint_back h).1
  rw [this, List.length_append]
  omega

end Go.Proofs.Ytllgcehgdpgnnaa
