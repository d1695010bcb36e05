/- Queries, plain: what may be asked, its bytes, and how they are read. -/
import Derived.Test.YtlclllkjnhgbjaaBr
import Derived.Test.YtlclllkjnhgbjaaBs
import Derived.Test.YtlclllkjnhgbjaaBd
namespace Go.Proofs.Ytlclllkjnhgbjaa
open Go.RowKit
set_option linter.unusedVariables false
set_option linter.unusedSimpArgs false

/-- A pick. -/
structure PC where
  f : Int
  t : Int
  lo : List UInt8
  hi : List UInt8
  set : List (List UInt8)
  g : Bool
  by_ : Int
deriving DecidableEq
abbrev PC.nil : PC := ⟨0, 0, [], [], [], false, 0⟩
def memErr (tr : List (List UInt8)) : List (List UInt8) → Int
  | [] => 0
  | s :: r => match posOf s tr with | none => 13 | some _ => memErr tr r
def betErr (p : PC) : Int := if 0 < p.set.length then 2 else if 16 < p.lo.length ∨ 16 < p.hi.length then 5 else 0
def amgErr (tr : List (List UInt8)) (p : PC) : Int := if p.lo = [] ∧ p.hi = [] then (if rowErr p.set ≠ 0 then rowErr p.set else memErr tr p.set) else 2
def filtErr (d : DC) (p : PC) : Int :=
  if p.f = 0 then (if p.t = 0 ∧ p.lo = [] ∧ p.hi = [] ∧ p.set.length = 0 then 0 else 2)
  else if p.f = 1 ∨ p.f = 2 then
    (if 0 ≤ p.t then (match d.trs[p.t.toNat]? with | none => 2 | some tr => if p.f = 1 then betErr p else amgErr tr.ts p) else 2)
  else 2
def hasT (d : DC) (k : Int) : Bool := decide (0 ≤ k) && decide (k < (d.trs.length : Int))
def pickErr (d : DC) (p : PC) : Int := if filtErr d p ≠ 0 then filtErr d p else if (p.g = true ∧ hasT d p.by_ = false) ∨ (p.g = false ∧ p.by_ ≠ 0) then 2 else 0
def picksErr : List DC → List PC → Int
  | d :: ds, p :: ps => if pickErr d p ≠ 0 then pickErr d p else picksErr ds ps
  | _, _ => 0
def askErr (s : SC) (q : List PC) : Int := if schErr s ≠ 0 then schErr s else if q.length ≠ s.dims.length then 2 else picksErr s.dims q
def pickPut (p : PC) : List UInt8 :=
  nput p.f.toNat ++ ((if p.f = 1 then nput p.t.toNat ++ ptext p.lo ++ ptext p.hi else if p.f = 2 then nput p.t.toNat ++ tput p.set else []) ++ nput (if p.g = true then p.by_.toNat + 1 else 0))
def askPut (q : List PC) : List UInt8 := q.flatMap pickPut
def askPutV (s : SC) (q : List PC) : List UInt8 × Int := if askErr s q = 0 then (askPut q, 0) else ([], askErr s q)
theorem picksErr_drop {ds : List DC} {ps : List PC} {k : Nat} {d : DC} {p : PC} (hd : ds[k]? = some d) (hp : ps[k]? = some p) : picksErr (ds.drop k) (ps.drop k) = if pickErr d p ≠ 0 then pickErr d p else picksErr (ds.drop (k + 1)) (ps.drop (k + 1)) := by
  obtain ⟨h1, rfl⟩ := List.getElem?_eq_some_iff.1 hd
  obtain ⟨h2, rfl⟩ := List.getElem?_eq_some_iff.1 hp
  rw [List.drop_eq_getElem_cons h1, List.drop_eq_getElem_cons h2, picksErr]
theorem memErr_drop {tr ss : List (List UInt8)} {k : Nat} {s : List UInt8} (h : ss[k]? = some s) : memErr tr (ss.drop k) = match posOf s tr with | none => 13 | some _ => memErr tr (ss.drop (k + 1)) := by
  obtain ⟨h1, rfl⟩ := List.getElem?_eq_some_iff.1 h
  rw [List.drop_eq_getElem_cons h1, memErr]
theorem memErr_ok {tr ss : List (List UInt8)} (h : memErr tr ss = 0) : ∀ s ∈ ss, ∃ i, posOf s tr = some i := by
  induction ss with
  | nil => intro s hs; cases hs
  | cons a r ih =>
    intro s hs
    rw [memErr] at h
    cases hp : posOf a tr with
    | none => rw [hp] at h; cases h
    | some i =>
      rw [hp] at h
      rcases List.mem_cons.1 hs with rfl | hs
      · exact ⟨i, hp⟩
      · exact ih h s hs
theorem memErr_val (tr ss : List (List UInt8)) : memErr tr ss = 0 ∨ memErr tr ss = 13 := by
  induction ss with
  | nil => exact .inl rfl
  | cons a r ih =>
    rw [memErr]
    cases posOf a tr with
    | none => exact .inr rfl
    | some i => exact ih
theorem posOf_inj {s t : List UInt8} {ts : List (List UInt8)} : ∀ {i : Nat}, posOf s ts = some i → posOf t ts = some i → s = t := by
  induction ts with
  | nil => intro i h; cases h
  | cons a r ih =>
    intro i h1 h2
    rw [posOf] at h1 h2
    by_cases e1 : (a == s) = true
    · rw [if_pos e1] at h1
      by_cases e2 : (a == t) = true
      · rw [beq_iff_eq] at e1 e2
        exact e1.symm.trans e2
      · rw [if_neg e2] at h2
        cases hp : posOf t r with
        | none => rw [hp] at h2; cases h2
        | some j =>
          rw [hp] at h2
          simp at h1 h2
          omega
    · rw [if_neg e1] at h1
      cases hp : posOf s r with
      | none => rw [hp] at h1; cases h1
      | some j =>
        rw [hp] at h1
        by_cases e2 : (a == t) = true
        · rw [if_pos e2] at h2
          simp at h1 h2
          omega
        · rw [if_neg e2] at h2
          cases hq : posOf t r with
          | none => rw [hq] at h2; cases h2
          | some k =>
            rw [hq] at h2
            simp at h1 h2
            have e : j = k := by omega
            subst e
            exact ih hp hq
theorem riseT_nodup {ts : List (List UInt8)} (h : RiseT ts) : ts.Nodup := h.imp (fun {a b} hab e => by rw [e, less_irr] at hab; cases hab)
theorem set_len {tr ss : List (List UInt8)} (h : rowErr ss = 0) (hm : memErr tr ss = 0) : ss.length ≤ tr.length := by
  have h1 := riseT_nodup (riseT_row h)
  have h2 := memErr_ok hm
  have h3 : (ss.map (fun s => (posOf s tr).getD 0)).Nodup := by
    have key : ∀ l : List (List UInt8), l.Nodup → (∀ s ∈ l, ∃ i, posOf s tr = some i) → (l.map (fun s => (posOf s tr).getD 0)).Nodup := by
      intro l
      induction l with
      | nil => intro _ _; exact List.nodup_nil
      | cons a r ih =>
        intro hd hs
        rw [List.nodup_cons] at hd
        rw [List.map_cons, List.nodup_cons]
        refine ⟨fun hm => ?_, ih hd.2 (fun s h => hs s (List.mem_cons_of_mem _ h))⟩
        obtain ⟨b, hb, he⟩ := List.mem_map.1 hm
        obtain ⟨i, hi⟩ := hs a (List.mem_cons_self ..)
        obtain ⟨j, hj⟩ := hs b (List.mem_cons_of_mem _ hb)
        rw [hi, hj] at he
        have e : j = i := he
        subst e
        exact hd.1 (posOf_inj hi hj ▸ hb)
    exact key ss h1 h2
  have h4 := nodup_le (ys := List.range tr.length) h3 (fun x hx => by
    obtain ⟨s, hs, rfl⟩ := List.mem_map.1 hx
    obtain ⟨i, hi⟩ := h2 s hs
    rw [hi]
    exact List.mem_range.2 (posOf_lt hi))
  rw [List.length_map, List.length_range] at h4
  exact h4
/-- What is known of a pick that may be. -/
structure PickOk (d : DC) (p : PC) : Prop where
  f : p.f = 0 ∧ p.t = 0 ∧ p.lo = [] ∧ p.hi = [] ∧ p.set = [] ∨ (p.f = 1 ∧ p.set = [] ∧ p.lo.length ≤ 16 ∧ p.hi.length ≤ 16 ∧ 0 ≤ p.t ∧ p.t < d.trs.length) ∨ (p.f = 2 ∧ p.lo = [] ∧ p.hi = [] ∧ rowErr p.set = 0 ∧ 0 ≤ p.t ∧ ∃ tr, d.trs[p.t.toNat]? = some tr ∧ memErr tr.ts p.set = 0)
  b : p.g = true ∧ 0 ≤ p.by_ ∧ p.by_ < d.trs.length ∨ p.g = false ∧ p.by_ = 0
theorem rowErr_val (ts : List (List UInt8)) : rowErr ts = 0 ∨ rowErr ts = 2 ∨ rowErr ts = 4 := by
  have key : ∀ (l : List (List UInt8)) p, rowFrom p l = 0 ∨ rowFrom p l = 2 ∨ rowFrom p l = 4 := by
    intro l
    induction l with
    | nil => intro p; exact .inl rfl
    | cons a r ih =>
      intro p
      unfold rowFrom
      repeat' split
      all_goals first | exact ih _ | exact .inr (.inl rfl) | exact .inr (.inr rfl)
  exact key ts none
theorem filtErr_val (d : DC) (p : PC) : filtErr d p = 0 ∨ filtErr d p = 2 ∨ filtErr d p = 4 ∨ filtErr d p = 5 ∨ filtErr d p = 13 := by
  unfold filtErr betErr amgErr
  have h1 := rowErr_val p.set
  repeat' split
  all_goals first | omega | (rename_i tr _ _ _ _; have := memErr_val tr.ts p.set; omega) | (rename_i tr _ _ _ _ _; have := memErr_val tr.ts p.set; omega)
theorem pickErr_val (d : DC) (p : PC) : pickErr d p = 0 ∨ pickErr d p = 2 ∨ pickErr d p = 4 ∨ pickErr d p = 5 ∨ pickErr d p = 13 := by
  unfold pickErr
  have := filtErr_val d p
  repeat' split
  all_goals omega
theorem pickErr_zero {d : DC} {p : PC} (h : pickErr d p = 0) : PickOk d p := by
  unfold pickErr at h
  split at h
  · rename_i h1; exact absurd h h1
  · rename_i h1
    have h0 : filtErr d p = 0 := by omega
    split at h
    · cases h
    · rename_i h2
      refine ⟨?_, ?_⟩
      · unfold filtErr at h0
        split at h0
        · rename_i hf
          split at h0
          · rename_i hg
            exact .inl ⟨hf, hg.1, hg.2.1, hg.2.2.1, List.length_eq_zero_iff.1 hg.2.2.2⟩
          · cases h0
        · split at h0
          · rename_i hf
            split at h0
            · rename_i ht
              cases htr : d.trs[p.t.toNat]? with
              | none => rw [htr] at h0; cases h0
              | some tr =>
                rw [htr] at h0
                simp only at h0
                have htl := (List.getElem?_eq_some_iff.1 htr).1
                split at h0
                · rename_i hf1
                  unfold betErr at h0
                  split at h0
                  · cases h0
                  · split at h0
                    · cases h0
                    · rename_i h5 h6
                      exact .inr (.inl ⟨hf1, List.length_eq_zero_iff.1 (by omega), by omega, by omega, ht, by omega⟩)
                · rename_i hf1
                  unfold amgErr at h0
                  split at h0
                  · rename_i hl
                    split at h0
                    · rename_i h5; exact absurd h0 h5
                    · rename_i h5
                      exact .inr (.inr ⟨by omega, hl.1, hl.2, by omega, ht, tr, rfl, h0⟩)
                  · cases h0
            · cases h0
          · cases h0
      · cases hg : p.g with
        | true =>
          rw [hg] at h2
          cases hh : hasT d p.by_ with
          | true =>
            unfold hasT at hh
            rw [Bool.and_eq_true, decide_eq_true_eq, decide_eq_true_eq] at hh
            exact .inl ⟨rfl, hh.1, hh.2⟩
          | false => exact absurd (.inl ⟨rfl, hh⟩) h2
        | false =>
          rw [hg] at h2
          refine .inr ⟨rfl, ?_⟩
          refine Decidable.byContradiction fun hc => h2 (.inr ⟨rfl, hc⟩)
theorem picksErr_ok {ds : List DC} : ∀ {ps : List PC}, picksErr ds ps = 0 → ps.length = ds.length → ∀ (k : Nat) d p, ds[k]? = some d → ps[k]? = some p → pickErr d p = 0 := by
  induction ds with
  | nil => intro ps _ _ k d p hd; simp at hd
  | cons d ds ih =>
    intro ps h hl k d' p' hd hp
    cases ps with
    | nil => simp at hl
    | cons p ps =>
      rw [picksErr] at h
      split at h
      · rename_i h1; exact absurd h h1
      · rename_i h1
        cases k with
        | zero =>
          simp only [List.getElem?_cons_zero, Option.some.injEq] at hd hp
          subst hd hp
          omega
        | succ k =>
          simp only [List.getElem?_cons_succ] at hd hp
          exact ih h (by simpa using hl) k d' p' hd hp
theorem askErr_zero {s : SC} {q : List PC} (h : askErr s q = 0) : schErr s = 0 ∧ q.length = s.dims.length ∧ picksErr s.dims q = 0 := by
  unfold askErr at h
  split at h
  · rename_i h1; exact absurd h h1
  · split at h
    · cases h
    · exact ⟨by omega, by omega, h⟩
/-- A pick read. -/
def ppA (f : Nat) (o : PR (Int × List UInt8 × List UInt8 × List (List UInt8))) : PR PC := match o with | .error k => .error k | .ok ((t, lo, hi, set), r) => (match pnum 4 r with | .error k => .error k | .ok (b, r2) => .ok (⟨f, t, lo, hi, set, decide (0 < b), (b : Int) - (if 0 < b then 1 else 0)⟩, r2))
def ppW (l : List UInt8) : PR (Int × List UInt8 × List UInt8 × List (List UInt8)) := match pnum 3 l with | .error k => .error k | .ok (t, r) => (match ptxt 16 r with | .error k => .error k | .ok (lo, r2) => (match ptxt 16 r2 with | .error k => .error k | .ok (hi, r3) => .ok ((t, lo, hi, []), r3)))
def ppS (l : List UInt8) : PR (Int × List UInt8 × List UInt8 × List (List UInt8)) := match pnum 3 l with | .error k => .error k | .ok (t, r) => (match tread 200 r with | .error k => .error k | .ok (set, r2) => .ok ((t, [], [], set), r2))
def ppick (l : List UInt8) : PR PC := match pnum 2 l with | .error k => .error k | .ok (f, r) => ppA f (if f = 1 then ppW r else if f = 2 then ppS r else .ok ((0, [], [], []), r))
def ppicks (n : Nat) (l : List UInt8) : PR (List PC) := pmany ppick n [] l
def asktake (s : SC) (b : List UInt8) : List PC × Int :=
  if schErr s ≠ 0 then ([], schErr s) else
  match ppicks s.dims.length b with
  | .error k => ([], k)
  | .ok (q, r) => if r ≠ [] then ([], 3) else if askErr s q = 0 then (q, 0) else ([], askErr s q)
theorem nput_tail {n : Nat} {most : Int} (h0 : (n : Int) ≤ most) (hm : most ≤ 9000000) (r : List UInt8) : pnum most (nput n ++ r) = .ok (n, r) := q_pnum (by omega) h0 r
theorem ppick_put {d : DC} {p : PC} (hd : dimErr d = 0) (h : pickErr d p = 0) (r : List UInt8) : ppick (pickPut p ++ r) = .ok (p, r) := by
  obtain ⟨hf, hb⟩ := pickErr_zero h
  obtain ⟨_, d1, d2, _⟩ := dimErr_zero hd
  have hby : ∀ (t : Int) (lo hi : List UInt8) (set : List (List UInt8)) (f : Nat), p = ⟨f, t, lo, hi, set, p.g, p.by_⟩ → ppA f (.ok ((t, lo, hi, set), nput (if p.g = true then p.by_.toNat + 1 else 0) ++ r)) = .ok (p, r) := by
    intro t lo hi set f he
    unfold ppA
    simp only
    rcases hb with ⟨hg, hb1, hb2⟩ | ⟨hg, hb⟩
    · rw [if_pos hg, nput_tail (by omega) (by omega)]
      have e1 : decide (0 < p.by_.toNat + 1) = true := by simp
      have e2 : (((p.by_.toNat + 1 : Nat) : Int)) - (if 0 < p.by_.toNat + 1 then 1 else 0) = p.by_ := by rw [if_pos (by omega)]; omega
      simp only
      rw [e1, e2, ← hg, ← he]
    · rw [if_neg (by rw [hg]; simp), nput_tail (by omega) (by omega)]
      have e1 : decide (0 < 0) = false := by simp
      have e2 : ((0 : Nat) : Int) - (if 0 < 0 then 1 else 0) = p.by_ := by rw [hb]; simp
      simp only
      rw [e1, e2, ← hg, ← he]
  obtain ⟨f, t, lo, hi, set, g, b⟩ := p
  simp only at hf hb hby
  unfold ppick pickPut
  simp only
  rcases hf with ⟨rfl, rfl, rfl, rfl, rfl⟩ | ⟨rfl, rfl, h1, h2, h3, h4⟩ | ⟨rfl, rfl, rfl, h1, h2, tr, h3, h4⟩
  · simp only [List.append_assoc]
    rw [show (0 : Int).toNat = 0 from rfl, nput_tail (by omega) (by omega)]
    simp only
    rw [if_neg (by omega), if_neg (by omega), if_neg (by omega), if_neg (by omega), List.nil_append]
    exact hby 0 [] [] [] 0 rfl
  · simp only [List.append_assoc]
    rw [show (1 : Int).toNat = 1 from rfl, nput_tail (by omega) (by omega)]
    simp only [if_true]
    unfold ppW
    simp only [List.append_assoc]
    rw [nput_tail (by omega) (by omega)]
    simp only
    rw [q_ptxt (by omega) (by omega)]
    simp only
    rw [q_ptxt (by omega) (by omega)]
    simp only
    exact hby _ lo hi [] 1 (by rw [Int.toNat_of_nonneg h3]; rfl)
  · simp only [List.append_assoc]
    rw [show (2 : Int).toNat = 2 from rfl, nput_tail (by omega) (by omega)]
    simp only [if_true]
    rw [if_neg (by omega), if_neg (by omega)]
    unfold ppS
    simp only [List.append_assoc]
    have h5 := (List.getElem?_eq_some_iff.1 h3).1
    have h6 : (dimErr d = 0) → tr.ts.length ≤ 200 := fun hd => by
      obtain ⟨a, ha⟩ := allOk_mem (dimFrom_ok (dimErr_zero hd).2.2.2) (List.mem_of_getElem? h3)
      exact (tierErr_zero ha).2.2.1
    have h7 := h6 hd
    have h8 := set_len h1 h4
    rw [nput_tail (by omega) (by omega)]
    simp only
    rw [tread_tput h1 (by omega) (by omega)]
    simp only
    exact hby _ [] [] set 2 (by rw [Int.toNat_of_nonneg h2]; rfl)
theorem ppicks_put {ds : List DC} : ∀ {ps acc : List PC} (r : List UInt8), (∀ d ∈ ds, dimErr d = 0) → ps.length = ds.length → picksErr ds ps = 0 → pmany ppick ds.length acc (askPut ps ++ r) = .ok (acc ++ ps, r) := by
  induction ds with
  | nil => intro ps acc r _ hl _; cases ps with | nil => simp [pmany, askPut] | cons a b => simp at hl
  | cons d ds ih =>
    intro ps acc r hd hl h
    cases ps with
    | nil => simp at hl
    | cons p ps =>
      rw [picksErr] at h
      split at h
      · rename_i h1; exact absurd h h1
      · rename_i h1
        have h0 : pickErr d p = 0 := by omega
        rw [List.length_cons]
        unfold askPut
        rw [List.flatMap_cons, List.append_assoc, pmany, ppick_put (hd d (List.mem_cons_self ..)) h0]
        simp only
        have := ih (acc := acc ++ [p]) r (fun x hx => hd x (List.mem_cons_of_mem _ hx)) (by simpa using hl) h
        unfold askPut at this
        rw [this, List.append_assoc]
        rfl
theorem asktake_put {s : SC} {q : List PC} (h : askErr s q = 0) : asktake s (askPut q) = (q, 0) := by
  obtain ⟨h1, h2, h3⟩ := askErr_zero h
  unfold asktake ppicks
  rw [if_neg (by omega)]
  have := ppicks_put (acc := []) [] (schErr_zero h1).2.2.1 h2 h3
  rw [List.append_nil, List.nil_append] at this
  rw [this]
  simp only
  rw [if_neg (by simp), if_pos h]
theorem ppick_back {l r : List UInt8} {p : PC} (h : ppick l = .ok (p, r)) : l = pickPut p ++ r := by
  have hA : ∀ (f : Nat) (t : Int) (lo hi : List UInt8) (set : List (List UInt8)) (r1 : List UInt8), ppA f (.ok ((t, lo, hi, set), r1)) = .ok (p, r) → p.f = f ∧ p.t = t ∧ p.lo = lo ∧ p.hi = hi ∧ p.set = set ∧ r1 = nput (if p.g = true then p.by_.toNat + 1 else 0) ++ r := by
    intro f t lo hi set r1 h
    unfold ppA at h
    simp only at h
    cases h1 : pnum 4 r1 with
    | error k => rw [h1] at h; cases h
    | ok x =>
      obtain ⟨b, r2⟩ := x
      rw [h1] at h
      injection h with h
      injection h with e1 e2
      subst e1 e2
      refine ⟨rfl, rfl, rfl, rfl, rfl, ?_⟩
      rw [q_pnum_back h1]
      by_cases hb : 0 < b
      · simp only [hb, decide_true, if_true]
        congr 2
        omega
      · have : b = 0 := by omega
        subst this
        simp
  unfold ppick at h
  cases h1 : pnum 2 l with
  | error k => rw [h1] at h; cases h
  | ok x =>
    obtain ⟨f, r0⟩ := x
    rw [h1] at h
    simp only at h
    have hf := (pnum_ok h1).2.1
    rw [q_pnum_back h1]
    unfold pickPut
    by_cases f1 : f = 1
    · subst f1
      rw [if_pos rfl] at h
      unfold ppW at h
      cases h2 : pnum 3 r0 with
      | error k => rw [h2] at h; cases h
      | ok x =>
        obtain ⟨t, r2⟩ := x
        rw [h2] at h
        simp only at h
        cases h3 : ptxt 16 r2 with
        | error k => rw [h3] at h; cases h
        | ok x =>
          obtain ⟨lo, r3⟩ := x
          rw [h3] at h
          simp only at h
          cases h4 : ptxt 16 r3 with
          | error k => rw [h4] at h; cases h
          | ok x =>
            obtain ⟨hi, r4⟩ := x
            rw [h4] at h
            simp only at h
            obtain ⟨e1, e2, e3, e4, e5, e6⟩ := hA _ _ _ _ _ _ h
            rw [e1, e2, e3, e4, if_pos (by rfl), q_pnum_back h2, q_ptxt_back h3, q_ptxt_back h4, e6]
            simp only [List.append_assoc, Int.toNat_natCast]
    · rw [if_neg f1] at h
      by_cases f2 : f = 2
      · subst f2
        rw [if_pos rfl] at h
        unfold ppS at h
        cases h2 : pnum 3 r0 with
        | error k => rw [h2] at h; cases h
        | ok x =>
          obtain ⟨t, r2⟩ := x
          rw [h2] at h
          simp only at h
          cases h3 : tread 200 r2 with
          | error k => rw [h3] at h; cases h
          | ok x =>
            obtain ⟨set, r3⟩ := x
            rw [h3] at h
            simp only at h
            obtain ⟨e1, e2, e3, e4, e5, e6⟩ := hA _ _ _ _ _ _ h
            rw [e1, e2, e5, if_neg (by omega), if_pos (by rfl), q_pnum_back h2, (tread_back h3).2, e6]
            simp only [List.append_assoc, Int.toNat_natCast]
      · rw [if_neg f2] at h
        have f0 : f = 0 := by omega
        subst f0
        obtain ⟨e1, e2, e3, e4, e5, e6⟩ := hA _ _ _ _ _ _ h
        rw [e1, if_neg (by omega), if_neg (by omega), e6]
        simp only [List.append_assoc, List.nil_append, Int.toNat_natCast]
theorem ppick_err {l : List UInt8} {k : Int} (h : ppick l = .error k) : k ≠ 0 := by
  have hA : ∀ (f : Nat) (t : Int) (lo hi : List UInt8) (set : List (List UInt8)) (r1 : List UInt8), ppA f (.ok ((t, lo, hi, set), r1)) = .error k → k ≠ 0 := by
    intro f t lo hi set r1 h
    unfold ppA at h
    simp only at h
    cases h1 : pnum 4 r1 with
    | error e => rw [h1] at h; injection h with h; subst h; have := pnum_err h1; omega
    | ok x => rw [h1] at h; cases h
  have hE : ∀ (f : Nat) e, ppA f (.error e) = .error k → e = k := by
    intro f e h
    unfold ppA at h
    injection h
  unfold ppick at h
  cases h1 : pnum 2 l with
  | error e => rw [h1] at h; injection h with h; subst h; have := pnum_err h1; omega
  | ok x =>
    obtain ⟨f, r0⟩ := x
    rw [h1] at h
    simp only at h
    by_cases f1 : f = 1
    · rw [if_pos f1] at h
      unfold ppW at h
      cases h2 : pnum 3 r0 with
      | error e => rw [h2] at h; have := hE _ _ h; have := pnum_err h2; omega
      | ok x =>
        obtain ⟨t, r2⟩ := x
        rw [h2] at h
        simp only at h
        cases h3 : ptxt 16 r2 with
        | error e => rw [h3] at h; have := hE _ _ h; have := ptxt_err h3; omega
        | ok x =>
          obtain ⟨lo, r3⟩ := x
          rw [h3] at h
          simp only at h
          cases h4 : ptxt 16 r3 with
          | error e => rw [h4] at h; have := hE _ _ h; have := ptxt_err h4; omega
          | ok x =>
            rw [h4] at h
            exact hA _ _ _ _ _ _ h
    · rw [if_neg f1] at h
      by_cases f2 : f = 2
      · rw [if_pos f2] at h
        unfold ppS at h
        cases h2 : pnum 3 r0 with
        | error e => rw [h2] at h; have := hE _ _ h; have := pnum_err h2; omega
        | ok x =>
          obtain ⟨t, r2⟩ := x
          rw [h2] at h
          simp only at h
          cases h3 : tread 200 r2 with
          | error e => rw [h3] at h; have := hE _ _ h; have := tread_err h3; omega
          | ok x =>
            rw [h3] at h
            exact hA _ _ _ _ _ _ h
      · rw [if_neg f2] at h
        exact hA _ _ _ _ _ _ h
theorem asktake_back {s : SC} {b : List UInt8} (h : (asktake s b).2 = 0) : askErr s (asktake s b).1 = 0 ∧ askPut (asktake s b).1 = b := by
  unfold asktake at h ⊢
  by_cases hs : schErr s = 0
  · rw [if_neg (by omega)] at h ⊢
    cases h1 : ppicks s.dims.length b with
    | error k =>
      rw [h1] at h
      simp only at h
      exact absurd h (pmany_err (fun l k h => ppick_err h) h1)
    | ok x =>
      obtain ⟨q, r⟩ := x
      rw [h1] at h
      simp only at h ⊢
      by_cases hr : r = []
      · rw [if_neg (by simp [hr])] at h ⊢
        by_cases he : askErr s q = 0
        · rw [if_pos he]
          obtain ⟨xs, a1, a2, a3⟩ := pmany_back (put := pickPut) (fun l x r h => ppick_back h) h1
          rw [List.nil_append] at a1
          subst a1
          refine ⟨he, ?_⟩
          rw [a3, hr, List.append_nil]
          rfl
        · rw [if_neg he] at h
          exact absurd h he
      · rw [if_pos hr] at h
        cases h
  · rw [if_pos hs] at h
    exact absurd h hs

end Go.Proofs.Ytlclllkjnhgbjaa
