/- Dimensions: plain: under which member of a tier a member of another one stands; each member above has some. -/
import Derived.Test.YtnekknemjhlgdaaDimP
import Derived.Test.YtnekknemjhlgdaaBf
namespace Go.Proofs.Ytnekknemjhlgdaa
open Go.RowKit
set_option linter.unusedVariables false
set_option linter.unusedSimpArgs false

/-- So many tiers up. -/
def liftN : List TC → Nat → Int → Int
  | _, 0, i => i
  | [], _ + 1, i => i
  | t :: r, m + 1, i => if i < 0 then i else liftN r m (overOf t.up i)
theorem liftN_neg {l : List TC} {m : Nat} {i : Int} (h : i < 0) : liftN l m i = i := by
  cases m with
  | zero => cases l <;> rfl
  | succ m =>
    cases l with
    | nil => rfl
    | cons t r => rw [liftN, if_pos h]
theorem liftN_nil {m : Nat} {i : Int} : liftN [] m i = i := by cases m <;> rfl
theorem liftN_zero {l : List TC} {i : Int} : liftN l 0 i = i := by cases l <;> rfl
theorem liftN_add (m n : Nat) : ∀ (l : List TC) (i : Int), liftN l (m + n) i = liftN (l.drop m) n (liftN l m i) := by
  induction m with
  | zero => intro l i; rw [liftN_zero]; simp
  | succ m ih =>
    intro l i
    cases l with
    | nil => simp [liftN_nil]
    | cons t r =>
      rw [show m + 1 + n = (m + n) + 1 by omega, liftN, liftN, List.drop_succ_cons]
      by_cases h : i < 0
      · rw [if_pos h, if_pos h, liftN_neg h]
      · rw [if_neg h, if_neg h, ih]
theorem liftN_drop {trs : List TC} {k m : Nat} {t : TC} {i : Int} (h : trs[k]? = some t) (hi : 0 ≤ i) : liftN (trs.drop k) (m + 1) i = liftN (trs.drop (k + 1)) m (overOf t.up i) := by
  obtain ⟨hk, rfl⟩ := List.getElem?_eq_some_iff.1 h
  rw [List.drop_eq_getElem_cons hk, liftN, if_neg (by omega)]
/-- How many members the tier at a place has. -/
def sizeAt (trs : List TC) (k : Nat) : Nat := match trs[k]? with | some t => t.ts.length | none => 0
def liftOf (trs : List TC) (f t i : Int) : Int :=
  if 0 ≤ f ∧ f ≤ t ∧ t < trs.length ∧ 0 ≤ i ∧ i < sizeAt trs f.toNat then max (liftN (trs.drop f.toNat) (t - f).toNat i) (-1) else -1
def mapOf (trs : List TC) (f t : Int) : List Int :=
  if 0 ≤ f ∧ f ≤ t ∧ t < trs.length then (List.range (sizeAt trs f.toNat)).map (fun (k : Nat) => liftOf trs f t k) else []
def drillOf (trs : List TC) (f t i : Int) : List Int := if 0 ≤ i then placesOf i 0 (mapOf trs f t) else []

theorem treeOk_pos {up : List Int} {n : Nat} {above : Int} (h : treeOk up n above = true) (ha : 0 < above) :
    up.length = n ∧ (∀ z ∈ up, 0 ≤ z ∧ z < above) ∧ ∀ i : Nat, (i : Int) < above → (i : Int) ∈ up := by
  unfold treeOk at h
  rw [if_neg (by omega)] at h
  simp only [Bool.and_eq_true, decide_eq_true_eq, List.all_eq_true, List.mem_range, List.contains_iff_mem] at h
  exact ⟨h.1.1, h.1.2, fun i hi => h.2 i (by omega)⟩
theorem AllOk.size {t : TC} {r : List TC} (h : AllOk (t :: r)) : 1 ≤ t.ts.length := (tierErr_zero h.1).2.1
theorem AllOk.step {t u : TC} {r : List TC} (h : AllOk (t :: u :: r)) : t.up.length = t.ts.length ∧ (∀ z ∈ t.up, 0 ≤ z ∧ z < u.ts.length) ∧ ∀ i : Nat, i < u.ts.length → (i : Int) ∈ t.up := by
  have h1 := (tierErr_zero h.1).2.2.2.2
  have h2 := AllOk.size h.2
  simp only [aboveOf] at h1
  obtain ⟨a, b, c⟩ := treeOk_pos h1 (by omega)
  exact ⟨a, b, fun i hi => c i (by omega)⟩
theorem sizeAt_succ (t : TC) (r : List TC) (m : Nat) : sizeAt (t :: r) (m + 1) = sizeAt r m := rfl
theorem liftN_range (m : Nat) : ∀ {l : List TC} {i : Int}, AllOk l → m < l.length → 0 ≤ i → i < sizeAt l 0 → 0 ≤ liftN l m i ∧ liftN l m i < sizeAt l m := by
  induction m with
  | zero => intro l i _ _ h0 h1; rw [liftN_zero]; exact ⟨h0, h1⟩
  | succ m ih =>
    intro l i ha hm h0 h1
    match l, ha, hm, h1 with
    | t :: u :: r, ha, hm, h1 =>
      rw [liftN, if_neg (by omega), sizeAt_succ]
      obtain ⟨e, hz, _⟩ := AllOk.step ha
      have hi : i.toNat < t.up.length := by rw [e]; have : i < (t.ts.length : Int) := h1; omega
      have ho : overOf t.up i = t.up[i.toNat] := by unfold overOf; rw [if_neg (by omega), List.getElem?_eq_getElem hi]; rfl
      have := hz _ (List.getElem_mem hi)
      refine ih ha.2 (by simpa using hm) (by rw [ho]; exact this.1) ?_
      rw [ho]
      exact this.2
    | [t], ha, hm, h1 => simp at hm
    | [], ha, hm, h1 => simp at hm
theorem liftN_onto (m : Nat) : ∀ {l : List TC} {j : Nat}, AllOk l → m < l.length → j < sizeAt l m → ∃ i : Nat, i < sizeAt l 0 ∧ liftN l m i = j := by
  induction m with
  | zero => intro l j _ _ h; exact ⟨j, h, liftN_zero⟩
  | succ m ih =>
    intro l j ha hm h
    match l, ha, hm, h with
    | t :: u :: r, ha, hm, h =>
      rw [sizeAt_succ] at h
      obtain ⟨i', hi', hl⟩ := ih ha.2 (by simpa using hm) h
      obtain ⟨e, _, hz⟩ := AllOk.step ha
      obtain ⟨i, hi, hv⟩ := List.mem_iff_getElem.1 (hz i' hi')
      refine ⟨i, by rw [e] at hi; exact hi, ?_⟩
      rw [liftN, if_neg (by omega)]
      have ho : overOf t.up i = i' := by unfold overOf; rw [if_neg (by omega), Int.toNat_natCast, List.getElem?_eq_getElem hi, hv]; rfl
      rw [ho, hl]
    | [t], ha, hm, h => simp at hm
    | [], ha, hm, h => simp at hm
theorem sizeAt_drop (trs : List TC) (f m : Nat) : sizeAt (trs.drop f) m = sizeAt trs (f + m) := by unfold sizeAt; rw [List.getElem?_drop]
theorem allOk_drop {trs : List TC} (h : AllOk trs) (f : Nat) : AllOk (trs.drop f) := by
  have := List.take_append_drop f trs
  rw [← this] at h
  exact allOk_suffix h

/-- Of a dimension that may be: a lift stays within; by whichever way. -/
theorem lift_within {trs : List TC} (h : AllOk trs) {f t i : Nat} (h1 : f ≤ t) (h2 : t < trs.length) (h3 : i < sizeAt trs f) : liftOf trs f t i = liftN (trs.drop f) (t - f) i ∧ 0 ≤ liftOf trs f t i ∧ liftOf trs f t i < sizeAt trs t := by
  have e : liftOf trs f t i = max (liftN (trs.drop f) (t - f) i) (-1) := by
    unfold liftOf
    rw [if_pos ⟨by omega, by omega, by omega, by omega, by simpa using h3⟩]
    have : ((t : Int) - f).toNat = t - f := by omega
    rw [this]; rfl
  have hr := liftN_range (t - f) (l := trs.drop f) (i := i) (allOk_drop h f) (by simp; omega) (by omega) (by rw [sizeAt_drop]; simpa using h3)
  rw [sizeAt_drop, show f + (t - f) = t by omega] at hr
  rw [e]
  omega
theorem lift_way {trs : List TC} (h : AllOk trs) {f b t i : Nat} (h0 : f ≤ b) (h1 : b ≤ t) (h2 : t < trs.length) (h3 : i < sizeAt trs f) : liftOf trs b t (liftOf trs f b i) = liftOf trs f t i := by
  obtain ⟨e1, p1, q1⟩ := lift_within h (f := f) (t := b) (i := i) h0 (by omega) h3
  obtain ⟨j, hj⟩ : ∃ j : Nat, liftOf trs f b i = j := ⟨(liftOf trs f b i).toNat, by omega⟩
  obtain ⟨e2, _, _⟩ := lift_within h (f := f) (t := t) (i := i) (by omega) h2 h3
  rw [hj]
  obtain ⟨e3, _, _⟩ := lift_within h (f := b) (t := t) (i := j) h1 h2 (by omega)
  rw [e2, e3, show t - f = (b - f) + (t - b) by omega, liftN_add, ← e1, hj, List.drop_drop, show f + (b - f) = b by omega]
theorem placesOf_len (x : Int) (l : List Int) : ∀ k, (placesOf x k l).length = l.count x := by
  induction l with
  | nil => intro k; rfl
  | cons z r ih =>
    intro k
    rw [placesOf, List.count_cons]
    by_cases h : z = x
    · simp [h, ih]
    · simp [h, ih]
def sumTo (f : Nat → Nat) : Nat → Nat
  | 0 => 0
  | n + 1 => sumTo f n + f n
theorem sumTo_zero (n : Nat) : sumTo (fun _ => 0) n = 0 := by induction n with | zero => rfl | succ n ih => simp [sumTo, ih]
theorem sumTo_add (f g : Nat → Nat) (n : Nat) : sumTo (fun k => f k + g k) n = sumTo f n + sumTo g n := by induction n with | zero => rfl | succ n ih => simp [sumTo, ih]; omega
theorem sumTo_one (x : Nat) (n : Nat) : sumTo (fun k => if x = k then 1 else 0) n = if x < n then 1 else 0 := by
  induction n with
  | zero => rfl
  | succ n ih =>
    rw [sumTo, ih]
    split <;> split <;> split <;> omega
theorem sumTo_count (N : Nat) (l : List Int) (h : ∀ z ∈ l, 0 ≤ z ∧ z < N) : sumTo (fun k => l.count (k : Int)) N = l.length := by
  induction l with
  | nil => simp [sumTo_zero]
  | cons z r ih =>
    have hz := h z (List.mem_cons_self ..)
    obtain ⟨x, rfl⟩ : ∃ x : Nat, z = x := ⟨z.toNat, by omega⟩
    have e : (fun k : Nat => ((x : Int) :: r).count (k : Int)) = fun k : Nat => r.count (k : Int) + (if x = k then 1 else 0) := by
      funext k
      rw [List.count_cons]
      by_cases hk : x = k
      · simp [hk]
      · have : ¬ ((x : Int) = k) := by omega
        simp [hk, this]
    rw [e, sumTo_add, ih (fun z hz => h z (List.mem_cons_of_mem _ hz)), sumTo_one, if_pos (by omega), List.length_cons]
theorem mapOf_len {trs : List TC} {f t : Nat} (h1 : f ≤ t) (h2 : t < trs.length) : (mapOf trs f t).length = sizeAt trs f := by
  unfold mapOf
  rw [if_pos ⟨by omega, by omega, by omega⟩]
  simp
theorem mapOf_within {trs : List TC} (h : AllOk trs) {f t : Nat} (h1 : f ≤ t) (h2 : t < trs.length) : ∀ z ∈ mapOf trs f t, 0 ≤ z ∧ z < sizeAt trs t := by
  intro z hz
  unfold mapOf at hz
  rw [if_pos ⟨by omega, by omega, by omega⟩] at hz
  simp only [Int.toNat_natCast, List.mem_map, List.mem_range] at hz
  obtain ⟨k, hk, rfl⟩ := hz
  exact (lift_within h h1 h2 hk).2
theorem drill_len {trs : List TC} {f t : Int} (k : Nat) : (drillOf trs f t k).length = (mapOf trs f t).count (k : Int) := by
  unfold drillOf
  rw [if_pos (by omega), placesOf_len]
theorem drill_some {trs : List TC} (h : AllOk trs) {f t : Nat} (h1 : f ≤ t) (h2 : t < trs.length) {k : Nat} (hk : k < sizeAt trs t) : 1 ≤ (drillOf trs f t k).length := by
  rw [drill_len]
  obtain ⟨i, hi, hl⟩ := liftN_onto (t - f) (l := trs.drop f) (j := k) (allOk_drop h f) (by simp; omega) (by rw [sizeAt_drop, show f + (t - f) = t by omega]; exact hk)
  rw [sizeAt_drop] at hi
  have hi : i < sizeAt trs f := by simpa using hi
  have : (k : Int) ∈ mapOf trs f t := by
    unfold mapOf
    rw [if_pos ⟨by omega, by omega, by omega⟩]
    simp only [Int.toNat_natCast, List.mem_map, List.mem_range]
    exact ⟨i, hi, by rw [(lift_within h h1 h2 hi).1, hl]⟩
  exact List.count_pos_iff.2 this
theorem drill_sum {trs : List TC} (h : AllOk trs) {f t : Nat} (h1 : f ≤ t) (h2 : t < trs.length) : sumTo (fun k => (drillOf trs f t k).length) (sizeAt trs t) = sizeAt trs f := by
  have e : (fun k : Nat => (drillOf trs f t k).length) = fun k : Nat => (mapOf trs f t).count (k : Int) := by funext k; exact drill_len k
  rw [e, sumTo_count _ _ (mapOf_within h h1 h2), mapOf_len h1 h2]

end Go.Proofs.Ytnekknemjhlgdaa
