/- Sorting by insertion: plain. -/
import Derived.Test.YtnekknemjhlgdaaFactF
namespace Go.Proofs.Ytnekknemjhlgdaa
set_option linter.unusedVariables false

abbrev Con := List Int × Ag
def lessC (a b : Con) : Bool := lessK a.1 b.1
/-- Where a fact is put in, from the end on. -/
def posFrom (f : Con) (acc : List Con) : Nat → Nat
  | 0 => 0
  | k + 1 => if (acc[k]?.any fun a => lessC f a) then posFrom f acc k else k + 1
def insC (f : Con) (acc : List Con) : List Con := acc.take (posFrom f acc acc.length) ++ f :: acc.drop (posFrom f acc acc.length)
def sortFrom (acc : List Con) : List Con → List Con
  | [] => acc
  | f :: l => sortFrom (insC f acc) l
def sortC (l : List Con) : List Con := sortFrom [] l

theorem posFrom_le (f : Con) (acc : List Con) (k : Nat) : posFrom f acc k ≤ k := by
  induction k with
  | zero => exact Nat.le_refl _
  | succ k ih => rw [posFrom]; split <;> omega
theorem insC_len (f : Con) (acc : List Con) : (insC f acc).length = acc.length + 1 := by
  have := posFrom_le f acc acc.length
  simp [insC]
  omega
theorem sortFrom_snoc (acc l : List Con) (f : Con) : sortFrom acc (l ++ [f]) = insC f (sortFrom acc l) := by
  induction l generalizing acc with
  | nil => rfl
  | cons a l ih => exact ih _
theorem sortC_snoc (l : List Con) (f : Con) : sortC (l ++ [f]) = insC f (sortC l) := sortFrom_snoc [] l f
theorem sortC_len (l : List Con) : (sortC l).length = l.length := by
  have : ∀ acc, (sortFrom acc l).length = acc.length + l.length := by
    induction l with
    | nil => intro acc; rfl
    | cons a l ih => intro acc; rw [sortFrom, ih, insC_len, List.length_cons]; omega
  rw [sortC, this]
  simp
theorem sortC_one (l : List Con) (h : l.length ≤ 1) : sortC l = l := by
  match l, h with
  | [], _ => rfl
  | [a], _ => rfl

/-- They stand in their order. -/
def Srt (l : List Con) : Prop := ∀ (i j : Nat) (a b : Con), i < j → l[i]? = some a → l[j]? = some b → lessC b a = false
theorem lessC_false_trans {a b c : Con} (h1 : lessC b a = false) (h2 : lessC c b = false) : lessC c a = false := by
  have r1 := cmpK_range b.1 a.1
  have r2 := cmpK_range c.1 b.1
  have s1 := cmpK_swap b.1 a.1
  have s2 := cmpK_swap c.1 b.1
  unfold lessC lessK at *
  simp at *
  intro h
  by_cases e1 : cmpK b.1 a.1 = 0
  · rw [cmpK_eq e1] at h2; exact h2 h
  · have e2 : cmpK a.1 b.1 = -1 := by omega
    exact h2 (cmpK_trans h e2)
theorem lessC_asymm {a b : Con} (h : lessC a b = true) : lessC b a = false := by
  have s1 := cmpK_swap a.1 b.1
  unfold lessC lessK at *
  simp at *
  omega
theorem pos_above {f : Con} {acc : List Con} {k : Nat} : ∀ i a, posFrom f acc k ≤ i → i < k → acc[i]? = some a → lessC f a = true := by
  induction k with
  | zero => intro i a _ h; omega
  | succ k ih =>
    intro i a h1 h2 ha
    rw [posFrom] at h1
    split at h1
    · rename_i hc
      by_cases e : i = k
      · subst e
        rw [ha] at hc
        exact hc
      · exact ih i a h1 (by omega) ha
    · omega
theorem pos_at {f : Con} {acc : List Con} {k : Nat} (hk : k ≤ acc.length) (h : 0 < posFrom f acc k) : ∃ a, acc[posFrom f acc k - 1]? = some a ∧ lessC f a = false := by
  induction k with
  | zero => simp [posFrom] at h
  | succ k ih =>
    rw [posFrom] at h ⊢
    split at h
    · rename_i hc
      rw [if_pos hc]
      exact ih (by omega) h
    · rename_i hc
      rw [if_neg hc]
      refine ⟨acc[k]'(by omega), by simp [List.getElem?_eq_getElem (show k < acc.length by omega)], ?_⟩
      rw [List.getElem?_eq_getElem (by omega)] at hc
      simpa using hc
theorem srt_ins {f : Con} {acc : List Con} (h : Srt acc) : Srt (insC f acc) := by
  have hp := posFrom_le f acc acc.length
  have get : ∀ i, (insC f acc)[i]? = if i < posFrom f acc acc.length then acc[i]? else if i = posFrom f acc acc.length then some f else acc[i - 1]? := by
    intro i
    unfold insC
    by_cases h1 : i < posFrom f acc acc.length
    · rw [if_pos h1, List.getElem?_append_left (by rw [List.length_take]; omega), List.getElem?_take_of_lt h1]
    · rw [if_neg h1, List.getElem?_append_right (by rw [List.length_take]; omega), List.length_take, Nat.min_eq_left hp]
      by_cases h2 : i = posFrom f acc acc.length
      · rw [if_pos h2, h2, Nat.sub_self]; rfl
      · rw [if_neg h2, show i - posFrom f acc acc.length = (i - posFrom f acc acc.length - 1) + 1 by omega, List.getElem?_cons_succ, List.getElem?_drop]
        congr 1
        omega
  intro i j a b hij ha hb
  rw [get] at ha hb
  by_cases i1 : i < posFrom f acc acc.length
  · rw [if_pos i1] at ha
    by_cases j1 : j < posFrom f acc acc.length
    · rw [if_pos j1] at hb; exact h i j a b hij ha hb
    · rw [if_neg j1] at hb
      by_cases j2 : j = posFrom f acc acc.length
      · rw [if_pos j2] at hb
        injection hb with hb
        subst hb
        obtain ⟨x, hx, hl⟩ := pos_at (f := f) (acc := acc) (Nat.le_refl _) (by omega)
        by_cases e : i = posFrom f acc acc.length - 1
        · subst e; rw [ha] at hx; injection hx with hx; subst hx; exact hl
        · exact lessC_false_trans (h i _ a x (by omega) ha hx) hl
      · rw [if_neg j2] at hb
        exact h i (j - 1) a b (by omega) ha hb
  · rw [if_neg i1] at ha
    rw [if_neg (by omega), if_neg (by omega)] at hb
    by_cases i2 : i = posFrom f acc acc.length
    · rw [if_pos i2] at ha
      injection ha with ha
      subst ha
      have hj := (List.getElem?_eq_some_iff.1 hb).1
      exact lessC_asymm (pos_above (k := acc.length) (j - 1) b (by omega) hj hb)
    · rw [if_neg i2] at ha
      exact h (i - 1) (j - 1) a b (by omega) ha hb
theorem srt_sort (l : List Con) : Srt (sortC l) := by
  have : ∀ acc, Srt acc → Srt (sortFrom acc l) := by
    induction l with
    | nil => intro acc h; exact h
    | cons a l ih => intro acc h; exact ih _ (srt_ins h)
  exact this [] fun i j a b _ ha => by simp at ha
/-- What is in order is sorted. -/
theorem srt_chain {l : List Fct} (h : Srt (cons l)) : sortedF l = true := by
  have : ∀ m : List (List Int), (∀ (i j : Nat) (a b : List Int), i < j → m[i]? = some a → m[j]? = some b → lessK b a = false) → chain (fun a b => !lessK b a) m = true := by
    intro m
    induction m with
    | nil => intro _; rfl
    | cons x m ih =>
      intro hm
      cases m with
      | nil => rfl
      | cons y m =>
        rw [chain, Bool.and_eq_true]
        refine ⟨by rw [hm 0 1 x y (by omega) rfl rfl]; rfl, ih fun i j a b hij ha hb => hm (i + 1) (j + 1) a b (by omega) (by rw [List.getElem?_cons_succ]; exact ha) (by rw [List.getElem?_cons_succ]; exact hb)⟩
  refine this _ fun i j a b hij ha hb => ?_
  unfold keysOf at ha hb
  rw [List.getElem?_map] at ha hb
  cases hf : l[i]? with
  | none => rw [hf] at ha; cases ha
  | some f =>
    cases hg : l[j]? with
    | none => rw [hg] at hb; cases hb
    | some g =>
      rw [hf] at ha
      rw [hg] at hb
      simp at ha hb
      subst ha hb
      exact h i j f.con g.con hij (cons_get hf) (cons_get hg)

end Go.Proofs.Ytnekknemjhlgdaa
