/- Texts laid together: XRunP XKmP XInP. -/
import Derived.Test.YtelnhhbefdfeoaaBl

namespace Go.Proofs.Ytelnhhbefdfeoaa
set_option linter.unusedVariables false

abbrev Con := List Int × Ag
def lessC (a b : Con) : Bool := lessK a.1 b.1
/-- Where a fact is put in, from the end on. -/
def posFrom (f : Con) (acc : List Con) : Nat → Nat
  | 0 => 0
  | k + 1 => if (acc[k]?.any fun a => lessC f a) then posFrom f acc k else k + 1
def insC (f : Con) (acc : List Con) : List Con := acc.take (posFrom f acc acc.length) ++ f :: acc.drop (posFrom f acc acc.length)
def sortFrom (acc : List Con) : List Con → List Con
  | [] => acc
  | f :: l => sortFrom (insC f acc) l
def sortC (l : List Con) : List Con := sortFrom [] l

theorem posFrom_le (f : Con) (acc : List Con) (k : Nat) : posFrom f acc k ≤ k := by
  induction k with
  | zero => exact Nat.le_refl _
  | succ k ih => rw [posFrom]; split <;> omega
theorem insC_len (f : Con) (acc : List Con) : (insC f acc).length = acc.length + 1 := by
  have := posFrom_le f acc acc.length
  simp [insC]
  omega
theorem sortFrom_snoc (acc l : List Con) (f : Con) : sortFrom acc (l ++ [f]) = insC f (sortFrom acc l) := by
  induction l generalizing acc with
  | nil => rfl
  | cons a l ih => exact ih _
theorem sortC_snoc (l : List Con) (f : Con) : sortC (l ++ [f]) = insC f (sortC l) := sortFrom_snoc [] l f
theorem sortC_len (l : List Con) : (sortC l).length = l.length := by
  have : ∀ acc, (sortFrom acc l).length = acc.length + l.length := by
    induction l with
    | nil => intro acc; rfl
    | cons a l ih => intro acc; rw [sortFrom, ih, insC_len, List.length_cons]; omega
  rw [sortC, this]
  simp
theorem sortC_one (l : List Con) (h : l.length ≤ 1) : sortC l = l := by
  match l, h with
  | [], _ => rfl
  | [a], _ => rfl

/-- They stand in their order. -/
def Srt (l : List Con) : Prop := ∀ (i j : Nat) (a b : Con), i < j → l[i]? = some a → l[j]? = some b → lessC b a = false
theorem lessC_false_trans {a b c : Con} (h1 : lessC b a = false) (h2 : lessC c b = false) : lessC c a = false := by
  have r1 := cmpK_range b.1 a.1
  have r2 := cmpK_range c.1 b.1
  have s1 := cmpK_swap b.1 a.1
  have s2 := cmpK_swap c.1 b.1
  unfold lessC lessK at *
  simp at *
  intro h
  by_cases e1 : cmpK b.1 a.1 = 0
  · rw [cmpK_eq e1] at h2; exact h2 h
  · have e2 : cmpK a.1 b.1 = -1 := by omega
    exact h2 (cmpK_trans h e2)
theorem lessC_asymm {a b : Con} (h : lessC a b = true) : lessC b a = false := by
  have s1 := cmpK_swap a.1 b.1
  unfold lessC lessK at *
  simp at *
  omega
theorem pos_above {f : Con} {acc : List Con} {k : Nat} : ∀ i a, posFrom f acc k ≤ i → i < k → acc[i]? = some a → lessC f a = true := by
  induction k with
  | zero => intro i a _ h; omega
  | succ k ih =>
    intro i a h1 h2 ha
    rw [posFrom] at h1
    split at h1
    · rename_i hc
      by_cases e : i = k
      · subst e
        rw [ha] at hc
        exact hc
      · exact ih i a h1 (by omega) ha
    · omega
theorem pos_at {f : Con} {acc : List Con} {k : Nat} (hk : k ≤ acc.length) (h : 0 < posFrom f acc k) : ∃ a, acc[posFrom f acc k - 1]? = some a ∧ lessC f a = false := by
  induction k with
  | zero => simp [posFrom] at h
  | succ k ih =>
    rw [posFrom] at h ⊢
    split at h
    · rename_i hc
      rw [if_pos hc]
      exact ih (by omega) h
    · rename_i hc
      rw [if_neg hc]
      refine ⟨acc[k]'(by omega), by simp [List.getElem?_eq_getElem (show k < acc.length by omega)], ?_⟩
      rw [List.getElem?_eq_getElem (by omega)] at hc
      simpa using hc
theorem srt_ins {f : Con} {acc : List Con} (h : Srt acc) : Srt (insC f acc) := by
  have hp := posFrom_le f acc acc.length
  have get : ∀ i, (insC f acc)[i]? = if i < posFrom f acc acc.length then acc[i]? else if i = posFrom f acc acc.length then some f else acc[i - 1]? := by
    intro i
    unfold insC
    by_cases h1 : i < posFrom f acc acc.length
    · rw [if_pos h1, List.getElem?_append_left (by rw [List.length_take]; omega), List.getElem?_take_of_lt h1]
    · rw [if_neg h1, List.getElem?_append_right (by rw [List.length_take]; omega), List.length_take, Nat.min_eq_left hp]
      by_cases h2 : i = posFrom f acc acc.length
      · rw [if_pos h2, h2, Nat.sub_self]; rfl
      · rw [if_neg h2, show i - posFrom f acc acc.length = (i - posFrom f acc acc.length - 1) + 1 by omega, List.getElem?_cons_succ, List.getElem?_drop]
        congr 1
        omega
  intro i j a b hij ha hb
  rw [get] at ha hb
  by_cases i1 : i < posFrom f acc acc.length
  · rw [if_pos i1] at ha
    by_cases j1 : j < posFrom f acc acc.length
    · rw [if_pos j1] at hb; exact h i j a b hij ha hb
    · rw [if_neg j1] at hb
      by_cases j2 : j = posFrom f acc acc.length
      · rw [if_pos j2] at hb
        injection hb with hb
        subst hb
        obtain ⟨x, hx, hl⟩ := pos_at (f := f) (acc := acc) (Nat.le_refl _) (by omega)
        by_cases e : i = posFrom f acc acc.length - 1
        · subst e; rw [ha] at hx; injection hx with hx; subst hx; exact hl
        · exact lessC_false_trans (h i _ a x (by omega) ha hx) hl
      · rw [if_neg j2] at hb
        exact h i (j - 1) a b (by omega) ha hb
  · rw [if_neg i1] at ha
    rw [if_neg (by omega), if_neg (by omega)] at hb
    by_cases i2 : i = posFrom f acc acc.length
    · rw [if_pos i2] at ha
      injection ha with ha
      subst ha
      have hj := (List.getElem?_eq_some_iff.1 hb).1
      exact lessC_asymm (pos_above (k := acc.length) (j - 1) b (by omega) hj hb)
    · rw [if_neg i2] at ha
      exact h (i - 1) (j - 1) a b (by omega) ha hb
theorem srt_sort (l : List Con) : Srt (sortC l) := by
  have : ∀ acc, Srt acc → Srt (sortFrom acc l) := by
    induction l with
    | nil => intro acc h; exact h
    | cons a l ih => intro acc h; exact ih _ (srt_ins h)
  exact this [] fun i j a b _ ha => by simp at ha
/-- What is in order is sorted. -/
theorem srt_chain {l : List Fct} (h : Srt (cons l)) : sortedF l = true := by
  have : ∀ m : List (List Int), (∀ (i j : Nat) (a b : List Int), i < j → m[i]? = some a → m[j]? = some b → lessK b a = false) → chain (fun a b => !lessK b a) m = true := by
    intro m
    induction m with
    | nil => intro _; rfl
    | cons x m ih =>
      intro hm
      cases m with
      | nil => rfl
      | cons y m =>
        rw [chain, Bool.and_eq_true]
        refine ⟨by rw [hm 0 1 x y (by omega) rfl rfl]; rfl, ih fun i j a b hij ha hb => hm (i + 1) (j + 1) a b (by omega) (by rw [List.getElem?_cons_succ]; exact ha) (by rw [List.getElem?_cons_succ]; exact hb)⟩
  refine this _ fun i j a b hij ha hb => ?_
  unfold keysOf at ha hb
  rw [List.getElem?_map] at ha hb
  cases hf : l[i]? with
  | none => rw [hf] at ha; cases ha
  | some f =>
    cases hg : l[j]? with
    | none => rw [hg] at hb; cases hb
    | some g =>
      rw [hf] at ha
      rw [hg] at hb
      simp at ha hb
      subst ha hb
      exact h i j f.con g.con hij (cons_get hf) (cons_get hg)

end Go.Proofs.Ytelnhhbefdfeoaa

namespace Go.Proofs.Ytelnhhbefdfeoaa
set_option linter.unusedVariables false

theorem posFrom_full {f : Con} {acc : List Con} {k : Nat} (h : ∀ i a, i < k → acc[i]? = some a → lessC f a = true) (hk : k ≤ acc.length) : posFrom f acc k = 0 := by
  induction k with
  | zero => rfl
  | succ k ih =>
    rw [posFrom, List.getElem?_eq_getElem (by omega)]
    have h1 := h k (acc[k]'(by omega)) (by omega) (List.getElem?_eq_getElem (by omega))
    simp only [Option.any_some, h1, if_true]
    exact ih (fun i a hi ha => h i a (by omega) ha) (by omega)
theorem insC_front {f : Con} {acc : List Con} (h : ∀ a ∈ acc, lessC f a = true) : insC f acc = f :: acc := by
  unfold insC
  rw [posFrom_full (fun i a hi ha => h a (List.mem_of_getElem? ha)) (Nat.le_refl _)]
  simp
theorem posFrom_cons {f x : Con} {acc : List Con} (h : lessC f x = false) (k : Nat) : posFrom f (x :: acc) (k + 1) = posFrom f acc k + 1 := by
  induction k with
  | zero => simp [posFrom, h]
  | succ k ih =>
    rw [posFrom, List.getElem?_cons_succ, ih, posFrom]
    split <;> rfl
theorem insC_cons {f x : Con} {acc : List Con} (h : lessC f x = false) : insC f (x :: acc) = x :: insC f acc := by
  unfold insC
  rw [List.length_cons, posFrom_cons h]
  simp
theorem insC_split (f : Con) (acc : List Con) : insC f acc = acc.take (posFrom f acc acc.length) ++ f :: acc.drop (posFrom f acc acc.length) := rfl
theorem sortFrom_app (acc l m : List Con) : sortFrom acc (l ++ m) = sortFrom (sortFrom acc l) m := by
  induction l generalizing acc with
  | nil => rfl
  | cons a l ih => exact ih _
theorem sortFrom_cons_min {x : Con} {acc l : List Con} (h : ∀ y ∈ l, lessC y x = false) : sortFrom (x :: acc) l = x :: sortFrom acc l := by
  induction l generalizing acc with
  | nil => rfl
  | cons y l ih =>
    rw [sortFrom, sortFrom, insC_cons (h y (List.mem_cons_self ..)), ih fun z hz => h z (List.mem_cons_of_mem _ hz)]
theorem mem_insC {f a : Con} {acc : List Con} : a ∈ insC f acc ↔ a = f ∨ a ∈ acc := by
  have h : acc = acc.take (posFrom f acc acc.length) ++ acc.drop (posFrom f acc acc.length) := (List.take_append_drop _ _).symm
  rw [insC_split, List.mem_append, List.mem_cons]
  constructor
  · rintro (h1 | h1 | h1)
    · exact .inr (List.mem_of_mem_take h1)
    · exact .inl h1
    · exact .inr (List.mem_of_mem_drop h1)
  · rintro (h1 | h1)
    · exact .inr (.inl h1)
    · rw [h, List.mem_append] at h1
      rcases h1 with h1 | h1
      · exact .inl h1
      · exact .inr (.inr h1)
theorem mem_sortFrom {a : Con} {acc l : List Con} : a ∈ sortFrom acc l ↔ a ∈ acc ∨ a ∈ l := by
  induction l generalizing acc with
  | nil => simp [sortFrom]
  | cons x l ih =>
    rw [sortFrom, ih, mem_insC, List.mem_cons]
    constructor
    · rintro ((h | h) | h)
      · exact .inr (.inl h)
      · exact .inl h
      · exact .inr (.inr h)
    · rintro (h | h | h)
      · exact .inl (.inr h)
      · exact .inl (.inl h)
      · exact .inr h
theorem mem_sortC {a : Con} {l : List Con} : a ∈ sortC l ↔ a ∈ l := by unfold sortC; rw [mem_sortFrom]; simp
/-- The least one, behind those that it stands ahead of, comes first. -/
theorem sortC_min {X Y : List Con} {x : Con} (hX : ∀ a ∈ X, lessC x a = true) (hY : ∀ a ∈ Y, lessC a x = false) : sortC (X ++ x :: Y) = x :: sortC (X ++ Y) := by
  unfold sortC
  rw [sortFrom_app, sortFrom_app, sortFrom, insC_front (fun a ha => hX a ((mem_sortFrom.1 ha).elim (fun h => by cases h) id)), sortFrom_cons_min hY]
theorem insC_comm {x y : Con} {acc : List Con} (h : lessC y x = true) (hs : Srt acc) : insC x (insC y acc) = insC y (insC x acc) := by
  have hxy := lessC_asymm h
  induction acc with
  | nil => rw [show insC y [] = [y] from rfl, show insC x [] = [x] from rfl, insC_cons hxy, insC_front (acc := [x]) (by simpa using h)]; rfl
  | cons a acc ih =>
    have hs' : Srt acc := fun i j b c hij hb hc => hs (i + 1) (j + 1) b c (by omega) (by rw [List.getElem?_cons_succ]; exact hb) (by rw [List.getElem?_cons_succ]; exact hc)
    have ha : ∀ b ∈ acc, lessC b a = false := fun b hb => by
      obtain ⟨j, hj⟩ := List.mem_iff_getElem?.1 hb
      exact hs 0 (j + 1) a b (by omega) rfl (by rw [List.getElem?_cons_succ]; exact hj)
    by_cases h1 : lessC y a = true
    · -- y stands ahead of a
      have hy : insC y (a :: acc) = y :: a :: acc := insC_front fun b hb => by
        rcases List.mem_cons.1 hb with rfl | hb
        · exact h1
        · cases hq : lessC y b with
          | true => rfl
          | false => have := lessC_false_trans (ha b hb) hq; 
                     cases hz : lessC y a with
                     | true => rw [lessC_false_trans (ha b hb) hq] at hz; cases hz
                     | false => rw [hz] at h1; cases h1
      rw [hy, insC_cons hxy]
      by_cases h2 : lessC x a = true
      · have hx : insC x (a :: acc) = x :: a :: acc := insC_front fun b hb => by
          rcases List.mem_cons.1 hb with rfl | hb
          · exact h2
          · cases hq : lessC x b with
            | true => rfl
            | false => rw [lessC_false_trans (ha b hb) hq] at h2; cases h2
        rw [hx, insC_front fun b hb => ?_]
        rcases List.mem_cons.1 hb with rfl | hb
        · exact h
        · rcases List.mem_cons.1 hb with rfl | hb
          · exact h1
          · cases hq : lessC y b with
            | true => rfl
            | false => rw [lessC_false_trans (ha b hb) hq] at h1; cases h1
      · have h2 : lessC x a = false := by cases hq : lessC x a with | true => exact absurd hq h2 | false => rfl
        rw [insC_cons h2]
        rw [insC_front (acc := a :: insC x acc) fun b hb => ?_]
        rcases List.mem_cons.1 hb with rfl | hb
        · exact h1
        · rcases mem_insC.1 hb with rfl | hb
          · exact h
          · cases hq : lessC y b with
            | true => rfl
            | false => rw [lessC_false_trans (ha b hb) hq] at h1; cases h1
    · have h1 : lessC y a = false := by cases hq : lessC y a with | true => exact absurd hq h1 | false => rfl
      have h2 : lessC x a = false := lessC_false_trans h1 hxy
      rw [insC_cons h1, insC_cons h2, insC_cons h2, insC_cons h1, ih hs']
theorem srt_from {acc : List Con} (l : List Con) (h : Srt acc) : Srt (sortFrom acc l) := by
  induction l generalizing acc with
  | nil => exact h
  | cons a l ih => exact ih (srt_ins h)
theorem sortFrom_ins {x : Con} {acc l : List Con} (hs : Srt acc) (h : ∀ b ∈ l, lessC x b = true) : sortFrom (insC x acc) l = insC x (sortFrom acc l) := by
  induction l generalizing acc with
  | nil => rfl
  | cons b l ih =>
    rw [sortFrom, sortFrom, ← ih (srt_ins hs) fun c hc => h c (List.mem_cons_of_mem _ hc), insC_comm (h b (List.mem_cons_self ..)) hs]
theorem sortFrom_insC {acc l : List Con} (f : Con) (hs : Srt acc) (hl : Srt l) : sortFrom acc (insC f l) = insC f (sortFrom acc l) := by
  have e : l = l.take (posFrom f l l.length) ++ l.drop (posFrom f l l.length) := (List.take_append_drop _ _).symm
  rw [insC_split, sortFrom_app, sortFrom]
  rw [sortFrom_ins (srt_from _ hs) fun b hb => ?_]
  · rw [← sortFrom_app, ← e]
  · obtain ⟨j, hj⟩ := List.mem_iff_getElem?.1 hb
    rw [List.getElem?_drop] at hj
    exact pos_above (k := l.length) _ b (by omega) (List.getElem?_eq_some_iff.1 hj).1 hj
theorem sortFrom_sort {acc : List Con} (l : List Con) (hs : Srt acc) : sortFrom acc (sortC l) = sortFrom acc l := by
  have : ∀ m, Srt m → sortFrom acc (sortFrom m l) = sortFrom (sortFrom acc m) l := by
    induction l with
    | nil => intro m _; rfl
    | cons f l ih => intro m hm; rw [sortFrom, ih _ (srt_ins hm), sortFrom_insC f hs hm]; rfl
  rw [sortC, this [] (fun i j a b _ ha => by simp at ha)]
  rfl
theorem sortC_app_sort (l m : List Con) : sortC (l ++ sortC m) = sortC (l ++ m) := by
  unfold sortC
  rw [sortFrom_app, sortFrom_app]
  exact sortFrom_sort m (srt_sort l)
theorem sortC_sort_app (l m : List Con) : sortC (sortC l ++ m) = sortC (l ++ m) := by
  have h := sortFrom_sort (acc := []) l (fun i j a b _ ha => by simp at ha)
  unfold sortC at *
  rw [sortFrom_app, sortFrom_app, h]
theorem sortC_flat (ls : List (List Con)) : sortC (ls.map sortC).flatten = sortC ls.flatten := by
  have : ∀ acc : List Con, sortC (acc ++ (ls.map sortC).flatten) = sortC (acc ++ ls.flatten) := by
    induction ls with
    | nil => intro acc; rfl
    | cons a ls ih =>
      intro acc
      rw [List.map_cons, List.flatten_cons, List.flatten_cons, ← List.append_assoc, ih, ← List.append_assoc]
      rw [← sortC_sort_app (acc ++ sortC a), sortC_app_sort, sortC_sort_app]
  simpa using this []
theorem sortC_srt {l : List Con} (h : Srt l) : sortC l = l := by
  have : ∀ (acc m : List Con), Srt (acc ++ m) → sortFrom acc m = acc ++ m := by
    intro acc m
    induction m generalizing acc with
    | nil => intro _; simp [sortFrom]
    | cons f m ih =>
      intro hs
      have hp : posFrom f acc acc.length = acc.length := by
        cases hl : acc.length with
        | zero => rfl
        | succ k =>
          rw [posFrom, List.getElem?_eq_getElem (by omega)]
          have := hs k acc.length (acc[k]'(by omega)) f (by omega) (by rw [List.getElem?_append_left (by omega), List.getElem?_eq_getElem]) (by rw [List.getElem?_append_right (Nat.le_refl _)]; simp)
          simp [this]
      have hi : insC f acc = acc ++ [f] := by rw [insC_split, hp]; simp
      rw [sortFrom, hi, ih _ (by simpa using hs)]
      simp
  have h2 := this [] l (by simpa using h)
  rw [List.nil_append] at h2
  exact h2

/-- A run that is merged: what is left of it, and which one it is. -/
abbrev Hd := List Con × Nat
/-- Which of two stands ahead: by its first fact; of equal ones the earlier run. -/
def lessH (a b : Hd) : Bool := match a.1, b.1 with
  | x :: _, y :: _ => decide (cmpK x.1 y.1 = -1) || (decide (cmpK x.1 y.1 = 0) && decide (a.2 < b.2))
  | _, _ => false
theorem lessH_asymm {a b : Hd} (h : lessH a b = true) : lessH b a = false := by
  obtain ⟨l, i⟩ := a; obtain ⟨m, k⟩ := b
  cases l with
  | nil => cases m <;> simp [lessH] at h
  | cons x l =>
    cases m with
    | nil => simp [lessH] at h
    | cons y m =>
      have := cmpK_swap x.1 y.1
      simp [lessH] at *
      omega
theorem lessH_ntrans {a b c : Hd} (hb : b.1 ≠ []) (h1 : lessH b a = false) (h2 : lessH c b = false) : lessH c a = false := by
  obtain ⟨l, i⟩ := a; obtain ⟨m, k⟩ := b; obtain ⟨p, j⟩ := c
  cases p with
  | nil => simp [lessH]
  | cons z p =>
    cases l with
    | nil => simp [lessH]
    | cons x l =>
      cases m with
      | nil => exact absurd rfl hb
      | cons y m =>
        have s1 := cmpK_swap y.1 x.1
        have s2 := cmpK_swap z.1 y.1
        have r1 := cmpK_range y.1 x.1
        have r2 := cmpK_range z.1 y.1
        simp [lessH] at *
        rcases r1 with r | r | r
        · omega
        · rcases r2 with q | q | q
          · omega
          · rw [cmpK_eq q, r]; omega
          · rw [← cmpK_eq r, q]; omega
        · have s : cmpK x.1 y.1 = -1 := by omega
          rcases r2 with q | q | q
          · omega
          · rw [cmpK_eq q, r]; omega
          · have t : cmpK y.1 z.1 = -1 := by omega
            have u := cmpK_trans s t
            have v := cmpK_swap x.1 z.1
            omega
/-- A heap: of each place but the first the one above it does not stand behind. -/
def HeapBut (L : List Hd) (n : Nat) (P : Nat → Prop) : Prop := ∀ k a b, 0 < k → k < n → ¬ P k → L[k]? = some a → L[(k - 1) / 2]? = some b → lessH a b = false
abbrev Heap (L : List Hd) (n : Nat) : Prop := HeapBut L n (fun _ => False)
/-- One place may be too low. -/
structure UpAt (L : List Hd) (j : Nat) : Prop where
  but : HeapBut L L.length (fun k => k = j)
  over : ∀ k a b, 0 < j → 0 < k → (k - 1) / 2 = j → L[k]? = some a → L[(j - 1) / 2]? = some b → lessH a b = false
/-- One place may be too high. -/
structure DownAt (L : List Hd) (n i : Nat) : Prop where
  but : HeapBut L n (fun k => (k - 1) / 2 = i)
  over : ∀ k a b, 0 < i → 0 < k → k < n → (k - 1) / 2 = i → L[k]? = some a → L[(i - 1) / 2]? = some b → lessH a b = false
def swapL (L : List Hd) (i j : Nat) (a b : Hd) : List Hd := (L.set i b).set j a
theorem swapL_len {L : List Hd} {i j : Nat} {a b : Hd} : (swapL L i j a b).length = L.length := by simp [swapL]
theorem swapL_get {L : List Hd} {i j : Nat} {a b : Hd} (hi : i < L.length) (hj : j < L.length) (k : Nat) : (swapL L i j a b)[k]? = if k = j then some a else if k = i then some b else L[k]? := by
  unfold swapL
  by_cases h1 : k = j
  · rw [if_pos h1, h1, List.getElem?_set_self (by simpa using hj)]
  · rw [if_neg h1, List.getElem?_set_ne (fun h => h1 h.symm)]
    by_cases h2 : k = i
    · rw [if_pos h2, h2, List.getElem?_set_self hi]
    · rw [if_neg h2, List.getElem?_set_ne (fun h => h2 h.symm)]
theorem up_stop0 {L : List Hd} (h : UpAt L 0) : Heap L L.length := fun k a b h0 hk _ ha hb => h.but k a b h0 hk (by omega) ha hb
theorem up_stop {L : List Hd} {j : Nat} {a b : Hd} (h : UpAt L j) (ha : L[j]? = some a) (hb : L[(j - 1) / 2]? = some b) (hl : lessH a b = false) : Heap L L.length := fun k c d h0 hk _ hc hd => by
  by_cases e : k = j
  · subst e; rw [ha] at hc; rw [hb] at hd; injection hc with hc; injection hd with hd; subst hc hd; exact hl
  · exact h.but k c d h0 hk e hc hd
theorem up_step {L : List Hd} {j : Nat} {a b : Hd} (hj : 0 < j) (h : UpAt L j) (hne : ∀ x ∈ L, x.1 ≠ []) (ha : L[j]? = some a) (hb : L[(j - 1) / 2]? = some b) (hl : lessH a b = true) : UpAt (swapL L ((j - 1) / 2) j b a) ((j - 1) / 2) := by
  have jl := (List.getElem?_eq_some_iff.1 ha).1
  have il := (List.getElem?_eq_some_iff.1 hb).1
  have hba := lessH_asymm hl
  have g := fun k => swapL_get (a := b) (b := a) il jl k
  have nb := hne b (List.mem_of_getElem? hb)
  constructor
  · intro k c d h0 hk hP hc hd
    rw [swapL_len] at hk
    rw [g] at hc hd
    by_cases e1 : k = j
    · subst e1
      rw [if_pos rfl] at hc
      rw [if_neg (by omega), if_pos rfl] at hd
      injection hc with hc; injection hd with hd; subst hc hd
      exact hba
    · rw [if_neg e1, if_neg hP] at hc
      by_cases e2 : (k - 1) / 2 = j
      · rw [if_pos e2] at hd
        injection hd with hd; subst hd
        exact h.over k c b (by omega) h0 e2 hc hb
      · rw [if_neg e2] at hd
        by_cases e3 : (k - 1) / 2 = (j - 1) / 2
        · rw [if_pos e3] at hd
          injection hd with hd; subst hd
          have := h.but k c b h0 hk e1 hc (by rw [e3]; exact hb)
          exact lessH_ntrans nb hba this
        · rw [if_neg e3] at hd
          exact h.but k c d h0 hk e1 hc hd
  · intro k c d hi h0 hk hc hd
    rw [g] at hc hd
    rw [if_neg (by omega), if_neg (by omega)] at hd
    by_cases e1 : k = j
    · subst e1
      rw [if_pos rfl] at hc
      injection hc with hc; subst hc
      exact h.but _ b d hi il (by omega) hb hd
    · rw [if_neg e1, if_neg (by omega)] at hc
      have h1 := h.but k c b h0 (List.getElem?_eq_some_iff.1 hc).1 e1 hc (by rw [hk]; exact hb)
      have h2 := h.but _ b d hi il (by omega) hb hd
      exact lessH_ntrans nb h2 h1
theorem down_stop {L : List Hd} {n i : Nat} (h : DownAt L n i) (hl : ∀ k a b, 0 < k → k < n → (k - 1) / 2 = i → L[k]? = some a → L[i]? = some b → lessH a b = false) : Heap L n := fun k c d h0 hk _ hc hd => by
  by_cases e : (k - 1) / 2 = i
  · exact hl k c d h0 hk e hc (by rw [← e]; exact hd)
  · exact h.but k c d h0 hk e hc hd
/-- The lesser child j of i goes up. -/
theorem down_step {L : List Hd} {n i j : Nat} {a b : Hd} (hn : n ≤ L.length) (hj : 0 < j) (hjn : j < n) (hij : (j - 1) / 2 = i) (h : DownAt L n i) (hne : ∀ x ∈ L, x.1 ≠ []) (ha : L[j]? = some a) (hb : L[i]? = some b) (hl : lessH a b = true)
    (hmin : ∀ k c, 0 < k → k < n → (k - 1) / 2 = i → L[k]? = some c → lessH c a = false) : DownAt (swapL L i j b a) n j := by
  have jl := (List.getElem?_eq_some_iff.1 ha).1
  have il := (List.getElem?_eq_some_iff.1 hb).1
  have hba := lessH_asymm hl
  have g := fun k => swapL_get (a := b) (b := a) il jl k
  have na := hne a (List.mem_of_getElem? ha)
  constructor
  · intro k c d h0 hk hP hc hd
    rw [g] at hc hd
    rw [if_neg hP] at hd
    by_cases e1 : k = j
    · subst e1
      rw [if_pos rfl] at hc
      rw [if_pos hij] at hd
      injection hc with hc; injection hd with hd; subst hc hd
      exact hba
    · rw [if_neg e1] at hc
      by_cases e2 : (k - 1) / 2 = i
      · rw [if_pos e2] at hd
        injection hd with hd; subst hd
        rw [if_neg (by omega)] at hc
        exact hmin k c h0 hk e2 hc
      · rw [if_neg e2] at hd
        by_cases e3 : k = i
        · subst e3
          rw [if_pos rfl] at hc
          injection hc with hc; subst hc
          exact h.over j a d h0 hj hjn hij ha hd
        · rw [if_neg e3] at hc
          exact h.but k c d h0 hk e2 hc hd
  · intro k c d _ h0 hk hkj hc hd
    rw [g] at hc hd
    rw [if_neg (by omega), if_neg (by omega)] at hc
    rw [if_neg (by omega), if_pos hij] at hd
    injection hd with hd; subst hd
    exact h.but k c a h0 hk (by omega) hc (by rw [hkj]; exact ha)
/-- The first of a heap stands behind none. -/
theorem heap_min {L : List Hd} {n : Nat} {r : Hd} (h : Heap L n) (hne : ∀ x ∈ L, x.1 ≠ []) (hr : L[0]? = some r) : ∀ k a, k < n → L[k]? = some a → lessH a r = false := by
  intro k
  induction k using Nat.strongRecOn with
  | ind k ih =>
    intro a hk ha
    cases k with
    | zero =>
      rw [hr] at ha; injection ha with ha; subst ha
      cases hq : lessH r r with
      | false => rfl
      | true => have := lessH_asymm hq; rw [this] at hq; cases hq
    | succ k =>
      have hl := (List.getElem?_eq_some_iff.1 ha).1
      have hb := List.getElem?_eq_getElem (show k / 2 < L.length by omega)
      have h1 := h (k + 1) a _ (by omega) hk (fun h => h) ha hb
      have h2 := ih (k / 2) (by omega) _ (by omega) hb
      exact lessH_ntrans (hne _ (List.mem_of_getElem? hb)) h2 h1
theorem set_cons_perm {α : Type} {a b : α} : ∀ {r : List α} {j : Nat}, r[j]? = some a → (a :: r.set j b).Perm (b :: r)
  | [], j, h => by simp at h
  | x :: r, 0, h => by injection h with h; subst h; exact List.Perm.swap ..
  | x :: r, j + 1, h => by
    have ih := set_cons_perm (b := b) (r := r) (j := j) (by simpa using h)
    exact (List.Perm.swap ..).trans ((ih.cons x).trans (List.Perm.swap ..))
theorem swap_perm {α : Type} {a b : α} : ∀ {L : List α} {i j : Nat}, i < j → L[i]? = some b → L[j]? = some a → ((L.set i a).set j b).Perm L
  | [], i, j, _, h, _ => by simp at h
  | x :: r, 0, 0, h, _, _ => by omega
  | x :: r, 0, j + 1, _, h, h2 => by
    injection h with h; subst h
    exact set_cons_perm (by simpa using h2)
  | x :: r, i + 1, 0, h, _, _ => by omega
  | x :: r, i + 1, j + 1, hij, h, h2 => (swap_perm (by omega) (by simpa using h) (by simpa using h2)).cons x
theorem swapL_perm {L : List Hd} {i j : Nat} {a b : Hd} (hij : i < j) (hi : L[i]? = some b) (hj : L[j]? = some a) : (swapL L i j b a).Perm L := swap_perm hij hi hj
/-- The runs that are not at their end. -/
def headsF (k : Nat) : List (List Con) → List Hd
  | [] => []
  | l :: r => if l = [] then headsF (k + 1) r else (l, k) :: headsF (k + 1) r
theorem headsF_app (A B : List (List Con)) : ∀ k, headsF k (A ++ B) = headsF k A ++ headsF (k + A.length) B := by
  induction A with
  | nil => intro k; rfl
  | cons a A ih =>
    intro k
    rw [List.cons_append, headsF, headsF, ih, List.length_cons, show k + (A.length + 1) = k + 1 + A.length by omega]
    split <;> rfl
theorem headsF_mem {R : List (List Con)} : ∀ {k : Nat} {h : Hd}, h ∈ headsF k R → h.1 ≠ [] ∧ k ≤ h.2 ∧ R[h.2 - k]? = some h.1 := by
  induction R with
  | nil => intro k h hm; cases hm
  | cons l R ih =>
    intro k h hm
    rw [headsF] at hm
    split at hm
    · obtain ⟨h1, h2, h3⟩ := ih hm
      exact ⟨h1, by omega, by rw [show h.2 - k = (h.2 - (k + 1)) + 1 by omega, List.getElem?_cons_succ]; exact h3⟩
    · rename_i hl
      rcases List.mem_cons.1 hm with rfl | hm
      · exact ⟨hl, Nat.le_refl _, by simp⟩
      · obtain ⟨h1, h2, h3⟩ := ih hm
        exact ⟨h1, by omega, by rw [show h.2 - k = (h.2 - (k + 1)) + 1 by omega, List.getElem?_cons_succ]; exact h3⟩
theorem headsF_get {R : List (List Con)} : ∀ {k j : Nat} {l : List Con}, R[j]? = some l → l ≠ [] → (l, k + j) ∈ headsF k R := by
  induction R with
  | nil => intro k j l h; simp at h
  | cons a R ih =>
    intro k j l h hl
    rw [headsF]
    cases j with
    | zero =>
      injection h with h; subst h
      rw [if_neg hl]
      exact List.mem_cons_self ..
    | succ j =>
      have := ih (k := k + 1) (j := j) (by simpa using h) hl
      rw [show k + 1 + j = k + (j + 1) by omega] at this
      split
      · exact this
      · exact List.mem_cons_of_mem _ this
theorem split_at {α : Type} {R : List α} {j : Nat} {x : α} (h : R[j]? = some x) : R = R.take j ++ x :: R.drop (j + 1) := by
  obtain ⟨h1, rfl⟩ := List.getElem?_eq_some_iff.1 h
  rw [List.getElem_cons_drop, List.take_append_drop]
theorem set_split {α : Type} {R : List α} {j : Nat} {x y : α} (h : R[j]? = some x) : R.set j y = R.take j ++ y :: R.drop (j + 1) := by
  have h1 := (List.getElem?_eq_some_iff.1 h).1
  conv => lhs; rw [split_at h]
  rw [List.set_append_right _ _ (by rw [List.length_take]; omega), List.length_take, Nat.min_eq_left (by omega), Nat.sub_self]
  rfl
theorem headsF_out {R : List (List Con)} {j : Nat} {l : List Con} (h : R[j]? = some l) (hl : l ≠ []) : (headsF 0 R).Perm ((l, j) :: headsF 0 (R.set j [])) := by
  have h1 := (List.getElem?_eq_some_iff.1 h).1
  have e : (R.take j).length = j := by rw [List.length_take]; omega
  conv => lhs; rw [split_at h]
  rw [set_split h, headsF_app, headsF_app, headsF, headsF, if_neg hl, if_pos rfl, e, Nat.zero_add]
  exact List.perm_middle
theorem headsF_set {R : List (List Con)} {j : Nat} {l t : List Con} (h : R[j]? = some l) (ht : t ≠ []) : (headsF 0 (R.set j t)).Perm ((t, j) :: headsF 0 (R.set j [])) := by
  have h1 := (List.getElem?_eq_some_iff.1 h).1
  have := headsF_out (R := R.set j t) (j := j) (l := t) (by rw [List.getElem?_set_self h1]) ht
  rwa [List.set_set] at this
/-- The least one of all that is left comes next. -/
theorem merge_step {R : List (List Con)} {L : List Hd} {x : Con} {t : List Con} {j : Nat} (hp : L.Perm (headsF 0 R)) (hh : Heap L L.length) (h0 : L[0]? = some (x :: t, j)) (hs : ∀ l ∈ R, Srt l) :
    R[j]? = some (x :: t) ∧ sortC R.flatten = x :: sortC (R.set j t).flatten := by
  have hm := headsF_mem (hp.mem_iff.1 (List.mem_of_getElem? h0))
  simp only [Nat.sub_zero] at hm
  have hj := hm.2.2
  have hne : ∀ z ∈ L, z.1 ≠ [] := fun z hz => (headsF_mem (hp.mem_iff.1 hz)).1
  have hmin := heap_min hh hne h0
  have key : ∀ (k : Nat) (a : Con), (∃ l, R[k]? = some l ∧ a ∈ l) → lessC a x = false ∧ (k < j → lessC x a = true) := by
    rintro k a ⟨l, hl, ha⟩
    obtain ⟨i, hi⟩ := List.mem_iff_getElem?.1 ha
    cases l with
    | nil => cases ha
    | cons y l =>
      have h1 := headsF_get (k := 0) hl (by simp)
      rw [Nat.zero_add] at h1
      obtain ⟨p, hpL⟩ := List.mem_iff_getElem?.1 (hp.mem_iff.2 h1)
      have h2 := hmin p _ (List.getElem?_eq_some_iff.1 hpL).1 hpL
      have h3 : lessC a y = false := by
        cases i with
        | zero =>
          injection hi with hi; subst hi
          have := cmpK_self y.1
          simp [lessC, lessK, this]
        | succ i => exact hs _ (List.mem_of_getElem? hl) 0 (i + 1) y a (by omega) rfl hi
      simp [lessH] at h2
      have r1 := cmpK_range y.1 x.1
      have s1 := cmpK_swap y.1 x.1
      have h4 : lessC y x = false := by simp [lessC, lessK, h2.1]
      refine ⟨lessC_false_trans h4 h3, fun hk => ?_⟩
      have h5 : lessC x y = true := by simp [lessC, lessK]; omega
      cases hq : lessC x a with
      | true => rfl
      | false => rw [lessC_false_trans h3 hq] at h5; cases h5
  refine ⟨hj, ?_⟩
  have hjl := (List.getElem?_eq_some_iff.1 hj).1
  conv => lhs; rw [split_at hj]
  rw [set_split hj, List.flatten_append, List.flatten_append, List.flatten_cons, List.flatten_cons, List.cons_append]
  refine sortC_min (fun a ha => ?_) (fun a ha => ?_)
  · obtain ⟨l, hl, hal⟩ := List.mem_flatten.1 ha
    obtain ⟨k, hk⟩ := List.mem_iff_getElem?.1 hl
    rw [List.getElem?_take] at hk
    split at hk
    · rename_i hkj
      exact (key k a ⟨l, hk, hal⟩).2 hkj
    · cases hk
  · rcases List.mem_append.1 ha with ha | ha
    · exact (key j a ⟨_, hj, List.mem_cons_of_mem _ ha⟩).1
    · obtain ⟨l, hl, hal⟩ := List.mem_flatten.1 ha
      obtain ⟨k, hk⟩ := List.mem_iff_getElem?.1 hl
      rw [List.getElem?_drop] at hk
      exact (key _ a ⟨l, hk, hal⟩).1
theorem srt_tail {x : Con} {t : List Con} (h : Srt (x :: t)) : Srt t := fun i j a b hij ha hb => h (i + 1) (j + 1) a b (by omega) (by rw [List.getElem?_cons_succ]; exact ha) (by rw [List.getElem?_cons_succ]; exact hb)
theorem srt_set {R : List (List Con)} {j : Nat} {x : Con} {t : List Con} (hs : ∀ l ∈ R, Srt l) (h : R[j]? = some (x :: t)) : ∀ l ∈ R.set j t, Srt l := fun l hl => by
  rcases List.mem_or_eq_of_mem_set hl with h1 | rfl
  · exact hs l h1
  · exact srt_tail (hs _ (List.mem_of_getElem? h))
/-- Behind the least one: its run goes on, or is at its end. -/
theorem merge_next {R : List (List Con)} {L : List Hd} {x : Con} {t : List Con} {j : Nat} (hp : L.Perm (headsF 0 R)) (h0 : L[0]? = some (x :: t, j)) (hj : R[j]? = some (x :: t)) :
    (t ≠ [] → (L.set 0 (t, j)).Perm (headsF 0 (R.set j t))) ∧ (t = [] → ∀ M : List Hd, L.Perm (M ++ [(x :: t, j)]) → M.Perm (headsF 0 (R.set j t))) := by
  have h1 : L = (x :: t, j) :: L.tail := by
    cases L with
    | nil => simp at h0
    | cons a L => injection h0 with h0; subst h0; rfl
  have h2 : L.tail.Perm (headsF 0 (R.set j [])) := by
    have := (hp.trans (headsF_out hj (by simp)))
    rw [h1] at this
    exact this.cons_inv
  refine ⟨fun ht => ?_, fun ht M hM => ?_⟩
  · rw [h1]
    exact (h2.cons _).trans (headsF_set hj ht).symm
  · subst ht
    rw [h1] at hM
    exact (((List.perm_append_comm (l₁ := M)).symm.trans hM.symm).cons_inv).trans h2
theorem flatten_nil {R : List (List Con)} (h : ([] : List Hd).Perm (headsF 0 R)) : R.flatten = [] := by
  rw [List.flatten_eq_nil_iff]
  intro l hl
  obtain ⟨k, hk⟩ := List.mem_iff_getElem?.1 hl
  by_cases e : l = []
  · exact e
  · have := headsF_get (k := 0) hk e
    rw [← h.mem_iff] at this
    cases this

end Go.Proofs.Ytelnhhbefdfeoaa

namespace Go.Proofs.Ytelnhhbefdfeoaa
set_option linter.unusedVariables false

def foldStep (acc : List Con) (f : Con) : Option (List Con) :=
  match acc.getLast? with
  | none => some (acc ++ [f])
  | some p => if cmpK p.1 f.1 = 0 then (if (p.2.join f.2).2 = true then some (acc.dropLast ++ [(p.1, (p.2.join f.2).1)]) else none) else some (acc ++ [f])
def foldFrom (acc : List Con) : List Con → Option (List Con)
  | [] => some acc
  | f :: l => match foldStep acc f with | none => none | some acc => foldFrom acc l
def foldC (l : List Con) : Option (List Con) := foldFrom [] l
theorem insC_perm (f : Con) (acc : List Con) : (insC f acc).Perm (f :: acc) := by
  rw [insC_split]
  refine List.perm_middle.trans (List.Perm.cons _ ?_)
  rw [List.take_append_drop]
theorem sortFrom_perm (l : List Con) : ∀ acc, (sortFrom acc l).Perm (acc ++ l) := by
  induction l with
  | nil => intro acc; simp [sortFrom]
  | cons f l ih =>
    intro acc
    refine (ih _).trans (((insC_perm f acc).append_right l).trans ?_)
    exact List.perm_middle.symm
theorem sortC_perm (l : List Con) : (sortC l).Perm l := by simpa [sortC] using sortFrom_perm l []
/-- Joined whatever the size. -/
def prtJ (x y : Prt) : Prt := ⟨x.s + y.s, min x.mn y.mn, max x.mx y.mx⟩
def agJ (a b : Ag) : Ag := ⟨a.c + b.c, prtJ a.p b.p, prtJ a.q b.q, prtJ a.r b.r⟩
theorem prtJ_comm (x y : Prt) : prtJ x y = prtJ y x := by simp only [prtJ, Prt.mk.injEq]; omega
theorem prtJ_assoc (x y z : Prt) : prtJ (prtJ x y) z = prtJ x (prtJ y z) := by simp only [prtJ, Prt.mk.injEq]; omega
theorem agJ_comm (a b : Ag) : agJ a b = agJ b a := by
  unfold agJ
  rw [prtJ_comm a.p, prtJ_comm a.q, prtJ_comm a.r, Int.add_comm]
theorem agJ_assoc (a b c : Ag) : agJ (agJ a b) c = agJ a (agJ b c) := by
  simp only [agJ]
  rw [prtJ_assoc, prtJ_assoc, prtJ_assoc, Int.add_assoc]
def inB (c s : Int) : Prop := -(c * 1000000000000) ≤ s ∧ s ≤ c * 1000000000000
structure GoodA (a : Ag) : Prop where
  c : 1 ≤ a.c
  p : inB a.c a.p.s
  q : inB a.c a.q.s
  r : inB a.c a.r.s
theorem inB_add {c d s t : Int} (h1 : inB c s) (h2 : inB d t) : inB (c + d) (s + t) := by unfold inB at *; omega
theorem GoodA.join {a b : Ag} (ha : GoodA a) (hb : GoodA b) : GoodA (agJ a b) := ⟨by have := ha.c; have := hb.c; show 1 ≤ a.c + b.c; omega, inB_add ha.p hb.p, inB_add ha.q hb.q, inB_add ha.r hb.r⟩
theorem xadd_fits {x y : Int} (h : -9223372036854775808 ≤ x + y ∧ x + y ≤ 9223372036854775807) : xadd x y = (x + y, true) := by unfold xadd; rw [xfit_pos h]
theorem join_good {a b : Ag} (ha : GoodA a) (hb : GoodA b) (hn : a.c + b.c ≤ 100000) : a.join b = (agJ a b, true) := by
  have h1 := ha.c
  have h2 := hb.c
  have k : ∀ x y : Int, inB a.c x → inB b.c y → xadd x y = (x + y, true) := fun x y hx hy => xadd_fits (by unfold inB at *; omega)
  unfold Ag.join
  rw [if_neg (by omega), if_neg (by omega), k _ _ ha.p hb.p, k _ _ ha.q hb.q, k _ _ ha.r hb.r, xadd_fits (x := a.c) (y := b.c) (by omega), if_pos ⟨rfl, rfl, rfl, rfl⟩]
  unfold agJ Prt.join prtJ
  rw [k _ _ ha.p hb.p, k _ _ ha.q hb.q, k _ _ ha.r hb.r]
/-- All of one tuple together. -/
def sumK (k : List Int) : List Con → Option Ag
  | [] => none
  | f :: l => if f.1 = k then some (match sumK k l with | none => f.2 | some a => agJ f.2 a) else sumK k l
theorem sumK_perm {l m : List Con} (h : l.Perm m) (k : List Int) : sumK k l = sumK k m := by
  induction h with
  | nil => rfl
  | cons x _ ih => simp only [sumK, ih]
  | swap x y l =>
    simp only [sumK]
    by_cases h1 : x.1 = k <;> by_cases h2 : y.1 = k <;> simp only [h1, h2, if_true, if_false]
    cases sumK k l with
    | none => simp only; rw [agJ_comm]
    | some a => simp only; rw [← agJ_assoc, ← agJ_assoc, agJ_comm y.2]
  | trans _ _ ih1 ih2 => exact ih1.trans ih2
def optJ : Option Ag → Option Ag → Option Ag
  | none, y => y
  | x, none => x
  | some a, some b => some (agJ a b)
theorem sumK_app (k : List Int) (l m : List Con) : sumK k (l ++ m) = optJ (sumK k l) (sumK k m) := by
  induction l with
  | nil => rfl
  | cons f l ih =>
    rw [List.cons_append, sumK, sumK, ih]
    split
    · cases sumK k l <;> cases sumK k m <;> simp [optJ, agJ_assoc]
    · rfl
def cnt : List Con → Int
  | [] => 0
  | f :: l => f.2.c + cnt l
theorem cnt_app (l m : List Con) : cnt (l ++ m) = cnt l + cnt m := by
  induction l with
  | nil => simp [cnt]
  | cons f l ih => rw [List.cons_append, cnt, cnt, ih, Int.add_assoc]
theorem cnt_perm {l m : List Con} (h : l.Perm m) : cnt l = cnt m := by
  induction h with
  | nil => rfl
  | cons x _ ih => simp only [cnt, ih]
  | swap x y l => simp only [cnt]; omega
  | trans _ _ ih1 ih2 => exact ih1.trans ih2
def AllGood (l : List Con) : Prop := ∀ f ∈ l, GoodA f.2
theorem cnt_nonneg {l : List Con} (h : AllGood l) : 0 ≤ cnt l := by
  induction l with
  | nil => exact Int.le_refl _
  | cons f l ih =>
    have := ih fun x hx => h x (List.mem_cons_of_mem _ hx)
    have := (h f (List.mem_cons_self ..)).c
    rw [cnt]; omega
theorem last_split {α : Type} {l : List α} {p : α} (h : l.getLast? = some p) : l = l.dropLast ++ [p] := by
  obtain ⟨ys, rfl⟩ := List.getLast?_eq_some_iff.1 h
  rw [List.dropLast_concat]
/-- Each one stands behind the one ahead. -/
def Rise (l : List Con) : Prop := l.Pairwise fun a b => cmpK a.1 b.1 = -1
theorem rise_snoc {l : List Con} {f : Con} (h : Rise l) (hf : ∀ p, l.getLast? = some p → cmpK p.1 f.1 = -1) : Rise (l ++ [f]) := by
  unfold Rise
  rw [List.pairwise_append]
  refine ⟨h, List.pairwise_singleton _ _, fun a ha b hb => ?_⟩
  rw [List.mem_singleton] at hb
  subst hb
  cases hq : l.getLast? with
  | none =>
    rw [List.getLast?_eq_none_iff] at hq
    rw [hq] at ha
    cases ha
  | some p =>
    have hl := hf p hq
    have e := last_split hq
    rw [e] at ha h
    rcases List.mem_append.1 ha with h1 | h1
    · have h2 := (List.pairwise_append.1 h).2.2 a h1 _ (List.mem_singleton.2 rfl)
      exact cmpK_trans h2 hl
    · rw [List.mem_singleton] at h1
      rw [h1]
      exact hl
theorem fold_good (l : List Con) : ∀ acc : List Con, Rise acc → AllGood acc → AllGood l → cnt acc + cnt l ≤ 100000 → Srt l → (∀ p, acc.getLast? = some p → ∀ f ∈ l, lessC f p = false) →
    ∃ r, foldFrom acc l = some r ∧ Rise r ∧ AllGood r ∧ cnt r = cnt acc + cnt l ∧ ∀ k, sumK k r = optJ (sumK k acc) (sumK k l) := by
  induction l with
  | nil =>
    intro acc hr hg _ _ _ _
    refine ⟨acc, rfl, hr, hg, by simp [cnt], fun k => ?_⟩
    cases h : sumK k acc <;> simp [sumK, optJ]
  | cons f l ih =>
    intro acc hr hg hl hc hs hb
    have hgf := hl f (List.mem_cons_self ..)
    have hgl : AllGood l := fun x hx => hl x (List.mem_cons_of_mem _ hx)
    have hsl : Srt l := srt_tail hs
    have hfl : ∀ x ∈ l, lessC x f = false := fun x hx => by
      obtain ⟨j, hj⟩ := List.mem_iff_getElem?.1 hx
      exact hs 0 (j + 1) f x (by omega) rfl (by rw [List.getElem?_cons_succ]; exact hj)
    have hcl := cnt_nonneg hgl
    rw [cnt] at hc
    have app : (∀ p, acc.getLast? = some p → cmpK p.1 f.1 = -1) → ∃ r, foldFrom (acc ++ [f]) l = some r ∧ Rise r ∧ AllGood r ∧ cnt r = cnt acc + cnt (f :: l) ∧ ∀ k, sumK k r = optJ (sumK k acc) (sumK k (f :: l)) := by
      intro hp
      obtain ⟨r, h1, h2, h3, h4, h5⟩ := ih (acc ++ [f]) (rise_snoc hr hp) (fun x hx => by
        rcases List.mem_append.1 hx with h | h
        · exact hg x h
        · rw [List.mem_singleton] at h; subst h; exact hgf) hgl (by rw [cnt_app]; simp only [cnt]; omega) hsl (fun p hp x hx => by
        rw [List.getLast?_concat] at hp
        injection hp with hp; subst hp
        exact hfl x hx)
      refine ⟨r, h1, h2, h3, by rw [h4, cnt_app]; simp only [cnt]; omega, fun k => ?_⟩
      rw [h5, sumK_app, show f :: l = [f] ++ l from rfl, sumK_app]
      cases sumK k acc <;> cases sumK k [f] <;> cases sumK k l <;> simp [optJ, agJ_assoc]
    cases hla : acc.getLast? with
    | none =>
      rw [foldFrom, foldStep, hla]
      exact app fun p hp => by rw [hla] at hp; cases hp
    | some p =>
      have hac := last_split hla
      by_cases he : cmpK p.1 f.1 = 0
      · have hpf := cmpK_eq he
        have hgp : GoodA p.2 := hg p (by rw [hac]; exact List.mem_append_right _ (List.mem_singleton.2 rfl))
        have hgd : AllGood acc.dropLast := fun x hx => hg x (by rw [hac]; exact List.mem_append_left _ hx)
        have hcd := cnt_nonneg hgd
        have hca : cnt acc = cnt acc.dropLast + p.2.c := by
          conv => lhs; rw [hac]
          rw [cnt_app]
          simp [cnt]
        have hj := join_good hgp hgf (by omega)
        rw [foldFrom, foldStep, hla]
        simp only
        rw [if_pos he, hj, if_pos rfl]
        simp only
        obtain ⟨r, h1, h2, h3, h4, h5⟩ := ih (acc.dropLast ++ [(p.1, agJ p.2 f.2)]) (by
            rw [hac] at hr
            unfold Rise at hr ⊢
            rw [List.pairwise_append] at hr ⊢
            refine ⟨hr.1, List.pairwise_singleton _ _, fun a ha b hb => ?_⟩
            rw [List.mem_singleton] at hb
            subst hb
            exact hr.2.2 a ha p (List.mem_singleton.2 rfl)) (fun x hx => by
          rcases List.mem_append.1 hx with h | h
          · exact hgd x h
          · rw [List.mem_singleton] at h; subst h; exact hgp.join hgf) hgl (by rw [cnt_app]; simp only [cnt, agJ]; omega) hsl (fun q hq x hx => by
          rw [List.getLast?_concat] at hq
          injection hq with hq; subst hq
          have := hb p hla x (List.mem_cons_of_mem _ hx)
          exact this)
        refine ⟨r, h1, h2, h3, by rw [h4, cnt_app]; simp only [cnt, agJ]; omega, fun k => ?_⟩
        rw [h5]
        conv => rhs; rw [hac]
        rw [sumK_app, sumK_app, show f :: l = [f] ++ l from rfl, sumK_app]
        by_cases hk : p.1 = k
        · have hk2 : f.1 = k := by rw [← hpf]; exact hk
          simp only [sumK, hk, hk2, if_true]
          cases sumK k acc.dropLast <;> cases sumK k l <;> simp [optJ, agJ_assoc]
        · have hk2 : ¬ f.1 = k := by rw [← hpf]; exact hk
          simp only [sumK, hk, hk2, if_false]
          cases sumK k acc.dropLast <;> cases sumK k l <;> simp [optJ]
      · rw [foldFrom, foldStep, hla]
        simp only
        rw [if_neg he]
        simp only
        refine app fun q hq => ?_
        rw [hla] at hq
        injection hq with hq; subst hq
        have h1 := hb p hla f (List.mem_cons_self ..)
        have r1 := cmpK_range p.1 f.1
        have s1 := cmpK_swap p.1 f.1
        simp [lessC, lessK] at h1
        omega
theorem foldC_good {l : List Con} (hg : AllGood l) (hc : cnt l ≤ 100000) (hs : Srt l) : ∃ r, foldC l = some r ∧ Rise r ∧ AllGood r ∧ cnt r = cnt l ∧ ∀ k, sumK k r = sumK k l := by
  obtain ⟨r, h1, h2, h3, h4, h5⟩ := fold_good l [] List.Pairwise.nil (fun x hx => by cases hx) hg (by simpa [cnt] using hc) hs (fun p hp => by cases hp)
  exact ⟨r, h1, h2, h3, by simpa [cnt] using h4, fun k => by rw [h5]; rfl⟩
theorem rise_srt {l : List Con} (h : Rise l) : Srt l := fun i j a b hij ha hb => by
  obtain ⟨h1, rfl⟩ := List.getElem?_eq_some_iff.1 ha
  obtain ⟨h2, rfl⟩ := List.getElem?_eq_some_iff.1 hb
  have := List.pairwise_iff_getElem.1 h i j h1 h2 hij
  have s1 := cmpK_swap (l[i]).1 (l[j]).1
  simp [lessC, lessK]
  omega
theorem sumK_none {k : List Int} {l : List Con} (h : ∀ f ∈ l, f.1 ≠ k) : sumK k l = none := by
  induction l with
  | nil => rfl
  | cons f l ih => rw [sumK, if_neg (h f (List.mem_cons_self ..)), ih fun x hx => h x (List.mem_cons_of_mem _ hx)]
theorem sumK_some {k : List Int} {l : List Con} {f : Con} (h : f ∈ l) (hk : f.1 = k) : sumK k l ≠ none := by
  induction l with
  | nil => cases h
  | cons g l ih =>
    rw [sumK]
    split
    · simp
    · rename_i h1
      rcases List.mem_cons.1 h with rfl | h
      · exact absurd hk h1
      · exact ih h
/-- Two rows that rise and have the same sums are the same. -/
theorem rise_eq : ∀ {l m : List Con}, Rise l → Rise m → (∀ k, sumK k l = sumK k m) → l = m
  | [], [], _, _, _ => rfl
  | [], g :: m, _, _, h => by
    have := h g.1
    exact absurd this.symm (sumK_some (List.mem_cons_self ..) rfl)
  | f :: l, [], _, _, h => by
    have := h f.1
    exact absurd this (sumK_some (List.mem_cons_self ..) rfl)
  | f :: l, g :: m, hl, hm, h => by
    have hl' := List.pairwise_cons.1 hl
    have hm' := List.pairwise_cons.1 hm
    have ne : ∀ {a : Con} {n : List Con}, (∀ b ∈ n, cmpK a.1 b.1 = -1) → ∀ b ∈ n, b.1 ≠ a.1 := fun hn b hb e => by
      have := hn b hb
      rw [e, cmpK_self] at this
      omega
    have e1 : f.1 = g.1 := by
      by_cases e : f.1 = g.1
      · exact e
      · have h1 := h f.1
        have h2 := h g.1
        have a1 : ∃ x ∈ m, x.1 = f.1 := by
          refine Classical.byContradiction fun hx => ?_
          have : sumK f.1 (g :: m) = none := sumK_none fun x hx2 => by
            rcases List.mem_cons.1 hx2 with rfl | hx2
            · exact fun e2 => e e2.symm
            · exact fun e2 => hx ⟨x, hx2, e2⟩
          rw [this] at h1
          exact sumK_some (List.mem_cons_self ..) rfl h1
        have a2 : ∃ x ∈ l, x.1 = g.1 := by
          refine Classical.byContradiction fun hx => ?_
          have : sumK g.1 (f :: l) = none := sumK_none fun x hx2 => by
            rcases List.mem_cons.1 hx2 with rfl | hx2
            · exact e
            · exact fun e2 => hx ⟨x, hx2, e2⟩
          rw [this] at h2
          exact sumK_some (List.mem_cons_self ..) rfl h2.symm
        obtain ⟨x, hx, ex⟩ := a1
        obtain ⟨y, hy, ey⟩ := a2
        have b1 := hm'.1 x hx
        have b2 := hl'.1 y hy
        rw [ex] at b1
        rw [ey] at b2
        have := cmpK_swap f.1 g.1
        omega
    have n1 : sumK f.1 l = none := sumK_none (ne hl'.1)
    have n2 : sumK f.1 m = none := by rw [e1]; exact sumK_none (ne hm'.1)
    have e2 : f = g := by
      have := h f.1
      rw [sumK, sumK, if_pos rfl, if_pos e1.symm, n1, n2] at this
      injection this with this
      exact Prod.ext e1 this
    subst e2
    rw [rise_eq hl'.2 hm'.2 fun k => ?_]
    by_cases hk : f.1 = k
    · subst hk
      rw [n1, n2]
    · have := h k
      rw [sumK, sumK, if_neg hk, if_neg hk] at this
      exact this
/-- Whatever the order and the groups. -/
theorem fold_orders {a b c d : List Con} (hg : AllGood a) (hn : cnt a ≤ 100000) (hb : b.Perm a) (hcd : (c ++ d).Perm a) :
    ∃ r x y, foldC (sortC a) = some r ∧ foldC (sortC b) = some r ∧ foldC (sortC c) = some x ∧ foldC (sortC d) = some y ∧ Srt x ∧ Srt y ∧ foldC (sortC (y ++ x)) = some r := by
  have gs : ∀ {l m : List Con}, l.Perm m → AllGood m → AllGood l := fun h hm f hf => hm f (h.mem_iff.1 hf)
  have gcd := gs hcd hg
  have gc : AllGood c := fun f hf => gcd f (List.mem_append_left _ hf)
  have gd : AllGood d := fun f hf => gcd f (List.mem_append_right _ hf)
  have ncd := cnt_perm hcd
  rw [cnt_app] at ncd
  have c0 := cnt_nonneg gc
  have d0 := cnt_nonneg gd
  obtain ⟨r, r1, r2, r3, r4, r5⟩ := foldC_good (gs (sortC_perm a) hg) (by rw [cnt_perm (sortC_perm a)]; exact hn) (srt_sort a)
  obtain ⟨r', q1, q2, q3, q4, q5⟩ := foldC_good (gs (sortC_perm b) (gs hb hg)) (by rw [cnt_perm (sortC_perm b), cnt_perm hb]; exact hn) (srt_sort b)
  obtain ⟨x, x1, x2, x3, x4, x5⟩ := foldC_good (gs (sortC_perm c) gc) (by rw [cnt_perm (sortC_perm c)]; omega) (srt_sort c)
  obtain ⟨y, y1, y2, y3, y4, y5⟩ := foldC_good (gs (sortC_perm d) gd) (by rw [cnt_perm (sortC_perm d)]; omega) (srt_sort d)
  have gyx : AllGood (y ++ x) := fun f hf => (List.mem_append.1 hf).elim (y3 f) (x3 f)
  obtain ⟨z, z1, z2, z3, z4, z5⟩ := foldC_good (gs (sortC_perm (y ++ x)) gyx) (by rw [cnt_perm (sortC_perm (y ++ x)), cnt_app, x4, y4, cnt_perm (sortC_perm c), cnt_perm (sortC_perm d)]; omega) (srt_sort (y ++ x))
  have e1 : r' = r := rise_eq q2 r2 fun k => by rw [q5, r5, sumK_perm (sortC_perm b), sumK_perm (sortC_perm a), sumK_perm hb]
  have e2 : z = r := rise_eq z2 r2 fun k => by
    rw [z5, r5, sumK_perm (sortC_perm (y ++ x)), sumK_perm (sortC_perm a), ← sumK_perm hcd, sumK_app, sumK_app, y5, x5, sumK_perm (sortC_perm c), sumK_perm (sortC_perm d)]
    cases sumK k c <;> cases sumK k d <;> simp [optJ, agJ_comm]
  exact ⟨r, x, y, r1, by rw [q1, e1], x1, y1, rise_srt x2, rise_srt y2, by rw [z1, e2]⟩

end Go.Proofs.Ytelnhhbefdfeoaa
