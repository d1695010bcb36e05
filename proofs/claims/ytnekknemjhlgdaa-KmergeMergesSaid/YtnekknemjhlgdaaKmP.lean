/- Merging sorted runs: plain. -/
import Derived.Test.YtnekknemjhlgdaaRunP
namespace Go.Proofs.Ytnekknemjhlgdaa
set_option linter.unusedVariables false

theorem posFrom_full {f : Con} {acc : List Con} {k : Nat} (h : ∀ i a, i < k → acc[i]? = some a → lessC f a = true) (hk : k ≤ acc.length) : posFrom f acc k = 0 := by
  induction k with
  | zero => rfl
  | succ k ih =>
    rw [posFrom, List.getElem?_eq_getElem (by omega)]
    have h1 := h k (acc[k]'(by omega)) (by omega) (List.getElem?_eq_getElem (by omega))
    simp only [Option.any_some, h1, if_true]
    exact ih (fun i a hi ha => h i a (by omega) ha) (by omega)
theorem insC_front {f : Con} {acc : List Con} (h : ∀ a ∈ acc, lessC f a = true) : insC f acc = f :: acc := by
  unfold insC
  rw [posFrom_full (fun i a hi ha => h a (List.mem_of_getElem? ha)) (Nat.le_refl _)]
  simp
theorem posFrom_cons {f x : Con} {acc : List Con} (h : lessC f x = false) (k : Nat) : posFrom f (x :: acc) (k + 1) = posFrom f acc k + 1 := by
  induction k with
  | zero => simp [posFrom, h]
  | succ k ih =>
    rw [posFrom, List.getElem?_cons_succ, ih, posFrom]
    split <;> rfl
theorem insC_cons {f x : Con} {acc : List Con} (h : lessC f x = false) : insC f (x :: acc) = x :: insC f acc := by
  unfold insC
  rw [List.length_cons, posFrom_cons h]
  simp
theorem insC_split (f : Con) (acc : List Con) : insC f acc = acc.take (posFrom f acc acc.length) ++ f :: acc.drop (posFrom f acc acc.length) := rfl
theorem sortFrom_app (acc l m : List Con) : sortFrom acc (l ++ m) = sortFrom (sortFrom acc l) m := by
  induction l generalizing acc with
  | nil => rfl
  | cons a l ih => exact ih _
theorem sortFrom_cons_min {x : Con} {acc l : List Con} (h : ∀ y ∈ l, lessC y x = false) : sortFrom (x :: acc) l = x :: sortFrom acc l := by
  induction l generalizing acc with
  | nil => rfl
  | cons y l ih =>
    rw [sortFrom, sortFrom, insC_cons (h y (List.mem_cons_self ..)), ih fun z hz => h z (List.mem_cons_of_mem _ hz)]
theorem mem_insC {f a : Con} {acc : List Con} : a ∈ insC f acc ↔ a = f ∨ a ∈ acc := by
  have h : acc = acc.take (posFrom f acc acc.length) ++ acc.drop (posFrom f acc acc.length) := (List.take_append_drop _ _).symm
  rw [insC_split, List.mem_append, List.mem_cons]
  constructor
  · rintro (h1 | h1 | h1)
    · exact .inr (List.mem_of_mem_take h1)
    · exact .inl h1
    · exact .inr (List.mem_of_mem_drop h1)
  · rintro (h1 | h1)
    · exact .inr (.inl h1)
    · rw [h, List.mem_append] at h1
      rcases h1 with h1 | h1
      · exact .inl h1
      · exact .inr (.inr h1)
theorem mem_sortFrom {a : Con} {acc l : List Con} : a ∈ sortFrom acc l ↔ a ∈ acc ∨ a ∈ l := by
  induction l generalizing acc with
  | nil => simp [sortFrom]
  | cons x l ih =>
    rw [sortFrom, ih, mem_insC, List.mem_cons]
    constructor
    · rintro ((h | h) | h)
      · exact .inr (.inl h)
      · exact .inl h
      · exact .inr (.inr h)
    · rintro (h | h | h)
      · exact .inl (.inr h)
      · exact .inl (.inl h)
      · exact .inr h
theorem mem_sortC {a : Con} {l : List Con} : a ∈ sortC l ↔ a ∈ l := by unfold sortC; rw [mem_sortFrom]; simp
/-- The least one, behind those that it stands ahead of, comes first. -/
theorem sortC_min {X Y : List Con} {x : Con} (hX : ∀ a ∈ X, lessC x a = true) (hY : ∀ a ∈ Y, lessC a x = false) : sortC (X ++ x :: Y) = x :: sortC (X ++ Y) := by
  unfold sortC
  rw [sortFrom_app, sortFrom_app, sortFrom, insC_front (fun a ha => hX a ((mem_sortFrom.1 ha).elim (fun h => by cases h) id)), sortFrom_cons_min hY]
theorem insC_comm {x y : Con} {acc : List Con} (h : lessC y x = true) (hs : Srt acc) : insC x (insC y acc) = insC y (insC x acc) := by
  have hxy := lessC_asymm h
  induction acc with
  | nil => rw [show insC y [] = [y] from rfl, show insC x [] = [x] from rfl, insC_cons hxy, insC_front (acc := [x]) (by simpa using h)]; rfl
  | cons a acc ih =>
    have hs' : Srt acc := fun i j b c hij hb hc => hs (i + 1) (j + 1) b c (by omega) (by rw [List.getElem?_cons_succ]; exact hb) (by rw [List.getElem?_cons_succ]; exact hc)
    have ha : ∀ b ∈ acc, lessC b a = false := fun b hb => by
      obtain ⟨j, hj⟩ := List.mem_iff_getElem?.1 hb
      exact hs 0 (j + 1) a b (by omega) rfl (by rw [List.getElem?_cons_succ]; exact hj)
    by_cases h1 : lessC y a = true
    · -- y stands ahead of a
      have hy : insC y (a :: acc) = y :: a :: acc := insC_front fun b hb => by
        rcases List.mem_cons.1 hb with rfl | hb
        · exact h1
        · cases hq : lessC y b with
          | true => rfl
          | false => have := lessC_false_trans (ha b hb) hq; 
                     cases hz : lessC y a with
                     | true => rw [lessC_false_trans (ha b hb) hq] at hz; cases hz
                     | false => rw [hz] at h1; cases h1
      rw [hy, insC_cons hxy]
      by_cases h2 : lessC x a = true
      · have hx : insC x (a :: acc) = x :: a :: acc := insC_front fun b hb => by
          rcases List.mem_cons.1 hb with rfl | hb
          · exact h2
          · cases hq : lessC x b with
            | true => rfl
            | false => rw [lessC_false_trans (ha b hb) hq] at h2; cases h2
        rw [hx, insC_front fun b hb => ?_]
        rcases List.mem_cons.1 hb with rfl | hb
        · exact h
        · rcases List.mem_cons.1 hb with rfl | hb
          · exact h1
          · cases hq : lessC y b with
            | true => rfl
            | false => rw [lessC_false_trans (ha b hb) hq] at h1; cases h1
      · have h2 : lessC x a = false := by cases hq : lessC x a with | true => exact absurd hq h2 | false => rfl
        rw [insC_cons h2]
        rw [insC_front (acc := a :: insC x acc) fun b hb => ?_]
        rcases List.mem_cons.1 hb with rfl | hb
        · exact h1
        · rcases mem_insC.1 hb with rfl | hb
          · exact h
          · cases hq : lessC y b with
            | true => rfl
            | false => rw [lessC_false_trans (ha b hb) hq] at h1; cases h1
    · have h1 : lessC y a = false := by cases hq : lessC y a with | true => exact absurd hq h1 | false => rfl
      have h2 : lessC x a = false := lessC_false_trans h1 hxy
      rw [insC_cons h1, insC_cons h2, insC_cons h2, insC_cons h1, ih hs']
theorem srt_from {acc : List Con} (l : List Con) (h : Srt acc) : Srt (sortFrom acc l) := by
  induction l generalizing acc with
  | nil => exact h
  | cons a l ih => exact ih (srt_ins h)
theorem sortFrom_ins {x : Con} {acc l : List Con} (hs : Srt acc) (h : ∀ b ∈ l, lessC x b = true) : sortFrom (insC x acc) l = insC x (sortFrom acc l) := by
  induction l generalizing acc with
  | nil => rfl
  | cons b l ih =>
    rw [sortFrom, sortFrom, ← ih (srt_ins hs) fun c hc => h c (List.mem_cons_of_mem _ hc), insC_comm (h b (List.mem_cons_self ..)) hs]
theorem sortFrom_insC {acc l : List Con} (f : Con) (hs : Srt acc) (hl : Srt l) : sortFrom acc (insC f l) = insC f (sortFrom acc l) := by
  have e : l = l.take (posFrom f l l.length) ++ l.drop (posFrom f l l.length) := (List.take_append_drop _ _).symm
  rw [insC_split, sortFrom_app, sortFrom]
  rw [sortFrom_ins (srt_from _ hs) fun b hb => ?_]
  · rw [← sortFrom_app, ← e]
  · obtain ⟨j, hj⟩ := List.mem_iff_getElem?.1 hb
    rw [List.getElem?_drop] at hj
    exact pos_above (k := l.length) _ b (by omega) (List.getElem?_eq_some_iff.1 hj).1 hj
theorem sortFrom_sort {acc : List Con} (l : List Con) (hs : Srt acc) : sortFrom acc (sortC l) = sortFrom acc l := by
  have : ∀ m, Srt m → sortFrom acc (sortFrom m l) = sortFrom (sortFrom acc m) l := by
    induction l with
    | nil => intro m _; rfl
    | cons f l ih => intro m hm; rw [sortFrom, ih _ (srt_ins hm), sortFrom_insC f hs hm]; rfl
  rw [sortC, this [] (fun i j a b _ ha => by simp at ha)]
  rfl
theorem sortC_app_sort (l m : List Con) : sortC (l ++ sortC m) = sortC (l ++ m) := by
  unfold sortC
  rw [sortFrom_app, sortFrom_app]
  exact sortFrom_sort m (srt_sort l)
theorem sortC_sort_app (l m : List Con) : sortC (sortC l ++ m) = sortC (l ++ m) := by
  have h := sortFrom_sort (acc := []) l (fun i j a b _ ha => by simp at ha)
  unfold sortC at *
  rw [sortFrom_app, sortFrom_app, h]
theorem sortC_flat (ls : List (List Con)) : sortC (ls.map sortC).flatten = sortC ls.flatten := by
  have : ∀ acc : List Con, sortC (acc ++ (ls.map sortC).flatten) = sortC (acc ++ ls.flatten) := by
    induction ls with
    | nil => intro acc; rfl
    | cons a ls ih =>
      intro acc
      rw [List.map_cons, List.flatten_cons, List.flatten_cons, ← List.append_assoc, ih, ← List.append_assoc]
      rw [← sortC_sort_app (acc ++ sortC a), sortC_app_sort, sortC_sort_app]
  simpa using this []
theorem sortC_srt {l : List Con} (h : Srt l) : sortC l = l := by
  have : ∀ (acc m : List Con), Srt (acc ++ m) → sortFrom acc m = acc ++ m := by
    intro acc m
    induction m generalizing acc with
    | nil => intro _; simp [sortFrom]
    | cons f m ih =>
      intro hs
      have hp : posFrom f acc acc.length = acc.length := by
        cases hl : acc.length with
        | zero => rfl
        | succ k =>
          rw [posFrom, List.getElem?_eq_getElem (by omega)]
          have := hs k acc.length (acc[k]'(by omega)) f (by omega) (by rw [List.getElem?_append_left (by omega), List.getElem?_eq_getElem]) (by rw [List.getElem?_append_right (Nat.le_refl _)]; simp)
          simp [this]
      have hi : insC f acc = acc ++ [f] := by rw [insC_split, hp]; simp
      rw [sortFrom, hi, ih _ (by simpa using hs)]
      simp
  have h2 := this [] l (by simpa using h)
  rw [List.nil_append] at h2
  exact h2

/-- A run that is merged: what is left of it, and which one it is. -/
abbrev Hd := List Con × Nat
/-- Which of two stands ahead: by its first fact; of equal ones the earlier run. -/
def lessH (a b : Hd) : Bool := match a.1, b.1 with
  | x :: _, y :: _ => decide (cmpK x.1 y.1 = -1) || (decide (cmpK x.1 y.1 = 0) && decide (a.2 < b.2))
  | _, _ => false
theorem lessH_asymm {a b : Hd} (h : lessH a b = true) : lessH b a = false := by
  obtain ⟨l, i⟩ := a; obtain ⟨m, k⟩ := b
  cases l with
  | nil => cases m <;> simp [lessH] at h
  | cons x l =>
    cases m with
    | nil => simp [lessH] at h
    | cons y m =>
      have := cmpK_swap x.1 y.1
      simp [lessH] at *
      omega
theorem lessH_ntrans {a b c : Hd} (hb : b.1 ≠ []) (h1 : lessH b a = false) (h2 : lessH c b = false) : lessH c a = false := by
  obtain ⟨l, i⟩ := a; obtain ⟨m, k⟩ := b; obtain ⟨p, j⟩ := c
  cases p with
  | nil => simp [lessH]
  | cons z p =>
    cases l with
    | nil => simp [lessH]
    | cons x l =>
      cases m with
      | nil => exact absurd rfl hb
      | cons y m =>
        have s1 := cmpK_swap y.1 x.1
        have s2 := cmpK_swap z.1 y.1
        have r1 := cmpK_range y.1 x.1
        have r2 := cmpK_range z.1 y.1
        simp [lessH] at *
        rcases r1 with r | r | r
        · omega
        · rcases r2 with q | q | q
          · omega
          · rw [cmpK_eq q, r]; omega
          · rw [← cmpK_eq r, q]; omega
        · have s : cmpK x.1 y.1 = -1 := by omega
          rcases r2 with q | q | q
          · omega
          · rw [cmpK_eq q, r]; omega
          · have t : cmpK y.1 z.1 = -1 := by omega
            have u := cmpK_trans s t
            have v := cmpK_swap x.1 z.1
            omega
/-- A heap: of each place but the first the one above it does not stand behind. -/
def HeapBut (L : List Hd) (n : Nat) (P : Nat → Prop) : Prop := ∀ k a b, 0 < k → k < n → ¬ P k → L[k]? = some a → L[(k - 1) / 2]? = some b → lessH a b = false
abbrev Heap (L : List Hd) (n : Nat) : Prop := HeapBut L n (fun _ => False)
/-- One place may be too low. -/
structure UpAt (L : List Hd) (j : Nat) : Prop where
  but : HeapBut L L.length (fun k => k = j)
  over : ∀ k a b, 0 < j → 0 < k → (k - 1) / 2 = j → L[k]? = some a → L[(j - 1) / 2]? = some b → lessH a b = false
/-- One place may be too high. -/
structure DownAt (L : List Hd) (n i : Nat) : Prop where
  but : HeapBut L n (fun k => (k - 1) / 2 = i)
  over : ∀ k a b, 0 < i → 0 < k → k < n → (k - 1) / 2 = i → L[k]? = some a → L[(i - 1) / 2]? = some b → lessH a b = false
def swapL (L : List Hd) (i j : Nat) (a b : Hd) : List Hd := (L.set i b).set j a
theorem swapL_len {L : List Hd} {i j : Nat} {a b : Hd} : (swapL L i j a b).length = L.length := by simp [swapL]
theorem swapL_get {L : List Hd} {i j : Nat} {a b : Hd} (hi : i < L.length) (hj : j < L.length) (k : Nat) : (swapL L i j a b)[k]? = if k = j then some a else if k = i then some b else L[k]? := by
  unfold swapL
  by_cases h1 : k = j
  · rw [if_pos h1, h1, List.getElem?_set_self (by simpa using hj)]
  · rw [if_neg h1, List.getElem?_set_ne (fun h => h1 h.symm)]
    by_cases h2 : k = i
    · rw [if_pos h2, h2, List.getElem?_set_self hi]
    · rw [if_neg h2, List.getElem?_set_ne (fun h => h2 h.symm)]
theorem up_stop0 {L : List Hd} (h : UpAt L 0) : Heap L L.length := fun k a b h0 hk _ ha hb => h.but k a b h0 hk (by omega) ha hb
theorem up_stop {L : List Hd} {j : Nat} {a b : Hd} (h : UpAt L j) (ha : L[j]? = some a) (hb : L[(j - 1) / 2]? = some b) (hl : lessH a b = false) : Heap L L.length := fun k c d h0 hk _ hc hd => by
  by_cases e : k = j
  · subst e; rw [ha] at hc; rw [hb] at hd; injection hc with hc; injection hd with hd; subst hc hd; exact hl
  · exact h.but k c d h0 hk e hc hd
theorem up_step {L : List Hd} {j : Nat} {a b : Hd} (hj : 0 < j) (h : UpAt L j) (hne : ∀ x ∈ L, x.1 ≠ []) (ha : L[j]? = some a) (hb : L[(j - 1) / 2]? = some b) (hl : lessH a b = true) : UpAt (swapL L ((j - 1) / 2) j b a) ((j - 1) / 2) := by
  have jl := (List.getElem?_eq_some_iff.1 ha).1
  have il := (List.getElem?_eq_some_iff.1 hb).1
  have hba := lessH_asymm hl
  have g := fun k => swapL_get (a := b) (b := a) il jl k
  have nb := hne b (List.mem_of_getElem? hb)
  constructor
  · intro k c d h0 hk hP hc hd
    rw [swapL_len] at hk
    rw [g] at hc hd
    by_cases e1 : k = j
    · subst e1
      rw [if_pos rfl] at hc
      rw [if_neg (by omega), if_pos rfl] at hd
      injection hc with hc; injection hd with hd; subst hc hd
      exact hba
    · rw [if_neg e1, if_neg hP] at hc
      by_cases e2 : (k - 1) / 2 = j
      · rw [if_pos e2] at hd
        injection hd with hd; subst hd
        exact h.over k c b (by omega) h0 e2 hc hb
      · rw [if_neg e2] at hd
        by_cases e3 : (k - 1) / 2 = (j - 1) / 2
        · rw [if_pos e3] at hd
          injection hd with hd; subst hd
          have := h.but k c b h0 hk e1 hc (by rw [e3]; exact hb)
          exact lessH_ntrans nb hba this
        · rw [if_neg e3] at hd
          exact h.but k c d h0 hk e1 hc hd
  · intro k c d hi h0 hk hc hd
    rw [g] at hc hd
    rw [if_neg (by omega), if_neg (by omega)] at hd
    by_cases e1 : k = j
    · subst e1
      rw [if_pos rfl] at hc
      injection hc with hc; subst hc
      exact h.but _ b d hi il (by omega) hb hd
    · rw [if_neg e1, if_neg (by omega)] at hc
      have h1 := h.but k c b h0 (List.getElem?_eq_some_iff.1 hc).1 e1 hc (by rw [hk]; exact hb)
      have h2 := h.but _ b d hi il (by omega) hb hd
      exact lessH_ntrans nb h2 h1
theorem down_stop {L : List Hd} {n i : Nat} (h : DownAt L n i) (hl : ∀ k a b, 0 < k → k < n → (k - 1) / 2 = i → L[k]? = some a → L[i]? = some b → lessH a b = false) : Heap L n := fun k c d h0 hk _ hc hd => by
  by_cases e : (k - 1) / 2 = i
  · exact hl k c d h0 hk e hc (by rw [← e]; exact hd)
  · exact h.but k c d h0 hk e hc hd
/-- The lesser child j of i goes up. -/
theorem down_step {L : List Hd} {n i j : Nat} {a b : Hd} (hn : n ≤ L.length) (hj : 0 < j) (hjn : j < n) (hij : (j - 1) / 2 = i) (h : DownAt L n i) (hne : ∀ x ∈ L, x.1 ≠ []) (ha : L[j]? = some a) (hb : L[i]? = some b) (hl : lessH a b = true)
    (hmin : ∀ k c, 0 < k → k < n → (k - 1) / 2 = i → L[k]? = some c → lessH c a = false) : DownAt (swapL L i j b a) n j := by
  have jl := (List.getElem?_eq_some_iff.1 ha).1
  have il := (List.getElem?_eq_some_iff.1 hb).1
  have hba := lessH_asymm hl
  have g := fun k => swapL_get (a := b) (b := a) il jl k
  have na := hne a (List.mem_of_getElem? ha)
  constructor
  · intro k c d h0 hk hP hc hd
    rw [g] at hc hd
    rw [if_neg hP] at hd
    by_cases e1 : k = j
    · subst e1
      rw [if_pos rfl] at hc
      rw [if_pos hij] at hd
      injection hc with hc; injection hd with hd; subst hc hd
      exact hba
    · rw [if_neg e1] at hc
      by_cases e2 : (k - 1) / 2 = i
      · rw [if_pos e2] at hd
        injection hd with hd; subst hd
        rw [if_neg (by omega)] at hc
        exact hmin k c h0 hk e2 hc
      · rw [if_neg e2] at hd
        by_cases e3 : k = i
        · subst e3
          rw [if_pos rfl] at hc
          injection hc with hc; subst hc
          exact h.over j a d h0 hj hjn hij ha hd
        · rw [if_neg e3] at hc
          exact h.but k c d h0 hk e2 hc hd
  · intro k c d _ h0 hk hkj hc hd
    rw [g] at hc hd
    rw [if_neg (by omega), if_neg (by omega)] at hc
    rw [if_neg (by omega), if_pos hij] at hd
    injection hd with hd; subst hd
    exact h.but k c a h0 hk (by omega) hc (by rw [hkj]; exact ha)
/-- The first of a heap stands behind none. -/
theorem heap_min {L : List Hd} {n : Nat} {r : Hd} (h : Heap L n) (hne : ∀ x ∈ L, x.1 ≠ []) (hr : L[0]? = some r) : ∀ k a, k < n → L[k]? = some a → lessH a r = false := by
  intro k
  induction k using Nat.strongRecOn with
  | ind k ih =>
    intro a hk ha
    cases k with
    | zero =>
      rw [hr] at ha; injection ha with ha; subst ha
      cases hq : lessH r r with
      | false => rfl
      | true => have := lessH_asymm hq; rw [this] at hq; cases hq
    | succ k =>
      have hl := (List.getElem?_eq_some_iff.1 ha).1
      have hb := List.getElem?_eq_getElem (show k / 2 < L.length by omega)
      have h1 := h (k + 1) a _ (by omega) hk (fun h => h) ha hb
      have h2 := ih (k / 2) (by omega) _ (by omega) hb
      exact lessH_ntrans (hne _ (List.mem_of_getElem? hb)) h2 h1
theorem set_cons_perm {α : Type} {a b : α} : ∀ {r : List α} {j : Nat}, r[j]? = some a → (a :: r.set j b).Perm (b :: r)
  | [], j, h => by simp at h
  | x :: r, 0, h => by injection h with h; subst h; exact List.Perm.swap ..
  | x :: r, j + 1, h => by
    have ih := set_cons_perm (b := b) (r := r) (j := j) (by simpa using h)
    exact (List.Perm.swap ..).trans ((ih.cons x).trans (List.Perm.swap ..))
theorem swap_perm {α : Type} {a b : α} : ∀ {L : List α} {i j : Nat}, i < j → L[i]? = some b → L[j]? = some a → ((L.set i a).set j b).Perm L
  | [], i, j, _, h, _ => by simp at h
  | x :: r, 0, 0, h, _, _ => by omega
  | x :: r, 0, j + 1, _, h, h2 => by
    injection h with h; subst h
    exact set_cons_perm (by simpa using h2)
  | x :: r, i + 1, 0, h, _, _ => by omega
  | x :: r, i + 1, j + 1, hij, h, h2 => (swap_perm (by omega) (by simpa using h) (by simpa using h2)).cons x
theorem swapL_perm {L : List Hd} {i j : Nat} {a b : Hd} (hij : i < j) (hi : L[i]? = some b) (hj : L[j]? = some a) : (swapL L i j b a).Perm L := swap_perm hij hi hj
/-- The runs that are not at their end. -/
def headsF (k : Nat) : List (List Con) → List Hd
  | [] => []
  | l :: r => if l = [] then headsF (k + 1) r else (l, k) :: headsF (k + 1) r
theorem headsF_app (A B : List (List Con)) : ∀ k, headsF k (A ++ B) = headsF k A ++ headsF (k + A.length) B := by
  induction A with
  | nil => intro k; rfl
  | cons a A ih =>
    intro k
    rw [List.cons_append, headsF, headsF, ih, List.length_cons, show k + (A.length + 1) = k + 1 + A.length by omega]
    split <;> rfl
theorem headsF_mem {R : List (List Con)} : ∀ {k : Nat} {h : Hd}, h ∈ headsF k R → h.1 ≠ [] ∧ k ≤ h.2 ∧ R[h.2 - k]? = some h.1 := by
  induction R with
  | nil => intro k h hm; cases hm
  | cons l R ih =>
    intro k h hm
    rw [headsF] at hm
    split at hm
    · obtain ⟨h1, h2, h3⟩ := ih hm
      exact ⟨h1, by omega, by rw [show h.2 - k = (h.2 - (k + 1)) + 1 by omega, List.getElem?_cons_succ]; exact h3⟩
    · rename_i hl
      rcases List.mem_cons.1 hm with rfl | hm
      · exact ⟨hl, Nat.le_refl _, by simp⟩
      · obtain ⟨h1, h2, h3⟩ := ih hm
        exact ⟨h1, by omega, by rw [show h.2 - k = (h.2 - (k + 1)) + 1 by omega, List.getElem?_cons_succ]; exact h3⟩
theorem headsF_get {R : List (List Con)} : ∀ {k j : Nat} {l : List Con}, R[j]? = some l → l ≠ [] → (l, k + j) ∈ headsF k R := by
  induction R with
  | nil => intro k j l h; simp at h
  | cons a R ih =>
    intro k j l h hl
    rw [headsF]
    cases j with
    | zero =>
      injection h with h; subst h
      rw [if_neg hl]
      exact List.mem_cons_self ..
    | succ j =>
      have := ih (k := k + 1) (j := j) (by simpa using h) hl
      rw [show k + 1 + j = k + (j + 1) by omega] at this
      split
      · exact this
      · exact List.mem_cons_of_mem _ this
theorem split_at {α : Type} {R : List α} {j : Nat} {x : α} (h : R[j]? = some x) : R = R.take j ++ x :: R.drop (j + 1) := by
  obtain ⟨h1, rfl⟩ := List.getElem?_eq_some_iff.1 h
  rw [List.getElem_cons_drop, List.take_append_drop]
theorem set_split {α : Type} {R : List α} {j : Nat} {x y : α} (h : R[j]? = some x) : R.set j y = R.take j ++ y :: R.drop (j + 1) := by
  have h1 := (List.getElem?_eq_some_iff.1 h).1
  conv => lhs; rw [split_at h]
  rw [List.set_append_right _ _ (by rw [List.length_take]; omega), List.length_take, Nat.min_eq_left (by omega), Nat.sub_self]
  rfl
theorem headsF_out {R : List (List Con)} {j : Nat} {l : List Con} (h : R[j]? = some l) (hl : l ≠ []) : (headsF 0 R).Perm ((l, j) :: headsF 0 (R.set j [])) := by
  have h1 := (List.getElem?_eq_some_iff.1 h).1
  have e : (R.take j).length = j := by rw [List.length_take]; omega
  conv => lhs; rw [split_at h]
  rw [set_split h, headsF_app, headsF_app, headsF, headsF, if_neg hl, if_pos rfl, e, Nat.zero_add]
  exact List.perm_middle
theorem headsF_set {R : List (List Con)} {j : Nat} {l t : List Con} (h : R[j]? = some l) (ht : t ≠ []) : (headsF 0 (R.set j t)).Perm ((t, j) :: headsF 0 (R.set j [])) := by
  have h1 := (List.getElem?_eq_some_iff.1 h).1
  have := headsF_out (R := R.set j t) (j := j) (l := t) (by rw [List.getElem?_set_self h1]) ht
  rwa [List.set_set] at this
/-- The least one of all that is left comes next. -/
theorem merge_step {R : List (List Con)} {L : List Hd} {x : Con} {t : List Con} {j : Nat} (hp : L.Perm (headsF 0 R)) (hh : Heap L L.length) (h0 : L[0]? = some (x :: t, j)) (hs : ∀ l ∈ R, Srt l) :
    R[j]? = some (x :: t) ∧ sortC R.flatten = x :: sortC (R.set j t).flatten := by
  have hm := headsF_mem (hp.mem_iff.1 (List.mem_of_getElem? h0))
  simp only [Nat.sub_zero] at hm
  have hj := hm.2.2
  have hne : ∀ z ∈ L, z.1 ≠ [] := fun z hz => (headsF_mem (hp.mem_iff.1 hz)).1
  have hmin := heap_min hh hne h0
  have key : ∀ (k : Nat) (a : Con), (∃ l, R[k]? = some l ∧ a ∈ l) → lessC a x = false ∧ (k < j → lessC x a = true) := by
    rintro k a ⟨l, hl, ha⟩
    obtain ⟨i, hi⟩ := List.mem_iff_getElem?.1 ha
    cases l with
    | nil => cases ha
    | cons y l =>
      have h1 := headsF_get (k := 0) hl (by simp)
      rw [Nat.zero_add] at h1
      obtain ⟨p, hpL⟩ := List.mem_iff_getElem?.1 (hp.mem_iff.2 h1)
      have h2 := hmin p _ (List.getElem?_eq_some_iff.1 hpL).1 hpL
      have h3 : lessC a y = false := by
        cases i with
        | zero =>
          injection hi with hi; subst hi
          have := cmpK_self y.1
          simp [lessC, lessK, this]
        | succ i => exact hs _ (List.mem_of_getElem? hl) 0 (i + 1) y a (by omega) rfl hi
      simp [lessH] at h2
      have r1 := cmpK_range y.1 x.1
      have s1 := cmpK_swap y.1 x.1
      have h4 : lessC y x = false := by simp [lessC, lessK, h2.1]
      refine ⟨lessC_false_trans h4 h3, fun hk => ?_⟩
      have h5 : lessC x y = true := by simp [lessC, lessK]; omega
      cases hq : lessC x a with
      | true => rfl
      | false => rw [lessC_false_trans h3 hq] at h5; cases h5
  refine ⟨hj, ?_⟩
  have hjl := (List.getElem?_eq_some_iff.1 hj).1
  conv => lhs; rw [split_at hj]
  rw [set_split hj, List.flatten_append, List.flatten_append, List.flatten_cons, List.flatten_cons, List.cons_append]
  refine sortC_min (fun a ha => ?_) (fun a ha => ?_)
  · obtain ⟨l, hl, hal⟩ := List.mem_flatten.1 ha
    obtain ⟨k, hk⟩ := List.mem_iff_getElem?.1 hl
    rw [List.getElem?_take] at hk
    split at hk
    · rename_i hkj
      exact (key k a ⟨l, hk, hal⟩).2 hkj
    · cases hk
  · rcases List.mem_append.1 ha with ha | ha
    · exact (key j a ⟨_, hj, List.mem_cons_of_mem _ ha⟩).1
    · obtain ⟨l, hl, hal⟩ := List.mem_flatten.1 ha
      obtain ⟨k, hk⟩ := List.mem_iff_getElem?.1 hl
      rw [List.getElem?_drop] at hk
      exact (key _ a ⟨l, hk, hal⟩).1
theorem srt_tail {x : Con} {t : List Con} (h : Srt (x :: t)) : Srt t := fun i j a b hij ha hb => h (i + 1) (j + 1) a b (by omega) (by rw [List.getElem?_cons_succ]; exact ha) (by rw [List.getElem?_cons_succ]; exact hb)
theorem srt_set {R : List (List Con)} {j : Nat} {x : Con} {t : List Con} (hs : ∀ l ∈ R, Srt l) (h : R[j]? = some (x :: t)) : ∀ l ∈ R.set j t, Srt l := fun l hl => by
  rcases List.mem_or_eq_of_mem_set hl with h1 | rfl
  · exact hs l h1
  · exact srt_tail (hs _ (List.mem_of_getElem? h))
/-- Behind the least one: its run goes on, or is at its end. -/
theorem merge_next {R : List (List Con)} {L : List Hd} {x : Con} {t : List Con} {j : Nat} (hp : L.Perm (headsF 0 R)) (h0 : L[0]? = some (x :: t, j)) (hj : R[j]? = some (x :: t)) :
    (t ≠ [] → (L.set 0 (t, j)).Perm (headsF 0 (R.set j t))) ∧ (t = [] → ∀ M : List Hd, L.Perm (M ++ [(x :: t, j)]) → M.Perm (headsF 0 (R.set j t))) := by
  have h1 : L = (x :: t, j) :: L.tail := by
    cases L with
    | nil => simp at h0
    | cons a L => injection h0 with h0; subst h0; rfl
  have h2 : L.tail.Perm (headsF 0 (R.set j [])) := by
    have := (hp.trans (headsF_out hj (by simp)))
    rw [h1] at this
    exact this.cons_inv
  refine ⟨fun ht => ?_, fun ht M hM => ?_⟩
  · rw [h1]
    exact (h2.cons _).trans (headsF_set hj ht).symm
  · subst ht
    rw [h1] at hM
    exact (((List.perm_append_comm (l₁ := M)).symm.trans hM.symm).cons_inv).trans h2
theorem flatten_nil {R : List (List Con)} (h : ([] : List Hd).Perm (headsF 0 R)) : R.flatten = [] := by
  rw [List.flatten_eq_nil_iff]
  intro l hl
  obtain ⟨k, hk⟩ := List.mem_iff_getElem?.1 hl
  by_cases e : l = []
  · exact e
  · have := headsF_get (k := 0) hk e
    rw [← h.mem_iff] at this
    cases this

end Go.Proofs.Ytnekknemjhlgdaa
