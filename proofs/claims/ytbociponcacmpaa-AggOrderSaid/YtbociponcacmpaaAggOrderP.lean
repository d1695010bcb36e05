/- Aggregates of single rows come together to the same, in whatever order: plain. -/
import Derived.Test.YtbociponcacmpaaAggO
namespace Go.Proofs.Ytbociponcacmpaa
open Go.RowKit
set_option linter.unusedVariables false

/-- All that is above 0, and all that is below, summed up. -/
def posOf (l : List Int) : Int := (l.map fun z => max z 0).sum
def negOf (l : List Int) : Int := (l.map fun z => min z 0).sum
def FitC (l : List Int) : Prop := posOf l ≤ 9223372036854775807 ∧ -9223372036854775808 ≤ negOf l
theorem pos_ge (l : List Int) : 0 ≤ posOf l ∧ negOf l ≤ 0 ∧ negOf l ≤ l.sum ∧ l.sum ≤ posOf l := by
  induction l with
  | nil => simp [posOf, negOf]
  | cons a l ih =>
    simp only [posOf, negOf, List.map_cons, List.sum_cons] at *
    omega
theorem pos_append (l m : List Int) : posOf (l ++ m) = posOf l + posOf m ∧ negOf (l ++ m) = negOf l + negOf m := by
  simp [posOf, negOf, List.sum_append]
theorem FitC.left {l m : List Int} (h : FitC (l ++ m)) : FitC l := by
  have h1 := pos_append l m
  have h2 := pos_ge m
  unfold FitC at *
  omega
theorem FitC.right {l m : List Int} (h : FitC (l ++ m)) : FitC m := by
  have h1 := pos_append l m
  have h2 := pos_ge l
  unfold FitC at *
  omega
theorem FitC.swap {l m : List Int} (h : FitC (l ++ m)) : FitC (m ++ l) := by
  have h1 := pos_append l m
  have h2 := pos_append m l
  unfold FitC at *
  omega
theorem FitC.sum {l : List Int} (h : FitC l) : I64 l.sum := by
  have := pos_ge l
  unfold FitC at h
  unfold I64
  omega
theorem FitC.rev {l : List Int} (h : FitC l) : FitC l.reverse := by
  unfold FitC posOf negOf at *
  rw [List.map_reverse, List.map_reverse, List.sum_reverse, List.sum_reverse]
  exact h

theorem sum_perm {l m : List Int} (h : l.Perm m) : l.sum = m.sum := by
  induction h with
  | nil => rfl
  | cons x _ ih => simp [ih]
  | swap x y l => simp only [List.sum_cons]; omega
  | trans _ _ h1 h2 => exact h1.trans h2

/-- A part is that of these parts. -/
structure IsPart (ps : List Prt) (x : Prt) : Prop where
  s : x.s = (ps.map (·.s)).sum
  mn1 : ∃ y ∈ ps, x.mn = y.mn
  mn2 : ∀ y ∈ ps, x.mn ≤ y.mn
  mx1 : ∃ y ∈ ps, x.mx = y.mx
  mx2 : ∀ y ∈ ps, y.mx ≤ x.mx
theorem IsPart.unique {ps : List Prt} {x y : Prt} (hx : IsPart ps x) (hy : IsPart ps y) : x = y := by
  obtain ⟨a, ha, ea⟩ := hx.mn1
  obtain ⟨b, hb, eb⟩ := hy.mn1
  obtain ⟨c, hc, ec⟩ := hx.mx1
  obtain ⟨d, hd, ed⟩ := hy.mx1
  have h1 := hx.mn2 b hb
  have h2 := hy.mn2 a ha
  have h3 := hx.mx2 d hd
  have h4 := hy.mx2 c hc
  have h5 := hx.s
  have h6 := hy.s
  cases x
  cases y
  simp only [Prt.mk.injEq] at *
  omega
theorem IsPart.perm {ps qs : List Prt} {x : Prt} (h : IsPart ps x) (hs : (ps.map (·.s)).sum = (qs.map (·.s)).sum) (hm : ∀ y, y ∈ ps ↔ y ∈ qs) : IsPart qs x :=
  ⟨h.s.trans hs, by obtain ⟨y, hy, e⟩ := h.mn1; exact ⟨y, (hm y).1 hy, e⟩, fun y hy => h.mn2 y ((hm y).2 hy), by obtain ⟨y, hy, e⟩ := h.mx1; exact ⟨y, (hm y).1 hy, e⟩, fun y hy => h.mx2 y ((hm y).2 hy)⟩
theorem IsPart.one (x : Prt) : IsPart [x] x := ⟨by simp, ⟨x, by simp, rfl⟩, by simp, ⟨x, by simp, rfl⟩, by simp⟩
theorem IsPart.join {ps qs : List Prt} {x y : Prt} (hx : IsPart ps x) (hy : IsPart qs y) (hs : I64 ((ps ++ qs).map (·.s)).sum) : (xadd x.s y.s).2 = true ∧ IsPart (ps ++ qs) (x.join y) := by
  have e : x.s + y.s = ((ps ++ qs).map (·.s)).sum := by rw [List.map_append, List.sum_append, hx.s, hy.s]
  have hx2 : xadd x.s y.s = (x.s + y.s, true) := by unfold xadd xfit; rw [if_pos (by rw [e]; exact hs)]
  refine ⟨by rw [hx2], ⟨?_, ?_, ?_, ?_, ?_⟩⟩
  · rw [Prt.join, hx2]; exact e
  · obtain ⟨a, ha, ea⟩ := hx.mn1
    obtain ⟨b, hb, eb⟩ := hy.mn1
    show ∃ u ∈ ps ++ qs, min x.mn y.mn = u.mn
    by_cases h : x.mn ≤ y.mn
    · exact ⟨a, by simp [ha], by omega⟩
    · exact ⟨b, by simp [hb], by omega⟩
  · intro u hu
    show min x.mn y.mn ≤ u.mn
    rcases List.mem_append.1 hu with h | h
    · have := hx.mn2 u h; omega
    · have := hy.mn2 u h; omega
  · obtain ⟨a, ha, ea⟩ := hx.mx1
    obtain ⟨b, hb, eb⟩ := hy.mx1
    show ∃ u ∈ ps ++ qs, max x.mx y.mx = u.mx
    by_cases h : x.mx ≤ y.mx
    · exact ⟨b, by simp [hb], by omega⟩
    · exact ⟨a, by simp [ha], by omega⟩
  · intro u hu
    show u.mx ≤ max x.mx y.mx
    rcases List.mem_append.1 hu with h | h
    · have := hx.mx2 u h; omega
    · have := hy.mx2 u h; omega

/-- An aggregate is that of these. -/
def IsTot (l : List Ag) (a : Ag) : Prop := if l = [] then a = .zero else a.c = l.length ∧ IsPart (l.map (·.p)) a.p ∧ IsPart (l.map (·.q)) a.q ∧ IsPart (l.map (·.r)) a.r
structure FitA (l : List Ag) : Prop where
  len : l.length ≤ 60
  one : ∀ a ∈ l, a.c = 1
  p : FitC (l.map (·.p.s))
  q : FitC (l.map (·.q.s))
  r : FitC (l.map (·.r.s))
theorem FitA.left {l m : List Ag} (h : FitA (l ++ m)) : FitA l :=
  ⟨by have := h.len; rw [List.length_append] at this; omega, fun a ha => h.one a (List.mem_append_left _ ha), (by have := h.p; rw [List.map_append] at this; exact this.left), (by have := h.q; rw [List.map_append] at this; exact this.left), (by have := h.r; rw [List.map_append] at this; exact this.left)⟩
theorem FitA.right {l m : List Ag} (h : FitA (l ++ m)) : FitA m :=
  ⟨by have := h.len; rw [List.length_append] at this; omega, fun a ha => h.one a (List.mem_append_right _ ha), (by have := h.p; rw [List.map_append] at this; exact this.right), (by have := h.q; rw [List.map_append] at this; exact this.right), (by have := h.r; rw [List.map_append] at this; exact this.right)⟩
theorem FitA.swap {l m : List Ag} (h : FitA (l ++ m)) : FitA (m ++ l) :=
  ⟨by have := h.len; rw [List.length_append] at *; omega, fun a ha => h.one a (by rw [List.mem_append] at *; exact ha.symm), (by have := h.p; rw [List.map_append] at *; exact this.swap), (by have := h.q; rw [List.map_append] at *; exact this.swap), (by have := h.r; rw [List.map_append] at *; exact this.swap)⟩
theorem FitA.rev {l : List Ag} (h : FitA l) : FitA l.reverse :=
  ⟨by rw [List.length_reverse]; exact h.len, fun a ha => h.one a (List.mem_reverse.1 ha), by rw [List.map_reverse]; exact h.p.rev, by rw [List.map_reverse]; exact h.q.rev, by rw [List.map_reverse]; exact h.r.rev⟩

theorem IsTot.join {l m : List Ag} {a b : Ag} (ha : IsTot l a) (hb : IsTot m b) (hF : FitA (l ++ m)) : ∃ c, a.join b = (c, true) ∧ IsTot (l ++ m) c := by
  unfold IsTot at *
  by_cases hl : l = []
  · subst hl
    rw [if_pos rfl] at ha
    subst ha
    exact ⟨b, by simp [Ag.join, Ag.zero], hb⟩
  · rw [if_neg hl] at ha
    have hln : l.length ≠ 0 := fun h => hl (List.eq_nil_of_length_eq_zero h)
    by_cases hm : m = []
    · subst hm
      rw [if_pos rfl] at hb
      subst hb
      refine ⟨a, ?_, by rw [List.append_nil, if_neg hl]; exact ha⟩
      unfold Ag.join
      rw [if_neg (by omega)]
      simp [Ag.zero]
    · rw [if_neg hm] at hb
      have hmn : m.length ≠ 0 := fun h => hm (List.eq_nil_of_length_eq_zero h)
      obtain ⟨c1, p1, q1, r1⟩ := ha
      obtain ⟨c2, p2, q2, r2⟩ := hb
      have hlen := hF.len
      rw [List.length_append] at hlen
      have hp := p1.join p2 (by have := hF.p.sum; simpa [List.map_map, Function.comp_def] using this)
      have hq := q1.join q2 (by have := hF.q.sum; simpa [List.map_map, Function.comp_def] using this)
      have hr := r1.join r2 (by have := hF.r.sum; simpa [List.map_map, Function.comp_def] using this)
      have hc : xadd a.c b.c = (a.c + b.c, true) := by unfold xadd xfit; rw [if_pos (by unfold I64; omega)]
      refine ⟨⟨a.c + b.c, a.p.join b.p, a.q.join b.q, a.r.join b.r⟩, ?_, ?_⟩
      · unfold Ag.join
        rw [if_neg (by omega), if_neg (by omega), hc, if_pos ⟨rfl, hp.1, hq.1, hr.1⟩]
      · rw [if_neg (by simp [hl])]
        simp only [List.map_append, List.length_append]
        exact ⟨by omega, hp.2, hq.2, hr.2⟩
theorem IsTot.unique {l : List Ag} {a b : Ag} (ha : IsTot l a) (hb : IsTot l b) : a = b := by
  unfold IsTot at *
  by_cases hl : l = []
  · rw [if_pos hl] at *; rw [ha, hb]
  · rw [if_neg hl] at *
    obtain ⟨c1, p1, q1, r1⟩ := ha
    obtain ⟨c2, p2, q2, r2⟩ := hb
    have h1 := p1.unique p2
    have h2 := q1.unique q2
    have h3 := r1.unique r2
    cases a
    cases b
    simp only at *
    simp [*]
theorem IsTot.of_perm {l m : List Ag} {a : Ag} (ha : IsTot l a) (h : l.Perm m) : IsTot m a := by
  unfold IsTot at *
  by_cases hl : l = []
  · subst hl
    rw [h.symm.eq_nil]
    exact ha
  · have hm : m ≠ [] := fun e => hl (by rw [e] at h; exact h.eq_nil)
    rw [if_neg hl] at ha
    rw [if_neg hm]
    obtain ⟨c, p, q, r⟩ := ha
    exact ⟨by rw [c, h.length_eq], p.perm (sum_perm ((h.map _).map _)) fun y => (h.map _).mem_iff, q.perm (sum_perm ((h.map _).map _)) fun y => (h.map _).mem_iff, r.perm (sum_perm ((h.map _).map _)) fun y => (h.map _).mem_iff⟩
theorem isTot_one {a : Ag} (h : a.c = 1) : IsTot [a] a := by
  unfold IsTot
  rw [if_neg (by simp)]
  exact ⟨by simp [h], IsPart.one _, IsPart.one _, IsPart.one _⟩

theorem fit_all {l : List Ag} (h : FitA l) : (Ag.all .zero l).2 = true ∧ IsTot l (Ag.all .zero l).1 := by
  induction hn : l.length generalizing l with
  | zero =>
    have : l = [] := List.eq_nil_of_length_eq_zero hn
    subst this
    exact ⟨rfl, by simp [IsTot, Ag.all]⟩
  | succ n ih =>
    have hne : l ≠ [] := fun e => by subst e; simp at hn
    obtain ⟨m, b, rfl⟩ : ∃ m b, l = m ++ [b] := ⟨l.dropLast, l.getLast hne, (List.dropLast_concat_getLast hne).symm⟩
    obtain ⟨h1, h2⟩ := ih h.left (by simp at hn; exact hn)
    obtain ⟨c, hc, ht⟩ := h2.join (isTot_one (h.one b (by simp))) h
    rw [all_snoc, if_pos h1, hc]
    exact ⟨rfl, ht⟩

/-- THE LAW: all at once, in the other order, and in two groups, whichever first. -/
theorem order_plain {l : List Ag} (h : FitA l) (k : Nat) :
    (Ag.all .zero l).2 = true ∧ (Ag.all .zero l.reverse).2 = true ∧ (Ag.all .zero (l.take k)).2 = true ∧ (Ag.all .zero (l.drop k)).2 = true ∧ (Ag.all .zero l.reverse).1 = (Ag.all .zero l).1 ∧
    (Ag.all .zero (l.take k)).1.join (Ag.all .zero (l.drop k)).1 = ((Ag.all .zero l).1, true) ∧ (Ag.all .zero (l.drop k)).1.join (Ag.all .zero (l.take k)).1 = ((Ag.all .zero l).1, true) := by
  have e : l.take k ++ l.drop k = l := List.take_append_drop k l
  have hF : FitA (l.take k ++ l.drop k) := by rw [e]; exact h
  obtain ⟨a1, a2⟩ := fit_all h
  obtain ⟨b1, b2⟩ := fit_all h.rev
  obtain ⟨c1, c2⟩ := fit_all hF.left
  obtain ⟨d1, d2⟩ := fit_all hF.right
  obtain ⟨x, hx, tx⟩ := c2.join d2 hF
  obtain ⟨y, hy, ty⟩ := d2.join c2 hF.swap
  rw [e] at tx
  have hxe := tx.unique a2
  have hye := (ty.of_perm (List.perm_append_comm.trans (by rw [e]))).unique a2
  subst hxe hye
  exact ⟨a1, b1, c1, d1, (b2.of_perm (List.reverse_perm l)).unique a2, hx, hy⟩

end Go.Proofs.Ytbociponcacmpaa
