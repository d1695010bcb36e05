/- Catalogs grown, in whichever order: the plain law. -/
import Derived.Test.YtigjghfonpfdlaaCatP
namespace Go.Proofs.Ytigjghfonpfdlaa
open Go.RowKit
set_option linter.unusedVariables false
set_option linter.unusedSimpArgs false


/-- All totals are numbers of int64. -/
def okC (c : CC) : Prop := I64 c.p0 ∧ I64 c.q0 ∧ I64 c.p1 ∧ I64 c.q1 ∧ I64 c.p2 ∧ I64 c.q2
instance (c : CC) : Decidable (okC c) := by unfold okC; infer_instance
/-- The catalog behind values more, as if numbers had no end. -/
def addV (c : CC) (a b z : Int) : CC := ⟨c.sc, c.fa, c.p0 + max a 0, c.q0 + min a 0, c.p1 + max b 0, c.q1 + min b 0, c.p2 + max z 0, c.q2 + min z 0⟩
def addR (c : CC) (r : List Int) : CC := addV c (r.getD 0 0) (r.getD 1 0) (r.getD 2 0)
theorem egrow_val {p q v : Int} (hp : I64 p) (hq : I64 q) : ((egrow p q v).2 = true ↔ I64 (p + max v 0) ∧ I64 (q + min v 0)) ∧ ((egrow p q v).2 = true → (egrow p q v).1 = (p + max v 0, q + min v 0)) := by
  unfold egrow xadd xfit
  by_cases h : v < 0
  · rw [if_pos h, show max v 0 = 0 by omega, show min v 0 = v by omega, Int.add_zero]
    by_cases hf : I64 (q + v)
    · rw [if_pos hf]
      exact ⟨⟨fun _ => ⟨hp, hf⟩, fun _ => rfl⟩, fun _ => rfl⟩
    · rw [if_neg hf]
      exact ⟨⟨fun h => (by cases h), fun h => absurd h.2 hf⟩, fun h => by cases h⟩
  · rw [if_neg h, show max v 0 = v by omega, show min v 0 = 0 by omega, Int.add_zero]
    by_cases hf : I64 (p + v)
    · rw [if_pos hf]
      exact ⟨⟨fun _ => ⟨hf, hq⟩, fun _ => rfl⟩, fun _ => rfl⟩
    · rw [if_neg hf]
      exact ⟨⟨fun h => (by cases h), fun h => absurd h.1 hf⟩, fun h => by cases h⟩
theorem egrow_0 {p q v : Int} (hp : I64 p) (hq : I64 q) : egrow p q v = ((p + max v 0, q + min v 0), true) ∧ I64 (p + max v 0) ∧ I64 (q + min v 0) ∨ (egrow p q v).2 = false ∧ ¬ (I64 (p + max v 0) ∧ I64 (q + min v 0)) := by
  obtain ⟨h1, h2⟩ := egrow_val (v := v) hp hq
  cases hb : (egrow p q v).2
  · right
    exact ⟨rfl, fun h => by have := h1.2 h; rw [hb] at this; cases this⟩
  · left
    have h3 := h1.1 hb
    exact ⟨Prod.ext (h2 hb) hb, h3.1, h3.2⟩
theorem add0 (x : Int) : x + max 0 0 = x := by omega
theorem add0' (x : Int) : x + min 0 0 = x := by omega
/-- A row of as many values as there are measures. -/
theorem crow_val {c : CC} (hc : okC c) {r : List Int} (h3 : r.length ≤ 3) : crow c 0 r = if okC (addR c r) then some (addR c r) else none := by
  obtain ⟨h0, g0, h1, g1, h2, g2⟩ := hc
  match r, h3 with
  | [], _ =>
    rw [crow, if_pos (show okC (addR c []) by unfold addR addV okC; simp only [List.getD_nil, add0, add0']; exact ⟨h0, g0, h1, g1, h2, g2⟩)]
    unfold addR addV
    simp only [List.getD_nil, add0, add0']
  | [a], _ =>
    have e : addR c [a] = ⟨c.sc, c.fa, c.p0 + max a 0, c.q0 + min a 0, c.p1, c.q1, c.p2, c.q2⟩ := by unfold addR addV; simp [add0, add0']
    rw [crow, crow, e]
    unfold cupd
    rw [if_pos rfl]
    rcases egrow_0 (v := a) h0 g0 with ⟨h, i1, i2⟩ | ⟨h, hn⟩
    · rw [if_pos (show okC ⟨_, _, _, _, _, _, _, _⟩ from ⟨i1, i2, h1, g1, h2, g2⟩)]
      simp only [h, if_true]
    · rw [if_neg (show ¬ okC ⟨_, _, _, _, _, _, _, _⟩ from fun hk => hn ⟨hk.1, hk.2.1⟩)]
      simp only [h]
      rfl
  | [a, b], _ =>
    have e : addR c [a, b] = ⟨c.sc, c.fa, c.p0 + max a 0, c.q0 + min a 0, c.p1 + max b 0, c.q1 + min b 0, c.p2, c.q2⟩ := by unfold addR addV; simp [add0, add0']
    rw [crow, crow, crow, e]
    unfold cupd
    simp only [if_true, Nat.zero_add, Nat.one_ne_zero, if_false]
    rcases egrow_0 (v := a) h0 g0 with ⟨h, i1, i2⟩ | ⟨h, hn⟩
    · rcases egrow_0 (v := b) h1 g1 with ⟨h', j1, j2⟩ | ⟨h', hn'⟩
      · rw [if_pos (show okC ⟨_, _, _, _, _, _, _, _⟩ from ⟨i1, i2, j1, j2, h2, g2⟩)]
        simp only [h, h', if_true]
      · rw [if_neg (show ¬ okC ⟨_, _, _, _, _, _, _, _⟩ from fun hk => hn' ⟨hk.2.2.1, hk.2.2.2.1⟩)]
        simp only [h, h', if_true]
        rfl
    · rw [if_neg (show ¬ okC ⟨_, _, _, _, _, _, _, _⟩ from fun hk => hn ⟨hk.1, hk.2.1⟩)]
      simp only [h]
      rfl
  | [a, b, z], _ =>
    rw [crow, crow, crow, crow, show addR c [a, b, z] = addV c a b z from rfl]
    unfold cupd addV
    simp only [if_true, Nat.zero_add, Nat.one_ne_zero, if_false]
    rcases egrow_0 (v := a) h0 g0 with ⟨h, i1, i2⟩ | ⟨h, hn⟩
    · rcases egrow_0 (v := b) h1 g1 with ⟨h', j1, j2⟩ | ⟨h', hn'⟩
      · rcases egrow_0 (v := z) h2 g2 with ⟨h'', k1, k2⟩ | ⟨h'', hn''⟩
        · rw [if_pos (show okC ⟨_, _, _, _, _, _, _, _⟩ from ⟨i1, i2, j1, j2, k1, k2⟩)]
          simp [h, h', h'']
        · rw [if_neg (show ¬ okC ⟨_, _, _, _, _, _, _, _⟩ from fun hk => hn'' ⟨hk.2.2.2.2.1, hk.2.2.2.2.2⟩)]
          simp [h, h', h'']
      · rw [if_neg (show ¬ okC ⟨_, _, _, _, _, _, _, _⟩ from fun hk => hn' ⟨hk.2.2.1, hk.2.2.2.1⟩)]
        simp [h, h']
    · rw [if_neg (show ¬ okC ⟨_, _, _, _, _, _, _, _⟩ from fun hk => hn ⟨hk.1, hk.2.1⟩)]
      simp [h]
def addRs (c : CC) (l : List (List Int)) : CC := l.foldl addR c
theorem addR_le (c : CC) (r : List Int) : (addR c r).sc = c.sc ∧ (addR c r).fa = c.fa ∧ c.p0 ≤ (addR c r).p0 ∧ (addR c r).q0 ≤ c.q0 ∧ c.p1 ≤ (addR c r).p1 ∧ (addR c r).q1 ≤ c.q1 ∧ c.p2 ≤ (addR c r).p2 ∧ (addR c r).q2 ≤ c.q2 := by
  unfold addR addV
  exact ⟨rfl, rfl, by simp only; omega, by simp only; omega, by simp only; omega, by simp only; omega, by simp only; omega, by simp only; omega⟩
theorem addRs_le (l : List (List Int)) : ∀ c : CC, (addRs c l).sc = c.sc ∧ (addRs c l).fa = c.fa ∧ c.p0 ≤ (addRs c l).p0 ∧ (addRs c l).q0 ≤ c.q0 ∧ c.p1 ≤ (addRs c l).p1 ∧ (addRs c l).q1 ≤ c.q1 ∧ c.p2 ≤ (addRs c l).p2 ∧ (addRs c l).q2 ≤ c.q2 := by
  induction l with
  | nil => intro c; exact ⟨rfl, rfl, Int.le_refl _, Int.le_refl _, Int.le_refl _, Int.le_refl _, Int.le_refl _, Int.le_refl _⟩
  | cons r l ih =>
    intro c
    have h1 := addR_le c r
    have h2 := ih (addR c r)
    have e : addRs c (r :: l) = addRs (addR c r) l := rfl
    rw [e]
    exact ⟨h2.1.trans h1.1, h2.2.1.trans h1.2.1, by omega, by omega, by omega, by omega, by omega, by omega⟩
theorem okC_back {c d : CC} (hc : okC c) (h : c.p0 ≤ d.p0 ∧ d.q0 ≤ c.q0 ∧ c.p1 ≤ d.p1 ∧ d.q1 ≤ c.q1 ∧ c.p2 ≤ d.p2 ∧ d.q2 ≤ c.q2) {e : CC} (he : okC e) (h2 : d.p0 ≤ e.p0 ∧ e.q0 ≤ d.q0 ∧ d.p1 ≤ e.p1 ∧ e.q1 ≤ d.q1 ∧ d.p2 ≤ e.p2 ∧ e.q2 ≤ d.q2) : okC d := by
  unfold okC I64 at *
  omega
/-- Do rows fit? -/
def fitR (m : Nat) (c : CC) (l : List (List Int)) : Prop := (∀ r ∈ l, r.length = m) ∧ okC (addRs c l)
theorem crows_val {m : Nat} (hm : m ≤ 3) (l : List (List Int)) : ∀ c : CC, okC c → (fitR m c l → crows m c l = (addRs c l, 0)) ∧ (¬ fitR m c l → (crows m c l).2 ≠ 0) := by
  induction l with
  | nil =>
    intro c hc
    exact ⟨fun _ => rfl, fun h => absurd ⟨fun r hr => (by cases hr), hc⟩ h⟩
  | cons r l ih =>
    intro c hc
    have e : addRs c (r :: l) = addRs (addR c r) l := rfl
    by_cases hr : r.length = m
    · have hv := crow_val (c := c) hc (r := r) (by omega)
      by_cases hk : okC (addR c r)
      · rw [if_pos hk] at hv
        rw [crows_ok hr hv]
        have ih' := ih _ hk
        have hiff : fitR m c (r :: l) ↔ fitR m (addR c r) l := by
          unfold fitR
          rw [e]
          exact ⟨fun h => ⟨fun x hx => h.1 x (List.mem_cons_of_mem _ hx), h.2⟩, fun h => ⟨fun x hx => by rcases List.mem_cons.1 hx with rfl | hx; exact hr; exact h.1 x hx, h.2⟩⟩
        rw [hiff, e]
        exact ih'
      · rw [if_neg hk] at hv
        rw [crows_over hr hv]
        refine ⟨fun h => ?_, fun _ => by decide⟩
        have h1 := (addR_le c r).2.2
        have h2 := (addRs_le l (addR c r)).2.2
        exact absurd (okC_back hc h1 (e ▸ h.2) h2) hk
    · rw [crows_bad hr]
      exact ⟨fun h => absurd (h.1 r List.mem_cons_self) hr, fun _ => by decide⟩
theorem addR_comm (c : CC) (r s : List Int) : addR (addR c r) s = addR (addR c s) r := by
  unfold addR addV
  ext <;> simp only <;> first | rfl | omega
theorem addRs_perm {l l' : List (List Int)} (h : l.Perm l') (c : CC) : addRs c l = addRs c l' := h.foldl_eq' (fun x _ y _ z => addR_comm z x y) c
theorem addRs_app (c : CC) (l l' : List (List Int)) : addRs c (l ++ l') = addRs (addRs c l) l' := List.foldl_append ..
/-- May this catalog grow by these rows? -/
def goodG (c : CC) (l : List (List Int)) : Prop := c.fa + l.length ≤ 4000 ∧ fitR c.sc.ms.length c l
def finG (c : CC) (l : List (List Int)) : CC := ⟨c.sc, c.fa + l.length, (addRs c l).p0, (addRs c l).q0, (addRs c l).p1, (addRs c l).q1, (addRs c l).p2, (addRs c l).q2⟩
theorem catGrow_val {c : CC} (hE : catErr c = 0) (hc : okC c) (l : List (List Int)) : (goodG c l → catGrow c l = (finG c l, 0)) ∧ (¬ goodG c l → (catGrow c l).2 ≠ 0) := by
  have hm := (schErr_zero (catErr_zero hE).1).2.2.2.2.1
  obtain ⟨v1, v2⟩ := crows_val hm l c hc
  unfold catGrow
  rw [if_neg (by simp [hE])]
  by_cases h4 : 4000 < c.fa + l.length
  · rw [if_pos h4]
    exact ⟨fun h => absurd h.1 (by omega), fun _ => by decide⟩
  · rw [if_neg h4]
    refine ⟨fun h => ?_, fun h => ?_⟩
    · rw [v1 h.2]
      have hl := addRs_le l c
      unfold cfin finG
      rw [if_pos rfl]
      simp only [hl.1, hl.2.1]
    · have hn := v2 (fun hf => h ⟨by omega, hf⟩)
      unfold cfin
      rw [if_neg hn]
      exact hn
theorem goodG_perm {l l' : List (List Int)} (h : l.Perm l') (c : CC) : goodG c l ↔ goodG c l' := by
  unfold goodG fitR
  rw [addRs_perm h c, h.length_eq]
  exact ⟨fun ⟨a, b, d⟩ => ⟨a, fun r hr => b r (h.mem_iff.2 hr), d⟩, fun ⟨a, b, d⟩ => ⟨a, fun r hr => b r (h.mem_iff.1 hr), d⟩⟩
theorem finG_perm {l l' : List (List Int)} (h : l.Perm l') (c : CC) : finG c l = finG c l' := by
  unfold finG
  rw [addRs_perm h c, h.length_eq]
theorem catGrow_perm {c : CC} (hE : catErr c = 0) (hc : okC c) {l l' : List (List Int)} (h : l.Perm l') : ((catGrow c l).2 = 0 ↔ (catGrow c l').2 = 0) ∧ ((catGrow c l).2 = 0 → catGrow c l = catGrow c l') := by
  obtain ⟨a1, a2⟩ := catGrow_val hE hc l
  obtain ⟨b1, b2⟩ := catGrow_val hE hc l'
  by_cases hg : goodG c l
  · rw [a1 hg, b1 ((goodG_perm h c).1 hg), finG_perm h c]
    exact ⟨Iff.rfl, fun _ => rfl⟩
  · have n1 := a2 hg
    have n2 := b2 (fun h' => hg ((goodG_perm h c).2 h'))
    exact ⟨⟨fun h => absurd h n1, fun h => absurd h n2⟩, fun h => absurd h n1⟩
/-- A catalog that may be, grown, may be. -/
theorem badTot_false {m i p q : Int} (h : badTot m i p q = false) : 0 ≤ p ∧ q ≤ 0 ∧ (m ≤ i → p = 0 ∧ q = 0) := by
  unfold badTot at h
  simp at h
  refine ⟨h.1.1, h.1.2, fun hm => ?_⟩
  have := h.2 hm
  exact this
theorem badTot_of {m i p q : Int} (h0 : 0 ≤ p) (h1 : q ≤ 0) (h : m ≤ i → p = 0 ∧ q = 0) : badTot m i p q = false := by
  unfold badTot
  by_cases hm : m ≤ i
  · obtain ⟨rfl, rfl⟩ := h hm
    simp
  · simp [h0, h1, hm]
theorem catErr_parts {c : CC} : catErr c = 0 ↔ schErr c.sc = 0 ∧ 0 ≤ c.fa ∧ c.fa ≤ 4000 ∧ badTot c.sc.ms.length 0 c.p0 c.q0 = false ∧ badTot c.sc.ms.length 1 c.p1 c.q1 = false ∧ badTot c.sc.ms.length 2 c.p2 c.q2 = false := by
  constructor
  · intro h
    obtain ⟨a, b, d⟩ := catErr_zero h
    unfold catErr at h
    rw [if_neg (by simp [a]), if_neg (by omega)] at h
    cases h0 : badTot c.sc.ms.length 0 c.p0 c.q0 <;> rw [h0] at h
    · cases h1 : badTot c.sc.ms.length 1 c.p1 c.q1 <;> rw [h1] at h
      · cases h2 : badTot c.sc.ms.length 2 c.p2 c.q2 <;> rw [h2] at h
        · exact ⟨a, b, d, rfl, rfl, rfl⟩
        · simp at h
      · simp at h
    · simp at h
  · rintro ⟨a, b, d, h0, h1, h2⟩
    unfold catErr
    rw [if_neg (by simp [a]), if_neg (by omega), h0, h1, h2]
    rfl
theorem getD_out {r : List Int} {i : Nat} (h : r.length ≤ i) : r.getD i 0 = 0 := by simp [List.getD, List.getElem?_eq_none h]
theorem addRs_out (l : List (List Int)) {m : Nat} : ∀ c : CC, (∀ r ∈ l, r.length = m) → (m ≤ 0 → (addRs c l).p0 = c.p0 ∧ (addRs c l).q0 = c.q0) ∧ (m ≤ 1 → (addRs c l).p1 = c.p1 ∧ (addRs c l).q1 = c.q1) ∧ (m ≤ 2 → (addRs c l).p2 = c.p2 ∧ (addRs c l).q2 = c.q2) := by
  induction l with
  | nil => intro c _; exact ⟨fun _ => ⟨rfl, rfl⟩, fun _ => ⟨rfl, rfl⟩, fun _ => ⟨rfl, rfl⟩⟩
  | cons r l ih =>
    intro c h
    have hr := h r List.mem_cons_self
    obtain ⟨i0, i1, i2⟩ := ih (addR c r) (fun x hx => h x (List.mem_cons_of_mem _ hx))
    have e : addRs c (r :: l) = addRs (addR c r) l := rfl
    rw [e]
    refine ⟨fun hm => ?_, fun hm => ?_, fun hm => ?_⟩
    · rw [(i0 hm).1, (i0 hm).2]
      unfold addR addV
      rw [getD_out (r := r) (i := 0) (by omega)]
      exact ⟨add0 _, add0' _⟩
    · rw [(i1 hm).1, (i1 hm).2]
      unfold addR addV
      rw [getD_out (r := r) (i := 1) (by omega)]
      exact ⟨add0 _, add0' _⟩
    · rw [(i2 hm).1, (i2 hm).2]
      unfold addR addV
      rw [getD_out (r := r) (i := 2) (by omega)]
      exact ⟨add0 _, add0' _⟩
theorem finG_err {c : CC} (hE : catErr c = 0) {l : List (List Int)} (hg : goodG c l) : catErr (finG c l) = 0 := by
  obtain ⟨a, b, d, h0, h1, h2⟩ := catErr_parts.1 hE
  have hl := (addRs_le l c).2.2
  obtain ⟨o0, o1, o2⟩ := addRs_out l c hg.2.1
  have hf := hg.1
  refine catErr_parts.2 ⟨a, ?_, ?_, ?_, ?_, ?_⟩
  · show 0 ≤ c.fa + (l.length : Int); omega
  · show c.fa + (l.length : Int) ≤ 4000; omega
  · obtain ⟨x, y, z⟩ := badTot_false h0
    exact badTot_of (by show 0 ≤ (addRs c l).p0; omega) (by show (addRs c l).q0 ≤ 0; omega) (fun hm => by show (addRs c l).p0 = 0 ∧ (addRs c l).q0 = 0; have := o0 (by simp only [finG] at hm; omega); have := z hm; omega)
  · obtain ⟨x, y, z⟩ := badTot_false h1
    exact badTot_of (by show 0 ≤ (addRs c l).p1; omega) (by show (addRs c l).q1 ≤ 0; omega) (fun hm => by show (addRs c l).p1 = 0 ∧ (addRs c l).q1 = 0; have := o1 (by simp only [finG] at hm; omega); have := z hm; omega)
  · obtain ⟨x, y, z⟩ := badTot_false h2
    exact badTot_of (by show 0 ≤ (addRs c l).p2; omega) (by show (addRs c l).q2 ≤ 0; omega) (fun hm => by show (addRs c l).p2 = 0 ∧ (addRs c l).q2 = 0; have := o2 (by simp only [finG] at hm; omega); have := z hm; omega)
theorem addRs_con {c d : CC} (l : List (List Int)) (h : d.p0 = c.p0 ∧ d.q0 = c.q0 ∧ d.p1 = c.p1 ∧ d.q1 = c.q1 ∧ d.p2 = c.p2 ∧ d.q2 = c.q2) : (addRs d l).p0 = (addRs c l).p0 ∧ (addRs d l).q0 = (addRs c l).q0 ∧ (addRs d l).p1 = (addRs c l).p1 ∧ (addRs d l).q1 = (addRs c l).q1 ∧ (addRs d l).p2 = (addRs c l).p2 ∧ (addRs d l).q2 = (addRs c l).q2 := by
  induction l generalizing c d with
  | nil => exact h
  | cons r l ih =>
    refine ih (c := addR c r) (d := addR d r) ?_
    obtain ⟨a, b, e, f, g, k⟩ := h
    unfold addR addV
    simp only [a, b, e, f, g, k, and_self]
/-- In two groups, in whichever order: the same. -/
theorem catGrow_two {c : CC} (hE : catErr c = 0) (hc : okC c) (l1 l2 : List (List Int)) :
    ((catGrow c (l1 ++ l2)).2 = 0 ↔ (catGrow c l2).2 = 0 ∧ (catGrow (catGrow c l2).1 l1).2 = 0) ∧ ((catGrow c (l1 ++ l2)).2 = 0 → catGrow (catGrow c l2).1 l1 = catGrow c (l1 ++ l2)) := by
  have hp : (l1 ++ l2).Perm (l2 ++ l1) := List.perm_append_comm
  obtain ⟨p1, p2⟩ := catGrow_perm hE hc hp
  obtain ⟨a1, a2⟩ := catGrow_val hE hc (l2 ++ l1)
  obtain ⟨b1, b2⟩ := catGrow_val hE hc l2
  by_cases hg : goodG c l2
  · have hE2 := finG_err hE hg
    have hk2 : okC (finG c l2) := hg.2.2
    obtain ⟨d1, d2⟩ := catGrow_val hE2 hk2 l1
    have hcon : okC (addRs (finG c l2) l1) ↔ okC (addRs c (l2 ++ l1)) := by
      rw [addRs_app]
      obtain ⟨a, b, e, f, g, k⟩ := addRs_con (c := addRs c l2) (d := finG c l2) l1 ⟨rfl, rfl, rfl, rfl, rfl, rfl⟩
      unfold okC
      rw [a, b, e, f, g, k]
    have hiff : goodG (finG c l2) l1 ↔ goodG c (l2 ++ l1) := by
      have hf := hg.1
      constructor
      · rintro ⟨x, y, z⟩
        refine ⟨?_, fun r hr => ?_, hcon.1 z⟩
        · have : (finG c l2).fa = c.fa + l2.length := rfl
          rw [List.length_append]; omega
        · rcases List.mem_append.1 hr with h | h
          · exact hg.2.1 r h
          · exact y r h
      · rintro ⟨x, y, z⟩
        refine ⟨?_, fun r hr => y r (List.mem_append_right _ hr), hcon.2 z⟩
        have : (finG c l2).fa = c.fa + l2.length := rfl
        rw [List.length_append] at x; omega
    rw [b1 hg]
    by_cases hg2 : goodG c (l2 ++ l1)
    · have hfin : finG (finG c l2) l1 = finG c (l2 ++ l1) := by
        obtain ⟨a, b, e, f, g, k⟩ := addRs_con (c := addRs c l2) (d := finG c l2) l1 ⟨rfl, rfl, rfl, rfl, rfl, rfl⟩
        rw [← addRs_app] at a b e f g k
        have hfa : (finG c l2).fa + (l1.length : Int) = c.fa + ((l2 ++ l1).length : Int) := by
          have : (finG c l2).fa = c.fa + l2.length := rfl
          rw [List.length_append]; omega
        unfold finG at hfa a b e f g k ⊢
        rw [hfa, a, b, e, f, g, k]
      have e1 : (catGrow c (l1 ++ l2)).2 = 0 := p1.2 (by rw [a1 hg2])
      rw [p2 e1, a1 hg2, d1 (hiff.2 hg2), hfin]
      exact ⟨⟨fun _ => ⟨rfl, rfl⟩, fun _ => rfl⟩, fun _ => rfl⟩
    · have n1 : ¬ (catGrow c (l1 ++ l2)).2 = 0 := fun h => a2 hg2 (p1.1 h)
      have n2 := d2 (fun h => hg2 (hiff.1 h))
      exact ⟨⟨fun h => absurd h n1, fun h => absurd h.2 n2⟩, fun h => absurd h n1⟩
  · have hng : ¬ goodG c (l2 ++ l1) := by
      rintro ⟨x, y, z⟩
      refine hg ⟨by rw [List.length_append] at x; omega, fun r hr => y r (List.mem_append_left _ hr), ?_⟩
      rw [addRs_app] at z
      exact okC_back hc (addRs_le l2 c).2.2 z (addRs_le l1 _).2.2
    have n1 : ¬ (catGrow c (l1 ++ l2)).2 = 0 := fun h => a2 hng (p1.1 h)
    have n2 := b2 hg
    exact ⟨⟨fun h => absurd h n1, fun h => absurd h.1 n2⟩, fun h => absurd h n1⟩

end Go.Proofs.Ytigjghfonpfdlaa
