/- Walks of agg.Join (whole) and agg.All. -/
import Derived.Test.YtllgcehgdpgnnaaAggW
namespace Go.Proofs.Ytllgcehgdpgnnaa
open Go.RowKit
set_option linter.unusedVariables false

set_option maxRecDepth 100000 in
set_option maxHeartbeats 1000000 in
theorem join_left (a b : Ag) (w : World) (h1 : a.c = 0) :
    Calls Try.prog 124 #[.agg a.cs, .agg b.cs] w fun e w' => e = .returned (.tuple #[.agg b.cs, .bool true]) ∧ Bel w w' := by
  have q1 : (a.c == 0) = true := by simp [h1]
  clear h1
  unfold Ag.cs
  go_enter Try.func124, Try.ntmps124
  go_wp2
  refine bodyPost_ret (v := .tuple #[.agg b.cs, .bool true]) (by simp [results, Try.results124, go_sem, Ag.cs]) rfl ⟨rfl, ?_⟩
  exact (((Bel.refl _).alloc _).alloc _).alloc _

set_option maxRecDepth 100000 in
set_option maxHeartbeats 1000000 in
theorem join_right (a b : Ag) (w : World) (h1 : ¬ a.c = 0) (h2 : b.c = 0) :
    Calls Try.prog 124 #[.agg a.cs, .agg b.cs] w fun e w' => e = .returned (.tuple #[.agg a.cs, .bool true]) ∧ Bel w w' := by
  have q1 : (a.c == 0) = false := by simp [h1]
  have q2 : (b.c == 0) = true := by simp [h2]
  clear h1 h2
  unfold Ag.cs
  go_enter Try.func124, Try.ntmps124
  go_wp2
  refine bodyPost_ret (v := .tuple #[.agg a.cs, .bool true]) (by simp [results, Try.results124, go_sem, Ag.cs]) rfl ⟨rfl, ?_⟩
  exact (((Bel.refl _).alloc _).alloc _).alloc _

set_option maxRecDepth 100000 in
set_option maxHeartbeats 1000000 in
theorem join_over (a b : Ag) (w : World) (ha : a.ok) (hb : b.ok) (h1 : ¬ a.c = 0) (h2 : ¬ b.c = 0) (h3 : (xadd a.c b.c).2 = false) :
    Calls Try.prog 124 #[.agg a.cs, .agg b.cs] w fun e w' => e = .returned (.tuple #[.agg Ag.zero.cs, .bool false]) ∧ Bel w w' := by
  have q1 : (a.c == 0) = false := by simp [h1]
  have q2 : (b.c == 0) = false := by simp [h2]
  have Ha := Lib.hid ha
  have Hb := Lib.hid hb
  clear h1 h2 ha hb
  unfold Ag.cs
  go_enter Try.func124, Try.ntmps124
  go_wp2_with fail
  refine (add_any _ _ _ Ha.out.c Hb.out.c).mono ?_; rintro e w1 ⟨rfl, rfl⟩
  go_wp2
  refine bodyPost_ret (v := .tuple #[.agg Ag.zero.cs, .bool false]) (by simp [results, Try.results124, go_sem, Ag.cs, Ag.zero, Prt.zero]) rfl ⟨rfl, ?_⟩
  exact ((((Bel.refl _).alloc _).alloc _).alloc _).alloc _

theorem join_any (a b : Ag) (w : World) (ha : a.ok) (hb : b.ok) :
    Calls Try.prog 124 #[.agg a.cs, .agg b.cs] w fun e w' => e = .returned (.tuple #[.agg (a.join b).1.cs, .bool (a.join b).2]) ∧ Bel w w' := by
  by_cases h1 : a.c = 0
  · refine (join_left a b w h1).mono fun _ _ h => ⟨?_, h.2⟩
    rw [Ag.join, if_pos h1]; exact h.1
  · by_cases h2 : b.c = 0
    · refine (join_right a b w h1 h2).mono fun _ _ h => ⟨?_, h.2⟩
      rw [Ag.join, if_neg h1, if_pos h2]; exact h.1
    · by_cases h3 : (xadd a.c b.c).2 = true
      · exact join_long a b w ha hb h1 h2 h3
      · refine (join_over a b w ha hb h1 h2 (by simpa using h3)).mono fun _ _ h => ⟨?_, h.2⟩
        rw [Ag.join, if_neg h1, if_neg h2, if_neg (fun k => h3 k.1)]; exact h.1

theorem xfit_ok (x : Int) : I64 (xfit x).1 := by
  unfold xfit
  split
  · assumption
  · unfold I64; simp
theorem xadd_ok (a b : Int) : I64 (xadd a b).1 := xfit_ok _
theorem prt_join_ok {x y : Prt} (hx : x.ok) (hy : y.ok) : (x.join y).ok :=
  ⟨xadd_ok _ _, by have := hx.mn; have := hy.mn; unfold I64 at *; simp only [Prt.join]; omega, by have := hx.mx; have := hy.mx; unfold I64 at *; simp only [Prt.join]; omega⟩
theorem prt_zero_ok : Prt.zero.ok := ⟨by unfold I64 Prt.zero; simp, by unfold I64 Prt.zero; simp, by unfold I64 Prt.zero; simp⟩
theorem zero_ok : Ag.zero.ok := ⟨by unfold I64 Ag.zero; simp, prt_zero_ok, prt_zero_ok, prt_zero_ok⟩
theorem join_ok {a b : Ag} (ha : a.ok) (hb : b.ok) : (a.join b).1.ok := by
  unfold Ag.join
  split
  · exact hb
  · split
    · exact ha
    · split
      · exact ⟨xadd_ok _ _, prt_join_ok ha.p hb.p, prt_join_ok ha.q hb.q, prt_join_ok ha.r hb.r⟩
      · exact zero_ok

/-- The cells of many aggregates. -/
def agsCells (l : List Ag) : List Value := l.flatMap fun a => a.cs.toList
theorem agsCells_length (l : List Ag) : (agsCells l).length = l.length * 10 := by
  induction l with
  | nil => rfl
  | cons a l ih => simp only [agsCells, List.flatMap_cons, List.length_append, List.length_cons] at ih ⊢; rw [ih]; simp [Ag.cs]; omega
theorem agsCells_at (l : List Ag) (k j : Nat) (a : Ag) (h : l[k]? = some a) (hj : j < 10) : (agsCells l)[k * 10 + j]? = a.cs[j]? := by
  induction l generalizing k with
  | nil => simp at h
  | cons b l ih =>
    have hb : b.cs.toList.length = 10 := by simp [Ag.cs]
    cases k with
    | zero =>
      simp at h
      subst h
      simp only [agsCells, List.flatMap_cons]
      rw [List.getElem?_append_left (by omega)]
      simp
    | succ k =>
      simp at h
      have := ih k h
      simp only [agsCells, List.flatMap_cons] at this ⊢
      rw [List.getElem?_append_right (by omega), hb, ← this]
      congr 1
      omega

theorem spot_none {w : World} {ad : Addr} {u : Value} (h : w.cell? (ad.add 0) = some u) : ad = ⟨ad.block, ad.off, none⟩ := by
  obtain ⟨b, o, sp⟩ := ad
  have h1 := World.cell?_spot h
  simp [Addr.add] at h1
  subst h1
  rfl

theorem Rd.ag {w : World} {A : Option Addr} {n k : Nat} {l : List Ag} (h : Rd w 10 A n (agsCells l)) (hk : k < n) :
    ∃ b o a, A = some ⟨b, o, none⟩ ∧ l[k]? = some a ∧ ∀ j, j < 10 → w.cell? ⟨b, o + k * 10 + j, none⟩ = a.cs[j]? := by
  obtain ⟨ad, e, _, hc⟩ := h.2 (by omega)
  have hl : l.length = n := by have := h.1; rw [agsCells_length] at this; omega
  have key : ∀ j, j < 10 → w.cell? (ad.add (k * 10 + j)) = l[k].cs[j]? := by
    intro j hj
    have h1 := agsCells_at l k j l[k] (List.getElem?_eq_getElem (by omega)) hj
    have h2 : (l[k].cs)[j]? = some ((l[k].cs)[j]'(by simp [Ag.cs]; omega)) := Array.getElem?_eq_getElem _
    rw [h2] at h1 ⊢
    exact hc _ _ h1
  have h0 : w.cell? (ad.add 0) = some (.int .i64 l[0].c) := by
    have h1 := agsCells_at l 0 0 l[0] (List.getElem?_eq_getElem (by omega)) (by omega)
    exact hc 0 _ h1
  have hs := spot_none h0
  refine ⟨ad.block, ad.off, l[k], by rw [e, ← hs], List.getElem?_eq_getElem (by omega), fun j hj => ?_⟩
  have h3 := key j hj
  rw [hs, Addr.add_mid, ← Nat.add_assoc] at h3
  exact h3

/-- The world behind a store of a whole aggregate at a block's head. -/
def agSet (w : World) (g : Nat) (m : Ag) : World := ((((((((((w.setCell ⟨g, 0, none⟩ (.int .i64 m.c)).setCell ⟨g, 1, none⟩ (.int .i64 m.p.s)).setCell ⟨g, 2, none⟩ (.int .i64 m.p.mn)).setCell ⟨g, 3, none⟩ (.int .i64 m.p.mx)).setCell ⟨g, 4, none⟩ (.int .i64 m.q.s)).setCell ⟨g, 5, none⟩ (.int .i64 m.q.mn)).setCell ⟨g, 6, none⟩ (.int .i64 m.q.mx)).setCell ⟨g, 7, none⟩ (.int .i64 m.r.s)).setCell ⟨g, 8, none⟩ (.int .i64 m.r.mn)).setCell ⟨g, 9, none⟩ (.int .i64 m.r.mx))
theorem set_all (cs : Array Value) (hs : cs.size = 10) (m : Ag) : ((((((((((cs.setIfInBounds 0 (.int .i64 m.c)).setIfInBounds 1 (.int .i64 m.p.s)).setIfInBounds 2 (.int .i64 m.p.mn)).setIfInBounds 3 (.int .i64 m.p.mx)).setIfInBounds 4 (.int .i64 m.q.s)).setIfInBounds 5 (.int .i64 m.q.mn)).setIfInBounds 6 (.int .i64 m.q.mx)).setIfInBounds 7 (.int .i64 m.r.s)).setIfInBounds 8 (.int .i64 m.r.mn)).setIfInBounds 9 (.int .i64 m.r.mx)) = m.cs := by
  obtain ⟨l⟩ := cs
  match l, hs with
  | [x0, x1, x2, x3, x4, x5, x6, x7, x8, x9], _ => simp [Ag.cs]
theorem Blk.agSet {w : World} {g : Nat} {t : TypeId} {cs : Array Value} (h : Blk w g t cs) (hs : cs.size = 10) (m : Ag) : Blk (agSet w g m) g t m.cs := by
  have h2 := ((((((((((h.set_ 0 (.int .i64 m.c)).set_ 1 (.int .i64 m.p.s)).set_ 2 (.int .i64 m.p.mn)).set_ 3 (.int .i64 m.p.mx)).set_ 4 (.int .i64 m.q.s)).set_ 5 (.int .i64 m.q.mn)).set_ 6 (.int .i64 m.q.mx)).set_ 7 (.int .i64 m.r.s)).set_ 8 (.int .i64 m.r.mn)).set_ 9 (.int .i64 m.r.mx))
  rw [set_all cs hs m] at h2
  exact h2
theorem Blk.agFar {w : World} {g g' : Nat} {t : TypeId} {cs : Array Value} (h : Blk w g' t cs) (hne : g' ≠ g) (m : Ag) : Blk (Proofs.Ytllgcehgdpgnnaa.agSet w g m) g' t cs := by
  unfold Proofs.Ytllgcehgdpgnnaa.agSet
  iterate 10 (refine Blk.far ?_ hne _)
  exact h
theorem Bel.agSet {a w : World} {g : Nat} (h : Bel a w) (hg : a.heap.size ≤ g) (m : Ag) : Bel a (Proofs.Ytllgcehgdpgnnaa.agSet w g m) := by
  unfold Proofs.Ytllgcehgdpgnnaa.agSet
  iterate 10 (refine Bel.setCell ?_ hg _)
  exact h
theorem ag_size (m : Ag) : m.cs.size = 10 := rfl

/-- Many together: a sum on the way does not fit: false. -/
def Ag.all : Ag → List Ag → Ag × Bool
  | a, [] => (a, true)
  | a, b :: l => if (a.join b).2 = true then Ag.all (a.join b).1 l else (.zero, false)

theorem all_snoc (z : Ag) (l : List Ag) (b : Ag) : Ag.all z (l ++ [b]) = if (Ag.all z l).2 = true then (if ((Ag.all z l).1.join b).2 = true then ((Ag.all z l).1.join b) else (.zero, false)) else (.zero, false) := by
  induction l generalizing z with
  | nil =>
    simp only [List.nil_append, Ag.all]
    by_cases h : (z.join b).2 = true
    · simp [h]; rw [← h]
    · simp [h]
  | cons a l ih =>
    simp only [List.cons_append, Ag.all]
    by_cases h : (z.join a).2 = true
    · simp only [if_pos h]; exact ih _
    · simp [h]

theorem all_false {z : Ag} {l m : List Ag} (h : (Ag.all z l).2 = false) : Ag.all z (l ++ m) = (.zero, false) := by
  induction l generalizing z with
  | nil => simp [Ag.all] at h
  | cons a l ih =>
    simp only [List.cons_append, Ag.all] at h ⊢
    by_cases h' : (z.join a).2 = true
    · simp only [if_pos h'] at h ⊢; exact ih h
    · simp [h']

end Go.Proofs.Ytllgcehgdpgnnaa
