/- Walks of agg.Join (whole) and agg.All. -/
import Derived.Test.YtbociponcacmpaaAggW
namespace Go.Proofs.Ytbociponcacmpaa
open Go.RowKit
set_option linter.unusedVariables false

set_option maxRecDepth 100000 in
set_option maxHeartbeats 1000000 in
theorem join_left (a b : Ag) (w : World) (h1 : a.c = 0) :
    Calls Try.prog 26 #[.agg a.cs, .agg b.cs] w fun e w' => e = .returned (.tuple #[.agg b.cs, .bool true]) ∧ Bel w w' := by
  have q1 : (a.c == 0) = true := by simp [h1]
  clear h1
  unfold Ag.cs
  go_enter Try.func26, Try.ntmps26
  go_wp2
  refine bodyPost_ret (v := .tuple #[.agg b.cs, .bool true]) (by simp [results, Try.results26, go_sem, Ag.cs]) rfl ⟨rfl, ?_⟩
  exact (((Bel.refl _).alloc _).alloc _).alloc _

set_option maxRecDepth 100000 in
set_option maxHeartbeats 1000000 in
theorem join_right (a b : Ag) (w : World) (h1 : ¬ a.c = 0) (h2 : b.c = 0) :
    Calls Try.prog 26 #[.agg a.cs, .agg b.cs] w fun e w' => e = .returned (.tuple #[.agg a.cs, .bool true]) ∧ Bel w w' := by
  have q1 : (a.c == 0) = false := by simp [h1]
  have q2 : (b.c == 0) = true := by simp [h2]
  clear h1 h2
  unfold Ag.cs
  go_enter Try.func26, Try.ntmps26
  go_wp2
  refine bodyPost_ret (v := .tuple #[.agg a.cs, .bool true]) (by simp [results, Try.results26, go_sem, Ag.cs]) rfl ⟨rfl, ?_⟩
  exact (((Bel.refl _).alloc _).alloc _).alloc _

set_option maxRecDepth 100000 in
set_option maxHeartbeats 1000000 in
theorem join_over (a b : Ag) (w : World) (ha : a.ok) (hb : b.ok) (h1 : ¬ a.c = 0) (h2 : ¬ b.c = 0) (h3 : (xadd a.c b.c).2 = false) :
    Calls Try.prog 26 #[.agg a.cs, .agg b.cs] w fun e w' => e = .returned (.tuple #[.agg Ag.zero.cs, .bool false]) ∧ Bel w w' := by
  have q1 : (a.c == 0) = false := by simp [h1]
  have q2 : (b.c == 0) = false := by simp [h2]
  have Ha := Lib.hid ha
  have Hb := Lib.hid hb
  clear h1 h2 ha hb
  unfold Ag.cs
  go_enter Try.func26, Try.ntmps26
  go_wp2_with fail
  refine (add_any _ _ _ Ha.out.c Hb.out.c).mono ?_; rintro e w1 ⟨rfl, rfl⟩
  go_wp2
  refine bodyPost_ret (v := .tuple #[.agg Ag.zero.cs, .bool false]) (by simp [results, Try.results26, go_sem, Ag.cs, Ag.zero, Prt.zero]) rfl ⟨rfl, ?_⟩
  exact ((((Bel.refl _).alloc _).alloc _).alloc _).alloc _

theorem join_any (a b : Ag) (w : World) (ha : a.ok) (hb : b.ok) :
    Calls Try.prog 26 #[.agg a.cs, .agg b.cs] w fun e w' => e = .returned (.tuple #[.agg (a.join b).1.cs, .bool (a.join b).2]) ∧ Bel w w' := by
  by_cases h1 : a.c = 0
  · refine (join_left a b w h1).mono fun _ _ h => ⟨?_, h.2⟩
    rw [Ag.join, if_pos h1]; exact h.1
  · by_cases h2 : b.c = 0
    · refine (join_right a b w h1 h2).mono fun _ _ h => ⟨?_, h.2⟩
      rw [Ag.join, if_neg h1, if_pos h2]; exact h.1
    · by_cases h3 : (xadd a.c b.c).2 = true
      · exact join_long a b w ha hb h1 h2 h3
      · refine (join_over a b w ha hb h1 h2 (by simpa using h3)).mono fun _ _ h => ⟨?_, h.2⟩
        rw [Ag.join, if_neg h1, if_neg h2, if_neg (fun k => h3 k.1)]; exact h.1

theorem xfit_ok (x : Int) : I64 (xfit x).1 := by
  unfold xfit
  split
  · assumption
  · unfold I64; simp
theorem xadd_ok (a b : Int) : I64 (xadd a b).1 := xfit_ok _
theorem prt_join_ok {x y : Prt} (hx : x.ok) (hy : y.ok) : (x.join y).ok :=
  ⟨xadd_ok _ _, by have := hx.mn; have := hy.mn; unfold I64 at *; simp only [Prt.join]; omega, by have := hx.mx; have := hy.mx; unfold I64 at *; simp only [Prt.join]; omega⟩
theorem prt_zero_ok : Prt.zero.ok := ⟨by unfold I64 Prt.zero; simp, by unfold I64 Prt.zero; simp, by unfold I64 Prt.zero; simp⟩
theorem zero_ok : Ag.zero.ok := ⟨by unfold I64 Ag.zero; simp, prt_zero_ok, prt_zero_ok, prt_zero_ok⟩
theorem join_ok {a b : Ag} (ha : a.ok) (hb : b.ok) : (a.join b).1.ok := by
  unfold Ag.join
  split
  · exact hb
  · split
    · exact ha
    · split
      · exact ⟨xadd_ok _ _, prt_join_ok ha.p hb.p, prt_join_ok ha.q hb.q, prt_join_ok ha.r hb.r⟩
      · exact zero_ok

/-- The cells of many aggregates. -/
def agsCells (l : List Ag) : List Value := l.flatMap fun a => a.cs.toList
theorem agsCells_length (l : List Ag) : (agsCells l).length = l.length * 10 := by
  induction l with
  | nil => rfl
  | cons a l ih => simp only [agsCells, List.flatMap_cons, List.length_append, List.length_cons] at ih ⊢; rw [ih]; simp [Ag.cs]; omega
theorem agsCells_at (l : List Ag) (k j : Nat) (a : Ag) (h : l[k]? = some a) (hj : j < 10) : (agsCells l)[k * 10 + j]? = a.cs[j]? := by
  induction l generalizing k with
  | nil => simp at h
  | cons b l ih =>
    have hb : b.cs.toList.length = 10 := by simp [Ag.cs]
    cases k with
    | zero =>
      simp at h
      subst h
      simp only [agsCells, List.flatMap_cons]
      rw [List.getElem?_append_left (by omega)]
      simp
    | succ k =>
      simp at h
      have := ih k h
      simp only [agsCells, List.flatMap_cons] at this ⊢
      rw [List.getElem?_append_right (by omega), hb, ← this]
      congr 1
      omega

theorem spot_none {w : World} {ad : Addr} {u : Value} (h : w.cell? (ad.add 0) = some u) : ad = ⟨ad.block, ad.off, none⟩ := by
  obtain ⟨b, o, sp⟩ := ad
  have h1 := World.cell?_spot h
  simp [Addr.add] at h1
  subst h1
  rfl

theorem Rd.ag {w : World} {A : Option Addr} {n k : Nat} {l : List Ag} (h : Rd w 10 A n (agsCells l)) (hk : k < n) :
    ∃ b o a, A = some ⟨b, o, none⟩ ∧ l[k]? = some a ∧ ∀ j, j < 10 → w.cell? ⟨b, o + k * 10 + j, none⟩ = a.cs[j]? := by
  obtain ⟨ad, e, _, hc⟩ := h.2 (by omega)
  have hl : l.length = n := by have := h.1; rw [agsCells_length] at this; omega
  have key : ∀ j, j < 10 → w.cell? (ad.add (k * 10 + j)) = l[k].cs[j]? := by
    intro j hj
    have h1 := agsCells_at l k j l[k] (List.getElem?_eq_getElem (by omega)) hj
    have h2 : (l[k].cs)[j]? = some ((l[k].cs)[j]'(by simp [Ag.cs]; omega)) := Array.getElem?_eq_getElem _
    rw [h2] at h1 ⊢
    exact hc _ _ h1
  have h0 : w.cell? (ad.add 0) = some (.int .i64 l[0].c) := by
    have h1 := agsCells_at l 0 0 l[0] (List.getElem?_eq_getElem (by omega)) (by omega)
    exact hc 0 _ h1
  have hs := spot_none h0
  refine ⟨ad.block, ad.off, l[k], by rw [e, ← hs], List.getElem?_eq_getElem (by omega), fun j hj => ?_⟩
  have h3 := key j hj
  rw [hs, Addr.add_mid, ← Nat.add_assoc] at h3
  exact h3

/-- The world behind a store of a whole aggregate at a block's head. -/
def agSet (w : World) (g : Nat) (m : Ag) : World := ((((((((((w.setCell ⟨g, 0, none⟩ (.int .i64 m.c)).setCell ⟨g, 1, none⟩ (.int .i64 m.p.s)).setCell ⟨g, 2, none⟩ (.int .i64 m.p.mn)).setCell ⟨g, 3, none⟩ (.int .i64 m.p.mx)).setCell ⟨g, 4, none⟩ (.int .i64 m.q.s)).setCell ⟨g, 5, none⟩ (.int .i64 m.q.mn)).setCell ⟨g, 6, none⟩ (.int .i64 m.q.mx)).setCell ⟨g, 7, none⟩ (.int .i64 m.r.s)).setCell ⟨g, 8, none⟩ (.int .i64 m.r.mn)).setCell ⟨g, 9, none⟩ (.int .i64 m.r.mx))
theorem set_all (cs : Array Value) (hs : cs.size = 10) (m : Ag) : ((((((((((cs.setIfInBounds 0 (.int .i64 m.c)).setIfInBounds 1 (.int .i64 m.p.s)).setIfInBounds 2 (.int .i64 m.p.mn)).setIfInBounds 3 (.int .i64 m.p.mx)).setIfInBounds 4 (.int .i64 m.q.s)).setIfInBounds 5 (.int .i64 m.q.mn)).setIfInBounds 6 (.int .i64 m.q.mx)).setIfInBounds 7 (.int .i64 m.r.s)).setIfInBounds 8 (.int .i64 m.r.mn)).setIfInBounds 9 (.int .i64 m.r.mx)) = m.cs := by
  obtain ⟨l⟩ := cs
  match l, hs with
  | [x0, x1, x2, x3, x4, x5, x6, x7, x8, x9], _ => simp [Ag.cs]
theorem Blk.agSet {w : World} {g : Nat} {t : TypeId} {cs : Array Value} (h : Blk w g t cs) (hs : cs.size = 10) (m : Ag) : Blk (agSet w g m) g t m.cs := by
  have h2 := ((((((((((h.set_ 0 (.int .i64 m.c)).set_ 1 (.int .i64 m.p.s)).set_ 2 (.int .i64 m.p.mn)).set_ 3 (.int .i64 m.p.mx)).set_ 4 (.int .i64 m.q.s)).set_ 5 (.int .i64 m.q.mn)).set_ 6 (.int .i64 m.q.mx)).set_ 7 (.int .i64 m.r.s)).set_ 8 (.int .i64 m.r.mn)).set_ 9 (.int .i64 m.r.mx))
  rw [set_all cs hs m] at h2
  exact h2
theorem Blk.agFar {w : World} {g g' : Nat} {t : TypeId} {cs : Array Value} (h : Blk w g' t cs) (hne : g' ≠ g) (m : Ag) : Blk (Proofs.Ytbociponcacmpaa.agSet w g m) g' t cs := by
  unfold Proofs.Ytbociponcacmpaa.agSet
  iterate 10 (refine Blk.far ?_ hne _)
  exact h
theorem Bel.agSet {a w : World} {g : Nat} (h : Bel a w) (hg : a.heap.size ≤ g) (m : Ag) : Bel a (Proofs.Ytbociponcacmpaa.agSet w g m) := by
  unfold Proofs.Ytbociponcacmpaa.agSet
  iterate 10 (refine Bel.setCell ?_ hg _)
  exact h
theorem ag_size (m : Ag) : m.cs.size = 10 := rfl

/-- Many together: a sum on the way does not fit: false. -/
def Ag.all : Ag → List Ag → Ag × Bool
  | a, [] => (a, true)
  | a, b :: l => if (a.join b).2 = true then Ag.all (a.join b).1 l else (.zero, false)

theorem all_snoc (z : Ag) (l : List Ag) (b : Ag) : Ag.all z (l ++ [b]) = if (Ag.all z l).2 = true then (if ((Ag.all z l).1.join b).2 = true then ((Ag.all z l).1.join b) else (.zero, false)) else (.zero, false) := by
  induction l generalizing z with
  | nil =>
    simp only [List.nil_append, Ag.all]
    by_cases h : (z.join b).2 = true
    · simp [h]; rw [← h]
    · simp [h]
  | cons a l ih =>
    simp only [List.cons_append, Ag.all]
    by_cases h : (z.join a).2 = true
    · simp only [if_pos h]; exact ih _
    · simp [h]

theorem all_false {z : Ag} {l m : List Ag} (h : (Ag.all z l).2 = false) : Ag.all z (l ++ m) = (.zero, false) := by
  induction l generalizing z with
  | nil => simp [Ag.all] at h
  | cons a l ih =>
    simp only [List.cons_append, Ag.all] at h ⊢
    by_cases h' : (z.join a).2 = true
    · simp only [if_pos h'] at h ⊢; exact ih h
    · simp [h']

set_option maxRecDepth 100000 in
set_option maxHeartbeats 1000000 in
theorem all_any (A : Option Addr) (n c : Nat) (l : List Ag) (w : World) (hr : Rd w 10 A n (agsCells l)) (hl : ∀ a ∈ l, a.ok) (hn : n ≤ 1000000) :
    Calls Try.prog 28 #[.slice A n c] w fun e w' => e = .returned (.tuple #[.agg (Ag.all .zero l).1.cs, .bool (Ag.all .zero l).2]) ∧ Bel w w' := by
  have hlen : Hid (l.length = n) := by have := hr.1; rw [agsCells_length] at this; show _ = _; omega
  have Hl := Lib.hid hl
  clear hl
  go_enter Try.func28, Try.ntmps28
  go_wp2
  have BB : Bel w ((w.alloc (.cells Ag.zero.cs 35)).alloc (.cells Ag.zero.cs 35)) := ((Bel.refl w).alloc _).alloc _
  have B0 : Blk ((w.alloc (.cells Ag.zero.cs 35)).alloc (.cells Ag.zero.cs 35)) w.heap.size 35 Ag.zero.cs := (Blk.new w _ _).alloc _
  have B1 : Blk ((w.alloc (.cells Ag.zero.cs 35)).alloc (.cells Ag.zero.cs 35)) (w.heap.size + 1) 35 Ag.zero.cs := by
    have := Blk.new (w.alloc (.cells Ag.zero.cs 35)) 35 Ag.zero.cs
    simpa using this
  go_loopg [5, 11] n (fun g s5 i wr => ∃ (k : Nat) (m : Ag), g = n - k ∧ k ≤ n ∧ i = .int .i64 k ∧ s5 = .bool true ∧ Bel w wr ∧ Blk wr w.heap.size 35 Ag.zero.cs ∧ Blk wr (w.heap.size + 1) 35 m.cs ∧ m.ok ∧ Hid (Ag.all .zero (l.take k) = (m, true)))
  case atStart => exact ⟨0, .zero, rfl, by omega, rfl, rfl, BB, B0, B1, zero_ok, rfl⟩
  case round =>
    clear B0 B1 BB
    obtain ⟨k, m, hgk, hk, rfl, rfl, hB, b0, b1, hm, hF⟩ := hrel
    have Hgk := Lib.hid hgk
    have Hm := Lib.hid hm
    clear hgk hm
    by_cases hlt : k < n
    · obtain ⟨bb, oo, a, rfl, hka, hc⟩ := (hr.bel hB).ag hlt
      have Hka := Lib.hid hka
      have Hao := Lib.hid (Hl.out a (List.mem_of_getElem? hka))
      clear hka
      have c0 := hc 0 (by omega)
      have c1 := hc 1 (by omega)
      have c2 := hc 2 (by omega)
      have c3 := hc 3 (by omega)
      have c4 := hc 4 (by omega)
      have c5 := hc 5 (by omega)
      have c6 := hc 6 (by omega)
      have c7 := hc 7 (by omega)
      have c8 := hc 8 (by omega)
      have c9 := hc 9 (by omega)
      have d0 := b1.cell 0
      have d1 := b1.cell 1
      have d2 := b1.cell 2
      have d3 := b1.cell 3
      have d4 := b1.cell 4
      have d5 := b1.cell 5
      have d6 := b1.cell 6
      have d7 := b1.cell 7
      have d8 := b1.cell 8
      have d9 := b1.cell 9
      simp only [Ag.cs, Nat.add_zero] at c0 c1 c2 c3 c4 c5 c6 c7 c8 c9 d0 d1 d2 d3 d4 d5 d6 d7 d8 d9
      simp at c0 c1 c2 c3 c4 c5 c6 c7 c8 c9 d0 d1 d2 d3 d4 d5 d6 d7 d8 d9
      have hsz : w.heap.size + 1 < wr.heap.size := b1.lt
      clear hc
      go_wp2_with fail
      refine (join_any m a _ Hm.out Hao.out).mono ?_
      rintro e w1 ⟨rfl, hb1⟩
      obtain ⟨⟨m', ok⟩, Hj⟩ : ∃ x, Hid (m.join a = x) := ⟨_, rfl⟩
      have Hok' : Hid (m'.ok) := by have := join_ok Hm.out Hao.out; rw [Hj.out] at this; exact this
      rw [Hj.out]
      have b0' := (b0.alloc (.cells a.cs 35)).bel hb1
      have b1' := (b1.alloc (.cells a.cs 35)).bel hb1
      have hB' := (hB.alloc (.cells a.cs 35)).trans hb1
      have HF : Hid (Ag.all .zero (l.take (k + 1)) = if ok = true then (m', true) else (.zero, false)) := by
        show _ = _
        rw [List.take_add_one, Hka.out]
        simp only [Option.toList_some]
        rw [all_snoc, hF.out]
        simp only [if_pos]
        rw [Hj.out]
        cases ok <;> simp
      clear c0 c1 c2 c3 c4 c5 c6 c7 c8 c9 d0 d1 d2 d3 d4 d5 d6 d7 d8 d9 b0 b1 hB hb1 hF Hm Hao
      have d0 := b1'.cell 0
      have d1 := b1'.cell 1
      have d2 := b1'.cell 2
      have d3 := b1'.cell 3
      have d4 := b1'.cell 4
      have d5 := b1'.cell 5
      have d6 := b1'.cell 6
      have d7 := b1'.cell 7
      have d8 := b1'.cell 8
      have d9 := b1'.cell 9
      have z0 := b1'.frozen 0
      have z1 := b1'.frozen 1
      have z2 := b1'.frozen 2
      have z3 := b1'.frozen 3
      have z4 := b1'.frozen 4
      have z5 := b1'.frozen 5
      have z6 := b1'.frozen 6
      have z7 := b1'.frozen 7
      have z8 := b1'.frozen 8
      have z9 := b1'.frozen 9
      simp only [Ag.cs] at d0 d1 d2 d3 d4 d5 d6 d7 d8 d9
      simp at d0 d1 d2 d3 d4 d5 d6 d7 d8 d9
      rw [show m'.cs = #[.int .i64 m'.c, .int .i64 m'.p.s, .int .i64 m'.p.mn, .int .i64 m'.p.mx, .int .i64 m'.q.s, .int .i64 m'.q.mn, .int .i64 m'.q.mx, .int .i64 m'.r.s, .int .i64 m'.r.mn, .int .i64 m'.r.mx] from rfl]
      cases ok
      · have HE : Hid (Ag.all .zero l = (.zero, false)) := by
          show _ = _
          rw [← List.take_append_drop (k + 1) l]
          exact all_false (by rw [HF.out]; rfl)
        have x0 := b0'.cell 0
        have x1 := b0'.cell 1
        have x2 := b0'.cell 2
        have x3 := b0'.cell 3
        have x4 := b0'.cell 4
        have x5 := b0'.cell 5
        have x6 := b0'.cell 6
        have x7 := b0'.cell 7
        have x8 := b0'.cell 8
        have x9 := b0'.cell 9
        have y0 := b0'.frozen 0
        have y1 := b0'.frozen 1
        have y2 := b0'.frozen 2
        have y3 := b0'.frozen 3
        have y4 := b0'.frozen 4
        have y5 := b0'.frozen 5
        have y6 := b0'.frozen 6
        have y7 := b0'.frozen 7
        have y8 := b0'.frozen 8
        have y9 := b0'.frozen 9
        simp only [Ag.zero, Prt.zero, Ag.cs] at x0 x1 x2 x3 x4 x5 x6 x7 x8 x9
        simp at x0 x1 x2 x3 x4 x5 x6 x7 x8 x9
        have hne := b0'.lt
        go_wp2
        refine bodyPost_ret (v := .tuple #[.agg Ag.zero.cs, .bool false]) (by simp [results, Try.results28, go_sem, Ag.zero, Prt.zero, Ag.cs, x0, x1, x2, x3, x4, x5, x6, x7, x8, x9]) rfl ?_
        rw [HE.out]
        exact ⟨rfl, (hB'.agSet (g := w.heap.size + 1) (by omega) m').agSet (g := w.heap.size) (by omega) .zero⟩
      · go_wp2
        go_roundg (n - (k + 1))
        case rel =>
          refine ⟨k + 1, m', rfl, by omega, by go_num, rfl, ?_, ?_, ?_, Hok'.out, HF.out⟩
          · exact hB'.agSet (by omega) m'
          · exact b0'.agFar (by omega) m'
          · exact b1'.agSet (ag_size m) m'
        case measure => rw [Hgk.out]; omega
    · have HE : Hid (Ag.all .zero l = (m, true)) := by
        show _ = _
        rw [← hF.out, List.take_of_length_le (by have := hlen.out; omega)]
      clear hF
      have x0 := b0.cell 0
      have x1 := b0.cell 1
      have x2 := b0.cell 2
      have x3 := b0.cell 3
      have x4 := b0.cell 4
      have x5 := b0.cell 5
      have x6 := b0.cell 6
      have x7 := b0.cell 7
      have x8 := b0.cell 8
      have x9 := b0.cell 9
      have y0 := b0.frozen 0
      have y1 := b0.frozen 1
      have y2 := b0.frozen 2
      have y3 := b0.frozen 3
      have y4 := b0.frozen 4
      have y5 := b0.frozen 5
      have y6 := b0.frozen 6
      have y7 := b0.frozen 7
      have y8 := b0.frozen 8
      have y9 := b0.frozen 9
      have d0 := b1.cell 0
      have d1 := b1.cell 1
      have d2 := b1.cell 2
      have d3 := b1.cell 3
      have d4 := b1.cell 4
      have d5 := b1.cell 5
      have d6 := b1.cell 6
      have d7 := b1.cell 7
      have d8 := b1.cell 8
      have d9 := b1.cell 9
      simp only [Ag.zero, Prt.zero, Ag.cs] at x0 x1 x2 x3 x4 x5 x6 x7 x8 x9 d0 d1 d2 d3 d4 d5 d6 d7 d8 d9
      simp at x0 x1 x2 x3 x4 x5 x6 x7 x8 x9 d0 d1 d2 d3 d4 d5 d6 d7 d8 d9
      go_wp2
      refine bodyPost_ret (v := .tuple #[.agg m.cs, .bool true]) (by simp [results, Try.results28, go_sem, Ag.cs, x0, x1, x2, x3, x4, x5, x6, x7, x8, x9]) rfl ?_
      rw [HE.out]
      exact ⟨rfl, hB.agSet (g := w.heap.size) (by omega) m⟩

end Go.Proofs.Ytbociponcacmpaa
