/- Texts laid together: XAggW XAggA XAggO XAggB XRead XAggR XAggK XAgEq. -/
import Derived.Test.YtlclllkjnhgbjaaBb
import Derived.Test.YtlclllkjnhgbjaaBa
import Derived.OpenShut
import Derived.Deep.DeepCutAuto
import Derived.StillTailTactics
import Derived.ChangeKeysEq

namespace Go.Proofs.Ytlclllkjnhgbjaa
open Go.RowKit
set_option linter.unusedVariables false

/-- What is told of one measure. -/
structure Prt where
  s : Int
  mn : Int
  mx : Int
deriving DecidableEq
/-- An aggregate. -/
structure Ag where
  c : Int
  p : Prt
  q : Prt
  r : Prt
deriving DecidableEq
def Prt.cs (x : Prt) : Array Value := #[.int .i64 x.s, .int .i64 x.mn, .int .i64 x.mx]
def Ag.cs (a : Ag) : Array Value := #[.int .i64 a.c, .int .i64 a.p.s, .int .i64 a.p.mn, .int .i64 a.p.mx, .int .i64 a.q.s, .int .i64 a.q.mn, .int .i64 a.q.mx, .int .i64 a.r.s, .int .i64 a.r.mn, .int .i64 a.r.mx]
structure Prt.ok (x : Prt) : Prop where
  s : I64 x.s
  mn : I64 x.mn
  mx : I64 x.mx
structure Ag.ok (a : Ag) : Prop where
  c : I64 a.c
  p : a.p.ok
  q : a.q.ok
  r : a.r.ok
def Prt.zero : Prt := ⟨0, 0, 0⟩
def Ag.zero : Ag := ⟨0, .zero, .zero, .zero⟩
/-- Two parts together. -/
def Prt.join (x y : Prt) : Prt := ⟨(xadd x.s y.s).1, min x.mn y.mn, max x.mx y.mx⟩

/-- Two aggregates together: one of no rows adds nothing. -/
def Ag.join (a b : Ag) : Ag × Bool :=
  if a.c = 0 then (b, true) else if b.c = 0 then (a, true) else
  if (xadd a.c b.c).2 = true ∧ (xadd a.p.s b.p.s).2 = true ∧ (xadd a.q.s b.q.s).2 = true ∧ (xadd a.r.s b.r.s).2 = true
  then (⟨(xadd a.c b.c).1, a.p.join b.p, a.q.join b.q, a.r.join b.r⟩, true) else (.zero, false)

/-- The result while its parts are laid. -/
def Ag.upto (a b : Ag) (k : Nat) : Ag := ⟨(xadd a.c b.c).1, if 0 < k then a.p.join b.p else .zero, if 1 < k then a.q.join b.q else .zero, if 2 < k then a.r.join b.r else .zero⟩

end Go.Proofs.Ytlclllkjnhgbjaa

namespace Go.Proofs.Ytlclllkjnhgbjaa
open Go.RowKit
set_option linter.unusedVariables false

theorem xfit_ok (x : Int) : I64 (xfit x).1 := by
  unfold xfit
  split
  · assumption
  · unfold I64; simp
theorem xadd_ok (a b : Int) : I64 (xadd a b).1 := xfit_ok _
theorem prt_join_ok {x y : Prt} (hx : x.ok) (hy : y.ok) : (x.join y).ok :=
  ⟨xadd_ok _ _, by have := hx.mn; have := hy.mn; unfold I64 at *; simp only [Prt.join]; omega, by have := hx.mx; have := hy.mx; unfold I64 at *; simp only [Prt.join]; omega⟩
theorem prt_zero_ok : Prt.zero.ok := ⟨by unfold I64 Prt.zero; simp, by unfold I64 Prt.zero; simp, by unfold I64 Prt.zero; simp⟩
theorem zero_ok : Ag.zero.ok := ⟨by unfold I64 Ag.zero; simp, prt_zero_ok, prt_zero_ok, prt_zero_ok⟩
theorem join_ok {a b : Ag} (ha : a.ok) (hb : b.ok) : (a.join b).1.ok := by
  unfold Ag.join
  split
  · exact hb
  · split
    · exact ha
    · split
      · exact ⟨xadd_ok _ _, prt_join_ok ha.p hb.p, prt_join_ok ha.q hb.q, prt_join_ok ha.r hb.r⟩
      · exact zero_ok

/-- The cells of many aggregates. -/
def agsCells (l : List Ag) : List Value := l.flatMap fun a => a.cs.toList
theorem agsCells_length (l : List Ag) : (agsCells l).length = l.length * 10 := by
  induction l with
  | nil => rfl
  | cons a l ih => simp only [agsCells, List.flatMap_cons, List.length_append, List.length_cons] at ih ⊢; rw [ih]; simp [Ag.cs]; omega
theorem agsCells_at (l : List Ag) (k j : Nat) (a : Ag) (h : l[k]? = some a) (hj : j < 10) : (agsCells l)[k * 10 + j]? = a.cs[j]? := by
  induction l generalizing k with
  | nil => simp at h
  | cons b l ih =>
    have hb : b.cs.toList.length = 10 := by simp [Ag.cs]
    cases k with
    | zero =>
      simp at h
      subst h
      simp only [agsCells, List.flatMap_cons]
      rw [List.getElem?_append_left (by omega)]
      simp
    | succ k =>
      simp at h
      have := ih k h
      simp only [agsCells, List.flatMap_cons] at this ⊢
      rw [List.getElem?_append_right (by omega), hb, ← this]
      congr 1
      omega

theorem spot_none {w : World} {ad : Addr} {u : Value} (h : w.cell? (ad.add 0) = some u) : ad = ⟨ad.block, ad.off, none⟩ := by
  obtain ⟨b, o, sp⟩ := ad
  have h1 := World.cell?_spot h
  simp [Addr.add] at h1
  subst h1
  rfl

theorem Rd.ag {w : World} {A : Option Addr} {n k : Nat} {l : List Ag} (h : Rd w 10 A n (agsCells l)) (hk : k < n) :
    ∃ b o a, A = some ⟨b, o, none⟩ ∧ l[k]? = some a ∧ ∀ j, j < 10 → w.cell? ⟨b, o + k * 10 + j, none⟩ = a.cs[j]? := by
  obtain ⟨ad, e, _, hc⟩ := h.2 (by omega)
  have hl : l.length = n := by have := h.1; rw [agsCells_length] at this; omega
  have key : ∀ j, j < 10 → w.cell? (ad.add (k * 10 + j)) = l[k].cs[j]? := by
    intro j hj
    have h1 := agsCells_at l k j l[k] (List.getElem?_eq_getElem (by omega)) hj
    have h2 : (l[k].cs)[j]? = some ((l[k].cs)[j]'(by simp [Ag.cs]; omega)) := Array.getElem?_eq_getElem _
    rw [h2] at h1 ⊢
    exact hc _ _ h1
  have h0 : w.cell? (ad.add 0) = some (.int .i64 l[0].c) := by
    have h1 := agsCells_at l 0 0 l[0] (List.getElem?_eq_getElem (by omega)) (by omega)
    exact hc 0 _ h1
  have hs := spot_none h0
  refine ⟨ad.block, ad.off, l[k], by rw [e, ← hs], List.getElem?_eq_getElem (by omega), fun j hj => ?_⟩
  have h3 := key j hj
  rw [hs, Addr.add_mid, ← Nat.add_assoc] at h3
  exact h3

/-- The world behind a store of a whole aggregate at a block's head. -/
def agSet (w : World) (g : Nat) (m : Ag) : World := ((((((((((w.setCell ⟨g, 0, none⟩ (.int .i64 m.c)).setCell ⟨g, 1, none⟩ (.int .i64 m.p.s)).setCell ⟨g, 2, none⟩ (.int .i64 m.p.mn)).setCell ⟨g, 3, none⟩ (.int .i64 m.p.mx)).setCell ⟨g, 4, none⟩ (.int .i64 m.q.s)).setCell ⟨g, 5, none⟩ (.int .i64 m.q.mn)).setCell ⟨g, 6, none⟩ (.int .i64 m.q.mx)).setCell ⟨g, 7, none⟩ (.int .i64 m.r.s)).setCell ⟨g, 8, none⟩ (.int .i64 m.r.mn)).setCell ⟨g, 9, none⟩ (.int .i64 m.r.mx))
theorem set_all (cs : Array Value) (hs : cs.size = 10) (m : Ag) : ((((((((((cs.setIfInBounds 0 (.int .i64 m.c)).setIfInBounds 1 (.int .i64 m.p.s)).setIfInBounds 2 (.int .i64 m.p.mn)).setIfInBounds 3 (.int .i64 m.p.mx)).setIfInBounds 4 (.int .i64 m.q.s)).setIfInBounds 5 (.int .i64 m.q.mn)).setIfInBounds 6 (.int .i64 m.q.mx)).setIfInBounds 7 (.int .i64 m.r.s)).setIfInBounds 8 (.int .i64 m.r.mn)).setIfInBounds 9 (.int .i64 m.r.mx)) = m.cs := by
  obtain ⟨l⟩ := cs
  match l, hs with
  | [x0, x1, x2, x3, x4, x5, x6, x7, x8, x9], _ => simp [Ag.cs]
theorem Blk.agSet {w : World} {g : Nat} {t : TypeId} {cs : Array Value} (h : Blk w g t cs) (hs : cs.size = 10) (m : Ag) : Blk (agSet w g m) g t m.cs := by
  have h2 := ((((((((((h.set_ 0 (.int .i64 m.c)).set_ 1 (.int .i64 m.p.s)).set_ 2 (.int .i64 m.p.mn)).set_ 3 (.int .i64 m.p.mx)).set_ 4 (.int .i64 m.q.s)).set_ 5 (.int .i64 m.q.mn)).set_ 6 (.int .i64 m.q.mx)).set_ 7 (.int .i64 m.r.s)).set_ 8 (.int .i64 m.r.mn)).set_ 9 (.int .i64 m.r.mx))
  rw [set_all cs hs m] at h2
  exact h2
theorem Blk.agFar {w : World} {g g' : Nat} {t : TypeId} {cs : Array Value} (h : Blk w g' t cs) (hne : g' ≠ g) (m : Ag) : Blk (Proofs.Ytlclllkjnhgbjaa.agSet w g m) g' t cs := by
  unfold Proofs.Ytlclllkjnhgbjaa.agSet
  iterate 10 (refine Blk.far ?_ hne _)
  exact h
theorem Bel.agSet {a w : World} {g : Nat} (h : Bel a w) (hg : a.heap.size ≤ g) (m : Ag) : Bel a (Proofs.Ytlclllkjnhgbjaa.agSet w g m) := by
  unfold Proofs.Ytlclllkjnhgbjaa.agSet
  iterate 10 (refine Bel.setCell ?_ hg _)
  exact h
theorem ag_size (m : Ag) : m.cs.size = 10 := rfl

/-- Many together: a sum on the way does not fit: false. -/
def Ag.all : Ag → List Ag → Ag × Bool
  | a, [] => (a, true)
  | a, b :: l => if (a.join b).2 = true then Ag.all (a.join b).1 l else (.zero, false)

theorem all_snoc (z : Ag) (l : List Ag) (b : Ag) : Ag.all z (l ++ [b]) = if (Ag.all z l).2 = true then (if ((Ag.all z l).1.join b).2 = true then ((Ag.all z l).1.join b) else (.zero, false)) else (.zero, false) := by
  induction l generalizing z with
  | nil =>
    simp only [List.nil_append, Ag.all]
    by_cases h : (z.join b).2 = true
    · simp [h]; rw [← h]
    · simp [h]
  | cons a l ih =>
    simp only [List.cons_append, Ag.all]
    by_cases h : (z.join a).2 = true
    · simp only [if_pos h]; exact ih _
    · simp [h]

theorem all_false {z : Ag} {l m : List Ag} (h : (Ag.all z l).2 = false) : Ag.all z (l ++ m) = (.zero, false) := by
  induction l generalizing z with
  | nil => simp [Ag.all] at h
  | cons a l ih =>
    simp only [List.cons_append, Ag.all] at h ⊢
    by_cases h' : (z.join a).2 = true
    · simp only [if_pos h'] at h ⊢; exact ih h
    · simp [h']

end Go.Proofs.Ytlclllkjnhgbjaa

namespace Go.Proofs.Ytlclllkjnhgbjaa
open Go.RowKit
set_option linter.unusedVariables false

theorem Bel.set3 {a w : World} {g x y z : Nat} (h : Bel a w) (hg : a.heap.size ≤ g) (u u' u'' : Value) : Bel a (((w.setCell ⟨g, x, none⟩ u).setCell ⟨g, y, none⟩ u').setCell ⟨g, z, none⟩ u'') :=
  ((h.setCell hg _).setCell hg _).setCell hg _
theorem Blk.far3 {w : World} {g' g x y z : Nat} {t : TypeId} {cs : Array Value} (h : Blk w g' t cs) (hne : g' ≠ g) (u u' u'' : Value) : Blk (((w.setCell ⟨g, x, none⟩ u).setCell ⟨g, y, none⟩ u').setCell ⟨g, z, none⟩ u'') g' t cs :=
  ((h.far (p := ⟨g, x, none⟩) hne _).far (p := ⟨g, y, none⟩) hne _).far (p := ⟨g, z, none⟩) hne _
theorem Blk.set3 {w : World} {g : Nat} {t : TypeId} {cs cs' : Array Value} (h : Blk w g t cs) (x y z : Nat) (u u' u'' : Value) (e : ((cs.setIfInBounds x u).setIfInBounds y u').setIfInBounds z u'' = cs') : Blk (((w.setCell ⟨g, x, none⟩ u).setCell ⟨g, y, none⟩ u').setCell ⟨g, z, none⟩ u'') g t cs' := by
  have := ((h.set_ x u).set_ y u').set_ z u''
  rw [e] at this
  exact this

theorem Rd.intAt {w : World} {A : Option Addr} {n k : Nat} {kd : IntKind} {zs : List Int} (h : Rd w 1 A n (zs.map (Value.int kd))) (hk : k < n) :
    ∃ b o z, A = some ⟨b, o, none⟩ ∧ zs[k]? = some z ∧ w.cell? ⟨b, o + k, none⟩ = some (.int kd z) := by
  obtain ⟨ad, z, e, hz, hc⟩ := h.int hk
  obtain ⟨ad', z', e', _, hc'⟩ := h.int (k := 0) (by omega)
  rw [e] at e'
  injection e' with e'
  subst e'
  have hs := spot_none hc'
  refine ⟨ad.block, ad.off, z, by rw [e, ← hs], hz, ?_⟩
  rw [hs, Addr.add_mid] at hc
  exact hc

/-- One value's part. -/
def prtOf (zs : List Int) (i : Nat) : Prt := match zs[i]? with | some v => ⟨v, v, v⟩ | none => .zero
/-- The aggregate of one row's values. -/
def Ag.of (zs : List Int) : Ag := ⟨1, prtOf zs 0, prtOf zs 1, prtOf zs 2⟩
theorem prtOf_some {zs : List Int} {i : Nat} {v : Int} (h : zs[i]? = some v) : prtOf zs i = ⟨v, v, v⟩ := by simp only [prtOf, h]
theorem prtOf_none {zs : List Int} {i : Nat} (h : zs[i]? = none) : prtOf zs i = .zero := by simp only [prtOf, h]
theorem prtOf_take {zs : List Int} {i k : Nat} : prtOf (zs.take k) i = if i < k then prtOf zs i else .zero := by
  by_cases h : i < k
  · rw [if_pos h]; simp only [prtOf, List.getElem?_take_of_lt h]
  · rw [if_neg h]; exact prtOf_none (by rw [List.getElem?_take, if_neg h])

theorem prtOf_nil (i : Nat) : prtOf [] i = .zero := prtOf_none (by simp)
theorem of_step0 (zs : List Int) (x : Int) (h : zs[0]? = some x) : (((Ag.of (zs.take 0)).cs.setIfInBounds 1 (.int .i64 x)).setIfInBounds 2 (.int .i64 x)).setIfInBounds 3 (.int .i64 x) = (Ag.of (zs.take 1)).cs := by
  rw [List.take_zero]
  simp [Ag.of, Ag.cs, prtOf_take, prtOf_some h, prtOf_nil]
theorem of_step1 (zs : List Int) (x : Int) (h : zs[1]? = some x) : (((Ag.of (zs.take 1)).cs.setIfInBounds 4 (.int .i64 x)).setIfInBounds 5 (.int .i64 x)).setIfInBounds 6 (.int .i64 x) = (Ag.of (zs.take 2)).cs := by
  simp [Ag.of, Ag.cs, prtOf_take, prtOf_some h]
theorem of_step2 (zs : List Int) (x : Int) (h : zs[2]? = some x) : (((Ag.of (zs.take 2)).cs.setIfInBounds 7 (.int .i64 x)).setIfInBounds 8 (.int .i64 x)).setIfInBounds 9 (.int .i64 x) = (Ag.of (zs.take 3)).cs := by
  simp [Ag.of, Ag.cs, prtOf_take, prtOf_some h]
theorem of_zero (zs : List Int) : (Ag.of (zs.take 0)).cs = #[.int .i64 1, .int .i64 0, .int .i64 0, .int .i64 0, .int .i64 0, .int .i64 0, .int .i64 0, .int .i64 0, .int .i64 0, .int .i64 0] := by
  rw [List.take_zero]
  rfl
theorem of_ok {zs : List Int} (h : ∀ z ∈ zs, I64 z) : (Ag.of zs).ok := by
  have hp : ∀ i, (prtOf zs i).ok := by
    intro i
    cases hz : zs[i]? with
    | none => rw [prtOf_none hz]; exact prt_zero_ok
    | some v => rw [prtOf_some hz]; have := h v (List.mem_of_getElem? hz); exact ⟨this, this, this⟩
  exact ⟨by unfold I64 Ag.of; simp, hp 0, hp 1, hp 2⟩

end Go.Proofs.Ytlclllkjnhgbjaa

namespace Go.Proofs.Ytlclllkjnhgbjaa
open Go.RowKit
set_option linter.unusedVariables false

theorem rowAg : RowTy Try.prog 30 10 := ⟨⟨_, Try.underlying30, rfl⟩, by kernel_rfl⟩
theorem rowPart : RowTy Try.prog 27 3 := ⟨⟨_, Try.underlying27, rfl⟩, by kernel_rfl⟩
theorem ag_one (m : Ag) : m.cs.all (·.oneCell') = true := by simp [Ag.cs, Value.oneCell']
theorem ag_range {w : World} {A : Option Addr} {n k : Nat} {l : List Ag} (h : Rd w 10 A n (agsCells l)) (hk : k < n) :
    ∃ b o a, A = some ⟨b, o, none⟩ ∧ l[k]? = some a ∧ w.rangeAt b (o + k * 10) a.cs.toList := by
  obtain ⟨b, o, a, e, ha, hc⟩ := h.ag hk
  refine ⟨b, o, a, e, ha, fun j v hv => ?_⟩
  have hj : j < 10 := by
    rcases Nat.lt_or_ge j 10 with h' | h'
    · exact h'
    · rw [List.getElem?_eq_none (by simp [Ag.cs]; omega)] at hv; cases hv
  rw [hc j hj]
  simpa using hv

end Go.Proofs.Ytlclllkjnhgbjaa

namespace Go.Proofs.Ytlclllkjnhgbjaa
open Go.RowKit Go.ChangeShapes Go.WideShapes Go.Deep
set_option linter.unusedVariables false

set_option maxRecDepth 100000 in
theorem cells_i64 : Try.prog.cellsOf 2 = 1 := by kernel_rfl
set_option maxRecDepth 100000 in
theorem cells_part : Try.prog.cellsOf 27 = 3 := by kernel_rfl
set_option maxRecDepth 100000 in
theorem cells_parts : Try.prog.cellsOf 28 = 9 := by kernel_rfl
set_option maxRecDepth 100000 in
theorem cells_agg : Try.prog.cellsOf 30 = 10 := by kernel_rfl

theorem i64_of {n : Int} (h : (Lit.int .i64 n).wf = true) : I64 n := bounds_i64 h

/-- A part, three of them, an aggregate. -/
theorem opens_part : OpensTo Try.prog 27 (fun _ cs (p : Prt) => cs = p.cs.toList ∧ p.ok) := by
  intro H enc w base spare held fuel cs x h hz
  have hl := struct_len Try.underlying27 h cells_part
  obtain ⟨a, ha, wa⟩ := field_of Try.underlying27 h hz 0 _ rfl (opens_int Try.underlying2) cells_i64
  obtain ⟨b, hb, wb⟩ := field_of Try.underlying27 h hz 1 _ rfl (opens_int Try.underlying2) cells_i64
  obtain ⟨c, hc, wc⟩ := field_of Try.underlying27 h hz 2 _ rfl (opens_int Try.underlying2) cells_i64
  refine ⟨⟨a, b, c⟩, ?_, ⟨i64_of wa, i64_of wb, i64_of wc⟩⟩
  match cs, hl with
  | [x0, x1, x2], _ =>
    simp at ha hb hc
    simp [Prt.cs, ha, hb, hc]

theorem opens_agg : OpensTo Try.prog 30 (fun _ cs (a : Ag) => cs = a.cs.toList ∧ a.ok) := by
  intro H enc w base spare held fuel cs x h hz
  have hl := struct_len Try.underlying30 h cells_agg
  obtain ⟨c, hc, wc⟩ := field_of Try.underlying30 h hz 0 _ rfl (opens_int Try.underlying2) cells_i64
  have hM : OpensTo Try.prog 28 (fun _ cs (x : Prt × Prt × Prt) => (cs.drop 0).take 3 = x.1.cs.toList ∧ (cs.drop 3).take 3 = x.2.1.cs.toList ∧ (cs.drop 6).take 3 = x.2.2.cs.toList ∧ x.1.ok ∧ x.2.1.ok ∧ x.2.2.ok) := by
    intro H enc w base spare held fuel cs x h hz
    obtain ⟨p, hp, wp⟩ := elem_of Try.underlying28 h hz opens_part cells_part 0 (by omega)
    obtain ⟨q, hq, wq⟩ := elem_of Try.underlying28 h hz opens_part cells_part 1 (by omega)
    obtain ⟨r, hr, wr⟩ := elem_of Try.underlying28 h hz opens_part cells_part 2 (by omega)
    exact ⟨(p, q, r), hp, hq, hr, wp, wq, wr⟩
  obtain ⟨⟨p, q, r⟩, hp, hq, hr, wp, wq, wr⟩ := field_of Try.underlying30 h hz 1 _ rfl hM cells_parts
  refine ⟨⟨c, p, q, r⟩, ?_, ⟨i64_of wc, wp, wq, wr⟩⟩
  match cs, hl with
  | [x0, x1, x2, x3, x4, x5, x6, x7, x8, x9], _ =>
    simp [Prt.cs] at hc hp hq hr
    simp [Ag.cs, hc, hp, hq, hr]

set_option maxRecDepth 100000 in
/-- An aggregate by value. -/
theorem open_ag {H : Type} {enc : TypeId × Value → H} {w : World} {base b0 : Nat} {spare : Nat → Bool} {held : Bool} {r : Reach} {v : Value} {d : DataW H} {p : List MemPlace}
    (hv : Value.okWide Try.prog w r b0 30 v) (h : DataW.Trod enc Try.prog w base spare held 30 v d p) (hz : Sized Try.prog 30 d) : ∃ a : Ag, v = .agg a.cs ∧ a.ok := by
  obtain ⟨cs, rfl, _⟩ := okWide_struct Try.underlying30 hv
  obtain ⟨fuel, hf⟩ := h
  obtain ⟨a, ha, ho⟩ := opens_agg hf hz
  refine ⟨a, ?_, ho⟩
  simp only [Value.cells] at ha
  rw [Array.toList_inj.1 ha]

end Go.Proofs.Ytlclllkjnhgbjaa

namespace Go.Proofs.Ytlclllkjnhgbjaa
open Go.RowKit
set_option linter.unusedVariables false

end Go.Proofs.Ytlclllkjnhgbjaa

namespace Go.Proofs.Ytlclllkjnhgbjaa
open Go.RowKit
set_option linter.unusedVariables false

theorem join_ex : (Ag.of [5]).join (Ag.of [-2]) = (⟨2, ⟨3, -2, 5⟩, .zero, .zero⟩, true) := by decide +kernel
theorem of5_ok : (Ag.of [5]).ok := of_ok (by intro z hz; simp at hz; subst hz; unfold I64; omega)
theorem ofm2_ok : (Ag.of [-2]).ok := of_ok (by intro z hz; simp at hz; subst hz; unfold I64; omega)

end Go.Proofs.Ytlclllkjnhgbjaa

namespace Go.Proofs.Ytlclllkjnhgbjaa
open Go.RowKit
set_option linter.unusedVariables false

theorem info_part : (Try.prog.info? 27).map (fun i => (i.zero, i.size, i.bytes)) = some (some (.agg #[.int .i64 0, .int .i64 0, .int .i64 0]), 3, 24) := by kernel_rfl

set_option maxRecDepth 100000 in
set_option maxHeartbeats 1000000 in
theorem eql_ag (m : Ag) (W : World) : (binOp .eql 30 (.agg m.cs) (.agg m.cs)).run Try.prog W = .ok (.bool true) W := by
  obtain ⟨i0, hi0, hz0, hz1, hz2⟩ := info_parts info_part
  unfold Ag.cs
  go_simp
  rw [run_equalIn_array W 9998 _ _ Try.underlying28 hi0, cells_part]
  simp only [show List.range 3 = [0, 1, 2] from rfl, Op.eqItems]
  go_simp

set_option maxRecDepth 100000 in
theorem guard_ag : Try.prog.eqGuardType Try.prog.depth 30 = false := by kernel_rfl

set_option maxRecDepth 100000 in
set_option maxHeartbeats 1000000 in
theorem eqv_ag (a b : Ag) (W : World) : (binOp .eql 30 (.agg a.cs) (.agg b.cs)).run Try.prog W = .ok (.bool (decide (a = b))) W := by
  obtain ⟨i0, hi0, hz0, hz1, hz2⟩ := info_parts info_part
  unfold Ag.cs
  go_simp
  rw [run_equalIn_array W 9998 _ _ Try.underlying28 hi0, cells_part]
  simp only [show List.range 3 = [0, 1, 2] from rfl, Op.eqItems]
  go_simp
  clear hi0 hz0 hz1 hz2
  obtain ⟨ac, ⟨a1, a2, a3⟩, ⟨a4, a5, a6⟩, ⟨a7, a8, a9⟩⟩ := a
  obtain ⟨bc, ⟨b1, b2, b3⟩, ⟨b4, b5, b6⟩, ⟨b7, b8, b9⟩⟩ := b
  simp only [Ag.mk.injEq, Prt.mk.injEq]
  repeat' split
  all_goals simp_all

set_option maxRecDepth 100000 in
set_option maxHeartbeats 1000000 in
theorem neqv_ag (a b : Ag) (W : World) : (binOp .neq 30 (.agg a.cs) (.agg b.cs)).run Try.prog W = .ok (.bool (!decide (a = b))) W := by
  obtain ⟨i0, hi0, hz0, hz1, hz2⟩ := info_parts info_part
  unfold Ag.cs
  go_simp
  rw [run_equalIn_array W 9998 _ _ Try.underlying28 hi0, cells_part]
  simp only [show List.range 3 = [0, 1, 2] from rfl, Op.eqItems]
  go_simp
  clear hi0 hz0 hz1 hz2
  obtain ⟨ac, ⟨a1, a2, a3⟩, ⟨a4, a5, a6⟩, ⟨a7, a8, a9⟩⟩ := a
  obtain ⟨bc, ⟨b1, b2, b3⟩, ⟨b4, b5, b6⟩, ⟨b7, b8, b9⟩⟩ := b
  simp only [Ag.mk.injEq, Prt.mk.injEq]
  repeat' split
  all_goals simp_all

end Go.Proofs.Ytlclllkjnhgbjaa
