/- Texts laid together: XAggW XAggA XAggO XAggB XRead XAggR XAggK XAgEq. -/
import Derived.Test.YtlclllkjnhgbjaaBb
import Derived.Test.YtlclllkjnhgbjaaBa
import Derived.OpenShut
import Derived.Deep.DeepCutAuto
import Derived.StillTailTactics
import Derived.ChangeKeysEq

namespace Go.Proofs.Ytlclllkjnhgbjaa
open Go.RowKit
set_option linter.unusedVariables false

/-- What is told of one measure. -/
structure Prt where
  s : Int
  mn : Int
  mx : Int
deriving DecidableEq
/-- An aggregate. -/
structure Ag where
  c : Int
  p : Prt
  q : Prt
  r : Prt
deriving DecidableEq
def Prt.cs (x : Prt) : Array Value := #[.int .i64 x.s, .int .i64 x.mn, .int .i64 x.mx]
def Ag.cs (a : Ag) : Array Value := #[.int .i64 a.c, .int .i64 a.p.s, .int .i64 a.p.mn, .int .i64 a.p.mx, .int .i64 a.q.s, .int .i64 a.q.mn, .int .i64 a.q.mx, .int .i64 a.r.s, .int .i64 a.r.mn, .int .i64 a.r.mx]
structure Prt.ok (x : Prt) : Prop where
  s : I64 x.s
  mn : I64 x.mn
  mx : I64 x.mx
structure Ag.ok (a : Ag) : Prop where
  c : I64 a.c
  p : a.p.ok
  q : a.q.ok
  r : a.r.ok
def Prt.zero : Prt := ⟨0, 0, 0⟩
def Ag.zero : Ag := ⟨0, .zero, .zero, .zero⟩
/-- Two parts together. -/
def Prt.join (x y : Prt) : Prt := ⟨(xadd x.s y.s).1, min x.mn y.mn, max x.mx y.mx⟩

/-- Two aggregates together: one of no rows adds nothing. -/
def Ag.join (a b : Ag) : Ag × Bool :=
  if a.c = 0 then (b, true) else if b.c = 0 then (a, true) else
  if (xadd a.c b.c).2 = true ∧ (xadd a.p.s b.p.s).2 = true ∧ (xadd a.q.s b.q.s).2 = true ∧ (xadd a.r.s b.r.s).2 = true
  then (⟨(xadd a.c b.c).1, a.p.join b.p, a.q.join b.q, a.r.join b.r⟩, true) else (.zero, false)

end Go.Proofs.Ytlclllkjnhgbjaa

namespace Go.Proofs.Ytlclllkjnhgbjaa
open Go.RowKit
set_option linter.unusedVariables false

theorem prt_zero_ok : Prt.zero.ok := ⟨by unfold I64 Prt.zero; simp, by unfold I64 Prt.zero; simp, by unfold I64 Prt.zero; simp⟩
/-- The cells of many aggregates. -/
def agsCells (l : List Ag) : List Value := l.flatMap fun a => a.cs.toList
theorem agsCells_length (l : List Ag) : (agsCells l).length = l.length * 10 := by
  induction l with
  | nil => rfl
  | cons a l ih => simp only [agsCells, List.flatMap_cons, List.length_append, List.length_cons] at ih ⊢; rw [ih]; simp [Ag.cs]; omega
theorem agsCells_at (l : List Ag) (k j : Nat) (a : Ag) (h : l[k]? = some a) (hj : j < 10) : (agsCells l)[k * 10 + j]? = a.cs[j]? := by
  induction l generalizing k with
  | nil => simp at h
  | cons b l ih =>
    have hb : b.cs.toList.length = 10 := by simp [Ag.cs]
    cases k with
    | zero =>
      simp at h
      subst h
      simp only [agsCells, List.flatMap_cons]
      rw [List.getElem?_append_left (by omega)]
      simp
    | succ k =>
      simp at h
      have := ih k h
      simp only [agsCells, List.flatMap_cons] at this ⊢
      rw [List.getElem?_append_right (by omega), hb, ← this]
      congr 1
      omega

theorem spot_none {w : World} {ad : Addr} {u : Value} (h : w.cell? (ad.add 0) = some u) : ad = ⟨ad.block, ad.off, none⟩ := by
  obtain ⟨b, o, sp⟩ := ad
  have h1 := World.cell?_spot h
  simp [Addr.add] at h1
  subst h1
  rfl

theorem Rd.ag {w : World} {A : Option Addr} {n k : Nat} {l : List Ag} (h : Rd w 10 A n (agsCells l)) (hk : k < n) :
    ∃ b o a, A = some ⟨b, o, none⟩ ∧ l[k]? = some a ∧ ∀ j, j < 10 → w.cell? ⟨b, o + k * 10 + j, none⟩ = a.cs[j]? := by
  obtain ⟨ad, e, _, hc⟩ := h.2 (by omega)
  have hl : l.length = n := by have := h.1; rw [agsCells_length] at this; omega
  have key : ∀ j, j < 10 → w.cell? (ad.add (k * 10 + j)) = l[k].cs[j]? := by
    intro j hj
    have h1 := agsCells_at l k j l[k] (List.getElem?_eq_getElem (by omega)) hj
    have h2 : (l[k].cs)[j]? = some ((l[k].cs)[j]'(by simp [Ag.cs]; omega)) := Array.getElem?_eq_getElem _
    rw [h2] at h1 ⊢
    exact hc _ _ h1
  have h0 : w.cell? (ad.add 0) = some (.int .i64 l[0].c) := by
    have h1 := agsCells_at l 0 0 l[0] (List.getElem?_eq_getElem (by omega)) (by omega)
    exact hc 0 _ h1
  have hs := spot_none h0
  refine ⟨ad.block, ad.off, l[k], by rw [e, ← hs], List.getElem?_eq_getElem (by omega), fun j hj => ?_⟩
  have h3 := key j hj
  rw [hs, Addr.add_mid, ← Nat.add_assoc] at h3
  exact h3

/-- Many together: a sum on the way does not fit: false. -/
def Ag.all : Ag → List Ag → Ag × Bool
  | a, [] => (a, true)
  | a, b :: l => if (a.join b).2 = true then Ag.all (a.join b).1 l else (.zero, false)

end Go.Proofs.Ytlclllkjnhgbjaa

namespace Go.Proofs.Ytlclllkjnhgbjaa
open Go.RowKit
set_option linter.unusedVariables false

theorem Rd.intAt {w : World} {A : Option Addr} {n k : Nat} {kd : IntKind} {zs : List Int} (h : Rd w 1 A n (zs.map (Value.int kd))) (hk : k < n) :
    ∃ b o z, A = some ⟨b, o, none⟩ ∧ zs[k]? = some z ∧ w.cell? ⟨b, o + k, none⟩ = some (.int kd z) := by
  obtain ⟨ad, z, e, hz, hc⟩ := h.int hk
  obtain ⟨ad', z', e', _, hc'⟩ := h.int (k := 0) (by omega)
  rw [e] at e'
  injection e' with e'
  subst e'
  have hs := spot_none hc'
  refine ⟨ad.block, ad.off, z, by rw [e, ← hs], hz, ?_⟩
  rw [hs, Addr.add_mid] at hc
  exact hc

/-- One value's part. -/
def prtOf (zs : List Int) (i : Nat) : Prt := match zs[i]? with | some v => ⟨v, v, v⟩ | none => .zero
/-- The aggregate of one row's values. -/
def Ag.of (zs : List Int) : Ag := ⟨1, prtOf zs 0, prtOf zs 1, prtOf zs 2⟩
end Go.Proofs.Ytlclllkjnhgbjaa

namespace Go.Proofs.Ytlclllkjnhgbjaa
open Go.RowKit
set_option linter.unusedVariables false

theorem rowAg : RowTy Try.prog 30 10 := ⟨⟨_, Try.underlying30, rfl⟩, by kernel_rfl⟩
theorem rowPart : RowTy Try.prog 27 3 := ⟨⟨_, Try.underlying27, rfl⟩, by kernel_rfl⟩
theorem ag_one (m : Ag) : m.cs.all (·.oneCell') = true := by simp [Ag.cs, Value.oneCell']
end Go.Proofs.Ytlclllkjnhgbjaa

namespace Go.Proofs.Ytlclllkjnhgbjaa
open Go.RowKit Go.ChangeShapes Go.WideShapes Go.Deep
set_option linter.unusedVariables false

set_option maxRecDepth 100000 in
theorem cells_i64 : Try.prog.cellsOf 2 = 1 := by kernel_rfl
set_option maxRecDepth 100000 in
theorem cells_part : Try.prog.cellsOf 27 = 3 := by kernel_rfl
set_option maxRecDepth 100000 in
theorem cells_parts : Try.prog.cellsOf 28 = 9 := by kernel_rfl
set_option maxRecDepth 100000 in
theorem cells_agg : Try.prog.cellsOf 30 = 10 := by kernel_rfl

theorem i64_of {n : Int} (h : (Lit.int .i64 n).wf = true) : I64 n := bounds_i64 h

/-- A part, three of them, an aggregate. -/
theorem opens_part : OpensTo Try.prog 27 (fun _ cs (p : Prt) => cs = p.cs.toList ∧ p.ok) := by
  intro H enc w base spare held fuel cs x h hz
  have hl := struct_len Try.underlying27 h cells_part
  obtain ⟨a, ha, wa⟩ := field_of Try.underlying27 h hz 0 _ rfl (opens_int Try.underlying2) cells_i64
  obtain ⟨b, hb, wb⟩ := field_of Try.underlying27 h hz 1 _ rfl (opens_int Try.underlying2) cells_i64
  obtain ⟨c, hc, wc⟩ := field_of Try.underlying27 h hz 2 _ rfl (opens_int Try.underlying2) cells_i64
  refine ⟨⟨a, b, c⟩, ?_, ⟨i64_of wa, i64_of wb, i64_of wc⟩⟩
  match cs, hl with
  | [x0, x1, x2], _ =>
    simp at ha hb hc
    simp [Prt.cs, ha, hb, hc]

theorem opens_agg : OpensTo Try.prog 30 (fun _ cs (a : Ag) => cs = a.cs.toList ∧ a.ok) := by
  intro H enc w base spare held fuel cs x h hz
  have hl := struct_len Try.underlying30 h cells_agg
  obtain ⟨c, hc, wc⟩ := field_of Try.underlying30 h hz 0 _ rfl (opens_int Try.underlying2) cells_i64
  have hM : OpensTo Try.prog 28 (fun _ cs (x : Prt × Prt × Prt) => (cs.drop 0).take 3 = x.1.cs.toList ∧ (cs.drop 3).take 3 = x.2.1.cs.toList ∧ (cs.drop 6).take 3 = x.2.2.cs.toList ∧ x.1.ok ∧ x.2.1.ok ∧ x.2.2.ok) := by
    intro H enc w base spare held fuel cs x h hz
    obtain ⟨p, hp, wp⟩ := elem_of Try.underlying28 h hz opens_part cells_part 0 (by omega)
    obtain ⟨q, hq, wq⟩ := elem_of Try.underlying28 h hz opens_part cells_part 1 (by omega)
    obtain ⟨r, hr, wr⟩ := elem_of Try.underlying28 h hz opens_part cells_part 2 (by omega)
    exact ⟨(p, q, r), hp, hq, hr, wp, wq, wr⟩
  obtain ⟨⟨p, q, r⟩, hp, hq, hr, wp, wq, wr⟩ := field_of Try.underlying30 h hz 1 _ rfl hM cells_parts
  refine ⟨⟨c, p, q, r⟩, ?_, ⟨i64_of wc, wp, wq, wr⟩⟩
  match cs, hl with
  | [x0, x1, x2, x3, x4, x5, x6, x7, x8, x9], _ =>
    simp [Prt.cs] at hc hp hq hr
    simp [Ag.cs, hc, hp, hq, hr]

end Go.Proofs.Ytlclllkjnhgbjaa

namespace Go.Proofs.Ytlclllkjnhgbjaa
open Go.RowKit
set_option linter.unusedVariables false

end Go.Proofs.Ytlclllkjnhgbjaa

namespace Go.Proofs.Ytlclllkjnhgbjaa
open Go.RowKit
set_option linter.unusedVariables false

end Go.Proofs.Ytlclllkjnhgbjaa

namespace Go.Proofs.Ytlclllkjnhgbjaa
open Go.RowKit
set_option linter.unusedVariables false

theorem info_part : (Try.prog.info? 27).map (fun i => (i.zero, i.size, i.bytes)) = some (some (.agg #[.int .i64 0, .int .i64 0, .int .i64 0]), 3, 24) := by kernel_rfl

set_option maxRecDepth 100000 in
theorem guard_ag : Try.prog.eqGuardType Try.prog.depth 30 = false := by kernel_rfl

set_option maxRecDepth 100000 in
set_option maxHeartbeats 1000000 in
theorem eqv_ag (a b : Ag) (W : World) : (binOp .eql 30 (.agg a.cs) (.agg b.cs)).run Try.prog W = .ok (.bool (decide (a = b))) W := by
  obtain ⟨i0, hi0, hz0, hz1, hz2⟩ := info_parts info_part
  unfold Ag.cs
  go_simp
  rw [run_equalIn_array W 9998 _ _ Try.underlying28 hi0, cells_part]
  simp only [show List.range 3 = [0, 1, 2] from rfl, Op.eqItems]
  go_simp
  clear hi0 hz0 hz1 hz2
  obtain ⟨ac, ⟨a1, a2, a3⟩, ⟨a4, a5, a6⟩, ⟨a7, a8, a9⟩⟩ := a
  obtain ⟨bc, ⟨b1, b2, b3⟩, ⟨b4, b5, b6⟩, ⟨b7, b8, b9⟩⟩ := b
  simp only [Ag.mk.injEq, Prt.mk.injEq]
  repeat' split
  all_goals simp_all

end Go.Proofs.Ytlclllkjnhgbjaa
