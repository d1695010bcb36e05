/- Texts laid together: XAggW XAggA XAggO XAggB XRead XAggR XAggK XAgEq. -/
import Derived.Test.YtelnhhbefdfeoaaBb
import Derived.Test.YtelnhhbefdfeoaaBa
import Derived.OpenShut
import Derived.Deep.DeepCutAuto
import Derived.StillTailTactics
import Derived.ChangeKeysEq

namespace Go.Proofs.Ytelnhhbefdfeoaa
open Go.RowKit
set_option linter.unusedVariables false

/-- What is told of one measure. -/
structure Prt where
  s : Int
  mn : Int
  mx : Int
deriving DecidableEq
/-- An aggregate. -/
structure Ag where
  c : Int
  p : Prt
  q : Prt
  r : Prt
deriving DecidableEq
def Prt.cs (x : Prt) : Array Value := #[.int .i64 x.s, .int .i64 x.mn, .int .i64 x.mx]
def Ag.cs (a : Ag) : Array Value := #[.int .i64 a.c, .int .i64 a.p.s, .int .i64 a.p.mn, .int .i64 a.p.mx, .int .i64 a.q.s, .int .i64 a.q.mn, .int .i64 a.q.mx, .int .i64 a.r.s, .int .i64 a.r.mn, .int .i64 a.r.mx]
structure Prt.ok (x : Prt) : Prop where
  s : I64 x.s
  mn : I64 x.mn
  mx : I64 x.mx
structure Ag.ok (a : Ag) : Prop where
  c : I64 a.c
  p : a.p.ok
  q : a.q.ok
  r : a.r.ok
def Prt.zero : Prt := ⟨0, 0, 0⟩
def Ag.zero : Ag := ⟨0, .zero, .zero, .zero⟩
/-- Two parts together. -/
def Prt.join (x y : Prt) : Prt := ⟨(xadd x.s y.s).1, min x.mn y.mn, max x.mx y.mx⟩

set_option maxRecDepth 100000 in
set_option maxHeartbeats 1000000 in
theorem part_any (x y : Prt) (w : World) (hx : x.ok) (hy : y.ok) :
    Calls Try.prog 64 #[.agg x.cs, .agg y.cs] w fun e w' => e = .returned (.tuple #[.agg (x.join y).cs, .bool (xadd x.s y.s).2]) ∧ Bel w w' := by
  obtain ⟨x0, x1, x2⟩ := x
  obtain ⟨y0, y1, y2⟩ := y
  have Hx := Lib.hid hx
  have Hy := Lib.hid hy
  clear hx hy
  unfold Prt.cs Prt.join
  simp only
  go_enter Try.func64, Try.ntmps64
  go_wp2_with fail
  refine (add_any _ _ _ Hx.out.s Hy.out.s).mono ?_; rintro e w1 ⟨rfl, rfl⟩
  go_wp2
  refine bodyPost_ret (v := .tuple #[.agg #[.int .i64 (xadd x0 y0).1, .int .i64 (min x1 y1), .int .i64 (max x2 y2)], .bool (xadd x0 y0).2]) (by simp [results, Try.results64, go_sem]) rfl ⟨rfl, ?_⟩
  exact (((Bel.refl _).alloc _).alloc _).alloc _

/-- Two aggregates together: one of no rows adds nothing. -/
def Ag.join (a b : Ag) : Ag × Bool :=
  if a.c = 0 then (b, true) else if b.c = 0 then (a, true) else
  if (xadd a.c b.c).2 = true ∧ (xadd a.p.s b.p.s).2 = true ∧ (xadd a.q.s b.q.s).2 = true ∧ (xadd a.r.s b.r.s).2 = true
  then (⟨(xadd a.c b.c).1, a.p.join b.p, a.q.join b.q, a.r.join b.r⟩, true) else (.zero, false)

/-- The result while its parts are laid. -/
def Ag.upto (a b : Ag) (k : Nat) : Ag := ⟨(xadd a.c b.c).1, if 0 < k then a.p.join b.p else .zero, if 1 < k then a.q.join b.q else .zero, if 2 < k then a.r.join b.r else .zero⟩

set_option maxRecDepth 100000 in
set_option maxHeartbeats 1000000 in
theorem join_long (a b : Ag) (w : World) (ha : a.ok) (hb : b.ok) (h1 : ¬ a.c = 0) (h2 : ¬ b.c = 0) (h3 : (xadd a.c b.c).2 = true) :
    Calls Try.prog 41 #[.agg a.cs, .agg b.cs] w fun e w' => e = .returned (.tuple #[.agg (a.join b).1.cs, .bool (a.join b).2]) ∧ Bel w w' := by
  have Ha := Lib.hid ha
  have Hb := Lib.hid hb
  clear ha hb
  have q1 : (a.c == 0) = false := by simpa using h1
  have q2 : (b.c == 0) = false := by simpa using h2
  have HJ : Hid (a.join b = if (xadd a.p.s b.p.s).2 = true ∧ (xadd a.q.s b.q.s).2 = true ∧ (xadd a.r.s b.r.s).2 = true then (a.upto b 3, true) else (.zero, false)) := by
    show _ = _
    unfold Ag.join Ag.upto
    rw [if_neg h1, if_neg h2]
    simp [h3]
  clear h1 h2
  have ea : a.cs = #[.int .i64 a.c, .int .i64 a.p.s, .int .i64 a.p.mn, .int .i64 a.p.mx, .int .i64 a.q.s, .int .i64 a.q.mn, .int .i64 a.q.mx, .int .i64 a.r.s, .int .i64 a.r.mn, .int .i64 a.r.mx] := rfl
  have eb : b.cs = #[.int .i64 b.c, .int .i64 b.p.s, .int .i64 b.p.mn, .int .i64 b.p.mx, .int .i64 b.q.s, .int .i64 b.q.mn, .int .i64 b.q.mx, .int .i64 b.r.s, .int .i64 b.r.mn, .int .i64 b.r.mx] := rfl
  rw [ea, eb]
  clear ea eb
  go_enter Try.func41, Try.ntmps41
  go_wp2_with fail
  refine (add_any _ _ _ Ha.out.c Hb.out.c).mono ?_; rintro e w1 ⟨rfl, rfl⟩
  go_wp2_with fail
  have B0 : Blk ((((w.alloc (.cells a.cs 82)).alloc (.cells b.cs 82)).alloc (.cells Ag.zero.cs 82)).alloc (.cells (a.upto b 0).cs 82)) w.heap.size 82 a.cs := (((Blk.new w _ _).alloc _).alloc _).alloc _
  have B1 : Blk ((((w.alloc (.cells a.cs 82)).alloc (.cells b.cs 82)).alloc (.cells Ag.zero.cs 82)).alloc (.cells (a.upto b 0).cs 82)) (w.heap.size + 1) 82 b.cs := by
    have := ((Blk.new (w.alloc (.cells a.cs 82)) 82 b.cs).alloc (.cells Ag.zero.cs 82)).alloc (.cells (a.upto b 0).cs 82)
    simpa using this
  have B2 : Blk ((((w.alloc (.cells a.cs 82)).alloc (.cells b.cs 82)).alloc (.cells Ag.zero.cs 82)).alloc (.cells (a.upto b 0).cs 82)) (w.heap.size + 1 + 1) 82 Ag.zero.cs := by
    have := (Blk.new ((w.alloc (.cells a.cs 82)).alloc (.cells b.cs 82)) 82 Ag.zero.cs).alloc (.cells (a.upto b 0).cs 82)
    simpa using this
  have B3 : Blk ((((w.alloc (.cells a.cs 82)).alloc (.cells b.cs 82)).alloc (.cells Ag.zero.cs 82)).alloc (.cells (a.upto b 0).cs 82)) (w.heap.size + 1 + 1 + 1) 82 (a.upto b 0).cs := by
    have := Blk.new (((w.alloc (.cells a.cs 82)).alloc (.cells b.cs 82)).alloc (.cells Ag.zero.cs 82)) 82 (a.upto b 0).cs
    simpa using this
  have BB : Bel w ((((w.alloc (.cells a.cs 82)).alloc (.cells b.cs 82)).alloc (.cells Ag.zero.cs 82)).alloc (.cells (a.upto b 0).cs 82)) := ((((Bel.refl w).alloc _).alloc _).alloc _).alloc _
  go_loopg [7, 32] 3 (fun g s7 s32 wr => ∃ k : Nat, g = 3 - k ∧ k ≤ 3 ∧ s32 = .int .i64 k ∧ s7 = .bool true ∧ Bel w wr ∧ Blk wr w.heap.size 82 a.cs ∧ Blk wr (w.heap.size + 1) 82 b.cs ∧ Blk wr (w.heap.size + 1 + 1) 82 Ag.zero.cs ∧ Blk wr (w.heap.size + 1 + 1 + 1) 82 (a.upto b k).cs ∧
    Hid ((0 < k → (xadd a.p.s b.p.s).2 = true) ∧ (1 < k → (xadd a.q.s b.q.s).2 = true) ∧ (2 < k → (xadd a.r.s b.r.s).2 = true)))
  case atStart => exact ⟨0, rfl, by omega, rfl, rfl, BB, B0, B1, B2, B3, by refine ⟨?_, ?_, ?_⟩ <;> intro h <;> omega⟩
  case round =>
    clear B0 B1 B2 B3 BB
    obtain ⟨k, hgk, hk, rfl, rfl, hB, b0, b1, b2, b3, hF⟩ := hrel
    by_cases hlt : k < 3
    · rcases (show k = 0 ∨ k = 1 ∨ k = 2 by omega) with rfl | rfl | rfl
      · have c0 := b0.cell 1
        have d0 := b1.cell 1
        have c1 := b0.cell 2
        have d1 := b1.cell 2
        have c2 := b0.cell 3
        have d2 := b1.cell 3
        simp [Ag.cs] at c0 c1 c2 d0 d1 d2
        obtain ⟨m, Hm⟩ : ∃ m, Hid (a.p.join b.p = m) := ⟨_, rfl⟩
        obtain ⟨ok, Hok⟩ : ∃ ok, Hid ((xadd a.p.s b.p.s).2 = ok) := ⟨_, rfl⟩
        have Hu : Hid (((((a.upto b 0).cs.setIfInBounds 1 (.int .i64 m.s)).setIfInBounds 2 (.int .i64 m.mn)).setIfInBounds 3 (.int .i64 m.mx)) = (a.upto b 1).cs) := by rw [← Hm.out]; rfl
        go_wp2_with fail
        go_region_with (go_at_call 64; refine (part_any a.p b.p _ Ha.out.p Hb.out.p).mono ?_; rintro e w1 ⟨rfl, hb1⟩; rw [Hm.out, Hok.out, show m.cs = #[.int .i64 m.s, .int .i64 m.mn, .int .i64 m.mx] from rfl]; have b3' := b3.drew.bel hb1; have f0 := b3'.cell 1; have f1 := b3'.cell 2; have f2 := b3'.cell 3; simp [Ag.cs] at f0 f1 f2; have z0 := b3'.frozen 1; have z1 := b3'.frozen 2; have z2 := b3'.frozen 3)
        all_goals
          have b0' := ((((b0.drew.bel hb1).far (p := ⟨w.heap.size + 1 + 1 + 1, 1, none⟩) (by simp; omega) (.int .i64 m.s)).far (p := ⟨w.heap.size + 1 + 1 + 1, 2, none⟩) (by simp; omega) (.int .i64 m.mn)).far (p := ⟨w.heap.size + 1 + 1 + 1, 3, none⟩) (by simp; omega) (.int .i64 m.mx))
          have b1' := ((((b1.drew.bel hb1).far (p := ⟨w.heap.size + 1 + 1 + 1, 1, none⟩) (by simp) (.int .i64 m.s)).far (p := ⟨w.heap.size + 1 + 1 + 1, 2, none⟩) (by simp) (.int .i64 m.mn)).far (p := ⟨w.heap.size + 1 + 1 + 1, 3, none⟩) (by simp) (.int .i64 m.mx))
          have b2' := ((((b2.drew.bel hb1).far (p := ⟨w.heap.size + 1 + 1 + 1, 1, none⟩) (by simp) (.int .i64 m.s)).far (p := ⟨w.heap.size + 1 + 1 + 1, 2, none⟩) (by simp) (.int .i64 m.mn)).far (p := ⟨w.heap.size + 1 + 1 + 1, 3, none⟩) (by simp) (.int .i64 m.mx))
          have b3'' := ((b3'.set_ 1 (.int .i64 m.s)).set_ 2 (.int .i64 m.mn)).set_ 3 (.int .i64 m.mx)
          rw [Hu.out] at b3''
          have hB' := (((hB.drew.trans hb1).setCell (p := ⟨w.heap.size + 1 + 1 + 1, 1, none⟩) (by simp; omega) (.int .i64 m.s)).setCell (p := ⟨w.heap.size + 1 + 1 + 1, 2, none⟩) (by simp; omega) (.int .i64 m.mn)).setCell (p := ⟨w.heap.size + 1 + 1 + 1, 3, none⟩) (by simp; omega) (.int .i64 m.mx)
          generalize (((w1.setCell ⟨w.heap.size + 1 + 1 + 1, 1, none⟩ (.int .i64 m.s)).setCell ⟨w.heap.size + 1 + 1 + 1, 2, none⟩ (.int .i64 m.mn)).setCell ⟨w.heap.size + 1 + 1 + 1, 3, none⟩ (.int .i64 m.mx)) = w2 at *
          clear f0 f1 f2 z0 z1 z2 c0 c1 c2 d0 d1 d2 b0 b1 b2 b3 b3' hB hb1
          cases ok
          · have HJ' : Hid (a.join b = (.zero, false)) := by
              show _ = _
              rw [HJ.out, if_neg]
              rintro ⟨k1, k2, k3⟩
              first | (rw [Hok.out] at k1; cases k1) | (rw [Hok.out] at k2; cases k2) | (rw [Hok.out] at k3; cases k3)
            have gc0 := b2'.cell 0
            have gc1 := b2'.cell 1
            have gc2 := b2'.cell 2
            have gc3 := b2'.cell 3
            have gc4 := b2'.cell 4
            have gc5 := b2'.cell 5
            have gc6 := b2'.cell 6
            have gc7 := b2'.cell 7
            have gc8 := b2'.cell 8
            have gc9 := b2'.cell 9
            have gz0 := b2'.frozen 0
            have gz1 := b2'.frozen 1
            have gz2 := b2'.frozen 2
            have gz3 := b2'.frozen 3
            have gz4 := b2'.frozen 4
            have gz5 := b2'.frozen 5
            have gz6 := b2'.frozen 6
            have gz7 := b2'.frozen 7
            have gz8 := b2'.frozen 8
            have gz9 := b2'.frozen 9
            simp only [Ag.zero, Prt.zero, Ag.cs] at gc0 gc1 gc2 gc3 gc4 gc5 gc6 gc7 gc8 gc9
            simp at gc0 gc1 gc2 gc3 gc4 gc5 gc6 gc7 gc8 gc9
            go_wp2
            refine bodyPost_ret (v := .tuple #[.agg #[.int .i64 0, .int .i64 0, .int .i64 0, .int .i64 0, .int .i64 0, .int .i64 0, .int .i64 0, .int .i64 0, .int .i64 0, .int .i64 0], .bool false]) (by simp [results, Try.results41, go_sem, gc0, gc1, gc2, gc3, gc4, gc5, gc6, gc7, gc8, gc9] ) rfl ?_
            rw [HJ'.out]
            refine ⟨rfl, ?_⟩
            iterate 10 (refine Bel.setCell ?_ (by simp; omega) _)
            exact hB'
          · go_wp2
            go_roundg (3 - 1)
            case rel => exact ⟨1, rfl, by omega, rfl, rfl, hB', b0', b1', b2', b3'', by refine ⟨fun h => ?_, fun h => ?_, fun h => ?_⟩ <;> first | omega | exact Hok.out | exact hF.out.1 (by omega) | exact hF.out.2.1 (by omega)⟩
            case measure => omega
      · have c0 := b0.cell 4
        have d0 := b1.cell 4
        have c1 := b0.cell 5
        have d1 := b1.cell 5
        have c2 := b0.cell 6
        have d2 := b1.cell 6
        simp [Ag.cs] at c0 c1 c2 d0 d1 d2
        obtain ⟨m, Hm⟩ : ∃ m, Hid (a.q.join b.q = m) := ⟨_, rfl⟩
        obtain ⟨ok, Hok⟩ : ∃ ok, Hid ((xadd a.q.s b.q.s).2 = ok) := ⟨_, rfl⟩
        have Hu : Hid (((((a.upto b 1).cs.setIfInBounds 4 (.int .i64 m.s)).setIfInBounds 5 (.int .i64 m.mn)).setIfInBounds 6 (.int .i64 m.mx)) = (a.upto b 2).cs) := by rw [← Hm.out]; rfl
        go_wp2_with fail
        go_region_with (go_at_call 64; refine (part_any a.q b.q _ Ha.out.q Hb.out.q).mono ?_; rintro e w1 ⟨rfl, hb1⟩; rw [Hm.out, Hok.out, show m.cs = #[.int .i64 m.s, .int .i64 m.mn, .int .i64 m.mx] from rfl]; have b3' := b3.drew.bel hb1; have f0 := b3'.cell 4; have f1 := b3'.cell 5; have f2 := b3'.cell 6; simp [Ag.cs] at f0 f1 f2; have z0 := b3'.frozen 4; have z1 := b3'.frozen 5; have z2 := b3'.frozen 6)
        all_goals
          have b0' := ((((b0.drew.bel hb1).far (p := ⟨w.heap.size + 1 + 1 + 1, 4, none⟩) (by simp; omega) (.int .i64 m.s)).far (p := ⟨w.heap.size + 1 + 1 + 1, 5, none⟩) (by simp; omega) (.int .i64 m.mn)).far (p := ⟨w.heap.size + 1 + 1 + 1, 6, none⟩) (by simp; omega) (.int .i64 m.mx))
          have b1' := ((((b1.drew.bel hb1).far (p := ⟨w.heap.size + 1 + 1 + 1, 4, none⟩) (by simp) (.int .i64 m.s)).far (p := ⟨w.heap.size + 1 + 1 + 1, 5, none⟩) (by simp) (.int .i64 m.mn)).far (p := ⟨w.heap.size + 1 + 1 + 1, 6, none⟩) (by simp) (.int .i64 m.mx))
          have b2' := ((((b2.drew.bel hb1).far (p := ⟨w.heap.size + 1 + 1 + 1, 4, none⟩) (by simp) (.int .i64 m.s)).far (p := ⟨w.heap.size + 1 + 1 + 1, 5, none⟩) (by simp) (.int .i64 m.mn)).far (p := ⟨w.heap.size + 1 + 1 + 1, 6, none⟩) (by simp) (.int .i64 m.mx))
          have b3'' := ((b3'.set_ 4 (.int .i64 m.s)).set_ 5 (.int .i64 m.mn)).set_ 6 (.int .i64 m.mx)
          rw [Hu.out] at b3''
          have hB' := (((hB.drew.trans hb1).setCell (p := ⟨w.heap.size + 1 + 1 + 1, 4, none⟩) (by simp; omega) (.int .i64 m.s)).setCell (p := ⟨w.heap.size + 1 + 1 + 1, 5, none⟩) (by simp; omega) (.int .i64 m.mn)).setCell (p := ⟨w.heap.size + 1 + 1 + 1, 6, none⟩) (by simp; omega) (.int .i64 m.mx)
          generalize (((w1.setCell ⟨w.heap.size + 1 + 1 + 1, 4, none⟩ (.int .i64 m.s)).setCell ⟨w.heap.size + 1 + 1 + 1, 5, none⟩ (.int .i64 m.mn)).setCell ⟨w.heap.size + 1 + 1 + 1, 6, none⟩ (.int .i64 m.mx)) = w2 at *
          clear f0 f1 f2 z0 z1 z2 c0 c1 c2 d0 d1 d2 b0 b1 b2 b3 b3' hB hb1
          cases ok
          · have HJ' : Hid (a.join b = (.zero, false)) := by
              show _ = _
              rw [HJ.out, if_neg]
              rintro ⟨k1, k2, k3⟩
              first | (rw [Hok.out] at k1; cases k1) | (rw [Hok.out] at k2; cases k2) | (rw [Hok.out] at k3; cases k3)
            have gc0 := b2'.cell 0
            have gc1 := b2'.cell 1
            have gc2 := b2'.cell 2
            have gc3 := b2'.cell 3
            have gc4 := b2'.cell 4
            have gc5 := b2'.cell 5
            have gc6 := b2'.cell 6
            have gc7 := b2'.cell 7
            have gc8 := b2'.cell 8
            have gc9 := b2'.cell 9
            have gz0 := b2'.frozen 0
            have gz1 := b2'.frozen 1
            have gz2 := b2'.frozen 2
            have gz3 := b2'.frozen 3
            have gz4 := b2'.frozen 4
            have gz5 := b2'.frozen 5
            have gz6 := b2'.frozen 6
            have gz7 := b2'.frozen 7
            have gz8 := b2'.frozen 8
            have gz9 := b2'.frozen 9
            simp only [Ag.zero, Prt.zero, Ag.cs] at gc0 gc1 gc2 gc3 gc4 gc5 gc6 gc7 gc8 gc9
            simp at gc0 gc1 gc2 gc3 gc4 gc5 gc6 gc7 gc8 gc9
            go_wp2
            refine bodyPost_ret (v := .tuple #[.agg #[.int .i64 0, .int .i64 0, .int .i64 0, .int .i64 0, .int .i64 0, .int .i64 0, .int .i64 0, .int .i64 0, .int .i64 0, .int .i64 0], .bool false]) (by simp [results, Try.results41, go_sem, gc0, gc1, gc2, gc3, gc4, gc5, gc6, gc7, gc8, gc9] ) rfl ?_
            rw [HJ'.out]
            refine ⟨rfl, ?_⟩
            iterate 10 (refine Bel.setCell ?_ (by simp; omega) _)
            exact hB'
          · go_wp2
            go_roundg (3 - 2)
            case rel => exact ⟨2, rfl, by omega, rfl, rfl, hB', b0', b1', b2', b3'', by refine ⟨fun h => ?_, fun h => ?_, fun h => ?_⟩ <;> first | omega | exact Hok.out | exact hF.out.1 (by omega) | exact hF.out.2.1 (by omega)⟩
            case measure => omega
      · have c0 := b0.cell 7
        have d0 := b1.cell 7
        have c1 := b0.cell 8
        have d1 := b1.cell 8
        have c2 := b0.cell 9
        have d2 := b1.cell 9
        simp [Ag.cs] at c0 c1 c2 d0 d1 d2
        obtain ⟨m, Hm⟩ : ∃ m, Hid (a.r.join b.r = m) := ⟨_, rfl⟩
        obtain ⟨ok, Hok⟩ : ∃ ok, Hid ((xadd a.r.s b.r.s).2 = ok) := ⟨_, rfl⟩
        have Hu : Hid (((((a.upto b 2).cs.setIfInBounds 7 (.int .i64 m.s)).setIfInBounds 8 (.int .i64 m.mn)).setIfInBounds 9 (.int .i64 m.mx)) = (a.upto b 3).cs) := by rw [← Hm.out]; rfl
        go_wp2_with fail
        go_region_with (go_at_call 64; refine (part_any a.r b.r _ Ha.out.r Hb.out.r).mono ?_; rintro e w1 ⟨rfl, hb1⟩; rw [Hm.out, Hok.out, show m.cs = #[.int .i64 m.s, .int .i64 m.mn, .int .i64 m.mx] from rfl]; have b3' := b3.drew.bel hb1; have f0 := b3'.cell 7; have f1 := b3'.cell 8; have f2 := b3'.cell 9; simp [Ag.cs] at f0 f1 f2; have z0 := b3'.frozen 7; have z1 := b3'.frozen 8; have z2 := b3'.frozen 9)
        all_goals
          have b0' := ((((b0.drew.bel hb1).far (p := ⟨w.heap.size + 1 + 1 + 1, 7, none⟩) (by simp; omega) (.int .i64 m.s)).far (p := ⟨w.heap.size + 1 + 1 + 1, 8, none⟩) (by simp; omega) (.int .i64 m.mn)).far (p := ⟨w.heap.size + 1 + 1 + 1, 9, none⟩) (by simp; omega) (.int .i64 m.mx))
          have b1' := ((((b1.drew.bel hb1).far (p := ⟨w.heap.size + 1 + 1 + 1, 7, none⟩) (by simp) (.int .i64 m.s)).far (p := ⟨w.heap.size + 1 + 1 + 1, 8, none⟩) (by simp) (.int .i64 m.mn)).far (p := ⟨w.heap.size + 1 + 1 + 1, 9, none⟩) (by simp) (.int .i64 m.mx))
          have b2' := ((((b2.drew.bel hb1).far (p := ⟨w.heap.size + 1 + 1 + 1, 7, none⟩) (by simp) (.int .i64 m.s)).far (p := ⟨w.heap.size + 1 + 1 + 1, 8, none⟩) (by simp) (.int .i64 m.mn)).far (p := ⟨w.heap.size + 1 + 1 + 1, 9, none⟩) (by simp) (.int .i64 m.mx))
          have b3'' := ((b3'.set_ 7 (.int .i64 m.s)).set_ 8 (.int .i64 m.mn)).set_ 9 (.int .i64 m.mx)
          rw [Hu.out] at b3''
          have hB' := (((hB.drew.trans hb1).setCell (p := ⟨w.heap.size + 1 + 1 + 1, 7, none⟩) (by simp; omega) (.int .i64 m.s)).setCell (p := ⟨w.heap.size + 1 + 1 + 1, 8, none⟩) (by simp; omega) (.int .i64 m.mn)).setCell (p := ⟨w.heap.size + 1 + 1 + 1, 9, none⟩) (by simp; omega) (.int .i64 m.mx)
          generalize (((w1.setCell ⟨w.heap.size + 1 + 1 + 1, 7, none⟩ (.int .i64 m.s)).setCell ⟨w.heap.size + 1 + 1 + 1, 8, none⟩ (.int .i64 m.mn)).setCell ⟨w.heap.size + 1 + 1 + 1, 9, none⟩ (.int .i64 m.mx)) = w2 at *
          clear f0 f1 f2 z0 z1 z2 c0 c1 c2 d0 d1 d2 b0 b1 b2 b3 b3' hB hb1
          cases ok
          · have HJ' : Hid (a.join b = (.zero, false)) := by
              show _ = _
              rw [HJ.out, if_neg]
              rintro ⟨k1, k2, k3⟩
              first | (rw [Hok.out] at k1; cases k1) | (rw [Hok.out] at k2; cases k2) | (rw [Hok.out] at k3; cases k3)
            have gc0 := b2'.cell 0
            have gc1 := b2'.cell 1
            have gc2 := b2'.cell 2
            have gc3 := b2'.cell 3
            have gc4 := b2'.cell 4
            have gc5 := b2'.cell 5
            have gc6 := b2'.cell 6
            have gc7 := b2'.cell 7
            have gc8 := b2'.cell 8
            have gc9 := b2'.cell 9
            have gz0 := b2'.frozen 0
            have gz1 := b2'.frozen 1
            have gz2 := b2'.frozen 2
            have gz3 := b2'.frozen 3
            have gz4 := b2'.frozen 4
            have gz5 := b2'.frozen 5
            have gz6 := b2'.frozen 6
            have gz7 := b2'.frozen 7
            have gz8 := b2'.frozen 8
            have gz9 := b2'.frozen 9
            simp only [Ag.zero, Prt.zero, Ag.cs] at gc0 gc1 gc2 gc3 gc4 gc5 gc6 gc7 gc8 gc9
            simp at gc0 gc1 gc2 gc3 gc4 gc5 gc6 gc7 gc8 gc9
            go_wp2
            refine bodyPost_ret (v := .tuple #[.agg #[.int .i64 0, .int .i64 0, .int .i64 0, .int .i64 0, .int .i64 0, .int .i64 0, .int .i64 0, .int .i64 0, .int .i64 0, .int .i64 0], .bool false]) (by simp [results, Try.results41, go_sem, gc0, gc1, gc2, gc3, gc4, gc5, gc6, gc7, gc8, gc9] ) rfl ?_
            rw [HJ'.out]
            refine ⟨rfl, ?_⟩
            iterate 10 (refine Bel.setCell ?_ (by simp; omega) _)
            exact hB'
          · go_wp2
            go_roundg (3 - 3)
            case rel => exact ⟨3, rfl, by omega, rfl, rfl, hB', b0', b1', b2', b3'', by refine ⟨fun h => ?_, fun h => ?_, fun h => ?_⟩ <;> first | omega | exact Hok.out | exact hF.out.1 (by omega) | exact hF.out.2.1 (by omega)⟩
            case measure => omega
    · obtain rfl : k = 3 := by omega
      have HJ' : Hid (a.join b = (a.upto b 3, true)) := by
        show _ = _
        rw [HJ.out, if_pos ⟨hF.out.1 (by omega), hF.out.2.1 (by omega), hF.out.2.2 (by omega)⟩]
      obtain ⟨m, Hm⟩ : ∃ m, Hid (a.upto b 3 = m) := ⟨_, rfl⟩
      rw [Hm.out] at HJ' b3
      clear HJ hF
      have gc0 := b2.cell 0
      have gc1 := b2.cell 1
      have gc2 := b2.cell 2
      have gc3 := b2.cell 3
      have gc4 := b2.cell 4
      have gc5 := b2.cell 5
      have gc6 := b2.cell 6
      have gc7 := b2.cell 7
      have gc8 := b2.cell 8
      have gc9 := b2.cell 9
      have gz0 := b2.frozen 0
      have gz1 := b2.frozen 1
      have gz2 := b2.frozen 2
      have gz3 := b2.frozen 3
      have gz4 := b2.frozen 4
      have gz5 := b2.frozen 5
      have gz6 := b2.frozen 6
      have gz7 := b2.frozen 7
      have gz8 := b2.frozen 8
      have gz9 := b2.frozen 9
      have hc0 := b3.cell 0
      have hc1 := b3.cell 1
      have hc2 := b3.cell 2
      have hc3 := b3.cell 3
      have hc4 := b3.cell 4
      have hc5 := b3.cell 5
      have hc6 := b3.cell 6
      have hc7 := b3.cell 7
      have hc8 := b3.cell 8
      have hc9 := b3.cell 9
      simp only [Ag.zero, Prt.zero, Ag.cs] at gc0 gc1 gc2 gc3 gc4 gc5 gc6 gc7 gc8 gc9 hc0 hc1 hc2 hc3 hc4 hc5 hc6 hc7 hc8 hc9
      simp at gc0 gc1 gc2 gc3 gc4 gc5 gc6 gc7 gc8 gc9 hc0 hc1 hc2 hc3 hc4 hc5 hc6 hc7 hc8 hc9
      go_wp2
      refine bodyPost_ret (v := .tuple #[.agg m.cs, .bool true]) (by simp [results, Try.results41, go_sem, Ag.cs, gc0, gc1, gc2, gc3, gc4, gc5, gc6, gc7, gc8, gc9]) rfl ?_
      rw [HJ'.out]
      refine ⟨rfl, ?_⟩
      iterate 10 (refine Bel.setCell ?_ (by simp; omega) _)
      exact hB

end Go.Proofs.Ytelnhhbefdfeoaa

namespace Go.Proofs.Ytelnhhbefdfeoaa
open Go.RowKit
set_option linter.unusedVariables false

set_option maxRecDepth 100000 in
set_option maxHeartbeats 1000000 in
theorem join_left (a b : Ag) (w : World) (h1 : a.c = 0) :
    Calls Try.prog 41 #[.agg a.cs, .agg b.cs] w fun e w' => e = .returned (.tuple #[.agg b.cs, .bool true]) ∧ Bel w w' := by
  have q1 : (a.c == 0) = true := by simp [h1]
  clear h1
  unfold Ag.cs
  go_enter Try.func41, Try.ntmps41
  go_wp2
  refine bodyPost_ret (v := .tuple #[.agg b.cs, .bool true]) (by simp [results, Try.results41, go_sem, Ag.cs]) rfl ⟨rfl, ?_⟩
  exact (((Bel.refl _).alloc _).alloc _).alloc _

set_option maxRecDepth 100000 in
set_option maxHeartbeats 1000000 in
theorem join_right (a b : Ag) (w : World) (h1 : ¬ a.c = 0) (h2 : b.c = 0) :
    Calls Try.prog 41 #[.agg a.cs, .agg b.cs] w fun e w' => e = .returned (.tuple #[.agg a.cs, .bool true]) ∧ Bel w w' := by
  have q1 : (a.c == 0) = false := by simp [h1]
  have q2 : (b.c == 0) = true := by simp [h2]
  clear h1 h2
  unfold Ag.cs
  go_enter Try.func41, Try.ntmps41
  go_wp2
  refine bodyPost_ret (v := .tuple #[.agg a.cs, .bool true]) (by simp [results, Try.results41, go_sem, Ag.cs]) rfl ⟨rfl, ?_⟩
  exact (((Bel.refl _).alloc _).alloc _).alloc _

set_option maxRecDepth 100000 in
set_option maxHeartbeats 1000000 in
theorem join_over (a b : Ag) (w : World) (ha : a.ok) (hb : b.ok) (h1 : ¬ a.c = 0) (h2 : ¬ b.c = 0) (h3 : (xadd a.c b.c).2 = false) :
    Calls Try.prog 41 #[.agg a.cs, .agg b.cs] w fun e w' => e = .returned (.tuple #[.agg Ag.zero.cs, .bool false]) ∧ Bel w w' := by
  have q1 : (a.c == 0) = false := by simp [h1]
  have q2 : (b.c == 0) = false := by simp [h2]
  have Ha := Lib.hid ha
  have Hb := Lib.hid hb
  clear h1 h2 ha hb
  unfold Ag.cs
  go_enter Try.func41, Try.ntmps41
  go_wp2_with fail
  refine (add_any _ _ _ Ha.out.c Hb.out.c).mono ?_; rintro e w1 ⟨rfl, rfl⟩
  go_wp2
  refine bodyPost_ret (v := .tuple #[.agg Ag.zero.cs, .bool false]) (by simp [results, Try.results41, go_sem, Ag.cs, Ag.zero, Prt.zero]) rfl ⟨rfl, ?_⟩
  exact ((((Bel.refl _).alloc _).alloc _).alloc _).alloc _

theorem join_any (a b : Ag) (w : World) (ha : a.ok) (hb : b.ok) :
    Calls Try.prog 41 #[.agg a.cs, .agg b.cs] w fun e w' => e = .returned (.tuple #[.agg (a.join b).1.cs, .bool (a.join b).2]) ∧ Bel w w' := by
  by_cases h1 : a.c = 0
  · refine (join_left a b w h1).mono fun _ _ h => ⟨?_, h.2⟩
    rw [Ag.join, if_pos h1]; exact h.1
  · by_cases h2 : b.c = 0
    · refine (join_right a b w h1 h2).mono fun _ _ h => ⟨?_, h.2⟩
      rw [Ag.join, if_neg h1, if_pos h2]; exact h.1
    · by_cases h3 : (xadd a.c b.c).2 = true
      · exact join_long a b w ha hb h1 h2 h3
      · refine (join_over a b w ha hb h1 h2 (by simpa using h3)).mono fun _ _ h => ⟨?_, h.2⟩
        rw [Ag.join, if_neg h1, if_neg h2, if_neg (fun k => h3 k.1)]; exact h.1

theorem xfit_ok (x : Int) : I64 (xfit x).1 := by
  unfold xfit
  split
  · assumption
  · unfold I64; simp
theorem xadd_ok (a b : Int) : I64 (xadd a b).1 := xfit_ok _
theorem prt_join_ok {x y : Prt} (hx : x.ok) (hy : y.ok) : (x.join y).ok :=
  ⟨xadd_ok _ _, by have := hx.mn; have := hy.mn; unfold I64 at *; simp only [Prt.join]; omega, by have := hx.mx; have := hy.mx; unfold I64 at *; simp only [Prt.join]; omega⟩
theorem prt_zero_ok : Prt.zero.ok := ⟨by unfold I64 Prt.zero; simp, by unfold I64 Prt.zero; simp, by unfold I64 Prt.zero; simp⟩
theorem zero_ok : Ag.zero.ok := ⟨by unfold I64 Ag.zero; simp, prt_zero_ok, prt_zero_ok, prt_zero_ok⟩
theorem join_ok {a b : Ag} (ha : a.ok) (hb : b.ok) : (a.join b).1.ok := by
  unfold Ag.join
  split
  · exact hb
  · split
    · exact ha
    · split
      · exact ⟨xadd_ok _ _, prt_join_ok ha.p hb.p, prt_join_ok ha.q hb.q, prt_join_ok ha.r hb.r⟩
      · exact zero_ok

/-- The cells of many aggregates. -/
def agsCells (l : List Ag) : List Value := l.flatMap fun a => a.cs.toList
theorem agsCells_length (l : List Ag) : (agsCells l).length = l.length * 10 := by
  induction l with
  | nil => rfl
  | cons a l ih => simp only [agsCells, List.flatMap_cons, List.length_append, List.length_cons] at ih ⊢; rw [ih]; simp [Ag.cs]; omega
theorem agsCells_at (l : List Ag) (k j : Nat) (a : Ag) (h : l[k]? = some a) (hj : j < 10) : (agsCells l)[k * 10 + j]? = a.cs[j]? := by
  induction l generalizing k with
  | nil => simp at h
  | cons b l ih =>
    have hb : b.cs.toList.length = 10 := by simp [Ag.cs]
    cases k with
    | zero =>
      simp at h
      subst h
      simp only [agsCells, List.flatMap_cons]
      rw [List.getElem?_append_left (by omega)]
      simp
    | succ k =>
      simp at h
      have := ih k h
      simp only [agsCells, List.flatMap_cons] at this ⊢
      rw [List.getElem?_append_right (by omega), hb, ← this]
      congr 1
      omega

theorem spot_none {w : World} {ad : Addr} {u : Value} (h : w.cell? (ad.add 0) = some u) : ad = ⟨ad.block, ad.off, none⟩ := by
  obtain ⟨b, o, sp⟩ := ad
  have h1 := World.cell?_spot h
  simp [Addr.add] at h1
  subst h1
  rfl

theorem Rd.ag {w : World} {A : Option Addr} {n k : Nat} {l : List Ag} (h : Rd w 10 A n (agsCells l)) (hk : k < n) :
    ∃ b o a, A = some ⟨b, o, none⟩ ∧ l[k]? = some a ∧ ∀ j, j < 10 → w.cell? ⟨b, o + k * 10 + j, none⟩ = a.cs[j]? := by
  obtain ⟨ad, e, _, hc⟩ := h.2 (by omega)
  have hl : l.length = n := by have := h.1; rw [agsCells_length] at this; omega
  have key : ∀ j, j < 10 → w.cell? (ad.add (k * 10 + j)) = l[k].cs[j]? := by
    intro j hj
    have h1 := agsCells_at l k j l[k] (List.getElem?_eq_getElem (by omega)) hj
    have h2 : (l[k].cs)[j]? = some ((l[k].cs)[j]'(by simp [Ag.cs]; omega)) := Array.getElem?_eq_getElem _
    rw [h2] at h1 ⊢
    exact hc _ _ h1
  have h0 : w.cell? (ad.add 0) = some (.int .i64 l[0].c) := by
    have h1 := agsCells_at l 0 0 l[0] (List.getElem?_eq_getElem (by omega)) (by omega)
    exact hc 0 _ h1
  have hs := spot_none h0
  refine ⟨ad.block, ad.off, l[k], by rw [e, ← hs], List.getElem?_eq_getElem (by omega), fun j hj => ?_⟩
  have h3 := key j hj
  rw [hs, Addr.add_mid, ← Nat.add_assoc] at h3
  exact h3

/-- The world behind a store of a whole aggregate at a block's head. -/
def agSet (w : World) (g : Nat) (m : Ag) : World := ((((((((((w.setCell ⟨g, 0, none⟩ (.int .i64 m.c)).setCell ⟨g, 1, none⟩ (.int .i64 m.p.s)).setCell ⟨g, 2, none⟩ (.int .i64 m.p.mn)).setCell ⟨g, 3, none⟩ (.int .i64 m.p.mx)).setCell ⟨g, 4, none⟩ (.int .i64 m.q.s)).setCell ⟨g, 5, none⟩ (.int .i64 m.q.mn)).setCell ⟨g, 6, none⟩ (.int .i64 m.q.mx)).setCell ⟨g, 7, none⟩ (.int .i64 m.r.s)).setCell ⟨g, 8, none⟩ (.int .i64 m.r.mn)).setCell ⟨g, 9, none⟩ (.int .i64 m.r.mx))
theorem set_all (cs : Array Value) (hs : cs.size = 10) (m : Ag) : ((((((((((cs.setIfInBounds 0 (.int .i64 m.c)).setIfInBounds 1 (.int .i64 m.p.s)).setIfInBounds 2 (.int .i64 m.p.mn)).setIfInBounds 3 (.int .i64 m.p.mx)).setIfInBounds 4 (.int .i64 m.q.s)).setIfInBounds 5 (.int .i64 m.q.mn)).setIfInBounds 6 (.int .i64 m.q.mx)).setIfInBounds 7 (.int .i64 m.r.s)).setIfInBounds 8 (.int .i64 m.r.mn)).setIfInBounds 9 (.int .i64 m.r.mx)) = m.cs := by
  obtain ⟨l⟩ := cs
  match l, hs with
  | [x0, x1, x2, x3, x4, x5, x6, x7, x8, x9], _ => simp [Ag.cs]
theorem Blk.agSet {w : World} {g : Nat} {t : TypeId} {cs : Array Value} (h : Blk w g t cs) (hs : cs.size = 10) (m : Ag) : Blk (agSet w g m) g t m.cs := by
  have h2 := ((((((((((h.set_ 0 (.int .i64 m.c)).set_ 1 (.int .i64 m.p.s)).set_ 2 (.int .i64 m.p.mn)).set_ 3 (.int .i64 m.p.mx)).set_ 4 (.int .i64 m.q.s)).set_ 5 (.int .i64 m.q.mn)).set_ 6 (.int .i64 m.q.mx)).set_ 7 (.int .i64 m.r.s)).set_ 8 (.int .i64 m.r.mn)).set_ 9 (.int .i64 m.r.mx))
  rw [set_all cs hs m] at h2
  exact h2
theorem Blk.agFar {w : World} {g g' : Nat} {t : TypeId} {cs : Array Value} (h : Blk w g' t cs) (hne : g' ≠ g) (m : Ag) : Blk (Proofs.Ytelnhhbefdfeoaa.agSet w g m) g' t cs := by
  unfold Proofs.Ytelnhhbefdfeoaa.agSet
  iterate 10 (refine Blk.far ?_ hne _)
  exact h
theorem Bel.agSet {a w : World} {g : Nat} (h : Bel a w) (hg : a.heap.size ≤ g) (m : Ag) : Bel a (Proofs.Ytelnhhbefdfeoaa.agSet w g m) := by
  unfold Proofs.Ytelnhhbefdfeoaa.agSet
  iterate 10 (refine Bel.setCell ?_ hg _)
  exact h
theorem ag_size (m : Ag) : m.cs.size = 10 := rfl

/-- Many together: a sum on the way does not fit: false. -/
def Ag.all : Ag → List Ag → Ag × Bool
  | a, [] => (a, true)
  | a, b :: l => if (a.join b).2 = true then Ag.all (a.join b).1 l else (.zero, false)

theorem all_snoc (z : Ag) (l : List Ag) (b : Ag) : Ag.all z (l ++ [b]) = if (Ag.all z l).2 = true then (if ((Ag.all z l).1.join b).2 = true then ((Ag.all z l).1.join b) else (.zero, false)) else (.zero, false) := by
  induction l generalizing z with
  | nil =>
    simp only [List.nil_append, Ag.all]
    by_cases h : (z.join b).2 = true
    · simp [h]; rw [← h]
    · simp [h]
  | cons a l ih =>
    simp only [List.cons_append, Ag.all]
    by_cases h : (z.join a).2 = true
    · simp only [if_pos h]; exact ih _
    · simp [h]

theorem all_false {z : Ag} {l m : List Ag} (h : (Ag.all z l).2 = false) : Ag.all z (l ++ m) = (.zero, false) := by
  induction l generalizing z with
  | nil => simp [Ag.all] at h
  | cons a l ih =>
    simp only [List.cons_append, Ag.all] at h ⊢
    by_cases h' : (z.join a).2 = true
    · simp only [if_pos h'] at h ⊢; exact ih h
    · simp [h']

end Go.Proofs.Ytelnhhbefdfeoaa

namespace Go.Proofs.Ytelnhhbefdfeoaa
open Go.RowKit
set_option linter.unusedVariables false

theorem Bel.set3 {a w : World} {g x y z : Nat} (h : Bel a w) (hg : a.heap.size ≤ g) (u u' u'' : Value) : Bel a (((w.setCell ⟨g, x, none⟩ u).setCell ⟨g, y, none⟩ u').setCell ⟨g, z, none⟩ u'') :=
  ((h.setCell hg _).setCell hg _).setCell hg _
theorem Blk.far3 {w : World} {g' g x y z : Nat} {t : TypeId} {cs : Array Value} (h : Blk w g' t cs) (hne : g' ≠ g) (u u' u'' : Value) : Blk (((w.setCell ⟨g, x, none⟩ u).setCell ⟨g, y, none⟩ u').setCell ⟨g, z, none⟩ u'') g' t cs :=
  ((h.far (p := ⟨g, x, none⟩) hne _).far (p := ⟨g, y, none⟩) hne _).far (p := ⟨g, z, none⟩) hne _
theorem Blk.set3 {w : World} {g : Nat} {t : TypeId} {cs cs' : Array Value} (h : Blk w g t cs) (x y z : Nat) (u u' u'' : Value) (e : ((cs.setIfInBounds x u).setIfInBounds y u').setIfInBounds z u'' = cs') : Blk (((w.setCell ⟨g, x, none⟩ u).setCell ⟨g, y, none⟩ u').setCell ⟨g, z, none⟩ u'') g t cs' := by
  have := ((h.set_ x u).set_ y u').set_ z u''
  rw [e] at this
  exact this

theorem Rd.intAt {w : World} {A : Option Addr} {n k : Nat} {kd : IntKind} {zs : List Int} (h : Rd w 1 A n (zs.map (Value.int kd))) (hk : k < n) :
    ∃ b o z, A = some ⟨b, o, none⟩ ∧ zs[k]? = some z ∧ w.cell? ⟨b, o + k, none⟩ = some (.int kd z) := by
  obtain ⟨ad, z, e, hz, hc⟩ := h.int hk
  obtain ⟨ad', z', e', _, hc'⟩ := h.int (k := 0) (by omega)
  rw [e] at e'
  injection e' with e'
  subst e'
  have hs := spot_none hc'
  refine ⟨ad.block, ad.off, z, by rw [e, ← hs], hz, ?_⟩
  rw [hs, Addr.add_mid] at hc
  exact hc

/-- One value's part. -/
def prtOf (zs : List Int) (i : Nat) : Prt := match zs[i]? with | some v => ⟨v, v, v⟩ | none => .zero
/-- The aggregate of one row's values. -/
def Ag.of (zs : List Int) : Ag := ⟨1, prtOf zs 0, prtOf zs 1, prtOf zs 2⟩
theorem prtOf_some {zs : List Int} {i : Nat} {v : Int} (h : zs[i]? = some v) : prtOf zs i = ⟨v, v, v⟩ := by simp only [prtOf, h]
theorem prtOf_none {zs : List Int} {i : Nat} (h : zs[i]? = none) : prtOf zs i = .zero := by simp only [prtOf, h]
theorem prtOf_take {zs : List Int} {i k : Nat} : prtOf (zs.take k) i = if i < k then prtOf zs i else .zero := by
  by_cases h : i < k
  · rw [if_pos h]; simp only [prtOf, List.getElem?_take_of_lt h]
  · rw [if_neg h]; exact prtOf_none (by rw [List.getElem?_take, if_neg h])

theorem prtOf_nil (i : Nat) : prtOf [] i = .zero := prtOf_none (by simp)
theorem of_step0 (zs : List Int) (x : Int) (h : zs[0]? = some x) : (((Ag.of (zs.take 0)).cs.setIfInBounds 1 (.int .i64 x)).setIfInBounds 2 (.int .i64 x)).setIfInBounds 3 (.int .i64 x) = (Ag.of (zs.take 1)).cs := by
  rw [List.take_zero]
  simp [Ag.of, Ag.cs, prtOf_take, prtOf_some h, prtOf_nil]
theorem of_step1 (zs : List Int) (x : Int) (h : zs[1]? = some x) : (((Ag.of (zs.take 1)).cs.setIfInBounds 4 (.int .i64 x)).setIfInBounds 5 (.int .i64 x)).setIfInBounds 6 (.int .i64 x) = (Ag.of (zs.take 2)).cs := by
  simp [Ag.of, Ag.cs, prtOf_take, prtOf_some h]
theorem of_step2 (zs : List Int) (x : Int) (h : zs[2]? = some x) : (((Ag.of (zs.take 2)).cs.setIfInBounds 7 (.int .i64 x)).setIfInBounds 8 (.int .i64 x)).setIfInBounds 9 (.int .i64 x) = (Ag.of (zs.take 3)).cs := by
  simp [Ag.of, Ag.cs, prtOf_take, prtOf_some h]
theorem of_zero (zs : List Int) : (Ag.of (zs.take 0)).cs = #[.int .i64 1, .int .i64 0, .int .i64 0, .int .i64 0, .int .i64 0, .int .i64 0, .int .i64 0, .int .i64 0, .int .i64 0, .int .i64 0] := by
  rw [List.take_zero]
  rfl
theorem of_ok {zs : List Int} (h : ∀ z ∈ zs, I64 z) : (Ag.of zs).ok := by
  have hp : ∀ i, (prtOf zs i).ok := by
    intro i
    cases hz : zs[i]? with
    | none => rw [prtOf_none hz]; exact prt_zero_ok
    | some v => rw [prtOf_some hz]; have := h v (List.mem_of_getElem? hz); exact ⟨this, this, this⟩
  exact ⟨by unfold I64 Ag.of; simp, hp 0, hp 1, hp 2⟩

set_option maxRecDepth 100000 in
set_option maxHeartbeats 1000000 in
theorem of_many (A : Option Addr) (n c : Nat) (w : World) (hn : 3 < n) (hm : n ≤ 9223372036854775807) :
    Calls Try.prog 51 #[.slice A n c] w fun e w' => e = .returned (.tuple #[.agg Ag.zero.cs, .int .i64 5]) ∧ Bel w w' := by
  go_enter Try.func51, Try.ntmps51
  go_wp2
  refine bodyPost_ret (v := .tuple #[.agg Ag.zero.cs, .int .i64 5]) (by simp [results, Try.results51, go_sem, Ag.cs, Ag.zero, Prt.zero]) rfl ⟨rfl, ?_⟩
  exact (Bel.refl _).alloc _

set_option maxRecDepth 100000 in
set_option maxHeartbeats 4000000 in
theorem of_any (A : Option Addr) (n c : Nat) (zs : List Int) (w : World) (hr : Rd w 1 A n (zs.map (Value.int .i64))) (hn : n ≤ 3) :
    Calls Try.prog 51 #[.slice A n c] w fun e w' => e = .returned (.tuple #[.agg (Ag.of zs).cs, .int .i64 0]) ∧ Bel w w' := by
  have hlen : Hid (zs.length = n) := by have := hr.len; show _ = _; simpa using this
  have dn : decide (3 < (n : Int)) = false := by simp; omega
  go_enter Try.func51, Try.ntmps51
  go_wp2
  rw [← of_zero zs]
  have BB : Bel w ((w.alloc (.cells Ag.zero.cs 82)).alloc (.cells (Ag.of (zs.take 0)).cs 82)) := ((Bel.refl w).alloc _).alloc _
  have B0 : Blk ((w.alloc (.cells Ag.zero.cs 82)).alloc (.cells (Ag.of (zs.take 0)).cs 82)) w.heap.size 82 Ag.zero.cs := (Blk.new w _ _).alloc _
  have B1 : Blk ((w.alloc (.cells Ag.zero.cs 82)).alloc (.cells (Ag.of (zs.take 0)).cs 82)) (w.heap.size + 1) 82 (Ag.of (zs.take 0)).cs := by
    have := Blk.new (w.alloc (.cells Ag.zero.cs 82)) 82 (Ag.of (zs.take 0)).cs
    rw [World.size_alloc] at this
    exact this
  go_loopg [14] n (fun g i wr => ∃ k : Nat, g = n - k ∧ k ≤ n ∧ k ≤ 3 ∧ i = .int .i64 k ∧ Bel w wr ∧ Blk wr w.heap.size 82 Ag.zero.cs ∧ Blk wr (w.heap.size + 1) 82 (Ag.of (zs.take k)).cs)
  case atStart => exact ⟨0, rfl, by omega, by omega, rfl, BB, B0, B1⟩
  case round =>
    clear B0 B1 BB
    obtain ⟨k, hgk, hk, hk3, rfl, hB, b0, b1⟩ := hrel
    by_cases hlt : k < n
    · obtain ⟨bb, oo, x, rfl, hx, hcx⟩ := (hr.bel hB).intAt hlt
      have Hx := Lib.hid hx
      clear hx
      rcases (show k = 0 ∨ k = 1 ∨ k = 2 by omega) with rfl | rfl | rfl
      · have f0 := b1.cell 1
        have f1 := b1.cell 2
        have f2 := b1.cell 3
        have z0 := b1.frozen 1
        have z1 := b1.frozen 2
        have z2 := b1.frozen 3
        simp [Ag.cs] at f0 f1 f2
        try simp only [Nat.add_zero] at hcx
        rw [show ((0 : Nat) : Int) = 0 from rfl]
        go_wp2
        go_roundg (n - 1)
        case rel => exact ⟨1, rfl, by omega, by omega, rfl, Bel.set3 hB (by omega) _ _ _, Blk.far3 b0 (by omega) _ _ _, Blk.set3 b1 1 2 3 (.int .i64 x) (.int .i64 x) (.int .i64 x) (of_step0 zs x Hx.out)⟩
        case measure => omega
      · have f0 := b1.cell 4
        have f1 := b1.cell 5
        have f2 := b1.cell 6
        have z0 := b1.frozen 4
        have z1 := b1.frozen 5
        have z2 := b1.frozen 6
        simp [Ag.cs] at f0 f1 f2
        try simp only [Nat.add_zero] at hcx
        rw [show ((1 : Nat) : Int) = 1 from rfl]
        go_wp2
        go_roundg (n - 2)
        case rel => exact ⟨2, rfl, by omega, by omega, rfl, Bel.set3 hB (by omega) _ _ _, Blk.far3 b0 (by omega) _ _ _, Blk.set3 b1 4 5 6 (.int .i64 x) (.int .i64 x) (.int .i64 x) (of_step1 zs x Hx.out)⟩
        case measure => omega
      · have f0 := b1.cell 7
        have f1 := b1.cell 8
        have f2 := b1.cell 9
        have z0 := b1.frozen 7
        have z1 := b1.frozen 8
        have z2 := b1.frozen 9
        simp [Ag.cs] at f0 f1 f2
        try simp only [Nat.add_zero] at hcx
        rw [show ((2 : Nat) : Int) = 2 from rfl]
        go_wp2
        go_roundg (n - 3)
        case rel => exact ⟨3, rfl, by omega, by omega, rfl, Bel.set3 hB (by omega) _ _ _, Blk.far3 b0 (by omega) _ _ _, Blk.set3 b1 7 8 9 (.int .i64 x) (.int .i64 x) (.int .i64 x) (of_step2 zs x Hx.out)⟩
        case measure => omega
    · have HE : Hid (zs.take k = zs) := by show _ = _; exact List.take_of_length_le (by have := hlen.out; omega)
      rw [HE.out] at b1
      obtain ⟨m, Hm⟩ : ∃ m, Hid (Ag.of zs = m) := ⟨_, rfl⟩
      rw [Hm.out] at b1
      clear HE
      have x0 := b0.cell 0
      have x1 := b0.cell 1
      have x2 := b0.cell 2
      have x3 := b0.cell 3
      have x4 := b0.cell 4
      have x5 := b0.cell 5
      have x6 := b0.cell 6
      have x7 := b0.cell 7
      have x8 := b0.cell 8
      have x9 := b0.cell 9
      have y0 := b0.frozen 0
      have y1 := b0.frozen 1
      have y2 := b0.frozen 2
      have y3 := b0.frozen 3
      have y4 := b0.frozen 4
      have y5 := b0.frozen 5
      have y6 := b0.frozen 6
      have y7 := b0.frozen 7
      have y8 := b0.frozen 8
      have y9 := b0.frozen 9
      have d0 := b1.cell 0
      have d1 := b1.cell 1
      have d2 := b1.cell 2
      have d3 := b1.cell 3
      have d4 := b1.cell 4
      have d5 := b1.cell 5
      have d6 := b1.cell 6
      have d7 := b1.cell 7
      have d8 := b1.cell 8
      have d9 := b1.cell 9
      simp only [Ag.zero, Prt.zero, Ag.cs] at x0 x1 x2 x3 x4 x5 x6 x7 x8 x9 d0 d1 d2 d3 d4 d5 d6 d7 d8 d9
      simp at x0 x1 x2 x3 x4 x5 x6 x7 x8 x9 d0 d1 d2 d3 d4 d5 d6 d7 d8 d9
      go_wp2
      refine bodyPost_ret (v := .tuple #[.agg m.cs, .int .i64 0]) (by simp [results, Try.results51, go_sem, Ag.cs, x0, x1, x2, x3, x4, x5, x6, x7, x8, x9]) rfl ?_
      rw [Hm.out]
      exact ⟨rfl, hB.agSet (g := w.heap.size) (by omega) m⟩

end Go.Proofs.Ytelnhhbefdfeoaa

namespace Go.Proofs.Ytelnhhbefdfeoaa
open Go.RowKit
set_option linter.unusedVariables false

/-- The document's Join does what agg.Join does. -/
def RJoinSaid : Prop := ∀ (a b : Ag) (w : World), a.ok → b.ok →
    Calls Try.prog 37 #[.agg a.cs, .agg b.cs] w fun e w' => e = .returned (.tuple #[.agg (a.join b).1.cs, .bool (a.join b).2]) ∧ Bel w w'

theorem rowAg : RowTy Try.prog 82 10 := ⟨⟨_, Try.underlying82, rfl⟩, by kernel_rfl⟩
theorem rowPart : RowTy Try.prog 79 3 := ⟨⟨_, Try.underlying79, rfl⟩, by kernel_rfl⟩
theorem ag_one (m : Ag) : m.cs.all (·.oneCell') = true := by simp [Ag.cs, Value.oneCell']
theorem ag_range {w : World} {A : Option Addr} {n k : Nat} {l : List Ag} (h : Rd w 10 A n (agsCells l)) (hk : k < n) :
    ∃ b o a, A = some ⟨b, o, none⟩ ∧ l[k]? = some a ∧ w.rangeAt b (o + k * 10) a.cs.toList := by
  obtain ⟨b, o, a, e, ha, hc⟩ := h.ag hk
  refine ⟨b, o, a, e, ha, fun j v hv => ?_⟩
  have hj : j < 10 := by
    rcases Nat.lt_or_ge j 10 with h' | h'
    · exact h'
    · rw [List.getElem?_eq_none (by simp [Ag.cs]; omega)] at hv; cases hv
  rw [hc j hj]
  simpa using hv

end Go.Proofs.Ytelnhhbefdfeoaa

namespace Go.Proofs.Ytelnhhbefdfeoaa
open Go.RowKit Go.ChangeShapes Go.WideShapes Go.Deep
set_option linter.unusedVariables false

set_option maxRecDepth 100000 in
theorem cells_i64 : Try.prog.cellsOf 2 = 1 := by kernel_rfl
set_option maxRecDepth 100000 in
theorem cells_part : Try.prog.cellsOf 79 = 3 := by kernel_rfl
set_option maxRecDepth 100000 in
theorem cells_parts : Try.prog.cellsOf 80 = 9 := by kernel_rfl
set_option maxRecDepth 100000 in
theorem cells_agg : Try.prog.cellsOf 82 = 10 := by kernel_rfl

theorem i64_of {n : Int} (h : (Lit.int .i64 n).wf = true) : I64 n := bounds_i64 h

/-- A part, three of them, an aggregate. -/
theorem opens_part : OpensTo Try.prog 79 (fun _ cs (p : Prt) => cs = p.cs.toList ∧ p.ok) := by
  intro H enc w base spare held fuel cs x h hz
  have hl := struct_len Try.underlying79 h cells_part
  obtain ⟨a, ha, wa⟩ := field_of Try.underlying79 h hz 0 _ rfl (opens_int Try.underlying2) cells_i64
  obtain ⟨b, hb, wb⟩ := field_of Try.underlying79 h hz 1 _ rfl (opens_int Try.underlying2) cells_i64
  obtain ⟨c, hc, wc⟩ := field_of Try.underlying79 h hz 2 _ rfl (opens_int Try.underlying2) cells_i64
  refine ⟨⟨a, b, c⟩, ?_, ⟨i64_of wa, i64_of wb, i64_of wc⟩⟩
  match cs, hl with
  | [x0, x1, x2], _ =>
    simp at ha hb hc
    simp [Prt.cs, ha, hb, hc]

theorem opens_agg : OpensTo Try.prog 82 (fun _ cs (a : Ag) => cs = a.cs.toList ∧ a.ok) := by
  intro H enc w base spare held fuel cs x h hz
  have hl := struct_len Try.underlying82 h cells_agg
  obtain ⟨c, hc, wc⟩ := field_of Try.underlying82 h hz 0 _ rfl (opens_int Try.underlying2) cells_i64
  have hM : OpensTo Try.prog 80 (fun _ cs (x : Prt × Prt × Prt) => (cs.drop 0).take 3 = x.1.cs.toList ∧ (cs.drop 3).take 3 = x.2.1.cs.toList ∧ (cs.drop 6).take 3 = x.2.2.cs.toList ∧ x.1.ok ∧ x.2.1.ok ∧ x.2.2.ok) := by
    intro H enc w base spare held fuel cs x h hz
    obtain ⟨p, hp, wp⟩ := elem_of Try.underlying80 h hz opens_part cells_part 0 (by omega)
    obtain ⟨q, hq, wq⟩ := elem_of Try.underlying80 h hz opens_part cells_part 1 (by omega)
    obtain ⟨r, hr, wr⟩ := elem_of Try.underlying80 h hz opens_part cells_part 2 (by omega)
    exact ⟨(p, q, r), hp, hq, hr, wp, wq, wr⟩
  obtain ⟨⟨p, q, r⟩, hp, hq, hr, wp, wq, wr⟩ := field_of Try.underlying82 h hz 1 _ rfl hM cells_parts
  refine ⟨⟨c, p, q, r⟩, ?_, ⟨i64_of wc, wp, wq, wr⟩⟩
  match cs, hl with
  | [x0, x1, x2, x3, x4, x5, x6, x7, x8, x9], _ =>
    simp [Prt.cs] at hc hp hq hr
    simp [Ag.cs, hc, hp, hq, hr]

set_option maxRecDepth 100000 in
/-- An aggregate by value. -/
theorem open_ag {H : Type} {enc : TypeId × Value → H} {w : World} {base b0 : Nat} {spare : Nat → Bool} {held : Bool} {r : Reach} {v : Value} {d : DataW H} {p : List MemPlace}
    (hv : Value.okWide Try.prog w r b0 82 v) (h : DataW.Trod enc Try.prog w base spare held 82 v d p) (hz : Sized Try.prog 82 d) : ∃ a : Ag, v = .agg a.cs ∧ a.ok := by
  obtain ⟨cs, rfl, _⟩ := okWide_struct Try.underlying82 hv
  obtain ⟨fuel, hf⟩ := h
  obtain ⟨a, ha, ho⟩ := opens_agg hf hz
  refine ⟨a, ?_, ho⟩
  simp only [Value.cells] at ha
  rw [Array.toList_inj.1 ha]

end Go.Proofs.Ytelnhhbefdfeoaa

namespace Go.Proofs.Ytelnhhbefdfeoaa
open Go.RowKit
set_option linter.unusedVariables false

theorem radd_same (a b : Int) (w : World) (ha : I64 a) (hb : I64 b) :
    Calls Try.prog 57 #[.int .i64 a, .int .i64 b] w fun e w' => e = .returned (.tuple #[.int .i64 (xadd a b).1, .bool (xadd a b).2]) ∧ w' = w :=
  (radd_any a b w ha hb).mono fun _ _ h => ⟨h.1, h.2.symm⟩

set_option maxRecDepth 100000 in
set_option maxHeartbeats 40000000 in
theorem rjoin_long (a b : Ag) (w : World) (ha : a.ok) (hb : b.ok) (h1 : ¬ a.c = 0) (h2 : ¬ b.c = 0) (h3 : (xadd a.c b.c).2 = true) :
    Calls Try.prog 37 #[.agg a.cs, .agg b.cs] w fun e w' => e = .returned (.tuple #[.agg (a.join b).1.cs, .bool (a.join b).2]) ∧ Bel w w' := by
  have Ha := Lib.hid ha
  have Hb := Lib.hid hb
  clear ha hb
  have q1 : (a.c == 0) = false := by simpa using h1
  have q2 : (b.c == 0) = false := by simpa using h2
  have HJ : Hid (a.join b = if (xadd a.p.s b.p.s).2 = true ∧ (xadd a.q.s b.q.s).2 = true ∧ (xadd a.r.s b.r.s).2 = true then (a.upto b 3, true) else (.zero, false)) := by
    show _ = _
    unfold Ag.join Ag.upto
    rw [if_neg h1, if_neg h2]
    simp [h3]
  clear h1 h2
  have ea : a.cs = #[.int .i64 a.c, .int .i64 a.p.s, .int .i64 a.p.mn, .int .i64 a.p.mx, .int .i64 a.q.s, .int .i64 a.q.mn, .int .i64 a.q.mx, .int .i64 a.r.s, .int .i64 a.r.mn, .int .i64 a.r.mx] := rfl
  have eb : b.cs = #[.int .i64 b.c, .int .i64 b.p.s, .int .i64 b.p.mn, .int .i64 b.p.mx, .int .i64 b.q.s, .int .i64 b.q.mn, .int .i64 b.q.mx, .int .i64 b.r.s, .int .i64 b.r.mn, .int .i64 b.r.mx] := rfl
  rw [ea, eb]
  clear ea eb
  go_enter Try.func37, Try.ntmps37
  go_wp2_with fail
  refine (radd_any _ _ _ Ha.out.c Hb.out.c).mono ?_; rintro e w1 ⟨rfl, rfl⟩
  go_wp2_with fail
  have B0 : Blk ((((w.alloc (.cells a.cs 82)).alloc (.cells b.cs 82)).alloc (.cells Ag.zero.cs 82)).alloc (.cells (a.upto b 0).cs 82)) w.heap.size 82 a.cs := (((Blk.new w _ _).alloc _).alloc _).alloc _
  have B1 : Blk ((((w.alloc (.cells a.cs 82)).alloc (.cells b.cs 82)).alloc (.cells Ag.zero.cs 82)).alloc (.cells (a.upto b 0).cs 82)) (w.heap.size + 1) 82 b.cs := by
    have := ((Blk.new (w.alloc (.cells a.cs 82)) 82 b.cs).alloc (.cells Ag.zero.cs 82)).alloc (.cells (a.upto b 0).cs 82)
    simpa using this
  have B2 : Blk ((((w.alloc (.cells a.cs 82)).alloc (.cells b.cs 82)).alloc (.cells Ag.zero.cs 82)).alloc (.cells (a.upto b 0).cs 82)) (w.heap.size + 1 + 1) 82 Ag.zero.cs := by
    have := (Blk.new ((w.alloc (.cells a.cs 82)).alloc (.cells b.cs 82)) 82 Ag.zero.cs).alloc (.cells (a.upto b 0).cs 82)
    simpa using this
  have B3 : Blk ((((w.alloc (.cells a.cs 82)).alloc (.cells b.cs 82)).alloc (.cells Ag.zero.cs 82)).alloc (.cells (a.upto b 0).cs 82)) (w.heap.size + 1 + 1 + 1) 82 (a.upto b 0).cs := by
    have := Blk.new (((w.alloc (.cells a.cs 82)).alloc (.cells b.cs 82)).alloc (.cells Ag.zero.cs 82)) 82 (a.upto b 0).cs
    simpa using this
  have BB : Bel w ((((w.alloc (.cells a.cs 82)).alloc (.cells b.cs 82)).alloc (.cells Ag.zero.cs 82)).alloc (.cells (a.upto b 0).cs 82)) := ((((Bel.refl w).alloc _).alloc _).alloc _).alloc _
  go_loopg [9] 3 (fun g s32 wr => ∃ k : Nat, g = 3 - k ∧ k ≤ 3 ∧ s32 = .int .i64 k ∧ Bel w wr ∧ Blk wr w.heap.size 82 a.cs ∧ Blk wr (w.heap.size + 1) 82 b.cs ∧ Blk wr (w.heap.size + 1 + 1) 82 Ag.zero.cs ∧ Blk wr (w.heap.size + 1 + 1 + 1) 82 (a.upto b k).cs ∧
    Hid ((0 < k → (xadd a.p.s b.p.s).2 = true) ∧ (1 < k → (xadd a.q.s b.q.s).2 = true) ∧ (2 < k → (xadd a.r.s b.r.s).2 = true)))
  case atStart => exact ⟨0, rfl, by omega, rfl, BB, B0, B1, B2, B3, by refine ⟨?_, ?_, ?_⟩ <;> intro h <;> omega⟩
  case round =>
    clear B0 B1 B2 B3 BB
    obtain ⟨k, hgk, hk, rfl, hB, b0, b1, b2, b3, hF⟩ := hrel
    by_cases hlt : k < 3
    · rcases (show k = 0 ∨ k = 1 ∨ k = 2 by omega) with rfl | rfl | rfl
      · rw [show ((0 : Nat) : Int) = 0 from rfl]
        have c0 := b0.cell 1
        have d0 := b1.cell 1
        have f0 := b3.cell 1
        have z0 := b3.frozen 1
        have c1 := b0.cell 2
        have d1 := b1.cell 2
        have f1 := b3.cell 2
        have z1 := b3.frozen 2
        have c2 := b0.cell 3
        have d2 := b1.cell 3
        have f2 := b3.cell 3
        have z2 := b3.frozen 3
        simp [Ag.cs] at c0 c1 c2 d0 d1 d2 f0 f1 f2
        obtain ⟨⟨sm, ok⟩, Hok⟩ : ∃ x, Hid (xadd a.p.s b.p.s = x) := ⟨_, rfl⟩
        have Hu : Hid (((((a.upto b 0).cs.setIfInBounds 1 (.int .i64 sm)).setIfInBounds 2 (.int .i64 (min a.p.mn b.p.mn))).setIfInBounds 3 (.int .i64 (max a.p.mx b.p.mx))) = (a.upto b 1).cs) := by rw [show sm = (xadd a.p.s b.p.s).1 by rw [Hok.out]]; rfl
        go_wp2_with fail
        go_quiet ((go_at_call 57; exact Calls.quiet_of_same (radd_same _ _ _ Ha.out.p.s Hb.out.p.s)))
        rw [Hok.out]
        cases ok
        · have HJ' : Hid (a.join b = (.zero, false)) := by
            show _ = _
            rw [HJ.out, if_neg]
            rintro ⟨k1, k2, k3⟩
            first | (rw [Hok.out] at k1; cases k1) | (rw [Hok.out] at k2; cases k2) | (rw [Hok.out] at k3; cases k3)
          clear c0 c1 c2 d0 d1 d2 f0 f1 f2 z0 z1 z2
          have gc0 := b2.cell 0
          have gc1 := b2.cell 1
          have gc2 := b2.cell 2
          have gc3 := b2.cell 3
          have gc4 := b2.cell 4
          have gc5 := b2.cell 5
          have gc6 := b2.cell 6
          have gc7 := b2.cell 7
          have gc8 := b2.cell 8
          have gc9 := b2.cell 9
          have gz0 := b2.frozen 0
          have gz1 := b2.frozen 1
          have gz2 := b2.frozen 2
          have gz3 := b2.frozen 3
          have gz4 := b2.frozen 4
          have gz5 := b2.frozen 5
          have gz6 := b2.frozen 6
          have gz7 := b2.frozen 7
          have gz8 := b2.frozen 8
          have gz9 := b2.frozen 9
          simp only [Ag.zero, Prt.zero, Ag.cs] at gc0 gc1 gc2 gc3 gc4 gc5 gc6 gc7 gc8 gc9
          simp at gc0 gc1 gc2 gc3 gc4 gc5 gc6 gc7 gc8 gc9
          go_wp2
          refine bodyPost_ret (v := .tuple #[.agg Ag.zero.cs, .bool false]) (by simp [results, Try.results37, go_sem, Ag.zero, Prt.zero, Ag.cs, gc0, gc1, gc2, gc3, gc4, gc5, gc6, gc7, gc8, gc9]) rfl ?_
          rw [HJ'.out]
          exact ⟨rfl, (hB.drewN _).agSet (g := w.heap.size + 1 + 1) (by omega) .zero⟩
        · have Hq := Lib.hid (And.intro b0 (And.intro b1 (And.intro b2 hB)))
          clear HJ q1 q2 h3 c0 d0 f0 f1 f2 z0 z1 z2 b0 b1 b2 hB
          go_wp2_with fail
          obtain ⟨W, hW⟩ : ∃ W : World, Hid (W = (wr.drewN nq).drew) := ⟨_, rfl⟩
          replace c1 : W.cell? ⟨w.heap.size, 2, none⟩ = some (.int .i64 a.p.mn) := by rw [hW.out]; exact c1
          replace c2 : W.cell? ⟨w.heap.size, 3, none⟩ = some (.int .i64 a.p.mx) := by rw [hW.out]; exact c2
          replace d1 : W.cell? ⟨w.heap.size + 1, 2, none⟩ = some (.int .i64 b.p.mn) := by rw [hW.out]; exact d1
          replace d2 : W.cell? ⟨w.heap.size + 1, 3, none⟩ = some (.int .i64 b.p.mx) := by rw [hW.out]; exact d2
          replace b3 : Blk W (w.heap.size + 1 + 1 + 1) 82 (a.upto b 0).cs := by rw [hW.out]; exact b3
          have f0 := b3.cell 1
          have f1 := b3.cell 2
          have f2 := b3.cell 3
          have z0 := b3.frozen 1
          have z1 := b3.frozen 2
          have z2 := b3.frozen 3
          simp [Ag.cs] at f0 f1 f2
          refine wp_region_still_tail 27 (by kernel_rfl) (by kernel_rfl) ?_
          change wpStill _ _ ((wr.drewN nq).drew) _ _ _
          rw [← hW.out]
          simp only [List.take_succ_cons, List.take_zero, List.drop_succ_cons, List.drop_zero]
          iterate 27 still_step
          refine wpStill_nil ?_
          change wpList _ _ _ _ _ ((wr.drewN nq).drew)
          rw [← hW.out]
          clear c1 c2 d1 d2
          go_wp2
          go_roundg (3 - 1)
          case rel =>
            obtain ⟨b0, b1, b2, hB⟩ := Hq.out
            replace hB : Bel w W := by rw [hW.out]; exact (hB.drewN nq).drew
            replace b0 : Blk W w.heap.size 82 a.cs := by rw [hW.out]; exact b0
            replace b1 : Blk W (w.heap.size + 1) 82 b.cs := by rw [hW.out]; exact b1
            replace b2 : Blk W (w.heap.size + 1 + 1) 82 Ag.zero.cs := by rw [hW.out]; exact b2
            refine ⟨1, rfl, by omega, rfl, Bel.set3 hB (by omega) _ _ _, Blk.far3 b0 (by omega) _ _ _, Blk.far3 b1 (by omega) _ _ _, Blk.far3 b2 (by omega) _ _ _, Blk.set3 b3 1 2 3 (.int .i64 sm) (.int .i64 (min a.p.mn b.p.mn)) (.int .i64 (max a.p.mx b.p.mx)) Hu.out, ?_⟩
            refine ⟨fun h => ?_, fun h => ?_, fun h => ?_⟩ <;> first | omega | (rw [Hok.out]; done) | exact hF.out.1 (by omega) | exact hF.out.2.1 (by omega)
          case measure => omega
      · rw [show ((1 : Nat) : Int) = 1 from rfl]
        have c0 := b0.cell 4
        have d0 := b1.cell 4
        have f0 := b3.cell 4
        have z0 := b3.frozen 4
        have c1 := b0.cell 5
        have d1 := b1.cell 5
        have f1 := b3.cell 5
        have z1 := b3.frozen 5
        have c2 := b0.cell 6
        have d2 := b1.cell 6
        have f2 := b3.cell 6
        have z2 := b3.frozen 6
        simp [Ag.cs] at c0 c1 c2 d0 d1 d2 f0 f1 f2
        obtain ⟨⟨sm, ok⟩, Hok⟩ : ∃ x, Hid (xadd a.q.s b.q.s = x) := ⟨_, rfl⟩
        have Hu : Hid (((((a.upto b 1).cs.setIfInBounds 4 (.int .i64 sm)).setIfInBounds 5 (.int .i64 (min a.q.mn b.q.mn))).setIfInBounds 6 (.int .i64 (max a.q.mx b.q.mx))) = (a.upto b 2).cs) := by rw [show sm = (xadd a.q.s b.q.s).1 by rw [Hok.out]]; rfl
        go_wp2_with fail
        go_quiet ((go_at_call 57; exact Calls.quiet_of_same (radd_same _ _ _ Ha.out.q.s Hb.out.q.s)))
        rw [Hok.out]
        cases ok
        · have HJ' : Hid (a.join b = (.zero, false)) := by
            show _ = _
            rw [HJ.out, if_neg]
            rintro ⟨k1, k2, k3⟩
            first | (rw [Hok.out] at k1; cases k1) | (rw [Hok.out] at k2; cases k2) | (rw [Hok.out] at k3; cases k3)
          clear c0 c1 c2 d0 d1 d2 f0 f1 f2 z0 z1 z2
          have gc0 := b2.cell 0
          have gc1 := b2.cell 1
          have gc2 := b2.cell 2
          have gc3 := b2.cell 3
          have gc4 := b2.cell 4
          have gc5 := b2.cell 5
          have gc6 := b2.cell 6
          have gc7 := b2.cell 7
          have gc8 := b2.cell 8
          have gc9 := b2.cell 9
          have gz0 := b2.frozen 0
          have gz1 := b2.frozen 1
          have gz2 := b2.frozen 2
          have gz3 := b2.frozen 3
          have gz4 := b2.frozen 4
          have gz5 := b2.frozen 5
          have gz6 := b2.frozen 6
          have gz7 := b2.frozen 7
          have gz8 := b2.frozen 8
          have gz9 := b2.frozen 9
          simp only [Ag.zero, Prt.zero, Ag.cs] at gc0 gc1 gc2 gc3 gc4 gc5 gc6 gc7 gc8 gc9
          simp at gc0 gc1 gc2 gc3 gc4 gc5 gc6 gc7 gc8 gc9
          go_wp2
          refine bodyPost_ret (v := .tuple #[.agg Ag.zero.cs, .bool false]) (by simp [results, Try.results37, go_sem, Ag.zero, Prt.zero, Ag.cs, gc0, gc1, gc2, gc3, gc4, gc5, gc6, gc7, gc8, gc9]) rfl ?_
          rw [HJ'.out]
          exact ⟨rfl, (hB.drewN _).agSet (g := w.heap.size + 1 + 1) (by omega) .zero⟩
        · have Hq := Lib.hid (And.intro b0 (And.intro b1 (And.intro b2 hB)))
          clear HJ q1 q2 h3 c0 d0 f0 f1 f2 z0 z1 z2 b0 b1 b2 hB
          go_wp2_with fail
          obtain ⟨W, hW⟩ : ∃ W : World, Hid (W = (wr.drewN nq).drew) := ⟨_, rfl⟩
          replace c1 : W.cell? ⟨w.heap.size, 5, none⟩ = some (.int .i64 a.q.mn) := by rw [hW.out]; exact c1
          replace c2 : W.cell? ⟨w.heap.size, 6, none⟩ = some (.int .i64 a.q.mx) := by rw [hW.out]; exact c2
          replace d1 : W.cell? ⟨w.heap.size + 1, 5, none⟩ = some (.int .i64 b.q.mn) := by rw [hW.out]; exact d1
          replace d2 : W.cell? ⟨w.heap.size + 1, 6, none⟩ = some (.int .i64 b.q.mx) := by rw [hW.out]; exact d2
          replace b3 : Blk W (w.heap.size + 1 + 1 + 1) 82 (a.upto b 1).cs := by rw [hW.out]; exact b3
          have f0 := b3.cell 4
          have f1 := b3.cell 5
          have f2 := b3.cell 6
          have z0 := b3.frozen 4
          have z1 := b3.frozen 5
          have z2 := b3.frozen 6
          simp [Ag.cs] at f0 f1 f2
          refine wp_region_still_tail 27 (by kernel_rfl) (by kernel_rfl) ?_
          change wpStill _ _ ((wr.drewN nq).drew) _ _ _
          rw [← hW.out]
          simp only [List.take_succ_cons, List.take_zero, List.drop_succ_cons, List.drop_zero]
          iterate 27 still_step
          refine wpStill_nil ?_
          change wpList _ _ _ _ _ ((wr.drewN nq).drew)
          rw [← hW.out]
          clear c1 c2 d1 d2
          go_wp2
          go_roundg (3 - 2)
          case rel =>
            obtain ⟨b0, b1, b2, hB⟩ := Hq.out
            replace hB : Bel w W := by rw [hW.out]; exact (hB.drewN nq).drew
            replace b0 : Blk W w.heap.size 82 a.cs := by rw [hW.out]; exact b0
            replace b1 : Blk W (w.heap.size + 1) 82 b.cs := by rw [hW.out]; exact b1
            replace b2 : Blk W (w.heap.size + 1 + 1) 82 Ag.zero.cs := by rw [hW.out]; exact b2
            refine ⟨2, rfl, by omega, rfl, Bel.set3 hB (by omega) _ _ _, Blk.far3 b0 (by omega) _ _ _, Blk.far3 b1 (by omega) _ _ _, Blk.far3 b2 (by omega) _ _ _, Blk.set3 b3 4 5 6 (.int .i64 sm) (.int .i64 (min a.q.mn b.q.mn)) (.int .i64 (max a.q.mx b.q.mx)) Hu.out, ?_⟩
            refine ⟨fun h => ?_, fun h => ?_, fun h => ?_⟩ <;> first | omega | (rw [Hok.out]; done) | exact hF.out.1 (by omega) | exact hF.out.2.1 (by omega)
          case measure => omega
      · rw [show ((2 : Nat) : Int) = 2 from rfl]
        have c0 := b0.cell 7
        have d0 := b1.cell 7
        have f0 := b3.cell 7
        have z0 := b3.frozen 7
        have c1 := b0.cell 8
        have d1 := b1.cell 8
        have f1 := b3.cell 8
        have z1 := b3.frozen 8
        have c2 := b0.cell 9
        have d2 := b1.cell 9
        have f2 := b3.cell 9
        have z2 := b3.frozen 9
        simp [Ag.cs] at c0 c1 c2 d0 d1 d2 f0 f1 f2
        obtain ⟨⟨sm, ok⟩, Hok⟩ : ∃ x, Hid (xadd a.r.s b.r.s = x) := ⟨_, rfl⟩
        have Hu : Hid (((((a.upto b 2).cs.setIfInBounds 7 (.int .i64 sm)).setIfInBounds 8 (.int .i64 (min a.r.mn b.r.mn))).setIfInBounds 9 (.int .i64 (max a.r.mx b.r.mx))) = (a.upto b 3).cs) := by rw [show sm = (xadd a.r.s b.r.s).1 by rw [Hok.out]]; rfl
        go_wp2_with fail
        go_quiet ((go_at_call 57; exact Calls.quiet_of_same (radd_same _ _ _ Ha.out.r.s Hb.out.r.s)))
        rw [Hok.out]
        cases ok
        · have HJ' : Hid (a.join b = (.zero, false)) := by
            show _ = _
            rw [HJ.out, if_neg]
            rintro ⟨k1, k2, k3⟩
            first | (rw [Hok.out] at k1; cases k1) | (rw [Hok.out] at k2; cases k2) | (rw [Hok.out] at k3; cases k3)
          clear c0 c1 c2 d0 d1 d2 f0 f1 f2 z0 z1 z2
          have gc0 := b2.cell 0
          have gc1 := b2.cell 1
          have gc2 := b2.cell 2
          have gc3 := b2.cell 3
          have gc4 := b2.cell 4
          have gc5 := b2.cell 5
          have gc6 := b2.cell 6
          have gc7 := b2.cell 7
          have gc8 := b2.cell 8
          have gc9 := b2.cell 9
          have gz0 := b2.frozen 0
          have gz1 := b2.frozen 1
          have gz2 := b2.frozen 2
          have gz3 := b2.frozen 3
          have gz4 := b2.frozen 4
          have gz5 := b2.frozen 5
          have gz6 := b2.frozen 6
          have gz7 := b2.frozen 7
          have gz8 := b2.frozen 8
          have gz9 := b2.frozen 9
          simp only [Ag.zero, Prt.zero, Ag.cs] at gc0 gc1 gc2 gc3 gc4 gc5 gc6 gc7 gc8 gc9
          simp at gc0 gc1 gc2 gc3 gc4 gc5 gc6 gc7 gc8 gc9
          go_wp2
          refine bodyPost_ret (v := .tuple #[.agg Ag.zero.cs, .bool false]) (by simp [results, Try.results37, go_sem, Ag.zero, Prt.zero, Ag.cs, gc0, gc1, gc2, gc3, gc4, gc5, gc6, gc7, gc8, gc9]) rfl ?_
          rw [HJ'.out]
          exact ⟨rfl, (hB.drewN _).agSet (g := w.heap.size + 1 + 1) (by omega) .zero⟩
        · have Hq := Lib.hid (And.intro b0 (And.intro b1 (And.intro b2 hB)))
          clear HJ q1 q2 h3 c0 d0 f0 f1 f2 z0 z1 z2 b0 b1 b2 hB
          go_wp2_with fail
          obtain ⟨W, hW⟩ : ∃ W : World, Hid (W = (wr.drewN nq).drew) := ⟨_, rfl⟩
          replace c1 : W.cell? ⟨w.heap.size, 8, none⟩ = some (.int .i64 a.r.mn) := by rw [hW.out]; exact c1
          replace c2 : W.cell? ⟨w.heap.size, 9, none⟩ = some (.int .i64 a.r.mx) := by rw [hW.out]; exact c2
          replace d1 : W.cell? ⟨w.heap.size + 1, 8, none⟩ = some (.int .i64 b.r.mn) := by rw [hW.out]; exact d1
          replace d2 : W.cell? ⟨w.heap.size + 1, 9, none⟩ = some (.int .i64 b.r.mx) := by rw [hW.out]; exact d2
          replace b3 : Blk W (w.heap.size + 1 + 1 + 1) 82 (a.upto b 2).cs := by rw [hW.out]; exact b3
          have f0 := b3.cell 7
          have f1 := b3.cell 8
          have f2 := b3.cell 9
          have z0 := b3.frozen 7
          have z1 := b3.frozen 8
          have z2 := b3.frozen 9
          simp [Ag.cs] at f0 f1 f2
          refine wp_region_still_tail 27 (by kernel_rfl) (by kernel_rfl) ?_
          change wpStill _ _ ((wr.drewN nq).drew) _ _ _
          rw [← hW.out]
          simp only [List.take_succ_cons, List.take_zero, List.drop_succ_cons, List.drop_zero]
          iterate 27 still_step
          refine wpStill_nil ?_
          change wpList _ _ _ _ _ ((wr.drewN nq).drew)
          rw [← hW.out]
          clear c1 c2 d1 d2
          go_wp2
          go_roundg (3 - 3)
          case rel =>
            obtain ⟨b0, b1, b2, hB⟩ := Hq.out
            replace hB : Bel w W := by rw [hW.out]; exact (hB.drewN nq).drew
            replace b0 : Blk W w.heap.size 82 a.cs := by rw [hW.out]; exact b0
            replace b1 : Blk W (w.heap.size + 1) 82 b.cs := by rw [hW.out]; exact b1
            replace b2 : Blk W (w.heap.size + 1 + 1) 82 Ag.zero.cs := by rw [hW.out]; exact b2
            refine ⟨3, rfl, by omega, rfl, Bel.set3 hB (by omega) _ _ _, Blk.far3 b0 (by omega) _ _ _, Blk.far3 b1 (by omega) _ _ _, Blk.far3 b2 (by omega) _ _ _, Blk.set3 b3 7 8 9 (.int .i64 sm) (.int .i64 (min a.r.mn b.r.mn)) (.int .i64 (max a.r.mx b.r.mx)) Hu.out, ?_⟩
            refine ⟨fun h => ?_, fun h => ?_, fun h => ?_⟩ <;> first | omega | (rw [Hok.out]; done) | exact hF.out.1 (by omega) | exact hF.out.2.1 (by omega)
          case measure => omega
    · obtain rfl : k = 3 := by omega
      have HJ' : Hid (a.join b = (a.upto b 3, true)) := by
        show _ = _
        rw [HJ.out, if_pos ⟨hF.out.1 (by omega), hF.out.2.1 (by omega), hF.out.2.2 (by omega)⟩]
      obtain ⟨m, Hm⟩ : ∃ m, Hid (a.upto b 3 = m) := ⟨_, rfl⟩
      rw [Hm.out] at HJ' b3
      clear HJ hF
      have gc0 := b2.cell 0
      have gc1 := b2.cell 1
      have gc2 := b2.cell 2
      have gc3 := b2.cell 3
      have gc4 := b2.cell 4
      have gc5 := b2.cell 5
      have gc6 := b2.cell 6
      have gc7 := b2.cell 7
      have gc8 := b2.cell 8
      have gc9 := b2.cell 9
      have gz0 := b2.frozen 0
      have gz1 := b2.frozen 1
      have gz2 := b2.frozen 2
      have gz3 := b2.frozen 3
      have gz4 := b2.frozen 4
      have gz5 := b2.frozen 5
      have gz6 := b2.frozen 6
      have gz7 := b2.frozen 7
      have gz8 := b2.frozen 8
      have gz9 := b2.frozen 9
      have h0 := b3.cell 0
      have h1 := b3.cell 1
      have h2 := b3.cell 2
      have h3 := b3.cell 3
      have h4 := b3.cell 4
      have h5 := b3.cell 5
      have h6 := b3.cell 6
      have h7 := b3.cell 7
      have h8 := b3.cell 8
      have h9 := b3.cell 9
      simp only [Ag.zero, Prt.zero, Ag.cs] at gc0 gc1 gc2 gc3 gc4 gc5 gc6 gc7 gc8 gc9 h0 h1 h2 h3 h4 h5 h6 h7 h8 h9
      simp at gc0 gc1 gc2 gc3 gc4 gc5 gc6 gc7 gc8 gc9 h0 h1 h2 h3 h4 h5 h6 h7 h8 h9
      go_wp2
      refine bodyPost_ret (v := .tuple #[.agg m.cs, .bool true]) (by simp [results, Try.results37, go_sem, Ag.cs, gc0, gc1, gc2, gc3, gc4, gc5, gc6, gc7, gc8, gc9]) rfl ?_
      rw [HJ'.out]
      exact ⟨rfl, hB.agSet (g := w.heap.size + 1 + 1) (by omega) m⟩

set_option maxRecDepth 100000 in
set_option maxHeartbeats 1000000 in
theorem rjoin_left (a b : Ag) (w : World) (h1 : a.c = 0) :
    Calls Try.prog 37 #[.agg a.cs, .agg b.cs] w fun e w' => e = .returned (.tuple #[.agg b.cs, .bool true]) ∧ Bel w w' := by
  have q1 : (a.c == 0) = true := by simp [h1]
  clear h1
  unfold Ag.cs
  go_enter Try.func37, Try.ntmps37
  go_wp2
  refine bodyPost_ret (v := .tuple #[.agg b.cs, .bool true]) (by simp [results, Try.results37, go_sem, Ag.cs]) rfl ⟨rfl, ?_⟩
  exact (((Bel.refl _).alloc _).alloc _).alloc _

set_option maxRecDepth 100000 in
set_option maxHeartbeats 1000000 in
theorem rjoin_right (a b : Ag) (w : World) (h1 : ¬ a.c = 0) (h2 : b.c = 0) :
    Calls Try.prog 37 #[.agg a.cs, .agg b.cs] w fun e w' => e = .returned (.tuple #[.agg a.cs, .bool true]) ∧ Bel w w' := by
  have q1 : (a.c == 0) = false := by simp [h1]
  have q2 : (b.c == 0) = true := by simp [h2]
  clear h1 h2
  unfold Ag.cs
  go_enter Try.func37, Try.ntmps37
  go_wp2
  refine bodyPost_ret (v := .tuple #[.agg a.cs, .bool true]) (by simp [results, Try.results37, go_sem, Ag.cs]) rfl ⟨rfl, ?_⟩
  exact (((Bel.refl _).alloc _).alloc _).alloc _

set_option maxRecDepth 100000 in
set_option maxHeartbeats 1000000 in
theorem rjoin_over (a b : Ag) (w : World) (ha : a.ok) (hb : b.ok) (h1 : ¬ a.c = 0) (h2 : ¬ b.c = 0) (h3 : (xadd a.c b.c).2 = false) :
    Calls Try.prog 37 #[.agg a.cs, .agg b.cs] w fun e w' => e = .returned (.tuple #[.agg Ag.zero.cs, .bool false]) ∧ Bel w w' := by
  have q1 : (a.c == 0) = false := by simp [h1]
  have q2 : (b.c == 0) = false := by simp [h2]
  have Ha := Lib.hid ha
  have Hb := Lib.hid hb
  clear h1 h2 ha hb
  unfold Ag.cs
  go_enter Try.func37, Try.ntmps37
  go_wp2_with fail
  refine (radd_any _ _ _ Ha.out.c Hb.out.c).mono ?_; rintro e w1 ⟨rfl, rfl⟩
  go_wp2
  refine bodyPost_ret (v := .tuple #[.agg Ag.zero.cs, .bool false]) (by simp [results, Try.results37, go_sem, Ag.cs, Ag.zero, Prt.zero]) rfl ⟨rfl, ?_⟩
  exact (((Bel.refl _).alloc _).alloc _).alloc _

theorem rjoin_any : RJoinSaid := by
  intro a b w ha hb
  by_cases h1 : a.c = 0
  · refine (rjoin_left a b w h1).mono fun _ _ h => ⟨?_, h.2⟩
    rw [Ag.join, if_pos h1]; exact h.1
  · by_cases h2 : b.c = 0
    · refine (rjoin_right a b w h1 h2).mono fun _ _ h => ⟨?_, h.2⟩
      rw [Ag.join, if_neg h1, if_pos h2]; exact h.1
    · by_cases h3 : (xadd a.c b.c).2 = true
      · exact rjoin_long a b w ha hb h1 h2 h3
      · refine (rjoin_over a b w ha hb h1 h2 (by simpa using h3)).mono fun _ _ h => ⟨?_, h.2⟩
        rw [Ag.join, if_neg h1, if_neg h2, if_neg (fun k => h3 k.1)]; exact h.1

end Go.Proofs.Ytelnhhbefdfeoaa

namespace Go.Proofs.Ytelnhhbefdfeoaa
open Go.RowKit
set_option linter.unusedVariables false

theorem join_ex : (Ag.of [5]).join (Ag.of [-2]) = (⟨2, ⟨3, -2, 5⟩, .zero, .zero⟩, true) := by decide +kernel
theorem of5_ok : (Ag.of [5]).ok := of_ok (by intro z hz; simp at hz; subst hz; unfold I64; omega)
theorem ofm2_ok : (Ag.of [-2]).ok := of_ok (by intro z hz; simp at hz; subst hz; unfold I64; omega)

end Go.Proofs.Ytelnhhbefdfeoaa

namespace Go.Proofs.Ytelnhhbefdfeoaa
open Go.RowKit
set_option linter.unusedVariables false

theorem info_part : (Try.prog.info? 79).map (fun i => (i.zero, i.size, i.bytes)) = some (some (.agg #[.int .i64 0, .int .i64 0, .int .i64 0]), 3, 24) := by kernel_rfl

set_option maxRecDepth 100000 in
set_option maxHeartbeats 1000000 in
theorem eql_ag (m : Ag) (W : World) : (binOp .eql 82 (.agg m.cs) (.agg m.cs)).run Try.prog W = .ok (.bool true) W := by
  obtain ⟨i0, hi0, hz0, hz1, hz2⟩ := info_parts info_part
  unfold Ag.cs
  go_simp
  rw [run_equalIn_array W 9998 _ _ Try.underlying80 hi0, cells_part]
  simp only [show List.range 3 = [0, 1, 2] from rfl, Op.eqItems]
  go_simp

set_option maxRecDepth 100000 in
theorem guard_ag : Try.prog.eqGuardType Try.prog.depth 82 = false := by kernel_rfl

set_option maxRecDepth 100000 in
set_option maxHeartbeats 1000000 in
theorem eqv_ag (a b : Ag) (W : World) : (binOp .eql 82 (.agg a.cs) (.agg b.cs)).run Try.prog W = .ok (.bool (decide (a = b))) W := by
  obtain ⟨i0, hi0, hz0, hz1, hz2⟩ := info_parts info_part
  unfold Ag.cs
  go_simp
  rw [run_equalIn_array W 9998 _ _ Try.underlying80 hi0, cells_part]
  simp only [show List.range 3 = [0, 1, 2] from rfl, Op.eqItems]
  go_simp
  clear hi0 hz0 hz1 hz2
  obtain ⟨ac, ⟨a1, a2, a3⟩, ⟨a4, a5, a6⟩, ⟨a7, a8, a9⟩⟩ := a
  obtain ⟨bc, ⟨b1, b2, b3⟩, ⟨b4, b5, b6⟩, ⟨b7, b8, b9⟩⟩ := b
  simp only [Ag.mk.injEq, Prt.mk.injEq]
  repeat' split
  all_goals simp_all

set_option maxRecDepth 100000 in
set_option maxHeartbeats 1000000 in
theorem neqv_ag (a b : Ag) (W : World) : (binOp .neq 82 (.agg a.cs) (.agg b.cs)).run Try.prog W = .ok (.bool (!decide (a = b))) W := by
  obtain ⟨i0, hi0, hz0, hz1, hz2⟩ := info_parts info_part
  unfold Ag.cs
  go_simp
  rw [run_equalIn_array W 9998 _ _ Try.underlying80 hi0, cells_part]
  simp only [show List.range 3 = [0, 1, 2] from rfl, Op.eqItems]
  go_simp
  clear hi0 hz0 hz1 hz2
  obtain ⟨ac, ⟨a1, a2, a3⟩, ⟨a4, a5, a6⟩, ⟨a7, a8, a9⟩⟩ := a
  obtain ⟨bc, ⟨b1, b2, b3⟩, ⟨b4, b5, b6⟩, ⟨b7, b8, b9⟩⟩ := b
  simp only [Ag.mk.injEq, Prt.mk.injEq]
  repeat' split
  all_goals simp_all

end Go.Proofs.Ytelnhhbefdfeoaa
