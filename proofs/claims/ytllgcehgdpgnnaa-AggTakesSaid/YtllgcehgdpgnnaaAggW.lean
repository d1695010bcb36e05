/- Walks of package agg: parts and aggregates together. -/
import Derived.Test.YtllgcehgdpgnnaaExactW
import Derived.Test.YtllgcehgdpgnnaaSl
namespace Go.Proofs.Ytllgcehgdpgnnaa
open Go.RowKit
set_option linter.unusedVariables false

/-- What is told of one measure. -/
structure Prt where
  s : Int
  mn : Int
  mx : Int
deriving DecidableEq
/-- An aggregate. -/
structure Ag where
  c : Int
  p : Prt
  q : Prt
  r : Prt
deriving DecidableEq
def Prt.cs (x : Prt) : Array Value := #[.int .i64 x.s, .int .i64 x.mn, .int .i64 x.mx]
def Ag.cs (a : Ag) : Array Value := #[.int .i64 a.c, .int .i64 a.p.s, .int .i64 a.p.mn, .int .i64 a.p.mx, .int .i64 a.q.s, .int .i64 a.q.mn, .int .i64 a.q.mx, .int .i64 a.r.s, .int .i64 a.r.mn, .int .i64 a.r.mx]
structure Prt.ok (x : Prt) : Prop where
  s : I64 x.s
  mn : I64 x.mn
  mx : I64 x.mx
structure Ag.ok (a : Ag) : Prop where
  c : I64 a.c
  p : a.p.ok
  q : a.q.ok
  r : a.r.ok
def Prt.zero : Prt := ⟨0, 0, 0⟩
def Ag.zero : Ag := ⟨0, .zero, .zero, .zero⟩
/-- Two parts together. -/
def Prt.join (x y : Prt) : Prt := ⟨(xadd x.s y.s).1, min x.mn y.mn, max x.mx y.mx⟩

set_option maxRecDepth 100000 in
set_option maxHeartbeats 1000000 in
theorem part_any (x y : Prt) (w : World) (hx : x.ok) (hy : y.ok) :
    Calls Try.prog 154 #[.agg x.cs, .agg y.cs] w fun e w' => e = .returned (.tuple #[.agg (x.join y).cs, .bool (xadd x.s y.s).2]) ∧ Bel w w' := by
  obtain ⟨x0, x1, x2⟩ := x
  obtain ⟨y0, y1, y2⟩ := y
  have Hx := Lib.hid hx
  have Hy := Lib.hid hy
  clear hx hy
  unfold Prt.cs Prt.join
  simp only
  go_enter Try.func154, Try.ntmps154
  go_wp2_with fail
  refine (add_any _ _ _ Hx.out.s Hy.out.s).mono ?_; rintro e w1 ⟨rfl, rfl⟩
  go_wp2
  refine bodyPost_ret (v := .tuple #[.agg #[.int .i64 (xadd x0 y0).1, .int .i64 (min x1 y1), .int .i64 (max x2 y2)], .bool (xadd x0 y0).2]) (by simp [results, Try.results154, go_sem]) rfl ⟨rfl, ?_⟩
  exact (((Bel.refl _).alloc _).alloc _).alloc _

/-- Two aggregates together: one of no rows adds nothing. -/
def Ag.join (a b : Ag) : Ag × Bool :=
  if a.c = 0 then (b, true) else if b.c = 0 then (a, true) else
  if (xadd a.c b.c).2 = true ∧ (xadd a.p.s b.p.s).2 = true ∧ (xadd a.q.s b.q.s).2 = true ∧ (xadd a.r.s b.r.s).2 = true
  then (⟨(xadd a.c b.c).1, a.p.join b.p, a.q.join b.q, a.r.join b.r⟩, true) else (.zero, false)

/-- The result while its parts are laid. -/
def Ag.upto (a b : Ag) (k : Nat) : Ag := ⟨(xadd a.c b.c).1, if 0 < k then a.p.join b.p else .zero, if 1 < k then a.q.join b.q else .zero, if 2 < k then a.r.join b.r else .zero⟩

set_option maxRecDepth 100000 in
set_option maxHeartbeats 1000000 in
theorem join_long (a b : Ag) (w : World) (ha : a.ok) (hb : b.ok) (h1 : ¬ a.c = 0) (h2 : ¬ b.c = 0) (h3 : (xadd a.c b.c).2 = true) :
    Calls Try.prog 124 #[.agg a.cs, .agg b.cs] w fun e w' => e = .returned (.tuple #[.agg (a.join b).1.cs, .bool (a.join b).2]) ∧ Bel w w' := by
  have Ha := Lib.hid ha
  have Hb := Lib.hid hb
  clear ha hb
  have q1 : (a.c == 0) = false := by simpa using h1
  have q2 : (b.c == 0) = false := by simpa using h2
  have HJ : Hid (a.join b = if (xadd a.p.s b.p.s).2 = true ∧ (xadd a.q.s b.q.s).2 = true ∧ (xadd a.r.s b.r.s).2 = true then (a.upto b 3, true) else (.zero, false)) := by
    show _ = _
    unfold Ag.join Ag.upto
    rw [if_neg h1, if_neg h2]
    simp [h3]
  clear h1 h2
  have ea : a.cs = #[.int .i64 a.c, .int .i64 a.p.s, .int .i64 a.p.mn, .int .i64 a.p.mx, .int .i64 a.q.s, .int .i64 a.q.mn, .int .i64 a.q.mx, .int .i64 a.r.s, .int .i64 a.r.mn, .int .i64 a.r.mx] := rfl
  have eb : b.cs = #[.int .i64 b.c, .int .i64 b.p.s, .int .i64 b.p.mn, .int .i64 b.p.mx, .int .i64 b.q.s, .int .i64 b.q.mn, .int .i64 b.q.mx, .int .i64 b.r.s, .int .i64 b.r.mn, .int .i64 b.r.mx] := rfl
  rw [ea, eb]
  clear ea eb
  go_enter Try.func124, Try.ntmps124
  go_wp2_with fail
  refine (add_any _ _ _ Ha.out.c Hb.out.c).mono ?_; rintro e w1 ⟨rfl, rfl⟩
  go_wp2_with fail
  have B0 : Blk ((((w.alloc (.cells a.cs 92)).alloc (.cells b.cs 92)).alloc (.cells Ag.zero.cs 92)).alloc (.cells (a.upto b 0).cs 92)) w.heap.size 92 a.cs := (((Blk.new w _ _).alloc _).alloc _).alloc _
  have B1 : Blk ((((w.alloc (.cells a.cs 92)).alloc (.cells b.cs 92)).alloc (.cells Ag.zero.cs 92)).alloc (.cells (a.upto b 0).cs 92)) (w.heap.size + 1) 92 b.cs := by
    have := ((Blk.new (w.alloc (.cells a.cs 92)) 92 b.cs).alloc (.cells Ag.zero.cs 92)).alloc (.cells (a.upto b 0).cs 92)
    simpa using this
  have B2 : Blk ((((w.alloc (.cells a.cs 92)).alloc (.cells b.cs 92)).alloc (.cells Ag.zero.cs 92)).alloc (.cells (a.upto b 0).cs 92)) (w.heap.size + 1 + 1) 92 Ag.zero.cs := by
    have := (Blk.new ((w.alloc (.cells a.cs 92)).alloc (.cells b.cs 92)) 92 Ag.zero.cs).alloc (.cells (a.upto b 0).cs 92)
    simpa using this
  have B3 : Blk ((((w.alloc (.cells a.cs 92)).alloc (.cells b.cs 92)).alloc (.cells Ag.zero.cs 92)).alloc (.cells (a.upto b 0).cs 92)) (w.heap.size + 1 + 1 + 1) 92 (a.upto b 0).cs := by
    have := Blk.new (((w.alloc (.cells a.cs 92)).alloc (.cells b.cs 92)).alloc (.cells Ag.zero.cs 92)) 92 (a.upto b 0).cs
    simpa using this
  have BB : Bel w ((((w.alloc (.cells a.cs 92)).alloc (.cells b.cs 92)).alloc (.cells Ag.zero.cs 92)).alloc (.cells (a.upto b 0).cs 92)) := ((((Bel.refl w).alloc _).alloc _).alloc _).alloc _
  go_loopg [7, 32] 3 (fun g s7 s32 wr => ∃ k : Nat, g = 3 - k ∧ k ≤ 3 ∧ s32 = .int .i64 k ∧ s7 = .bool true ∧ Bel w wr ∧ Blk wr w.heap.size 92 a.cs ∧ Blk wr (w.heap.size + 1) 92 b.cs ∧ Blk wr (w.heap.size + 1 + 1) 92 Ag.zero.cs ∧ Blk wr (w.heap.size + 1 + 1 + 1) 92 (a.upto b k).cs ∧
    Hid ((0 < k → (xadd a.p.s b.p.s).2 = true) ∧ (1 < k → (xadd a.q.s b.q.s).2 = true) ∧ (2 < k → (xadd a.r.s b.r.s).2 = true)))
  case atStart => exact ⟨0, rfl, by omega, rfl, rfl, BB, B0, B1, B2, B3, by refine ⟨?_, ?_, ?_⟩ <;> intro h <;> omega⟩
  case round =>
    clear B0 B1 B2 B3 BB
    obtain ⟨k, hgk, hk, rfl, rfl, hB, b0, b1, b2, b3, hF⟩ := hrel
    by_cases hlt : k < 3
    · rcases (show k = 0 ∨ k = 1 ∨ k = 2 by omega) with rfl | rfl | rfl
      · have c0 := b0.cell 1
        have d0 := b1.cell 1
        have c1 := b0.cell 2
        have d1 := b1.cell 2
        have c2 := b0.cell 3
        have d2 := b1.cell 3
        simp [Ag.cs] at c0 c1 c2 d0 d1 d2
        obtain ⟨m, Hm⟩ : ∃ m, Hid (a.p.join b.p = m) := ⟨_, rfl⟩
        obtain ⟨ok, Hok⟩ : ∃ ok, Hid ((xadd a.p.s b.p.s).2 = ok) := ⟨_, rfl⟩
        have Hu : Hid (((((a.upto b 0).cs.setIfInBounds 1 (.int .i64 m.s)).setIfInBounds 2 (.int .i64 m.mn)).setIfInBounds 3 (.int .i64 m.mx)) = (a.upto b 1).cs) := by rw [← Hm.out]; rfl
        go_wp2_with fail
        go_region_with (go_at_call 154; refine (part_any a.p b.p _ Ha.out.p Hb.out.p).mono ?_; rintro e w1 ⟨rfl, hb1⟩; rw [Hm.out, Hok.out, show m.cs = #[.int .i64 m.s, .int .i64 m.mn, .int .i64 m.mx] from rfl]; have b3' := b3.drew.bel hb1; have f0 := b3'.cell 1; have f1 := b3'.cell 2; have f2 := b3'.cell 3; simp [Ag.cs] at f0 f1 f2; have z0 := b3'.frozen 1; have z1 := b3'.frozen 2; have z2 := b3'.frozen 3)
        all_goals
          have b0' := ((((b0.drew.bel hb1).far (p := ⟨w.heap.size + 1 + 1 + 1, 1, none⟩) (by simp; omega) (.int .i64 m.s)).far (p := ⟨w.heap.size + 1 + 1 + 1, 2, none⟩) (by simp; omega) (.int .i64 m.mn)).far (p := ⟨w.heap.size + 1 + 1 + 1, 3, none⟩) (by simp; omega) (.int .i64 m.mx))
          have b1' := ((((b1.drew.bel hb1).far (p := ⟨w.heap.size + 1 + 1 + 1, 1, none⟩) (by simp) (.int .i64 m.s)).far (p := ⟨w.heap.size + 1 + 1 + 1, 2, none⟩) (by simp) (.int .i64 m.mn)).far (p := ⟨w.heap.size + 1 + 1 + 1, 3, none⟩) (by simp) (.int .i64 m.mx))
          have b2' := ((((b2.drew.bel hb1).far (p := ⟨w.heap.size + 1 + 1 + 1, 1, none⟩) (by simp) (.int .i64 m.s)).far (p := ⟨w.heap.size + 1 + 1 + 1, 2, none⟩) (by simp) (.int .i64 m.mn)).far (p := ⟨w.heap.size + 1 + 1 + 1, 3, none⟩) (by simp) (.int .i64 m.mx))
          have b3'' := ((b3'.set_ 1 (.int .i64 m.s)).set_ 2 (.int .i64 m.mn)).set_ 3 (.int .i64 m.mx)
          rw [Hu.out] at b3''
          have hB' := (((hB.drew.trans hb1).setCell (p := ⟨w.heap.size + 1 + 1 + 1, 1, none⟩) (by simp; omega) (.int .i64 m.s)).setCell (p := ⟨w.heap.size + 1 + 1 + 1, 2, none⟩) (by simp; omega) (.int .i64 m.mn)).setCell (p := ⟨w.heap.size + 1 + 1 + 1, 3, none⟩) (by simp; omega) (.int .i64 m.mx)
          generalize (((w1.setCell ⟨w.heap.size + 1 + 1 + 1, 1, none⟩ (.int .i64 m.s)).setCell ⟨w.heap.size + 1 + 1 + 1, 2, none⟩ (.int .i64 m.mn)).setCell ⟨w.heap.size + 1 + 1 + 1, 3, none⟩ (.int .i64 m.mx)) = w2 at *
          clear f0 f1 f2 z0 z1 z2 c0 c1 c2 d0 d1 d2 b0 b1 b2 b3 b3' hB hb1
          cases ok
          · have HJ' : Hid (a.join b = (.zero, false)) := by
              show _ = _
              rw [HJ.out, if_neg]
              rintro ⟨k1, k2, k3⟩
              first | (rw [Hok.out] at k1; cases k1) | (rw [Hok.out] at k2; cases k2) | (rw [Hok.out] at k3; cases k3)
            have gc0 := b2'.cell 0
            have gc1 := b2'.cell 1
            have gc2 := b2'.cell 2
            have gc3 := b2'.cell 3
            have gc4 := b2'.cell 4
            have gc5 := b2'.cell 5
            have gc6 := b2'.cell 6
            have gc7 := b2'.cell 7
            have gc8 := b2'.cell 8
            have gc9 := b2'.cell 9
            have gz0 := b2'.frozen 0
            have gz1 := b2'.frozen 1
            have gz2 := b2'.frozen 2
            have gz3 := b2'.frozen 3
            have gz4 := b2'.frozen 4
            have gz5 := b2'.frozen 5
            have gz6 := b2'.frozen 6
            have gz7 := b2'.frozen 7
            have gz8 := b2'.frozen 8
            have gz9 := b2'.frozen 9
            simp only [Ag.zero, Prt.zero, Ag.cs] at gc0 gc1 gc2 gc3 gc4 gc5 gc6 gc7 gc8 gc9
            simp at gc0 gc1 gc2 gc3 gc4 gc5 gc6 gc7 gc8 gc9
            go_wp2
            refine bodyPost_ret (v := .tuple #[.agg #[.int .i64 0, .int .i64 0, .int .i64 0, .int .i64 0, .int .i64 0, .int .i64 0, .int .i64 0, .int .i64 0, .int .i64 0, .int .i64 0], .bool false]) (by simp [results, Try.results124, go_sem, gc0, gc1, gc2, gc3, gc4, gc5, gc6, gc7, gc8, gc9] ) rfl ?_
            rw [HJ'.out]
            refine ⟨rfl, ?_⟩
            iterate 10 (refine Bel.setCell ?_ (by simp; omega) _)
            exact hB'
          · go_wp2
            go_roundg (3 - 1)
            case rel => exact ⟨1, rfl, by omega, rfl, rfl, hB', b0', b1', b2', b3'', by refine ⟨fun h => ?_, fun h => ?_, fun h => ?_⟩ <;> first | omega | exact Hok.out | exact hF.out.1 (by omega) | exact hF.out.2.1 (by omega)⟩
            case measure => omega
      · have c0 := b0.cell 4
        have d0 := b1.cell 4
        have c1 := b0.cell 5
        have d1 := b1.cell 5
        have c2 := b0.cell 6
        have d2 := b1.cell 6
        simp [Ag.cs] at c0 c1 c2 d0 d1 d2
        obtain ⟨m, Hm⟩ : ∃ m, Hid (a.q.join b.q = m) := ⟨_, rfl⟩
        obtain ⟨ok, Hok⟩ : ∃ ok, Hid ((xadd a.q.s b.q.s).2 = ok) := ⟨_, rfl⟩
        have Hu : Hid (((((a.upto b 1).cs.setIfInBounds 4 (.int .i64 m.s)).setIfInBounds 5 (.int .i64 m.mn)).setIfInBounds 6 (.int .i64 m.mx)) = (a.upto b 2).cs) := by rw [← Hm.out]; rfl
        go_wp2_with fail
        go_region_with (go_at_call 154; refine (part_any a.q b.q _ Ha.out.q Hb.out.q).mono ?_; rintro e w1 ⟨rfl, hb1⟩; rw [Hm.out, Hok.out, show m.cs = #[.int .i64 m.s, .int .i64 m.mn, .int .i64 m.mx] from rfl]; have b3' := b3.drew.bel hb1; have f0 := b3'.cell 4; have f1 := b3'.cell 5; have f2 := b3'.cell 6; simp [Ag.cs] at f0 f1 f2; have z0 := b3'.frozen 4; have z1 := b3'.frozen 5; have z2 := b3'.frozen 6)
        all_goals
          have b0' := ((((b0.drew.bel hb1).far (p := ⟨w.heap.size + 1 + 1 + 1, 4, none⟩) (by simp; omega) (.int .i64 m.s)).far (p := ⟨w.heap.size + 1 + 1 + 1, 5, none⟩) (by simp; omega) (.int .i64 m.mn)).far (p := ⟨w.heap.size + 1 + 1 + 1, 6, none⟩) (by simp; omega) (.int .i64 m.mx))
          have b1' := ((((b1.drew.bel hb1).far (p := ⟨w.heap.size + 1 + 1 + 1, 4, none⟩) (by simp) (.int .i64 m.s)).far (p := ⟨w.heap.size + 1 + 1 + 1, 5, none⟩) (by simp) (.int .i64 m.mn)).far (p := ⟨w.heap.size + 1 + 1 + 1, 6, none⟩) (by simp) (.int .i64 m.mx))
          have b2' := ((((b2.drew.bel hb1).far (p := ⟨w.heap.size + 1 + 1 + 1, 4, none⟩) (by simp) (.int .i64 m.s)).far (p := ⟨w.heap.size + 1 + 1 + 1, 5, none⟩) (by simp) (.int .i64 m.mn)).far (p := ⟨w.heap.size + 1 + 1 + 1, 6, none⟩) (by simp) (.int .i64 m.mx))
          have b3'' := ((b3'.set_ 4 (.int .i64 m.s)).set_ 5 (.int .i64 m.mn)).set_ 6 (.int .i64 m.mx)
          rw [Hu.out] at b3''
          have hB' := (((hB.drew.trans hb1).setCell (p := ⟨w.heap.size + 1 + 1 + 1, 4, none⟩) (by simp; omega) (.int .i64 m.s)).setCell (p := ⟨w.heap.size + 1 + 1 + 1, 5, none⟩) (by simp; omega) (.int .i64 m.mn)).setCell (p := ⟨w.heap.size + 1 + 1 + 1, 6, none⟩) (by simp; omega) (.int .i64 m.mx)
          generalize (((w1.setCell ⟨w.heap.size + 1 + 1 + 1, 4, none⟩ (.int .i64 m.s)).setCell ⟨w.heap.size + 1 + 1 + 1, 5, none⟩ (.int .i64 m.mn)).setCell ⟨w.heap.size + 1 + 1 + 1, 6, none⟩ (.int .i64 m.mx)) = w2 at *
          clear f0 f1 f2 z0 z1 z2 c0 c1 c2 d0 d1 d2 b0 b1 b2 b3 b3' hB hb1
          cases ok
          · have HJ' : Hid (a.join b = (.zero, false)) := by
              show _ = _
              rw [HJ.out, if_neg]
              rintro ⟨k1, k2, k3⟩
              first | (rw [Hok.out] at k1; cases k1) | (rw [Hok.out] at k2; cases k2) | (rw [Hok.out] at k3; cases k3)
            have gc0 := b2'.cell 0
            have gc1 := b2'.cell 1
            have gc2 := b2'.cell 2
            have gc3 := b2'.cell 3
            have gc4 := b2'.cell 4
            have gc5 := b2'.cell 5
            have gc6 := b2'.cell 6
            have gc7 := b2'.cell 7
            have gc8 := b2'.cell 8
            have gc9 := b2'.cell 9
            have gz0 := b2'.frozen 0
            have gz1 := b2'.frozen 1
            have gz2 := b2'.frozen 2
            have gz3 := b2'.frozen 3
            have gz4 := b2'.frozen 4
            have gz5 := b2'.frozen 5
            have gz6 := b2'.frozen 6
            have gz7 := b2'.frozen 7
            have gz8 := b2'.frozen 8
            have gz9 := b2'.frozen 9
            simp only [Ag.zero, Prt.zero, Ag.cs] at gc0 gc1 gc2 gc3 gc4 gc5 gc6 gc7 gc8 gc9
            simp at gc0 gc1 gc2 gc3 gc4 gc5 gc6 gc7 gc8 gc9
            go_wp2
            refine bodyPost_ret (v := .tuple #[.agg #[.int .i64 0, .int .i64 0, .int .i64 0, .int .i64 0, .int .i64 0, .int .i64 0, .int .i64 0, .int .i64 0, .int .i64 0, .int .i64 0], .bool false]) (by simp [results, Try.results124, go_sem, gc0, gc1, gc2, gc3, gc4, gc5, gc6, gc7, gc8, gc9] ) rfl ?_
            rw [HJ'.out]
            refine ⟨rfl, ?_⟩
            iterate 10 (refine Bel.setCell ?_ (by simp; omega) _)
            exact hB'
          · go_wp2
            go_roundg (3 - 2)
            case rel => exact ⟨2, rfl, by omega, rfl, rfl, hB', b0', b1', b2', b3'', by refine ⟨fun h => ?_, fun h => ?_, fun h => ?_⟩ <;> first | omega | exact Hok.out | exact hF.out.1 (by omega) | exact hF.out.2.1 (by omega)⟩
            case measure => omega
      · have c0 := b0.cell 7
        have d0 := b1.cell 7
        have c1 := b0.cell 8
        have d1 := b1.cell 8
        have c2 := b0.cell 9
        have d2 := b1.cell 9
        simp [Ag.cs] at c0 c1 c2 d0 d1 d2
        obtain ⟨m, Hm⟩ : ∃ m, Hid (a.r.join b.r = m) := ⟨_, rfl⟩
        obtain ⟨ok, Hok⟩ : ∃ ok, Hid ((xadd a.r.s b.r.s).2 = ok) := ⟨_, rfl⟩
        have Hu : Hid (((((a.upto b 2).cs.setIfInBounds 7 (.int .i64 m.s)).setIfInBounds 8 (.int .i64 m.mn)).setIfInBounds 9 (.int .i64 m.mx)) = (a.upto b 3).cs) := by rw [← Hm.out]; rfl
        go_wp2_with fail
        go_region_with (go_at_call 154; refine (part_any a.r b.r _ Ha.out.r Hb.out.r).mono ?_; rintro e w1 ⟨rfl, hb1⟩; rw [Hm.out, Hok.out, show m.cs = #[.int .i64 m.s, .int .i64 m.mn, .int .i64 m.mx] from rfl]; have b3' := b3.drew.bel hb1; have f0 := b3'.cell 7; have f1 := b3'.cell 8; have f2 := b3'.cell 9; simp [Ag.cs] at f0 f1 f2; have z0 := b3'.frozen 7; have z1 := b3'.frozen 8; have z2 := b3'.frozen 9)
        all_goals
          have b0' := ((((b0.drew.bel hb1).far (p := ⟨w.heap.size + 1 + 1 + 1, 7, none⟩) (by simp; omega) (.int .i64 m.s)).far (p := ⟨w.heap.size + 1 + 1 + 1, 8, none⟩) (by simp; omega) (.int .i64 m.mn)).far (p := ⟨w.heap.size + 1 + 1 + 1, 9, none⟩) (by simp; omega) (.int .i64 m.mx))
          have b1' := ((((b1.drew.bel hb1).far (p := ⟨w.heap.size + 1 + 1 + 1, 7, none⟩) (by simp) (.int .i64 m.s)).far (p := ⟨w.heap.size + 1 + 1 + 1, 8, none⟩) (by simp) (.int .i64 m.mn)).far (p := ⟨w.heap.size + 1 + 1 + 1, 9, none⟩) (by simp) (.int .i64 m.mx))
          have b2' := ((((b2.drew.bel hb1).far (p := ⟨w.heap.size + 1 + 1 + 1, 7, none⟩) (by simp) (.int .i64 m.s)).far (p := ⟨w.heap.size + 1 + 1 + 1, 8, none⟩) (by simp) (.int .i64 m.mn)).far (p := ⟨w.heap.size + 1 + 1 + 1, 9, none⟩) (by simp) (.int .i64 m.mx))
          have b3'' := ((b3'.set_ 7 (.int .i64 m.s)).set_ 8 (.int .i64 m.mn)).set_ 9 (.int .i64 m.mx)
          rw [Hu.out] at b3''
          have hB' := (((hB.drew.trans hb1).setCell (p := ⟨w.heap.size + 1 + 1 + 1, 7, none⟩) (by simp; omega) (.int .i64 m.s)).setCell (p := ⟨w.heap.size + 1 + 1 + 1, 8, none⟩) (by simp; omega) (.int .i64 m.mn)).setCell (p := ⟨w.heap.size + 1 + 1 + 1, 9, none⟩) (by simp; omega) (.int .i64 m.mx)
          generalize (((w1.setCell ⟨w.heap.size + 1 + 1 + 1, 7, none⟩ (.int .i64 m.s)).setCell ⟨w.heap.size + 1 + 1 + 1, 8, none⟩ (.int .i64 m.mn)).setCell ⟨w.heap.size + 1 + 1 + 1, 9, none⟩ (.int .i64 m.mx)) = w2 at *
          clear f0 f1 f2 z0 z1 z2 c0 c1 c2 d0 d1 d2 b0 b1 b2 b3 b3' hB hb1
          cases ok
          · have HJ' : Hid (a.join b = (.zero, false)) := by
              show _ = _
              rw [HJ.out, if_neg]
              rintro ⟨k1, k2, k3⟩
              first | (rw [Hok.out] at k1; cases k1) | (rw [Hok.out] at k2; cases k2) | (rw [Hok.out] at k3; cases k3)
            have gc0 := b2'.cell 0
            have gc1 := b2'.cell 1
            have gc2 := b2'.cell 2
            have gc3 := b2'.cell 3
            have gc4 := b2'.cell 4
            have gc5 := b2'.cell 5
            have gc6 := b2'.cell 6
            have gc7 := b2'.cell 7
            have gc8 := b2'.cell 8
            have gc9 := b2'.cell 9
            have gz0 := b2'.frozen 0
            have gz1 := b2'.frozen 1
            have gz2 := b2'.frozen 2
            have gz3 := b2'.frozen 3
            have gz4 := b2'.frozen 4
            have gz5 := b2'.frozen 5
            have gz6 := b2'.frozen 6
            have gz7 := b2'.frozen 7
            have gz8 := b2'.frozen 8
            have gz9 := b2'.frozen 9
            simp only [Ag.zero, Prt.zero, Ag.cs] at gc0 gc1 gc2 gc3 gc4 gc5 gc6 gc7 gc8 gc9
            simp at gc0 gc1 gc2 gc3 gc4 gc5 gc6 gc7 gc8 gc9
            go_wp2
            refine bodyPost_ret (v := .tuple #[.agg #[.int .i64 0, .int .i64 0, .int .i64 0, .int .i64 0, .int .i64 0, .int .i64 0, .int .i64 0, .int .i64 0, .int .i64 0, .int .i64 0], .bool false]) (by simp [results, Try.results124, go_sem, gc0, gc1, gc2, gc3, gc4, gc5, gc6, gc7, gc8, gc9] ) rfl ?_
            rw [HJ'.out]
            refine ⟨rfl, ?_⟩
            iterate 10 (refine Bel.setCell ?_ (by simp; omega) _)
            exact hB'
          · go_wp2
            go_roundg (3 - 3)
            case rel => exact ⟨3, rfl, by omega, rfl, rfl, hB', b0', b1', b2', b3'', by refine ⟨fun h => ?_, fun h => ?_, fun h => ?_⟩ <;> first | omega | exact Hok.out | exact hF.out.1 (by omega) | exact hF.out.2.1 (by omega)⟩
            case measure => omega
    · obtain rfl : k = 3 := by omega
      have HJ' : Hid (a.join b = (a.upto b 3, true)) := by
        show _ = _
        rw [HJ.out, if_pos ⟨hF.out.1 (by omega), hF.out.2.1 (by omega), hF.out.2.2 (by omega)⟩]
      obtain ⟨m, Hm⟩ : ∃ m, Hid (a.upto b 3 = m) := ⟨_, rfl⟩
      rw [Hm.out] at HJ' b3
      clear HJ hF
      have gc0 := b2.cell 0
      have gc1 := b2.cell 1
      have gc2 := b2.cell 2
      have gc3 := b2.cell 3
      have gc4 := b2.cell 4
      have gc5 := b2.cell 5
      have gc6 := b2.cell 6
      have gc7 := b2.cell 7
      have gc8 := b2.cell 8
      have gc9 := b2.cell 9
      have gz0 := b2.frozen 0
      have gz1 := b2.frozen 1
      have gz2 := b2.frozen 2
      have gz3 := b2.frozen 3
      have gz4 := b2.frozen 4
      have gz5 := b2.frozen 5
      have gz6 := b2.frozen 6
      have gz7 := b2.frozen 7
      have gz8 := b2.frozen 8
      have gz9 := b2.frozen 9
      have hc0 := b3.cell 0
      have hc1 := b3.cell 1
      have hc2 := b3.cell 2
      have hc3 := b3.cell 3
      have hc4 := b3.cell 4
      have hc5 := b3.cell 5
      have hc6 := b3.cell 6
      have hc7 := b3.cell 7
      have hc8 := b3.cell 8
      have hc9 := b3.cell 9
      simp only [Ag.zero, Prt.zero, Ag.cs] at gc0 gc1 gc2 gc3 gc4 gc5 gc6 gc7 gc8 gc9 hc0 hc1 hc2 hc3 hc4 hc5 hc6 hc7 hc8 hc9
      simp at gc0 gc1 gc2 gc3 gc4 gc5 gc6 gc7 gc8 gc9 hc0 hc1 hc2 hc3 hc4 hc5 hc6 hc7 hc8 hc9
      go_wp2
      refine bodyPost_ret (v := .tuple #[.agg m.cs, .bool true]) (by simp [results, Try.results124, go_sem, Ag.cs, gc0, gc1, gc2, gc3, gc4, gc5, gc6, gc7, gc8, gc9]) rfl ?_
      rw [HJ'.out]
      refine ⟨rfl, ?_⟩
      iterate 10 (refine Bel.setCell ?_ (by simp; omega) _)
      exact hB

end Go.Proofs.Ytllgcehgdpgnnaa
