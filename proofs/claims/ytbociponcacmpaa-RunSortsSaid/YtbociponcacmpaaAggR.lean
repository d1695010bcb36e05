/- Walks of the document's Join and All. -/
import Derived.Test.YtbociponcacmpaaAggB
import Derived.StillTailTactics
namespace Go.Proofs.Ytbociponcacmpaa
open Go.RowKit
set_option linter.unusedVariables false

theorem radd_same (a b : Int) (w : World) (ha : I64 a) (hb : I64 b) :
    Calls Try.prog 72 #[.int .i64 a, .int .i64 b] w fun e w' => e = .returned (.tuple #[.int .i64 (xadd a b).1, .bool (xadd a b).2]) ∧ w' = w :=
  (radd_any a b w ha hb).mono fun _ _ h => ⟨h.1, h.2.symm⟩

set_option maxRecDepth 100000 in
set_option maxHeartbeats 40000000 in
theorem rjoin_long (a b : Ag) (w : World) (ha : a.ok) (hb : b.ok) (h1 : ¬ a.c = 0) (h2 : ¬ b.c = 0) (h3 : (xadd a.c b.c).2 = true) :
    Calls Try.prog 27 #[.agg a.cs, .agg b.cs] w fun e w' => e = .returned (.tuple #[.agg (a.join b).1.cs, .bool (a.join b).2]) ∧ Bel w w' := by
  have Ha := Lib.hid ha
  have Hb := Lib.hid hb
  clear ha hb
  have q1 : (a.c == 0) = false := by simpa using h1
  have q2 : (b.c == 0) = false := by simpa using h2
  have HJ : Hid (a.join b = if (xadd a.p.s b.p.s).2 = true ∧ (xadd a.q.s b.q.s).2 = true ∧ (xadd a.r.s b.r.s).2 = true then (a.upto b 3, true) else (.zero, false)) := by
    show _ = _
    unfold Ag.join Ag.upto
    rw [if_neg h1, if_neg h2]
    simp [h3]
  clear h1 h2
  have ea : a.cs = #[.int .i64 a.c, .int .i64 a.p.s, .int .i64 a.p.mn, .int .i64 a.p.mx, .int .i64 a.q.s, .int .i64 a.q.mn, .int .i64 a.q.mx, .int .i64 a.r.s, .int .i64 a.r.mn, .int .i64 a.r.mx] := rfl
  have eb : b.cs = #[.int .i64 b.c, .int .i64 b.p.s, .int .i64 b.p.mn, .int .i64 b.p.mx, .int .i64 b.q.s, .int .i64 b.q.mn, .int .i64 b.q.mx, .int .i64 b.r.s, .int .i64 b.r.mn, .int .i64 b.r.mx] := rfl
  rw [ea, eb]
  clear ea eb
  go_enter Try.func27, Try.ntmps27
  go_wp2_with fail
  refine (radd_any _ _ _ Ha.out.c Hb.out.c).mono ?_; rintro e w1 ⟨rfl, rfl⟩
  go_wp2_with fail
  have B0 : Blk ((((w.alloc (.cells a.cs 35)).alloc (.cells b.cs 35)).alloc (.cells Ag.zero.cs 35)).alloc (.cells (a.upto b 0).cs 35)) w.heap.size 35 a.cs := (((Blk.new w _ _).alloc _).alloc _).alloc _
  have B1 : Blk ((((w.alloc (.cells a.cs 35)).alloc (.cells b.cs 35)).alloc (.cells Ag.zero.cs 35)).alloc (.cells (a.upto b 0).cs 35)) (w.heap.size + 1) 35 b.cs := by
    have := ((Blk.new (w.alloc (.cells a.cs 35)) 35 b.cs).alloc (.cells Ag.zero.cs 35)).alloc (.cells (a.upto b 0).cs 35)
    simpa using this
  have B2 : Blk ((((w.alloc (.cells a.cs 35)).alloc (.cells b.cs 35)).alloc (.cells Ag.zero.cs 35)).alloc (.cells (a.upto b 0).cs 35)) (w.heap.size + 1 + 1) 35 Ag.zero.cs := by
    have := (Blk.new ((w.alloc (.cells a.cs 35)).alloc (.cells b.cs 35)) 35 Ag.zero.cs).alloc (.cells (a.upto b 0).cs 35)
    simpa using this
  have B3 : Blk ((((w.alloc (.cells a.cs 35)).alloc (.cells b.cs 35)).alloc (.cells Ag.zero.cs 35)).alloc (.cells (a.upto b 0).cs 35)) (w.heap.size + 1 + 1 + 1) 35 (a.upto b 0).cs := by
    have := Blk.new (((w.alloc (.cells a.cs 35)).alloc (.cells b.cs 35)).alloc (.cells Ag.zero.cs 35)) 35 (a.upto b 0).cs
    simpa using this
  have BB : Bel w ((((w.alloc (.cells a.cs 35)).alloc (.cells b.cs 35)).alloc (.cells Ag.zero.cs 35)).alloc (.cells (a.upto b 0).cs 35)) := ((((Bel.refl w).alloc _).alloc _).alloc _).alloc _
  go_loopg [9] 3 (fun g s32 wr => ∃ k : Nat, g = 3 - k ∧ k ≤ 3 ∧ s32 = .int .i64 k ∧ Bel w wr ∧ Blk wr w.heap.size 35 a.cs ∧ Blk wr (w.heap.size + 1) 35 b.cs ∧ Blk wr (w.heap.size + 1 + 1) 35 Ag.zero.cs ∧ Blk wr (w.heap.size + 1 + 1 + 1) 35 (a.upto b k).cs ∧
    Hid ((0 < k → (xadd a.p.s b.p.s).2 = true) ∧ (1 < k → (xadd a.q.s b.q.s).2 = true) ∧ (2 < k → (xadd a.r.s b.r.s).2 = true)))
  case atStart => exact ⟨0, rfl, by omega, rfl, BB, B0, B1, B2, B3, by refine ⟨?_, ?_, ?_⟩ <;> intro h <;> omega⟩
  case round =>
    clear B0 B1 B2 B3 BB
    obtain ⟨k, hgk, hk, rfl, hB, b0, b1, b2, b3, hF⟩ := hrel
    by_cases hlt : k < 3
    · rcases (show k = 0 ∨ k = 1 ∨ k = 2 by omega) with rfl | rfl | rfl
      · rw [show ((0 : Nat) : Int) = 0 from rfl]
        have c0 := b0.cell 1
        have d0 := b1.cell 1
        have f0 := b3.cell 1
        have z0 := b3.frozen 1
        have c1 := b0.cell 2
        have d1 := b1.cell 2
        have f1 := b3.cell 2
        have z1 := b3.frozen 2
        have c2 := b0.cell 3
        have d2 := b1.cell 3
        have f2 := b3.cell 3
        have z2 := b3.frozen 3
        simp [Ag.cs] at c0 c1 c2 d0 d1 d2 f0 f1 f2
        obtain ⟨⟨sm, ok⟩, Hok⟩ : ∃ x, Hid (xadd a.p.s b.p.s = x) := ⟨_, rfl⟩
        have Hu : Hid (((((a.upto b 0).cs.setIfInBounds 1 (.int .i64 sm)).setIfInBounds 2 (.int .i64 (min a.p.mn b.p.mn))).setIfInBounds 3 (.int .i64 (max a.p.mx b.p.mx))) = (a.upto b 1).cs) := by rw [show sm = (xadd a.p.s b.p.s).1 by rw [Hok.out]]; rfl
        go_wp2_with fail
        go_quiet ((go_at_call 72; exact Calls.quiet_of_same (radd_same _ _ _ Ha.out.p.s Hb.out.p.s)))
        rw [Hok.out]
        cases ok
        · have HJ' : Hid (a.join b = (.zero, false)) := by
            show _ = _
            rw [HJ.out, if_neg]
            rintro ⟨k1, k2, k3⟩
            first | (rw [Hok.out] at k1; cases k1) | (rw [Hok.out] at k2; cases k2) | (rw [Hok.out] at k3; cases k3)
          clear c0 c1 c2 d0 d1 d2 f0 f1 f2 z0 z1 z2
          have gc0 := b2.cell 0
          have gc1 := b2.cell 1
          have gc2 := b2.cell 2
          have gc3 := b2.cell 3
          have gc4 := b2.cell 4
          have gc5 := b2.cell 5
          have gc6 := b2.cell 6
          have gc7 := b2.cell 7
          have gc8 := b2.cell 8
          have gc9 := b2.cell 9
          have gz0 := b2.frozen 0
          have gz1 := b2.frozen 1
          have gz2 := b2.frozen 2
          have gz3 := b2.frozen 3
          have gz4 := b2.frozen 4
          have gz5 := b2.frozen 5
          have gz6 := b2.frozen 6
          have gz7 := b2.frozen 7
          have gz8 := b2.frozen 8
          have gz9 := b2.frozen 9
          simp only [Ag.zero, Prt.zero, Ag.cs] at gc0 gc1 gc2 gc3 gc4 gc5 gc6 gc7 gc8 gc9
          simp at gc0 gc1 gc2 gc3 gc4 gc5 gc6 gc7 gc8 gc9
          go_wp2
          refine bodyPost_ret (v := .tuple #[.agg Ag.zero.cs, .bool false]) (by simp [results, Try.results27, go_sem, Ag.zero, Prt.zero, Ag.cs, gc0, gc1, gc2, gc3, gc4, gc5, gc6, gc7, gc8, gc9]) rfl ?_
          rw [HJ'.out]
          exact ⟨rfl, (hB.drewN _).agSet (g := w.heap.size + 1 + 1) (by omega) .zero⟩
        · have Hq := Lib.hid (And.intro b0 (And.intro b1 (And.intro b2 hB)))
          clear HJ q1 q2 h3 c0 d0 f0 f1 f2 z0 z1 z2 b0 b1 b2 hB
          go_wp2_with fail
          obtain ⟨W, hW⟩ : ∃ W : World, Hid (W = (wr.drewN nq).drew) := ⟨_, rfl⟩
          replace c1 : W.cell? ⟨w.heap.size, 2, none⟩ = some (.int .i64 a.p.mn) := by rw [hW.out]; exact c1
          replace c2 : W.cell? ⟨w.heap.size, 3, none⟩ = some (.int .i64 a.p.mx) := by rw [hW.out]; exact c2
          replace d1 : W.cell? ⟨w.heap.size + 1, 2, none⟩ = some (.int .i64 b.p.mn) := by rw [hW.out]; exact d1
          replace d2 : W.cell? ⟨w.heap.size + 1, 3, none⟩ = some (.int .i64 b.p.mx) := by rw [hW.out]; exact d2
          replace b3 : Blk W (w.heap.size + 1 + 1 + 1) 35 (a.upto b 0).cs := by rw [hW.out]; exact b3
          have f0 := b3.cell 1
          have f1 := b3.cell 2
          have f2 := b3.cell 3
          have z0 := b3.frozen 1
          have z1 := b3.frozen 2
          have z2 := b3.frozen 3
          simp [Ag.cs] at f0 f1 f2
          refine wp_region_still_tail 27 (by kernel_rfl) (by kernel_rfl) ?_
          change wpStill _ _ ((wr.drewN nq).drew) _ _ _
          rw [← hW.out]
          simp only [List.take_succ_cons, List.take_zero, List.drop_succ_cons, List.drop_zero]
          iterate 27 still_step
          refine wpStill_nil ?_
          change wpList _ _ _ _ _ ((wr.drewN nq).drew)
          rw [← hW.out]
          clear c1 c2 d1 d2
          go_wp2
          go_roundg (3 - 1)
          case rel =>
            obtain ⟨b0, b1, b2, hB⟩ := Hq.out
            replace hB : Bel w W := by rw [hW.out]; exact (hB.drewN nq).drew
            replace b0 : Blk W w.heap.size 35 a.cs := by rw [hW.out]; exact b0
            replace b1 : Blk W (w.heap.size + 1) 35 b.cs := by rw [hW.out]; exact b1
            replace b2 : Blk W (w.heap.size + 1 + 1) 35 Ag.zero.cs := by rw [hW.out]; exact b2
            refine ⟨1, rfl, by omega, rfl, Bel.set3 hB (by omega) _ _ _, Blk.far3 b0 (by omega) _ _ _, Blk.far3 b1 (by omega) _ _ _, Blk.far3 b2 (by omega) _ _ _, Blk.set3 b3 1 2 3 (.int .i64 sm) (.int .i64 (min a.p.mn b.p.mn)) (.int .i64 (max a.p.mx b.p.mx)) Hu.out, ?_⟩
            refine ⟨fun h => ?_, fun h => ?_, fun h => ?_⟩ <;> first | omega | (rw [Hok.out]; done) | exact hF.out.1 (by omega) | exact hF.out.2.1 (by omega)
          case measure => omega
      · rw [show ((1 : Nat) : Int) = 1 from rfl]
        have c0 := b0.cell 4
        have d0 := b1.cell 4
        have f0 := b3.cell 4
        have z0 := b3.frozen 4
        have c1 := b0.cell 5
        have d1 := b1.cell 5
        have f1 := b3.cell 5
        have z1 := b3.frozen 5
        have c2 := b0.cell 6
        have d2 := b1.cell 6
        have f2 := b3.cell 6
        have z2 := b3.frozen 6
        simp [Ag.cs] at c0 c1 c2 d0 d1 d2 f0 f1 f2
        obtain ⟨⟨sm, ok⟩, Hok⟩ : ∃ x, Hid (xadd a.q.s b.q.s = x) := ⟨_, rfl⟩
        have Hu : Hid (((((a.upto b 1).cs.setIfInBounds 4 (.int .i64 sm)).setIfInBounds 5 (.int .i64 (min a.q.mn b.q.mn))).setIfInBounds 6 (.int .i64 (max a.q.mx b.q.mx))) = (a.upto b 2).cs) := by rw [show sm = (xadd a.q.s b.q.s).1 by rw [Hok.out]]; rfl
        go_wp2_with fail
        go_quiet ((go_at_call 72; exact Calls.quiet_of_same (radd_same _ _ _ Ha.out.q.s Hb.out.q.s)))
        rw [Hok.out]
        cases ok
        · have HJ' : Hid (a.join b = (.zero, false)) := by
            show _ = _
            rw [HJ.out, if_neg]
            rintro ⟨k1, k2, k3⟩
            first | (rw [Hok.out] at k1; cases k1) | (rw [Hok.out] at k2; cases k2) | (rw [Hok.out] at k3; cases k3)
          clear c0 c1 c2 d0 d1 d2 f0 f1 f2 z0 z1 z2
          have gc0 := b2.cell 0
          have gc1 := b2.cell 1
          have gc2 := b2.cell 2
          have gc3 := b2.cell 3
          have gc4 := b2.cell 4
          have gc5 := b2.cell 5
          have gc6 := b2.cell 6
          have gc7 := b2.cell 7
          have gc8 := b2.cell 8
          have gc9 := b2.cell 9
          have gz0 := b2.frozen 0
          have gz1 := b2.frozen 1
          have gz2 := b2.frozen 2
          have gz3 := b2.frozen 3
          have gz4 := b2.frozen 4
          have gz5 := b2.frozen 5
          have gz6 := b2.frozen 6
          have gz7 := b2.frozen 7
          have gz8 := b2.frozen 8
          have gz9 := b2.frozen 9
          simp only [Ag.zero, Prt.zero, Ag.cs] at gc0 gc1 gc2 gc3 gc4 gc5 gc6 gc7 gc8 gc9
          simp at gc0 gc1 gc2 gc3 gc4 gc5 gc6 gc7 gc8 gc9
          go_wp2
          refine bodyPost_ret (v := .tuple #[.agg Ag.zero.cs, .bool false]) (by simp [results, Try.results27, go_sem, Ag.zero, Prt.zero, Ag.cs, gc0, gc1, gc2, gc3, gc4, gc5, gc6, gc7, gc8, gc9]) rfl ?_
          rw [HJ'.out]
          exact ⟨rfl, (hB.drewN _).agSet (g := w.heap.size + 1 + 1) (by omega) .zero⟩
        · have Hq := Lib.hid (And.intro b0 (And.intro b1 (And.intro b2 hB)))
          clear HJ q1 q2 h3 c0 d0 f0 f1 f2 z0 z1 z2 b0 b1 b2 hB
          go_wp2_with fail
          obtain ⟨W, hW⟩ : ∃ W : World, Hid (W = (wr.drewN nq).drew) := ⟨_, rfl⟩
          replace c1 : W.cell? ⟨w.heap.size, 5, none⟩ = some (.int .i64 a.q.mn) := by rw [hW.out]; exact c1
          replace c2 : W.cell? ⟨w.heap.size, 6, none⟩ = some (.int .i64 a.q.mx) := by rw [hW.out]; exact c2
          replace d1 : W.cell? ⟨w.heap.size + 1, 5, none⟩ = some (.int .i64 b.q.mn) := by rw [hW.out]; exact d1
          replace d2 : W.cell? ⟨w.heap.size + 1, 6, none⟩ = some (.int .i64 b.q.mx) := by rw [hW.out]; exact d2
          replace b3 : Blk W (w.heap.size + 1 + 1 + 1) 35 (a.upto b 1).cs := by rw [hW.out]; exact b3
          have f0 := b3.cell 4
          have f1 := b3.cell 5
          have f2 := b3.cell 6
          have z0 := b3.frozen 4
          have z1 := b3.frozen 5
          have z2 := b3.frozen 6
          simp [Ag.cs] at f0 f1 f2
          refine wp_region_still_tail 27 (by kernel_rfl) (by kernel_rfl) ?_
          change wpStill _ _ ((wr.drewN nq).drew) _ _ _
          rw [← hW.out]
          simp only [List.take_succ_cons, List.take_zero, List.drop_succ_cons, List.drop_zero]
          iterate 27 still_step
          refine wpStill_nil ?_
          change wpList _ _ _ _ _ ((wr.drewN nq).drew)
          rw [← hW.out]
          clear c1 c2 d1 d2
          go_wp2
          go_roundg (3 - 2)
          case rel =>
            obtain ⟨b0, b1, b2, hB⟩ := Hq.out
            replace hB : Bel w W := by rw [hW.out]; exact (hB.drewN nq).drew
            replace b0 : Blk W w.heap.size 35 a.cs := by rw [hW.out]; exact b0
            replace b1 : Blk W (w.heap.size + 1) 35 b.cs := by rw [hW.out]; exact b1
            replace b2 : Blk W (w.heap.size + 1 + 1) 35 Ag.zero.cs := by rw [hW.out]; exact b2
            refine ⟨2, rfl, by omega, rfl, Bel.set3 hB (by omega) _ _ _, Blk.far3 b0 (by omega) _ _ _, Blk.far3 b1 (by omega) _ _ _, Blk.far3 b2 (by omega) _ _ _, Blk.set3 b3 4 5 6 (.int .i64 sm) (.int .i64 (min a.q.mn b.q.mn)) (.int .i64 (max a.q.mx b.q.mx)) Hu.out, ?_⟩
            refine ⟨fun h => ?_, fun h => ?_, fun h => ?_⟩ <;> first | omega | (rw [Hok.out]; done) | exact hF.out.1 (by omega) | exact hF.out.2.1 (by omega)
          case measure => omega
      · rw [show ((2 : Nat) : Int) = 2 from rfl]
        have c0 := b0.cell 7
        have d0 := b1.cell 7
        have f0 := b3.cell 7
        have z0 := b3.frozen 7
        have c1 := b0.cell 8
        have d1 := b1.cell 8
        have f1 := b3.cell 8
        have z1 := b3.frozen 8
        have c2 := b0.cell 9
        have d2 := b1.cell 9
        have f2 := b3.cell 9
        have z2 := b3.frozen 9
        simp [Ag.cs] at c0 c1 c2 d0 d1 d2 f0 f1 f2
        obtain ⟨⟨sm, ok⟩, Hok⟩ : ∃ x, Hid (xadd a.r.s b.r.s = x) := ⟨_, rfl⟩
        have Hu : Hid (((((a.upto b 2).cs.setIfInBounds 7 (.int .i64 sm)).setIfInBounds 8 (.int .i64 (min a.r.mn b.r.mn))).setIfInBounds 9 (.int .i64 (max a.r.mx b.r.mx))) = (a.upto b 3).cs) := by rw [show sm = (xadd a.r.s b.r.s).1 by rw [Hok.out]]; rfl
        go_wp2_with fail
        go_quiet ((go_at_call 72; exact Calls.quiet_of_same (radd_same _ _ _ Ha.out.r.s Hb.out.r.s)))
        rw [Hok.out]
        cases ok
        · have HJ' : Hid (a.join b = (.zero, false)) := by
            show _ = _
            rw [HJ.out, if_neg]
            rintro ⟨k1, k2, k3⟩
            first | (rw [Hok.out] at k1; cases k1) | (rw [Hok.out] at k2; cases k2) | (rw [Hok.out] at k3; cases k3)
          clear c0 c1 c2 d0 d1 d2 f0 f1 f2 z0 z1 z2
          have gc0 := b2.cell 0
          have gc1 := b2.cell 1
          have gc2 := b2.cell 2
          have gc3 := b2.cell 3
          have gc4 := b2.cell 4
          have gc5 := b2.cell 5
          have gc6 := b2.cell 6
          have gc7 := b2.cell 7
          have gc8 := b2.cell 8
          have gc9 := b2.cell 9
          have gz0 := b2.frozen 0
          have gz1 := b2.frozen 1
          have gz2 := b2.frozen 2
          have gz3 := b2.frozen 3
          have gz4 := b2.frozen 4
          have gz5 := b2.frozen 5
          have gz6 := b2.frozen 6
          have gz7 := b2.frozen 7
          have gz8 := b2.frozen 8
          have gz9 := b2.frozen 9
          simp only [Ag.zero, Prt.zero, Ag.cs] at gc0 gc1 gc2 gc3 gc4 gc5 gc6 gc7 gc8 gc9
          simp at gc0 gc1 gc2 gc3 gc4 gc5 gc6 gc7 gc8 gc9
          go_wp2
          refine bodyPost_ret (v := .tuple #[.agg Ag.zero.cs, .bool false]) (by simp [results, Try.results27, go_sem, Ag.zero, Prt.zero, Ag.cs, gc0, gc1, gc2, gc3, gc4, gc5, gc6, gc7, gc8, gc9]) rfl ?_
          rw [HJ'.out]
          exact ⟨rfl, (hB.drewN _).agSet (g := w.heap.size + 1 + 1) (by omega) .zero⟩
        · have Hq := Lib.hid (And.intro b0 (And.intro b1 (And.intro b2 hB)))
          clear HJ q1 q2 h3 c0 d0 f0 f1 f2 z0 z1 z2 b0 b1 b2 hB
          go_wp2_with fail
          obtain ⟨W, hW⟩ : ∃ W : World, Hid (W = (wr.drewN nq).drew) := ⟨_, rfl⟩
          replace c1 : W.cell? ⟨w.heap.size, 8, none⟩ = some (.int .i64 a.r.mn) := by rw [hW.out]; exact c1
          replace c2 : W.cell? ⟨w.heap.size, 9, none⟩ = some (.int .i64 a.r.mx) := by rw [hW.out]; exact c2
          replace d1 : W.cell? ⟨w.heap.size + 1, 8, none⟩ = some (.int .i64 b.r.mn) := by rw [hW.out]; exact d1
          replace d2 : W.cell? ⟨w.heap.size + 1, 9, none⟩ = some (.int .i64 b.r.mx) := by rw [hW.out]; exact d2
          replace b3 : Blk W (w.heap.size + 1 + 1 + 1) 35 (a.upto b 2).cs := by rw [hW.out]; exact b3
          have f0 := b3.cell 7
          have f1 := b3.cell 8
          have f2 := b3.cell 9
          have z0 := b3.frozen 7
          have z1 := b3.frozen 8
          have z2 := b3.frozen 9
          simp [Ag.cs] at f0 f1 f2
          refine wp_region_still_tail 27 (by kernel_rfl) (by kernel_rfl) ?_
          change wpStill _ _ ((wr.drewN nq).drew) _ _ _
          rw [← hW.out]
          simp only [List.take_succ_cons, List.take_zero, List.drop_succ_cons, List.drop_zero]
          iterate 27 still_step
          refine wpStill_nil ?_
          change wpList _ _ _ _ _ ((wr.drewN nq).drew)
          rw [← hW.out]
          clear c1 c2 d1 d2
          go_wp2
          go_roundg (3 - 3)
          case rel =>
            obtain ⟨b0, b1, b2, hB⟩ := Hq.out
            replace hB : Bel w W := by rw [hW.out]; exact (hB.drewN nq).drew
            replace b0 : Blk W w.heap.size 35 a.cs := by rw [hW.out]; exact b0
            replace b1 : Blk W (w.heap.size + 1) 35 b.cs := by rw [hW.out]; exact b1
            replace b2 : Blk W (w.heap.size + 1 + 1) 35 Ag.zero.cs := by rw [hW.out]; exact b2
            refine ⟨3, rfl, by omega, rfl, Bel.set3 hB (by omega) _ _ _, Blk.far3 b0 (by omega) _ _ _, Blk.far3 b1 (by omega) _ _ _, Blk.far3 b2 (by omega) _ _ _, Blk.set3 b3 7 8 9 (.int .i64 sm) (.int .i64 (min a.r.mn b.r.mn)) (.int .i64 (max a.r.mx b.r.mx)) Hu.out, ?_⟩
            refine ⟨fun h => ?_, fun h => ?_, fun h => ?_⟩ <;> first | omega | (rw [Hok.out]; done) | exact hF.out.1 (by omega) | exact hF.out.2.1 (by omega)
          case measure => omega
    · obtain rfl : k = 3 := by omega
      have HJ' : Hid (a.join b = (a.upto b 3, true)) := by
        show _ = _
        rw [HJ.out, if_pos ⟨hF.out.1 (by omega), hF.out.2.1 (by omega), hF.out.2.2 (by omega)⟩]
      obtain ⟨m, Hm⟩ : ∃ m, Hid (a.upto b 3 = m) := ⟨_, rfl⟩
      rw [Hm.out] at HJ' b3
      clear HJ hF
      have gc0 := b2.cell 0
      have gc1 := b2.cell 1
      have gc2 := b2.cell 2
      have gc3 := b2.cell 3
      have gc4 := b2.cell 4
      have gc5 := b2.cell 5
      have gc6 := b2.cell 6
      have gc7 := b2.cell 7
      have gc8 := b2.cell 8
      have gc9 := b2.cell 9
      have gz0 := b2.frozen 0
      have gz1 := b2.frozen 1
      have gz2 := b2.frozen 2
      have gz3 := b2.frozen 3
      have gz4 := b2.frozen 4
      have gz5 := b2.frozen 5
      have gz6 := b2.frozen 6
      have gz7 := b2.frozen 7
      have gz8 := b2.frozen 8
      have gz9 := b2.frozen 9
      have h0 := b3.cell 0
      have h1 := b3.cell 1
      have h2 := b3.cell 2
      have h3 := b3.cell 3
      have h4 := b3.cell 4
      have h5 := b3.cell 5
      have h6 := b3.cell 6
      have h7 := b3.cell 7
      have h8 := b3.cell 8
      have h9 := b3.cell 9
      simp only [Ag.zero, Prt.zero, Ag.cs] at gc0 gc1 gc2 gc3 gc4 gc5 gc6 gc7 gc8 gc9 h0 h1 h2 h3 h4 h5 h6 h7 h8 h9
      simp at gc0 gc1 gc2 gc3 gc4 gc5 gc6 gc7 gc8 gc9 h0 h1 h2 h3 h4 h5 h6 h7 h8 h9
      go_wp2
      refine bodyPost_ret (v := .tuple #[.agg m.cs, .bool true]) (by simp [results, Try.results27, go_sem, Ag.cs, gc0, gc1, gc2, gc3, gc4, gc5, gc6, gc7, gc8, gc9]) rfl ?_
      rw [HJ'.out]
      exact ⟨rfl, hB.agSet (g := w.heap.size + 1 + 1) (by omega) m⟩

set_option maxRecDepth 100000 in
set_option maxHeartbeats 1000000 in
theorem rjoin_left (a b : Ag) (w : World) (h1 : a.c = 0) :
    Calls Try.prog 27 #[.agg a.cs, .agg b.cs] w fun e w' => e = .returned (.tuple #[.agg b.cs, .bool true]) ∧ Bel w w' := by
  have q1 : (a.c == 0) = true := by simp [h1]
  clear h1
  unfold Ag.cs
  go_enter Try.func27, Try.ntmps27
  go_wp2
  refine bodyPost_ret (v := .tuple #[.agg b.cs, .bool true]) (by simp [results, Try.results27, go_sem, Ag.cs]) rfl ⟨rfl, ?_⟩
  exact (((Bel.refl _).alloc _).alloc _).alloc _

set_option maxRecDepth 100000 in
set_option maxHeartbeats 1000000 in
theorem rjoin_right (a b : Ag) (w : World) (h1 : ¬ a.c = 0) (h2 : b.c = 0) :
    Calls Try.prog 27 #[.agg a.cs, .agg b.cs] w fun e w' => e = .returned (.tuple #[.agg a.cs, .bool true]) ∧ Bel w w' := by
  have q1 : (a.c == 0) = false := by simp [h1]
  have q2 : (b.c == 0) = true := by simp [h2]
  clear h1 h2
  unfold Ag.cs
  go_enter Try.func27, Try.ntmps27
  go_wp2
  refine bodyPost_ret (v := .tuple #[.agg a.cs, .bool true]) (by simp [results, Try.results27, go_sem, Ag.cs]) rfl ⟨rfl, ?_⟩
  exact (((Bel.refl _).alloc _).alloc _).alloc _

set_option maxRecDepth 100000 in
set_option maxHeartbeats 1000000 in
theorem rjoin_over (a b : Ag) (w : World) (ha : a.ok) (hb : b.ok) (h1 : ¬ a.c = 0) (h2 : ¬ b.c = 0) (h3 : (xadd a.c b.c).2 = false) :
    Calls Try.prog 27 #[.agg a.cs, .agg b.cs] w fun e w' => e = .returned (.tuple #[.agg Ag.zero.cs, .bool false]) ∧ Bel w w' := by
  have q1 : (a.c == 0) = false := by simp [h1]
  have q2 : (b.c == 0) = false := by simp [h2]
  have Ha := Lib.hid ha
  have Hb := Lib.hid hb
  clear h1 h2 ha hb
  unfold Ag.cs
  go_enter Try.func27, Try.ntmps27
  go_wp2_with fail
  refine (radd_any _ _ _ Ha.out.c Hb.out.c).mono ?_; rintro e w1 ⟨rfl, rfl⟩
  go_wp2
  refine bodyPost_ret (v := .tuple #[.agg Ag.zero.cs, .bool false]) (by simp [results, Try.results27, go_sem, Ag.cs, Ag.zero, Prt.zero]) rfl ⟨rfl, ?_⟩
  exact (((Bel.refl _).alloc _).alloc _).alloc _

theorem rjoin_any : RJoinSaid := by
  intro a b w ha hb
  by_cases h1 : a.c = 0
  · refine (rjoin_left a b w h1).mono fun _ _ h => ⟨?_, h.2⟩
    rw [Ag.join, if_pos h1]; exact h.1
  · by_cases h2 : b.c = 0
    · refine (rjoin_right a b w h1 h2).mono fun _ _ h => ⟨?_, h.2⟩
      rw [Ag.join, if_neg h1, if_pos h2]; exact h.1
    · by_cases h3 : (xadd a.c b.c).2 = true
      · exact rjoin_long a b w ha hb h1 h2 h3
      · refine (rjoin_over a b w ha hb h1 h2 (by simpa using h3)).mono fun _ _ h => ⟨?_, h.2⟩
        rw [Ag.join, if_neg h1, if_neg h2, if_neg (fun k => h3 k.1)]; exact h.1

end Go.Proofs.Ytbociponcacmpaa
