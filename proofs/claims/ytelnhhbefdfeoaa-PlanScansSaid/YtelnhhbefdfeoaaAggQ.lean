/- The walk of the document's Of. -/
import Derived.Test.YtelnhhbefdfeoaaAggM
import Derived.StillTailTactics
namespace Go.Proofs.Ytelnhhbefdfeoaa
open Go.RowKit
set_option linter.unusedVariables false

theorem of_take3 (zs : List Int) : Ag.of (zs.take 3) = Ag.of zs := by
  simp [Ag.of, prtOf_take]

set_option maxRecDepth 100000 in
set_option maxHeartbeats 4000000 in
theorem rof_any (A : Option Addr) (n c : Nat) (zs : List Int) (w : World) (hr : Rd w 1 A n (zs.map (Value.int .i64))) (hn : n ≤ 3) :
    Calls Try.prog 38 #[.slice A n c] w fun e w' => e = .returned (.agg (Ag.of zs).cs) ∧ Bel w w' := by
  have hlen : Hid (zs.length = n) := by have := hr.len; show _ = _; simpa using this
  go_enter Try.func38, Try.ntmps38
  go_wp2
  rw [← of_zero zs]
  have BB : Bel w ((w.alloc (.cells Ag.zero.cs 82)).alloc (.cells (Ag.of (zs.take 0)).cs 82)) := ((Bel.refl w).alloc _).alloc _
  have B0 : Blk ((w.alloc (.cells Ag.zero.cs 82)).alloc (.cells (Ag.of (zs.take 0)).cs 82)) w.heap.size 82 Ag.zero.cs := (Blk.new w _ _).alloc _
  have B1 : Blk ((w.alloc (.cells Ag.zero.cs 82)).alloc (.cells (Ag.of (zs.take 0)).cs 82)) (w.heap.size + 1) 82 (Ag.of (zs.take 0)).cs := by
    have := Blk.new (w.alloc (.cells Ag.zero.cs 82)) 82 (Ag.of (zs.take 0)).cs
    rw [World.size_alloc] at this
    exact this
  go_loopg [4] n (fun g i wr => ∃ k : Nat, g = n - k ∧ k ≤ n ∧ k ≤ 3 ∧ i = .int .i64 k ∧ Bel w wr ∧ Blk wr w.heap.size 82 Ag.zero.cs ∧ Blk wr (w.heap.size + 1) 82 (Ag.of (zs.take k)).cs)
  case atStart => exact ⟨0, rfl, by omega, by omega, rfl, BB, B0, B1⟩
  case round =>
    clear B0 B1 BB
    obtain ⟨k, hgk, hk, hk3, rfl, hB, b0, b1⟩ := hrel
    by_cases hlt : k < n
    · obtain ⟨bb, oo, x, rfl, hx, hcx⟩ := (hr.bel hB).intAt hlt
      have Hx := Lib.hid hx
      clear hx
      rcases (show k = 0 ∨ k = 1 ∨ k = 2 by omega) with rfl | rfl | rfl
      · try simp only [Nat.add_zero] at hcx
        rw [show ((0 : Nat) : Int) = 0 from rfl]
        have Hq := Lib.hid (And.intro hB b0)
        clear hB b0
        go_wp2_with fail
        obtain ⟨W, hW⟩ : ∃ W : World, Hid (W = wr.drew) := ⟨_, rfl⟩
        replace hcx : W.cell? ⟨bb, oo, none⟩ = some (.int .i64 x) := by rw [hW.out]; exact hcx
        replace b1 : Blk W (w.heap.size + 1) 82 (Ag.of (zs.take 0)).cs := by rw [hW.out]; exact b1
        have f0 := b1.cell 1
        have f1 := b1.cell 2
        have f2 := b1.cell 3
        have z0 := b1.frozen 1
        have z1 := b1.frozen 2
        have z2 := b1.frozen 3
        simp [Ag.cs] at f0 f1 f2
        refine wp_region_still_tail 16 (by kernel_rfl) (by kernel_rfl) ?_
        change wpStill _ _ (wr.drew) _ _ _
        rw [← hW.out]
        simp only [List.take_succ_cons, List.take_zero, List.drop_succ_cons, List.drop_zero]
        iterate 16 still_step
        refine wpStill_nil ?_
        change wpList _ _ _ _ _ (wr.drew)
        rw [← hW.out]
        clear hcx
        go_wp2
        go_roundg (n - 1)
        case rel =>
          obtain ⟨hB, b0⟩ := Hq.out
          replace hB : Bel w W := by rw [hW.out]; exact hB.drew
          replace b0 : Blk W w.heap.size 82 Ag.zero.cs := by rw [hW.out]; exact b0
          exact ⟨1, rfl, by omega, by omega, rfl, Bel.set3 hB (by omega) _ _ _, Blk.far3 b0 (by omega) _ _ _, Blk.set3 b1 1 2 3 (.int .i64 x) (.int .i64 x) (.int .i64 x) (of_step0 zs x Hx.out)⟩
        case measure => omega
      · try simp only [Nat.add_zero] at hcx
        rw [show ((1 : Nat) : Int) = 1 from rfl]
        have Hq := Lib.hid (And.intro hB b0)
        clear hB b0
        go_wp2_with fail
        obtain ⟨W, hW⟩ : ∃ W : World, Hid (W = wr.drew) := ⟨_, rfl⟩
        replace hcx : W.cell? ⟨bb, oo + 1, none⟩ = some (.int .i64 x) := by rw [hW.out]; exact hcx
        replace b1 : Blk W (w.heap.size + 1) 82 (Ag.of (zs.take 1)).cs := by rw [hW.out]; exact b1
        have f0 := b1.cell 4
        have f1 := b1.cell 5
        have f2 := b1.cell 6
        have z0 := b1.frozen 4
        have z1 := b1.frozen 5
        have z2 := b1.frozen 6
        simp [Ag.cs] at f0 f1 f2
        refine wp_region_still_tail 16 (by kernel_rfl) (by kernel_rfl) ?_
        change wpStill _ _ (wr.drew) _ _ _
        rw [← hW.out]
        simp only [List.take_succ_cons, List.take_zero, List.drop_succ_cons, List.drop_zero]
        iterate 16 still_step
        refine wpStill_nil ?_
        change wpList _ _ _ _ _ (wr.drew)
        rw [← hW.out]
        clear hcx
        go_wp2
        go_roundg (n - 2)
        case rel =>
          obtain ⟨hB, b0⟩ := Hq.out
          replace hB : Bel w W := by rw [hW.out]; exact hB.drew
          replace b0 : Blk W w.heap.size 82 Ag.zero.cs := by rw [hW.out]; exact b0
          exact ⟨2, rfl, by omega, by omega, rfl, Bel.set3 hB (by omega) _ _ _, Blk.far3 b0 (by omega) _ _ _, Blk.set3 b1 4 5 6 (.int .i64 x) (.int .i64 x) (.int .i64 x) (of_step1 zs x Hx.out)⟩
        case measure => omega
      · try simp only [Nat.add_zero] at hcx
        rw [show ((2 : Nat) : Int) = 2 from rfl]
        have Hq := Lib.hid (And.intro hB b0)
        clear hB b0
        go_wp2_with fail
        obtain ⟨W, hW⟩ : ∃ W : World, Hid (W = wr.drew) := ⟨_, rfl⟩
        replace hcx : W.cell? ⟨bb, oo + 2, none⟩ = some (.int .i64 x) := by rw [hW.out]; exact hcx
        replace b1 : Blk W (w.heap.size + 1) 82 (Ag.of (zs.take 2)).cs := by rw [hW.out]; exact b1
        have f0 := b1.cell 7
        have f1 := b1.cell 8
        have f2 := b1.cell 9
        have z0 := b1.frozen 7
        have z1 := b1.frozen 8
        have z2 := b1.frozen 9
        simp [Ag.cs] at f0 f1 f2
        refine wp_region_still_tail 16 (by kernel_rfl) (by kernel_rfl) ?_
        change wpStill _ _ (wr.drew) _ _ _
        rw [← hW.out]
        simp only [List.take_succ_cons, List.take_zero, List.drop_succ_cons, List.drop_zero]
        iterate 16 still_step
        refine wpStill_nil ?_
        change wpList _ _ _ _ _ (wr.drew)
        rw [← hW.out]
        clear hcx
        go_wp2
        go_roundg (n - 3)
        case rel =>
          obtain ⟨hB, b0⟩ := Hq.out
          replace hB : Bel w W := by rw [hW.out]; exact hB.drew
          replace b0 : Blk W w.heap.size 82 Ag.zero.cs := by rw [hW.out]; exact b0
          exact ⟨3, rfl, by omega, by omega, rfl, Bel.set3 hB (by omega) _ _ _, Blk.far3 b0 (by omega) _ _ _, Blk.set3 b1 7 8 9 (.int .i64 x) (.int .i64 x) (.int .i64 x) (of_step2 zs x Hx.out)⟩
        case measure => omega
    · have HE : Hid (zs.take k = zs) := by show _ = _; exact List.take_of_length_le (by have := hlen.out; omega)
      rw [HE.out] at b1
      obtain ⟨m, Hm⟩ : ∃ m, Hid (Ag.of zs = m) := ⟨_, rfl⟩
      rw [Hm.out] at b1
      clear HE
      have x0 := b0.cell 0
      have x1 := b0.cell 1
      have x2 := b0.cell 2
      have x3 := b0.cell 3
      have x4 := b0.cell 4
      have x5 := b0.cell 5
      have x6 := b0.cell 6
      have x7 := b0.cell 7
      have x8 := b0.cell 8
      have x9 := b0.cell 9
      have y0 := b0.frozen 0
      have y1 := b0.frozen 1
      have y2 := b0.frozen 2
      have y3 := b0.frozen 3
      have y4 := b0.frozen 4
      have y5 := b0.frozen 5
      have y6 := b0.frozen 6
      have y7 := b0.frozen 7
      have y8 := b0.frozen 8
      have y9 := b0.frozen 9
      have d0 := b1.cell 0
      have d1 := b1.cell 1
      have d2 := b1.cell 2
      have d3 := b1.cell 3
      have d4 := b1.cell 4
      have d5 := b1.cell 5
      have d6 := b1.cell 6
      have d7 := b1.cell 7
      have d8 := b1.cell 8
      have d9 := b1.cell 9
      simp only [Ag.zero, Prt.zero, Ag.cs] at x0 x1 x2 x3 x4 x5 x6 x7 x8 x9 d0 d1 d2 d3 d4 d5 d6 d7 d8 d9
      simp at x0 x1 x2 x3 x4 x5 x6 x7 x8 x9 d0 d1 d2 d3 d4 d5 d6 d7 d8 d9
      go_wp2
      refine bodyPost_ret (v := .agg m.cs) (by simp [results, Try.results38, go_sem, Ag.cs, x0, x1, x2, x3, x4, x5, x6, x7, x8, x9]) rfl ?_
      rw [Hm.out]
      exact ⟨rfl, hB.agSet (g := w.heap.size) (by omega) m⟩

end Go.Proofs.Ytelnhhbefdfeoaa
