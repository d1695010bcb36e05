/- The walk of the law AggJoins. -/
import Derived.Test.YtbociponcacmpaaAggK
import Derived.Test.YtbociponcacmpaaRead
import Derived.ChangeKeysEq
import Derived.Test.YtbociponcacmpaaEq
namespace Go.Proofs.Ytbociponcacmpaa
open Go.RowKit
set_option linter.unusedVariables false

theorem info_part : (Try.prog.info? 32).map (fun i => (i.zero, i.size, i.bytes)) = some (some (.agg #[.int .i64 0, .int .i64 0, .int .i64 0]), 3, 24) := by kernel_rfl

set_option maxRecDepth 100000 in
set_option maxHeartbeats 1000000 in
theorem eql_ag (m : Ag) (W : World) : (binOp .eql 35 (.agg m.cs) (.agg m.cs)).run Try.prog W = .ok (.bool true) W := by
  obtain ⟨i0, hi0, hz0, hz1, hz2⟩ := info_parts info_part
  unfold Ag.cs
  go_simp
  rw [run_equalIn_array W 9998 _ _ Try.underlying33 hi0, cells_part]
  simp only [show List.range 3 = [0, 1, 2] from rfl, Op.eqItems]
  go_simp

set_option maxRecDepth 100000 in
theorem guard_ag : Try.prog.eqGuardType Try.prog.depth 35 = false := by kernel_rfl

set_option maxRecDepth 100000 in
set_option maxHeartbeats 1000000 in
theorem aggJoins_big (a b : Ag) (A : Option Addr) (n c : Nat) (w : World) (hn : 200 < n) (hm : n ≤ 9223372036854775807) :
    Calls Try.prog 5 #[.agg a.cs, .agg b.cs, .slice A n c] w fun e w' => e = .returned (.bool true) ∧ Bel w w' := by
  go_enter Try.func5, Try.ntmps5
  go_wp2_with fail
  refine (awake06_any _).mono ?_; rintro e w1 ⟨rfl, hb⟩
  go_wp2
  go_ret
  exact ⟨rfl, (((Bel.refl _).alloc _).alloc _).trans hb⟩

set_option maxRecDepth 100000 in
set_option maxHeartbeats 4000000 in
theorem aggJoins_small (a b : Ag) (A : Option Addr) (n c : Nat) (l : List Ag) (w : World) (ha : a.ok) (hb : b.ok) (hr : Rd w 10 A n (agsCells l)) (hl : ∀ a ∈ l, a.ok) (hn : n ≤ 200) :
    Calls Try.prog 5 #[.agg a.cs, .agg b.cs, .slice A n c] w fun e w' => e = .returned (.bool true) ∧ Bel w w' := by
  have Ha := Lib.hid ha
  have Hb := Lib.hid hb
  have Hl := Lib.hid hl
  clear ha hb hl
  have ba : Blk ((w.alloc (.cells a.cs 35)).alloc (.cells b.cs 35)) w.heap.size 35 a.cs := (Blk.new w _ _).alloc _
  have bb : Blk ((w.alloc (.cells a.cs 35)).alloc (.cells b.cs 35)) (w.heap.size + 1) 35 b.cs := by
    have := Blk.new (w.alloc (.cells a.cs 35)) 35 b.cs
    rw [World.size_alloc] at this
    exact this
  have hB0 : Bel w ((w.alloc (.cells a.cs 35)).alloc (.cells b.cs 35)) := ((Bel.refl w).alloc _).alloc _
  go_enter Try.func5, Try.ntmps5
  go_wp2_with (first
    | ((with_reducible show wpList _ _ _ (⟨some 20, _, _, _, _, _⟩ :: _) _ _); refine wpList_load_blk rfl rowAg (.tmp 3) rfl w.heap.size rfl ba rfl ?_)
    | ((with_reducible show wpList _ _ _ (⟨some 21, _, _, _, _, _⟩ :: _) _ _); refine wpList_load_blk rfl rowAg (.tmp 4) rfl (w.heap.size + 1) rfl bb rfl ?_))
  refine (join_any a b _ Ha.out Hb.out).mono ?_; rintro e w1 ⟨rfl, hb1⟩
  replace ba := ba.bel hb1
  replace bb := bb.bel hb1
  have hB1 := hB0.trans hb1
  clear hb1 hB0
  obtain ⟨⟨x, ok⟩, Hx⟩ : ∃ x, Hid (a.join b = x) := ⟨_, rfl⟩
  rw [Hx.out]
  go_wp2_with (first
    | ((with_reducible show wpList _ _ _ (⟨_, .store _ (.tmp 7) _, _, _, _, _⟩ :: _) _ _); refine wpList_store_blk rfl rowAg (.tmp 7) (.tmp 23) rfl w1.heap.size rfl (Blk.new w1 _ Ag.zero.cs) rfl x.cs rfl rfl (ag_one _) ?_; intro w2 bx hg2; replace ba := (ba.alloc (.cells Ag.zero.cs 35)).grown hg2 (by have := ba.lt; simp; omega); replace bb := (bb.alloc (.cells Ag.zero.cs 35)).grown hg2 (by have := bb.lt; simp; omega))
    | ((with_reducible show wpList _ _ _ (⟨some 26, _, _, _, _, _⟩ :: _) _ _); refine wpList_load_blk rfl rowAg (.tmp 3) rfl w.heap.size rfl ba rfl ?_)
    | ((with_reducible show wpList _ _ _ (⟨some 27, _, _, _, _, _⟩ :: _) _ _); refine wpList_load_blk rfl rowAg (.tmp 4) rfl (w.heap.size + 1) rfl bb rfl ?_))
  have hB2 : Bel w w2 := (hB1.alloc _).grownAt hg2 hB1.size
  clear hg2 hB1
  refine (rjoin_any a b _ Ha.out Hb.out).mono ?_; rintro e w3 ⟨rfl, hb3⟩
  rw [Hx.out]
  replace bx := bx.bel hb3
  have hB3 := hB2.trans hb3
  clear ba bb hb3 hB2
  go_wp2_with ((with_reducible show wpList _ _ _ (⟨_, .store _ (.tmp 9) _, _, _, _, _⟩ :: _) _ _); refine wpList_store_blk rfl rowAg (.tmp 9) (.tmp 29) rfl w3.heap.size rfl (Blk.new w3 _ Ag.zero.cs) rfl x.cs rfl rfl (ag_one _) ?_; intro w4 by' hg4; replace bx := (bx.alloc (.cells Ag.zero.cs 35)).grown hg4 (by have := bx.lt; simp; omega))
  have hB4 : Bel w w4 := (hB3.alloc _).grownAt hg4 hB3.size
  clear hg4 hB3
  refine (all_any A n c l _ (hr.bel hB4) Hl.out (by omega)).mono ?_; rintro e w5 ⟨rfl, hb5⟩
  replace bx := bx.bel hb5
  replace by' := by'.bel hb5
  have hB5 := hB4.trans hb5
  clear hb5 hB4
  obtain ⟨⟨z, so⟩, Hz⟩ : ∃ x, Hid (Ag.all .zero l = x) := ⟨_, rfl⟩
  rw [Hz.out]
  go_wp2_with ((with_reducible show wpList _ _ _ (⟨_, .store _ (.tmp 11) _, _, _, _, _⟩ :: _) _ _); refine wpList_store_blk rfl rowAg (.tmp 11) (.tmp 34) rfl w5.heap.size rfl (Blk.new w5 _ Ag.zero.cs) rfl z.cs rfl rfl (ag_one _) ?_; intro w6 bz hg6; replace bx := (bx.alloc (.cells Ag.zero.cs 35)).grown hg6 (by have := bx.lt; simp; omega); replace by' := (by'.alloc (.cells Ag.zero.cs 35)).grown hg6 (by have := by'.lt; simp; omega))
  have hB6 : Bel w w6 := (hB5.alloc _).grownAt hg6 hB5.size
  clear hg6 hB5
  refine (rall_any rjoin_any A n c l _ (hr.bel hB6) Hl.out (by omega)).mono ?_; rintro e w7 ⟨rfl, hb7⟩
  rw [Hz.out]
  replace bx := bx.bel hb7
  replace by' := by'.bel hb7
  replace bz := bz.bel hb7
  have hB7 := hB6.trans hb7
  clear hb7 hB6
  go_wp2_with (first
    | ((with_reducible show wpList _ _ _ (⟨_, .store _ (.tmp 13) _, _, _, _, _⟩ :: _) _ _); refine wpList_store_blk rfl rowAg (.tmp 13) (.tmp 39) rfl w7.heap.size rfl (Blk.new w7 _ Ag.zero.cs) rfl z.cs rfl rfl (ag_one _) ?_; intro w8 bw hg8; replace bx := (bx.alloc (.cells Ag.zero.cs 35)).grown hg8 (by have := bx.lt; simp; omega); replace by' := (by'.alloc (.cells Ag.zero.cs 35)).grown hg8 (by have := by'.lt; simp; omega); replace bz := (bz.alloc (.cells Ag.zero.cs 35)).grown hg8 (by have := bz.lt; simp; omega))
    | ((with_reducible show wpList _ _ _ (⟨some 41, _, _, _, _, _⟩ :: _) _ _); refine wpList_load_blk rfl rowAg (.tmp 7) rfl w1.heap.size rfl bx rfl ?_)
    | ((with_reducible show wpList _ _ _ (⟨some 42, _, _, _, _, _⟩ :: _) _ _); refine wpList_load_blk rfl rowAg (.tmp 9) rfl w3.heap.size rfl by' rfl ?_)
    | ((with_reducible show wpList _ _ _ (⟨some 43, _, _, _, _, _⟩ :: _) _ _); refine wpList_cmp_row (by first | rfl | go_simp) .eql 35 35 (.tmp 41) (.tmp 42) (by rfl) (by rfl) (by rfl) guard_ag (eql_ag x _) ?_)
    | ((with_reducible show wpList _ _ _ (⟨some 52, _, _, _, _, _⟩ :: _) _ _); refine wpList_cmp_row (by first | rfl | go_simp) .eql 35 35 (.tmp 50) (.tmp 51) (by rfl) (by rfl) (by rfl) guard_ag (eql_ag z _) ?_)
    | ((with_reducible show wpList _ _ _ (⟨some 50, _, _, _, _, _⟩ :: _) _ _); refine wpList_load_blkG (by first | rfl | go_simp) rowAg (.tmp 11) (by rfl) w5.heap.size (by rfl) bz rfl ?_)
    | ((with_reducible show wpList _ _ _ (⟨some 51, _, _, _, _, _⟩ :: _) _ _); refine wpList_load_blkG (by first | rfl | go_simp) rowAg (.tmp 13) (by rfl) w7.heap.size (by rfl) bw rfl ?_))
  have hB8 : Bel w w8 := (hB7.alloc _).grownAt hg8 hB7.size
  refine (awake06_any _).mono ?_; rintro e w9 ⟨rfl, hb9⟩
  go_wp2
  go_ret
  exact ⟨rfl, hB8.trans hb9⟩

theorem walk_aggJoins (w : World) (a : Ag) (ha : a.ok) (b : Ag) (hb : b.ok) (x : AgSl) (hx : x.ok w) :
    Calls Try.prog 5 #[.agg a.cs, .agg b.cs, x.v] w fun e w' => e = .returned (.bool true) ∧ Bel w w' := by
  obtain ⟨A, n, c, l⟩ := x
  by_cases h : 200 < n
  · have := hx.le
    have := hx.cap
    unfold maxLen at this
    exact aggJoins_big a b A n c w h (by simp only at *; omega)
  · exact aggJoins_small a b A n c l w ha hb hx.rd hx.all (by omega)

end Go.Proofs.Ytbociponcacmpaa
