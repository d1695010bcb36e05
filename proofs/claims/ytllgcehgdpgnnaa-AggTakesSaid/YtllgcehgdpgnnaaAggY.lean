/- The document's Take of aggregates. -/
import Derived.Test.YtllgcehgdpgnnaaAggX
namespace Go.Proofs.Ytllgcehgdpgnnaa
open Go.RowKit
set_option linter.unusedVariables false
set_option linter.unusedSimpArgs false

set_option maxRecDepth 100000 in
set_option maxHeartbeats 1000000 in
theorem ratake_any (s : List UInt8) (m : Int) (w : World) (hs : s.length ≤ 1000001) (hm : I64 m) :
    Calls Try.prog 71 #[.string ⟨s.toArray⟩, .int .i64 m] w fun e w' => e = .returned (.tuple #[.agg (atake m s).1.cs, .int .i64 (atake m s).2]) ∧ Bel w w' := by
  have ez : Ag.zero.cs = #[.int .i64 0, .int .i64 0, .int .i64 0, .int .i64 0, .int .i64 0, .int .i64 0, .int .i64 0, .int .i64 0, .int .i64 0, .int .i64 0] := rfl
  have b0 := Blk.new w 92 Ag.zero.cs
  have hW := (Bel.refl w).alloc (.cells Ag.zero.cs 92)
  have EZ := Lib.hid ez
  rw [ez] at b0 hW
  clear ez
  cases ho : pag m s with
  | error k =>
    have Ho := Lib.hid ho
    have HT : Hid (atake m s = (.zero, k)) := by show _ = _; unfold atake; rw [ho]
    have hk := pag_err ho
    have HEnd : Hid (∀ t, endOf s t k = k) := by show ∀ t, _ = _; intro t; unfold endOf; rw [if_pos (by omega)]
    have dk : (k == 0) = false := by subst hk; rfl
    have dk2 : (k != 0) = true := by subst hk; rfl
    clear ho hk
    go_enter Try.func71, Try.ntmps71
    go_wp2_with fail
    refine (raread_any s m _ hs hm).mono ?_
    rw [Ho.out]
    rintro e w1 ⟨hb1, t, x, rfl, hx⟩
    dsimp only [prErr]
    have Z1 := Lib.hid (b0.bel hb1)
    have B1 := Lib.hid (hW.trans hb1)
    have p2 := (Blk.new w1 55 (scs [] 0 0)).alloc (.cells Ag.zero.cs 92)
    have r2 := Blk.new (w1.alloc (.cells (scs [] 0 0) 55)) 92 Ag.zero.cs
    rw [World.size_alloc] at r2
    have Z2 := Lib.hid ((Z1.out.alloc (.cells (scs [] 0 0) 55)).alloc (.cells Ag.zero.cs 92))
    have B2 := Lib.hid ((B1.out.alloc (.cells (scs [] 0 0) 55)).alloc (.cells Ag.zero.cs 92))
    have hz1 : w.heap.size < w1.heap.size := Z1.out.lt
    clear b0 hb1 hW hx Z1 B1
    go_wp2_with (first | ((with_reducible show wpList _ _ _ (⟨_, .store _ (.tmp 6) _, _, _, _, _⟩ :: _) _ _); refine wpList_store_blk rfl rowScn (.tmp 6) (.tmp 14) rfl w1.heap.size rfl p2 rfl (scs s t k) rfl rfl (scs_one _ _ _) ?_; intro w3 p3 hg3; have r3 := r2.grown hg3 (by simp); have Z3 := Lib.hid (Z2.out.grown hg3 (by simp; omega)); have B3 := Lib.hid (B2.out.grownAt hg3 (by omega)); clear hg3 p2 r2 Z2 B2) | ((with_reducible show wpList _ _ _ (⟨_, .store _ (.tmp 7) _, _, _, _, _⟩ :: _) _ _); refine wpList_store_blk rfl rowAg (.tmp 7) (.tmp 15) rfl (w1.heap.size + 1) rfl r3 rfl x.cs rfl rfl (ag_one _) ?_; intro w4 r4 hg4; have p4 := p3.grown hg4 (by simp); have Z4 := Lib.hid (Z3.out.grown hg4 (by simp; omega)); have B4 := Lib.hid (B3.out.grownAt hg4 (by omega)); clear hg4 p3 r3 Z3 B3) | ((with_reducible show wpList _ _ _ (⟨some 16, _, _, _, _, _⟩ :: _) _ _); refine wpList_load_blk rfl rowScn (.tmp 6) rfl w1.heap.size rfl p4 rfl ?_))
    refine (rend_any s t k _).mono ?_; rintro e w5 ⟨rfl, hb5⟩
    rw [HEnd.out]
    have r5 := r4.bel hb5
    have z5 := Z4.out.bel hb5
    have B5 := Lib.hid (B4.out.trans hb5)
    clear r4 p4 Z4 B4 hb5
    go_wp2_with (first | ((with_reducible show wpList _ _ _ (⟨_, .store _ (.tmp 4) _, _, _, _, _⟩ :: _) _ _); refine wpList_store_blk rfl rowAg (.tmp 4) (.tmp 20) rfl w.heap.size rfl z5 rfl Ag.zero.cs rfl (by rw [EZ.out]; rfl) (ag_one _) ?_; intro w7 bC hg7))
    refine bodyPost_ret (results_blk rfl rowAg rfl bC rfl) rfl ?_
    rw [HT.out]
    exact ⟨rfl, B5.out.grownAt hg7 (Nat.le_refl _)⟩
  | ok q =>
    obtain ⟨a, l⟩ := q
    have Ho := Lib.hid ho
    by_cases hl0 : l = []
    · subst hl0
      have HT : Hid (atake m s = (a, 0)) := by show _ = _; unfold atake; rw [ho]; simp
      clear ho
      go_enter Try.func71, Try.ntmps71
      go_wp2_with fail
      refine (raread_any s m _ hs hm).mono ?_
      rw [Ho.out]
      rintro e w1 ⟨hb1, t, x, rfl, hx⟩
      obtain ⟨rfl, tn, rfl, htn, hl⟩ := hx _ _ rfl
      have HL := Lib.hid hl
      clear hl
      dsimp only [prErr]
      have Z1 := Lib.hid (b0.bel hb1)
      have B1 := Lib.hid (hW.trans hb1)
      have p2 := (Blk.new w1 55 (scs [] 0 0)).alloc (.cells Ag.zero.cs 92)
      have r2 := Blk.new (w1.alloc (.cells (scs [] 0 0) 55)) 92 Ag.zero.cs
      rw [World.size_alloc] at r2
      have Z2 := Lib.hid ((Z1.out.alloc (.cells (scs [] 0 0) 55)).alloc (.cells Ag.zero.cs 92))
      have B2 := Lib.hid ((B1.out.alloc (.cells (scs [] 0 0) 55)).alloc (.cells Ag.zero.cs 92))
      have hz1 : w.heap.size < w1.heap.size := Z1.out.lt
      clear b0 hb1 hW hx Z1 B1
      go_wp2_with (first | ((with_reducible show wpList _ _ _ (⟨_, .store _ (.tmp 6) _, _, _, _, _⟩ :: _) _ _); refine wpList_store_blk rfl rowScn (.tmp 6) (.tmp 14) rfl w1.heap.size rfl p2 rfl (scs s tn 0) rfl rfl (scs_one _ _ _) ?_; intro w3 p3 hg3; have r3 := r2.grown hg3 (by simp); have Z3 := Lib.hid (Z2.out.grown hg3 (by simp; omega)); have B3 := Lib.hid (B2.out.grownAt hg3 (by omega)); clear hg3 p2 r2 Z2 B2) | ((with_reducible show wpList _ _ _ (⟨_, .store _ (.tmp 7) _, _, _, _, _⟩ :: _) _ _); refine wpList_store_blk rfl rowAg (.tmp 7) (.tmp 15) rfl (w1.heap.size + 1) rfl r3 rfl x.cs rfl rfl (ag_one _) ?_; intro w4 r4 hg4; have p4 := p3.grown hg4 (by simp); have Z4 := Lib.hid (Z3.out.grown hg4 (by simp; omega)); have B4 := Lib.hid (B3.out.grownAt hg4 (by omega)); clear hg4 p3 r3 Z3 B3) | ((with_reducible show wpList _ _ _ (⟨some 16, _, _, _, _, _⟩ :: _) _ _); refine wpList_load_blk rfl rowScn (.tmp 6) rfl w1.heap.size rfl p4 rfl ?_))
      refine (rend_any s tn 0 _).mono ?_; rintro e w5 ⟨rfl, hb5⟩
      rw [show endOf s tn 0 = 0 by unfold endOf; rw [if_neg (by omega), if_pos (by have := congrArg List.length HL.out; simp at this; omega)]]
      have r5 := r4.bel hb5
      have z5 := Z4.out.bel hb5
      have B5 := Lib.hid (B4.out.trans hb5)
      clear r4 p4 Z4 B4 hb5
      go_wp2_with (first | ((with_reducible show wpList _ _ _ (⟨some 22, _, _, _, _, _⟩ :: _) _ _); refine wpList_load_blk rfl rowAg (.tmp 7) rfl (w1.heap.size + 1) rfl r5 rfl ?_) | ((with_reducible show wpList _ _ _ (⟨_, .store _ (.tmp 4) _, _, _, _, _⟩ :: _) _ _); refine wpList_store_blk rfl rowAg (.tmp 4) (.tmp 22) rfl w.heap.size rfl z5 rfl x.cs rfl rfl (ag_one _) ?_; intro w7 bC hg7))
      refine bodyPost_ret (results_blk rfl rowAg rfl bC rfl) rfl ?_
      rw [HT.out]
      exact ⟨rfl, B5.out.grownAt hg7 (Nat.le_refl _)⟩
    · have HT : Hid (atake m s = (.zero, 3)) := by show _ = _; unfold atake; rw [ho]; simp [hl0]
      have Hl0 := Lib.hid hl0
      clear ho hl0
      go_enter Try.func71, Try.ntmps71
      go_wp2_with fail
      refine (raread_any s m _ hs hm).mono ?_
      rw [Ho.out]
      rintro e w1 ⟨hb1, t, x, rfl, hx⟩
      obtain ⟨rfl, tn, rfl, htn, hl⟩ := hx _ _ rfl
      have HL := Lib.hid hl
      clear hl
      dsimp only [prErr]
      have Z1 := Lib.hid (b0.bel hb1)
      have B1 := Lib.hid (hW.trans hb1)
      have p2 := (Blk.new w1 55 (scs [] 0 0)).alloc (.cells Ag.zero.cs 92)
      have r2 := Blk.new (w1.alloc (.cells (scs [] 0 0) 55)) 92 Ag.zero.cs
      rw [World.size_alloc] at r2
      have Z2 := Lib.hid ((Z1.out.alloc (.cells (scs [] 0 0) 55)).alloc (.cells Ag.zero.cs 92))
      have B2 := Lib.hid ((B1.out.alloc (.cells (scs [] 0 0) 55)).alloc (.cells Ag.zero.cs 92))
      have hz1 : w.heap.size < w1.heap.size := Z1.out.lt
      clear b0 hb1 hW hx Z1 B1
      go_wp2_with (first | ((with_reducible show wpList _ _ _ (⟨_, .store _ (.tmp 6) _, _, _, _, _⟩ :: _) _ _); refine wpList_store_blk rfl rowScn (.tmp 6) (.tmp 14) rfl w1.heap.size rfl p2 rfl (scs s tn 0) rfl rfl (scs_one _ _ _) ?_; intro w3 p3 hg3; have r3 := r2.grown hg3 (by simp); have Z3 := Lib.hid (Z2.out.grown hg3 (by simp; omega)); have B3 := Lib.hid (B2.out.grownAt hg3 (by omega)); clear hg3 p2 r2 Z2 B2) | ((with_reducible show wpList _ _ _ (⟨_, .store _ (.tmp 7) _, _, _, _, _⟩ :: _) _ _); refine wpList_store_blk rfl rowAg (.tmp 7) (.tmp 15) rfl (w1.heap.size + 1) rfl r3 rfl x.cs rfl rfl (ag_one _) ?_; intro w4 r4 hg4; have p4 := p3.grown hg4 (by simp); have Z4 := Lib.hid (Z3.out.grown hg4 (by simp; omega)); have B4 := Lib.hid (B3.out.grownAt hg4 (by omega)); clear hg4 p3 r3 Z3 B3) | ((with_reducible show wpList _ _ _ (⟨some 16, _, _, _, _, _⟩ :: _) _ _); refine wpList_load_blk rfl rowScn (.tmp 6) rfl w1.heap.size rfl p4 rfl ?_))
      refine (rend_any s tn 0 _).mono ?_; rintro e w5 ⟨rfl, hb5⟩
      rw [show endOf s tn 0 = 3 by unfold endOf; rw [if_neg (by omega), if_neg (fun h => Hl0.out (by rw [HL.out]; exact List.drop_of_length_le (by omega)))]]
      have r5 := r4.bel hb5
      have z5 := Z4.out.bel hb5
      have B5 := Lib.hid (B4.out.trans hb5)
      clear r4 p4 Z4 B4 hb5
      go_wp2_with (first | ((with_reducible show wpList _ _ _ (⟨_, .store _ (.tmp 4) _, _, _, _, _⟩ :: _) _ _); refine wpList_store_blk rfl rowAg (.tmp 4) (.tmp 20) rfl w.heap.size rfl z5 rfl Ag.zero.cs rfl (by rw [EZ.out]; rfl) (ag_one _) ?_; intro w7 bC hg7))
      refine bodyPost_ret (results_blk rfl rowAg rfl bC rfl) rfl ?_
      rw [HT.out]
      exact ⟨rfl, B5.out.grownAt hg7 (Nat.le_refl _)⟩

end Go.Proofs.Ytllgcehgdpgnnaa
