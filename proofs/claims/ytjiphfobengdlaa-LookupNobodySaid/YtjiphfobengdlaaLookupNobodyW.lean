/- The walk of law 27's LookupNobody. -/
import Derived.Test.YtjiphfobengdlaaAreL
namespace Go.Proofs.Ytjiphfobengdlaa
open Go.RowKit
set_option linter.unusedVariables false
set_option linter.unusedSimpArgs false

set_option maxRecDepth 100000 in
set_option maxHeartbeats 2000000 in
theorem lnobody_no (w : World) (A : Option Addr) (n c : Nat) (hn : n ≤ 100) :
    Calls Try.prog 8 #[.slice A n c, .bool false] w fun e w' => e = .returned (.bool true) ∧ Bel w w' := by
  have d1 : decide ((100 : Int) < (n : Int)) = false := by simp <;> omega
  have d1n : decide (100 < n) = false := by simp <;> omega
  have H := Lib.hid (SL.start No w)
  go_enter Try.func8, Try.ntmps8
  go_upto_region 6 with fail
  
  clear d1 d1n
  generalize w.heap.size = y at *
  obtain ⟨w1, hw1⟩ : ∃ w1, w1 = w := ⟨_, rfl⟩
  have H : Hid (SL No w w1 []) := by rw [hw1]; exact H
  obtain ⟨q, hq⟩ : ∃ q : Option Addr, q = none := ⟨_, rfl⟩
  have HV : Hid (NoA w1 (.pointer q)) := .inl (by rw [hq])
  rw [← hw1]
  rw [← hq]
  clear hq hw1
  have HB : Hid (Bel w1 w1) := Bel.refl _
  go_wp2_with fail
  refine (point_no _ _ _ (HV.out.mono HB.out)).mono ?_; rintro e w2 ⟨rfl, hb2⟩
  replace HB := Lib.hid (HB.out.trans hb2)
  replace H := Lib.hid (H.out.bel hb2); (try simp only [List.set_cons_zero, List.set_cons_succ, List.cons_append, List.nil_append, List.eraseIdx_cons_zero, List.eraseIdx_cons_succ, List.setIfInBounds_toArray, World.size_alloc, selR, List.getD_cons_zero, List.getD_cons_succ] at H)
  clear hb2
  go_upto_region 7 with ((with_reducible show wpList _ _ _ (⟨_, .store _ (.tmp 6) _, _, _, _, _⟩ :: _) _ _); (refine wpList_store_new rfl rowAgA (.tmp 6) (.tmp 23) rfl rfl rfl (#[.int .i64 0, .int .i64 0, .int .i64 0, .int .i64 0, .int .i64 0, .int .i64 0, .int .i64 0, .int .i64 0, .int .i64 0, .int .i64 0]) rfl rfl (by simp [Value.oneCell']) ?_; replace H := Lib.hid (H.out.alloc (#[.int .i64 0, .int .i64 0, .int .i64 0, .int .i64 0, .int .i64 0, .int .i64 0, .int .i64 0, .int .i64 0, .int .i64 0, .int .i64 0]) 40); (try simp only [List.set_cons_zero, List.set_cons_succ, List.cons_append, List.nil_append, List.eraseIdx_cons_zero, List.eraseIdx_cons_succ, List.setIfInBounds_toArray, World.size_alloc, selR, List.getD_cons_zero, List.getD_cons_succ] at H)))
  (try simp only [Act.put, List.setIfInBounds_toArray, List.set_cons_zero, List.set_cons_succ])
  replace HB := Lib.hid (HB.out.alloc (.cells #[.int .i64 0, .int .i64 0, .int .i64 0, .int .i64 0, .int .i64 0, .int .i64 0, .int .i64 0, .int .i64 0, .int .i64 0, .int .i64 0] 40))
  generalize w2.heap.size = y2 at *
  generalize World.alloc w2 _ = w3 at *
  go_wp2_with fail
  refine (total_no _ _ (HV.out.mono HB.out)).mono ?_; rintro e w4 ⟨rfl, hb4⟩
  replace HB := Lib.hid (HB.out.trans hb4)
  replace H := Lib.hid (H.out.bel hb4); (try simp only [List.set_cons_zero, List.set_cons_succ, List.cons_append, List.nil_append, List.eraseIdx_cons_zero, List.eraseIdx_cons_succ, List.setIfInBounds_toArray, World.size_alloc, selR, List.getD_cons_zero, List.getD_cons_succ] at H)
  clear hb4
  go_upto_region 8 with ((with_reducible show wpList _ _ _ (⟨_, .store _ (.tmp 8) _, _, _, _, _⟩ :: _) _ _); (refine wpList_store_new rfl rowAgA (.tmp 8) (.tmp 28) rfl rfl rfl (#[.int .i64 0, .int .i64 0, .int .i64 0, .int .i64 0, .int .i64 0, .int .i64 0, .int .i64 0, .int .i64 0, .int .i64 0, .int .i64 0]) rfl rfl (by simp [Value.oneCell']) ?_; replace H := Lib.hid (H.out.alloc (#[.int .i64 0, .int .i64 0, .int .i64 0, .int .i64 0, .int .i64 0, .int .i64 0, .int .i64 0, .int .i64 0, .int .i64 0, .int .i64 0]) 40); (try simp only [List.set_cons_zero, List.set_cons_succ, List.cons_append, List.nil_append, List.eraseIdx_cons_zero, List.eraseIdx_cons_succ, List.setIfInBounds_toArray, World.size_alloc, selR, List.getD_cons_zero, List.getD_cons_succ] at H)))
  (try simp only [Act.put, List.setIfInBounds_toArray, List.set_cons_zero, List.set_cons_succ])
  replace HB := Lib.hid (HB.out.alloc (.cells #[.int .i64 0, .int .i64 0, .int .i64 0, .int .i64 0, .int .i64 0, .int .i64 0, .int .i64 0, .int .i64 0, .int .i64 0, .int .i64 0] 40))
  generalize w4.heap.size = y4 at *
  generalize World.alloc w4 _ = w5 at *
  go_wp2_with fail
  refine (way_no _ _ _ (HV.out.mono HB.out)).mono ?_; rintro e w6 ⟨rfl, hb6⟩
  replace HB := Lib.hid (HB.out.trans hb6)
  replace H := Lib.hid (H.out.bel hb6); (try simp only [List.set_cons_zero, List.set_cons_succ, List.cons_append, List.nil_append, List.eraseIdx_cons_zero, List.eraseIdx_cons_succ, List.setIfInBounds_toArray, World.size_alloc, selR, List.getD_cons_zero, List.getD_cons_succ] at H)
  clear hb6
  go_wp2_with fail
  refine (awake27_any _).mono ?_; rintro e w7 ⟨rfl, hb7⟩
  replace H := Lib.hid (H.out.bel hb7); (try simp only [List.set_cons_zero, List.set_cons_succ, List.cons_append, List.nil_append, List.eraseIdx_cons_zero, List.eraseIdx_cons_succ, List.setIfInBounds_toArray, World.size_alloc, selR, List.getD_cons_zero, List.getD_cons_succ] at H)
  go_wp2
  go_ret
  exact ⟨rfl, H.out.to⟩
set_option maxRecDepth 100000 in
set_option maxHeartbeats 2000000 in
theorem lnobody_yes (w : World) (A : Option Addr) (n c : Nat) (hn : n ≤ 100) :
    Calls Try.prog 8 #[.slice A n c, .bool true] w fun e w' => e = .returned (.bool true) ∧ Bel w w' := by
  have d1 : decide ((100 : Int) < (n : Int)) = false := by simp <;> omega
  have d1n : decide (100 < n) = false := by simp <;> omega
  have H := Lib.hid (SL.start No w)
  go_enter Try.func8, Try.ntmps8
  go_upto_region 6 with fail
  replace H := Lib.hid (H.out.alloc #[.slice none 0 0, .int .i64 0, .slice none 0 0, .int .i64 0] 62); (try simp only [List.set_cons_zero, List.set_cons_succ, List.cons_append, List.nil_append, List.eraseIdx_cons_zero, List.eraseIdx_cons_succ, List.setIfInBounds_toArray, World.size_alloc, selR, List.getD_cons_zero, List.getD_cons_succ] at H)
  clear d1 d1n
  generalize w.heap.size = y at *
  generalize World.alloc _ _ = w1 at *
  
  obtain ⟨q, hq⟩ : ∃ q : Option Addr, q = (some ⟨y, 0, none⟩) := ⟨_, rfl⟩
  have HV : Hid (NoA w1 (.pointer q)) := .inr ⟨y, by rw [hq], (H.out.blk 0 rfl).cell 0⟩
  
  rw [← hq]
  clear hq 
  have HB : Hid (Bel w1 w1) := Bel.refl _
  go_wp2_with fail
  refine (point_no _ _ _ (HV.out.mono HB.out)).mono ?_; rintro e w2 ⟨rfl, hb2⟩
  replace HB := Lib.hid (HB.out.trans hb2)
  replace H := Lib.hid (H.out.bel hb2); (try simp only [List.set_cons_zero, List.set_cons_succ, List.cons_append, List.nil_append, List.eraseIdx_cons_zero, List.eraseIdx_cons_succ, List.setIfInBounds_toArray, World.size_alloc, selR, List.getD_cons_zero, List.getD_cons_succ] at H)
  clear hb2
  go_upto_region 7 with ((with_reducible show wpList _ _ _ (⟨_, .store _ (.tmp 6) _, _, _, _, _⟩ :: _) _ _); (refine wpList_store_new rfl rowAgA (.tmp 6) (.tmp 23) rfl rfl rfl (#[.int .i64 0, .int .i64 0, .int .i64 0, .int .i64 0, .int .i64 0, .int .i64 0, .int .i64 0, .int .i64 0, .int .i64 0, .int .i64 0]) rfl rfl (by simp [Value.oneCell']) ?_; replace H := Lib.hid (H.out.alloc (#[.int .i64 0, .int .i64 0, .int .i64 0, .int .i64 0, .int .i64 0, .int .i64 0, .int .i64 0, .int .i64 0, .int .i64 0, .int .i64 0]) 40); (try simp only [List.set_cons_zero, List.set_cons_succ, List.cons_append, List.nil_append, List.eraseIdx_cons_zero, List.eraseIdx_cons_succ, List.setIfInBounds_toArray, World.size_alloc, selR, List.getD_cons_zero, List.getD_cons_succ] at H)))
  (try simp only [Act.put, List.setIfInBounds_toArray, List.set_cons_zero, List.set_cons_succ])
  replace HB := Lib.hid (HB.out.alloc (.cells #[.int .i64 0, .int .i64 0, .int .i64 0, .int .i64 0, .int .i64 0, .int .i64 0, .int .i64 0, .int .i64 0, .int .i64 0, .int .i64 0] 40))
  generalize w2.heap.size = y2 at *
  generalize World.alloc w2 _ = w3 at *
  go_wp2_with fail
  refine (total_no _ _ (HV.out.mono HB.out)).mono ?_; rintro e w4 ⟨rfl, hb4⟩
  replace HB := Lib.hid (HB.out.trans hb4)
  replace H := Lib.hid (H.out.bel hb4); (try simp only [List.set_cons_zero, List.set_cons_succ, List.cons_append, List.nil_append, List.eraseIdx_cons_zero, List.eraseIdx_cons_succ, List.setIfInBounds_toArray, World.size_alloc, selR, List.getD_cons_zero, List.getD_cons_succ] at H)
  clear hb4
  go_upto_region 8 with ((with_reducible show wpList _ _ _ (⟨_, .store _ (.tmp 8) _, _, _, _, _⟩ :: _) _ _); (refine wpList_store_new rfl rowAgA (.tmp 8) (.tmp 28) rfl rfl rfl (#[.int .i64 0, .int .i64 0, .int .i64 0, .int .i64 0, .int .i64 0, .int .i64 0, .int .i64 0, .int .i64 0, .int .i64 0, .int .i64 0]) rfl rfl (by simp [Value.oneCell']) ?_; replace H := Lib.hid (H.out.alloc (#[.int .i64 0, .int .i64 0, .int .i64 0, .int .i64 0, .int .i64 0, .int .i64 0, .int .i64 0, .int .i64 0, .int .i64 0, .int .i64 0]) 40); (try simp only [List.set_cons_zero, List.set_cons_succ, List.cons_append, List.nil_append, List.eraseIdx_cons_zero, List.eraseIdx_cons_succ, List.setIfInBounds_toArray, World.size_alloc, selR, List.getD_cons_zero, List.getD_cons_succ] at H)))
  (try simp only [Act.put, List.setIfInBounds_toArray, List.set_cons_zero, List.set_cons_succ])
  replace HB := Lib.hid (HB.out.alloc (.cells #[.int .i64 0, .int .i64 0, .int .i64 0, .int .i64 0, .int .i64 0, .int .i64 0, .int .i64 0, .int .i64 0, .int .i64 0, .int .i64 0] 40))
  generalize w4.heap.size = y4 at *
  generalize World.alloc w4 _ = w5 at *
  go_wp2_with fail
  refine (way_no _ _ _ (HV.out.mono HB.out)).mono ?_; rintro e w6 ⟨rfl, hb6⟩
  replace HB := Lib.hid (HB.out.trans hb6)
  replace H := Lib.hid (H.out.bel hb6); (try simp only [List.set_cons_zero, List.set_cons_succ, List.cons_append, List.nil_append, List.eraseIdx_cons_zero, List.eraseIdx_cons_succ, List.setIfInBounds_toArray, World.size_alloc, selR, List.getD_cons_zero, List.getD_cons_succ] at H)
  clear hb6
  go_wp2_with fail
  refine (awake27_any _).mono ?_; rintro e w7 ⟨rfl, hb7⟩
  replace H := Lib.hid (H.out.bel hb7); (try simp only [List.set_cons_zero, List.set_cons_succ, List.cons_append, List.nil_append, List.eraseIdx_cons_zero, List.eraseIdx_cons_succ, List.setIfInBounds_toArray, World.size_alloc, selR, List.getD_cons_zero, List.getD_cons_succ] at H)
  go_wp2
  go_ret
  exact ⟨rfl, H.out.to⟩
set_option maxRecDepth 100000 in
theorem walk_lookupNobody (w : World) (x : Row Ps) (hx : x.ok w) (there : Bool) :
    Calls Try.prog 8 #[x.v, .bool there] w fun e w' => e = .returned (.bool true) ∧ Bel w w' := by
  by_cases h : x.n ≤ 100
  · cases there with
    | false => exact lnobody_no w x.A x.n x.c h
    | true => exact lnobody_yes w x.A x.n x.c h
  · have d1 : decide ((100 : Int) < (x.n : Int)) = true := by simp <;> omega
    have d1n : decide (100 < x.n) = true := by simp <;> omega
    obtain ⟨A, n, c, l⟩ := x
    simp only [Row.v] at *
    go_enter Try.func8, Try.ntmps8
    go_wp2_with fail
    refine (awake27_any _).mono ?_; rintro e w7 ⟨rfl, hb7⟩
    go_wp2
    go_ret
    exact ⟨rfl, hb7⟩

end Go.Proofs.Ytjiphfobengdlaa
