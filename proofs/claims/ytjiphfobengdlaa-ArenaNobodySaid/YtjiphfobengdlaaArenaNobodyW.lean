/- The walk of law 25's ArenaNobody. -/
import Derived.Test.YtjiphfobengdlaaAreC
namespace Go.Proofs.Ytjiphfobengdlaa
open Go.RowKit
set_option linter.unusedVariables false
set_option linter.unusedSimpArgs false

set_option maxRecDepth 100000 in
set_option maxHeartbeats 2000000 in
theorem nobody_no (w : World) (n : Nd) (i : Int) :
    Calls Try.prog 5 #[.agg n.cs, .int .i64 i, .bool false] w fun e w' => e = .returned (.bool true) ∧ Bel w w' := by
  have H := Lib.hid ((SL.start No w).alloc n.cs 44)
  (try simp only [List.set_cons_zero, List.set_cons_succ, List.cons_append, List.nil_append, List.eraseIdx_cons_zero, List.eraseIdx_cons_succ, List.setIfInBounds_toArray, World.size_alloc, selR, List.getD_cons_zero, List.getD_cons_succ] at H)
  have hcs : n.cs = Nd.cs n := rfl
  have hfd : ∀ w : World, (Instr.field 24 (.agg #[.slice none 0 0, .int .i64 0]) 0).run Try.prog w = .ok (.slice none 0 0) w := fun _ => by kernel_rfl
  go_enter Try.func5, Try.ntmps5
  go_upto_region 4 with fail
  
  generalize w.heap.size + 1 = y at *
  generalize w.heap.size = x at *
  generalize World.alloc _ _ = w1 at *
  obtain ⟨v, hv⟩ : ∃ v, v = Value.pointer none := ⟨_, rfl⟩
  have HV : Hid (NoA w1 v) := .inl hv
  rw [← hv]
  clear hv
  have HB : Hid (Bel w1 w1) := Bel.refl _
  go_wp2_with ((with_reducible show wpList _ _ _ (⟨some 17, _, _, _, _, _⟩ :: _) _ _); (refine wpList_load_blk rfl rowNd (.tmp 3) rfl _ rfl (H.out.blk 0 rfl) rfl ?_))
  refine (aadd_no _ n _ (HV.out.mono HB.out)).mono ?_; rintro e w2 ⟨rfl, hb2⟩
  replace HB := Lib.hid (HB.out.trans hb2)
  replace H := Lib.hid (H.out.bel hb2); (try simp only [List.set_cons_zero, List.set_cons_succ, List.cons_append, List.nil_append, List.eraseIdx_cons_zero, List.eraseIdx_cons_succ, List.setIfInBounds_toArray, World.size_alloc, selR, List.getD_cons_zero, List.getD_cons_succ] at H)
  clear hb2
  go_wp2_with fail
  refine (anode_no _ i _ (HV.out.mono HB.out)).mono ?_; rintro e w3 ⟨rfl, hb3⟩
  replace HB := Lib.hid (HB.out.trans hb3)
  replace H := Lib.hid (H.out.bel hb3); (try simp only [List.set_cons_zero, List.set_cons_succ, List.cons_append, List.nil_append, List.eraseIdx_cons_zero, List.eraseIdx_cons_succ, List.setIfInBounds_toArray, World.size_alloc, selR, List.getD_cons_zero, List.getD_cons_succ] at H)
  clear hb3
  go_wp2_with ((with_reducible show wpList _ _ _ (⟨_, .store _ (.tmp 10) _, _, _, _, _⟩ :: _) _ _); (refine wpList_store_new rfl rowNd (.tmp 10) (.tmp 25) rfl rfl rfl (Nd.nil.cs) rfl rfl (nd_one _) ?_; replace H := Lib.hid (H.out.alloc (Nd.nil.cs) 44); (try simp only [List.set_cons_zero, List.set_cons_succ, List.cons_append, List.nil_append, List.eraseIdx_cons_zero, List.eraseIdx_cons_succ, List.setIfInBounds_toArray, World.size_alloc, selR, List.getD_cons_zero, List.getD_cons_succ] at H)))
  replace HB := Lib.hid (HB.out.alloc (.cells Nd.nil.cs 44))
  generalize World.alloc w3 _ = w4 at *
  refine (alen_no _ _ (HV.out.mono HB.out)).mono ?_; rintro e w5 ⟨rfl, hb5⟩
  replace HB := Lib.hid (HB.out.trans hb5)
  replace H := Lib.hid (H.out.bel hb5); (try simp only [List.set_cons_zero, List.set_cons_succ, List.cons_append, List.nil_append, List.eraseIdx_cons_zero, List.eraseIdx_cons_succ, List.setIfInBounds_toArray, World.size_alloc, selR, List.getD_cons_zero, List.getD_cons_succ] at H)
  clear hb5
  go_wp2_with fail
  refine (atop_no _ _ (HV.out.mono HB.out)).mono ?_; rintro e w6 ⟨rfl, hb6⟩
  replace HB := Lib.hid (HB.out.trans hb6)
  replace H := Lib.hid (H.out.bel hb6); (try simp only [List.set_cons_zero, List.set_cons_succ, List.cons_append, List.nil_append, List.eraseIdx_cons_zero, List.eraseIdx_cons_succ, List.setIfInBounds_toArray, World.size_alloc, selR, List.getD_cons_zero, List.getD_cons_succ] at H)
  clear hb6
  go_wp2_with fail
  refine (anodes_no _ _ (HV.out.mono HB.out)).mono ?_; rintro e w7 ⟨rfl, hb7⟩
  replace HB := Lib.hid (HB.out.trans hb7)
  replace H := Lib.hid (H.out.bel hb7); (try simp only [List.set_cons_zero, List.set_cons_succ, List.cons_append, List.nil_append, List.eraseIdx_cons_zero, List.eraseIdx_cons_succ, List.setIfInBounds_toArray, World.size_alloc, selR, List.getD_cons_zero, List.getD_cons_succ] at H)
  clear hb7
  go_wp2_with fail
  refine (ashape_no _ _ (HV.out.mono HB.out)).mono ?_; rintro e w8 ⟨rfl, hb8⟩
  replace HB := Lib.hid (HB.out.trans hb8)
  replace H := Lib.hid (H.out.bel hb8); (try simp only [List.set_cons_zero, List.set_cons_succ, List.cons_append, List.nil_append, List.eraseIdx_cons_zero, List.eraseIdx_cons_succ, List.setIfInBounds_toArray, World.size_alloc, selR, List.getD_cons_zero, List.getD_cons_succ] at H)
  clear hb8
  go_wp2_with fail
  refine (awhole_no _ _ (HV.out.mono HB.out)).mono ?_; rintro e w9 ⟨rfl, hb9⟩
  replace HB := Lib.hid (HB.out.trans hb9)
  replace H := Lib.hid (H.out.bel hb9); (try simp only [List.set_cons_zero, List.set_cons_succ, List.cons_append, List.nil_append, List.eraseIdx_cons_zero, List.eraseIdx_cons_succ, List.setIfInBounds_toArray, World.size_alloc, selR, List.getD_cons_zero, List.getD_cons_succ] at H)
  clear hb9
  go_wp2_with fail
  refine (awake25_any _).mono ?_; rintro e w10 ⟨rfl, hb10⟩
  replace H := Lib.hid (H.out.bel hb10); (try simp only [List.set_cons_zero, List.set_cons_succ, List.cons_append, List.nil_append, List.eraseIdx_cons_zero, List.eraseIdx_cons_succ, List.setIfInBounds_toArray, World.size_alloc, selR, List.getD_cons_zero, List.getD_cons_succ] at H)
  go_wp2
  go_ret
  exact ⟨rfl, H.out.to⟩
set_option maxRecDepth 100000 in
set_option maxHeartbeats 2000000 in
theorem nobody_yes (w : World) (n : Nd) (i : Int) :
    Calls Try.prog 5 #[.agg n.cs, .int .i64 i, .bool true] w fun e w' => e = .returned (.bool true) ∧ Bel w w' := by
  have H := Lib.hid ((SL.start No w).alloc n.cs 44)
  (try simp only [List.set_cons_zero, List.set_cons_succ, List.cons_append, List.nil_append, List.eraseIdx_cons_zero, List.eraseIdx_cons_succ, List.setIfInBounds_toArray, World.size_alloc, selR, List.getD_cons_zero, List.getD_cons_succ] at H)
  have hcs : n.cs = Nd.cs n := rfl
  have hfd : ∀ w : World, (Instr.field 24 (.agg #[.slice none 0 0, .int .i64 0]) 0).run Try.prog w = .ok (.slice none 0 0) w := fun _ => by kernel_rfl
  go_enter Try.func5, Try.ntmps5
  go_upto_region 4 with fail
  replace H := Lib.hid (H.out.alloc #[.slice none 0 0, .int .i64 0, .slice none 0 0, .int .i64 0] 62); (try simp only [List.set_cons_zero, List.set_cons_succ, List.cons_append, List.nil_append, List.eraseIdx_cons_zero, List.eraseIdx_cons_succ, List.setIfInBounds_toArray, World.size_alloc, selR, List.getD_cons_zero, List.getD_cons_succ] at H)
  generalize w.heap.size + 1 = y at *
  generalize w.heap.size = x at *
  generalize World.alloc _ _ = w1 at *
  obtain ⟨v, hv⟩ : ∃ v, v = Value.pointer (some ⟨y, 0, none⟩) := ⟨_, rfl⟩
  have HV : Hid (NoA w1 v) := .inr ⟨y, hv, (H.out.blk 1 rfl).cell 0⟩
  rw [← hv]
  clear hv
  have HB : Hid (Bel w1 w1) := Bel.refl _
  go_wp2_with ((with_reducible show wpList _ _ _ (⟨some 17, _, _, _, _, _⟩ :: _) _ _); (refine wpList_load_blk rfl rowNd (.tmp 3) rfl _ rfl (H.out.blk 0 rfl) rfl ?_))
  refine (aadd_no _ n _ (HV.out.mono HB.out)).mono ?_; rintro e w2 ⟨rfl, hb2⟩
  replace HB := Lib.hid (HB.out.trans hb2)
  replace H := Lib.hid (H.out.bel hb2); (try simp only [List.set_cons_zero, List.set_cons_succ, List.cons_append, List.nil_append, List.eraseIdx_cons_zero, List.eraseIdx_cons_succ, List.setIfInBounds_toArray, World.size_alloc, selR, List.getD_cons_zero, List.getD_cons_succ] at H)
  clear hb2
  go_wp2_with fail
  refine (anode_no _ i _ (HV.out.mono HB.out)).mono ?_; rintro e w3 ⟨rfl, hb3⟩
  replace HB := Lib.hid (HB.out.trans hb3)
  replace H := Lib.hid (H.out.bel hb3); (try simp only [List.set_cons_zero, List.set_cons_succ, List.cons_append, List.nil_append, List.eraseIdx_cons_zero, List.eraseIdx_cons_succ, List.setIfInBounds_toArray, World.size_alloc, selR, List.getD_cons_zero, List.getD_cons_succ] at H)
  clear hb3
  go_wp2_with ((with_reducible show wpList _ _ _ (⟨_, .store _ (.tmp 10) _, _, _, _, _⟩ :: _) _ _); (refine wpList_store_new rfl rowNd (.tmp 10) (.tmp 25) rfl rfl rfl (Nd.nil.cs) rfl rfl (nd_one _) ?_; replace H := Lib.hid (H.out.alloc (Nd.nil.cs) 44); (try simp only [List.set_cons_zero, List.set_cons_succ, List.cons_append, List.nil_append, List.eraseIdx_cons_zero, List.eraseIdx_cons_succ, List.setIfInBounds_toArray, World.size_alloc, selR, List.getD_cons_zero, List.getD_cons_succ] at H)))
  replace HB := Lib.hid (HB.out.alloc (.cells Nd.nil.cs 44))
  generalize World.alloc w3 _ = w4 at *
  refine (alen_no _ _ (HV.out.mono HB.out)).mono ?_; rintro e w5 ⟨rfl, hb5⟩
  replace HB := Lib.hid (HB.out.trans hb5)
  replace H := Lib.hid (H.out.bel hb5); (try simp only [List.set_cons_zero, List.set_cons_succ, List.cons_append, List.nil_append, List.eraseIdx_cons_zero, List.eraseIdx_cons_succ, List.setIfInBounds_toArray, World.size_alloc, selR, List.getD_cons_zero, List.getD_cons_succ] at H)
  clear hb5
  go_wp2_with fail
  refine (atop_no _ _ (HV.out.mono HB.out)).mono ?_; rintro e w6 ⟨rfl, hb6⟩
  replace HB := Lib.hid (HB.out.trans hb6)
  replace H := Lib.hid (H.out.bel hb6); (try simp only [List.set_cons_zero, List.set_cons_succ, List.cons_append, List.nil_append, List.eraseIdx_cons_zero, List.eraseIdx_cons_succ, List.setIfInBounds_toArray, World.size_alloc, selR, List.getD_cons_zero, List.getD_cons_succ] at H)
  clear hb6
  go_wp2_with fail
  refine (anodes_no _ _ (HV.out.mono HB.out)).mono ?_; rintro e w7 ⟨rfl, hb7⟩
  replace HB := Lib.hid (HB.out.trans hb7)
  replace H := Lib.hid (H.out.bel hb7); (try simp only [List.set_cons_zero, List.set_cons_succ, List.cons_append, List.nil_append, List.eraseIdx_cons_zero, List.eraseIdx_cons_succ, List.setIfInBounds_toArray, World.size_alloc, selR, List.getD_cons_zero, List.getD_cons_succ] at H)
  clear hb7
  go_wp2_with fail
  refine (ashape_no _ _ (HV.out.mono HB.out)).mono ?_; rintro e w8 ⟨rfl, hb8⟩
  replace HB := Lib.hid (HB.out.trans hb8)
  replace H := Lib.hid (H.out.bel hb8); (try simp only [List.set_cons_zero, List.set_cons_succ, List.cons_append, List.nil_append, List.eraseIdx_cons_zero, List.eraseIdx_cons_succ, List.setIfInBounds_toArray, World.size_alloc, selR, List.getD_cons_zero, List.getD_cons_succ] at H)
  clear hb8
  go_wp2_with fail
  refine (awhole_no _ _ (HV.out.mono HB.out)).mono ?_; rintro e w9 ⟨rfl, hb9⟩
  replace HB := Lib.hid (HB.out.trans hb9)
  replace H := Lib.hid (H.out.bel hb9); (try simp only [List.set_cons_zero, List.set_cons_succ, List.cons_append, List.nil_append, List.eraseIdx_cons_zero, List.eraseIdx_cons_succ, List.setIfInBounds_toArray, World.size_alloc, selR, List.getD_cons_zero, List.getD_cons_succ] at H)
  clear hb9
  go_wp2_with fail
  refine (awake25_any _).mono ?_; rintro e w10 ⟨rfl, hb10⟩
  replace H := Lib.hid (H.out.bel hb10); (try simp only [List.set_cons_zero, List.set_cons_succ, List.cons_append, List.nil_append, List.eraseIdx_cons_zero, List.eraseIdx_cons_succ, List.setIfInBounds_toArray, World.size_alloc, selR, List.getD_cons_zero, List.getD_cons_succ] at H)
  go_wp2
  go_ret
  exact ⟨rfl, H.out.to⟩
theorem walk_arenaNobody (w : World) (n : Nd) (hn : n.rd w) (i : Int) (wi : (Lit.int .i64 i).wf = true) (there : Bool) :
    Calls Try.prog 5 #[.agg n.cs, .int .i64 i, .bool there] w fun e w' => e = .returned (.bool true) ∧ Bel w w' := by
  cases there with
  | false => exact nobody_no w n i
  | true => exact nobody_yes w n i

end Go.Proofs.Ytjiphfobengdlaa
