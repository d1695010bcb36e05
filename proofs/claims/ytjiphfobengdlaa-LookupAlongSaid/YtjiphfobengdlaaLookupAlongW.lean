/- The walk of law 27's LookupAlong. -/
import Derived.Test.YtjiphfobengdlaaLokD
import Derived.Test.YtjiphfobengdlaaLokE
import Derived.Test.YtjiphfobengdlaaLokF
import Derived.Test.YtjiphfobengdlaaAreI
namespace Go.Proofs.Ytjiphfobengdlaa
open Go.RowKit
set_option linter.unusedVariables false
set_option linter.unusedSimpArgs false


set_option maxRecDepth 100000 in
set_option maxHeartbeats 4000000 in
theorem walk_lookupAlong (w : World) (top : Int) (wt : (Lit.int .i64 top).wf = true) (l : Row Nd) (hl : l.ok w) (ps : Row Ps) (hps : ps.ok w) :
    Calls Try.prog 7 #[.int .i64 top, .slice l.A l.n l.c, .slice ps.A ps.n ps.c] w fun e w' => e = .returned (.bool true) ∧ Bel w w' := by
  have HLR := Lib.hid (fun w' (hb : Bel w w') => hl.rds.mono hb)
  have HPR := Lib.hid (fun w' (hb : Bel w w') => hps.rds.mono hb)
  have l63 := hl.rds.n63
  have p63 := hps.rds.n63
  have HFEW := Lib.hid (fun w' (hb : Bel w w') => few24_any l 30 w' (hl.rds.mono hb) (by omega))
  have HRIS := Lib.hid (fun w' (hb : Bel w w') => rises_any l w' (hl.rds.mono hb))
  have H := Lib.hid ((SL.start No w).alloc #[.slice l.A l.n l.c] 25)
  (try simp only [List.set_cons_zero, List.set_cons_succ, List.cons_append, List.nil_append, List.eraseIdx_cons_zero, List.eraseIdx_cons_succ, List.setIfInBounds_toArray, World.size_alloc, selR, List.getD_cons_zero, List.getD_cons_succ] at H)
  clear hl hps wt
  go_enter Try.func7, Try.ntmps7
  go_upto_region 1 with fail
  generalize w.heap.size = x at *
  generalize World.alloc w _ = w1 at *
  have cx : w1.cell? ⟨x, 0, none⟩ = some (.slice l.A l.n l.c) := (H.out.blk 0 rfl).cell 0
  go_wp2_with fail
  refine (HFEW.out _ H.out.to).mono ?_; rintro e w2 ⟨b1, rfl, hfew, hb2⟩
  replace H := Lib.hid (H.out.bel hb2); (try simp only [List.set_cons_zero, List.set_cons_succ, List.cons_append, List.nil_append, List.eraseIdx_cons_zero, List.eraseIdx_cons_succ, List.setIfInBounds_toArray, World.size_alloc, selR, List.getD_cons_zero, List.getD_cons_succ] at H)
  clear hb2 HFEW cx
  cases b1 with
  | false =>
    go_wp2_with fail
    refine (awake27_any _).mono ?_; rintro e wz ⟨rfl, hbz⟩
    replace H := Lib.hid (H.out.bel hbz)
    go_wp2_with fail
    go_ret
    exact ⟨rfl, H.out.to⟩
  | true =>
  have hfew := hfew rfl
  have HSM := Lib.hid (hfew.sm (HLR.out _ (Bel.refl _)))
  clear hfew
  by_cases hp30 : 30 < ps.n
  · have d1 : decide ((30 : Int) < (ps.n : Int)) = true := by simp; omega
    have d1n : decide (30 < ps.n) = true := by simp; omega
    clear hp30
    go_wp2_with fail
    refine (awake27_any _).mono ?_; rintro e wz ⟨rfl, hbz⟩
    replace H := Lib.hid (H.out.bel hbz)
    go_wp2_with fail
    go_ret
    exact ⟨rfl, H.out.to⟩
  have d1 : decide ((30 : Int) < (ps.n : Int)) = false := by simp; omega
  have d1n : decide (30 < ps.n) = false := by simp; omega
  have cx : w2.cell? ⟨x, 0, none⟩ = some (.slice l.A l.n l.c) := (H.out.blk 0 rfl).cell 0
  go_wp2_with fail
  refine (HRIS.out _ H.out.to).mono ?_; rintro e w3 ⟨b2, rfl, hris, hb3⟩
  replace H := Lib.hid (H.out.bel hb3); (try simp only [List.set_cons_zero, List.set_cons_succ, List.cons_append, List.nil_append, List.eraseIdx_cons_zero, List.eraseIdx_cons_succ, List.setIfInBounds_toArray, World.size_alloc, selR, List.getD_cons_zero, List.getD_cons_succ] at H)
  clear hb3 HRIS cx d1 d1n
  cases b2 with
  | false =>
    go_wp2_with fail
    refine (awake27_any _).mono ?_; rintro e wz ⟨rfl, hbz⟩
    replace H := Lib.hid (H.out.bel hbz)
    go_wp2_with fail
    go_ret
    exact ⟨rfl, H.out.to⟩
  | true =>
  have HRI := Lib.hid (hris rfl)
  have HAL := Lib.hid (fun w' (hb : Bel w w') (hc : w'.cell? ⟨x, 0, none⟩ = some (.slice l.A l.n l.c)) => lalong_any x l top ps w' (HLR.out w' hb) hc (HPR.out w' hb) HSM.out HRI.out)
  have HRA := Lib.hid (fun w' (hb : Bel w w') => ralong_any l top ps w' (HLR.out w' hb) (HPR.out w' hb) (by omega))
  obtain ⟨⟨G, m, er⟩, hR⟩ : ∃ R, R = palong (l.l.map Nd.con) ps.l 0 top .nil := ⟨_, rfl⟩
  rw [← hR] at HAL HRA
  simp only at HAL
  clear hris hR
  go_wp2_with fail
  refine (HAL.out _ H.out.to ((H.out.blk 0 rfl).cell 0)).mono ?_; rintro e w4 ⟨rfl, hb4⟩
  replace H := Lib.hid (H.out.bel hb4); (try simp only [List.set_cons_zero, List.set_cons_succ, List.cons_append, List.nil_append, List.eraseIdx_cons_zero, List.eraseIdx_cons_succ, List.setIfInBounds_toArray, World.size_alloc, selR, List.getD_cons_zero, List.getD_cons_succ] at H)
  clear hb4 HAL
  go_upto_region 5 with ((with_reducible show wpList _ _ _ (⟨_, .store _ (.tmp 8) _, _, _, _, _⟩ :: _) _ _); (refine wpList_store_new rfl rowAgA (.tmp 8) (.tmp 34) rfl rfl rfl (G.cs) rfl rfl (ag_oneA _) ?_; replace H := Lib.hid (H.out.alloc (G.cs) 40); (try simp only [List.set_cons_zero, List.set_cons_succ, List.cons_append, List.nil_append, List.eraseIdx_cons_zero, List.eraseIdx_cons_succ, List.setIfInBounds_toArray, World.size_alloc, selR, List.getD_cons_zero, List.getD_cons_succ] at H)))
  (try simp only [Act.put, List.setIfInBounds_toArray, List.set_cons_zero, List.set_cons_succ])
  generalize w4.heap.size = u at *
  generalize World.alloc w4 _ = w5 at *
  have cx : w5.cell? ⟨x, 0, none⟩ = some (.slice l.A l.n l.c) := (H.out.blk 0 rfl).cell 0
  go_wp2_with fail
  refine (HRA.out _ H.out.to).mono ?_; rintro e w6 ⟨A, c, rfl, hb6⟩
  replace H := Lib.hid (H.out.bel hb6); (try simp only [List.set_cons_zero, List.set_cons_succ, List.cons_append, List.nil_append, List.eraseIdx_cons_zero, List.eraseIdx_cons_succ, List.setIfInBounds_toArray, World.size_alloc, selR, List.getD_cons_zero, List.getD_cons_succ] at H)
  clear hb6 HRA cx
  simp only
  go_upto_region 6 with ((with_reducible show wpList _ _ _ (⟨_, .store _ (.tmp 11) _, _, _, _, _⟩ :: _) _ _); (refine wpList_store_new rfl rowAgA (.tmp 11) (.tmp 42) rfl rfl rfl (G.cs) rfl rfl (ag_oneA _) ?_; replace H := Lib.hid (H.out.alloc (G.cs) 40); (try simp only [List.set_cons_zero, List.set_cons_succ, List.cons_append, List.nil_append, List.eraseIdx_cons_zero, List.eraseIdx_cons_succ, List.setIfInBounds_toArray, World.size_alloc, selR, List.getD_cons_zero, List.getD_cons_succ] at H)))
  (try simp only [Act.put, List.setIfInBounds_toArray, List.set_cons_zero, List.set_cons_succ])
  generalize w6.heap.size = v at *
  generalize World.alloc w6 _ = w7 at *
  have e1 : ((m : Int) == m) = true := by simp
  have e2 : (er == er) = true := by simp
  go_wp2_with (first | ((with_reducible show wpList _ _ _ (⟨some 45, _, _, _, _, _⟩ :: _) _ _); (refine wpList_load_blk rfl rowAgA (.tmp 8) rfl _ rfl (H.out.blk 1 rfl) rfl ?_)) | ((with_reducible show wpList _ _ _ (⟨some 46, _, _, _, _, _⟩ :: _) _ _); (refine wpList_load_blk rfl rowAgA (.tmp 11) rfl _ rfl (H.out.blk 2 rfl) rfl ?_)) | ((with_reducible show wpList _ _ _ (⟨some 47, _, _, _, _, _⟩ :: _) _ _); refine wpList_cmp_row (by first | rfl | go_simp) .eql 40 40 (.tmp 45) (.tmp 46) (by rfl) (by rfl) (by rfl) guard_ag (eql_ag G _) ?_))
  refine (awake27_any _).mono ?_; rintro e wz ⟨rfl, hbz⟩
  replace H := Lib.hid (H.out.bel hbz)
  go_wp2_with fail
  go_ret
  exact ⟨rfl, H.out.to⟩

end Go.Proofs.Ytjiphfobengdlaa
