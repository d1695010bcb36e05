/- The chapter's example (law 27). -/
import Derived.Test.YtjiphfobengdlaaAreH
namespace Go.Proofs.Ytjiphfobengdlaa
open Go.RowKit
set_option linter.unusedVariables false
set_option linter.unusedSimpArgs false


set_option maxRecDepth 100000 in
set_option maxHeartbeats 4000000 in
theorem awake27_any (w : World) : Calls Try.prog 35 #[] w fun e w' => e = .returned (.bool true) ∧ Bel w w' := by
  have H := Lib.hid ((((SL.start No w).alloc #[.int .i64 1] 3).alloc #[.slice (some ⟨w.heap.size, 0, none⟩) 1 1] 26).alloc #[.slice (some ⟨w.heap.size + 1, 0, none⟩) 1 1, .int .i64 1] 24)
  (try simp only [List.set_cons_zero, List.set_cons_succ, List.cons_append, List.nil_append, List.eraseIdx_cons_zero, List.eraseIdx_cons_succ, List.setIfInBounds_toArray, World.size_alloc, selR, List.getD_cons_zero, List.getD_cons_succ] at H)
  have hb2 : ∀ w : World, (Instr.build 42 #[(2, .agg exAg.cs)]).run Try.prog w = .ok (.agg exCl.cs) w := fun _ => by kernel_rfl
  go_enter Try.func35, Try.ntmps35
  go_upto_region 2 with fail
  generalize w.heap.size + 1 + 1 = x2 at *
  generalize w.heap.size + 1 = x1 at *
  generalize w.heap.size = x0 at *
  generalize World.alloc (World.alloc (World.alloc w _) _) _ = w1 at *
  go_upto_region 3 with (first | ((with_reducible show wpList _ _ _ (⟨some 11, _, _, _, _, _⟩ :: _) _ _); refine wpList_build1 (vx := .int .i64 1) (v := .agg exAg.cs) rfl (.const _) rfl rfl (by intro w; kernel_rfl) ?_) | ((with_reducible show wpList _ _ _ (⟨some 12, _, _, _, _, _⟩ :: _) _ _); refine wpList_build1 (vx := .agg exAg.cs) (v := .agg exCl.cs) rfl (.tmp 11) rfl rfl hb2 ?_) | ((with_reducible show wpList _ _ _ (⟨_, .store _ (.tmp 2) _, _, _, _, _⟩ :: _) _ _); (refine wpList_store_new rfl rowCl (.tmp 2) (.tmp 12) rfl rfl rfl (exCl.cs) rfl rfl (cl_one _) ?_; replace H := Lib.hid (H.out.alloc (exCl.cs) 42); (try simp only [List.set_cons_zero, List.set_cons_succ, List.cons_append, List.nil_append, List.eraseIdx_cons_zero, List.eraseIdx_cons_succ, List.setIfInBounds_toArray, World.size_alloc, selR, List.getD_cons_zero, List.getD_cons_succ] at H))))
  (try simp only [Act.put, List.setIfInBounds_toArray, List.set_cons_zero, List.set_cons_succ])
  clear hb2
  generalize w1.heap.size = x3 at *
  generalize World.alloc w1 _ = w2 at *
  have hb3 : ∀ (d e : Nat) (w : World), (Instr.build 44 #[(1, .slice (some ⟨e, 0, none⟩) 1 1), (2, .agg exCl.cs)]).run Try.prog w = .ok (.agg (exNd d e).cs) w := fun _ _ _ => by kernel_rfl
  go_wp2_with (first | ((with_reducible show wpList _ _ _ (⟨some 14, _, _, _, _, _⟩ :: _) _ _); (refine wpList_load_blk rfl rowShp2 (.tmp 1) rfl _ rfl (H.out.blk 2 rfl) rfl ?_)) | ((with_reducible show wpList _ _ _ (⟨some 15, _, _, _, _, _⟩ :: _) _ _); (refine wpList_load_blk rfl rowCl (.tmp 2) rfl _ rfl (H.out.blk 3 rfl) rfl ?_)) | ((with_reducible show wpList _ _ _ (⟨some 16, _, _, _, _, _⟩ :: _) _ _); (refine wpList_buildSlice1 rfl E_cl (.tmp 15) rfl (exCl.cs) rfl rfl (by omega) ?_; replace H := Lib.hid (H.out.addRow ((Bel.refl _).alloc _) (own_made _ 42 (exCl.cs) _ rfl)); (try simp only [List.set_cons_zero, List.set_cons_succ, List.cons_append, List.nil_append, List.eraseIdx_cons_zero, List.eraseIdx_cons_succ, List.setIfInBounds_toArray, World.size_alloc, selR, List.getD_cons_zero, List.getD_cons_succ] at H))) | ((with_reducible show wpList _ _ _ (⟨some 18, _, _, _, _, _⟩ :: _) _ _); (replace H := Lib.hid (H.out.alloc #[.slice (some ⟨w2.heap.size, 0, none⟩) 1 1] 47); (try simp only [List.set_cons_zero, List.set_cons_succ, List.cons_append, List.nil_append, List.eraseIdx_cons_zero, List.eraseIdx_cons_succ, List.setIfInBounds_toArray, World.size_alloc, selR, List.getD_cons_zero, List.getD_cons_succ] at H); refine wpList_load_blk rfl rowCl (.tmp 2) rfl _ rfl (H.out.blk 3 rfl) rfl ?_)) | ((with_reducible show wpList _ _ _ (⟨some 19, _, _, _, _, _⟩ :: _) _ _); refine wpList_build2N rfl (.tmp 17) (.tmp 18) rfl rfl rfl (hb3 w2.heap.size (w2.heap.size + 1)) ?_) | ((with_reducible show wpList _ _ _ (⟨some 20, _, _, _, _, _⟩ :: _) _ _); (refine wpList_buildSlice1 rfl E_nd (.tmp 19) rfl ((exNd w2.heap.size (w2.heap.size + 1)).cs) rfl rfl (by omega) ?_; replace H := Lib.hid (H.out.addRow ((Bel.refl _).alloc _) (own_made _ 44 ((exNd w2.heap.size (w2.heap.size + 1)).cs) _ rfl)); (try simp only [List.set_cons_zero, List.set_cons_succ, List.cons_append, List.nil_append, List.eraseIdx_cons_zero, List.eraseIdx_cons_succ, List.setIfInBounds_toArray, World.size_alloc, selR, List.getD_cons_zero, List.getD_cons_succ] at H))))
  clear hb3
  generalize w2.heap.size + 1 + 1 = f at *
  generalize w2.heap.size + 1 = e at *
  generalize w2.heap.size = d at *
  generalize World.alloc (World.alloc (World.alloc w2 _) _) _ = w3 at *
  have HLD : Calls Try.prog 17 #[.agg #[.slice (some ⟨x1, 0, none⟩) 1 1, .int .i64 1], .slice (some ⟨f, 0, none⟩) 1 1] w3 _ := exload_any (exShp x0 x1) (exNds d e f) w3 (ex_shp H.out 0 1 rfl rfl) (ex_nds (H.out.row 4 rfl) (H.out.blk 5 rfl) (H.out.row 6 rfl)) rfl rfl rfl rfl rfl (fun n hn => by simp only [List.mem_singleton] at hn; subst hn; exact ⟨by show (1 : Nat) ≤ _; omega, fun y hy => by simp only [List.mem_singleton] at hy; subst hy; show (1 : Nat) ≤ _; omega, by show (1 : Nat) ≤ _; omega⟩)
  refine HLD.mono ?_; rintro e' w4 ⟨b, X, n, rfl, hok, hx1, hxl, hnc, hx⟩
  replace H := Lib.hid (H.out.bel hx.to); (try simp only [List.set_cons_zero, List.set_cons_succ, List.cons_append, List.nil_append, List.eraseIdx_cons_zero, List.eraseIdx_cons_succ, List.setIfInBounds_toArray, World.size_alloc, selR, List.getD_cons_zero, List.getD_cons_succ] at H)
  have hR := ar_nds hok (hx.get 3 rfl) (hx.get 4 rfl)
  have hc0 := (hx.blk 0 rfl).cell 0
  have hc2 := (hx.blk 0 rfl).cell 2
  have hX1 : X.nd.n = 1 := by have h := hR.len; rw [hxl] at h; exact h.symm
  have hnr : n.rd w4 := hR.all n (by rw [hxl]; exact List.mem_singleton_self n)
  have hnl : n.ls.l.map Row.l = [[exCl]] := congrArg NC.ls hnc
  have hn1 : n.ls.n = 1 := by have h := congrArg List.length hnl; rw [List.length_map] at h; have h2 := hnr.ls.len; rw [← h2]; exact h
  have hd0 : n.dim = 0 := congrArg NC.dim hnc
  have HALL := Lib.hid (show n.all = exCl from congrArg NC.all hnc)
  have hn2 : ∀ y ∈ n.ls.l, y.n ≤ 1000000 := fun y hy => by
    have hm : y.l ∈ n.ls.l.map Row.l := List.mem_map.2 ⟨y, hy, rfl⟩
    rw [hnl, List.mem_singleton] at hm
    have h2 : y.l.length = y.n := (Row.ok.rds (hnr.ls.all y hy)).len
    rw [hm] at h2
    have h3 : y.n = 1 := h2.symm
    omega
  have HND := Lib.hid (fun w' (hb : Bel w4 w') => anode_at b X 0 n w' hok (by omega) (by rw [hxl]; rfl) (hR.mono hb) (by omega) hn2 ((hb.cell (p := ⟨b, 0, none⟩) (World.block_lt_of_cell? _ _ hc0)).trans hc0) ((hb.cell (p := ⟨b, 2, none⟩) (World.block_lt_of_cell? _ _ hc2)).trans hc2))
  have HAL := Lib.hid (fun (p : Nat) w' (hb : Bel w4 w') (hp : w'.rangeAt p 0 [.int .i64 (-1), .int .i64 0]) (hpb : p < w'.heap.size) => along_top b p n w' hd0 (by omega) (by omega) hnr.all.ch (fun w2 hb2 => HND.out w2 (hb.trans hb2)) hp hpb)
  clear HLD hR hc0 hc2 hX1 hnr hnl hn1 hd0 hn2 HND hx hok hx1 hxl hnc
  have HB4 : Hid (Bel w4 w4) := Bel.refl _
  go_wp2_with (first | ((with_reducible show wpList _ _ _ (⟨some 27, _, _, _, _, _⟩ :: _) _ _); refine wpList_build1 (vx := .int .i64 (-1)) (v := .agg #[.int .i64 (-1), .int .i64 0]) rfl (.const _) rfl rfl (by intro w; kernel_rfl) ?_) | ((with_reducible show wpList _ _ _ (⟨some 28, _, _, _, _, _⟩ :: _) _ _); refine wpList_buildSlice1 rfl E_posA (.tmp 27) rfl (#[.int .i64 (-1), .int .i64 0]) rfl rfl (by omega) ?_; replace H := Lib.hid (H.out.alloc #[.int .i64 (-1), .int .i64 0] 110); (try simp only [List.set_cons_zero, List.set_cons_succ, List.cons_append, List.nil_append, List.eraseIdx_cons_zero, List.eraseIdx_cons_succ, List.setIfInBounds_toArray, World.size_alloc, selR, List.getD_cons_zero, List.getD_cons_succ] at H)))
  refine (HAL.out w4.heap.size _ (HB4.out.alloc _) (H.out.blk 7 rfl).range (H.out.blk 7 rfl).lt).mono ?_; rintro e' w6 ⟨rfl, hb6⟩
  replace H := Lib.hid (H.out.bel hb6); (try simp only [List.set_cons_zero, List.set_cons_succ, List.cons_append, List.nil_append, List.eraseIdx_cons_zero, List.eraseIdx_cons_succ, List.setIfInBounds_toArray, World.size_alloc, selR, List.getD_cons_zero, List.getD_cons_succ] at H)
  rw [HALL.out]
  clear hb6 HAL HB4
  go_upto_region 5 with ((with_reducible show wpList _ _ _ (⟨_, .store _ (.tmp 5) _, _, _, _, _⟩ :: _) _ _); (refine wpList_store_new rfl rowAgA (.tmp 5) (.tmp 30) rfl rfl rfl (exAg.cs) rfl rfl (ag_oneA _) ?_; replace H := Lib.hid (H.out.alloc (exAg.cs) 40); (try simp only [List.set_cons_zero, List.set_cons_succ, List.cons_append, List.nil_append, List.eraseIdx_cons_zero, List.eraseIdx_cons_succ, List.setIfInBounds_toArray, World.size_alloc, selR, List.getD_cons_zero, List.getD_cons_succ] at H)))
  (try simp only [Act.put, List.setIfInBounds_toArray, List.set_cons_zero, List.set_cons_succ])
  generalize w6.heap.size = u at *
  generalize World.alloc w6 _ = w7 at *
  have cc : w7.cell? ⟨u, 0, none⟩ = some (.int .i64 1) := (H.out.blk 8 rfl).cell 0
  go_wp2_with fail
  go_ret
  exact ⟨rfl, H.out.to⟩

end Go.Proofs.Ytjiphfobengdlaa
