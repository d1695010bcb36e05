/- The chapter's example (law 32). -/
import Derived.Test.YtlclllkjnhgbjaaCelB
import Derived.Test.YtlclllkjnhgbjaaCelE
import Derived.Test.YtlclllkjnhgbjaaAreH
namespace Go.Proofs.Ytlclllkjnhgbjaa
open Go.RowKit
set_option linter.unusedVariables false
set_option linter.unusedSimpArgs false


theorem wpList_build3N {ops : Array Oper} {rest : List Oper} {o : Oper} {a : Act} {w : World} {Q : Exit → Act → World → Prop} (hgd : o.guard = none) {t : TypeId} (x y z : Operand) {i j k : Nat} (ho : o.op = .build t #[(i, x), (j, y), (k, z)])
    {vx vy vz v : Value} (hx : a.eval x = vx) (hy : a.eval y = vy) (hz : a.eval z = vz) (hr : ∀ w : World, (Instr.build t #[(i, vx), (j, vy), (k, vz)]).run Try.prog w = .ok v w)
    (h : wpList Try.prog ops Q rest (a.put o.dst v) w) : wpList Try.prog ops Q (o :: rest) a w := by
  refine wpList_plain hgd fun K hK => ?_
  unfold Oper.wp execOp
  simp only [ho, List.map_toArray, List.map_cons, List.map_nil, hx, hy, hz, Sem.run_bind, hr, Result.andThen_ok, Sem.run_pure]
  exact hK _ _ h

abbrev cxAg : Ag := ⟨1, ⟨3, 3, 3⟩, ⟨0, 0, 0⟩, ⟨0, 0, 0⟩⟩
abbrev cxCl : Cl := ⟨0, 0, cxAg⟩
abbrev cxNd (d e : Nat) : Nd := ⟨0, ⟨some ⟨e, 0, none⟩, 1, 1, [⟨some ⟨d, 0, none⟩, 1, 1, [cxCl]⟩]⟩, cxCl⟩
theorem cxCl_ok : cxCl.ok := by
  have z : I64 0 := z_i64
  have o : I64 1 := by unfold I64; omega
  have t : I64 3 := by unfold I64; omega
  exact ⟨z, z, ⟨o, ⟨t, t, t⟩, ⟨z, z, z⟩, ⟨z, z, z⟩⟩⟩
theorem cx_nd {w : World} {d e : Nat} (h1 : w.ownsRow 0 32 12 (.slice (some ⟨d, 0, none⟩) 1 1) 1 cxCl.cs.toList) (h2 : Blk w e 44 #[.slice (some ⟨d, 0, none⟩) 1 1]) : (cxNd d e).rd w := by
  refine ⟨z_i64, ⟨reads_of_block h2 rfl, fun y hy => ?_, by show (1 : Nat) ≤ _; omega⟩, cxCl_ok, by show (1 : Nat) ≤ _; omega⟩
  simp only [List.mem_singleton] at hy
  subst hy
  exact own_ok (e := 32) (show w.ownsRow 0 32 12 (.slice (some ⟨d, 0, none⟩) 1 1) 1 cxCl.cs.toList from h1) (fun c hc => by simp only [List.mem_singleton] at hc; subst hc; exact cxCl_ok) (by show 1 * 96 ≤ _; omega)
theorem cx_err : nodeErr [[1]] 1 ⟨0, [[cxCl]], cxCl⟩ = 0 := by kernel_rfl
theorem cx_body : bodyPut 1 1 ⟨0, [[cxCl]], cxCl⟩ = [0, 1, 0, 2, 6, 2, 6] := by kernel_rfl
theorem cx_put : nodePut 1 1 ⟨0, [[cxCl]], cxCl⟩ = [7, 0, 1, 0, 2, 6, 2, 6] := by kernel_rfl
set_option maxRecDepth 100000 in
/-- The chapter's example. -/
theorem cxput_any (s : Shp) (n : Nd) (w : World) (hs : s.rd w) (hn : n.rd w) (hsc : s.con = [[1]]) (hsn : s.sz.n = 1) (hms : s.ms = 1) (hnc : n.con = ⟨0, [[cxCl]], cxCl⟩) :
    Calls Try.prog 12 #[.agg s.cs, .agg n.cs] w fun e w' => e = .returned (.tuple #[.string ⟨#[7, 0, 1, 0, 2, 6, 2, 6]⟩, .int .i64 0]) ∧ Bel w w' := by
  have h := cput_any s n w hs hn (by rw [hsc, hms, hnc]; exact cx_err) (by rw [hsn, hms, hnc, cx_body]; show (7 : Nat) ≤ _; omega)
  rw [hsn, hms, hnc, cx_put] at h
  exact h
set_option maxRecDepth 100000 in
set_option maxHeartbeats 4000000 in
theorem awake32_any (w : World) : Calls Try.prog 11 #[] w fun e w' => e = .returned (.bool true) ∧ Bel w w' := by
  have H := Lib.hid (SL.start No w)
  have hb4 : ∀ w : World, (Instr.build 27 #[(0, .int .i64 3), (1, .int .i64 3), (2, .int .i64 3)]).run Try.prog w = .ok (.agg #[.int .i64 3, .int .i64 3, .int .i64 3]) w := fun _ => by kernel_rfl
  have hb5 : ∀ w : World, (Instr.build 28 #[(0, .agg #[.int .i64 3, .int .i64 3, .int .i64 3])]).run Try.prog w = .ok (.agg #[.int .i64 3, .int .i64 3, .int .i64 3, .int .i64 0, .int .i64 0, .int .i64 0, .int .i64 0, .int .i64 0, .int .i64 0]) w := fun _ => by kernel_rfl
  have hb6 : ∀ w : World, (Instr.build 30 #[(0, .int .i64 1), (1, .agg #[.int .i64 3, .int .i64 3, .int .i64 3, .int .i64 0, .int .i64 0, .int .i64 0, .int .i64 0, .int .i64 0, .int .i64 0])]).run Try.prog w = .ok (.agg cxAg.cs) w := fun _ => by kernel_rfl
  have hb7 : ∀ w : World, (Instr.build 32 #[(2, .agg cxAg.cs)]).run Try.prog w = .ok (.agg cxCl.cs) w := fun _ => by kernel_rfl
  have hbn : ∀ (d e : Nat) (w : World), (Instr.build 34 #[(1, .slice (some ⟨e, 0, none⟩) 1 1), (2, .agg cxCl.cs)]).run Try.prog w = .ok (.agg (cxNd d e).cs) w := fun _ _ _ => by kernel_rfl
  go_enter Try.func11, Try.ntmps11
  go_upto_region 2 with (first | ((with_reducible show wpList _ _ _ (⟨some 4, _, _, _, _, _⟩ :: _) _ _); refine wpList_build3N rfl (.const _) (.const _) (.const _) rfl rfl rfl rfl hb4 ?_) | ((with_reducible show wpList _ _ _ (⟨some 5, _, _, _, _, _⟩ :: _) _ _); refine wpList_build1N rfl (.tmp 4) rfl rfl hb5 ?_) | ((with_reducible show wpList _ _ _ (⟨some 6, _, _, _, _, _⟩ :: _) _ _); refine wpList_build2N rfl (.const _) (.tmp 5) rfl rfl rfl hb6 ?_) | ((with_reducible show wpList _ _ _ (⟨some 7, _, _, _, _, _⟩ :: _) _ _); refine wpList_build1N rfl (.tmp 6) rfl rfl hb7 ?_) | ((with_reducible show wpList _ _ _ (⟨_, .store _ (.tmp 1) _, _, _, _, _⟩ :: _) _ _); (refine wpList_store_new rfl rowCl (.tmp 1) (.tmp 7) rfl rfl rfl (cxCl.cs) rfl rfl (cl_one _) ?_; replace H := Lib.hid (H.out.alloc (cxCl.cs) 32); (try simp only [List.set_cons_zero, List.set_cons_succ, List.cons_append, List.nil_append, List.eraseIdx_cons_zero, List.eraseIdx_cons_succ, List.setIfInBounds_toArray, World.size_alloc, selR, List.getD_cons_zero, List.getD_cons_succ] at H))))
  (try simp only [Act.put, List.setIfInBounds_toArray, List.set_cons_zero, List.set_cons_succ])
  clear hb4 hb5 hb6 hb7
  generalize w.heap.size = x at *
  generalize World.alloc w _ = w1 at *
  go_wp2_with (first | ((with_reducible show wpList _ _ _ (⟨some 12, _, _, _, _, _⟩ :: _) _ _); (replace H := Lib.hid ((H.out.alloc #[.int .i64 1] 3).alloc #[.slice (some ⟨w1.heap.size, 0, none⟩) 1 1] 59); (try simp only [List.set_cons_zero, List.set_cons_succ, List.cons_append, List.nil_append, List.eraseIdx_cons_zero, List.eraseIdx_cons_succ, List.setIfInBounds_toArray, World.size_alloc, selR, List.getD_cons_zero, List.getD_cons_succ] at H); generalize w1.heap.size + 1 = y1 at *; generalize w1.heap.size = y0 at *; generalize World.alloc (World.alloc w1 _) _ = w2 at *; refine wpList_load_blk rfl rowCl (.tmp 1) rfl _ rfl (H.out.blk 0 rfl) rfl ?_)) | ((with_reducible show wpList _ _ _ (⟨some 13, _, _, _, _, _⟩ :: _) _ _); (refine wpList_buildSlice1 rfl E_cl (.tmp 12) rfl (cxCl.cs) rfl rfl (by omega) ?_; replace H := Lib.hid (H.out.addRow ((Bel.refl _).alloc _) (own_made _ 32 (cxCl.cs) _ rfl)); (try simp only [List.set_cons_zero, List.set_cons_succ, List.cons_append, List.nil_append, List.eraseIdx_cons_zero, List.eraseIdx_cons_succ, List.setIfInBounds_toArray, World.size_alloc, selR, List.getD_cons_zero, List.getD_cons_succ] at H))) | ((with_reducible show wpList _ _ _ (⟨some 15, _, _, _, _, _⟩ :: _) _ _); (replace H := Lib.hid (H.out.alloc #[.slice (some ⟨w2.heap.size, 0, none⟩) 1 1] 44); (try simp only [List.set_cons_zero, List.set_cons_succ, List.cons_append, List.nil_append, List.eraseIdx_cons_zero, List.eraseIdx_cons_succ, List.setIfInBounds_toArray, World.size_alloc, selR, List.getD_cons_zero, List.getD_cons_succ] at H); generalize w2.heap.size + 1 = y3 at *; generalize w2.heap.size = y2 at *; generalize World.alloc (World.alloc w2 _) _ = w3 at *; refine wpList_load_blk rfl rowCl (.tmp 1) rfl _ rfl (H.out.blk 0 rfl) rfl ?_)) | ((with_reducible show wpList _ _ _ (⟨some 16, _, _, _, _, _⟩ :: _) _ _); refine wpList_build2N rfl (.tmp 14) (.tmp 15) rfl rfl rfl (hbn y2 y3) ?_))
  have HPUT : Calls Try.prog 12 #[.agg #[.slice (some ⟨y1, 0, none⟩) 1 1, .int .i64 1], .agg (cxNd y2 y3).cs] w3 _ := cxput_any (exShp y0 y1) (cxNd y2 y3) w3 (ex_shp H.out 1 2 rfl rfl) (cx_nd (H.out.row 3 rfl) (H.out.blk 4 rfl)) rfl rfl rfl rfl
  refine HPUT.mono ?_; rintro e w4 ⟨rfl, hb4⟩
  replace H := Lib.hid (H.out.bel hb4); (try simp only [List.set_cons_zero, List.set_cons_succ, List.cons_append, List.nil_append, List.eraseIdx_cons_zero, List.eraseIdx_cons_succ, List.setIfInBounds_toArray, World.size_alloc, selR, List.getD_cons_zero, List.getD_cons_succ] at H)
  go_wp2_with fail
  go_ret
  exact ⟨rfl, H.out.to⟩

end Go.Proofs.Ytlclllkjnhgbjaa
