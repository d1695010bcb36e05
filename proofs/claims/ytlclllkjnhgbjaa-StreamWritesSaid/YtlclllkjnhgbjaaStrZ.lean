/- The chapter's example (law 34). -/
import Derived.Test.YtlclllkjnhgbjaaSwr
import Derived.Test.YtlclllkjnhgbjaaBu
import Derived.Test.YtlclllkjnhgbjaaAreS
namespace Go.Proofs.Ytlclllkjnhgbjaa
open Go.RowKit
set_option linter.unusedVariables false
set_option linter.unusedSimpArgs false


theorem ex_good : GoodN [[1]] 1 [⟨0, [[exCl]], exCl⟩] := goodN_load ex_load
theorem ex_val : swVal 1 1 [⟨0, [[exCl]], exCl⟩] 99 = .tuple #[.string ⟨#[7, 0, 1, 0, 2, 0, 2, 0]⟩, .int .i64 0, .int .i64 0] := by kernel_rfl
set_option maxRecDepth 100000 in
/-- The arena of the example's node, written. -/
theorem exloadw_any (s : Shp) (l : Row Nd) (w : World) (hs : s.rd w) (hl : l.rd w) (hsc : s.con = [[1]]) (hms : s.ms = 1) (hsn : s.sz.n = 1) (hln : l.n = 1) (hlc : l.l.map Nd.con = [⟨0, [[exCl]], exCl⟩])
    (hbd : ∀ n ∈ l.l, SmN n) :
    Calls Try.prog 25 #[.agg s.cs, .slice l.A l.n l.c] w fun e w' => ∃ (b : Nat), e = .returned (.tuple #[.pointer (some ⟨b, 0, none⟩), .int .i64 0]) ∧ Bel w w' ∧
      Calls Try.prog 26 #[.pointer (some ⟨b, 0, none⟩), .int .i64 99] w' fun e w2 => e = .returned (.tuple #[.string ⟨#[7, 0, 1, 0, 2, 0, 2, 0]⟩, .int .i64 0, .int .i64 0]) ∧ Bel w' w2 := by
  refine (aload_any s l w hs hl (by omega) hbd).mono ?_
  intro e w' h
  unfold LoadPost at h
  have e1 : firstErr (loadAt s.con s.ms (l.l.map Nd.con)) (l.l.map Nd.con).length 0 = 0 := by rw [hsc, hms, hlc]; exact ex_load
  have e2 : shapeOk s.con s.ms = true := by rw [hsc, hms]; exact exShape
  rw [e1, e2, if_neg (by simp), if_neg (by simp)] at h
  obtain ⟨b, x, he, ⟨h1, h2, h3, h4⟩, h5, h6⟩ := h
  rw [hlc] at h5
  rw [hsc] at h3
  rw [hms] at h4
  rw [hsn] at h2
  refine ⟨b, he, h6.to, ?_⟩
  obtain ⟨n, hn⟩ : ∃ n, x.nd.l = [n] := by
    have hl := congrArg List.length h5
    rw [List.length_map] at hl
    exact List.length_eq_one_iff.1 hl
  have hnc : n.con = ⟨0, [[exCl]], exCl⟩ := by rw [hn, List.map_cons, List.map_nil] at h5; injection h5
  have hat := ar_at h1 h6
  have hnr : n.rd w' := hat.nd.all n (by rw [hn]; exact List.mem_singleton_self n)
  have hnl : n.ls.l.map Row.l = [[exCl]] := congrArg NC.ls hnc
  have hn1 : n.ls.n = 1 := by have h := congrArg List.length hnl; rw [List.length_map] at h; have h2 := hnr.ls.len; rw [← h2]; exact h
  have hsm : ∀ m ∈ x.nd.l, SmN m := fun m hm => by
    rw [hn, List.mem_singleton] at hm
    subst hm
    refine ⟨by omega, fun y hy => ?_, by rw [hnl]; show (1 : Nat) ≤ _; omega⟩
    have hm2 : y.l ∈ m.ls.l.map Row.l := List.mem_map.2 ⟨y, hy, rfl⟩
    rw [hnl, List.mem_singleton] at hm2
    have h2 : y.l.length = y.n := (Row.ok.rds (hnr.ls.all y hy)).len
    rw [hm2] at h2
    have h3 : y.n = 1 := h2.symm
    omega
  have hx1 : x.nd.n = 1 := by have h := hat.nd.len; rw [hn] at h; exact h.symm
  have h := swrite_any b x 99 w' h1 hat (by rw [h3, h4]; exact exShape) (by rw [h3, h4, h5]; exact ex_good) (by omega) hsm (by unfold I64; omega)
  rw [h2, h4, h5, ex_val] at h
  exact h
set_option maxRecDepth 100000 in
set_option maxHeartbeats 4000000 in
theorem awake34_any (w : World) : Calls Try.prog 21 #[] w fun e w' => e = .returned (.bool true) ∧ Bel w w' := by
  have H := Lib.hid ((((SL.start No w).alloc #[.int .i64 1] 3).alloc #[.slice (some ⟨w.heap.size, 0, none⟩) 1 1] 59).alloc #[.slice (some ⟨w.heap.size + 1, 0, none⟩) 1 1, .int .i64 1] 24)
  (try simp only [List.set_cons_zero, List.set_cons_succ, List.cons_append, List.nil_append, List.eraseIdx_cons_zero, List.eraseIdx_cons_succ, List.setIfInBounds_toArray, World.size_alloc, selR, List.getD_cons_zero, List.getD_cons_succ] at H)
  have hb2 : ∀ w : World, (Instr.build 32 #[(2, .agg exAg.cs)]).run Try.prog w = .ok (.agg exCl.cs) w := fun _ => by kernel_rfl
  go_enter Try.func21, Try.ntmps21
  go_upto_region 2 with fail
  generalize w.heap.size + 1 + 1 = x2 at *
  generalize w.heap.size + 1 = x1 at *
  generalize w.heap.size = x0 at *
  generalize World.alloc (World.alloc (World.alloc w _) _) _ = w1 at *
  go_upto_region 3 with (first | ((with_reducible show wpList _ _ _ (⟨some 11, _, _, _, _, _⟩ :: _) _ _); refine wpList_build1 (vx := .int .i64 1) (v := .agg exAg.cs) rfl (.const _) rfl rfl (by intro w; kernel_rfl) ?_) | ((with_reducible show wpList _ _ _ (⟨some 12, _, _, _, _, _⟩ :: _) _ _); refine wpList_build1 (vx := .agg exAg.cs) (v := .agg exCl.cs) rfl (.tmp 11) rfl rfl hb2 ?_) | ((with_reducible show wpList _ _ _ (⟨_, .store _ (.tmp 2) _, _, _, _, _⟩ :: _) _ _); (refine wpList_store_new rfl rowCl (.tmp 2) (.tmp 12) rfl rfl rfl (exCl.cs) rfl rfl (cl_one _) ?_; replace H := Lib.hid (H.out.alloc (exCl.cs) 32); (try simp only [List.set_cons_zero, List.set_cons_succ, List.cons_append, List.nil_append, List.eraseIdx_cons_zero, List.eraseIdx_cons_succ, List.setIfInBounds_toArray, World.size_alloc, selR, List.getD_cons_zero, List.getD_cons_succ] at H))))
  (try simp only [Act.put, List.setIfInBounds_toArray, List.set_cons_zero, List.set_cons_succ])
  clear hb2
  generalize w1.heap.size = x3 at *
  generalize World.alloc w1 _ = w2 at *
  have hb3 : ∀ (d e : Nat) (w : World), (Instr.build 34 #[(1, .slice (some ⟨e, 0, none⟩) 1 1), (2, .agg exCl.cs)]).run Try.prog w = .ok (.agg (exNd d e).cs) w := fun _ _ _ => by kernel_rfl
  go_wp2_with (first | ((with_reducible show wpList _ _ _ (⟨some 14, _, _, _, _, _⟩ :: _) _ _); (refine wpList_load_blk rfl rowShp2 (.tmp 1) rfl _ rfl (H.out.blk 2 rfl) rfl ?_)) | ((with_reducible show wpList _ _ _ (⟨some 15, _, _, _, _, _⟩ :: _) _ _); (refine wpList_load_blk rfl rowCl (.tmp 2) rfl _ rfl (H.out.blk 3 rfl) rfl ?_)) | ((with_reducible show wpList _ _ _ (⟨some 16, _, _, _, _, _⟩ :: _) _ _); (refine wpList_buildSlice1 rfl E_cl (.tmp 15) rfl (exCl.cs) rfl rfl (by omega) ?_; replace H := Lib.hid (H.out.addRow ((Bel.refl _).alloc _) (own_made _ 32 (exCl.cs) _ rfl)); (try simp only [List.set_cons_zero, List.set_cons_succ, List.cons_append, List.nil_append, List.eraseIdx_cons_zero, List.eraseIdx_cons_succ, List.setIfInBounds_toArray, World.size_alloc, selR, List.getD_cons_zero, List.getD_cons_succ] at H))) | ((with_reducible show wpList _ _ _ (⟨some 18, _, _, _, _, _⟩ :: _) _ _); (replace H := Lib.hid (H.out.alloc #[.slice (some ⟨w2.heap.size, 0, none⟩) 1 1] 44); (try simp only [List.set_cons_zero, List.set_cons_succ, List.cons_append, List.nil_append, List.eraseIdx_cons_zero, List.eraseIdx_cons_succ, List.setIfInBounds_toArray, World.size_alloc, selR, List.getD_cons_zero, List.getD_cons_succ] at H); refine wpList_load_blk rfl rowCl (.tmp 2) rfl _ rfl (H.out.blk 3 rfl) rfl ?_)) | ((with_reducible show wpList _ _ _ (⟨some 19, _, _, _, _, _⟩ :: _) _ _); refine wpList_build2N rfl (.tmp 17) (.tmp 18) rfl rfl rfl (hb3 w2.heap.size (w2.heap.size + 1)) ?_) | ((with_reducible show wpList _ _ _ (⟨some 20, _, _, _, _, _⟩ :: _) _ _); (refine wpList_buildSlice1 rfl E_nd (.tmp 19) rfl ((exNd w2.heap.size (w2.heap.size + 1)).cs) rfl rfl (by omega) ?_; replace H := Lib.hid (H.out.addRow ((Bel.refl _).alloc _) (own_made _ 34 ((exNd w2.heap.size (w2.heap.size + 1)).cs) _ rfl)); (try simp only [List.set_cons_zero, List.set_cons_succ, List.cons_append, List.nil_append, List.eraseIdx_cons_zero, List.eraseIdx_cons_succ, List.setIfInBounds_toArray, World.size_alloc, selR, List.getD_cons_zero, List.getD_cons_succ] at H))))
  clear hb3
  generalize w2.heap.size + 1 + 1 = f at *
  generalize w2.heap.size + 1 = e at *
  generalize w2.heap.size = d at *
  generalize World.alloc (World.alloc (World.alloc w2 _) _) _ = w3 at *
  have HLD : Calls Try.prog 25 #[.agg #[.slice (some ⟨x1, 0, none⟩) 1 1, .int .i64 1], .slice (some ⟨f, 0, none⟩) 1 1] w3 _ := exloadw_any (exShp x0 x1) (exNds d e f) w3 (ex_shp H.out 0 1 rfl rfl) (ex_nds (H.out.row 4 rfl) (H.out.blk 5 rfl) (H.out.row 6 rfl)) rfl rfl rfl rfl rfl (fun n hn => by simp only [List.mem_singleton] at hn; subst hn; exact ⟨by show (1 : Nat) ≤ _; omega, fun y hy => by simp only [List.mem_singleton] at hy; subst hy; show (1 : Nat) ≤ _; omega, by show (1 : Nat) ≤ _; omega⟩)
  refine HLD.mono ?_; rintro e' w4 ⟨b, rfl, hb4, hW⟩
  replace H := Lib.hid (H.out.bel hb4); (try simp only [List.set_cons_zero, List.set_cons_succ, List.cons_append, List.nil_append, List.eraseIdx_cons_zero, List.eraseIdx_cons_succ, List.setIfInBounds_toArray, World.size_alloc, selR, List.getD_cons_zero, List.getD_cons_succ] at H)
  have HW := Lib.hid hW
  clear hb4 hW HLD
  go_wp2_with fail
  refine HW.out.mono ?_; rintro e' w5 ⟨rfl, hb5⟩
  replace H := Lib.hid (H.out.bel hb5); (try simp only [List.set_cons_zero, List.set_cons_succ, List.cons_append, List.nil_append, List.eraseIdx_cons_zero, List.eraseIdx_cons_succ, List.setIfInBounds_toArray, World.size_alloc, selR, List.getD_cons_zero, List.getD_cons_succ] at H)
  clear hb5 HW
  go_wp2_with fail
  go_ret
  exact ⟨rfl, H.out.to⟩

end Go.Proofs.Ytlclllkjnhgbjaa
