/- catalog.New; exact.Grow. -/
import Derived.Test.YtigjghfonpfdlaaCatD
import Derived.Test.YtigjghfonpfdlaaBb
namespace Go.Proofs.Ytigjghfonpfdlaa
open Go.RowKit
set_option linter.unusedVariables false
set_option linter.unusedSimpArgs false


theorem small_of_own {s : Sch} {w : World} (h : SchOwn s w) : SmS s := ⟨by have := h.dn; omega, by have := h.mn; omega, h.small⟩
/-- How New and Grow end: a catalog, and the number of why not. -/
def CatPost (o : CC × Int) (w : World) (e : Ending) (w' : World) : Prop :=
  ∃ D : Ct, e = .returned (.tuple #[.agg D.cs, .int .i64 o.2]) ∧ D.con = o.1 ∧ D.rd w' ∧ SmS D.sc ∧ Bel w w'
theorem small_nil : SmS Sch.nil := ⟨by show (0 : Nat) ≤ _; omega, by show (0 : Nat) ≤ _; omega, fun d hd => by cases hd⟩
theorem catPost_nil {k : Int} {w w' : World} (hb : Bel w w') : CatPost (CC.nil, k) w (.returned (.tuple #[.agg #[.slice none 0 0, .slice none 0 0, .int .i64 0, .int .i64 0, .int .i64 0, .int .i64 0, .int .i64 0, .int .i64 0, .int .i64 0], .int .i64 k])) w' := ⟨Ct.nil, rfl, rfl, ct_nil_rd w', small_nil, hb⟩
/-- The catalog of a cube without facts. -/
def catNew (s : SC) : CC × Int := if schErr s ≠ 0 then (CC.nil, schErr s) else (⟨s, 0, 0, 0, 0, 0, 0, 0⟩, 0)
set_option maxRecDepth 100000 in
set_option maxHeartbeats 1000000 in
theorem catnew_any (s : Sch) (w : World) (hs : s.rd w) (hm : SmS s) :
    Calls Try.prog 33 #[.agg s.cs] w (CatPost (catNew s.con) w) := by
  have HC := Lib.hid (fun w' (hb : Bel w w') => schcheck_any s w' (hs.mono hb) hm.1 hm.2.1 hm.2.2)
  have HK := Lib.hid (fun hE w' (hb : Bel w w') => catclone_any s w' (hs.mono hb) hE)
  have H := Lib.hid (((SL.start No w).alloc s.cs 25).alloc #[.slice none 0 0, .slice none 0 0, .int .i64 0, .int .i64 0, .int .i64 0, .int .i64 0, .int .i64 0, .int .i64 0, .int .i64 0] 40)
  (try simp only [List.set_cons_zero, List.set_cons_succ, List.cons_append, List.nil_append, List.eraseIdx_cons_zero, List.eraseIdx_cons_succ, List.setIfInBounds_toArray, World.size_alloc, selR, List.getD_cons_zero, List.getD_cons_succ] at H)
  generalize hO : catNew s.con = O
  have HO := Lib.hid hO
  clear hO
  obtain ⟨⟨A, n, c, ds⟩, ⟨MA, mn, mc, ms⟩⟩ := s
  simp only [Sch.cs, Sch.con] at *
  clear hs hm
  go_enter Try.func33, Try.ntmps33
  go_upto_region 1 with fail
  generalize w.heap.size + 1 = y at *
  generalize w.heap.size = x at *
  generalize World.alloc (World.alloc _ _) _ = w1 at *
  go_wp2_with ((with_reducible show wpList _ _ _ (⟨some 5, _, _, _, _, _⟩ :: _) _ _); (refine wpList_load_blk rfl rowSch (.tmp 1) rfl _ rfl (H.out.blk 0 rfl) rfl ?_))
  refine (HC.out _ H.out.to).mono ?_; rintro e w2 ⟨rfl, hb2⟩
  replace H := Lib.hid (H.out.bel hb2); (try simp only [List.set_cons_zero, List.set_cons_succ, List.cons_append, List.nil_append, List.eraseIdx_cons_zero, List.eraseIdx_cons_succ, List.setIfInBounds_toArray, World.size_alloc, selR, List.getD_cons_zero, List.getD_cons_succ] at H)
  clear hb2 HC
  by_cases hE : schErr (⟨ds.map Dm.con, ms⟩ : SC) = 0
  · have HK2 := Lib.hid (HK.out hE)
    have HO2 : Hid ((⟨⟨ds.map Dm.con, ms⟩, 0, 0, 0, 0, 0, 0, 0⟩, 0) = O) := by have h := HO.out; unfold catNew at h; rw [if_neg (by simp [hE])] at h; exact h
    rw [hE]
    clear hE HK HO
    go_wp2_with ((with_reducible show wpList _ _ _ (⟨some 11, _, _, _, _, _⟩ :: _) _ _); (refine wpList_load_blk rfl rowSch (.tmp 1) rfl _ rfl (H.out.blk 0 rfl) rfl ?_))
    refine (HK2.out _ H.out.to).mono ?_; rintro e w3 ⟨D, rfl, hD, hb3, hN⟩
    replace H := Lib.hid (H.out.add hb3 _ hN.1 hN.2); (try simp only [List.set_cons_zero, List.set_cons_succ, List.cons_append, List.nil_append, List.eraseIdx_cons_zero, List.eraseIdx_cons_succ, List.setIfInBounds_toArray, World.size_alloc, selR, List.getD_cons_zero, List.getD_cons_succ] at H)
    have HDC := Lib.hid hD
    clear hN hD HK2
    obtain ⟨⟨B, m, d, es⟩, ⟨MB, mm, md, mt⟩⟩ := D
    simp only [Sch.cs, Sch.con] at *
    have hbd : ∀ w : World, (Instr.build 40 #[(0, .agg #[.slice B m d, .slice MB mm md])]).run Try.prog w = .ok (.agg #[.slice B m d, .slice MB mm md, .int .i64 0, .int .i64 0, .int .i64 0, .int .i64 0, .int .i64 0, .int .i64 0, .int .i64 0]) w := fun _ => by kernel_rfl
    go_wp2_with (first | ((with_reducible show wpList _ _ _ (⟨some 13, _, _, _, _, _⟩ :: _) _ _); refine wpList_build1 (vx := .agg #[.slice B m d, .slice MB mm md]) (v := .agg #[.slice B m d, .slice MB mm md, .int .i64 0, .int .i64 0, .int .i64 0, .int .i64 0, .int .i64 0, .int .i64 0, .int .i64 0]) rfl (.tmp 12) rfl rfl hbd ?_) | ((with_reducible show wpList _ _ _ (⟨_, .store _ (.tmp 2) _, _, _, _, _⟩ :: _) _ _); (refine wpList_store_blk rfl rowCt (.tmp 2) (.tmp 13) rfl _ rfl (H.out.blk 1 rfl) rfl (#[.slice B m d, .slice MB mm md, .int .i64 0, .int .i64 0, .int .i64 0, .int .i64 0, .int .i64 0, .int .i64 0, .int .i64 0]) rfl rfl (by simp [Value.oneCell']) ?_; intro wq bq hgq; replace H := Lib.hid (H.out.setBlk 1 rfl hgq bq); (try simp only [List.set_cons_zero, List.set_cons_succ, List.cons_append, List.nil_append, List.eraseIdx_cons_zero, List.eraseIdx_cons_succ, List.setIfInBounds_toArray, World.size_alloc, selR, List.getD_cons_zero, List.getD_cons_succ] at H); clear hgq bq)))
    refine bodyPost_ret (results_blk rfl rowCt rfl (H.out.blk 1 rfl) rfl) rfl ?_
    rw [← HO2.out]
    exact ⟨⟨⟨⟨B, m, d, es⟩, ⟨MB, mm, md, mt⟩⟩, 0, 0, 0, 0, 0, 0, 0⟩, rfl, congrArg (fun s => (⟨s, 0, 0, 0, 0, 0, 0, 0⟩ : CC)) HDC.out, ⟨(H.out.at_ 2 rfl).rd, i64_zero, i64_zero, i64_zero, i64_zero, i64_zero, i64_zero, i64_zero⟩, small_of_own (H.out.at_ 2 rfl), H.out.to⟩
  · have HO2 : Hid ((CC.nil, schErr (⟨ds.map Dm.con, ms⟩ : SC)) = O) := by have h := HO.out; unfold catNew at h; rw [if_pos hE] at h; exact h
    have dE : (schErr (⟨ds.map Dm.con, ms⟩ : SC) == 0) = false := by simpa using hE
    clear hE HK HO
    go_wp2_with ((with_reducible show wpList _ _ _ (⟨_, .store _ (.tmp 2) _, _, _, _, _⟩ :: _) _ _); (refine wpList_store_blk rfl rowCt (.tmp 2) (.tmp 9) rfl _ rfl (H.out.blk 1 rfl) rfl (#[.slice none 0 0, .slice none 0 0, .int .i64 0, .int .i64 0, .int .i64 0, .int .i64 0, .int .i64 0, .int .i64 0, .int .i64 0]) rfl rfl (by simp [Value.oneCell']) ?_; intro wq bq hgq; replace H := Lib.hid (H.out.setBlk 1 rfl hgq bq); (try simp only [List.set_cons_zero, List.set_cons_succ, List.cons_append, List.nil_append, List.eraseIdx_cons_zero, List.eraseIdx_cons_succ, List.setIfInBounds_toArray, World.size_alloc, selR, List.getD_cons_zero, List.getD_cons_succ] at H); clear hgq bq))
    refine bodyPost_ret (results_blk rfl rowCt rfl (H.out.blk 1 rfl) rfl) rfl ?_
    rw [← HO2.out]
    exact catPost_nil H.out.to

/-- A total with a value more; false: it does not fit. -/
def egrow (p q v : Int) : (Int × Int) × Bool := if v < 0 then (if (xadd q v).2 then (p, (xadd q v).1) else (0, 0), (xadd q v).2) else (if (xadd p v).2 then ((xadd p v).1, q) else (0, 0), (xadd p v).2)
set_option maxRecDepth 100000 in
set_option maxHeartbeats 1000000 in
theorem egrow_any (p q v : Int) (w : World) (hp : I64 p) (hq : I64 q) (hv : I64 v) :
    Calls Try.prog 57 #[.agg #[.int .i64 p, .int .i64 q], .int .i64 v] w fun e w' => e = .returned (.tuple #[.agg #[.int .i64 (egrow p q v).1.1, .int .i64 (egrow p q v).1.2], .bool (egrow p q v).2]) ∧ Bel w w' := by
  have H := Lib.hid (((SL.start No w).alloc #[.int .i64 p, .int .i64 q] 37).alloc #[.int .i64 0, .int .i64 0] 37)
  (try simp only [List.set_cons_zero, List.set_cons_succ, List.cons_append, List.nil_append, List.eraseIdx_cons_zero, List.eraseIdx_cons_succ, List.setIfInBounds_toArray, World.size_alloc, selR, List.getD_cons_zero, List.getD_cons_succ] at H)
  go_enter Try.func57, Try.ntmps57
  go_upto_region 2 with fail
  generalize w.heap.size + 1 = y at *
  generalize w.heap.size = x at *
  generalize World.alloc (World.alloc _ _) _ = w1 at *
  by_cases h : v < 0
  · have HO2 : Hid ((if (xadd q v).2 then (p, (xadd q v).1) else (0, 0), (xadd q v).2) = egrow p q v) := by show _ = _; unfold egrow; rw [if_pos h]
    have HX := Lib.hid (fun w => add_any q v w hq hv)
    generalize (xadd q v) = X at *
    obtain ⟨r, ok⟩ := X
    simp only at HX HO2
    have c0 := (H.out.blk 0 rfl).cell 1; simp only [List.getElem?_toArray, List.getElem?_cons_zero, List.getElem?_cons_succ] at c0; have f0 := (H.out.blk 0 rfl).frozen 1
    go_wp2_with fail
    refine (HX.out _).mono ?_; rintro e w2 ⟨rfl, rfl⟩
    cases ok with
    | true =>
      go_wp2_with (first | ((with_reducible show wpList _ _ _ (⟨some 28, _, _, _, _, _⟩ :: _) _ _); (replace H := Lib.hid (H.out.setCell 0 rfl 1 (.int .i64 r)); (try simp only [List.set_cons_zero, List.set_cons_succ, List.cons_append, List.nil_append, List.eraseIdx_cons_zero, List.eraseIdx_cons_succ, List.setIfInBounds_toArray, World.size_alloc, selR, List.getD_cons_zero, List.getD_cons_succ] at H); clear c0 f0; refine wpList_load_blk rfl rowTt (.tmp 2) rfl _ rfl (H.out.blk 0 rfl) rfl ?_)) | ((with_reducible show wpList _ _ _ (⟨_, .store _ (.tmp 4) _, _, _, _, _⟩ :: _) _ _); (refine wpList_store_blk rfl rowTt (.tmp 4) (.tmp 28) rfl _ rfl (H.out.blk 1 rfl) rfl (#[.int .i64 p, .int .i64 r]) rfl rfl (by simp [Value.oneCell']) ?_; intro wq bq hgq; replace H := Lib.hid (H.out.setBlk 1 rfl hgq bq); (try simp only [List.set_cons_zero, List.set_cons_succ, List.cons_append, List.nil_append, List.eraseIdx_cons_zero, List.eraseIdx_cons_succ, List.setIfInBounds_toArray, World.size_alloc, selR, List.getD_cons_zero, List.getD_cons_succ] at H); clear hgq bq)))
      refine bodyPost_ret (results_blk rfl rowTt rfl (H.out.blk 1 rfl) rfl) rfl ?_
      rw [← HO2.out]
      exact ⟨rfl, H.out.to⟩
    | false =>
      go_wp2_with ((with_reducible show wpList _ _ _ (⟨_, .store _ (.tmp 4) _, _, _, _, _⟩ :: _) _ _); (replace H := Lib.hid (H.out.setCell 0 rfl 1 (.int .i64 r)); (try simp only [List.set_cons_zero, List.set_cons_succ, List.cons_append, List.nil_append, List.eraseIdx_cons_zero, List.eraseIdx_cons_succ, List.setIfInBounds_toArray, World.size_alloc, selR, List.getD_cons_zero, List.getD_cons_succ] at H); clear c0 f0; refine wpList_store_blk rfl rowTt (.tmp 4) (.tmp 27) rfl _ rfl (H.out.blk 1 rfl) rfl (#[.int .i64 0, .int .i64 0]) rfl rfl (by simp [Value.oneCell']) ?_; intro wq bq hgq; replace H := Lib.hid (H.out.setBlk 1 rfl hgq bq); (try simp only [List.set_cons_zero, List.set_cons_succ, List.cons_append, List.nil_append, List.eraseIdx_cons_zero, List.eraseIdx_cons_succ, List.setIfInBounds_toArray, World.size_alloc, selR, List.getD_cons_zero, List.getD_cons_succ] at H); clear hgq bq))
      refine bodyPost_ret (results_blk rfl rowTt rfl (H.out.blk 1 rfl) rfl) rfl ?_
      rw [← HO2.out]
      exact ⟨rfl, H.out.to⟩
  · have HO2 : Hid ((if (xadd p v).2 then ((xadd p v).1, q) else (0, 0), (xadd p v).2) = egrow p q v) := by show _ = _; unfold egrow; rw [if_neg h]
    have HX := Lib.hid (fun w => add_any p v w hp hv)
    generalize (xadd p v) = X at *
    obtain ⟨r, ok⟩ := X
    simp only at HX HO2
    have c0 := (H.out.blk 0 rfl).cell 0; simp only [List.getElem?_toArray, List.getElem?_cons_zero, List.getElem?_cons_succ] at c0; have f0 := (H.out.blk 0 rfl).frozen 0
    go_wp2_with fail
    refine (HX.out _).mono ?_; rintro e w2 ⟨rfl, rfl⟩
    cases ok with
    | true =>
      go_wp2_with (first | ((with_reducible show wpList _ _ _ (⟨some 28, _, _, _, _, _⟩ :: _) _ _); (replace H := Lib.hid (H.out.setCell 0 rfl 0 (.int .i64 r)); (try simp only [List.set_cons_zero, List.set_cons_succ, List.cons_append, List.nil_append, List.eraseIdx_cons_zero, List.eraseIdx_cons_succ, List.setIfInBounds_toArray, World.size_alloc, selR, List.getD_cons_zero, List.getD_cons_succ] at H); clear c0 f0; refine wpList_load_blk rfl rowTt (.tmp 2) rfl _ rfl (H.out.blk 0 rfl) rfl ?_)) | ((with_reducible show wpList _ _ _ (⟨_, .store _ (.tmp 4) _, _, _, _, _⟩ :: _) _ _); (refine wpList_store_blk rfl rowTt (.tmp 4) (.tmp 28) rfl _ rfl (H.out.blk 1 rfl) rfl (#[.int .i64 r, .int .i64 q]) rfl rfl (by simp [Value.oneCell']) ?_; intro wq bq hgq; replace H := Lib.hid (H.out.setBlk 1 rfl hgq bq); (try simp only [List.set_cons_zero, List.set_cons_succ, List.cons_append, List.nil_append, List.eraseIdx_cons_zero, List.eraseIdx_cons_succ, List.setIfInBounds_toArray, World.size_alloc, selR, List.getD_cons_zero, List.getD_cons_succ] at H); clear hgq bq)))
      refine bodyPost_ret (results_blk rfl rowTt rfl (H.out.blk 1 rfl) rfl) rfl ?_
      rw [← HO2.out]
      exact ⟨rfl, H.out.to⟩
    | false =>
      go_wp2_with ((with_reducible show wpList _ _ _ (⟨_, .store _ (.tmp 4) _, _, _, _, _⟩ :: _) _ _); (replace H := Lib.hid (H.out.setCell 0 rfl 0 (.int .i64 r)); (try simp only [List.set_cons_zero, List.set_cons_succ, List.cons_append, List.nil_append, List.eraseIdx_cons_zero, List.eraseIdx_cons_succ, List.setIfInBounds_toArray, World.size_alloc, selR, List.getD_cons_zero, List.getD_cons_succ] at H); clear c0 f0; refine wpList_store_blk rfl rowTt (.tmp 4) (.tmp 27) rfl _ rfl (H.out.blk 1 rfl) rfl (#[.int .i64 0, .int .i64 0]) rfl rfl (by simp [Value.oneCell']) ?_; intro wq bq hgq; replace H := Lib.hid (H.out.setBlk 1 rfl hgq bq); (try simp only [List.set_cons_zero, List.set_cons_succ, List.cons_append, List.nil_append, List.eraseIdx_cons_zero, List.eraseIdx_cons_succ, List.setIfInBounds_toArray, World.size_alloc, selR, List.getD_cons_zero, List.getD_cons_succ] at H); clear hgq bq))
      refine bodyPost_ret (results_blk rfl rowTt rfl (H.out.blk 1 rfl) rfl) rfl ?_
      rw [← HO2.out]
      exact ⟨rfl, H.out.to⟩

end Go.Proofs.Ytigjghfonpfdlaa
