/- An arena's node; a step of a lookup. -/
import Derived.Test.YtjiphfobengdlaaAreE
namespace Go.Proofs.Ytjiphfobengdlaa
open Go.RowKit
set_option linter.unusedVariables false
set_option linter.unusedSimpArgs false


theorem rowPosA : RowTy Try.prog 110 2 := ⟨⟨_, Try.underlying110, rfl⟩, by kernel_rfl⟩
theorem rowAgA : RowTy Try.prog 40 10 := ⟨⟨_, Try.underlying40, rfl⟩, by kernel_rfl⟩
/-- A function's three results, the first a struct in memory. -/
theorem results_blk3 {P : Program} {fn : Func} {p u v : Tmp} {ty : TypeId} {n : Nat} (h : fn.results = #[.cell p ty, .tmp u, .tmp v]) (R : RowTy P ty n) {tmps : Array Value} {w : World} {g : Nat} {t : TypeId} {cs : Array Value}
    (hp : tmps.getD p undef = .pointer (some ⟨g, 0, none⟩)) (hb : Blk w g t cs) (hn : cs.size = n) :
    (results fn tmps).run P w = .ok (.tuple #[.agg cs, tmps.getD u undef, tmps.getD v undef]) w := by
  obtain ⟨d, hu, hd⟩ := R.hu
  have hp' : tmps[p]?.getD undef = .pointer (some ⟨g, 0, none⟩) := by simpa using hp
  have hl := run_loadVar_mid (P := P) w g 0 ty cs.toList d hb.range hu hd (by rw [R.hi]; simp [hn])
  simp [results, h, hp', asAddr, hl]
/-- A copy of a node. -/
def CopyOf (n : Nd) (w : World) (e : Ending) (w' : World) : Prop :=
  ∃ n2 : Nd, e = .returned (.tuple #[.agg n2.cs, .int .i64 0]) ∧ n2.con = n.con ∧ n2.ls.n = n.ls.n ∧ (∀ x ∈ n2.ls.l, x.n ≤ 1000000 ∧ ∀ c ∈ x.l, c.ok) ∧ SL No w w' [rRow 47 1 (.slice n2.ls.A n2.ls.n n2.ls.c) n2.ls.n (n2.ls.l.map Row.v), rListD rCs n2.ls.l]
set_option maxRecDepth 100000 in
set_option maxHeartbeats 1000000 in
theorem anode_at (b : Nat) (x : Arn) (k : Nat) (n : Nd) (w : World) (ok : x.ok) (hk : k < x.nd.n) (hkn : x.nd.l[k]? = some n) (hr : x.nd.rd w) (hb1 : n.ls.n ≤ 1000000) (hb2 : ∀ y ∈ n.ls.l, y.n ≤ 1000000)
    (hc0 : w.cell? ⟨b, 0, none⟩ = some (.slice x.sz.A x.sz.n x.sz.c)) (hc2 : w.cell? ⟨b, 2, none⟩ = some (.slice x.nd.A x.nd.n x.nd.c)) :
    Calls Try.prog 19 #[.pointer (some ⟨b, 0, none⟩), .int .i64 (k : Nat)] w (CopyOf n w) := by
  have HC0 : Hid (∀ w', Bel w w' → w'.cell? ⟨b, 0, none⟩ = some (.slice x.sz.A x.sz.n x.sz.c)) := fun w' hb => (hb.cell (p := ⟨b, 0, none⟩) (World.block_lt_of_cell? _ _ hc0)).trans hc0
  have HC2 : Hid (∀ w', Bel w w' → w'.cell? ⟨b, 2, none⟩ = some (.slice x.nd.A x.nd.n x.nd.c)) := fun w' hb => (hb.cell (p := ⟨b, 2, none⟩) (World.block_lt_of_cell? _ _ hc2)).trans hc2
  have HR := Lib.hid (fun w' (hb : Bel w w') => hr.mono hb)
  have HCN := Lib.hid (fun w' (hb : Bel w w') => nclone_any n w' ((hr.mono hb).all n (List.mem_of_getElem? hkn)) hb1 hb2)
  have HKN := Lib.hid hkn
  have hs1 := ok.s1
  have hnn := ok.nn
  have e0 : decide ((k : Int) < 0) = false := by simp <;> omega
  have e1 : decide ((x.nd.n : Int) ≤ (k : Int)) = false := by simp <;> omega
  have e1n : decide (x.nd.n ≤ k) = false := by simp <;> omega
  have k0 : (0 : Int) ≤ k := by omega
  have k1 : (k : Int) < x.nd.n := by omega
  have H := Lib.hid ((SL.start No w).alloc Nd.nil.cs 44)
  (try simp only [List.set_cons_zero, List.set_cons_succ, List.cons_append, List.nil_append, List.eraseIdx_cons_zero, List.eraseIdx_cons_succ, List.setIfInBounds_toArray, World.size_alloc, selR, List.getD_cons_zero, List.getD_cons_succ] at H)
  clear hr hc0 hc2 hkn hb1 hb2
  go_enter Try.func19, Try.ntmps19
  go_wp2_with fail
  refine (there_yes b x.sz.A x.sz.n x.sz.c _ hs1 (HC0.out _ H.out.to)).mono ?_; rintro e w1 ⟨rfl, hw1⟩
  replace H := Lib.hid (H.out.bel hw1); (try simp only [List.set_cons_zero, List.set_cons_succ, List.cons_append, List.nil_append, List.eraseIdx_cons_zero, List.eraseIdx_cons_succ, List.setIfInBounds_toArray, World.size_alloc, selR, List.getD_cons_zero, List.getD_cons_succ] at H)
  clear hw1
  generalize w.heap.size = y at *
  have c2 := HC2.out _ H.out.to
  obtain ⟨bl, ol, n', hAl, hbl, hnk, hnr, hrg⟩ := (HR.out _ H.out.to).ndAt (k := k) hk
  obtain rfl : n = n' := by rw [HKN.out] at hnk; injection hnk
  rw [hAl] at c2
  have HRG := Lib.hid hrg
  clear hrg hnk hnr hAl
  go_wp2_with ((with_reducible show wpList _ _ _ (⟨some 30, _, _, _, _, _⟩ :: _) _ _); (refine wpList_load_row_at rfl rowNd (.tmp 29) rfl bl (ol + k * 14) rfl n.cs rfl HRG.out ?_))
  refine (HCN.out _ H.out.to).mono ?_; rintro e w9 ⟨A, c, L, rfl, hNL, hNB, hNn, hN⟩
  replace H := Lib.hid (H.out.join hN); (try simp only [List.set_cons_zero, List.set_cons_succ, List.cons_append, List.nil_append, List.eraseIdx_cons_zero, List.eraseIdx_cons_succ, List.setIfInBounds_toArray, World.size_alloc, selR, List.getD_cons_zero, List.getD_cons_succ] at H)
  have HNL := Lib.hid hNL
  have HNB := Lib.hid hNB
  clear hN hNL hNB hNn c2 HRG hbl
  go_wp2_with ((with_reducible show wpList _ _ _ (⟨_, .store _ (.tmp 4) _, _, _, _, _⟩ :: _) _ _); (refine wpList_store_blk rfl rowNd (.tmp 4) (.tmp 31) rfl _ rfl (H.out.blk 0 rfl) rfl ((Nd.mk n.dim ⟨A, n.ls.n, c, L⟩ n.all).cs) rfl rfl (nd_one _) ?_; intro wq bq hgq; replace H := Lib.hid (H.out.setBlk 0 rfl hgq bq); (try simp only [List.set_cons_zero, List.set_cons_succ, List.cons_append, List.nil_append, List.eraseIdx_cons_zero, List.eraseIdx_cons_succ, List.setIfInBounds_toArray, World.size_alloc, selR, List.getD_cons_zero, List.getD_cons_succ] at H); clear hgq bq))
  refine bodyPost_ret (results_blk rfl rowNd rfl (H.out.blk 0 rfl) rfl) rfl ?_
  replace H := Lib.hid (H.out.sel [1, 2] (by decide) (by simp)); (try simp only [List.set_cons_zero, List.set_cons_succ, List.cons_append, List.nil_append, List.eraseIdx_cons_zero, List.eraseIdx_cons_succ, List.setIfInBounds_toArray, World.size_alloc, selR, List.getD_cons_zero, List.getD_cons_succ] at H)
  exact ⟨(Nd.mk n.dim ⟨A, n.ls.n, c, L⟩ n.all), rfl, by show NC.mk _ _ _ = _; rw [HNL.out], rfl, HNB.out, H.out⟩
set_option maxRecDepth 100000 in
set_option maxHeartbeats 1000000 in
theorem nfind_all (n : Nd) (w : World) (hn : 1 ≤ n.ls.n) (hb : n.ls.n ≤ 1000000) :
    Calls Try.prog 100 #[.agg n.cs, .agg #[.int .i64 (-1), .int .i64 0]] w fun e w' => e = .returned (.tuple #[.agg n.all.cs, .bool true]) ∧ Bel w w' := by
  have H := Lib.hid ((((SL.start No w).alloc n.cs 44).alloc #[.int .i64 (-1), .int .i64 0] 110).alloc #[.int .i64 0, .int .i64 0, .int .i64 0, .int .i64 0, .int .i64 0, .int .i64 0, .int .i64 0, .int .i64 0, .int .i64 0, .int .i64 0, .int .i64 0, .int .i64 0] 42)
  (try simp only [List.set_cons_zero, List.set_cons_succ, List.cons_append, List.nil_append, List.eraseIdx_cons_zero, List.eraseIdx_cons_succ, List.setIfInBounds_toArray, World.size_alloc, selR, List.getD_cons_zero, List.getD_cons_succ] at H)
  go_enter Try.func100, Try.ntmps100
  go_upto_region 1 with fail
  generalize w.heap.size + 1 + 1 = z at *
  generalize w.heap.size + 1 = y at *
  generalize w.heap.size = x at *
  generalize World.alloc (World.alloc _ _) _ = w1 at *
  have cl : w1.cell? ⟨x, 1, none⟩ = some (.slice n.ls.A n.ls.n n.ls.c) := (H.out.blk 0 rfl).cell 1
  have cp : w1.cell? ⟨y, 0, none⟩ = some (.int .i64 (-1)) := (H.out.blk 1 rfl).cell 0
  have z0 : ((n.ls.n : Int) == 0) = false := by simp; omega
  have z0n : (n.ls.n == 0) = false := by simp; omega
  have d1 : decide ((n.ls.n : Int) ≤ -1) = false := by simp <;> omega
  have HAL : Hid (w1.rangeAt x 2 n.all.cs.toList) := fun j v hv => by
    have := (H.out.blk 0 rfl).range (j + 2) v (by rw [nd_all]; exact hv)
    rw [show 0 + (j + 2) = 2 + j by omega] at this
    exact this
  go_wp2_with (first | ((with_reducible show wpList _ _ _ (⟨some 26, _, _, _, _, _⟩ :: _) _ _); (refine wpList_load_row_at rfl rowCl (.tmp 25) rfl x (2) rfl n.all.cs rfl HAL.out ?_)) | ((with_reducible show wpList _ _ _ (⟨_, .store _ (.tmp 4) _, _, _, _, _⟩ :: _) _ _); (refine wpList_store_blk rfl rowCl (.tmp 4) (.tmp 26) rfl _ rfl (H.out.blk 2 rfl) rfl (n.all.cs) rfl rfl (cl_one n.all) ?_; intro wq bq hgq; replace H := Lib.hid (H.out.setBlk 2 rfl hgq bq); (try simp only [List.set_cons_zero, List.set_cons_succ, List.cons_append, List.nil_append, List.eraseIdx_cons_zero, List.eraseIdx_cons_succ, List.setIfInBounds_toArray, World.size_alloc, selR, List.getD_cons_zero, List.getD_cons_succ] at H); clear hgq bq)))
  refine bodyPost_ret (results_blk rfl rowCl rfl (H.out.blk 2 rfl) rfl) rfl ?_
  exact ⟨rfl, H.out.to⟩
set_option maxRecDepth 100000 in
set_option maxHeartbeats 2000000 in
theorem step_top (b : Nat) (n : Nd) (w : World) (hd : n.dim = 0) (h1 : 1 ≤ n.ls.n) (hbn : n.ls.n ≤ 1000000) (hnode : ∀ w', Bel w w' → Calls Try.prog 19 #[.pointer (some ⟨b, 0, none⟩), .int .i64 0] w' (CopyOf n w')) :
    Calls Try.prog 67 #[.func (.func 19) #[.pointer (some ⟨b, 0, none⟩)] #[], .int .i64 0, .int .i64 0, .agg #[.int .i64 (-1), .int .i64 0]] w fun e w' => e = .returned (.tuple #[.agg n.all.cs, .int .i64 0]) ∧ Bel w w' := by
  have HN := Lib.hid hnode
  have H := Lib.hid (((SL.start No w).alloc #[.int .i64 (-1), .int .i64 0] 110).alloc #[.int .i64 0, .int .i64 0, .int .i64 0, .int .i64 0, .int .i64 0, .int .i64 0, .int .i64 0, .int .i64 0, .int .i64 0, .int .i64 0, .int .i64 0, .int .i64 0] 42)
  (try simp only [List.set_cons_zero, List.set_cons_succ, List.cons_append, List.nil_append, List.eraseIdx_cons_zero, List.eraseIdx_cons_succ, List.setIfInBounds_toArray, World.size_alloc, selR, List.getD_cons_zero, List.getD_cons_succ] at H)
  clear hnode
  go_enter Try.func67, Try.ntmps67
  go_wp2_with fail
  refine (HN.out _ H.out.to).mono ?_; rintro e w1 ⟨n2, rfl, hcon, hln, _, hw1⟩
  replace H := Lib.hid (H.out.bel hw1.to); (try simp only [List.set_cons_zero, List.set_cons_succ, List.cons_append, List.nil_append, List.eraseIdx_cons_zero, List.eraseIdx_cons_succ, List.setIfInBounds_toArray, World.size_alloc, selR, List.getD_cons_zero, List.getD_cons_succ] at H)
  generalize w.heap.size + 1 = y at *
  generalize w.heap.size = x at *
  have hd2 : n2.dim = 0 := by have h := congrArg NC.dim hcon; simp only at h; rw [h]; exact hd
  have HAL2 := Lib.hid (show n2.all = n.all by have h := congrArg NC.all hcon; simpa using h)
  have HCS2 : Hid (n2.cs = n2.cs) := rfl
  clear hw1 hcon HN
  go_upto_region 4 with ((with_reducible show wpList _ _ _ (⟨_, .store _ (.tmp 10) _, _, _, _, _⟩ :: _) _ _); (refine wpList_store_new rfl rowNd (.tmp 10) (.tmp 18) rfl rfl rfl (n2.cs) rfl rfl (nd_one n2) ?_; replace H := Lib.hid (H.out.alloc (n2.cs) 44); (try simp only [List.set_cons_zero, List.set_cons_succ, List.cons_append, List.nil_append, List.eraseIdx_cons_zero, List.eraseIdx_cons_succ, List.setIfInBounds_toArray, World.size_alloc, selR, List.getD_cons_zero, List.getD_cons_succ] at H)))
  (try simp only [Act.put, List.setIfInBounds_toArray, List.set_cons_zero, List.set_cons_succ])
  generalize w1.heap.size = z at *
  generalize World.alloc w1 _ = w2 at *
  have cd : w2.cell? ⟨z, 0, none⟩ = some (.int .i64 0) := by have h := (H.out.blk 2 rfl).cell 0; simp only [List.getElem?_toArray, List.getElem?_cons_zero] at h; rw [h, hd2]
  have cl : w2.cell? ⟨z, 1, none⟩ = some (.slice n2.ls.A n2.ls.n n2.ls.c) := (H.out.blk 2 rfl).cell 1
  have cp : w2.cell? ⟨x, 0, none⟩ = some (.int .i64 (-1)) := (H.out.blk 0 rfl).cell 0
  have d1 : decide ((n2.ls.n : Int) ≤ -1) = false := by simp <;> omega
  go_wp2_with (first | ((with_reducible show wpList _ _ _ (⟨some 38, _, _, _, _, _⟩ :: _) _ _); (refine wpList_load_blk rfl rowNd (.tmp 10) rfl _ rfl (H.out.blk 2 rfl) rfl ?_)) | ((with_reducible show wpList _ _ _ (⟨some 39, _, _, _, _, _⟩ :: _) _ _); (refine wpList_load_blk rfl rowPosA (.tmp 7) rfl _ rfl (H.out.blk 0 rfl) rfl ?_)))
  refine (nfind_all n2 _ (by omega) (by omega)).mono ?_; rintro e w3 ⟨rfl, hw3⟩
  replace H := Lib.hid (H.out.bel hw3); (try simp only [List.set_cons_zero, List.set_cons_succ, List.cons_append, List.nil_append, List.eraseIdx_cons_zero, List.eraseIdx_cons_succ, List.setIfInBounds_toArray, World.size_alloc, selR, List.getD_cons_zero, List.getD_cons_succ] at H)
  clear hw3 cd cl cp d1
  rw [HAL2.out]
  go_upto_region 9 with ((with_reducible show wpList _ _ _ (⟨_, .store _ (.tmp 12) _, _, _, _, _⟩ :: _) _ _); (refine wpList_store_new rfl rowCl (.tmp 12) (.tmp 41) rfl rfl rfl (n.all.cs) rfl rfl (cl_one n.all) ?_; replace H := Lib.hid (H.out.alloc (n.all.cs) 42); (try simp only [List.set_cons_zero, List.set_cons_succ, List.cons_append, List.nil_append, List.eraseIdx_cons_zero, List.eraseIdx_cons_succ, List.setIfInBounds_toArray, World.size_alloc, selR, List.getD_cons_zero, List.getD_cons_succ] at H)))
  (try simp only [Act.put, List.setIfInBounds_toArray, List.set_cons_zero, List.set_cons_succ])
  generalize w3.heap.size = u at *
  generalize World.alloc w3 _ = w4 at *
  go_wp2_with (first | ((with_reducible show wpList _ _ _ (⟨some 46, _, _, _, _, _⟩ :: _) _ _); (refine wpList_load_blk rfl rowCl (.tmp 12) rfl _ rfl (H.out.blk 3 rfl) rfl ?_)) | ((with_reducible show wpList _ _ _ (⟨_, .store _ (.tmp 8) _, _, _, _, _⟩ :: _) _ _); (refine wpList_store_blk rfl rowCl (.tmp 8) (.tmp 46) rfl _ rfl (H.out.blk 1 rfl) rfl (n.all.cs) rfl rfl (cl_one n.all) ?_; intro wq bq hgq; replace H := Lib.hid (H.out.setBlk 1 rfl hgq bq); (try simp only [List.set_cons_zero, List.set_cons_succ, List.cons_append, List.nil_append, List.eraseIdx_cons_zero, List.eraseIdx_cons_succ, List.setIfInBounds_toArray, World.size_alloc, selR, List.getD_cons_zero, List.getD_cons_succ] at H); clear hgq bq)))
  refine bodyPost_ret (results_blk rfl rowCl rfl (H.out.blk 1 rfl) rfl) rfl ?_
  exact ⟨rfl, H.out.to⟩

end Go.Proofs.Ytjiphfobengdlaa
