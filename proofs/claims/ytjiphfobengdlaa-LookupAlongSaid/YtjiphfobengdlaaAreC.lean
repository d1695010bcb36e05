/- Arenas that no call made; the chapter's example (law 25). -/
import Derived.Test.YtjiphfobengdlaaAreB
namespace Go.Proofs.Ytjiphfobengdlaa
open Go.RowKit
set_option linter.unusedVariables false
set_option linter.unusedSimpArgs false


theorem rowArn : RowTy Try.prog 62 4 := ⟨⟨_, Try.underlying62, rfl⟩, by kernel_rfl⟩
/-- No arena that a call made. -/
def NoA (w : World) (v : Value) : Prop := v = .pointer none ∨ ∃ b, v = .pointer (some ⟨b, 0, none⟩) ∧ w.cell? ⟨b, 0, none⟩ = some (.slice none 0 0)
theorem NoA.mono {w w' : World} {v : Value} (h : NoA w v) (hb : Bel w w') : NoA w' v := by
  rcases h with h | ⟨b, h, hc⟩
  · exact .inl h
  · exact .inr ⟨b, h, (hb.cell (p := ⟨b, 0, none⟩) (World.block_lt_of_cell? _ _ hc)).trans hc⟩
set_option maxRecDepth 100000 in
theorem there_no (v : Value) (w : World) (h : NoA w v) : Calls Try.prog 59 #[v] w fun e w' => e = .returned (.bool false) ∧ Bel w w' := by
  rcases h with rfl | ⟨b, rfl, hc⟩
  · go_enter Try.func59, Try.ntmps59
    go_wp2
    go_ret
    exact ⟨rfl, Bel.refl _⟩
  · go_enter Try.func59, Try.ntmps59
    go_wp2
    go_ret
    exact ⟨rfl, Bel.refl _⟩
set_option maxRecDepth 100000 in
theorem there_yes (b : Nat) (A : Option Addr) (n c : Nat) (w : World) (hn : 0 < n) (hc : w.cell? ⟨b, 0, none⟩ = some (.slice A n c)) : Calls Try.prog 59 #[.pointer (some ⟨b, 0, none⟩)] w fun e w' => e = .returned (.bool true) ∧ Bel w w' := by
  have d1 : decide ((0 : Int) < (n : Int)) = true := by simp <;> omega
  have d1n : decide (0 < n) = true := by simp <;> omega
  go_enter Try.func59, Try.ntmps59
  go_wp2
  go_ret
  exact ⟨rfl, Bel.refl _⟩
set_option maxRecDepth 100000 in
theorem alen_no (v : Value) (w : World) (h : NoA w v) : Calls Try.prog 18 #[v] w fun e w' => e = .returned (.int .i64 0) ∧ Bel w w' := by
  have H := Lib.hid (SL.start No w)
  go_enter Try.func18, Try.ntmps18
  go_wp2_with fail
  refine (there_no _ _ h).mono ?_; rintro e w1 ⟨rfl, hb1⟩
  replace H := Lib.hid (H.out.bel hb1); (try simp only [List.set_cons_zero, List.set_cons_succ, List.cons_append, List.nil_append, List.eraseIdx_cons_zero, List.eraseIdx_cons_succ, List.setIfInBounds_toArray, World.size_alloc, selR, List.getD_cons_zero, List.getD_cons_succ] at H)
  go_wp2
  go_ret
  exact ⟨rfl, H.out.to⟩
set_option maxRecDepth 100000 in
theorem awhole_no (v : Value) (w : World) (h : NoA w v) : Calls Try.prog 32 #[v] w fun e w' => e = .returned (.bool false) ∧ Bel w w' := by
  have H := Lib.hid (SL.start No w)
  go_enter Try.func32, Try.ntmps32
  go_wp2_with fail
  refine (there_no _ _ h).mono ?_; rintro e w1 ⟨rfl, hb1⟩
  replace H := Lib.hid (H.out.bel hb1); (try simp only [List.set_cons_zero, List.set_cons_succ, List.cons_append, List.nil_append, List.eraseIdx_cons_zero, List.eraseIdx_cons_succ, List.setIfInBounds_toArray, World.size_alloc, selR, List.getD_cons_zero, List.getD_cons_succ] at H)
  go_wp2
  go_ret
  exact ⟨rfl, H.out.to⟩
set_option maxRecDepth 100000 in
theorem anodes_no (v : Value) (w : World) (h : NoA w v) : Calls Try.prog 31 #[v] w fun e w' => e = .returned (.slice none 0 0) ∧ Bel w w' := by
  have H := Lib.hid (SL.start No w)
  go_enter Try.func31, Try.ntmps31
  go_wp2_with fail
  refine (there_no _ _ h).mono ?_; rintro e w1 ⟨rfl, hb1⟩
  replace H := Lib.hid (H.out.bel hb1); (try simp only [List.set_cons_zero, List.set_cons_succ, List.cons_append, List.nil_append, List.eraseIdx_cons_zero, List.eraseIdx_cons_succ, List.setIfInBounds_toArray, World.size_alloc, selR, List.getD_cons_zero, List.getD_cons_succ] at H)
  go_wp2
  go_ret
  exact ⟨rfl, H.out.to⟩
set_option maxRecDepth 100000 in
theorem atop_no (v : Value) (w : World) (h : NoA w v) : Calls Try.prog 28 #[v] w fun e w' => e = .returned (.int .i64 (-1)) ∧ Bel w w' := by
  go_enter Try.func28, Try.ntmps28
  go_wp2_with fail
  refine (alen_no _ _ h).mono ?_; rintro e w1 ⟨rfl, hb1⟩
  go_wp2
  go_ret
  exact ⟨rfl, hb1⟩
set_option maxRecDepth 100000 in
theorem ashape_no (v : Value) (w : World) (h : NoA w v) : Calls Try.prog 25 #[v] w fun e w' => e = .returned (.agg #[.slice none 0 0, .int .i64 0]) ∧ Bel w w' := by
  have H := Lib.hid ((SL.start No w).alloc #[.slice none 0 0, .int .i64 0] 24)
  (try simp only [List.set_cons_zero, List.set_cons_succ, List.cons_append, List.nil_append, List.eraseIdx_cons_zero, List.eraseIdx_cons_succ, List.setIfInBounds_toArray, World.size_alloc, selR, List.getD_cons_zero, List.getD_cons_succ] at H)
  go_enter Try.func25, Try.ntmps25
  go_wp2_with fail
  refine (there_no _ _ (h.mono H.out.to)).mono ?_; rintro e w1 ⟨rfl, hb1⟩
  replace H := Lib.hid (H.out.bel hb1); (try simp only [List.set_cons_zero, List.set_cons_succ, List.cons_append, List.nil_append, List.eraseIdx_cons_zero, List.eraseIdx_cons_succ, List.setIfInBounds_toArray, World.size_alloc, selR, List.getD_cons_zero, List.getD_cons_succ] at H)
  clear hb1
  generalize w.heap.size = x at *
  go_wp2_with ((with_reducible show wpList _ _ _ (⟨_, .store _ (.tmp 2) _, _, _, _, _⟩ :: _) _ _); (refine wpList_store_blk rfl rowShp2 (.tmp 2) (.tmp 9) rfl _ rfl (H.out.blk 0 rfl) rfl (#[.slice none 0 0, .int .i64 0]) rfl rfl (by simp [Value.oneCell']) ?_; intro wq bq hgq; replace H := Lib.hid (H.out.setBlk 0 rfl hgq bq); (try simp only [List.set_cons_zero, List.set_cons_succ, List.cons_append, List.nil_append, List.eraseIdx_cons_zero, List.eraseIdx_cons_succ, List.setIfInBounds_toArray, World.size_alloc, selR, List.getD_cons_zero, List.getD_cons_succ] at H); clear hgq bq))
  refine bodyPost_ret (results_blk1 rfl rowShp2 rfl (H.out.blk 0 rfl) rfl) rfl ?_
  exact ⟨rfl, H.out.to⟩
set_option maxRecDepth 100000 in
theorem anode_no (v : Value) (i : Int) (w : World) (h : NoA w v) : Calls Try.prog 19 #[v, .int .i64 i] w fun e w' => e = .returned (.tuple #[.agg Nd.nil.cs, .int .i64 1]) ∧ Bel w w' := by
  have H := Lib.hid ((SL.start No w).alloc Nd.nil.cs 44)
  (try simp only [List.set_cons_zero, List.set_cons_succ, List.cons_append, List.nil_append, List.eraseIdx_cons_zero, List.eraseIdx_cons_succ, List.setIfInBounds_toArray, World.size_alloc, selR, List.getD_cons_zero, List.getD_cons_succ] at H)
  go_enter Try.func19, Try.ntmps19
  go_wp2_with fail
  refine (there_no _ _ (h.mono H.out.to)).mono ?_; rintro e w1 ⟨rfl, hb1⟩
  replace H := Lib.hid (H.out.bel hb1); (try simp only [List.set_cons_zero, List.set_cons_succ, List.cons_append, List.nil_append, List.eraseIdx_cons_zero, List.eraseIdx_cons_succ, List.setIfInBounds_toArray, World.size_alloc, selR, List.getD_cons_zero, List.getD_cons_succ] at H)
  clear hb1
  generalize w.heap.size = x at *
  go_wp2_with ((with_reducible show wpList _ _ _ (⟨_, .store _ (.tmp 4) _, _, _, _, _⟩ :: _) _ _); (refine wpList_store_blk rfl rowNd (.tmp 4) (.tmp 10) rfl _ rfl (H.out.blk 0 rfl) rfl (Nd.nil.cs) rfl rfl (nd_one _) ?_; intro wq bq hgq; replace H := Lib.hid (H.out.setBlk 0 rfl hgq bq); (try simp only [List.set_cons_zero, List.set_cons_succ, List.cons_append, List.nil_append, List.eraseIdx_cons_zero, List.eraseIdx_cons_succ, List.setIfInBounds_toArray, World.size_alloc, selR, List.getD_cons_zero, List.getD_cons_succ] at H); clear hgq bq))
  refine bodyPost_ret (results_blk rfl rowNd rfl (H.out.blk 0 rfl) rfl) rfl ?_
  exact ⟨rfl, H.out.to⟩
set_option maxRecDepth 100000 in
theorem aadd_no (v : Value) (n : Nd) (w : World) (h : NoA w v) : Calls Try.prog 26 #[v, .agg n.cs] w fun e w' => e = .returned (.tuple #[.int .i64 0, .int .i64 1]) ∧ Bel w w' := by
  have H := Lib.hid ((SL.start No w).alloc n.cs 44)
  (try simp only [List.set_cons_zero, List.set_cons_succ, List.cons_append, List.nil_append, List.eraseIdx_cons_zero, List.eraseIdx_cons_succ, List.setIfInBounds_toArray, World.size_alloc, selR, List.getD_cons_zero, List.getD_cons_succ] at H)
  have hcs : n.cs = Nd.cs n := rfl
  go_enter Try.func26, Try.ntmps26
  go_wp2_with fail
  refine (there_no _ _ (h.mono H.out.to)).mono ?_; rintro e w1 ⟨rfl, hb1⟩
  replace H := Lib.hid (H.out.bel hb1); (try simp only [List.set_cons_zero, List.set_cons_succ, List.cons_append, List.nil_append, List.eraseIdx_cons_zero, List.eraseIdx_cons_succ, List.setIfInBounds_toArray, World.size_alloc, selR, List.getD_cons_zero, List.getD_cons_succ] at H)
  clear hb1
  go_wp2
  refine bodyPost_ret (v := .tuple #[.int .i64 0, .int .i64 1]) (by kernel_rfl) rfl ?_
  exact ⟨rfl, H.out.to⟩
/-- The shape of the chapters' examples: one tier of one member, one measure. -/
abbrev exShp (a b : Nat) : Shp := ⟨⟨some ⟨b, 0, none⟩, 1, 1, [⟨some ⟨a, 0, none⟩, 1, 1, [1]⟩]⟩, 1⟩
theorem ex_shp {S : Nat → Prop} {w0 w : World} {l : List Res} (H : SL S w0 w l) {a b : Nat} (i j : Nat) (hi : l[i]? = some (rBlk a 3 #[.int .i64 1])) (hj : l[j]? = some (rBlk b 26 #[.slice (some ⟨a, 0, none⟩) 1 1])) : (exShp a b).rd w := by
  refine ⟨⟨reads_of_block (H.blk j hj) rfl, fun y hy => ?_, by show (1 : Nat) ≤ _; omega⟩, by unfold I64; simp only; omega⟩
  simp only [List.mem_singleton] at hy
  subst hy
  exact ⟨reads_of_block (H.blk i hi) rfl, fun z hz => by simp only [List.mem_singleton] at hz; subst hz; show I64 1; unfold I64; omega, Nat.le_refl _, by show (1 : Nat) ≤ _; unfold maxLen; omega, by show 1 * 8 ≤ _; omega⟩
set_option maxRecDepth 100000 in
theorem awhole_empty (b : Nat) (A : Option Addr) (n c : Nat) (w : World) (hn : 0 < n) (hc : w.cell? ⟨b, 0, none⟩ = some (.slice A n c)) (hd : w.cell? ⟨b, 2, none⟩ = some (.slice none 0 0)) : Calls Try.prog 32 #[.pointer (some ⟨b, 0, none⟩)] w fun e w' => e = .returned (.bool true) ∧ Bel w w' := by
  go_enter Try.func32, Try.ntmps32
  go_wp2_with fail
  refine (there_yes b A n c w hn hc).mono ?_; rintro e w1 ⟨rfl, hb1⟩
  have hd1 : w1.cell? ⟨b, 2, none⟩ = some (.slice none 0 0) := (hb1.cell (p := ⟨b, 2, none⟩) (World.block_lt_of_cell? _ _ hd)).trans hd
  go_wp2
  go_ret
  exact ⟨rfl, hb1⟩
set_option maxRecDepth 100000 in
theorem alen_any (b : Nat) (A D : Option Addr) (n c m d : Nat) (w : World) (hn : 0 < n) (hc : w.cell? ⟨b, 0, none⟩ = some (.slice A n c)) (hd : w.cell? ⟨b, 2, none⟩ = some (.slice D m d)) : Calls Try.prog 18 #[.pointer (some ⟨b, 0, none⟩)] w fun e w' => e = .returned (.int .i64 m) ∧ Bel w w' := by
  go_enter Try.func18, Try.ntmps18
  go_wp2_with fail
  refine (there_yes b A n c w hn hc).mono ?_; rintro e w1 ⟨rfl, hb1⟩
  have hd1 : w1.cell? ⟨b, 2, none⟩ = some (.slice D m d) := (hb1.cell (p := ⟨b, 2, none⟩) (World.block_lt_of_cell? _ _ hd)).trans hd
  go_wp2
  go_ret
  exact ⟨rfl, hb1⟩
set_option maxRecDepth 100000 in
theorem atop_any (b : Nat) (A D : Option Addr) (n c m d : Nat) (w : World) (hn : 0 < n) (hm : m ≤ 1000000) (hc : w.cell? ⟨b, 0, none⟩ = some (.slice A n c)) (hd : w.cell? ⟨b, 2, none⟩ = some (.slice D m d)) : Calls Try.prog 28 #[.pointer (some ⟨b, 0, none⟩)] w fun e w' => e = .returned (.int .i64 (m - 1)) ∧ Bel w w' := by
  go_enter Try.func28, Try.ntmps28
  go_wp2_with fail
  refine (alen_any b A D n c m d w hn hc hd).mono ?_; rintro e w1 ⟨rfl, hb1⟩
  go_wp2
  go_ret
  exact ⟨rfl, hb1⟩
theorem exShape : shapeOk [[1]] 1 = true := by decide
set_option maxRecDepth 100000 in
set_option maxHeartbeats 1000000 in
theorem awake25_any (w : World) : Calls Try.prog 16 #[] w fun e w' => e = .returned (.bool true) ∧ Bel w w' := by
  have H := Lib.hid (((SL.start No w).alloc #[.int .i64 1] 3).alloc #[.slice (some ⟨w.heap.size, 0, none⟩) 1 1] 26)
  (try simp only [List.set_cons_zero, List.set_cons_succ, List.cons_append, List.nil_append, List.eraseIdx_cons_zero, List.eraseIdx_cons_succ, List.setIfInBounds_toArray, World.size_alloc, selR, List.getD_cons_zero, List.getD_cons_succ] at H)
  go_enter Try.func16, Try.ntmps16
  go_wp2_with fail
  generalize w.heap.size + 1 = y at *
  generalize w.heap.size = x at *
  generalize World.alloc _ _ = w1 at *
  have HR := ex_shp H.out 0 1 rfl rfl
  have HN := Lib.hid (anew_any (exShp x y) 9 w1 HR (by unfold I64; omega))
  refine HN.out.mono ?_; intro e w2 h
  unfold NewPost at h
  rw [if_pos ⟨exShape, by omega, by omega⟩] at h
  obtain ⟨b, A, c, L, rfl, _, _, h⟩ := h
  replace H := Lib.hid (H.out.bel h.to)
  clear HN HR
  have hc : w2.cell? ⟨b, 0, none⟩ = some (.slice A 1 c) := (h.blk 0 rfl).cell 0
  have hd : w2.cell? ⟨b, 2, none⟩ = some (.slice none 0 0) := (h.blk 0 rfl).cell 2
  have HC := Lib.hid (fun w' (hb : Bel w2 w') => (hb.cell (p := ⟨b, 0, none⟩) (World.block_lt_of_cell? _ _ hc)).trans hc)
  have HD := Lib.hid (fun w' (hb : Bel w2 w') => (hb.cell (p := ⟨b, 2, none⟩) (World.block_lt_of_cell? _ _ hd)).trans hd)
  clear hc hd h
  have HB : Hid (Bel w2 w2) := Bel.refl _
  go_wp2_with fail
  refine (awhole_empty b A 1 c w2 (by omega) (HC.out _ HB.out) (HD.out _ HB.out)).mono ?_; rintro e w3 ⟨rfl, hb3⟩
  replace HB := Lib.hid (HB.out.trans hb3)
  clear hb3
  go_wp2_with fail
  refine (alen_any b A none 1 c 0 0 w3 (by omega) (HC.out _ HB.out) (HD.out _ HB.out)).mono ?_; rintro e w4 ⟨rfl, hb4⟩
  replace HB := Lib.hid (HB.out.trans hb4)
  clear hb4
  go_wp2_with fail
  refine (atop_any b A none 1 c 0 0 w4 (by omega) (by omega) (HC.out _ HB.out) (HD.out _ HB.out)).mono ?_; rintro e w5 ⟨rfl, hb5⟩
  replace HB := Lib.hid (HB.out.trans hb5)
  clear hb5
  go_wp2_with fail
  go_ret
  exact ⟨rfl, H.out.to.trans HB.out⟩

end Go.Proofs.Ytjiphfobengdlaa
