/- Arenas that no call made; the chapter's example (law 25). -/
import Derived.Test.YtlclllkjnhgbjaaAreB
namespace Go.Proofs.Ytlclllkjnhgbjaa
open Go.RowKit
set_option linter.unusedVariables false
set_option linter.unusedSimpArgs false


theorem rowArn : RowTy Try.prog 117 4 := ⟨⟨_, Try.underlying117, rfl⟩, by kernel_rfl⟩
/-- No arena that a call made. -/
def NoA (w : World) (v : Value) : Prop := v = .pointer none ∨ ∃ b, v = .pointer (some ⟨b, 0, none⟩) ∧ w.cell? ⟨b, 0, none⟩ = some (.slice none 0 0)
theorem NoA.mono {w w' : World} {v : Value} (h : NoA w v) (hb : Bel w w') : NoA w' v := by
  rcases h with h | ⟨b, h, hc⟩
  · exact .inl h
  · exact .inr ⟨b, h, (hb.cell (p := ⟨b, 0, none⟩) (World.block_lt_of_cell? _ _ hc)).trans hc⟩
set_option maxRecDepth 100000 in
theorem there_no (v : Value) (w : World) (h : NoA w v) : Calls Try.prog 62 #[v] w fun e w' => e = .returned (.bool false) ∧ Bel w w' := by
  rcases h with rfl | ⟨b, rfl, hc⟩
  · go_enter Try.func62, Try.ntmps62
    go_wp2
    go_ret
    exact ⟨rfl, Bel.refl _⟩
  · go_enter Try.func62, Try.ntmps62
    go_wp2
    go_ret
    exact ⟨rfl, Bel.refl _⟩
set_option maxRecDepth 100000 in
theorem there_yes (b : Nat) (A : Option Addr) (n c : Nat) (w : World) (hn : 0 < n) (hc : w.cell? ⟨b, 0, none⟩ = some (.slice A n c)) : Calls Try.prog 62 #[.pointer (some ⟨b, 0, none⟩)] w fun e w' => e = .returned (.bool true) ∧ Bel w w' := by
  have d1 : decide ((0 : Int) < (n : Int)) = true := by simp <;> omega
  have d1n : decide (0 < n) = true := by simp <;> omega
  go_enter Try.func62, Try.ntmps62
  go_wp2
  go_ret
  exact ⟨rfl, Bel.refl _⟩
set_option maxRecDepth 100000 in
theorem alen_no (v : Value) (w : World) (h : NoA w v) : Calls Try.prog 106 #[v] w fun e w' => e = .returned (.int .i64 0) ∧ Bel w w' := by
  have H := Lib.hid (SL.start No w)
  go_enter Try.func106, Try.ntmps106
  go_wp2_with fail
  refine (there_no _ _ h).mono ?_; rintro e w1 ⟨rfl, hb1⟩
  replace H := Lib.hid (H.out.bel hb1); (try simp only [List.set_cons_zero, List.set_cons_succ, List.cons_append, List.nil_append, List.eraseIdx_cons_zero, List.eraseIdx_cons_succ, List.setIfInBounds_toArray, World.size_alloc, selR, List.getD_cons_zero, List.getD_cons_succ] at H)
  go_wp2
  go_ret
  exact ⟨rfl, H.out.to⟩
set_option maxRecDepth 100000 in
theorem awhole_no (v : Value) (w : World) (h : NoA w v) : Calls Try.prog 53 #[v] w fun e w' => e = .returned (.bool false) ∧ Bel w w' := by
  have H := Lib.hid (SL.start No w)
  go_enter Try.func53, Try.ntmps53
  go_wp2_with fail
  refine (there_no _ _ h).mono ?_; rintro e w1 ⟨rfl, hb1⟩
  replace H := Lib.hid (H.out.bel hb1); (try simp only [List.set_cons_zero, List.set_cons_succ, List.cons_append, List.nil_append, List.eraseIdx_cons_zero, List.eraseIdx_cons_succ, List.setIfInBounds_toArray, World.size_alloc, selR, List.getD_cons_zero, List.getD_cons_succ] at H)
  go_wp2
  go_ret
  exact ⟨rfl, H.out.to⟩
set_option maxRecDepth 100000 in
theorem anodes_no (v : Value) (w : World) (h : NoA w v) : Calls Try.prog 32 #[v] w fun e w' => e = .returned (.slice none 0 0) ∧ Bel w w' := by
  have H := Lib.hid (SL.start No w)
  go_enter Try.func32, Try.ntmps32
  go_wp2_with fail
  refine (there_no _ _ h).mono ?_; rintro e w1 ⟨rfl, hb1⟩
  replace H := Lib.hid (H.out.bel hb1); (try simp only [List.set_cons_zero, List.set_cons_succ, List.cons_append, List.nil_append, List.eraseIdx_cons_zero, List.eraseIdx_cons_succ, List.setIfInBounds_toArray, World.size_alloc, selR, List.getD_cons_zero, List.getD_cons_succ] at H)
  go_wp2
  go_ret
  exact ⟨rfl, H.out.to⟩
set_option maxRecDepth 100000 in
theorem atop_no (v : Value) (w : World) (h : NoA w v) : Calls Try.prog 90 #[v] w fun e w' => e = .returned (.int .i64 (-1)) ∧ Bel w w' := by
  go_enter Try.func90, Try.ntmps90
  go_wp2_with fail
  refine (alen_no _ _ h).mono ?_; rintro e w1 ⟨rfl, hb1⟩
  go_wp2
  go_ret
  exact ⟨rfl, hb1⟩
set_option maxRecDepth 100000 in
theorem ashape_no (v : Value) (w : World) (h : NoA w v) : Calls Try.prog 52 #[v] w fun e w' => e = .returned (.agg #[.slice none 0 0, .int .i64 0]) ∧ Bel w w' := by
  have H := Lib.hid ((SL.start No w).alloc #[.slice none 0 0, .int .i64 0] 24)
  (try simp only [List.set_cons_zero, List.set_cons_succ, List.cons_append, List.nil_append, List.eraseIdx_cons_zero, List.eraseIdx_cons_succ, List.setIfInBounds_toArray, World.size_alloc, selR, List.getD_cons_zero, List.getD_cons_succ] at H)
  go_enter Try.func52, Try.ntmps52
  go_wp2_with fail
  refine (there_no _ _ (h.mono H.out.to)).mono ?_; rintro e w1 ⟨rfl, hb1⟩
  replace H := Lib.hid (H.out.bel hb1); (try simp only [List.set_cons_zero, List.set_cons_succ, List.cons_append, List.nil_append, List.eraseIdx_cons_zero, List.eraseIdx_cons_succ, List.setIfInBounds_toArray, World.size_alloc, selR, List.getD_cons_zero, List.getD_cons_succ] at H)
  clear hb1
  generalize w.heap.size = x at *
  go_wp2_with ((with_reducible show wpList _ _ _ (⟨_, .store _ (.tmp 2) _, _, _, _, _⟩ :: _) _ _); (refine wpList_store_blk rfl rowShp2 (.tmp 2) (.tmp 9) rfl _ rfl (H.out.blk 0 rfl) rfl (#[.slice none 0 0, .int .i64 0]) rfl rfl (by simp [Value.oneCell']) ?_; intro wq bq hgq; replace H := Lib.hid (H.out.setBlk 0 rfl hgq bq); (try simp only [List.set_cons_zero, List.set_cons_succ, List.cons_append, List.nil_append, List.eraseIdx_cons_zero, List.eraseIdx_cons_succ, List.setIfInBounds_toArray, World.size_alloc, selR, List.getD_cons_zero, List.getD_cons_succ] at H); clear hgq bq))
  refine bodyPost_ret (results_blk1 rfl rowShp2 rfl (H.out.blk 0 rfl) rfl) rfl ?_
  exact ⟨rfl, H.out.to⟩
set_option maxRecDepth 100000 in
theorem aadd_no (v : Value) (n : Nd) (w : World) (h : NoA w v) : Calls Try.prog 51 #[v, .agg n.cs] w fun e w' => e = .returned (.tuple #[.int .i64 0, .int .i64 1]) ∧ Bel w w' := by
  have H := Lib.hid ((SL.start No w).alloc n.cs 34)
  (try simp only [List.set_cons_zero, List.set_cons_succ, List.cons_append, List.nil_append, List.eraseIdx_cons_zero, List.eraseIdx_cons_succ, List.setIfInBounds_toArray, World.size_alloc, selR, List.getD_cons_zero, List.getD_cons_succ] at H)
  have hcs : n.cs = Nd.cs n := rfl
  go_enter Try.func51, Try.ntmps51
  go_wp2_with fail
  refine (there_no _ _ (h.mono H.out.to)).mono ?_; rintro e w1 ⟨rfl, hb1⟩
  replace H := Lib.hid (H.out.bel hb1); (try simp only [List.set_cons_zero, List.set_cons_succ, List.cons_append, List.nil_append, List.eraseIdx_cons_zero, List.eraseIdx_cons_succ, List.setIfInBounds_toArray, World.size_alloc, selR, List.getD_cons_zero, List.getD_cons_succ] at H)
  clear hb1
  go_wp2
  refine bodyPost_ret (v := .tuple #[.int .i64 0, .int .i64 1]) (by kernel_rfl) rfl ?_
  exact ⟨rfl, H.out.to⟩
/-- The shape of the chapters' examples: one tier of one member, one measure. -/
abbrev exShp (a b : Nat) : Shp := ⟨⟨some ⟨b, 0, none⟩, 1, 1, [⟨some ⟨a, 0, none⟩, 1, 1, [1]⟩]⟩, 1⟩
theorem ex_shp {S : Nat → Prop} {w0 w : World} {l : List Res} (H : SL S w0 w l) {a b : Nat} (i j : Nat) (hi : l[i]? = some (rBlk a 3 #[.int .i64 1])) (hj : l[j]? = some (rBlk b 59 #[.slice (some ⟨a, 0, none⟩) 1 1])) : (exShp a b).rd w := by
  refine ⟨⟨reads_of_block (H.blk j hj) rfl, fun y hy => ?_, by show (1 : Nat) ≤ _; omega⟩, by unfold I64; simp only; omega⟩
  simp only [List.mem_singleton] at hy
  subst hy
  exact ⟨reads_of_block (H.blk i hi) rfl, fun z hz => by simp only [List.mem_singleton] at hz; subst hz; show I64 1; unfold I64; omega, Nat.le_refl _, by show (1 : Nat) ≤ _; unfold maxLen; omega, by show 1 * 8 ≤ _; omega⟩
set_option maxRecDepth 100000 in
theorem awhole_empty (b : Nat) (A : Option Addr) (n c : Nat) (w : World) (hn : 0 < n) (hc : w.cell? ⟨b, 0, none⟩ = some (.slice A n c)) (hd : w.cell? ⟨b, 2, none⟩ = some (.slice none 0 0)) : Calls Try.prog 53 #[.pointer (some ⟨b, 0, none⟩)] w fun e w' => e = .returned (.bool true) ∧ Bel w w' := by
  go_enter Try.func53, Try.ntmps53
  go_wp2_with fail
  refine (there_yes b A n c w hn hc).mono ?_; rintro e w1 ⟨rfl, hb1⟩
  have hd1 : w1.cell? ⟨b, 2, none⟩ = some (.slice none 0 0) := (hb1.cell (p := ⟨b, 2, none⟩) (World.block_lt_of_cell? _ _ hd)).trans hd
  go_wp2
  go_ret
  exact ⟨rfl, hb1⟩
set_option maxRecDepth 100000 in
theorem alen_any (b : Nat) (A D : Option Addr) (n c m d : Nat) (w : World) (hn : 0 < n) (hc : w.cell? ⟨b, 0, none⟩ = some (.slice A n c)) (hd : w.cell? ⟨b, 2, none⟩ = some (.slice D m d)) : Calls Try.prog 106 #[.pointer (some ⟨b, 0, none⟩)] w fun e w' => e = .returned (.int .i64 m) ∧ Bel w w' := by
  go_enter Try.func106, Try.ntmps106
  go_wp2_with fail
  refine (there_yes b A n c w hn hc).mono ?_; rintro e w1 ⟨rfl, hb1⟩
  have hd1 : w1.cell? ⟨b, 2, none⟩ = some (.slice D m d) := (hb1.cell (p := ⟨b, 2, none⟩) (World.block_lt_of_cell? _ _ hd)).trans hd
  go_wp2
  go_ret
  exact ⟨rfl, hb1⟩
set_option maxRecDepth 100000 in
theorem atop_any (b : Nat) (A D : Option Addr) (n c m d : Nat) (w : World) (hn : 0 < n) (hm : m ≤ 1000000) (hc : w.cell? ⟨b, 0, none⟩ = some (.slice A n c)) (hd : w.cell? ⟨b, 2, none⟩ = some (.slice D m d)) : Calls Try.prog 90 #[.pointer (some ⟨b, 0, none⟩)] w fun e w' => e = .returned (.int .i64 (m - 1)) ∧ Bel w w' := by
  go_enter Try.func90, Try.ntmps90
  go_wp2_with fail
  refine (alen_any b A D n c m d w hn hc hd).mono ?_; rintro e w1 ⟨rfl, hb1⟩
  go_wp2
  go_ret
  exact ⟨rfl, hb1⟩
theorem exShape : shapeOk [[1]] 1 = true := by decide
end Go.Proofs.Ytlclllkjnhgbjaa
