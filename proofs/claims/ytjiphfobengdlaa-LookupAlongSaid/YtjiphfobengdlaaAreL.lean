/- Lookups in arenas that no call made. -/
import Derived.Test.YtjiphfobengdlaaAreI
namespace Go.Proofs.Ytjiphfobengdlaa
open Go.RowKit
set_option linter.unusedVariables false
set_option linter.unusedSimpArgs false


/-- A place of a member. -/
structure Ps where
  t : Int
  k : Int
abbrev Ps.cs (p : Ps) : Array Value := #[.int .i64 p.t, .int .i64 p.k]
structure Ps.ok (p : Ps) : Prop where
  t : I64 p.t
  k : I64 p.k
instance instCelPs : Cel Ps where
  size := 2
  bytes := 16
  cells x := x.cs.toList
  ok w x := x.ok
  len _ := rfl
  pos := by omega
  mono hb h := h
set_option maxRecDepth 100000 in
theorem c_ps : Try.prog.cellsOf 110 = 2 := by kernel_rfl
set_option maxRecDepth 100000 in
theorem opens_ps : Opens Try.prog 110 Ps := by
  intro H enc w base spare held fuel cs x h hz
  have hl := struct_len Try.underlying110 h c_ps
  obtain ⟨a, ha, ok1⟩ := field_of Try.underlying110 h hz 0 _ rfl (opens_i64 Try.underlying3) c_int
  obtain ⟨b, hb, ok2⟩ := field_of Try.underlying110 h hz 1 _ rfl (opens_i64 Try.underlying3) c_int
  refine ⟨⟨a, b⟩, ?_, ⟨ok1, ok2⟩⟩
  match cs, hl with
  | [x0, x1], _ =>
    simp [Cel.cells] at ha hb
    simp [Cel.cells, ha, hb]
set_option maxRecDepth 100000 in
theorem open_poss {H : Type} {enc : TypeId × Value → H} {w : World} {base b0 : Nat} {spare : Nat → Bool} {held : Bool} {r : Reach} {v : Value} {d : DataW H} {p : List MemPlace}
    (hv : Value.okWide Try.prog w r b0 64 v) (h : DataW.Trod enc Try.prog w base spare held 64 v d p) (hz : Sized Try.prog 64 d) : ∃ x : Row Ps, v = x.v ∧ x.ok w := open_row Try.underlying64 c_ps (by kernel_rfl) opens_ps hv h hz
set_option maxRecDepth 100000 in
theorem point_no (v u : Value) (w : World) (h : NoA w v) : Calls Try.prog 39 #[v, u] w fun e w' => e = .returned (.tuple #[.agg #[.int .i64 0, .int .i64 0, .int .i64 0, .int .i64 0, .int .i64 0, .int .i64 0, .int .i64 0, .int .i64 0, .int .i64 0, .int .i64 0], .int .i64 1]) ∧ Bel w w' := by
  have H := Lib.hid ((SL.start No w).alloc #[.int .i64 0, .int .i64 0, .int .i64 0, .int .i64 0, .int .i64 0, .int .i64 0, .int .i64 0, .int .i64 0, .int .i64 0, .int .i64 0] 40)
  (try simp only [List.set_cons_zero, List.set_cons_succ, List.cons_append, List.nil_append, List.eraseIdx_cons_zero, List.eraseIdx_cons_succ, List.setIfInBounds_toArray, World.size_alloc, selR, List.getD_cons_zero, List.getD_cons_succ] at H)
  have hfd : ∀ w : World, (Instr.field 24 (.agg #[.slice none 0 0, .int .i64 0]) 1).run Try.prog w = .ok (.int .i64 0) w := fun _ => by kernel_rfl
  go_enter Try.func39, Try.ntmps39
  go_wp2_with fail
  refine (ashape_no _ _ (h.mono H.out.to)).mono ?_; rintro e w1 ⟨rfl, hb1⟩
  replace H := Lib.hid (H.out.bel hb1); (try simp only [List.set_cons_zero, List.set_cons_succ, List.cons_append, List.nil_append, List.eraseIdx_cons_zero, List.eraseIdx_cons_succ, List.setIfInBounds_toArray, World.size_alloc, selR, List.getD_cons_zero, List.getD_cons_succ] at H)
  clear hb1
  generalize w.heap.size = x at *
  go_wp2_with ((with_reducible show wpList _ _ _ (⟨_, .store _ (.tmp 4) _, _, _, _, _⟩ :: _) _ _); (refine wpList_store_blk rfl rowAgA (.tmp 4) (.tmp 14) rfl _ rfl (H.out.blk 0 rfl) rfl (#[.int .i64 0, .int .i64 0, .int .i64 0, .int .i64 0, .int .i64 0, .int .i64 0, .int .i64 0, .int .i64 0, .int .i64 0, .int .i64 0]) rfl rfl (by simp [Value.oneCell']) ?_; intro wq bq hgq; replace H := Lib.hid (H.out.setBlk 0 rfl hgq bq); (try simp only [List.set_cons_zero, List.set_cons_succ, List.cons_append, List.nil_append, List.eraseIdx_cons_zero, List.eraseIdx_cons_succ, List.setIfInBounds_toArray, World.size_alloc, selR, List.getD_cons_zero, List.getD_cons_succ] at H); clear hgq bq))
  refine bodyPost_ret (results_blk rfl rowAgA rfl (H.out.blk 0 rfl) rfl) rfl ?_
  exact ⟨rfl, H.out.to⟩
set_option maxRecDepth 100000 in
theorem total_no (v : Value) (w : World) (h : NoA w v) : Calls Try.prog 40 #[v] w fun e w' => e = .returned (.tuple #[.agg #[.int .i64 0, .int .i64 0, .int .i64 0, .int .i64 0, .int .i64 0, .int .i64 0, .int .i64 0, .int .i64 0, .int .i64 0, .int .i64 0], .int .i64 1]) ∧ Bel w w' := by
  have H := Lib.hid ((SL.start No w).alloc #[.int .i64 0, .int .i64 0, .int .i64 0, .int .i64 0, .int .i64 0, .int .i64 0, .int .i64 0, .int .i64 0, .int .i64 0, .int .i64 0] 40)
  (try simp only [List.set_cons_zero, List.set_cons_succ, List.cons_append, List.nil_append, List.eraseIdx_cons_zero, List.eraseIdx_cons_succ, List.setIfInBounds_toArray, World.size_alloc, selR, List.getD_cons_zero, List.getD_cons_succ] at H)
  have hfd : ∀ w : World, (Instr.field 24 (.agg #[.slice none 0 0, .int .i64 0]) 0).run Try.prog w = .ok (.slice none 0 0) w := fun _ => by kernel_rfl
  go_enter Try.func40, Try.ntmps40
  go_wp2_with fail
  refine (ashape_no _ _ (h.mono H.out.to)).mono ?_; rintro e w1 ⟨rfl, hb1⟩
  replace H := Lib.hid (H.out.bel hb1); (try simp only [List.set_cons_zero, List.set_cons_succ, List.cons_append, List.nil_append, List.eraseIdx_cons_zero, List.eraseIdx_cons_succ, List.setIfInBounds_toArray, World.size_alloc, selR, List.getD_cons_zero, List.getD_cons_succ] at H)
  clear hb1
  generalize w.heap.size = x at *
  go_upto_region 3 with fail
  clear hfd
  go_loopg [4, 9] 0 (fun gg s4 s9 wr => gg = 0 ∧ s4 = .slice none 0 0 ∧ s9 = .int .i64 0 ∧ Hid (SL No w wr [rBlk x 40 #[.int .i64 0, .int .i64 0, .int .i64 0, .int .i64 0, .int .i64 0, .int .i64 0, .int .i64 0, .int .i64 0, .int .i64 0, .int .i64 0]]))
  case atStart => exact ⟨rfl, rfl, rfl, H⟩
  case round =>
    clear H
    obtain ⟨hg, rfl, rfl, H⟩ := hrel
    go_wp2_with fail
    refine (point_no _ _ _ (h.mono H.out.to)).mono ?_; rintro e w2 ⟨rfl, hb2⟩
    replace H := Lib.hid (H.out.bel hb2); (try simp only [List.set_cons_zero, List.set_cons_succ, List.cons_append, List.nil_append, List.eraseIdx_cons_zero, List.eraseIdx_cons_succ, List.setIfInBounds_toArray, World.size_alloc, selR, List.getD_cons_zero, List.getD_cons_succ] at H)
    clear hb2
    go_wp2_with ((with_reducible show wpList _ _ _ (⟨_, .store _ (.tmp 2) _, _, _, _, _⟩ :: _) _ _); (refine wpList_store_blk rfl rowAgA (.tmp 2) (.tmp 19) rfl _ rfl (H.out.blk 0 rfl) rfl (#[.int .i64 0, .int .i64 0, .int .i64 0, .int .i64 0, .int .i64 0, .int .i64 0, .int .i64 0, .int .i64 0, .int .i64 0, .int .i64 0]) rfl rfl (by simp [Value.oneCell']) ?_; intro wq bq hgq; replace H := Lib.hid (H.out.setBlk 0 rfl hgq bq); (try simp only [List.set_cons_zero, List.set_cons_succ, List.cons_append, List.nil_append, List.eraseIdx_cons_zero, List.eraseIdx_cons_succ, List.setIfInBounds_toArray, World.size_alloc, selR, List.getD_cons_zero, List.getD_cons_succ] at H); clear hgq bq))
    refine bodyPost_ret (results_blk rfl rowAgA rfl (H.out.blk 0 rfl) rfl) rfl ?_
    exact ⟨rfl, H.out.to⟩
set_option maxRecDepth 100000 in
theorem way_no (q : Option Addr) (u : Value) (w : World) (h : NoA w (.pointer q)) : Calls Try.prog 41 #[.pointer q, u] w fun e w' => e = .returned (.tuple #[.slice none 0 0, .int .i64 1]) ∧ Bel w w' := by
  have H := Lib.hid (((SL.start No w).alloc #[.pointer q] 30).alloc #[.slice none 0 0] 26)
  (try simp only [List.set_cons_zero, List.set_cons_succ, List.cons_append, List.nil_append, List.eraseIdx_cons_zero, List.eraseIdx_cons_succ, List.setIfInBounds_toArray, World.size_alloc, selR, List.getD_cons_zero, List.getD_cons_succ] at H)
  go_enter Try.func41, Try.ntmps41
  go_upto_region 3 with fail
  generalize w.heap.size + 1 = y at *
  generalize w.heap.size = x at *
  generalize World.alloc (World.alloc _ _) _ = w1 at *
  have c0 : w1.cell? ⟨x, 0, none⟩ = some (.pointer q) := (H.out.blk 0 rfl).cell 0
  go_wp2_with fail
  refine (point_no _ _ _ (h.mono H.out.to)).mono ?_; rintro e w2 ⟨rfl, hb2⟩
  replace H := Lib.hid (H.out.bel hb2); (try simp only [List.set_cons_zero, List.set_cons_succ, List.cons_append, List.nil_append, List.eraseIdx_cons_zero, List.eraseIdx_cons_succ, List.setIfInBounds_toArray, World.size_alloc, selR, List.getD_cons_zero, List.getD_cons_succ] at H)
  clear hb2
  go_wp2_with ((with_reducible show wpList _ _ _ (⟨_, .store _ (.tmp 8) _, _, _, _, _⟩ :: _) _ _); (refine wpList_store_new rfl rowAgA (.tmp 8) (.tmp 18) rfl rfl rfl (#[.int .i64 0, .int .i64 0, .int .i64 0, .int .i64 0, .int .i64 0, .int .i64 0, .int .i64 0, .int .i64 0, .int .i64 0, .int .i64 0]) rfl rfl (by simp [Value.oneCell']) ?_; replace H := Lib.hid (H.out.alloc (#[.int .i64 0, .int .i64 0, .int .i64 0, .int .i64 0, .int .i64 0, .int .i64 0, .int .i64 0, .int .i64 0, .int .i64 0, .int .i64 0]) 40); (try simp only [List.set_cons_zero, List.set_cons_succ, List.cons_append, List.nil_append, List.eraseIdx_cons_zero, List.eraseIdx_cons_succ, List.setIfInBounds_toArray, World.size_alloc, selR, List.getD_cons_zero, List.getD_cons_succ] at H)))
  refine bodyPost_ret (v := .tuple #[.slice none 0 0, .int .i64 1]) (by kernel_rfl) rfl ?_
  exact ⟨rfl, H.out.to⟩

end Go.Proofs.Ytjiphfobengdlaa
