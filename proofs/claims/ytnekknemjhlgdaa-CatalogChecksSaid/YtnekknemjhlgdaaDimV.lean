/- dim.Sizes, dim.Map, dim.Drill. -/
import Derived.Test.YtnekknemjhlgdaaDimU
import Derived.Test.YtnekknemjhlgdaaSepT
import Derived.Test.YtnekknemjhlgdaaDimR
namespace Go.Proofs.Ytnekknemjhlgdaa
open Go.RowKit
set_option linter.unusedVariables false
set_option linter.unusedSimpArgs false

/-- A row of numbers that the call hands back, in new memory. -/
def IntsPost (xs : List Int) (w : World) (e : Ending) (w' : World) : Prop := ∃ (A : Option Addr) (c : Nat), e = .returned (.slice A xs.length c) ∧ Bel w w' ∧ w'.ownsRow w.heap.size 3 1 (.slice A xs.length c) xs.length (xs.map (Value.int .i64))
def sizesOf (trs : List TC) : List Int := trs.map (fun t => (t.ts.length : Int))
theorem take_snoc_get {α : Type} {l : List α} {k : Nat} {x : α} (h : l[k]? = some x) : l.take (k + 1) = l.take k ++ [x] := by
  obtain ⟨hk, rfl⟩ := List.getElem?_eq_some_iff.1 h
  exact List.take_succ_eq_append_getElem hk

theorem mapOf_get {trs : List TC} {f t : Int} {k : Nat} (h : k < (mapOf trs f t).length) : (mapOf trs f t)[k]? = some (liftOf trs f t k) := by
  unfold mapOf at h ⊢
  split at h
  · rename_i hc
    rw [if_pos hc]
    simp only [List.length_map, List.length_range] at h
    rw [List.getElem?_map, List.getElem?_range h]
    rfl
  · simp at h
theorem mapOf_no {trs : List TC} {f t : Int} (h : ¬ (0 ≤ f ∧ f ≤ t ∧ t < trs.length)) : mapOf trs f t = [] := by unfold mapOf; rw [if_neg h]
theorem intsPost_nil {w w' : World} (hb : Bel w w') : IntsPost [] w (.returned (.slice none 0 0)) w' := ⟨none, 0, rfl, hb, World.ownsRow_nil _ _ _ _⟩

set_option maxRecDepth 100000 in
set_option maxHeartbeats 1000000 in
theorem dmmap_any (d : Dm) (f t : Int) (w : World) (hd : d.rd w) (hf : I64 f) (ht : I64 t) (hn : d.tr.n ≤ 1000000) (hs : ∀ T ∈ d.tr.l, T.ts.n ≤ 100000) :
    Calls Try.prog 162 #[.agg d.cs, .int .i64 f, .int .i64 t] w (IntsPost (mapOf (d.tr.l.map Tir.con) f t) w) := by
  have HH := Lib.hid (fun k w' (hb : Bel w w') => has_any d k w' (hd.mono hb))
  have HLf := Lib.hid (fun i w' (hb : Bel w w') (hi : I64 i) => lift_any d f t i w' (hd.mono hb) hf ht hi hn)
  have H := Lib.hid (((SL.start No w).alloc d.cs 64).addNil 3 1)
  (try simp only [List.set_cons_zero, List.set_cons_succ, List.cons_append, List.nil_append, List.eraseIdx_cons_zero, List.eraseIdx_cons_succ, List.setIfInBounds_toArray, World.size_alloc, selR, List.getD_cons_zero, List.getD_cons_succ] at H)
  have hlen : Hid (d.tr.l.length = d.tr.n) := hd.tr.len
  have HD := Lib.hid hd.tr
  have HSZ := Lib.hid hs
  obtain ⟨nm, ⟨A, n, c, trs⟩⟩ := d
  simp only [Dm.cs] at *
  have hml : (trs.map Tir.con).length = n := by rw [List.length_map]; exact hlen.out
  clear hd hs
  obtain ⟨f0, f1⟩ := hf
  obtain ⟨t0, t1⟩ := ht
  by_cases hF : 0 ≤ f ∧ f < n
  · have dF : decide (0 ≤ f ∧ f < (n : Int)) = true := by simp; omega
    by_cases hT : 0 ≤ t ∧ t < n
    · have dT : decide (0 ≤ t ∧ t < (n : Int)) = true := by simp; omega
      by_cases hFT : t < f
      · have HE : Hid (mapOf (trs.map Tir.con) f t = []) := mapOf_no (by omega)
        have d1 : decide (t < f) = true := by simpa using hFT
        clear hml
        go_enter Try.func162, Try.ntmps162
        go_wp2_with fail
        generalize w.heap.size = x at *
        generalize w.alloc (.cells #[.string ⟨nm.toArray⟩, .slice A n c] 64) = w1 at *
        refine (HH.out f _ H.out.to).mono ?_; rintro e w2 ⟨rfl, hb2⟩
        replace H := Lib.hid (H.out.bel hb2); (try simp only [List.set_cons_zero, List.set_cons_succ, List.cons_append, List.nil_append, List.eraseIdx_cons_zero, List.eraseIdx_cons_succ, List.setIfInBounds_toArray, World.size_alloc, selR, List.getD_cons_zero, List.getD_cons_succ] at H)
        rw [dF]
        clear hb2
        go_wp2_with ((with_reducible show wpList _ _ _ (⟨some 14, _, _, _, _, _⟩ :: _) _ _); refine wpList_load_blkG (by first | rfl | go_simp) rowDm (.tmp 3) (by rfl) _ (by rfl) (H.out.blk 0 rfl) rfl ?_)
        refine (HH.out t _ H.out.to).mono ?_; rintro e w3 ⟨rfl, hb3⟩
        replace H := Lib.hid (H.out.bel hb3); (try simp only [List.set_cons_zero, List.set_cons_succ, List.cons_append, List.nil_append, List.eraseIdx_cons_zero, List.eraseIdx_cons_succ, List.setIfInBounds_toArray, World.size_alloc, selR, List.getD_cons_zero, List.getD_cons_succ] at H)
        rw [dT]
        clear hb3
        go_wp2
        go_ret
        rw [HE.out]
        exact intsPost_nil H.out.to
      · have d1 : decide (t < f) = false := by simp; omega
        obtain ⟨f, rfl⟩ : ∃ k : Nat, f = k := ⟨f.toNat, by omega⟩
        obtain ⟨t, rfl⟩ : ∃ k : Nat, t = k := ⟨t.toNat, by omega⟩
        have d1n : decide (t < f) = false := by simp; omega
        have hfn : f < n := by omega
        obtain ⟨m, hm⟩ : ∃ m, m = (mapOf (trs.map Tir.con) f t).length := ⟨_, rfl⟩
        have hm2 : m = sizeAt (trs.map Tir.con) f := by rw [hm]; exact mapOf_len (by omega) (by omega)
        have HM := Lib.hid hm
        have HM2 := Lib.hid hm2
        clear hml hm hm2
        go_enter Try.func162, Try.ntmps162
        go_wp2_with fail
        generalize w.heap.size = x at *
        generalize w.alloc (.cells #[.string ⟨nm.toArray⟩, .slice A n c] 64) = w1 at *
        refine (HH.out f _ H.out.to).mono ?_; rintro e w2 ⟨rfl, hb2⟩
        replace H := Lib.hid (H.out.bel hb2); (try simp only [List.set_cons_zero, List.set_cons_succ, List.cons_append, List.nil_append, List.eraseIdx_cons_zero, List.eraseIdx_cons_succ, List.setIfInBounds_toArray, World.size_alloc, selR, List.getD_cons_zero, List.getD_cons_succ] at H)
        rw [dF]
        clear hb2
        go_wp2_with ((with_reducible show wpList _ _ _ (⟨some 14, _, _, _, _, _⟩ :: _) _ _); refine wpList_load_blkG (by first | rfl | go_simp) rowDm (.tmp 3) (by rfl) _ (by rfl) (H.out.blk 0 rfl) rfl ?_)
        refine (HH.out t _ H.out.to).mono ?_; rintro e w3 ⟨rfl, hb3⟩
        replace H := Lib.hid (H.out.bel hb3); (try simp only [List.set_cons_zero, List.set_cons_succ, List.cons_append, List.nil_append, List.eraseIdx_cons_zero, List.eraseIdx_cons_succ, List.setIfInBounds_toArray, World.size_alloc, selR, List.getD_cons_zero, List.getD_cons_succ] at H)
        rw [dT]
        clear hb3
        obtain ⟨bb, oo, T, hA, hbb, hT0, hTr, hrg⟩ := (HD.out.mono H.out.to).tirAt (k := f) hfn
        simp only at hA
        subst hA
        have hTm : m = T.ts.n := by rw [HM2.out, sizeAt_tir hT0]; exact hTr.ts.len
        have hTn := HSZ.out T (List.mem_of_getElem? hT0)
        have hc0 := hrg 1 _ rfl
        rw [← hTm] at hc0 hTn
        have i2 : (0 : Int) ≤ f := by omega
        have i3 : (f : Int) < n := by omega
        have c0 := (H.out.blk 0 rfl).cell 1; simp only [List.getElem?_toArray, List.getElem?_cons_zero, List.getElem?_cons_succ] at c0
        clear hT0 hTr hrg hTm hbb HM2
        go_wp2_with fail
        clear c0 hc0
        rw [← List.take_zero (l := (mapOf (trs.map Tir.con) f t).map (Value.int .i64))] at H
        clear d1 d1n dF dT
        go_loopg [7, 31] m (fun gg s7 s31 wr => ∃ (k : Nat) (B : Option Addr) (cc : Nat), gg = m - k ∧ k ≤ m ∧ s31 = .int .i64 k ∧ s7 = .slice B k cc ∧ Hid (SL No w wr [rBlk x 64 #[.string ⟨nm.toArray⟩, .slice (some ⟨bb, oo, none⟩) n c], rRow 3 1 (.slice B k cc) k (((mapOf (trs.map Tir.con) f t).map (Value.int .i64)).take k)]))
        case atStart => exact ⟨0, none, 0, rfl, by omega, rfl, rfl, H⟩
        case round =>
          clear H
          obtain ⟨k, B, cc, hgk, hk, rfl, rfl, H⟩ := hrel
          have Hgk := Lib.hid hgk
          clear hgk
          by_cases hlt : k < m
          · have hi : I64 ((k : Nat) : Int) := by unfold I64; omega
            have HX := Lib.hid (take_snoc_get (l := (mapOf (trs.map Tir.con) f t).map (Value.int .i64)) (k := k) (x := .int .i64 (liftOf (trs.map Tir.con) f t k)) (by rw [List.getElem?_map, mapOf_get (by rw [← HM.out]; exact hlt)]; rfl))
            go_wp2_with ((with_reducible show wpList _ _ _ (⟨some 35, _, _, _, _, _⟩ :: _) _ _); (refine wpList_load_blk rfl rowDm (.tmp 3) rfl _ rfl (H.out.blk 0 rfl) rfl ?_))
            refine (HLf.out k _ H.out.to hi).mono ?_; rintro e w5 ⟨rfl, hb5⟩
            replace H := Lib.hid (H.out.bel hb5); (try simp only [List.set_cons_zero, List.set_cons_succ, List.cons_append, List.nil_append, List.eraseIdx_cons_zero, List.eraseIdx_cons_succ, List.setIfInBounds_toArray, World.size_alloc, selR, List.getD_cons_zero, List.getD_cons_succ] at H)
            clear hb5
            go_wp2_with ((with_reducible show wpList _ _ _ (⟨some 41, _, _, _, _, _⟩ :: _) _ _); (replace H := Lib.hid (H.out.alloc #[.int .i64 (liftOf (trs.map Tir.con) f t k)] 3); (try simp only [List.set_cons_zero, List.set_cons_succ, List.cons_append, List.nil_append, List.eraseIdx_cons_zero, List.eraseIdx_cons_succ, List.setIfInBounds_toArray, World.size_alloc, selR, List.getD_cons_zero, List.getD_cons_succ] at H); refine wpList_append0 rfl (.tmp 34) (.tmp 40) _ rfl E_num 0 (Nat.zero_le _) _ k _ rfl (H.out.row 1 rfl) _ 1 1 [.int .i64 (liftOf (trs.map Tir.con) f t k)] rfl (reads_of_block (H.out.blk 2 rfl) rfl) (by simp [Value.oneCell']) (by unfold maxLen; omega) (by omega) ?_; intro vq wq howq hgq hatq; replace H := Lib.hid (H.out.setRow 1 rfl hgq howq hatq); (try simp only [List.set_cons_zero, List.set_cons_succ, List.cons_append, List.nil_append, List.eraseIdx_cons_zero, List.eraseIdx_cons_succ, List.setIfInBounds_toArray, World.size_alloc, selR, List.getD_cons_zero, List.getD_cons_succ] at H); clear howq hgq hatq; obtain ⟨A2, c2, rfl, _⟩ := own_slice (H.out.row 1 rfl)))
            replace H := Lib.hid (H.out.sel [0, 1] (by decide) (by simp)); (try simp only [List.set_cons_zero, List.set_cons_succ, List.cons_append, List.nil_append, List.eraseIdx_cons_zero, List.eraseIdx_cons_succ, List.setIfInBounds_toArray, World.size_alloc, selR, List.getD_cons_zero, List.getD_cons_succ] at H)
            rw [← HX.out] at H
            go_roundg (m - (k + 1))
            case rel => exact ⟨k + 1, A2, c2, rfl, by omega, by go_num, rfl, H⟩
            case measure => rw [Hgk.out]; omega
          · obtain rfl : k = m := by omega
            go_wp2
            go_ret
            have hr := H.out.rowB 1 rfl
            rw [List.take_of_length_le (by rw [List.length_map, ← HM.out]; omega)] at hr
            refine ⟨B, cc, ?_, H.out.to, ?_⟩
            · rw [← HM.out]; rfl
            · rw [← HM.out]; exact hr
    · have dT : decide (0 ≤ t ∧ t < (n : Int)) = false := by simp; omega
      have HE : Hid (mapOf (trs.map Tir.con) f t = []) := mapOf_no (by omega)
      clear hml
      go_enter Try.func162, Try.ntmps162
      go_wp2_with fail
      generalize w.heap.size = x at *
      generalize w.alloc (.cells #[.string ⟨nm.toArray⟩, .slice A n c] 64) = w1 at *
      refine (HH.out f _ H.out.to).mono ?_; rintro e w2 ⟨rfl, hb2⟩
      replace H := Lib.hid (H.out.bel hb2); (try simp only [List.set_cons_zero, List.set_cons_succ, List.cons_append, List.nil_append, List.eraseIdx_cons_zero, List.eraseIdx_cons_succ, List.setIfInBounds_toArray, World.size_alloc, selR, List.getD_cons_zero, List.getD_cons_succ] at H)
      rw [dF]
      clear hb2
      go_wp2_with ((with_reducible show wpList _ _ _ (⟨some 14, _, _, _, _, _⟩ :: _) _ _); refine wpList_load_blkG (by first | rfl | go_simp) rowDm (.tmp 3) (by rfl) _ (by rfl) (H.out.blk 0 rfl) rfl ?_)
      refine (HH.out t _ H.out.to).mono ?_; rintro e w3 ⟨rfl, hb3⟩
      replace H := Lib.hid (H.out.bel hb3); (try simp only [List.set_cons_zero, List.set_cons_succ, List.cons_append, List.nil_append, List.eraseIdx_cons_zero, List.eraseIdx_cons_succ, List.setIfInBounds_toArray, World.size_alloc, selR, List.getD_cons_zero, List.getD_cons_succ] at H)
      rw [dT]
      clear hb3
      go_wp2
      go_ret
      rw [HE.out]
      exact intsPost_nil H.out.to
  · have dF : decide (0 ≤ f ∧ f < (n : Int)) = false := by simp; omega
    have HE : Hid (mapOf (trs.map Tir.con) f t = []) := mapOf_no (by omega)
    clear hml
    go_enter Try.func162, Try.ntmps162
    go_wp2_with fail
    generalize w.heap.size = x at *
    generalize w.alloc (.cells #[.string ⟨nm.toArray⟩, .slice A n c] 64) = w1 at *
    refine (HH.out f _ H.out.to).mono ?_; rintro e w2 ⟨rfl, hb2⟩
    replace H := Lib.hid (H.out.bel hb2); (try simp only [List.set_cons_zero, List.set_cons_succ, List.cons_append, List.nil_append, List.eraseIdx_cons_zero, List.eraseIdx_cons_succ, List.setIfInBounds_toArray, World.size_alloc, selR, List.getD_cons_zero, List.getD_cons_succ] at H)
    rw [dF]
    clear hb2
    go_wp2
    go_ret
    rw [HE.out]
    exact intsPost_nil H.out.to

end Go.Proofs.Ytnekknemjhlgdaa
