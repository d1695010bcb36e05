/- dim.Sizes, dim.Map, dim.Drill. -/
import Derived.Test.YtnjpoamebkehbaaDimU
import Derived.Test.YtnjpoamebkehbaaSepT
import Derived.Test.YtnjpoamebkehbaaDimR
namespace Go.Proofs.Ytnjpoamebkehbaa
open Go.RowKit
set_option linter.unusedVariables false
set_option linter.unusedSimpArgs false

/-- A row of numbers that the call hands back, in new memory. -/
def IntsPost (xs : List Int) (w : World) (e : Ending) (w' : World) : Prop := ∃ (A : Option Addr) (c : Nat), e = .returned (.slice A xs.length c) ∧ Bel w w' ∧ w'.ownsRow w.heap.size 3 1 (.slice A xs.length c) xs.length (xs.map (Value.int .i64))
def sizesOf (trs : List TC) : List Int := trs.map (fun t => (t.ts.length : Int))
theorem take_snoc_get {α : Type} {l : List α} {k : Nat} {x : α} (h : l[k]? = some x) : l.take (k + 1) = l.take k ++ [x] := by
  obtain ⟨hk, rfl⟩ := List.getElem?_eq_some_iff.1 h
  exact List.take_succ_eq_append_getElem hk

set_option maxRecDepth 100000 in
set_option maxHeartbeats 1000000 in
theorem dmsizes_any (d : Dm) (w : World) (hd : d.rd w) (hn : d.tr.n ≤ 1000000) :
    Calls Try.prog 78 #[.agg d.cs] w (IntsPost (sizesOf (d.tr.l.map Tir.con)) w) := by
  have H := Lib.hid (((SL.start No w).alloc d.cs 24).addNil 3 1)
  (try simp only [List.set_cons_zero, List.set_cons_succ, List.cons_append, List.nil_append, List.eraseIdx_cons_zero, List.eraseIdx_cons_succ, List.setIfInBounds_toArray, World.size_alloc, selR, List.getD_cons_zero, List.getD_cons_succ] at H)
  have hlen : Hid (d.tr.l.length = d.tr.n) := hd.tr.len
  have HD := Lib.hid hd.tr
  obtain ⟨nm, ⟨A, n, c, trs⟩⟩ := d
  simp only [Dm.cs] at *
  clear hd
  have hsl : Hid ((sizesOf (trs.map Tir.con)).length = n) := by show _ = _; unfold sizesOf; rw [List.length_map, List.length_map]; exact hlen.out
  go_enter Try.func78, Try.ntmps78
  have c0 := (H.out.blk 0 rfl).cell 1; simp only [List.getElem?_toArray, List.getElem?_cons_zero, List.getElem?_cons_succ] at c0
  go_wp2_with fail
  clear c0
  generalize w.heap.size = x at *
  generalize w.alloc (.cells #[.string ⟨nm.toArray⟩, .slice A n c] 24) = w1 at *
  go_loopg [3, 9] n (fun gg s3 s9 wr => ∃ (k : Nat) (B : Option Addr) (cc : Nat), gg = n - k ∧ k ≤ n ∧ s9 = .int .i64 k ∧ s3 = .slice B k cc ∧ Hid (SL No w wr [rBlk x 24 #[.string ⟨nm.toArray⟩, .slice A n c], rRow 3 1 (.slice B k cc) k (((sizesOf (trs.map Tir.con)).take k).map (Value.int .i64))]))
  case atStart => exact ⟨0, none, 0, rfl, by omega, rfl, rfl, H⟩
  case round =>
    clear H
    obtain ⟨k, B, cc, hgk, hk, rfl, rfl, H⟩ := hrel
    have Hgk := Lib.hid hgk
    clear hgk
    by_cases hlt : k < n
    · obtain ⟨bb, oo, T, hA, hbb, hT, hTr, hrg⟩ := (HD.out.mono H.out.to).tirAt (k := k) hlt
      simp only at hA
      subst hA
      have hTl : T.ts.l.length = T.ts.n := hTr.ts.len
      have hTn := hTr.ts.n63
      have HX : Hid (((sizesOf (trs.map Tir.con)).take (k + 1)).map (Value.int .i64) = ((sizesOf (trs.map Tir.con)).take k).map (Value.int .i64) ++ [.int .i64 T.ts.n]) := by
        show _ = _
        rw [take_snoc_get (x := (T.ts.n : Int)) (by unfold sizesOf; rw [List.getElem?_map, List.getElem?_map, hT]; show some ((T.ts.l.length : Nat) : Int) = _; rw [hTl]), List.map_append]
        rfl
      have HR := Lib.hid hrg
      have hnm := hTr.nm
      clear hT hTr hrg hTl hbb
      go_wp2_with (first | ((with_reducible show wpList _ _ _ (⟨some 12, _, _, _, _, _⟩ :: _) _ _); (refine wpList_load_row_at rfl rowTir (.tmp 11) rfl bb (oo + k * 3) rfl T.cs rfl HR.out ?_)) | ((with_reducible show wpList _ _ _ (⟨_, .store _ (.tmp 5) _, _, _, _, _⟩ :: _) _ _); (refine wpList_store_new rfl rowTir (.tmp 5) (.tmp 12) rfl rfl rfl (T.cs) rfl rfl (tir_one T) ?_; replace H := Lib.hid (H.out.alloc (T.cs) 30); (try simp only [List.set_cons_zero, List.set_cons_succ, List.cons_append, List.nil_append, List.eraseIdx_cons_zero, List.eraseIdx_cons_succ, List.setIfInBounds_toArray, World.size_alloc, selR, List.getD_cons_zero, List.getD_cons_succ] at H); have c1 := (H.out.blk 2 rfl).cell 1; simp only [List.getElem?_toArray, List.getElem?_cons_zero, List.getElem?_cons_succ] at c1)) | ((with_reducible show wpList _ _ _ (⟨some 18, _, _, _, _, _⟩ :: _) _ _); (replace H := Lib.hid (H.out.alloc #[.int .i64 T.ts.n] 3); (try simp only [List.set_cons_zero, List.set_cons_succ, List.cons_append, List.nil_append, List.eraseIdx_cons_zero, List.eraseIdx_cons_succ, List.setIfInBounds_toArray, World.size_alloc, selR, List.getD_cons_zero, List.getD_cons_succ] at H); refine wpList_append0 rfl (.tmp 13) (.tmp 17) _ rfl E_num 0 (Nat.zero_le _) _ k _ rfl (H.out.row 1 rfl) _ 1 1 [.int .i64 T.ts.n] rfl (reads_of_block (H.out.blk 3 rfl) rfl) (by simp [Value.oneCell']) (by unfold maxLen; omega) (by omega) ?_; intro vq wq howq hgq hatq; replace H := Lib.hid (H.out.setRow 1 rfl hgq howq hatq); (try simp only [List.set_cons_zero, List.set_cons_succ, List.cons_append, List.nil_append, List.eraseIdx_cons_zero, List.eraseIdx_cons_succ, List.setIfInBounds_toArray, World.size_alloc, selR, List.getD_cons_zero, List.getD_cons_succ] at H); clear howq hgq hatq; obtain ⟨A2, c2, rfl, _⟩ := own_slice (H.out.row 1 rfl); clear c1)))
      replace H := Lib.hid (H.out.sel [0, 1] (by decide) (by simp)); (try simp only [List.set_cons_zero, List.set_cons_succ, List.cons_append, List.nil_append, List.eraseIdx_cons_zero, List.eraseIdx_cons_succ, List.setIfInBounds_toArray, World.size_alloc, selR, List.getD_cons_zero, List.getD_cons_succ] at H)
      rw [← HX.out] at H
      go_roundg (n - (k + 1))
      case rel => exact ⟨k + 1, A2, c2, rfl, by omega, by go_num, rfl, H⟩
      case measure => rw [Hgk.out]; omega
    · obtain rfl : k = n := by omega
      go_wp2
      go_ret
      have hr := H.out.rowB 1 rfl
      rw [List.take_of_length_le (by have := hsl.out; omega)] at hr
      refine ⟨B, cc, ?_, H.out.to, ?_⟩
      · rw [hsl.out]; rfl
      · rw [hsl.out]; exact hr

theorem mapOf_get {trs : List TC} {f t : Int} {k : Nat} (h : k < (mapOf trs f t).length) : (mapOf trs f t)[k]? = some (liftOf trs f t k) := by
  unfold mapOf at h ⊢
  split at h
  · rename_i hc
    rw [if_pos hc]
    simp only [List.length_map, List.length_range] at h
    rw [List.getElem?_map, List.getElem?_range h]
    rfl
  · simp at h
theorem mapOf_no {trs : List TC} {f t : Int} (h : ¬ (0 ≤ f ∧ f ≤ t ∧ t < trs.length)) : mapOf trs f t = [] := by unfold mapOf; rw [if_neg h]
theorem intsPost_nil {w w' : World} (hb : Bel w w') : IntsPost [] w (.returned (.slice none 0 0)) w' := ⟨none, 0, rfl, hb, World.ownsRow_nil _ _ _ _⟩

set_option maxRecDepth 100000 in
set_option maxHeartbeats 1000000 in
theorem dmmap_any (d : Dm) (f t : Int) (w : World) (hd : d.rd w) (hf : I64 f) (ht : I64 t) (hn : d.tr.n ≤ 1000000) (hs : ∀ T ∈ d.tr.l, T.ts.n ≤ 100000) :
    Calls Try.prog 81 #[.agg d.cs, .int .i64 f, .int .i64 t] w (IntsPost (mapOf (d.tr.l.map Tir.con) f t) w) := by
  have HH := Lib.hid (fun k w' (hb : Bel w w') => has_any d k w' (hd.mono hb))
  have HLf := Lib.hid (fun i w' (hb : Bel w w') (hi : I64 i) => lift_any d f t i w' (hd.mono hb) hf ht hi hn)
  have H := Lib.hid (((SL.start No w).alloc d.cs 24).addNil 3 1)
  (try simp only [List.set_cons_zero, List.set_cons_succ, List.cons_append, List.nil_append, List.eraseIdx_cons_zero, List.eraseIdx_cons_succ, List.setIfInBounds_toArray, World.size_alloc, selR, List.getD_cons_zero, List.getD_cons_succ] at H)
  have hlen : Hid (d.tr.l.length = d.tr.n) := hd.tr.len
  have HD := Lib.hid hd.tr
  have HSZ := Lib.hid hs
  obtain ⟨nm, ⟨A, n, c, trs⟩⟩ := d
  simp only [Dm.cs] at *
  have hml : (trs.map Tir.con).length = n := by rw [List.length_map]; exact hlen.out
  clear hd hs
  obtain ⟨f0, f1⟩ := hf
  obtain ⟨t0, t1⟩ := ht
  by_cases hF : 0 ≤ f ∧ f < n
  · have dF : decide (0 ≤ f ∧ f < (n : Int)) = true := by simp; omega
    by_cases hT : 0 ≤ t ∧ t < n
    · have dT : decide (0 ≤ t ∧ t < (n : Int)) = true := by simp; omega
      by_cases hFT : t < f
      · have HE : Hid (mapOf (trs.map Tir.con) f t = []) := mapOf_no (by omega)
        have d1 : decide (t < f) = true := by simpa using hFT
        clear hml
        go_enter Try.func81, Try.ntmps81
        go_wp2_with fail
        generalize w.heap.size = x at *
        generalize w.alloc (.cells #[.string ⟨nm.toArray⟩, .slice A n c] 24) = w1 at *
        refine (HH.out f _ H.out.to).mono ?_; rintro e w2 ⟨rfl, hb2⟩
        replace H := Lib.hid (H.out.bel hb2); (try simp only [List.set_cons_zero, List.set_cons_succ, List.cons_append, List.nil_append, List.eraseIdx_cons_zero, List.eraseIdx_cons_succ, List.setIfInBounds_toArray, World.size_alloc, selR, List.getD_cons_zero, List.getD_cons_succ] at H)
        rw [dF]
        clear hb2
        go_wp2_with ((with_reducible show wpList _ _ _ (⟨some 14, _, _, _, _, _⟩ :: _) _ _); refine wpList_load_blkG (by first | rfl | go_simp) rowDm (.tmp 3) (by rfl) _ (by rfl) (H.out.blk 0 rfl) rfl ?_)
        refine (HH.out t _ H.out.to).mono ?_; rintro e w3 ⟨rfl, hb3⟩
        replace H := Lib.hid (H.out.bel hb3); (try simp only [List.set_cons_zero, List.set_cons_succ, List.cons_append, List.nil_append, List.eraseIdx_cons_zero, List.eraseIdx_cons_succ, List.setIfInBounds_toArray, World.size_alloc, selR, List.getD_cons_zero, List.getD_cons_succ] at H)
        rw [dT]
        clear hb3
        go_wp2
        go_ret
        rw [HE.out]
        exact intsPost_nil H.out.to
      · have d1 : decide (t < f) = false := by simp; omega
        obtain ⟨f, rfl⟩ : ∃ k : Nat, f = k := ⟨f.toNat, by omega⟩
        obtain ⟨t, rfl⟩ : ∃ k : Nat, t = k := ⟨t.toNat, by omega⟩
        have d1n : decide (t < f) = false := by simp; omega
        have hfn : f < n := by omega
        obtain ⟨m, hm⟩ : ∃ m, m = (mapOf (trs.map Tir.con) f t).length := ⟨_, rfl⟩
        have hm2 : m = sizeAt (trs.map Tir.con) f := by rw [hm]; exact mapOf_len (by omega) (by omega)
        have HM := Lib.hid hm
        have HM2 := Lib.hid hm2
        clear hml hm hm2
        go_enter Try.func81, Try.ntmps81
        go_wp2_with fail
        generalize w.heap.size = x at *
        generalize w.alloc (.cells #[.string ⟨nm.toArray⟩, .slice A n c] 24) = w1 at *
        refine (HH.out f _ H.out.to).mono ?_; rintro e w2 ⟨rfl, hb2⟩
        replace H := Lib.hid (H.out.bel hb2); (try simp only [List.set_cons_zero, List.set_cons_succ, List.cons_append, List.nil_append, List.eraseIdx_cons_zero, List.eraseIdx_cons_succ, List.setIfInBounds_toArray, World.size_alloc, selR, List.getD_cons_zero, List.getD_cons_succ] at H)
        rw [dF]
        clear hb2
        go_wp2_with ((with_reducible show wpList _ _ _ (⟨some 14, _, _, _, _, _⟩ :: _) _ _); refine wpList_load_blkG (by first | rfl | go_simp) rowDm (.tmp 3) (by rfl) _ (by rfl) (H.out.blk 0 rfl) rfl ?_)
        refine (HH.out t _ H.out.to).mono ?_; rintro e w3 ⟨rfl, hb3⟩
        replace H := Lib.hid (H.out.bel hb3); (try simp only [List.set_cons_zero, List.set_cons_succ, List.cons_append, List.nil_append, List.eraseIdx_cons_zero, List.eraseIdx_cons_succ, List.setIfInBounds_toArray, World.size_alloc, selR, List.getD_cons_zero, List.getD_cons_succ] at H)
        rw [dT]
        clear hb3
        obtain ⟨bb, oo, T, hA, hbb, hT0, hTr, hrg⟩ := (HD.out.mono H.out.to).tirAt (k := f) hfn
        simp only at hA
        subst hA
        have hTm : m = T.ts.n := by rw [HM2.out, sizeAt_tir hT0]; exact hTr.ts.len
        have hTn := HSZ.out T (List.mem_of_getElem? hT0)
        have hc0 := hrg 1 _ rfl
        rw [← hTm] at hc0 hTn
        have i2 : (0 : Int) ≤ f := by omega
        have i3 : (f : Int) < n := by omega
        have c0 := (H.out.blk 0 rfl).cell 1; simp only [List.getElem?_toArray, List.getElem?_cons_zero, List.getElem?_cons_succ] at c0
        clear hT0 hTr hrg hTm hbb HM2
        go_wp2_with fail
        clear c0 hc0
        rw [← List.take_zero (l := (mapOf (trs.map Tir.con) f t).map (Value.int .i64))] at H
        clear d1 d1n dF dT
        go_loopg [7, 31] m (fun gg s7 s31 wr => ∃ (k : Nat) (B : Option Addr) (cc : Nat), gg = m - k ∧ k ≤ m ∧ s31 = .int .i64 k ∧ s7 = .slice B k cc ∧ Hid (SL No w wr [rBlk x 24 #[.string ⟨nm.toArray⟩, .slice (some ⟨bb, oo, none⟩) n c], rRow 3 1 (.slice B k cc) k (((mapOf (trs.map Tir.con) f t).map (Value.int .i64)).take k)]))
        case atStart => exact ⟨0, none, 0, rfl, by omega, rfl, rfl, H⟩
        case round =>
          clear H
          obtain ⟨k, B, cc, hgk, hk, rfl, rfl, H⟩ := hrel
          have Hgk := Lib.hid hgk
          clear hgk
          by_cases hlt : k < m
          · have hi : I64 ((k : Nat) : Int) := by unfold I64; omega
            have HX := Lib.hid (take_snoc_get (l := (mapOf (trs.map Tir.con) f t).map (Value.int .i64)) (k := k) (x := .int .i64 (liftOf (trs.map Tir.con) f t k)) (by rw [List.getElem?_map, mapOf_get (by rw [← HM.out]; exact hlt)]; rfl))
            go_wp2_with ((with_reducible show wpList _ _ _ (⟨some 35, _, _, _, _, _⟩ :: _) _ _); (refine wpList_load_blk rfl rowDm (.tmp 3) rfl _ rfl (H.out.blk 0 rfl) rfl ?_))
            refine (HLf.out k _ H.out.to hi).mono ?_; rintro e w5 ⟨rfl, hb5⟩
            replace H := Lib.hid (H.out.bel hb5); (try simp only [List.set_cons_zero, List.set_cons_succ, List.cons_append, List.nil_append, List.eraseIdx_cons_zero, List.eraseIdx_cons_succ, List.setIfInBounds_toArray, World.size_alloc, selR, List.getD_cons_zero, List.getD_cons_succ] at H)
            clear hb5
            go_wp2_with ((with_reducible show wpList _ _ _ (⟨some 41, _, _, _, _, _⟩ :: _) _ _); (replace H := Lib.hid (H.out.alloc #[.int .i64 (liftOf (trs.map Tir.con) f t k)] 3); (try simp only [List.set_cons_zero, List.set_cons_succ, List.cons_append, List.nil_append, List.eraseIdx_cons_zero, List.eraseIdx_cons_succ, List.setIfInBounds_toArray, World.size_alloc, selR, List.getD_cons_zero, List.getD_cons_succ] at H); refine wpList_append0 rfl (.tmp 34) (.tmp 40) _ rfl E_num 0 (Nat.zero_le _) _ k _ rfl (H.out.row 1 rfl) _ 1 1 [.int .i64 (liftOf (trs.map Tir.con) f t k)] rfl (reads_of_block (H.out.blk 2 rfl) rfl) (by simp [Value.oneCell']) (by unfold maxLen; omega) (by omega) ?_; intro vq wq howq hgq hatq; replace H := Lib.hid (H.out.setRow 1 rfl hgq howq hatq); (try simp only [List.set_cons_zero, List.set_cons_succ, List.cons_append, List.nil_append, List.eraseIdx_cons_zero, List.eraseIdx_cons_succ, List.setIfInBounds_toArray, World.size_alloc, selR, List.getD_cons_zero, List.getD_cons_succ] at H); clear howq hgq hatq; obtain ⟨A2, c2, rfl, _⟩ := own_slice (H.out.row 1 rfl)))
            replace H := Lib.hid (H.out.sel [0, 1] (by decide) (by simp)); (try simp only [List.set_cons_zero, List.set_cons_succ, List.cons_append, List.nil_append, List.eraseIdx_cons_zero, List.eraseIdx_cons_succ, List.setIfInBounds_toArray, World.size_alloc, selR, List.getD_cons_zero, List.getD_cons_succ] at H)
            rw [← HX.out] at H
            go_roundg (m - (k + 1))
            case rel => exact ⟨k + 1, A2, c2, rfl, by omega, by go_num, rfl, H⟩
            case measure => rw [Hgk.out]; omega
          · obtain rfl : k = m := by omega
            go_wp2
            go_ret
            have hr := H.out.rowB 1 rfl
            rw [List.take_of_length_le (by rw [List.length_map, ← HM.out]; omega)] at hr
            refine ⟨B, cc, ?_, H.out.to, ?_⟩
            · rw [← HM.out]; rfl
            · rw [← HM.out]; exact hr
    · have dT : decide (0 ≤ t ∧ t < (n : Int)) = false := by simp; omega
      have HE : Hid (mapOf (trs.map Tir.con) f t = []) := mapOf_no (by omega)
      clear hml
      go_enter Try.func81, Try.ntmps81
      go_wp2_with fail
      generalize w.heap.size = x at *
      generalize w.alloc (.cells #[.string ⟨nm.toArray⟩, .slice A n c] 24) = w1 at *
      refine (HH.out f _ H.out.to).mono ?_; rintro e w2 ⟨rfl, hb2⟩
      replace H := Lib.hid (H.out.bel hb2); (try simp only [List.set_cons_zero, List.set_cons_succ, List.cons_append, List.nil_append, List.eraseIdx_cons_zero, List.eraseIdx_cons_succ, List.setIfInBounds_toArray, World.size_alloc, selR, List.getD_cons_zero, List.getD_cons_succ] at H)
      rw [dF]
      clear hb2
      go_wp2_with ((with_reducible show wpList _ _ _ (⟨some 14, _, _, _, _, _⟩ :: _) _ _); refine wpList_load_blkG (by first | rfl | go_simp) rowDm (.tmp 3) (by rfl) _ (by rfl) (H.out.blk 0 rfl) rfl ?_)
      refine (HH.out t _ H.out.to).mono ?_; rintro e w3 ⟨rfl, hb3⟩
      replace H := Lib.hid (H.out.bel hb3); (try simp only [List.set_cons_zero, List.set_cons_succ, List.cons_append, List.nil_append, List.eraseIdx_cons_zero, List.eraseIdx_cons_succ, List.setIfInBounds_toArray, World.size_alloc, selR, List.getD_cons_zero, List.getD_cons_succ] at H)
      rw [dT]
      clear hb3
      go_wp2
      go_ret
      rw [HE.out]
      exact intsPost_nil H.out.to
  · have dF : decide (0 ≤ f ∧ f < (n : Int)) = false := by simp; omega
    have HE : Hid (mapOf (trs.map Tir.con) f t = []) := mapOf_no (by omega)
    clear hml
    go_enter Try.func81, Try.ntmps81
    go_wp2_with fail
    generalize w.heap.size = x at *
    generalize w.alloc (.cells #[.string ⟨nm.toArray⟩, .slice A n c] 24) = w1 at *
    refine (HH.out f _ H.out.to).mono ?_; rintro e w2 ⟨rfl, hb2⟩
    replace H := Lib.hid (H.out.bel hb2); (try simp only [List.set_cons_zero, List.set_cons_succ, List.cons_append, List.nil_append, List.eraseIdx_cons_zero, List.eraseIdx_cons_succ, List.setIfInBounds_toArray, World.size_alloc, selR, List.getD_cons_zero, List.getD_cons_succ] at H)
    rw [dF]
    clear hb2
    go_wp2
    go_ret
    rw [HE.out]
    exact intsPost_nil H.out.to

set_option maxRecDepth 100000 in
set_option maxHeartbeats 1000000 in
theorem dmdrill_any (d : Dm) (f t x : Int) (w : World) (hd : d.rd w) (hf : I64 f) (ht : I64 t) (hx : I64 x) (hn : d.tr.n ≤ 1000000) (hs : ∀ T ∈ d.tr.l, T.ts.n ≤ 100000) (hm : (mapOf (d.tr.l.map Tir.con) f t).length ≤ 100000) :
    Calls Try.prog 19 #[.agg d.cs, .int .i64 f, .int .i64 t, .int .i64 x] w (IntsPost (drillOf (d.tr.l.map Tir.con) f t x) w) := by
  have HMp := Lib.hid (fun w' (hb : Bel w w') => dmmap_any d f t w' (hd.mono hb) hf ht hn hs)
  have HDr : Hid (drillOf (d.tr.l.map Tir.con) f t x = if 0 ≤ x then placesOf x 0 (mapOf (d.tr.l.map Tir.con) f t) else []) := rfl
  have H := Lib.hid (((SL.start No w).alloc d.cs 24).addNil 3 1)
  (try simp only [List.set_cons_zero, List.set_cons_succ, List.cons_append, List.nil_append, List.eraseIdx_cons_zero, List.eraseIdx_cons_succ, List.setIfInBounds_toArray, World.size_alloc, selR, List.getD_cons_zero, List.getD_cons_succ] at H)
  generalize mapOf (d.tr.l.map Tir.con) f t = xs at *
  generalize drillOf (d.tr.l.map Tir.con) f t x = dr at *
  obtain ⟨m, hml⟩ : ∃ m, m = xs.length := ⟨_, rfl⟩
  have HML := Lib.hid hml
  rw [← hml] at hm
  have hcs : d.cs = #[.string ⟨d.nm.toArray⟩, .slice d.tr.A d.tr.n d.tr.c] := rfl
  generalize d.cs = cs at *
  subst hcs
  clear hd hf ht hs hml
  go_enter Try.func19, Try.ntmps19
  go_wp2_with fail
  refine (HMp.out _ H.out.to).mono ?_; rintro e w1 ⟨C, cC, rfl, hb1, hrC⟩
  replace H := Lib.hid (H.out.addRow hb1 hrC); (try simp only [List.set_cons_zero, List.set_cons_succ, List.cons_append, List.nil_append, List.eraseIdx_cons_zero, List.eraseIdx_cons_succ, List.setIfInBounds_toArray, World.size_alloc, selR, List.getD_cons_zero, List.getD_cons_succ] at H)
  rw [← HML.out] at H ⊢
  clear hb1 hrC HMp
  generalize w.heap.size = x1 at *
  go_wp2_with fail
  have HE : Hid (dr = ([] : List Int) ++ if 0 ≤ x then placesOf x 0 (xs.drop 0) else []) := HDr.out
  clear HDr
  go_loopg [9, 17] m (fun gg s9 s17 wr => ∃ (k : Nat) (ds : List Int) (B : Option Addr) (cc : Nat), gg = m - k ∧ k ≤ m ∧ s17 = .int .i64 k ∧ s9 = .slice B ds.length cc ∧ ds.length ≤ k ∧ Hid (SL No w wr [rBlk x1 24 #[.string ⟨d.nm.toArray⟩, .slice d.tr.A d.tr.n d.tr.c], rRow 3 1 (.slice B ds.length cc) ds.length (ds.map (Value.int .i64)), rRow 3 1 (.slice C m cC) m (xs.map (Value.int .i64))]) ∧ Hid (dr = ds ++ if 0 ≤ x then placesOf x k (xs.drop k) else []))
  case atStart => exact ⟨0, [], none, 0, rfl, by omega, rfl, rfl, by simp, H, HE⟩
  case round =>
    clear H HE
    obtain ⟨k, ds, B, cc, hgk, hk, rfl, rfl, hdk, H, HE⟩ := hrel
    have Hgk := Lib.hid hgk
    clear hgk
    by_cases hlt : k < m
    · obtain ⟨ad, z, hCe, hz, hc⟩ := Rd.intC (Rd.of_own (H.out.row 2 rfl)) hlt
      subst hCe
      have HSt := Lib.hid (placesOf_drop (x := x) hz)
      have HZ := Lib.hid hz
      clear hz
      by_cases hzx : z = x ∧ 0 ≤ x
      · obtain ⟨hzx, hx0⟩ := hzx
        have HN : Hid (dr = (ds ++ [(k : Int)]) ++ if 0 ≤ x then placesOf x (k + 1) (xs.drop (k + 1)) else []) := by show _ = _; rw [HE.out, HSt.out, if_pos hzx, if_pos hx0, if_pos hx0, List.append_assoc]; rfl
        have e1 : (z == x) = true := by simp [hzx]
        have e2 : decide ((0 : Int) ≤ x) = true := by simpa using hx0
        clear HE HSt hzx
        go_wp2_with ((with_reducible show wpList _ _ _ (⟨some 32, _, _, _, _, _⟩ :: _) _ _); (replace H := Lib.hid (H.out.alloc #[.int .i64 (k : Int)] 3); (try simp only [List.set_cons_zero, List.set_cons_succ, List.cons_append, List.nil_append, List.eraseIdx_cons_zero, List.eraseIdx_cons_succ, List.setIfInBounds_toArray, World.size_alloc, selR, List.getD_cons_zero, List.getD_cons_succ] at H); refine wpList_append0 rfl (.tmp 29) (.tmp 31) _ rfl E_num 0 (Nat.zero_le _) _ ds.length _ rfl (H.out.row 1 rfl) _ 1 1 [.int .i64 (k : Int)] rfl (reads_of_block (H.out.blk 3 rfl) rfl) (by simp [Value.oneCell']) (by unfold maxLen; omega) (by omega) ?_; intro vq wq howq hgq hatq; replace H := Lib.hid (H.out.setRow 1 rfl hgq howq hatq); (try simp only [List.set_cons_zero, List.set_cons_succ, List.cons_append, List.nil_append, List.eraseIdx_cons_zero, List.eraseIdx_cons_succ, List.setIfInBounds_toArray, World.size_alloc, selR, List.getD_cons_zero, List.getD_cons_succ] at H); clear howq hgq hatq; obtain ⟨A2, c2, rfl, _⟩ := own_slice (H.out.row 1 rfl)))
        replace H := Lib.hid (H.out.sel [0, 1, 2] (by decide) (by simp)); (try simp only [List.set_cons_zero, List.set_cons_succ, List.cons_append, List.nil_append, List.eraseIdx_cons_zero, List.eraseIdx_cons_succ, List.setIfInBounds_toArray, World.size_alloc, selR, List.getD_cons_zero, List.getD_cons_succ] at H)
        go_roundg (m - (k + 1))
        case rel => exact ⟨k + 1, ds ++ [(k : Int)], A2, c2, rfl, by omega, by go_num, by rw [List.length_append]; rfl, by simp; omega, by show SL _ _ _ _; rw [List.length_append, List.map_append]; exact H, HN⟩
        case measure => rw [Hgk.out]; omega
      · have HN : Hid (dr = ds ++ if 0 ≤ x then placesOf x (k + 1) (xs.drop (k + 1)) else []) := by
          show _ = _
          rw [HE.out, HSt.out]
          by_cases hx0 : 0 ≤ x
          · rw [if_pos hx0, if_pos hx0, if_neg (fun h => hzx ⟨h, hx0⟩)]
          · rw [if_neg hx0, if_neg hx0]
        have e0 : (z == x) = false ∨ ((z == x) = true ∧ decide ((0 : Int) ≤ x) = false) := by
          by_cases h : z = x
          · right; refine ⟨by simp [h], ?_⟩; simp; have := fun h0 => hzx ⟨h, h0⟩; omega
          · left; simp [h]
        clear HE HSt hzx
        rcases e0 with e1 | ⟨e1, e2⟩
        all_goals
          go_wp2
          go_roundg (m - (k + 1))
          case rel => exact ⟨k + 1, ds, B, cc, rfl, by omega, by go_num, rfl, by omega, H, HN⟩
          case measure => rw [Hgk.out]; omega
    · have HN : Hid (dr = ds) := by show _ = _; rw [HE.out, List.drop_of_length_le (by have := HML.out; omega)]; simp [placesOf]
      clear HE
      go_wp2
      go_ret
      rw [HN.out]
      exact ⟨B, cc, rfl, H.out.to, H.out.rowB 1 rfl⟩

end Go.Proofs.Ytnjpoamebkehbaa
