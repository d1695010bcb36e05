/- schema.Shape; the chapter's example (law 17). -/
import Derived.Test.YtnjpoamebkehbaaSchX
import Derived.Test.YtnjpoamebkehbaaSchR
import Derived.Test.YtnjpoamebkehbaaDimA
namespace Go.Proofs.Ytnjpoamebkehbaa
open Go.RowKit
set_option linter.unusedVariables false
set_option linter.unusedSimpArgs false

theorem E_intss : ElemInfo Try.prog 153 28 1 24 := ElemInfo.mk' (z := .slice none 0 0) Try.underlying153 (by kernel_rfl) rfl (by omega)
theorem rowShp : RowTy Try.prog 155 2 := ⟨⟨_, Try.underlying155, rfl⟩, by kernel_rfl⟩
section
variable {P : Program} {w : World}
theorem step_load_blk {ops : Array Oper} {o : Oper} {a : Act} {K : Act → World → Prop} {Q : Exit → Act → World → Prop} {X : Prop} (hgd : o.guard = none) {ty : TypeId} {n : Nat} (R : RowTy P ty n) (x : Operand) (ho : o.op = .load ty x)
    (g : Nat) (hx : a.eval x = .pointer (some ⟨g, 0, none⟩)) {t : TypeId} {cs : Array Value} (hb : Blk w g t cs) (hn : cs.size = n)
    (h : K (a.put o.dst (.agg cs)) w) : if Region.wanted o (yielded ops a.tmps) = true then Oper.wp P o a w K Q else X := by
  have hw : Region.wanted o (yielded ops a.tmps) = true := by simp [Region.wanted, hgd]
  rw [if_pos hw]
  obtain ⟨d, hu, hd⟩ := R.hu
  exact wp_load_mid ty x ho g 0 hx cs.toList d hb.range hu hd (by rw [R.hi]; simp [hn]) (by simpa using h)
end
set_option maxRecDepth 100000 in
set_option maxHeartbeats 1000000 in
theorem shape_any (s : Sch) (w : World) (hs : s.rd w) (hn : s.dm.n ≤ 1000000) (hd : ∀ d ∈ s.dm.l, d.tr.n ≤ 1000000) :
    Calls Try.prog 108 #[.agg s.cs] w fun e w' => ∃ (A : Option Addr) (k c : Nat), e = .returned (.agg #[.slice A k c, .int .i64 s.ms.n]) ∧ Bel w w' := by
  have HD := Lib.hid hs.dm
  have HDD := Lib.hid hd
  have H := Lib.hid (((SL.start No w).alloc s.cs 70).alloc #[.slice none 0 0, .int .i64 0] 155)
  (try simp only [List.set_cons_zero, List.set_cons_succ, List.cons_append, List.nil_append, List.eraseIdx_cons_zero, List.eraseIdx_cons_succ, List.setIfInBounds_toArray, World.size_alloc, selR, List.getD_cons_zero, List.getD_cons_succ] at H)
  obtain ⟨⟨A, n, c, ds⟩, ⟨A2, n2, c2, ms⟩⟩ := s
  simp only [Sch.cs] at *
  clear hs hd
  go_enter Try.func108, Try.ntmps108
  have c0 := (H.out.blk 0 rfl).cell 1; simp only [List.getElem?_toArray, List.getElem?_cons_zero, List.getElem?_cons_succ] at c0
  go_wp2_with ((with_reducible show wpList _ _ _ (⟨_, .store _ (.tmp 3) _, _, _, _, _⟩ :: _) _ _); (replace H := Lib.hid (H.out.alloc #[.slice none 0 0, .int .i64 0] 155); (try simp only [List.set_cons_zero, List.set_cons_succ, List.cons_append, List.nil_append, List.eraseIdx_cons_zero, List.eraseIdx_cons_succ, List.setIfInBounds_toArray, World.size_alloc, selR, List.getD_cons_zero, List.getD_cons_succ] at H); refine wpList_store_blk rfl rowShp (.tmp 3) (.tmp 9) rfl _ rfl (H.out.blk 2 rfl) rfl (#[.slice none 0 0, .int .i64 n2]) rfl rfl (by simp [Value.oneCell']) ?_; intro wq bq hgq; replace H := Lib.hid (H.out.setBlk 2 rfl hgq bq); (try simp only [List.set_cons_zero, List.set_cons_succ, List.cons_append, List.nil_append, List.eraseIdx_cons_zero, List.eraseIdx_cons_succ, List.setIfInBounds_toArray, World.size_alloc, selR, List.getD_cons_zero, List.getD_cons_succ] at H); clear hgq bq; clear c0; have c0 := (H.out.blk 0 rfl).cell 0; simp only [List.getElem?_toArray, List.getElem?_cons_zero, List.getElem?_cons_succ] at c0))
  clear c0
  replace H := Lib.hid (H.out.addNil 28 1); (try simp only [List.set_cons_zero, List.set_cons_succ, List.cons_append, List.nil_append, List.eraseIdx_cons_zero, List.eraseIdx_cons_succ, List.setIfInBounds_toArray, World.size_alloc, selR, List.getD_cons_zero, List.getD_cons_succ] at H)
  generalize w.heap.size + 1 + 1 = y at *
  generalize w.heap.size + 1 = z at *
  generalize w.heap.size = x at *
  go_loopg [13] n (fun gg s13 wr => ∃ (k : Nat) (B : Option Addr) (d : Nat) (xs : List Value), gg = n - k ∧ k ≤ n ∧ s13 = .int .i64 k ∧ Hid (SL No w wr [rBlk x 70 #[.slice A n c, .slice A2 n2 c2], rBlk z 155 #[.slice none 0 0, .int .i64 0], rBlk y 155 #[.slice B k d, .int .i64 n2], rRow 28 1 (.slice B k d) k xs]))
  case atStart => exact ⟨0, none, 0, [], rfl, by omega, rfl, H⟩
  case round =>
    clear H
    obtain ⟨k, B, dd, xs, hgk, hk, rfl, H⟩ := hrel
    have Hgk := Lib.hid hgk
    clear hgk
    by_cases hlt : k < n
    · obtain ⟨bb, oo, d, hA, hbb, hdk, hdr, hrg⟩ := (HD.out.mono H.out.to).dmAt (k := k) hlt
      simp only at hA
      subst hA
      have hu1 := HDD.out d (List.mem_of_getElem? hdk)
      have HR := Lib.hid hrg
      have HRd := Lib.hid (fun w' (hb : Bel w w') => (HD.out.mono hb).all d (List.mem_of_getElem? hdk))
      have HSz := Lib.hid (fun w' (hb : Bel w w') => dmsizes_any d w' (HRd.out w' hb) hu1)
      clear hdk hdr hrg hbb
      go_upto_region 5 with (first | ((with_reducible show wpList _ _ _ (⟨some 16, _, _, _, _, _⟩ :: _) _ _); (refine wpList_load_row_at rfl rowDm (.tmp 15) rfl bb (oo + k * 2) rfl d.cs rfl HR.out ?_)) | ((with_reducible show wpList _ _ _ (⟨_, .store _ (.tmp 5) _, _, _, _, _⟩ :: _) _ _); (refine wpList_store_new rfl rowDm (.tmp 5) (.tmp 16) rfl rfl rfl (d.cs) rfl rfl (dm_one d) ?_; replace H := Lib.hid (H.out.alloc (d.cs) 24); (try simp only [List.set_cons_zero, List.set_cons_succ, List.cons_append, List.nil_append, List.eraseIdx_cons_zero, List.eraseIdx_cons_succ, List.setIfInBounds_toArray, World.size_alloc, selR, List.getD_cons_zero, List.getD_cons_succ] at H))))
      refine wp_region_held_drew (S := fun _ => True) (by kernel_rfl) trivial (fun hHeld => ?_)
      replace H := Lib.hid (H.out.drew); (try simp only [List.set_cons_zero, List.set_cons_succ, List.cons_append, List.nil_append, List.eraseIdx_cons_zero, List.eraseIdx_cons_succ, List.setIfInBounds_toArray, World.size_alloc, selR, List.getD_cons_zero, List.getD_cons_succ] at H)
      refine wpAnyH_take (i := 0) (v := ?vq1_0) (get_o0) (by kernel_rfl) (by kernel_rfl) (by kernel_rfl) (by exact fun _ _ _ h => h) (Or.inl ⟨by rfl, ?hyq1_0⟩) (by assumption) ?_
      case hyq1_0 => (intro w hSw; (try dsimp only at hSw); go_simp) <;> with_reducible rfl
      try simp only [Act.put, List.setIfInBounds_toArray, List.set_cons_zero, List.set_cons_succ]
      refine wpAnyH_ready (rs := [1, 2]) (by kernel_rfl) (by simp) ?_
      refine (AllReadyH.cons (get_os (get_o0)) (fun KK hKK => ?_) (AllReadyH.cons (get_os (get_os (get_o0))) (fun KK hKK => ?_) AllReadyH.nil))
      · have c1 := (H.out.blk 2 rfl).cell 0; simp only [List.getElem?_toArray, List.getElem?_cons_zero, List.getElem?_cons_succ] at c1
        go_simp
        clear c1
        refine hKK.out _ _ trivial (fun hHeld => ?_)
        clear hKK KK
        try simp only [Act.put, List.setIfInBounds_toArray, List.set_cons_zero, List.set_cons_succ]
        refine wpAnyH_ready (rs := [2]) (by kernel_rfl) (by simp) ?_
        refine (AllReadyH.cons (get_os (get_os (get_o0))) (fun KK hKK => ?_) AllReadyH.nil)
        refine step_load_blk rfl rowDm (.tmp 5) rfl _ rfl (H.out.blk 4 rfl) rfl ?_
        refine hKK.out _ _ trivial (fun hHeld => ?_)
        clear hKK KK
        try simp only [Act.put, List.setIfInBounds_toArray, List.set_cons_zero, List.set_cons_succ]
        refine wpAnyH_ready (rs := [3]) (by kernel_rfl) (by simp) ?_
        refine (AllReadyH.cons (get_os (get_os (get_os (get_o0)))) (fun KK hKK => ?_) AllReadyH.nil)
        go_simp
        refine (HSz.out _ H.out.to).mono ?_; rintro e' w3 ⟨C, cC, rfl, hb3, hr3⟩
        replace H := Lib.hid (H.out.addRow hb3 hr3); (try simp only [List.set_cons_zero, List.set_cons_succ, List.cons_append, List.nil_append, List.eraseIdx_cons_zero, List.eraseIdx_cons_succ, List.setIfInBounds_toArray, World.size_alloc, selR, List.getD_cons_zero, List.getD_cons_succ] at H)
        clear hb3 hr3
        refine hKK.out _ _ trivial (fun hHeld => ?_)
        clear hKK KK
        try simp only [Act.put, List.setIfInBounds_toArray, List.set_cons_zero, List.set_cons_succ]
        refine wpAnyH_ready (rs := [4]) (by kernel_rfl) (by simp) ?_
        refine (AllReadyH.cons (get_os (get_os (get_os (get_os (get_o0))))) (fun KK hKK => ?_) AllReadyH.nil)
        refine step_buildSlice1v rfl E_intss (.tmp 20) rfl (.slice C (sizesOf (d.tr.l.map Tir.con)).length cC) rfl #[.slice C (sizesOf (d.tr.l.map Tir.con)).length cC] rfl rfl (by omega) ?_
        replace H := Lib.hid (H.out.alloc #[.slice C (sizesOf (d.tr.l.map Tir.con)).length cC] 28); (try simp only [List.set_cons_zero, List.set_cons_succ, List.cons_append, List.nil_append, List.eraseIdx_cons_zero, List.eraseIdx_cons_succ, List.setIfInBounds_toArray, World.size_alloc, selR, List.getD_cons_zero, List.getD_cons_succ] at H)
        refine hKK.out _ _ trivial (fun hHeld => ?_)
        clear hKK KK
        try simp only [Act.put, List.setIfInBounds_toArray, List.set_cons_zero, List.set_cons_succ]
        refine wpAnyH_ready (rs := [5]) (by kernel_rfl) (by simp) ?_
        refine (AllReadyH.cons (get_os (get_os (get_os (get_os (get_os (get_o0)))))) (fun KK hKK => ?_) AllReadyH.nil)
        refine step_append0 rfl (.tmp 18) (.tmp 21) _ rfl E_intss 0 (Nat.zero_le _) _ k _ rfl (H.out.row 3 rfl) _ 1 1 _ rfl (reads_of_block (H.out.blk 6 rfl) rfl) (by simp [Value.oneCell']) (by unfold maxLen; omega) (by omega) ?_
        intro vq wq howq hgq hatq
        replace H := Lib.hid (H.out.setRow 3 rfl hgq howq hatq); (try simp only [List.set_cons_zero, List.set_cons_succ, List.cons_append, List.nil_append, List.eraseIdx_cons_zero, List.eraseIdx_cons_succ, List.setIfInBounds_toArray, World.size_alloc, selR, List.getD_cons_zero, List.getD_cons_succ] at H)
        clear howq hgq hatq
        obtain ⟨A2, c2, rfl, _⟩ := own_slice (H.out.row 3 rfl)
        refine hKK.out _ _ trivial (fun hHeld => ?_)
        clear hKK KK
        try simp only [Act.put, List.setIfInBounds_toArray, List.set_cons_zero, List.set_cons_succ]
        refine wpAnyH_ready (rs := [6]) (by kernel_rfl) (by simp) ?_
        refine (AllReadyH.cons (get_os (get_os (get_os (get_os (get_os (get_os (get_o0))))))) (fun KK hKK => ?_) AllReadyH.nil)
        go_simp
        refine hKK.out _ _ trivial (fun hHeld => ?_)
        clear hKK KK
        try simp only [Act.put, List.setIfInBounds_toArray, List.set_cons_zero, List.set_cons_succ]
        refine wpAnyH_ready (rs := [7]) (by kernel_rfl) (by simp) ?_
        refine (AllReadyH.cons (get_os (get_os (get_os (get_os (get_os (get_os (get_os (get_o0)))))))) (fun KK hKK => ?_) AllReadyH.nil)
        have c1 := (H.out.blk 2 rfl).cell 0; simp only [List.getElem?_toArray, List.getElem?_cons_zero, List.getElem?_cons_succ] at c1; have f1 := (H.out.blk 2 rfl).frozen 0
        go_simp
        replace H := Lib.hid (H.out.setCell 2 rfl 0 (.slice A2 (k + 1) c2)); (try simp only [List.set_cons_zero, List.set_cons_succ, List.cons_append, List.nil_append, List.eraseIdx_cons_zero, List.eraseIdx_cons_succ, List.setIfInBounds_toArray, World.size_alloc, selR, List.getD_cons_zero, List.getD_cons_succ] at H)
        clear c1 f1
        refine hKK.out _ _ trivial (fun hHeld => ?_)
        clear hKK KK
        try simp only [Act.put, List.setIfInBounds_toArray, List.set_cons_zero, List.set_cons_succ]
        refine wpAnyH_done (by kernel_rfl) ?_ _
        clear hHeld
        replace H := Lib.hid (H.out.sel [0, 1, 2, 3] (by decide) (by simp)); (try simp only [List.set_cons_zero, List.set_cons_succ, List.cons_append, List.nil_append, List.eraseIdx_cons_zero, List.eraseIdx_cons_succ, List.setIfInBounds_toArray, World.size_alloc, selR, List.getD_cons_zero, List.getD_cons_succ] at H)
        go_wp2_with fail
        go_roundg (n - (k + 1))
        case rel => exact ⟨k + 1, A2, c2, _, rfl, by omega, by go_num, H⟩
        case measure => rw [Hgk.out]; omega
      · refine step_load_blk rfl rowDm (.tmp 5) rfl _ rfl (H.out.blk 4 rfl) rfl ?_
        refine hKK.out _ _ trivial (fun hHeld => ?_)
        clear hKK KK
        try simp only [Act.put, List.setIfInBounds_toArray, List.set_cons_zero, List.set_cons_succ]
        refine wpAnyH_ready (rs := [1, 3]) (by kernel_rfl) (by simp) ?_
        refine (AllReadyH.cons (get_os (get_o0)) (fun KK hKK => ?_) (AllReadyH.cons (get_os (get_os (get_os (get_o0)))) (fun KK hKK => ?_) AllReadyH.nil))
        · have c1 := (H.out.blk 2 rfl).cell 0; simp only [List.getElem?_toArray, List.getElem?_cons_zero, List.getElem?_cons_succ] at c1
          go_simp
          clear c1
          refine hKK.out _ _ trivial (fun hHeld => ?_)
          clear hKK KK
          try simp only [Act.put, List.setIfInBounds_toArray, List.set_cons_zero, List.set_cons_succ]
          refine wpAnyH_ready (rs := [3]) (by kernel_rfl) (by simp) ?_
          refine (AllReadyH.cons (get_os (get_os (get_os (get_o0)))) (fun KK hKK => ?_) AllReadyH.nil)
          go_simp
          refine (HSz.out _ H.out.to).mono ?_; rintro e' w3 ⟨C, cC, rfl, hb3, hr3⟩
          replace H := Lib.hid (H.out.addRow hb3 hr3); (try simp only [List.set_cons_zero, List.set_cons_succ, List.cons_append, List.nil_append, List.eraseIdx_cons_zero, List.eraseIdx_cons_succ, List.setIfInBounds_toArray, World.size_alloc, selR, List.getD_cons_zero, List.getD_cons_succ] at H)
          clear hb3 hr3
          refine hKK.out _ _ trivial (fun hHeld => ?_)
          clear hKK KK
          try simp only [Act.put, List.setIfInBounds_toArray, List.set_cons_zero, List.set_cons_succ]
          refine wpAnyH_ready (rs := [4]) (by kernel_rfl) (by simp) ?_
          refine (AllReadyH.cons (get_os (get_os (get_os (get_os (get_o0))))) (fun KK hKK => ?_) AllReadyH.nil)
          refine step_buildSlice1v rfl E_intss (.tmp 20) rfl (.slice C (sizesOf (d.tr.l.map Tir.con)).length cC) rfl #[.slice C (sizesOf (d.tr.l.map Tir.con)).length cC] rfl rfl (by omega) ?_
          replace H := Lib.hid (H.out.alloc #[.slice C (sizesOf (d.tr.l.map Tir.con)).length cC] 28); (try simp only [List.set_cons_zero, List.set_cons_succ, List.cons_append, List.nil_append, List.eraseIdx_cons_zero, List.eraseIdx_cons_succ, List.setIfInBounds_toArray, World.size_alloc, selR, List.getD_cons_zero, List.getD_cons_succ] at H)
          refine hKK.out _ _ trivial (fun hHeld => ?_)
          clear hKK KK
          try simp only [Act.put, List.setIfInBounds_toArray, List.set_cons_zero, List.set_cons_succ]
          refine wpAnyH_ready (rs := [5]) (by kernel_rfl) (by simp) ?_
          refine (AllReadyH.cons (get_os (get_os (get_os (get_os (get_os (get_o0)))))) (fun KK hKK => ?_) AllReadyH.nil)
          refine step_append0 rfl (.tmp 18) (.tmp 21) _ rfl E_intss 0 (Nat.zero_le _) _ k _ rfl (H.out.row 3 rfl) _ 1 1 _ rfl (reads_of_block (H.out.blk 6 rfl) rfl) (by simp [Value.oneCell']) (by unfold maxLen; omega) (by omega) ?_
          intro vq wq howq hgq hatq
          replace H := Lib.hid (H.out.setRow 3 rfl hgq howq hatq); (try simp only [List.set_cons_zero, List.set_cons_succ, List.cons_append, List.nil_append, List.eraseIdx_cons_zero, List.eraseIdx_cons_succ, List.setIfInBounds_toArray, World.size_alloc, selR, List.getD_cons_zero, List.getD_cons_succ] at H)
          clear howq hgq hatq
          obtain ⟨A2, c2, rfl, _⟩ := own_slice (H.out.row 3 rfl)
          refine hKK.out _ _ trivial (fun hHeld => ?_)
          clear hKK KK
          try simp only [Act.put, List.setIfInBounds_toArray, List.set_cons_zero, List.set_cons_succ]
          refine wpAnyH_ready (rs := [6]) (by kernel_rfl) (by simp) ?_
          refine (AllReadyH.cons (get_os (get_os (get_os (get_os (get_os (get_os (get_o0))))))) (fun KK hKK => ?_) AllReadyH.nil)
          go_simp
          refine hKK.out _ _ trivial (fun hHeld => ?_)
          clear hKK KK
          try simp only [Act.put, List.setIfInBounds_toArray, List.set_cons_zero, List.set_cons_succ]
          refine wpAnyH_ready (rs := [7]) (by kernel_rfl) (by simp) ?_
          refine (AllReadyH.cons (get_os (get_os (get_os (get_os (get_os (get_os (get_os (get_o0)))))))) (fun KK hKK => ?_) AllReadyH.nil)
          have c1 := (H.out.blk 2 rfl).cell 0; simp only [List.getElem?_toArray, List.getElem?_cons_zero, List.getElem?_cons_succ] at c1; have f1 := (H.out.blk 2 rfl).frozen 0
          go_simp
          replace H := Lib.hid (H.out.setCell 2 rfl 0 (.slice A2 (k + 1) c2)); (try simp only [List.set_cons_zero, List.set_cons_succ, List.cons_append, List.nil_append, List.eraseIdx_cons_zero, List.eraseIdx_cons_succ, List.setIfInBounds_toArray, World.size_alloc, selR, List.getD_cons_zero, List.getD_cons_succ] at H)
          clear c1 f1
          refine hKK.out _ _ trivial (fun hHeld => ?_)
          clear hKK KK
          try simp only [Act.put, List.setIfInBounds_toArray, List.set_cons_zero, List.set_cons_succ]
          refine wpAnyH_done (by kernel_rfl) ?_ _
          clear hHeld
          replace H := Lib.hid (H.out.sel [0, 1, 2, 3] (by decide) (by simp)); (try simp only [List.set_cons_zero, List.set_cons_succ, List.cons_append, List.nil_append, List.eraseIdx_cons_zero, List.eraseIdx_cons_succ, List.setIfInBounds_toArray, World.size_alloc, selR, List.getD_cons_zero, List.getD_cons_succ] at H)
          go_wp2_with fail
          go_roundg (n - (k + 1))
          case rel => exact ⟨k + 1, A2, c2, _, rfl, by omega, by go_num, H⟩
          case measure => rw [Hgk.out]; omega
        · go_simp
          refine (HSz.out _ H.out.to).mono ?_; rintro e' w3 ⟨C, cC, rfl, hb3, hr3⟩
          replace H := Lib.hid (H.out.addRow hb3 hr3); (try simp only [List.set_cons_zero, List.set_cons_succ, List.cons_append, List.nil_append, List.eraseIdx_cons_zero, List.eraseIdx_cons_succ, List.setIfInBounds_toArray, World.size_alloc, selR, List.getD_cons_zero, List.getD_cons_succ] at H)
          clear hb3 hr3
          refine hKK.out _ _ trivial (fun hHeld => ?_)
          clear hKK KK
          try simp only [Act.put, List.setIfInBounds_toArray, List.set_cons_zero, List.set_cons_succ]
          refine wpAnyH_ready (rs := [1, 4]) (by kernel_rfl) (by simp) ?_
          refine (AllReadyH.cons (get_os (get_o0)) (fun KK hKK => ?_) (AllReadyH.cons (get_os (get_os (get_os (get_os (get_o0))))) (fun KK hKK => ?_) AllReadyH.nil))
          · have c1 := (H.out.blk 2 rfl).cell 0; simp only [List.getElem?_toArray, List.getElem?_cons_zero, List.getElem?_cons_succ] at c1
            go_simp
            clear c1
            refine hKK.out _ _ trivial (fun hHeld => ?_)
            clear hKK KK
            try simp only [Act.put, List.setIfInBounds_toArray, List.set_cons_zero, List.set_cons_succ]
            refine wpAnyH_ready (rs := [4]) (by kernel_rfl) (by simp) ?_
            refine (AllReadyH.cons (get_os (get_os (get_os (get_os (get_o0))))) (fun KK hKK => ?_) AllReadyH.nil)
            refine step_buildSlice1v rfl E_intss (.tmp 20) rfl (.slice C (sizesOf (d.tr.l.map Tir.con)).length cC) rfl #[.slice C (sizesOf (d.tr.l.map Tir.con)).length cC] rfl rfl (by omega) ?_
            replace H := Lib.hid (H.out.alloc #[.slice C (sizesOf (d.tr.l.map Tir.con)).length cC] 28); (try simp only [List.set_cons_zero, List.set_cons_succ, List.cons_append, List.nil_append, List.eraseIdx_cons_zero, List.eraseIdx_cons_succ, List.setIfInBounds_toArray, World.size_alloc, selR, List.getD_cons_zero, List.getD_cons_succ] at H)
            refine hKK.out _ _ trivial (fun hHeld => ?_)
            clear hKK KK
            try simp only [Act.put, List.setIfInBounds_toArray, List.set_cons_zero, List.set_cons_succ]
            refine wpAnyH_ready (rs := [5]) (by kernel_rfl) (by simp) ?_
            refine (AllReadyH.cons (get_os (get_os (get_os (get_os (get_os (get_o0)))))) (fun KK hKK => ?_) AllReadyH.nil)
            refine step_append0 rfl (.tmp 18) (.tmp 21) _ rfl E_intss 0 (Nat.zero_le _) _ k _ rfl (H.out.row 3 rfl) _ 1 1 _ rfl (reads_of_block (H.out.blk 6 rfl) rfl) (by simp [Value.oneCell']) (by unfold maxLen; omega) (by omega) ?_
            intro vq wq howq hgq hatq
            replace H := Lib.hid (H.out.setRow 3 rfl hgq howq hatq); (try simp only [List.set_cons_zero, List.set_cons_succ, List.cons_append, List.nil_append, List.eraseIdx_cons_zero, List.eraseIdx_cons_succ, List.setIfInBounds_toArray, World.size_alloc, selR, List.getD_cons_zero, List.getD_cons_succ] at H)
            clear howq hgq hatq
            obtain ⟨A2, c2, rfl, _⟩ := own_slice (H.out.row 3 rfl)
            refine hKK.out _ _ trivial (fun hHeld => ?_)
            clear hKK KK
            try simp only [Act.put, List.setIfInBounds_toArray, List.set_cons_zero, List.set_cons_succ]
            refine wpAnyH_ready (rs := [6]) (by kernel_rfl) (by simp) ?_
            refine (AllReadyH.cons (get_os (get_os (get_os (get_os (get_os (get_os (get_o0))))))) (fun KK hKK => ?_) AllReadyH.nil)
            go_simp
            refine hKK.out _ _ trivial (fun hHeld => ?_)
            clear hKK KK
            try simp only [Act.put, List.setIfInBounds_toArray, List.set_cons_zero, List.set_cons_succ]
            refine wpAnyH_ready (rs := [7]) (by kernel_rfl) (by simp) ?_
            refine (AllReadyH.cons (get_os (get_os (get_os (get_os (get_os (get_os (get_os (get_o0)))))))) (fun KK hKK => ?_) AllReadyH.nil)
            have c1 := (H.out.blk 2 rfl).cell 0; simp only [List.getElem?_toArray, List.getElem?_cons_zero, List.getElem?_cons_succ] at c1; have f1 := (H.out.blk 2 rfl).frozen 0
            go_simp
            replace H := Lib.hid (H.out.setCell 2 rfl 0 (.slice A2 (k + 1) c2)); (try simp only [List.set_cons_zero, List.set_cons_succ, List.cons_append, List.nil_append, List.eraseIdx_cons_zero, List.eraseIdx_cons_succ, List.setIfInBounds_toArray, World.size_alloc, selR, List.getD_cons_zero, List.getD_cons_succ] at H)
            clear c1 f1
            refine hKK.out _ _ trivial (fun hHeld => ?_)
            clear hKK KK
            try simp only [Act.put, List.setIfInBounds_toArray, List.set_cons_zero, List.set_cons_succ]
            refine wpAnyH_done (by kernel_rfl) ?_ _
            clear hHeld
            replace H := Lib.hid (H.out.sel [0, 1, 2, 3] (by decide) (by simp)); (try simp only [List.set_cons_zero, List.set_cons_succ, List.cons_append, List.nil_append, List.eraseIdx_cons_zero, List.eraseIdx_cons_succ, List.setIfInBounds_toArray, World.size_alloc, selR, List.getD_cons_zero, List.getD_cons_succ] at H)
            go_wp2_with fail
            go_roundg (n - (k + 1))
            case rel => exact ⟨k + 1, A2, c2, _, rfl, by omega, by go_num, H⟩
            case measure => rw [Hgk.out]; omega
          · refine step_buildSlice1v rfl E_intss (.tmp 20) rfl (.slice C (sizesOf (d.tr.l.map Tir.con)).length cC) rfl #[.slice C (sizesOf (d.tr.l.map Tir.con)).length cC] rfl rfl (by omega) ?_
            replace H := Lib.hid (H.out.alloc #[.slice C (sizesOf (d.tr.l.map Tir.con)).length cC] 28); (try simp only [List.set_cons_zero, List.set_cons_succ, List.cons_append, List.nil_append, List.eraseIdx_cons_zero, List.eraseIdx_cons_succ, List.setIfInBounds_toArray, World.size_alloc, selR, List.getD_cons_zero, List.getD_cons_succ] at H)
            refine hKK.out _ _ trivial (fun hHeld => ?_)
            clear hKK KK
            try simp only [Act.put, List.setIfInBounds_toArray, List.set_cons_zero, List.set_cons_succ]
            refine wpAnyH_ready (rs := [1]) (by kernel_rfl) (by simp) ?_
            refine (AllReadyH.cons (get_os (get_o0)) (fun KK hKK => ?_) AllReadyH.nil)
            have c1 := (H.out.blk 2 rfl).cell 0; simp only [List.getElem?_toArray, List.getElem?_cons_zero, List.getElem?_cons_succ] at c1
            go_simp
            clear c1
            refine hKK.out _ _ trivial (fun hHeld => ?_)
            clear hKK KK
            try simp only [Act.put, List.setIfInBounds_toArray, List.set_cons_zero, List.set_cons_succ]
            refine wpAnyH_ready (rs := [5]) (by kernel_rfl) (by simp) ?_
            refine (AllReadyH.cons (get_os (get_os (get_os (get_os (get_os (get_o0)))))) (fun KK hKK => ?_) AllReadyH.nil)
            refine step_append0 rfl (.tmp 18) (.tmp 21) _ rfl E_intss 0 (Nat.zero_le _) _ k _ rfl (H.out.row 3 rfl) _ 1 1 _ rfl (reads_of_block (H.out.blk 6 rfl) rfl) (by simp [Value.oneCell']) (by unfold maxLen; omega) (by omega) ?_
            intro vq wq howq hgq hatq
            replace H := Lib.hid (H.out.setRow 3 rfl hgq howq hatq); (try simp only [List.set_cons_zero, List.set_cons_succ, List.cons_append, List.nil_append, List.eraseIdx_cons_zero, List.eraseIdx_cons_succ, List.setIfInBounds_toArray, World.size_alloc, selR, List.getD_cons_zero, List.getD_cons_succ] at H)
            clear howq hgq hatq
            obtain ⟨A2, c2, rfl, _⟩ := own_slice (H.out.row 3 rfl)
            refine hKK.out _ _ trivial (fun hHeld => ?_)
            clear hKK KK
            try simp only [Act.put, List.setIfInBounds_toArray, List.set_cons_zero, List.set_cons_succ]
            refine wpAnyH_ready (rs := [6]) (by kernel_rfl) (by simp) ?_
            refine (AllReadyH.cons (get_os (get_os (get_os (get_os (get_os (get_os (get_o0))))))) (fun KK hKK => ?_) AllReadyH.nil)
            go_simp
            refine hKK.out _ _ trivial (fun hHeld => ?_)
            clear hKK KK
            try simp only [Act.put, List.setIfInBounds_toArray, List.set_cons_zero, List.set_cons_succ]
            refine wpAnyH_ready (rs := [7]) (by kernel_rfl) (by simp) ?_
            refine (AllReadyH.cons (get_os (get_os (get_os (get_os (get_os (get_os (get_os (get_o0)))))))) (fun KK hKK => ?_) AllReadyH.nil)
            have c1 := (H.out.blk 2 rfl).cell 0; simp only [List.getElem?_toArray, List.getElem?_cons_zero, List.getElem?_cons_succ] at c1; have f1 := (H.out.blk 2 rfl).frozen 0
            go_simp
            replace H := Lib.hid (H.out.setCell 2 rfl 0 (.slice A2 (k + 1) c2)); (try simp only [List.set_cons_zero, List.set_cons_succ, List.cons_append, List.nil_append, List.eraseIdx_cons_zero, List.eraseIdx_cons_succ, List.setIfInBounds_toArray, World.size_alloc, selR, List.getD_cons_zero, List.getD_cons_succ] at H)
            clear c1 f1
            refine hKK.out _ _ trivial (fun hHeld => ?_)
            clear hKK KK
            try simp only [Act.put, List.setIfInBounds_toArray, List.set_cons_zero, List.set_cons_succ]
            refine wpAnyH_done (by kernel_rfl) ?_ _
            clear hHeld
            replace H := Lib.hid (H.out.sel [0, 1, 2, 3] (by decide) (by simp)); (try simp only [List.set_cons_zero, List.set_cons_succ, List.cons_append, List.nil_append, List.eraseIdx_cons_zero, List.eraseIdx_cons_succ, List.setIfInBounds_toArray, World.size_alloc, selR, List.getD_cons_zero, List.getD_cons_succ] at H)
            go_wp2_with fail
            go_roundg (n - (k + 1))
            case rel => exact ⟨k + 1, A2, c2, _, rfl, by omega, by go_num, H⟩
            case measure => rw [Hgk.out]; omega
    · go_wp2_with (first | ((with_reducible show wpList _ _ _ (⟨some 25, _, _, _, _, _⟩ :: _) _ _); (refine wpList_load_blk rfl rowShp (.tmp 3) rfl _ rfl (H.out.blk 2 rfl) rfl ?_)) | ((with_reducible show wpList _ _ _ (⟨_, .store _ (.tmp 2) _, _, _, _, _⟩ :: _) _ _); (refine wpList_store_blk rfl rowShp (.tmp 2) (.tmp 25) rfl _ rfl (H.out.blk 1 rfl) rfl (#[.slice B k dd, .int .i64 n2]) rfl rfl (by simp [Value.oneCell']) ?_; intro wq bq hgq; replace H := Lib.hid (H.out.setBlk 1 rfl hgq bq); (try simp only [List.set_cons_zero, List.set_cons_succ, List.cons_append, List.nil_append, List.eraseIdx_cons_zero, List.eraseIdx_cons_succ, List.setIfInBounds_toArray, World.size_alloc, selR, List.getD_cons_zero, List.getD_cons_succ] at H); clear hgq bq)))
      refine bodyPost_ret (results_blk1 rfl rowShp rfl (H.out.blk 1 rfl) rfl) rfl ?_
      exact ⟨B, k, dd, rfl, H.out.to⟩

/-- A schema of one dimension, as laws' examples lay it down. -/
theorem ex_sch {S : Nat → Prop} {w0 w : World} {l : List Res} (H : SL S w0 w l) (i j k m : Nat) {g0 g1 g2 g3 : Nat} (h0 : l[i]? = some (rBlk g0 9 #[.string ⟨#[97]⟩]))
    (h1 : l[j]? = some (rBlk g1 30 #[.string ⟨#[116]⟩, .slice (some ⟨g0, 0, none⟩) 1 1, .slice none 0 0])) (h2 : l[k]? = some (rBlk g2 24 #[.string ⟨#[100]⟩, .slice (some ⟨g1, 0, none⟩) 1 1])) (h3 : l[m]? = some (rBlk g3 9 #[.string ⟨#[109]⟩])) :
    (Sch.mk ⟨some ⟨g2, 0, none⟩, 1, 1, [⟨[100], ⟨some ⟨g1, 0, none⟩, 1, 1, [⟨[116], ⟨some ⟨g0, 0, none⟩, 1, 1, [[97]]⟩, ⟨none, 0, 0, []⟩⟩]⟩⟩]⟩ ⟨some ⟨g3, 0, none⟩, 1, 1, [[109]]⟩).rd w := by
  refine ⟨⟨reads_of_block (m := 1) (H.blk k h2) rfl, fun D hD => ?_, by show (1 : Nat) ≤ _; omega⟩, ⟨?_, fun t ht => ?_, by show (1 : Nat) ≤ _; omega⟩⟩
  · rw [List.mem_singleton] at hD
    subst hD
    exact ex_dim H i j (m := 1) (nm := [100]) (tn := [116]) (ts := [[97]]) h0 rfl rfl h1 (by simp) (by simp) (by intro t ht; simp at ht; subst ht; simp) (by omega)
  · have := reads_of_block (m := 1) (size := 1) (H.blk m h3) rfl
    rw [flat_texts]
    exact this
  · simp at ht
    subst ht
    show ([109] : List UInt8).length ≤ _
    simp
theorem ex_sch0 {S : Nat → Prop} {w0 w : World} {l : List Res} (H : SL S w0 w l) (i j k : Nat) {g0 g1 g2 : Nat} (h0 : l[i]? = some (rBlk g0 9 #[.string ⟨#[97]⟩]))
    (h1 : l[j]? = some (rBlk g1 30 #[.string ⟨#[116]⟩, .slice (some ⟨g0, 0, none⟩) 1 1, .slice none 0 0])) (h2 : l[k]? = some (rBlk g2 24 #[.string ⟨#[100]⟩, .slice (some ⟨g1, 0, none⟩) 1 1])) :
    (Sch.mk ⟨some ⟨g2, 0, none⟩, 1, 1, [⟨[100], ⟨some ⟨g1, 0, none⟩, 1, 1, [⟨[116], ⟨some ⟨g0, 0, none⟩, 1, 1, [[97]]⟩, ⟨none, 0, 0, []⟩⟩]⟩⟩]⟩ ⟨none, 0, 0, []⟩).rd w := by
  refine ⟨⟨reads_of_block (m := 1) (H.blk k h2) rfl, fun D hD => ?_, by show (1 : Nat) ≤ _; omega⟩, Row.nil_rd w⟩
  rw [List.mem_singleton] at hD
  subst hD
  exact ex_dim H i j (m := 1) (nm := [100]) (tn := [116]) (ts := [[97]]) h0 rfl rfl h1 (by simp) (by simp) (by intro t ht; simp at ht; subst ht; simp) (by omega)
/-- What it says. -/
abbrev exDC : DC := ⟨[100], [⟨[116], [[97]], []⟩]⟩
theorem exErr : schErr ⟨[exDC], [[109]]⟩ = 0 := by decide +kernel
theorem exErr0 : schErr ⟨[exDC], []⟩ = 5 := by decide +kernel

set_option maxRecDepth 100000 in
set_option maxHeartbeats 1000000 in
theorem awake17_any (w : World) : Calls Try.prog 44 #[] w fun e w' => e = .returned (.bool true) ∧ Bel w w' := by
  have H := Lib.hid (((((SL.start No w).alloc #[.string ⟨#[97]⟩] 9).alloc #[.string ⟨#[116]⟩, .slice (some ⟨w.heap.size, 0, none⟩) 1 1, .slice none 0 0] 30).alloc #[.string ⟨#[100]⟩, .slice (some ⟨w.heap.size + 1, 0, none⟩) 1 1] 24).alloc #[.slice (some ⟨w.heap.size + 1 + 1, 0, none⟩) 1 1, .slice none 0 0] 70)
  (try simp only [List.set_cons_zero, List.set_cons_succ, List.cons_append, List.nil_append, List.eraseIdx_cons_zero, List.eraseIdx_cons_succ, List.setIfInBounds_toArray, World.size_alloc, selR, List.getD_cons_zero, List.getD_cons_succ] at H)
  go_enter Try.func44, Try.ntmps44
  go_wp2_with fail
  generalize w.heap.size + 1 + 1 + 1 = x3 at *
  generalize w.heap.size + 1 + 1 = x2 at *
  generalize w.heap.size + 1 = x1 at *
  generalize w.heap.size = x0 at *
  generalize World.alloc _ _ = w1 at *
  have hr0 := ex_sch0 H.out 0 1 2 rfl rfl rfl
  obtain ⟨D0, hD0⟩ : ∃ D : Sch, D = ⟨⟨some ⟨x2, 0, none⟩, 1, 1, [⟨[100], ⟨some ⟨x1, 0, none⟩, 1, 1, [⟨[116], ⟨some ⟨x0, 0, none⟩, 1, 1, [[97]]⟩, ⟨none, 0, 0, []⟩⟩]⟩⟩]⟩, ⟨none, 0, 0, []⟩⟩ := ⟨_, rfl⟩
  rw [← hD0] at hr0
  have HC := Lib.hid (schcheck_any D0 w1 hr0 (by rw [hD0]; show (1 : Nat) ≤ _; omega) (by rw [hD0]; show (0 : Nat) ≤ _; omega) (by rw [hD0]; intro d hd; simp at hd; subst hd; exact ⟨by show (1 : Nat) ≤ _; omega, fun t ht => by simp at ht; subst ht; show (0 : Nat) ≤ _; omega⟩))
  rw [show schErr D0.con = 5 by rw [hD0]; exact exErr0, show D0.cs = #[.slice (some ⟨x2, 0, none⟩) 1 1, .slice none 0 0] by rw [hD0]] at HC
  clear hD0 hr0
  refine HC.out.mono ?_; rintro e w2 ⟨rfl, hb2⟩
  replace H := Lib.hid (H.out.bel hb2); (try simp only [List.set_cons_zero, List.set_cons_succ, List.cons_append, List.nil_append, List.eraseIdx_cons_zero, List.eraseIdx_cons_succ, List.setIfInBounds_toArray, World.size_alloc, selR, List.getD_cons_zero, List.getD_cons_succ] at H)
  clear hb2 HC
  replace H := Lib.hid (H.out.alloc #[.string ⟨#[109]⟩] 9); (try simp only [List.set_cons_zero, List.set_cons_succ, List.cons_append, List.nil_append, List.eraseIdx_cons_zero, List.eraseIdx_cons_succ, List.setIfInBounds_toArray, World.size_alloc, selR, List.getD_cons_zero, List.getD_cons_succ] at H)
  have c0 := (H.out.blk 3 rfl).cell 1; simp only [List.getElem?_toArray, List.getElem?_cons_zero, List.getElem?_cons_succ] at c0; have f0 := (H.out.blk 3 rfl).frozen 1
  go_wp2_with ((with_reducible show wpList _ _ _ (⟨some 16, _, _, _, _, _⟩ :: _) _ _); replace H := Lib.hid (H.out.setCell 3 rfl 1 (.slice (some ⟨w2.heap.size, 0, none⟩) 1 1)); (try simp only [List.set_cons_zero, List.set_cons_succ, List.cons_append, List.nil_append, List.eraseIdx_cons_zero, List.eraseIdx_cons_succ, List.setIfInBounds_toArray, World.size_alloc, selR, List.getD_cons_zero, List.getD_cons_succ] at H); refine wpList_load_blkG (by first | rfl | go_simp) rowSch (.tmp 1) (by rfl) _ (by rfl) (H.out.blk 3 rfl) rfl ?_)
  clear c0 f0
  generalize w2.heap.size = x4 at *
  generalize World.setCell _ _ _ = w3 at *
  have hr1 := ex_sch H.out 0 1 2 4 rfl rfl rfl rfl
  obtain ⟨D1, hD1⟩ : ∃ D : Sch, D = ⟨⟨some ⟨x2, 0, none⟩, 1, 1, [⟨[100], ⟨some ⟨x1, 0, none⟩, 1, 1, [⟨[116], ⟨some ⟨x0, 0, none⟩, 1, 1, [[97]]⟩, ⟨none, 0, 0, []⟩⟩]⟩⟩]⟩, ⟨some ⟨x4, 0, none⟩, 1, 1, [[109]]⟩⟩ := ⟨_, rfl⟩
  rw [← hD1] at hr1
  have hn1 : D1.dm.n ≤ 1000000 := by rw [hD1]; show (1 : Nat) ≤ _; omega
  have hm1 : D1.ms.n ≤ 1000000 := by rw [hD1]; show (1 : Nat) ≤ _; omega
  have hd1 : ∀ d ∈ D1.dm.l, d.tr.n ≤ 1000000 ∧ ∀ t ∈ d.tr.l, t.up.n ≤ 100000 := by rw [hD1]; intro d hd; simp at hd; subst hd; exact ⟨by show (1 : Nat) ≤ _; omega, fun t ht => by simp at ht; subst ht; show (0 : Nat) ≤ _; omega⟩
  have HR1 := Lib.hid hr1
  have HC := Lib.hid (schcheck_any D1 w3 hr1 hn1 hm1 hd1)
  have HSh := Lib.hid (fun w' (hb : Bel w3 w') => shape_any D1 w' (hr1.mono hb) hn1 (fun d hd => (hd1 d hd).1))
  have hcs1 : D1.cs = #[.slice (some ⟨x2, 0, none⟩) 1 1, .slice (some ⟨x4, 0, none⟩) 1 1] := by rw [hD1]
  rw [show schErr D1.con = 0 by rw [hD1]; exact exErr, hcs1] at HC
  rw [hcs1, show D1.ms.n = 1 by rw [hD1]] at HSh
  clear hD1 hr1 hn1 hm1 hd1 hcs1
  refine HC.out.mono ?_; rintro e w4 ⟨rfl, hb4⟩
  replace H := Lib.hid (H.out.bel hb4); (try simp only [List.set_cons_zero, List.set_cons_succ, List.cons_append, List.nil_append, List.eraseIdx_cons_zero, List.eraseIdx_cons_succ, List.setIfInBounds_toArray, World.size_alloc, selR, List.getD_cons_zero, List.getD_cons_succ] at H)
  have HB4 := Lib.hid hb4
  clear hb4 HC
  go_wp2_with ((with_reducible show wpList _ _ _ (⟨some 21, _, _, _, _, _⟩ :: _) _ _); refine wpList_load_blkG (by first | rfl | go_simp) rowSch (.tmp 1) (by rfl) _ (by rfl) (H.out.blk 3 rfl) rfl ?_)
  refine (HSh.out _ HB4.out).mono ?_; rintro e w5 ⟨A, k, c, rfl, hb5⟩
  replace H := Lib.hid (H.out.bel hb5); (try simp only [List.set_cons_zero, List.set_cons_succ, List.cons_append, List.nil_append, List.eraseIdx_cons_zero, List.eraseIdx_cons_succ, List.setIfInBounds_toArray, World.size_alloc, selR, List.getD_cons_zero, List.getD_cons_succ] at H)
  clear hb5 HSh
  have hfd : ∀ w, (Instr.field 155 (.agg #[.slice A k c, .int .i64 1]) 1).run Try.prog w = .ok (.int .i64 1) w := fun _ => by kernel_rfl
  go_wp2
  go_ret
  exact ⟨rfl, H.out.to⟩

end Go.Proofs.Ytnjpoamebkehbaa
