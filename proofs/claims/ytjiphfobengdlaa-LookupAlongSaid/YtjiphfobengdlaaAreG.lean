/- lookup.Along at one dimension. -/
import Derived.Test.YtjiphfobengdlaaAreF
namespace Go.Proofs.Ytjiphfobengdlaa
open Go.RowKit
set_option linter.unusedVariables false
set_option linter.unusedSimpArgs false


theorem ag_oneA (a : Ag) : a.cs.all (·.oneCell') = true := by simp [Ag.cs, Value.oneCell']
section
variable {P : Program} {w : World}
theorem step_store_blkA {ops : Array Oper} {o : Oper} {a : Act} {K : Act → World → Prop} {Q : Exit → Act → World → Prop} {X : Prop} (hgd : o.guard = none) {ty : TypeId} {n : Nat} (R : RowTy P ty n) (x y : Operand) (ho : o.op = .store ty x y)
    (g : Nat) (hx : a.eval x = .pointer (some ⟨g, 0, none⟩)) {t : TypeId} {cs : Array Value} (hb : Blk w g t cs) (hn : cs.size = n) (cs' : Array Value) (hn' : cs'.size = n) (hy : a.eval y = .agg cs') (h1 : cs'.all (·.oneCell') = true)
    (h : ∀ w', Blk w' g t cs' → w.grownBy w' (some g) → K (a.put o.dst undef) w') : if Region.wanted o (yielded ops a.tmps) = true then Oper.wp P o a w K Q else X := by
  have hw : Region.wanted o (yielded ops a.tmps) = true := by simp [Region.wanted, hgd]
  rw [if_pos hw]
  refine wp_store_mid ty x y ho g 0 cs' hx hy (hb.there (by omega)) (by rw [R.hi, hn']) h1 (h _ ?_ (setCells_grown w g _ _))
  have := Blk.setAll cs'.toList 0 hb
  rwa [setAll_all cs cs' (by omega)] at this
end
set_option maxRecDepth 100000 in
set_option maxHeartbeats 4000000 in
theorem along_top (b p : Nat) (n : Nd) (w : World) (hd : n.dim = 0) (h1 : 1 ≤ n.ls.n) (hbn : n.ls.n ≤ 1000000) (hch : I64 n.all.ch) (hnode : ∀ w', Bel w w' → Calls Try.prog 19 #[.pointer (some ⟨b, 0, none⟩), .int .i64 0] w' (CopyOf n w'))
    (hp : w.rangeAt p 0 [.int .i64 (-1), .int .i64 0]) (hpb : p < w.heap.size) :
    Calls Try.prog 37 #[.int .i64 0, .func (.func 19) #[.pointer (some ⟨b, 0, none⟩)] #[], .slice (some ⟨p, 0, none⟩) 1 1] w fun e w' => e = .returned (.tuple #[.agg n.all.ag.cs, .int .i64 1, .int .i64 0]) ∧ Bel w w' := by
  have HST := Lib.hid (fun w' (hb : Bel w w') => step_top b n w' hd h1 hbn (fun w2 hb2 => hnode w2 (hb.trans hb2)))
  have HP := Lib.hid (fun w' (hb : Bel w w') => (fun j v hv => (hb.cell (p := ⟨p, 0 + j, none⟩) hpb).trans (hp j v hv) : w'.rangeAt p 0 [.int .i64 (-1), .int .i64 0]))
  have H := Lib.hid (((SL.start No w).alloc #[.int .i64 0, .int .i64 0, .int .i64 0, .int .i64 0, .int .i64 0, .int .i64 0, .int .i64 0, .int .i64 0, .int .i64 0, .int .i64 0] 40).alloc #[.int .i64 0, .int .i64 0, .int .i64 0, .int .i64 0, .int .i64 0, .int .i64 0, .int .i64 0, .int .i64 0, .int .i64 0, .int .i64 0, .int .i64 0, .int .i64 0] 42)
  (try simp only [List.set_cons_zero, List.set_cons_succ, List.cons_append, List.nil_append, List.eraseIdx_cons_zero, List.eraseIdx_cons_succ, List.setIfInBounds_toArray, World.size_alloc, selR, List.getD_cons_zero, List.getD_cons_succ] at H)
  clear hnode hp hpb
  go_enter Try.func37, Try.ntmps37
  go_upto_region 4 with fail
  generalize w.heap.size + 1 = z at *
  generalize w.heap.size = x at *
  generalize World.alloc (World.alloc _ _) _ = w1 at *
  go_loopg [9, 10, 19] 1 (fun gg s9 s10 s19 wr => ∃ (k : Nat), gg = 1 - k ∧ k ≤ 1 ∧ s9 = .int .i64 (if k = 0 then 0 else n.all.ch) ∧ s10 = .int .i64 k ∧ s19 = .int .i64 k ∧ Hid (SL No w wr [rBlk x 40 #[.int .i64 0, .int .i64 0, .int .i64 0, .int .i64 0, .int .i64 0, .int .i64 0, .int .i64 0, .int .i64 0, .int .i64 0, .int .i64 0], rBlk z 42 (if k = 0 then #[.int .i64 0, .int .i64 0, .int .i64 0, .int .i64 0, .int .i64 0, .int .i64 0, .int .i64 0, .int .i64 0, .int .i64 0, .int .i64 0, .int .i64 0, .int .i64 0] else n.all.cs)]))
  case atStart => exact ⟨0, rfl, by omega, rfl, rfl, rfl, H⟩
  case round =>
    clear H
    obtain ⟨k, hgk, hk, rfl, rfl, rfl, H⟩ := hrel
    have Hgk := Lib.hid hgk
    clear hgk
    by_cases h0 : k = 0
    · subst h0
      rw [if_pos rfl] at H ⊢
      have HPR := Lib.hid (HP.out _ H.out.to)
      go_upto_region 6 with (first | ((with_reducible show wpList _ _ _ (⟨some 23, _, _, _, _, _⟩ :: _) _ _); (refine wpList_load_row_at rfl rowPosA (.tmp 22) rfl p (0) rfl #[.int .i64 (-1), .int .i64 0] rfl HPR.out ?_)) | ((with_reducible show wpList _ _ _ (⟨_, .store _ (.tmp 13) _, _, _, _, _⟩ :: _) _ _); (refine wpList_store_new rfl rowPosA (.tmp 13) (.tmp 23) rfl rfl rfl (#[.int .i64 (-1), .int .i64 0]) rfl rfl (by simp [Value.oneCell']) ?_; replace H := Lib.hid (H.out.alloc (#[.int .i64 (-1), .int .i64 0]) 110); (try simp only [List.set_cons_zero, List.set_cons_succ, List.cons_append, List.nil_append, List.eraseIdx_cons_zero, List.eraseIdx_cons_succ, List.setIfInBounds_toArray, World.size_alloc, selR, List.getD_cons_zero, List.getD_cons_succ] at H))))
      (try simp only [Act.put, List.setIfInBounds_toArray, List.set_cons_zero, List.set_cons_succ])
      generalize wr.heap.size = y at *
      generalize World.alloc wr _ = w2 at *
      go_wp2_with ((with_reducible show wpList _ _ _ (⟨some 28, _, _, _, _, _⟩ :: _) _ _); (refine wpList_load_blk rfl rowPosA (.tmp 13) rfl _ rfl (H.out.blk 2 rfl) rfl ?_))
      refine (HST.out _ H.out.to).mono ?_; rintro e w3 ⟨rfl, hw3⟩
      replace H := Lib.hid (H.out.bel hw3); (try simp only [List.set_cons_zero, List.set_cons_succ, List.cons_append, List.nil_append, List.eraseIdx_cons_zero, List.eraseIdx_cons_succ, List.setIfInBounds_toArray, World.size_alloc, selR, List.getD_cons_zero, List.getD_cons_succ] at H)
      clear hw3 HPR
      go_upto_region 7 with ((with_reducible show wpList _ _ _ (⟨_, .store _ (.tmp 14) _, _, _, _, _⟩ :: _) _ _); (refine wpList_store_new rfl rowCl (.tmp 14) (.tmp 30) rfl rfl rfl (n.all.cs) rfl rfl (cl_one n.all) ?_; replace H := Lib.hid (H.out.alloc (n.all.cs) 42); (try simp only [List.set_cons_zero, List.set_cons_succ, List.cons_append, List.nil_append, List.eraseIdx_cons_zero, List.eraseIdx_cons_succ, List.setIfInBounds_toArray, World.size_alloc, selR, List.getD_cons_zero, List.getD_cons_succ] at H)))
      (try simp only [Act.put, List.setIfInBounds_toArray, List.set_cons_zero, List.set_cons_succ])
      generalize w3.heap.size = u at *
      generalize World.alloc w3 _ = w4 at *
      go_upto_region 10 with fail
      refine wp_region_held_drew (S := fun _ => True) (by kernel_rfl) trivial (fun hHeld => ?_)
      replace H := Lib.hid (H.out.drew); (try simp only [List.set_cons_zero, List.set_cons_succ, List.cons_append, List.nil_append, List.eraseIdx_cons_zero, List.eraseIdx_cons_succ, List.setIfInBounds_toArray, World.size_alloc, selR, List.getD_cons_zero, List.getD_cons_succ] at H)
      generalize World.drew _ = w8 at *
      refine wpAnyH_take (i := 1) (v := ?vq7_1) (get_os (get_o0)) (by kernel_rfl) (by kernel_rfl) (by kernel_rfl) (by exact fun _ _ _ h => h) (Or.inl ⟨by rfl, ?hyq7_1⟩) (by assumption) ?_
      case hyq7_1 => (intro w hSw; (try dsimp only at hSw); go_simp) <;> with_reducible rfl
      try simp only [Act.put, List.setIfInBounds_toArray, List.set_cons_zero, List.set_cons_succ]
      refine wpAnyH_ready (rs := [0, 2]) (by kernel_rfl) (by simp) ?_
      refine (AllReadyH.cons (get_o0) (fun KK hKK => ?_) (AllReadyH.cons (get_os (get_os (get_o0))) (fun KK hKK => ?_) AllReadyH.nil))
      · refine step_load_blk rfl rowCl (.tmp 14) rfl _ rfl (H.out.blk 3 rfl) rfl ?_
        refine hKK.out _ _ trivial (fun hHeld => ?_)
        clear hKK KK
        try simp only [Act.put, List.setIfInBounds_toArray, List.set_cons_zero, List.set_cons_succ]
        refine wpAnyH_ready (rs := [2, 3]) (by kernel_rfl) (by simp) ?_
        refine (AllReadyH.cons (get_os (get_os (get_o0))) (fun KK hKK => ?_) (AllReadyH.cons (get_os (get_os (get_os (get_o0)))) (fun KK hKK => ?_) AllReadyH.nil))
        · have ca2 := (H.out.blk 3 rfl).cell 1; simp only [List.getElem?_toArray, List.getElem?_cons_zero, List.getElem?_cons_succ] at ca2
          go_simp
          clear ca2
          refine hKK.out _ _ trivial (fun hHeld => ?_)
          clear hKK KK
          try simp only [Act.put, List.setIfInBounds_toArray, List.set_cons_zero, List.set_cons_succ]
          refine wpAnyH_ready (rs := [3]) (by kernel_rfl) (by simp) ?_
          refine (AllReadyH.cons (get_os (get_os (get_os (get_o0)))) (fun KK hKK => ?_) AllReadyH.nil)
          refine step_store_blkA rfl rowCl (.tmp 11) (.tmp 39) rfl _ rfl (H.out.blk 1 rfl) rfl (n.all.cs) rfl rfl (cl_one n.all) ?_
          intro wq bq hgq
          replace H := Lib.hid (H.out.setBlk 1 rfl hgq bq); (try simp only [List.set_cons_zero, List.set_cons_succ, List.cons_append, List.nil_append, List.eraseIdx_cons_zero, List.eraseIdx_cons_succ, List.setIfInBounds_toArray, World.size_alloc, selR, List.getD_cons_zero, List.getD_cons_succ] at H)
          clear hgq bq
          refine hKK.out _ _ trivial (fun hHeld => ?_)
          clear hKK KK
          try simp only [Act.put, List.setIfInBounds_toArray, List.set_cons_zero, List.set_cons_succ]
          refine wpAnyH_ready (rs := [4]) (by kernel_rfl) (by simp) ?_
          refine (AllReadyH.cons (get_os (get_os (get_os (get_os (get_o0))))) (fun KK hKK => ?_) AllReadyH.nil)
          go_simp
          refine hKK.out _ _ trivial (fun hHeld => ?_)
          clear hKK KK
          try simp only [Act.put, List.setIfInBounds_toArray, List.set_cons_zero, List.set_cons_succ]
          refine wpAnyH_done (by kernel_rfl) ?_ _
          clear hHeld
          replace H := Lib.hid (H.out.sel [0, 1] (by decide) (by simp)); (try simp only [List.set_cons_zero, List.set_cons_succ, List.cons_append, List.nil_append, List.eraseIdx_cons_zero, List.eraseIdx_cons_succ, List.setIfInBounds_toArray, World.size_alloc, selR, List.getD_cons_zero, List.getD_cons_succ] at H)
          go_wp2_with fail
          go_roundg 0
          case rel => exact ⟨1, rfl, Nat.le_refl _, by rfl, by rfl, by rfl, H⟩
          case measure => rw [Hgk.out]; omega
        · refine step_store_blkA rfl rowCl (.tmp 11) (.tmp 39) rfl _ rfl (H.out.blk 1 rfl) rfl (n.all.cs) rfl rfl (cl_one n.all) ?_
          intro wq bq hgq
          replace H := Lib.hid (H.out.setBlk 1 rfl hgq bq); (try simp only [List.set_cons_zero, List.set_cons_succ, List.cons_append, List.nil_append, List.eraseIdx_cons_zero, List.eraseIdx_cons_succ, List.setIfInBounds_toArray, World.size_alloc, selR, List.getD_cons_zero, List.getD_cons_succ] at H)
          clear hgq bq
          refine hKK.out _ _ trivial (fun hHeld => ?_)
          clear hKK KK
          try simp only [Act.put, List.setIfInBounds_toArray, List.set_cons_zero, List.set_cons_succ]
          refine wpAnyH_ready (rs := [2]) (by kernel_rfl) (by simp) ?_
          refine (AllReadyH.cons (get_os (get_os (get_o0))) (fun KK hKK => ?_) AllReadyH.nil)
          have ca2 := (H.out.blk 3 rfl).cell 1; simp only [List.getElem?_toArray, List.getElem?_cons_zero, List.getElem?_cons_succ] at ca2
          go_simp
          clear ca2
          refine hKK.out _ _ trivial (fun hHeld => ?_)
          clear hKK KK
          try simp only [Act.put, List.setIfInBounds_toArray, List.set_cons_zero, List.set_cons_succ]
          refine wpAnyH_ready (rs := [4]) (by kernel_rfl) (by simp) ?_
          refine (AllReadyH.cons (get_os (get_os (get_os (get_os (get_o0))))) (fun KK hKK => ?_) AllReadyH.nil)
          go_simp
          refine hKK.out _ _ trivial (fun hHeld => ?_)
          clear hKK KK
          try simp only [Act.put, List.setIfInBounds_toArray, List.set_cons_zero, List.set_cons_succ]
          refine wpAnyH_done (by kernel_rfl) ?_ _
          clear hHeld
          replace H := Lib.hid (H.out.sel [0, 1] (by decide) (by simp)); (try simp only [List.set_cons_zero, List.set_cons_succ, List.cons_append, List.nil_append, List.eraseIdx_cons_zero, List.eraseIdx_cons_succ, List.setIfInBounds_toArray, World.size_alloc, selR, List.getD_cons_zero, List.getD_cons_succ] at H)
          go_wp2_with fail
          go_roundg 0
          case rel => exact ⟨1, rfl, Nat.le_refl _, by rfl, by rfl, by rfl, H⟩
          case measure => rw [Hgk.out]; omega
      · have ca2 := (H.out.blk 3 rfl).cell 1; simp only [List.getElem?_toArray, List.getElem?_cons_zero, List.getElem?_cons_succ] at ca2
        go_simp
        clear ca2
        refine hKK.out _ _ trivial (fun hHeld => ?_)
        clear hKK KK
        try simp only [Act.put, List.setIfInBounds_toArray, List.set_cons_zero, List.set_cons_succ]
        refine wpAnyH_ready (rs := [0]) (by kernel_rfl) (by simp) ?_
        refine (AllReadyH.cons (get_o0) (fun KK hKK => ?_) AllReadyH.nil)
        refine step_load_blk rfl rowCl (.tmp 14) rfl _ rfl (H.out.blk 3 rfl) rfl ?_
        refine hKK.out _ _ trivial (fun hHeld => ?_)
        clear hKK KK
        try simp only [Act.put, List.setIfInBounds_toArray, List.set_cons_zero, List.set_cons_succ]
        refine wpAnyH_ready (rs := [3]) (by kernel_rfl) (by simp) ?_
        refine (AllReadyH.cons (get_os (get_os (get_os (get_o0)))) (fun KK hKK => ?_) AllReadyH.nil)
        refine step_store_blkA rfl rowCl (.tmp 11) (.tmp 39) rfl _ rfl (H.out.blk 1 rfl) rfl (n.all.cs) rfl rfl (cl_one n.all) ?_
        intro wq bq hgq
        replace H := Lib.hid (H.out.setBlk 1 rfl hgq bq); (try simp only [List.set_cons_zero, List.set_cons_succ, List.cons_append, List.nil_append, List.eraseIdx_cons_zero, List.eraseIdx_cons_succ, List.setIfInBounds_toArray, World.size_alloc, selR, List.getD_cons_zero, List.getD_cons_succ] at H)
        clear hgq bq
        refine hKK.out _ _ trivial (fun hHeld => ?_)
        clear hKK KK
        try simp only [Act.put, List.setIfInBounds_toArray, List.set_cons_zero, List.set_cons_succ]
        refine wpAnyH_ready (rs := [4]) (by kernel_rfl) (by simp) ?_
        refine (AllReadyH.cons (get_os (get_os (get_os (get_os (get_o0))))) (fun KK hKK => ?_) AllReadyH.nil)
        go_simp
        refine hKK.out _ _ trivial (fun hHeld => ?_)
        clear hKK KK
        try simp only [Act.put, List.setIfInBounds_toArray, List.set_cons_zero, List.set_cons_succ]
        refine wpAnyH_done (by kernel_rfl) ?_ _
        clear hHeld
        replace H := Lib.hid (H.out.sel [0, 1] (by decide) (by simp)); (try simp only [List.set_cons_zero, List.set_cons_succ, List.cons_append, List.nil_append, List.eraseIdx_cons_zero, List.eraseIdx_cons_succ, List.setIfInBounds_toArray, World.size_alloc, selR, List.getD_cons_zero, List.getD_cons_succ] at H)
        go_wp2_with fail
        go_roundg 0
        case rel => exact ⟨1, rfl, Nat.le_refl _, by rfl, by rfl, by rfl, H⟩
        case measure => rw [Hgk.out]; omega
    · obtain rfl : k = 1 := by omega
      rw [if_neg (by omega)] at H ⊢
      have HAG : Hid (wr.rangeAt z 2 n.all.ag.cs.toList) := fun j v hv => by
        have := (H.out.blk 1 rfl).range (j + 2) v (by rw [cl_ag]; exact hv)
        rw [show 0 + (j + 2) = 2 + j by omega] at this
        exact this
      go_wp2_with (first | ((with_reducible show wpList _ _ _ (⟨some 44, _, _, _, _, _⟩ :: _) _ _); (refine wpList_load_row_at rfl rowAgA (.tmp 43) rfl z (2) rfl n.all.ag.cs rfl HAG.out ?_)) | ((with_reducible show wpList _ _ _ (⟨_, .store _ (.tmp 6) _, _, _, _, _⟩ :: _) _ _); (refine wpList_store_blk rfl rowAgA (.tmp 6) (.tmp 44) rfl _ rfl (H.out.blk 0 rfl) rfl (n.all.ag.cs) rfl rfl (ag_oneA _) ?_; intro wq bq hgq; replace H := Lib.hid (H.out.setBlk 0 rfl hgq bq); (try simp only [List.set_cons_zero, List.set_cons_succ, List.cons_append, List.nil_append, List.eraseIdx_cons_zero, List.eraseIdx_cons_succ, List.setIfInBounds_toArray, World.size_alloc, selR, List.getD_cons_zero, List.getD_cons_succ] at H); clear hgq bq)))
      refine bodyPost_ret (results_blk3 rfl rowAgA rfl (H.out.blk 0 rfl) rfl) rfl ?_
      exact ⟨rfl, H.out.to⟩

end Go.Proofs.Ytjiphfobengdlaa
