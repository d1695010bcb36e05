/- The walk of the law SchemaTakes. -/
import Derived.Test.YtnjpoamebkehbaaSchemaChecksW
import Derived.Test.YtnjpoamebkehbaaSchS
namespace Go.Proofs.Ytnjpoamebkehbaa
open Go.RowKit
set_option linter.unusedVariables false
set_option linter.unusedSimpArgs false

set_option maxRecDepth 100000 in
set_option maxHeartbeats 1000000 in
theorem walkl_schemaTakes (w : World) (s : List UInt8) (hs : s.length ≤ 9223372036854775807) :
    Calls Try.prog 9 #[.string ⟨s.toArray⟩] w fun e w' => e = .returned (.bool true) ∧ Bel w w' := by
  have hmf : ∀ (fn : Fn) (first cap : Array Value) (w : World), (Instr.makeFunc fn first cap).run Try.prog w = .ok (.func fn first cap) w := fun _ _ _ _ => rfl
  have H := Lib.hid (SL.start No w)
  by_cases hl : s.length ≤ 4000
  · have HK := Lib.hid (fun w => schtake_any s w (by omega))
    have hrd0 := fun w => rschread_any s 0 w (by omega) (by omega)
    simp only [List.drop_zero] at hrd0
    have HRD := Lib.hid hrd0
    clear hrd0
    cases ho : psch s with
    | error k =>
      have Ho := Lib.hid ho
      have hT : schtake s = (SC.nil, k) := by unfold schtake; rw [ho]
      rw [hT] at HK
      rw [ho] at HRD
      have hk := psch_err ho
      have HEnd : Hid (∀ t, endOf s t k = k) := by show ∀ t, _ = _; intro t; unfold endOf; rw [if_pos hk]
      have dk : (k == 0) = false := by simpa using hk
      have dk2 : (k != 0) = true := by simpa using hk
      clear ho hk hT
      go_enter Try.func9, Try.ntmps9
      go_wp2_with fail
      refine (HK.out _).mono ?_; rintro e w1 ⟨D, rfl, hDc, hb1, hnew⟩
      replace H := Lib.hid (H.out.add hb1 (rSch D) hnew.1 hnew.2); (try simp only [List.set_cons_zero, List.set_cons_succ, List.cons_append, List.nil_append, List.eraseIdx_cons_zero, List.eraseIdx_cons_succ, List.setIfInBounds_toArray, World.size_alloc, selR, List.getD_cons_zero, List.getD_cons_succ] at H)
      have HDc := Lib.hid hDc
      dsimp only
      clear hb1 hnew hDc HK
      go_wp2_with ((with_reducible show wpList _ _ _ (⟨_, .store _ (.tmp 3) _, _, _, _, _⟩ :: _) _ _); (refine wpList_store_new rfl rowSch (.tmp 3) (.tmp 19) rfl rfl rfl (D.cs) rfl rfl (sch_one D) ?_; replace H := Lib.hid (H.out.alloc (D.cs) 70); (try simp only [List.set_cons_zero, List.set_cons_succ, List.cons_append, List.nil_append, List.eraseIdx_cons_zero, List.eraseIdx_cons_succ, List.setIfInBounds_toArray, World.size_alloc, selR, List.getD_cons_zero, List.getD_cons_succ] at H)))
      refine (HRD.out _).mono ?_; rintro e w3 ⟨t, k3, U, rfl, hb3, hS, hUo⟩
      replace H := Lib.hid (H.out.add hb3 (rIf (k3 = 0) (rSch U)) (holds_if fun h => (hUo h).1) (fun g hg => (hUo hg.1).2 g hg.2)); (try simp only [List.set_cons_zero, List.set_cons_succ, List.cons_append, List.nil_append, List.eraseIdx_cons_zero, List.eraseIdx_cons_succ, List.setIfInBounds_toArray, World.size_alloc, selR, List.getD_cons_zero, List.getD_cons_succ] at H)
      clear hb3 hUo HRD
      obtain rfl : k = k3 := by
        rcases hS.out with ⟨_, h⟩ | ⟨_, _, _, _, h⟩
        · injection h with h
        · cases h
      clear hS
      go_wp2_with (first | ((with_reducible show wpList _ _ _ (⟨_, .store _ (.tmp 5) _, _, _, _, _⟩ :: _) _ _); (replace H := Lib.hid ((H.out.alloc (scs [] 0 0) 47).alloc #[.slice none 0 0, .slice none 0 0] 70); (try simp only [List.set_cons_zero, List.set_cons_succ, List.cons_append, List.nil_append, List.eraseIdx_cons_zero, List.eraseIdx_cons_succ, List.setIfInBounds_toArray, World.size_alloc, selR, List.getD_cons_zero, List.getD_cons_succ] at H); refine wpList_store_blk rfl rowScn (.tmp 5) (.tmp 25) rfl _ rfl (H.out.blk 3 rfl) rfl (scs s t k) rfl rfl (scs_one _ _ _) ?_; intro wq bq hgq; replace H := Lib.hid (H.out.setBlk 3 rfl hgq bq); (try simp only [List.set_cons_zero, List.set_cons_succ, List.cons_append, List.nil_append, List.eraseIdx_cons_zero, List.eraseIdx_cons_succ, List.setIfInBounds_toArray, World.size_alloc, selR, List.getD_cons_zero, List.getD_cons_succ] at H); clear hgq bq)) | ((with_reducible show wpList _ _ _ (⟨_, .store _ (.tmp 6) _, _, _, _, _⟩ :: _) _ _); (refine wpList_store_blk rfl rowSch (.tmp 6) (.tmp 26) rfl _ rfl (H.out.blk 4 rfl) rfl (U.cs) rfl rfl (sch_one U) ?_; intro wq bq hgq; replace H := Lib.hid (H.out.setBlk 4 rfl hgq bq); (try simp only [List.set_cons_zero, List.set_cons_succ, List.cons_append, List.nil_append, List.eraseIdx_cons_zero, List.eraseIdx_cons_succ, List.setIfInBounds_toArray, World.size_alloc, selR, List.getD_cons_zero, List.getD_cons_succ] at H); clear hgq bq)) | ((with_reducible show wpList _ _ _ (⟨some 27, _, _, _, _, _⟩ :: _) _ _); (refine wpList_load_blk rfl rowScn (.tmp 5) rfl _ rfl (H.out.blk 3 rfl) rfl ?_)))
      refine (rend_any s t k _).mono ?_; rintro e w7 ⟨rfl, hb7⟩
      rw [HEnd.out]
      replace H := Lib.hid (H.out.bel hb7); (try simp only [List.set_cons_zero, List.set_cons_succ, List.cons_append, List.nil_append, List.eraseIdx_cons_zero, List.eraseIdx_cons_succ, List.setIfInBounds_toArray, World.size_alloc, selR, List.getD_cons_zero, List.getD_cons_succ] at H)
      clear hb7
      go_wp2_with fail
      replace H := Lib.hid (H.out.alloc #[.slice none 0 0, .slice none 0 0] 70); (try simp only [List.set_cons_zero, List.set_cons_succ, List.cons_append, List.nil_append, List.eraseIdx_cons_zero, List.eraseIdx_cons_succ, List.setIfInBounds_toArray, World.size_alloc, selR, List.getD_cons_zero, List.getD_cons_succ] at H)
      replace H := Lib.hid (H.out.sel [5, 0, 1, 2, 3, 4] (by decide) (by simp)); (try simp only [List.set_cons_zero, List.set_cons_succ, List.cons_append, List.nil_append, List.eraseIdx_cons_zero, List.eraseIdx_cons_succ, List.setIfInBounds_toArray, World.size_alloc, selR, List.getD_cons_zero, List.getD_cons_succ] at H)
      generalize w7.heap.size = g at *
      generalize w7.alloc (.cells #[.slice none 0 0, .slice none 0 0] 70) = V at *
      refine (all_any 52 #[.pointer (some ⟨g, 0, none⟩)] s V (by omega) (Rsch w s V.heap.size g _ (psch s) prErr) (cf_any Try.func52 (by kernel_rfl) (by kernel_rfl)) (fun w8 h1 h2 h3 h4 h5 => schl1_any w V.heap.size g s w8 _ (H.out.begin h1 h3 h4 h5))).mono ?_
      rintro e w9 ⟨k8, w8, rfl, ⟨hk8, Y, q8, hS8, hY⟩, hbut, _⟩
      replace H := Lib.hid (hS8.ended hbut); (try simp only [List.set_cons_zero, List.set_cons_succ, List.cons_append, List.nil_append, List.eraseIdx_cons_zero, List.eraseIdx_cons_succ, List.setIfInBounds_toArray, World.size_alloc, selR, List.getD_cons_zero, List.getD_cons_succ] at H)
      clear hS8 hbut
      rw [Ho.out] at hk8 hY
      dsimp only [prErr] at hk8
      subst hk8
      have c2 := (H.out.blk 4 rfl).cell 2; simp only [List.getElem?_toArray, List.getElem?_cons_zero, List.getElem?_cons_succ] at c2
      clear hY
      go_wp2_with ((with_reducible show wpList _ _ _ (⟨some 49, _, _, _, _, _⟩ :: _) _ _); refine wpList_load_blkG (by first | rfl | go_simp) rowSch (.tmp 3) (by rfl) _ (by rfl) (H.out.blk 2 rfl) rfl ?_)
      refine (schsame_any D Sch.nil _ (H.out.at_ 1 rfl).rd (sch_nil_rd _)).mono ?_; rintro e w11 ⟨rfl, hb11⟩
      replace H := Lib.hid (H.out.bel hb11); (try simp only [List.set_cons_zero, List.set_cons_succ, List.cons_append, List.nil_append, List.eraseIdx_cons_zero, List.eraseIdx_cons_succ, List.setIfInBounds_toArray, World.size_alloc, selR, List.getD_cons_zero, List.getD_cons_succ] at H)
      clear hb11
      rw [HDc.out, show sameS SC.nil Sch.nil.con = true from by rfl]
      go_wp2_with fail
      refine (awake17_any _).mono ?_; rintro e w13 ⟨rfl, hb13⟩
      go_wp2
      go_ret
      exact ⟨rfl, H.out.to.trans hb13⟩
    | ok q =>
      obtain ⟨tc, l⟩ := q
      have Ho := Lib.hid ho
      rw [ho] at HRD
      by_cases hl0 : l = []
      · subst hl0
        have hT : schtake s = (tc, 0) := by unfold schtake; rw [ho]; simp
        rw [hT] at HK
        obtain ⟨hE0, hbk⟩ := psch_back ho
        rw [List.append_nil] at hbk
        have HBk := Lib.hid hbk.symm
        have HPV : Hid (schPutV tc = (schPut tc, 0)) := by show _ = _; unfold schPutV; rw [if_pos hE0]
        clear ho hT hbk hE0
        obtain ⟨l, hll⟩ : ∃ l : List UInt8, l = [] := ⟨_, rfl⟩
        rw [← hll] at HRD Ho
        have HLL := Lib.hid hll
        clear hll
        go_enter Try.func9, Try.ntmps9
        go_wp2_with fail
        refine (HK.out _).mono ?_; rintro e w1 ⟨D, rfl, hDc, hb1, hnew⟩
        replace H := Lib.hid (H.out.add hb1 (rSch D) hnew.1 hnew.2); (try simp only [List.set_cons_zero, List.set_cons_succ, List.cons_append, List.nil_append, List.eraseIdx_cons_zero, List.eraseIdx_cons_succ, List.setIfInBounds_toArray, World.size_alloc, selR, List.getD_cons_zero, List.getD_cons_succ] at H)
        have HDc := Lib.hid hDc
        dsimp only
        clear hb1 hnew hDc HK
        go_wp2_with ((with_reducible show wpList _ _ _ (⟨_, .store _ (.tmp 3) _, _, _, _, _⟩ :: _) _ _); (refine wpList_store_new rfl rowSch (.tmp 3) (.tmp 19) rfl rfl rfl (D.cs) rfl rfl (sch_one D) ?_; replace H := Lib.hid (H.out.alloc (D.cs) 70); (try simp only [List.set_cons_zero, List.set_cons_succ, List.cons_append, List.nil_append, List.eraseIdx_cons_zero, List.eraseIdx_cons_succ, List.setIfInBounds_toArray, World.size_alloc, selR, List.getD_cons_zero, List.getD_cons_succ] at H)))
        refine (HRD.out _).mono ?_; rintro e w3 ⟨t, k3, U, rfl, hb3, hS, hUo⟩
        replace H := Lib.hid (H.out.add hb3 (rIf (k3 = 0) (rSch U)) (holds_if fun h => (hUo h).1) (fun g hg => (hUo hg.1).2 g hg.2)); (try simp only [List.set_cons_zero, List.set_cons_succ, List.cons_append, List.nil_append, List.eraseIdx_cons_zero, List.eraseIdx_cons_succ, List.setIfInBounds_toArray, World.size_alloc, selR, List.getD_cons_zero, List.getD_cons_succ] at H)
        clear hb3 hUo HRD
        obtain ⟨rfl, tn, rfl, htn, hUc, hlt⟩ : k3 = 0 ∧ ∃ tn : Nat, t = tn ∧ tn ≤ s.length ∧ U.con = tc ∧ l = s.drop tn := by
          rcases hS.out with ⟨_, h⟩ | ⟨h0, tn, h1, h2, h⟩
          · cases h
          · injection h with h; injection h with h3 h4; exact ⟨h0, tn, h1, h2, h3.symm, h4⟩
        have HUc := Lib.hid hUc
        have HLT := Lib.hid hlt
        clear hS hUc hlt
        go_wp2_with (first | ((with_reducible show wpList _ _ _ (⟨_, .store _ (.tmp 5) _, _, _, _, _⟩ :: _) _ _); (replace H := Lib.hid ((H.out.alloc (scs [] 0 0) 47).alloc #[.slice none 0 0, .slice none 0 0] 70); (try simp only [List.set_cons_zero, List.set_cons_succ, List.cons_append, List.nil_append, List.eraseIdx_cons_zero, List.eraseIdx_cons_succ, List.setIfInBounds_toArray, World.size_alloc, selR, List.getD_cons_zero, List.getD_cons_succ] at H); refine wpList_store_blk rfl rowScn (.tmp 5) (.tmp 25) rfl _ rfl (H.out.blk 3 rfl) rfl (scs s tn 0) rfl rfl (scs_one _ _ _) ?_; intro wq bq hgq; replace H := Lib.hid (H.out.setBlk 3 rfl hgq bq); (try simp only [List.set_cons_zero, List.set_cons_succ, List.cons_append, List.nil_append, List.eraseIdx_cons_zero, List.eraseIdx_cons_succ, List.setIfInBounds_toArray, World.size_alloc, selR, List.getD_cons_zero, List.getD_cons_succ] at H); clear hgq bq)) | ((with_reducible show wpList _ _ _ (⟨_, .store _ (.tmp 6) _, _, _, _, _⟩ :: _) _ _); (refine wpList_store_blk rfl rowSch (.tmp 6) (.tmp 26) rfl _ rfl (H.out.blk 4 rfl) rfl (U.cs) rfl rfl (sch_one U) ?_; intro wq bq hgq; replace H := Lib.hid (H.out.setBlk 4 rfl hgq bq); (try simp only [List.set_cons_zero, List.set_cons_succ, List.cons_append, List.nil_append, List.eraseIdx_cons_zero, List.eraseIdx_cons_succ, List.setIfInBounds_toArray, World.size_alloc, selR, List.getD_cons_zero, List.getD_cons_succ] at H); clear hgq bq)) | ((with_reducible show wpList _ _ _ (⟨some 27, _, _, _, _, _⟩ :: _) _ _); (refine wpList_load_blk rfl rowScn (.tmp 5) rfl _ rfl (H.out.blk 3 rfl) rfl ?_)))
        refine (rend_any s tn 0 _).mono ?_; rintro e w7 ⟨rfl, hb7⟩
        rw [show endOf s tn 0 = 0 by unfold endOf; rw [if_neg (by omega), if_pos (by have := congrArg List.length (HLL.out.symm.trans HLT.out); simp at this; omega)]]
        replace H := Lib.hid (H.out.bel hb7); (try simp only [List.set_cons_zero, List.set_cons_succ, List.cons_append, List.nil_append, List.eraseIdx_cons_zero, List.eraseIdx_cons_succ, List.setIfInBounds_toArray, World.size_alloc, selR, List.getD_cons_zero, List.getD_cons_succ] at H)
        clear hb7
        go_wp2_with fail
        replace H := Lib.hid (H.out.alloc #[.slice none 0 0, .slice none 0 0] 70); (try simp only [List.set_cons_zero, List.set_cons_succ, List.cons_append, List.nil_append, List.eraseIdx_cons_zero, List.eraseIdx_cons_succ, List.setIfInBounds_toArray, World.size_alloc, selR, List.getD_cons_zero, List.getD_cons_succ] at H)
        replace H := Lib.hid (H.out.sel [5, 0, 1, 2, 3, 4] (by decide) (by simp)); (try simp only [List.set_cons_zero, List.set_cons_succ, List.cons_append, List.nil_append, List.eraseIdx_cons_zero, List.eraseIdx_cons_succ, List.setIfInBounds_toArray, World.size_alloc, selR, List.getD_cons_zero, List.getD_cons_succ] at H)
        generalize w7.heap.size = g at *
        generalize w7.alloc (.cells #[.slice none 0 0, .slice none 0 0] 70) = V at *
        refine (all_any 52 #[.pointer (some ⟨g, 0, none⟩)] s V (by omega) (Rsch w s V.heap.size g _ (psch s) prErr) (cf_any Try.func52 (by kernel_rfl) (by kernel_rfl)) (fun w8 h1 h2 h3 h4 h5 => schl1_any w V.heap.size g s w8 _ (H.out.begin h1 h3 h4 h5))).mono ?_
        rintro e w9 ⟨k8, w8, rfl, ⟨hk8, Y, q8, hS8, hY⟩, hbut, _⟩
        replace H := Lib.hid (hS8.ended hbut); (try simp only [List.set_cons_zero, List.set_cons_succ, List.cons_append, List.nil_append, List.eraseIdx_cons_zero, List.eraseIdx_cons_succ, List.setIfInBounds_toArray, World.size_alloc, selR, List.getD_cons_zero, List.getD_cons_succ] at H)
        clear hS8 hbut
        rw [Ho.out] at hk8 hY
        dsimp only [prErr] at hk8
        subst hk8
        have c2 := (H.out.blk 4 rfl).cell 2; simp only [List.getElem?_toArray, List.getElem?_cons_zero, List.getElem?_cons_succ] at c2
        have HYc := Lib.hid (hY _ _ rfl)
        clear hY
        go_wp2_with (first | ((with_reducible show wpList _ _ _ (⟨some 41, _, _, _, _, _⟩ :: _) _ _); refine wpList_load_blkG (by first | rfl | go_simp) rowSch (.tmp 8) (by rfl) _ (by rfl) (H.out.blk 0 rfl) rfl ?_) | ((with_reducible show wpList _ _ _ (⟨some 42, _, _, _, _, _⟩ :: _) _ _); refine wpList_load_blkG (by first | rfl | go_simp) rowSch (.tmp 6) (by rfl) _ (by rfl) (H.out.blk 5 rfl) rfl ?_))
        refine (schsame_any Y U _ (H.out.at_ 6 rfl).rd (holds_if_of (H.out.get 3 rfl) (by trivial)).now.rd).mono ?_; rintro e w10 ⟨rfl, hb10⟩
        rw [HYc.out, HUc.out, sameS_self]
        replace H := Lib.hid (H.out.bel hb10); (try simp only [List.set_cons_zero, List.set_cons_succ, List.cons_append, List.nil_append, List.eraseIdx_cons_zero, List.eraseIdx_cons_succ, List.setIfInBounds_toArray, World.size_alloc, selR, List.getD_cons_zero, List.getD_cons_succ] at H)
        clear c2 hb10
        go_wp2_with ((with_reducible show wpList _ _ _ (⟨some 61, _, _, _, _, _⟩ :: _) _ _); refine wpList_load_blkG (by first | rfl | go_simp) rowSch (.tmp 3) (by rfl) _ (by rfl) (H.out.blk 2 rfl) rfl ?_)
        refine (schput_any D _ (H.out.at_ 1 rfl).rd (by have := (H.out.at_ 1 rfl).dn; omega) (by have := (H.out.at_ 1 rfl).mn; omega) (H.out.at_ 1 rfl).small).mono ?_; rintro e w11 ⟨rfl, hb11⟩
        rw [HDc.out, HPV.out]
        replace H := Lib.hid (H.out.bel hb11); (try simp only [List.set_cons_zero, List.set_cons_succ, List.cons_append, List.nil_append, List.eraseIdx_cons_zero, List.eraseIdx_cons_succ, List.setIfInBounds_toArray, World.size_alloc, selR, List.getD_cons_zero, List.getD_cons_succ] at H)
        clear hb11
        have e9 : (schPut tc == s) = true := by rw [HBk.out, beq_self_eq_true]
        dsimp only
        go_wp2_with (first | ((with_reducible show wpList _ _ _ (⟨some 65, _, _, _, _, _⟩ :: _) _ _); refine wpList_load_blkG (by first | rfl | go_simp) rowSch (.tmp 3) (by rfl) _ (by rfl) (H.out.blk 2 rfl) rfl ?_) | ((with_reducible show wpList _ _ _ (⟨some 66, _, _, _, _, _⟩ :: _) _ _); refine wpList_load_blkG (by first | rfl | go_simp) rowSch (.tmp 6) (by rfl) _ (by rfl) (H.out.blk 5 rfl) rfl ?_))
        refine (schsame_any D U _ (H.out.at_ 1 rfl).rd (holds_if_of (H.out.get 3 rfl) (by trivial)).now.rd).mono ?_; rintro e w12 ⟨rfl, hb12⟩
        rw [HDc.out, HUc.out, sameS_self]
        replace H := Lib.hid (H.out.bel hb12); (try simp only [List.set_cons_zero, List.set_cons_succ, List.cons_append, List.nil_append, List.eraseIdx_cons_zero, List.eraseIdx_cons_succ, List.setIfInBounds_toArray, World.size_alloc, selR, List.getD_cons_zero, List.getD_cons_succ] at H)
        clear hb12
        go_wp2_with fail
        refine (awake17_any _).mono ?_; rintro e w13 ⟨rfl, hb13⟩
        go_wp2
        go_ret
        exact ⟨rfl, H.out.to.trans hb13⟩
      · have hT : schtake s = (SC.nil, 3) := by unfold schtake; rw [ho]; simp [hl0]
        rw [hT] at HK
        have Hl0 := Lib.hid hl0
        clear ho hl0 hT
        go_enter Try.func9, Try.ntmps9
        go_wp2_with fail
        refine (HK.out _).mono ?_; rintro e w1 ⟨D, rfl, hDc, hb1, hnew⟩
        replace H := Lib.hid (H.out.add hb1 (rSch D) hnew.1 hnew.2); (try simp only [List.set_cons_zero, List.set_cons_succ, List.cons_append, List.nil_append, List.eraseIdx_cons_zero, List.eraseIdx_cons_succ, List.setIfInBounds_toArray, World.size_alloc, selR, List.getD_cons_zero, List.getD_cons_succ] at H)
        have HDc := Lib.hid hDc
        dsimp only
        clear hb1 hnew hDc HK
        go_wp2_with ((with_reducible show wpList _ _ _ (⟨_, .store _ (.tmp 3) _, _, _, _, _⟩ :: _) _ _); (refine wpList_store_new rfl rowSch (.tmp 3) (.tmp 19) rfl rfl rfl (D.cs) rfl rfl (sch_one D) ?_; replace H := Lib.hid (H.out.alloc (D.cs) 70); (try simp only [List.set_cons_zero, List.set_cons_succ, List.cons_append, List.nil_append, List.eraseIdx_cons_zero, List.eraseIdx_cons_succ, List.setIfInBounds_toArray, World.size_alloc, selR, List.getD_cons_zero, List.getD_cons_succ] at H)))
        refine (HRD.out _).mono ?_; rintro e w3 ⟨t, k3, U, rfl, hb3, hS, hUo⟩
        replace H := Lib.hid (H.out.add hb3 (rIf (k3 = 0) (rSch U)) (holds_if fun h => (hUo h).1) (fun g hg => (hUo hg.1).2 g hg.2)); (try simp only [List.set_cons_zero, List.set_cons_succ, List.cons_append, List.nil_append, List.eraseIdx_cons_zero, List.eraseIdx_cons_succ, List.setIfInBounds_toArray, World.size_alloc, selR, List.getD_cons_zero, List.getD_cons_succ] at H)
        clear hb3 hUo HRD
        obtain ⟨rfl, tn, rfl, htn, hUc, hlt⟩ : k3 = 0 ∧ ∃ tn : Nat, t = tn ∧ tn ≤ s.length ∧ U.con = tc ∧ l = s.drop tn := by
          rcases hS.out with ⟨_, h⟩ | ⟨h0, tn, h1, h2, h⟩
          · cases h
          · injection h with h; injection h with h3 h4; exact ⟨h0, tn, h1, h2, h3.symm, h4⟩
        have HUc := Lib.hid hUc
        have HLT := Lib.hid hlt
        clear hS hUc hlt
        go_wp2_with (first | ((with_reducible show wpList _ _ _ (⟨_, .store _ (.tmp 5) _, _, _, _, _⟩ :: _) _ _); (replace H := Lib.hid ((H.out.alloc (scs [] 0 0) 47).alloc #[.slice none 0 0, .slice none 0 0] 70); (try simp only [List.set_cons_zero, List.set_cons_succ, List.cons_append, List.nil_append, List.eraseIdx_cons_zero, List.eraseIdx_cons_succ, List.setIfInBounds_toArray, World.size_alloc, selR, List.getD_cons_zero, List.getD_cons_succ] at H); refine wpList_store_blk rfl rowScn (.tmp 5) (.tmp 25) rfl _ rfl (H.out.blk 3 rfl) rfl (scs s tn 0) rfl rfl (scs_one _ _ _) ?_; intro wq bq hgq; replace H := Lib.hid (H.out.setBlk 3 rfl hgq bq); (try simp only [List.set_cons_zero, List.set_cons_succ, List.cons_append, List.nil_append, List.eraseIdx_cons_zero, List.eraseIdx_cons_succ, List.setIfInBounds_toArray, World.size_alloc, selR, List.getD_cons_zero, List.getD_cons_succ] at H); clear hgq bq)) | ((with_reducible show wpList _ _ _ (⟨_, .store _ (.tmp 6) _, _, _, _, _⟩ :: _) _ _); (refine wpList_store_blk rfl rowSch (.tmp 6) (.tmp 26) rfl _ rfl (H.out.blk 4 rfl) rfl (U.cs) rfl rfl (sch_one U) ?_; intro wq bq hgq; replace H := Lib.hid (H.out.setBlk 4 rfl hgq bq); (try simp only [List.set_cons_zero, List.set_cons_succ, List.cons_append, List.nil_append, List.eraseIdx_cons_zero, List.eraseIdx_cons_succ, List.setIfInBounds_toArray, World.size_alloc, selR, List.getD_cons_zero, List.getD_cons_succ] at H); clear hgq bq)) | ((with_reducible show wpList _ _ _ (⟨some 27, _, _, _, _, _⟩ :: _) _ _); (refine wpList_load_blk rfl rowScn (.tmp 5) rfl _ rfl (H.out.blk 3 rfl) rfl ?_)))
        refine (rend_any s tn 0 _).mono ?_; rintro e w7 ⟨rfl, hb7⟩
        rw [show endOf s tn 0 = 3 by unfold endOf; rw [if_neg (by omega), if_neg (fun h => Hl0.out (by rw [HLT.out]; exact List.drop_of_length_le (by omega)))]]
        replace H := Lib.hid (H.out.bel hb7); (try simp only [List.set_cons_zero, List.set_cons_succ, List.cons_append, List.nil_append, List.eraseIdx_cons_zero, List.eraseIdx_cons_succ, List.setIfInBounds_toArray, World.size_alloc, selR, List.getD_cons_zero, List.getD_cons_succ] at H)
        clear hb7
        go_wp2_with fail
        replace H := Lib.hid (H.out.alloc #[.slice none 0 0, .slice none 0 0] 70); (try simp only [List.set_cons_zero, List.set_cons_succ, List.cons_append, List.nil_append, List.eraseIdx_cons_zero, List.eraseIdx_cons_succ, List.setIfInBounds_toArray, World.size_alloc, selR, List.getD_cons_zero, List.getD_cons_succ] at H)
        replace H := Lib.hid (H.out.sel [5, 0, 1, 2, 3, 4] (by decide) (by simp)); (try simp only [List.set_cons_zero, List.set_cons_succ, List.cons_append, List.nil_append, List.eraseIdx_cons_zero, List.eraseIdx_cons_succ, List.setIfInBounds_toArray, World.size_alloc, selR, List.getD_cons_zero, List.getD_cons_succ] at H)
        generalize w7.heap.size = g at *
        generalize w7.alloc (.cells #[.slice none 0 0, .slice none 0 0] 70) = V at *
        refine (all_any 52 #[.pointer (some ⟨g, 0, none⟩)] s V (by omega) (Rsch w s V.heap.size g _ (psch s) prErr) (cf_any Try.func52 (by kernel_rfl) (by kernel_rfl)) (fun w8 h1 h2 h3 h4 h5 => schl1_any w V.heap.size g s w8 _ (H.out.begin h1 h3 h4 h5))).mono ?_
        rintro e w9 ⟨k8, w8, rfl, ⟨hk8, Y, q8, hS8, hY⟩, hbut, _⟩
        replace H := Lib.hid (hS8.ended hbut); (try simp only [List.set_cons_zero, List.set_cons_succ, List.cons_append, List.nil_append, List.eraseIdx_cons_zero, List.eraseIdx_cons_succ, List.setIfInBounds_toArray, World.size_alloc, selR, List.getD_cons_zero, List.getD_cons_succ] at H)
        clear hS8 hbut
        rw [Ho.out] at hk8 hY
        dsimp only [prErr] at hk8
        subst hk8
        have c2 := (H.out.blk 4 rfl).cell 2; simp only [List.getElem?_toArray, List.getElem?_cons_zero, List.getElem?_cons_succ] at c2
        have HYc := Lib.hid (hY _ _ rfl)
        clear hY
        go_wp2_with (first | ((with_reducible show wpList _ _ _ (⟨some 41, _, _, _, _, _⟩ :: _) _ _); refine wpList_load_blkG (by first | rfl | go_simp) rowSch (.tmp 8) (by rfl) _ (by rfl) (H.out.blk 0 rfl) rfl ?_) | ((with_reducible show wpList _ _ _ (⟨some 42, _, _, _, _, _⟩ :: _) _ _); refine wpList_load_blkG (by first | rfl | go_simp) rowSch (.tmp 6) (by rfl) _ (by rfl) (H.out.blk 5 rfl) rfl ?_))
        refine (schsame_any Y U _ (H.out.at_ 6 rfl).rd (holds_if_of (H.out.get 3 rfl) (by trivial)).now.rd).mono ?_; rintro e w10 ⟨rfl, hb10⟩
        rw [HYc.out, HUc.out, sameS_self]
        replace H := Lib.hid (H.out.bel hb10); (try simp only [List.set_cons_zero, List.set_cons_succ, List.cons_append, List.nil_append, List.eraseIdx_cons_zero, List.eraseIdx_cons_succ, List.setIfInBounds_toArray, World.size_alloc, selR, List.getD_cons_zero, List.getD_cons_succ] at H)
        clear c2 hb10
        go_wp2_with ((with_reducible show wpList _ _ _ (⟨some 49, _, _, _, _, _⟩ :: _) _ _); refine wpList_load_blkG (by first | rfl | go_simp) rowSch (.tmp 3) (by rfl) _ (by rfl) (H.out.blk 2 rfl) rfl ?_)
        refine (schsame_any D Sch.nil _ (H.out.at_ 1 rfl).rd (sch_nil_rd _)).mono ?_; rintro e w11 ⟨rfl, hb11⟩
        replace H := Lib.hid (H.out.bel hb11); (try simp only [List.set_cons_zero, List.set_cons_succ, List.cons_append, List.nil_append, List.eraseIdx_cons_zero, List.eraseIdx_cons_succ, List.setIfInBounds_toArray, World.size_alloc, selR, List.getD_cons_zero, List.getD_cons_succ] at H)
        clear hb11
        rw [HDc.out, show sameS SC.nil Sch.nil.con = true from by rfl]
        go_wp2_with fail
        refine (awake17_any _).mono ?_; rintro e w13 ⟨rfl, hb13⟩
        go_wp2
        go_ret
        exact ⟨rfl, H.out.to.trans hb13⟩
  · go_enter Try.func9, Try.ntmps9
    go_wp2_with fail
    refine (awake17_any _).mono ?_; rintro e w2 ⟨rfl, hb⟩
    go_wp2
    go_ret
    exact ⟨rfl, hb⟩
theorem walk_schemaTakes (b : ByteArray) (hb : b.size ≤ 9223372036854775807) (w : World) :
    Calls Try.prog 9 #[.string b] w fun e w' => e = .returned (.bool true) ∧ Bel w w' := by
  obtain ⟨⟨l⟩⟩ := b
  exact walkl_schemaTakes w l (by simpa [ByteArray.size] using hb)


end Go.Proofs.Ytnjpoamebkehbaa
