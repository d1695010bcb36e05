/- The walk of the law AskChecks. -/
import Derived.Test.YtigjghfonpfdlaaAskL
namespace Go.Proofs.Ytigjghfonpfdlaa
open Go.RowKit
set_option linter.unusedVariables false
set_option linter.unusedSimpArgs false

theorem askPut_len {s : SC} {q : List PC} (h : askErr s q = 0) : (askPut q).length ≤ 112000 := by
  have h1 := askErr_put h
  have h2 : (askPut q).length ≤ 7000 * q.length := flat_len fun x hx => pickPut_le (h1 x hx)
  have h3 := askErr_zero h
  have h4 := (schErr_zero h3.1).2.1
  have h5 := h3.2.1
  omega
set_option maxRecDepth 100000 in
set_option maxHeartbeats 2000000 in
theorem walk_askChecks (w : World) (d : Sch) (hd : d.rd w) (q : Qr) (hq : q.rd w) :
    Calls Try.prog 5 #[.agg d.cs, .agg q.cs] w fun e w' => e = .returned (.bool true) ∧ Bel w w' := by
  have HF := Lib.hid (fun w' (hb : Bel w w') => schfew_any d w' (hd.mono hb))
  have HF2 := Lib.hid (fun w' (hb : Bel w w') => askfew_any q w' (Row.rd.mono hq hb))
  have HP := Lib.hid (fun (hf : FewS d) (hf2 : FewQ q) w' (hb : Bel w w') => askput_any d q w' (hd.mono hb) (Row.rd.mono hq hb) (FewS.hn hf) (FewS.hm hf) (FewS.hd hf) hf2.set)
  have HR := Lib.hid (fun (hf : FewS d) (hf2 : FewQ q) w' (hb : Bel w w') => askwrong_any d q w' (hd.mono hb) (Row.rd.mono hq hb) (FewS.hn hf) (FewS.hm hf) (FewS.hd hf) hf2.set)
  have HC := Lib.hid (fun (hf : FewS d) (hf2 : FewQ q) w' (hb : Bel w w') => askcheck_any d q w' (hd.mono hb) (Row.rd.mono hq hb) (FewS.hn hf) (FewS.hm hf) (FewS.hd hf) hf2.set)
  have H := Lib.hid (((SL.start No w).alloc d.cs 25).alloc q.cs 30)
  (try simp only [List.set_cons_zero, List.set_cons_succ, List.cons_append, List.nil_append, List.eraseIdx_cons_zero, List.eraseIdx_cons_succ, List.setIfInBounds_toArray, World.size_alloc, selR, List.getD_cons_zero, List.getD_cons_succ] at H)
  have hql : q.ps.l.length = q.ps.n := Row.rd.len hq
  by_cases hE : askErr d.con q.con = 0
  · have hV : askPutV d.con q.con = (askPut q.con, 0) := by unfold askPutV; rw [if_pos hE]
    have hl := askPut_len hE
    have HT := Lib.hid (fun (hf : FewS d) w' (hb : Bel w w') => asktake_any d (askPut q.con) w' (hd.mono hb) (by omega) (FewS.hn hf) (FewS.hm hf) (FewS.hd hf))
    rw [asktake_put hE] at HT
    have hn16 : q.ps.n ≤ 16 := by
      have h3 := askErr_zero hE
      have h4 := (schErr_zero h3.1).2.1
      have h5 := h3.2.1
      simp only [Qr.con, Sch.con, List.length_map] at h4 h5
      omega
    have HRP := Lib.hid (fun w' (hb : Bel w w') => raskput_any q w' (Row.rd.mono hq hb) (askErr_put hE) hn16)
    have HSm := Lib.hid (fun (D : Qr) w' (hD : D.rd w') (hb : Bel w w') (he : D.con = q.con) => asksame_any D q w' hD (Row.rd.mono hq hb) he)
    rw [hV] at HP
    rw [hE] at HR HC
    generalize hpq : askPut q.con = pq at *
    generalize q.con = qc at *
    have hcs : d.cs = #[.slice d.dm.A d.dm.n d.dm.c, .slice d.ms.A d.ms.n d.ms.c] := rfl
    have HCS := Lib.hid hcs
    have hqs : q.cs = #[.slice q.ps.A q.ps.n q.ps.c] := rfl
    have HQS := Lib.hid hqs
    have q8 : (pq == pq) = true := by simp
    clear hE hV hcs hd hq hl hql hn16 hpq hqs
    go_enter Try.func5, Try.ntmps5
    rw [← HCS.out] at *
    go_wp2_with ((with_reducible show wpList _ _ _ (⟨some 10, _, _, _, _, _⟩ :: _) _ _); (refine wpList_load_blk rfl rowSch (.tmp 2) rfl _ rfl (H.out.blk 0 rfl) rfl ?_))
    refine (HF.out _ H.out.to).mono ?_; rintro e w1 ⟨b, rfl, hfew, hb1⟩
    replace H := Lib.hid (H.out.bel hb1); (try simp only [List.set_cons_zero, List.set_cons_succ, List.cons_append, List.nil_append, List.eraseIdx_cons_zero, List.eraseIdx_cons_succ, List.setIfInBounds_toArray, World.size_alloc, selR, List.getD_cons_zero, List.getD_cons_succ] at H)
    clear hb1
    clear HF
    cases b with
    | false =>
      clear hfew
      go_wp2_with fail
      refine (awake35_any _).mono ?_; rintro e w8 ⟨rfl, hb8⟩
      go_wp2
      go_ret
      exact ⟨rfl, H.out.to.trans hb8⟩
    | true =>
      have hf := hfew rfl
      clear hfew
      go_wp2_with ((with_reducible show wpList _ _ _ (⟨some 14, _, _, _, _, _⟩ :: _) _ _); refine wpList_load_blkG (by first | rfl | go_simp) rowQry (.tmp 3) (by rfl) _ (by rfl) (H.out.blk 1 rfl) rfl ?_)
      refine (HF2.out _ H.out.to).mono ?_; rintro e w1b ⟨b2, rfl, hfew2, hb1b⟩
      replace H := Lib.hid (H.out.bel hb1b); (try simp only [List.set_cons_zero, List.set_cons_succ, List.cons_append, List.nil_append, List.eraseIdx_cons_zero, List.eraseIdx_cons_succ, List.setIfInBounds_toArray, World.size_alloc, selR, List.getD_cons_zero, List.getD_cons_succ] at H)
      clear hb1b HF2
      cases b2 with
      | false =>
        clear hfew2
        go_wp2_with fail
        refine (awake35_any _).mono ?_; rintro e w8 ⟨rfl, hb8⟩
        go_wp2
        go_ret
        exact ⟨rfl, H.out.to.trans hb8⟩
      | true =>
        have hf2 := hfew2 rfl
        clear hfew2
        go_wp2_with (first | ((with_reducible show wpList _ _ _ (⟨some 20, _, _, _, _, _⟩ :: _) _ _); (refine wpList_load_blk rfl rowSch (.tmp 2) rfl _ rfl (H.out.blk 0 rfl) rfl ?_)) | ((with_reducible show wpList _ _ _ (⟨some 21, _, _, _, _, _⟩ :: _) _ _); (refine wpList_load_blk rfl rowQry (.tmp 3) rfl _ rfl (H.out.blk 1 rfl) rfl ?_)))
        refine (HP.out hf hf2 _ H.out.to).mono ?_; rintro e w2 ⟨rfl, hb2⟩
        replace H := Lib.hid (H.out.bel hb2); (try simp only [List.set_cons_zero, List.set_cons_succ, List.cons_append, List.nil_append, List.eraseIdx_cons_zero, List.eraseIdx_cons_succ, List.setIfInBounds_toArray, World.size_alloc, selR, List.getD_cons_zero, List.getD_cons_succ] at H)
        clear hb2
        clear HP
        go_wp2_with (first | ((with_reducible show wpList _ _ _ (⟨some 25, _, _, _, _, _⟩ :: _) _ _); (refine wpList_load_blk rfl rowSch (.tmp 2) rfl _ rfl (H.out.blk 0 rfl) rfl ?_)) | ((with_reducible show wpList _ _ _ (⟨some 26, _, _, _, _, _⟩ :: _) _ _); (refine wpList_load_blk rfl rowQry (.tmp 3) rfl _ rfl (H.out.blk 1 rfl) rfl ?_)))
        refine (HR.out hf hf2 _ H.out.to).mono ?_; rintro e w3 ⟨rfl, hb3⟩
        replace H := Lib.hid (H.out.bel hb3); (try simp only [List.set_cons_zero, List.set_cons_succ, List.cons_append, List.nil_append, List.eraseIdx_cons_zero, List.eraseIdx_cons_succ, List.setIfInBounds_toArray, World.size_alloc, selR, List.getD_cons_zero, List.getD_cons_succ] at H)
        clear hb3
        clear HR
        go_wp2_with (first | ((with_reducible show wpList _ _ _ (⟨some 32, _, _, _, _, _⟩ :: _) _ _); refine wpList_load_blkG (by first | rfl | go_simp) rowSch (.tmp 2) (by rfl) _ (by rfl) (H.out.blk 0 rfl) rfl ?_) | ((with_reducible show wpList _ _ _ (⟨some 33, _, _, _, _, _⟩ :: _) _ _); refine wpList_load_blkG (by first | rfl | go_simp) rowQry (.tmp 3) (by rfl) _ (by rfl) (H.out.blk 1 rfl) rfl ?_))
        refine (HC.out hf hf2 _ H.out.to).mono ?_; rintro e w4 ⟨rfl, hb4⟩
        replace H := Lib.hid (H.out.bel hb4); (try simp only [List.set_cons_zero, List.set_cons_succ, List.cons_append, List.nil_append, List.eraseIdx_cons_zero, List.eraseIdx_cons_succ, List.setIfInBounds_toArray, World.size_alloc, selR, List.getD_cons_zero, List.getD_cons_succ] at H)
        clear hb4
        clear HC
        
        go_wp2_with ((with_reducible show wpList _ _ _ (⟨some 46, _, _, _, _, _⟩ :: _) _ _); (refine wpList_load_blk rfl rowSch (.tmp 2) rfl _ rfl (H.out.blk 0 rfl) rfl ?_))
        refine (HT.out hf _ H.out.to).mono ?_; rintro e w5 ⟨D, rfl, hDc, hb5, hnew⟩
        replace H := Lib.hid (H.out.add hb5 (rQry D.ps) hnew.1 hnew.2); (try simp only [List.set_cons_zero, List.set_cons_succ, List.cons_append, List.nil_append, List.eraseIdx_cons_zero, List.eraseIdx_cons_succ, List.setIfInBounds_toArray, World.size_alloc, selR, List.getD_cons_zero, List.getD_cons_succ] at H)
        have HDc := Lib.hid hDc
        clear hb5 hnew hDc HT
        obtain ⟨D⟩ := D
        go_wp2_with (first | ((with_reducible show wpList _ _ _ (⟨_, .store _ (.tmp 8) _, _, _, _, _⟩ :: _) _ _); (refine wpList_store_new rfl rowQry (.tmp 8) (.tmp 49) rfl rfl rfl (#[.slice D.A D.n D.c]) rfl rfl (by simp [Value.oneCell']) ?_; replace H := Lib.hid (H.out.alloc (#[.slice D.A D.n D.c]) 30); (try simp only [List.set_cons_zero, List.set_cons_succ, List.cons_append, List.nil_append, List.eraseIdx_cons_zero, List.eraseIdx_cons_succ, List.setIfInBounds_toArray, World.size_alloc, selR, List.getD_cons_zero, List.getD_cons_succ] at H))) | ((with_reducible show wpList _ _ _ (⟨some 52, _, _, _, _, _⟩ :: _) _ _); (refine wpList_load_blk rfl rowQry (.tmp 3) rfl _ rfl (H.out.blk 1 rfl) rfl ?_)))
        refine (HRP.out _ H.out.to).mono ?_; rintro e w6 ⟨rfl, hb6⟩
        replace H := Lib.hid (H.out.bel hb6); (try simp only [List.set_cons_zero, List.set_cons_succ, List.cons_append, List.nil_append, List.eraseIdx_cons_zero, List.eraseIdx_cons_succ, List.setIfInBounds_toArray, World.size_alloc, selR, List.getD_cons_zero, List.getD_cons_succ] at H)
        clear hb6
        clear HRP
        go_wp2_with (first | ((with_reducible show wpList _ _ _ (⟨some 56, _, _, _, _, _⟩ :: _) _ _); refine wpList_load_blkG (by first | rfl | go_simp) rowQry (.tmp 8) (by rfl) _ (by rfl) (H.out.blk 3 rfl) rfl ?_) | ((with_reducible show wpList _ _ _ (⟨some 57, _, _, _, _, _⟩ :: _) _ _); refine wpList_load_blkG (by first | rfl | go_simp) rowQry (.tmp 3) (by rfl) _ (by rfl) (H.out.blk 1 rfl) rfl ?_))
        refine (HSm.out ⟨D⟩ _ (H.out.at_ 2 rfl).1 H.out.to HDc.out).mono ?_; rintro e w7 ⟨rfl, hb7⟩
        replace H := Lib.hid (H.out.bel hb7); (try simp only [List.set_cons_zero, List.set_cons_succ, List.cons_append, List.nil_append, List.eraseIdx_cons_zero, List.eraseIdx_cons_succ, List.setIfInBounds_toArray, World.size_alloc, selR, List.getD_cons_zero, List.getD_cons_succ] at H)
        clear hb7
        clear HSm
        go_wp2_with fail
        refine (awake35_any _).mono ?_; rintro e w8 ⟨rfl, hb8⟩
        go_wp2
        go_ret
        exact ⟨rfl, H.out.to.trans hb8⟩
  · have hV : askPutV d.con q.con = ([], askErr d.con q.con) := by unfold askPutV; rw [if_neg hE]
    have dE : (askErr d.con q.con == 0) = false := by simpa using hE
    have dE2 : (askErr d.con q.con != 0) = true := by simpa using hE
    rw [hV] at HP
    generalize askErr d.con q.con = E at *
    have dE3 : (E != E) = false := by simp
    have hcs : d.cs = #[.slice d.dm.A d.dm.n d.dm.c, .slice d.ms.A d.ms.n d.ms.c] := rfl
    have HCS := Lib.hid hcs
    clear hE hV hcs hd hq hql
    go_enter Try.func5, Try.ntmps5
    rw [← HCS.out] at *
    go_wp2_with ((with_reducible show wpList _ _ _ (⟨some 10, _, _, _, _, _⟩ :: _) _ _); (refine wpList_load_blk rfl rowSch (.tmp 2) rfl _ rfl (H.out.blk 0 rfl) rfl ?_))
    refine (HF.out _ H.out.to).mono ?_; rintro e w1 ⟨b, rfl, hfew, hb1⟩
    replace H := Lib.hid (H.out.bel hb1); (try simp only [List.set_cons_zero, List.set_cons_succ, List.cons_append, List.nil_append, List.eraseIdx_cons_zero, List.eraseIdx_cons_succ, List.setIfInBounds_toArray, World.size_alloc, selR, List.getD_cons_zero, List.getD_cons_succ] at H)
    clear hb1
    clear HF
    cases b with
    | false =>
      clear hfew
      go_wp2_with fail
      refine (awake35_any _).mono ?_; rintro e w8 ⟨rfl, hb8⟩
      go_wp2
      go_ret
      exact ⟨rfl, H.out.to.trans hb8⟩
    | true =>
      have hf := hfew rfl
      clear hfew
      go_wp2_with ((with_reducible show wpList _ _ _ (⟨some 14, _, _, _, _, _⟩ :: _) _ _); refine wpList_load_blkG (by first | rfl | go_simp) rowQry (.tmp 3) (by rfl) _ (by rfl) (H.out.blk 1 rfl) rfl ?_)
      refine (HF2.out _ H.out.to).mono ?_; rintro e w1b ⟨b2, rfl, hfew2, hb1b⟩
      replace H := Lib.hid (H.out.bel hb1b); (try simp only [List.set_cons_zero, List.set_cons_succ, List.cons_append, List.nil_append, List.eraseIdx_cons_zero, List.eraseIdx_cons_succ, List.setIfInBounds_toArray, World.size_alloc, selR, List.getD_cons_zero, List.getD_cons_succ] at H)
      clear hb1b HF2
      cases b2 with
      | false =>
        clear hfew2
        go_wp2_with fail
        refine (awake35_any _).mono ?_; rintro e w8 ⟨rfl, hb8⟩
        go_wp2
        go_ret
        exact ⟨rfl, H.out.to.trans hb8⟩
      | true =>
        have hf2 := hfew2 rfl
        clear hfew2
        go_wp2_with (first | ((with_reducible show wpList _ _ _ (⟨some 20, _, _, _, _, _⟩ :: _) _ _); (refine wpList_load_blk rfl rowSch (.tmp 2) rfl _ rfl (H.out.blk 0 rfl) rfl ?_)) | ((with_reducible show wpList _ _ _ (⟨some 21, _, _, _, _, _⟩ :: _) _ _); (refine wpList_load_blk rfl rowQry (.tmp 3) rfl _ rfl (H.out.blk 1 rfl) rfl ?_)))
        refine (HP.out hf hf2 _ H.out.to).mono ?_; rintro e w2 ⟨rfl, hb2⟩
        replace H := Lib.hid (H.out.bel hb2); (try simp only [List.set_cons_zero, List.set_cons_succ, List.cons_append, List.nil_append, List.eraseIdx_cons_zero, List.eraseIdx_cons_succ, List.setIfInBounds_toArray, World.size_alloc, selR, List.getD_cons_zero, List.getD_cons_succ] at H)
        clear hb2
        clear HP
        go_wp2_with (first | ((with_reducible show wpList _ _ _ (⟨some 25, _, _, _, _, _⟩ :: _) _ _); (refine wpList_load_blk rfl rowSch (.tmp 2) rfl _ rfl (H.out.blk 0 rfl) rfl ?_)) | ((with_reducible show wpList _ _ _ (⟨some 26, _, _, _, _, _⟩ :: _) _ _); (refine wpList_load_blk rfl rowQry (.tmp 3) rfl _ rfl (H.out.blk 1 rfl) rfl ?_)))
        refine (HR.out hf hf2 _ H.out.to).mono ?_; rintro e w3 ⟨rfl, hb3⟩
        replace H := Lib.hid (H.out.bel hb3); (try simp only [List.set_cons_zero, List.set_cons_succ, List.cons_append, List.nil_append, List.eraseIdx_cons_zero, List.eraseIdx_cons_succ, List.setIfInBounds_toArray, World.size_alloc, selR, List.getD_cons_zero, List.getD_cons_succ] at H)
        clear hb3
        clear HR
        go_wp2_with (first | ((with_reducible show wpList _ _ _ (⟨some 32, _, _, _, _, _⟩ :: _) _ _); refine wpList_load_blkG (by first | rfl | go_simp) rowSch (.tmp 2) (by rfl) _ (by rfl) (H.out.blk 0 rfl) rfl ?_) | ((with_reducible show wpList _ _ _ (⟨some 33, _, _, _, _, _⟩ :: _) _ _); refine wpList_load_blkG (by first | rfl | go_simp) rowQry (.tmp 3) (by rfl) _ (by rfl) (H.out.blk 1 rfl) rfl ?_))
        refine (HC.out hf hf2 _ H.out.to).mono ?_; rintro e w4 ⟨rfl, hb4⟩
        replace H := Lib.hid (H.out.bel hb4); (try simp only [List.set_cons_zero, List.set_cons_succ, List.cons_append, List.nil_append, List.eraseIdx_cons_zero, List.eraseIdx_cons_succ, List.setIfInBounds_toArray, World.size_alloc, selR, List.getD_cons_zero, List.getD_cons_succ] at H)
        clear hb4
        clear HC
        
        go_wp2_with fail
        refine (awake35_any _).mono ?_; rintro e w8 ⟨rfl, hb8⟩
        go_wp2
        go_ret
        exact ⟨rfl, H.out.to.trans hb8⟩

end Go.Proofs.Ytigjghfonpfdlaa
