/- The walk of the law SchemaChecks. -/
import Derived.Test.YtnjpoamebkehbaaSchA
import Derived.Test.YtnjpoamebkehbaaSchT
import Derived.Test.YtnjpoamebkehbaaSchZ
import Derived.Test.YtnjpoamebkehbaaSchY
import Derived.Test.YtnjpoamebkehbaaSchX
namespace Go.Proofs.Ytnjpoamebkehbaa
open Go.RowKit
set_option linter.unusedVariables false
set_option linter.unusedSimpArgs false

theorem FewS.hn {s : Sch} (h : FewS s) : s.dm.n ≤ 1000000 := by have := h.1; omega
theorem FewS.hm {s : Sch} (h : FewS s) : s.ms.n ≤ 1000000 := by have := h.2.1; omega
theorem FewS.hd {s : Sch} (h : FewS s) : ∀ d ∈ s.dm.l, d.tr.n ≤ 1000000 ∧ ∀ t ∈ d.tr.l, t.up.n ≤ 100000 := fun d hd => ⟨by have := (h.2.2 d hd).1; omega, fun t ht => by have := ((h.2.2 d hd).2 t ht).2; omega⟩
theorem schtake_put {d : SC} (h : schErr d = 0) : schtake (schPut d) = (d, 0) := by
  unfold schtake
  have := psch_put h []
  rw [List.append_nil] at this
  rw [this]
  simp
theorem schPut_len {d : SC} (h : schErr d = 0) : (schPut d).length ≤ 900000 := by
  obtain ⟨h1, h2, h3, h4, h5, h6⟩ := schErr_zero h
  have h7 := nput_le9 d.dims.length
  have h8 := nput_le9 d.ms.length
  have h9 : (d.dims.flatMap dimPut).length ≤ 50000 * d.dims.length := flat_len fun x hx => dimPut_len (h3 x hx)
  have h10 : (d.ms.flatMap ptext).length ≤ 30 * d.ms.length := flat_len fun x hx => by
    have := isName_len (h6 x hx)
    have := nput_le9 x.length
    unfold ptext
    rw [List.length_append]
    omega
  unfold schPut
  simp only [List.length_append]
  omega

set_option maxRecDepth 100000 in
set_option maxHeartbeats 1000000 in
theorem walk_schemaChecks (w : World) (d : Sch) (hd : d.rd w) :
    Calls Try.prog 8 #[.agg d.cs] w fun e w' => e = .returned (.bool true) ∧ Bel w w' := by
  have HF := Lib.hid (fun w' (hb : Bel w w') => schfew_any d w' (hd.mono hb))
  have HP := Lib.hid (fun (hs3 : FewS d) w' (hb : Bel w w') => schput_any d w' (hd.mono hb) (FewS.hn hs3) (FewS.hm hs3) (FewS.hd hs3))
  have HR := Lib.hid (fun (hs3 : FewS d) w' (hb : Bel w w') => schwrong_any d w' (hd.mono hb) (FewS.hn hs3) (FewS.hm hs3) (fun x hx => (FewS.hd hs3 x hx).1))
  have HC := Lib.hid (fun (hs3 : FewS d) w' (hb : Bel w w') => schcheck_any d w' (hd.mono hb) (FewS.hn hs3) (FewS.hm hs3) (FewS.hd hs3))
  have H := Lib.hid ((SL.start No w).alloc d.cs 70)
  (try simp only [List.set_cons_zero, List.set_cons_succ, List.cons_append, List.nil_append, List.eraseIdx_cons_zero, List.eraseIdx_cons_succ, List.setIfInBounds_toArray, World.size_alloc, selR, List.getD_cons_zero, List.getD_cons_succ] at H)
  have hcs : d.cs = #[.slice d.dm.A d.dm.n d.dm.c, .slice d.ms.A d.ms.n d.ms.c] := rfl
  by_cases hE : schErr d.con = 0
  · have hV : schPutV d.con = (schPut d.con, 0) := by unfold schPutV; rw [if_pos hE]
    have hl := schPut_len hE
    have HT := Lib.hid (fun w => schtake_any (schPut d.con) w (by omega))
    rw [schtake_put hE] at HT
    have HRP := Lib.hid (fun w' (hb : Bel w w') => rschput_any d w' (hd.mono hb) hE)
    have HS := Lib.hid (fun (D : Sch) w' (hD : D.rd w') (hb : Bel w w') => schsame_any D d w' hD (hd.mono hb))
    rw [hV] at HP
    rw [hE] at HR HC
    have HCS := Lib.hid hcs
    clear hE hV hcs hd hl
    go_enter Try.func8, Try.ntmps8
    rw [← HCS.out] at *
    go_wp2_with ((with_reducible show wpList _ _ _ (⟨some 8, _, _, _, _, _⟩ :: _) _ _); refine wpList_load_blkG (by first | rfl | go_simp) rowSch (.tmp 1) (by rfl) _ (by rfl) (H.out.blk 0 rfl) rfl ?_)
    refine (HF.out _ H.out.to).mono ?_; rintro e w1 ⟨b, rfl, hfew, hb1⟩
    replace H := Lib.hid (H.out.bel hb1); (try simp only [List.set_cons_zero, List.set_cons_succ, List.cons_append, List.nil_append, List.eraseIdx_cons_zero, List.eraseIdx_cons_succ, List.setIfInBounds_toArray, World.size_alloc, selR, List.getD_cons_zero, List.getD_cons_succ] at H)
    clear hb1 HF
    cases b with
    | false =>
      clear hfew
      go_wp2_with fail
      refine (awake17_any _).mono ?_; rintro e w2 ⟨rfl, hb2⟩
      go_wp2
      go_ret
      exact ⟨rfl, H.out.to.trans hb2⟩
    | true =>
      obtain hs3 := hfew rfl
      clear hfew
      go_wp2_with ((with_reducible show wpList _ _ _ (⟨some 13, _, _, _, _, _⟩ :: _) _ _); refine wpList_load_blkG (by first | rfl | go_simp) rowSch (.tmp 1) (by rfl) _ (by rfl) (H.out.blk 0 rfl) rfl ?_)
      refine (HP.out hs3 _ H.out.to).mono ?_; rintro e w2 ⟨rfl, hb2⟩
      replace H := Lib.hid (H.out.bel hb2); (try simp only [List.set_cons_zero, List.set_cons_succ, List.cons_append, List.nil_append, List.eraseIdx_cons_zero, List.eraseIdx_cons_succ, List.setIfInBounds_toArray, World.size_alloc, selR, List.getD_cons_zero, List.getD_cons_succ] at H)
      clear hb2 HP
      go_wp2_with ((with_reducible show wpList _ _ _ (⟨some 17, _, _, _, _, _⟩ :: _) _ _); refine wpList_load_blkG (by first | rfl | go_simp) rowSch (.tmp 1) (by rfl) _ (by rfl) (H.out.blk 0 rfl) rfl ?_)
      refine (HR.out hs3 _ H.out.to).mono ?_; rintro e w3 ⟨rfl, hb3⟩
      replace H := Lib.hid (H.out.bel hb3); (try simp only [List.set_cons_zero, List.set_cons_succ, List.cons_append, List.nil_append, List.eraseIdx_cons_zero, List.eraseIdx_cons_succ, List.setIfInBounds_toArray, World.size_alloc, selR, List.getD_cons_zero, List.getD_cons_succ] at H)
      clear hb3 HR
      go_wp2_with ((with_reducible show wpList _ _ _ (⟨some 23, _, _, _, _, _⟩ :: _) _ _); refine wpList_load_blkG (by first | rfl | go_simp) rowSch (.tmp 1) (by rfl) _ (by rfl) (H.out.blk 0 rfl) rfl ?_)
      refine (HC.out hs3 _ H.out.to).mono ?_; rintro e w4 ⟨rfl, hb4⟩
      replace H := Lib.hid (H.out.bel hb4); (try simp only [List.set_cons_zero, List.set_cons_succ, List.cons_append, List.nil_append, List.eraseIdx_cons_zero, List.eraseIdx_cons_succ, List.setIfInBounds_toArray, World.size_alloc, selR, List.getD_cons_zero, List.getD_cons_succ] at H)
      clear hb4 HC
      go_wp2_with fail
      refine (HT.out _).mono ?_; rintro e w5 ⟨D, rfl, hDc, hb5, hnew⟩
      replace H := Lib.hid (H.out.add hb5 (rSch D) hnew.1 hnew.2); (try simp only [List.set_cons_zero, List.set_cons_succ, List.cons_append, List.nil_append, List.eraseIdx_cons_zero, List.eraseIdx_cons_succ, List.setIfInBounds_toArray, World.size_alloc, selR, List.getD_cons_zero, List.getD_cons_succ] at H)
      have HDc := Lib.hid hDc
      clear hb5 hnew hDc HT
      go_wp2_with (first | ((with_reducible show wpList _ _ _ (⟨_, .store _ (.tmp 6) _, _, _, _, _⟩ :: _) _ _); (refine wpList_store_new rfl rowSch (.tmp 6) (.tmp 38) rfl rfl rfl (D.cs) rfl rfl (sch_one D) ?_; replace H := Lib.hid (H.out.alloc (D.cs) 70); (try simp only [List.set_cons_zero, List.set_cons_succ, List.cons_append, List.nil_append, List.eraseIdx_cons_zero, List.eraseIdx_cons_succ, List.setIfInBounds_toArray, World.size_alloc, selR, List.getD_cons_zero, List.getD_cons_succ] at H))) | ((with_reducible show wpList _ _ _ (⟨some 41, _, _, _, _, _⟩ :: _) _ _); refine wpList_load_blkG (by first | rfl | go_simp) rowSch (.tmp 1) (by rfl) _ (by rfl) (H.out.blk 0 rfl) rfl ?_))
      refine (HRP.out _ H.out.to).mono ?_; rintro e w6 ⟨rfl, hb6⟩
      replace H := Lib.hid (H.out.bel hb6); (try simp only [List.set_cons_zero, List.set_cons_succ, List.cons_append, List.nil_append, List.eraseIdx_cons_zero, List.eraseIdx_cons_succ, List.setIfInBounds_toArray, World.size_alloc, selR, List.getD_cons_zero, List.getD_cons_succ] at H)
      clear hb6 HRP
      go_wp2_with (first | ((with_reducible show wpList _ _ _ (⟨some 45, _, _, _, _, _⟩ :: _) _ _); refine wpList_load_blkG (by first | rfl | go_simp) rowSch (.tmp 6) (by rfl) _ (by rfl) (H.out.blk 2 rfl) rfl ?_) | ((with_reducible show wpList _ _ _ (⟨some 46, _, _, _, _, _⟩ :: _) _ _); refine wpList_load_blkG (by first | rfl | go_simp) rowSch (.tmp 1) (by rfl) _ (by rfl) (H.out.blk 0 rfl) rfl ?_))
      refine (HS.out D _ (H.out.at_ 1 rfl).rd H.out.to).mono ?_; rintro e w7 ⟨rfl, hb7⟩
      replace H := Lib.hid (H.out.bel hb7); (try simp only [List.set_cons_zero, List.set_cons_succ, List.cons_append, List.nil_append, List.eraseIdx_cons_zero, List.eraseIdx_cons_succ, List.setIfInBounds_toArray, World.size_alloc, selR, List.getD_cons_zero, List.getD_cons_succ] at H)
      clear hb7 HS
      rw [HDc.out, sameS_self]
      go_wp2_with fail
      refine (awake17_any _).mono ?_; rintro e w8 ⟨rfl, hb8⟩
      go_wp2
      go_ret
      exact ⟨rfl, H.out.to.trans hb8⟩
  · have hV : schPutV d.con = ([], schErr d.con) := by unfold schPutV; rw [if_neg hE]
    have dE : (schErr d.con == 0) = false := by simpa using hE
    have dE2 : (schErr d.con != 0) = true := by simpa using hE
    rw [hV] at HP
    generalize schErr d.con = E at *
    have HCS := Lib.hid hcs
    clear hE hV hcs hd
    go_enter Try.func8, Try.ntmps8
    rw [← HCS.out] at *
    go_wp2_with ((with_reducible show wpList _ _ _ (⟨some 8, _, _, _, _, _⟩ :: _) _ _); refine wpList_load_blkG (by first | rfl | go_simp) rowSch (.tmp 1) (by rfl) _ (by rfl) (H.out.blk 0 rfl) rfl ?_)
    refine (HF.out _ H.out.to).mono ?_; rintro e w1 ⟨b, rfl, hfew, hb1⟩
    replace H := Lib.hid (H.out.bel hb1); (try simp only [List.set_cons_zero, List.set_cons_succ, List.cons_append, List.nil_append, List.eraseIdx_cons_zero, List.eraseIdx_cons_succ, List.setIfInBounds_toArray, World.size_alloc, selR, List.getD_cons_zero, List.getD_cons_succ] at H)
    clear hb1 HF
    cases b with
    | false =>
      clear hfew
      go_wp2_with fail
      refine (awake17_any _).mono ?_; rintro e w2 ⟨rfl, hb2⟩
      go_wp2
      go_ret
      exact ⟨rfl, H.out.to.trans hb2⟩
    | true =>
      obtain hs3 := hfew rfl
      clear hfew
      go_wp2_with ((with_reducible show wpList _ _ _ (⟨some 13, _, _, _, _, _⟩ :: _) _ _); refine wpList_load_blkG (by first | rfl | go_simp) rowSch (.tmp 1) (by rfl) _ (by rfl) (H.out.blk 0 rfl) rfl ?_)
      refine (HP.out hs3 _ H.out.to).mono ?_; rintro e w2 ⟨rfl, hb2⟩
      replace H := Lib.hid (H.out.bel hb2); (try simp only [List.set_cons_zero, List.set_cons_succ, List.cons_append, List.nil_append, List.eraseIdx_cons_zero, List.eraseIdx_cons_succ, List.setIfInBounds_toArray, World.size_alloc, selR, List.getD_cons_zero, List.getD_cons_succ] at H)
      clear hb2 HP
      go_wp2_with ((with_reducible show wpList _ _ _ (⟨some 17, _, _, _, _, _⟩ :: _) _ _); refine wpList_load_blkG (by first | rfl | go_simp) rowSch (.tmp 1) (by rfl) _ (by rfl) (H.out.blk 0 rfl) rfl ?_)
      refine (HR.out hs3 _ H.out.to).mono ?_; rintro e w3 ⟨rfl, hb3⟩
      replace H := Lib.hid (H.out.bel hb3); (try simp only [List.set_cons_zero, List.set_cons_succ, List.cons_append, List.nil_append, List.eraseIdx_cons_zero, List.eraseIdx_cons_succ, List.setIfInBounds_toArray, World.size_alloc, selR, List.getD_cons_zero, List.getD_cons_succ] at H)
      clear hb3 HR
      go_wp2_with ((with_reducible show wpList _ _ _ (⟨some 23, _, _, _, _, _⟩ :: _) _ _); refine wpList_load_blkG (by first | rfl | go_simp) rowSch (.tmp 1) (by rfl) _ (by rfl) (H.out.blk 0 rfl) rfl ?_)
      refine (HC.out hs3 _ H.out.to).mono ?_; rintro e w4 ⟨rfl, hb4⟩
      replace H := Lib.hid (H.out.bel hb4); (try simp only [List.set_cons_zero, List.set_cons_succ, List.cons_append, List.nil_append, List.eraseIdx_cons_zero, List.eraseIdx_cons_succ, List.setIfInBounds_toArray, World.size_alloc, selR, List.getD_cons_zero, List.getD_cons_succ] at H)
      clear hb4 HC
      go_wp2_with fail
      refine (awake17_any _).mono ?_; rintro e w8 ⟨rfl, hb8⟩
      go_wp2
      go_ret
      exact ⟨rfl, H.out.to.trans hb8⟩


end Go.Proofs.Ytnjpoamebkehbaa
