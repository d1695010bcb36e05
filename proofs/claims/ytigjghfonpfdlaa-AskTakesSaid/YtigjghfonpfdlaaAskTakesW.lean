/- The walk of the law AskTakes. -/
import Derived.Test.YtigjghfonpfdlaaAskL
namespace Go.Proofs.Ytigjghfonpfdlaa
open Go.RowKit
set_option linter.unusedVariables false
set_option linter.unusedSimpArgs false

theorem asktake_put2 {sc : SC} {s : List UInt8} (h : (asktake sc s).2 = 0) : askPutV sc (asktake sc s).1 = (s, 0) := by
  obtain ⟨h1, h2⟩ := asktake_back h
  unfold askPutV
  rw [if_pos h1, h2]
set_option maxRecDepth 100000 in
set_option maxHeartbeats 2000000 in
theorem walkl_askTakes (w : World) (d : Sch) (hd : d.rd w) (s : List UInt8) (hs : s.length ≤ 9223372036854775807) :
    Calls Try.prog 6 #[.agg d.cs, .string ⟨s.toArray⟩] w fun e w' => e = .returned (.bool true) ∧ Bel w w' := by
  have HF := Lib.hid (fun w' (hb : Bel w w') => schfew_any d w' (hd.mono hb))
  have HK := Lib.hid (fun (hf : FewS d) (h3 : s.length ≤ 2000) w' (hb : Bel w w') => asktake_any d s w' (hd.mono hb) (by omega) (FewS.hn hf) (FewS.hm hf) (FewS.hd hf))
  have HR := Lib.hid (fun (hf : FewS d) (h3 : s.length ≤ 2000) w' (hb : Bel w w') => rasktake_any d s w' (hd.mono hb) (by omega) (FewS.hn hf) (FewS.hm hf) (FewS.hd hf))
  have HP := Lib.hid (fun (hf : FewS d) (X : Qr) w' (hX : X.rd w') (hb : Bel w w') (h : ∀ p ∈ X.ps.l, p.set.n ≤ 100000) => askput_any d X w' (hd.mono hb) hX (FewS.hn hf) (FewS.hm hf) (FewS.hd hf) h)
  have HV := Lib.hid (fun h => asktake_put2 (sc := d.con) (s := s) h)
  have H := Lib.hid ((SL.start No w).alloc d.cs 25)
  (try simp only [List.set_cons_zero, List.set_cons_succ, List.cons_append, List.nil_append, List.eraseIdx_cons_zero, List.eraseIdx_cons_succ, List.setIfInBounds_toArray, World.size_alloc, selR, List.getD_cons_zero, List.getD_cons_succ] at H)
  have hcs : d.cs = #[.slice d.dm.A d.dm.n d.dm.c, .slice d.ms.A d.ms.n d.ms.c] := rfl
  have HCS := Lib.hid hcs
  clear hcs hd
  obtain ⟨rt, hrt⟩ : ∃ rt, rt = asktake d.con s := ⟨_, rfl⟩
  rw [← hrt] at HK HR HV
  clear hrt
  go_enter Try.func6, Try.ntmps6
  rw [← HCS.out] at *
  go_wp2_with ((with_reducible show wpList _ _ _ (⟨some 11, _, _, _, _, _⟩ :: _) _ _); (refine wpList_load_blk rfl rowSch (.tmp 2) rfl _ rfl (H.out.blk 0 rfl) rfl ?_))
  refine (HF.out _ H.out.to).mono ?_; rintro e w1 ⟨b, rfl, hfew, hb1⟩
  replace H := Lib.hid (H.out.bel hb1); (try simp only [List.set_cons_zero, List.set_cons_succ, List.cons_append, List.nil_append, List.eraseIdx_cons_zero, List.eraseIdx_cons_succ, List.setIfInBounds_toArray, World.size_alloc, selR, List.getD_cons_zero, List.getD_cons_succ] at H)
  clear hb1
  clear HF
  cases b with
  | false =>
    clear hfew
    go_wp2_with fail
    refine (awake35_any _).mono ?_; rintro e w8 ⟨rfl, hb8⟩
    go_wp2
    go_ret
    exact ⟨rfl, H.out.to.trans hb8⟩
  | true =>
    have hf := hfew rfl
    clear hfew
    by_cases h3 : s.length ≤ 2000
    · have d3 : decide ((2000 : Int) < s.length) = false := by simp <;> omega
      have d4 : decide (2000 < s.length) = false := by simp <;> omega
      go_wp2_with ((with_reducible show wpList _ _ _ (⟨some 21, _, _, _, _, _⟩ :: _) _ _); (refine wpList_load_blk rfl rowSch (.tmp 2) rfl _ rfl (H.out.blk 0 rfl) rfl ?_))
      refine (HK.out hf h3 _ H.out.to).mono ?_; rintro e w2 ⟨X, rfl, hXc, hb2, hXn⟩
      replace H := Lib.hid (H.out.add hb2 (rQry X.ps) hXn.1 hXn.2); (try simp only [List.set_cons_zero, List.set_cons_succ, List.cons_append, List.nil_append, List.eraseIdx_cons_zero, List.eraseIdx_cons_succ, List.setIfInBounds_toArray, World.size_alloc, selR, List.getD_cons_zero, List.getD_cons_succ] at H)
      have HXc := Lib.hid hXc
      clear hb2 hXn hXc HK
      obtain ⟨X⟩ := X
      go_wp2_with (first | ((with_reducible show wpList _ _ _ (⟨_, .store _ (.tmp 5) _, _, _, _, _⟩ :: _) _ _); (refine wpList_store_new rfl rowQry (.tmp 5) (.tmp 24) rfl rfl rfl (#[.slice X.A X.n X.c]) rfl rfl (by simp [Value.oneCell']) ?_; replace H := Lib.hid (H.out.alloc (#[.slice X.A X.n X.c]) 30); (try simp only [List.set_cons_zero, List.set_cons_succ, List.cons_append, List.nil_append, List.eraseIdx_cons_zero, List.eraseIdx_cons_succ, List.setIfInBounds_toArray, World.size_alloc, selR, List.getD_cons_zero, List.getD_cons_succ] at H))) | ((with_reducible show wpList _ _ _ (⟨some 27, _, _, _, _, _⟩ :: _) _ _); (refine wpList_load_blk rfl rowSch (.tmp 2) rfl _ rfl (H.out.blk 0 rfl) rfl ?_)))
      refine (HR.out hf h3 _ H.out.to).mono ?_; rintro e w3 ⟨U, rfl, hUc, hb3, hUn⟩
      replace H := Lib.hid (H.out.add hb3 (rQry U.ps) hUn.1 hUn.2); (try simp only [List.set_cons_zero, List.set_cons_succ, List.cons_append, List.nil_append, List.eraseIdx_cons_zero, List.eraseIdx_cons_succ, List.setIfInBounds_toArray, World.size_alloc, selR, List.getD_cons_zero, List.getD_cons_succ] at H)
      have HUc := Lib.hid hUc
      clear hb3 hUn hUc HR
      obtain ⟨U⟩ := U
      go_wp2_with (first | ((with_reducible show wpList _ _ _ (⟨_, .store _ (.tmp 7) _, _, _, _, _⟩ :: _) _ _); (refine wpList_store_new rfl rowQry (.tmp 7) (.tmp 30) rfl rfl rfl (#[.slice U.A U.n U.c]) rfl rfl (by simp [Value.oneCell']) ?_; replace H := Lib.hid (H.out.alloc (#[.slice U.A U.n U.c]) 30); (try simp only [List.set_cons_zero, List.set_cons_succ, List.cons_append, List.nil_append, List.eraseIdx_cons_zero, List.eraseIdx_cons_succ, List.setIfInBounds_toArray, World.size_alloc, selR, List.getD_cons_zero, List.getD_cons_succ] at H))) | ((with_reducible show wpList _ _ _ (⟨some 32, _, _, _, _, _⟩ :: _) _ _); (refine wpList_load_blk rfl rowQry (.tmp 5) rfl _ rfl (H.out.blk 2 rfl) rfl ?_)) | ((with_reducible show wpList _ _ _ (⟨some 33, _, _, _, _, _⟩ :: _) _ _); (refine wpList_load_blk rfl rowQry (.tmp 7) rfl _ rfl (H.out.blk 4 rfl) rfl ?_)))
      refine (asksame_any ⟨X⟩ ⟨U⟩ _ (H.out.at_ 1 rfl).1 (H.out.at_ 3 rfl).1 (by rw [HXc.out, HUc.out])).mono ?_; rintro e w4 ⟨rfl, hb4⟩
      replace H := Lib.hid (H.out.bel hb4); (try simp only [List.set_cons_zero, List.set_cons_succ, List.cons_append, List.nil_append, List.eraseIdx_cons_zero, List.eraseIdx_cons_succ, List.setIfInBounds_toArray, World.size_alloc, selR, List.getD_cons_zero, List.getD_cons_succ] at H)
      clear hb4
      by_cases hE : rt.2 = 0
      · have hv := HV.out hE
        rw [← HXc.out] at hv
        have HPX := Lib.hid (HP.out hf ⟨X⟩)
        rw [hv] at HPX
        clear HV HP hv HXc HUc
        obtain ⟨r1, r2⟩ := rt
        simp only at hE
        subst hE
        go_wp2_with (first | ((with_reducible show wpList _ _ _ (⟨some 45, _, _, _, _, _⟩ :: _) _ _); (refine wpList_load_blk rfl rowSch (.tmp 2) rfl _ rfl (H.out.blk 0 rfl) rfl ?_)) | ((with_reducible show wpList _ _ _ (⟨some 46, _, _, _, _, _⟩ :: _) _ _); (refine wpList_load_blk rfl rowQry (.tmp 5) rfl _ rfl (H.out.blk 2 rfl) rfl ?_)))
        refine (HPX.out _ (H.out.at_ 1 rfl).1 H.out.to (fun p hp => by have := (H.out.at_ 1 rfl).2.2 p hp; omega)).mono ?_; rintro e w5 ⟨rfl, hb5⟩
        replace H := Lib.hid (H.out.bel hb5); (try simp only [List.set_cons_zero, List.set_cons_succ, List.cons_append, List.nil_append, List.eraseIdx_cons_zero, List.eraseIdx_cons_succ, List.setIfInBounds_toArray, World.size_alloc, selR, List.getD_cons_zero, List.getD_cons_succ] at H)
        clear hb5
        clear HPX
        dsimp only
        have q8 : (s == s) = true := by simp
        go_wp2_with fail
        refine (awake35_any _).mono ?_; rintro e w8 ⟨rfl, hb8⟩
        go_wp2
        go_ret
        exact ⟨rfl, H.out.to.trans hb8⟩
      · obtain ⟨r1, r2⟩ := rt
        simp only at hE
        have z1 : (r2 != 0) = true := by simpa using hE
        have z2 : (r2 == 0) = false := by simpa using hE
        have z3 : (r2 != r2) = false := by simp
        clear hE HV
        dsimp only
        go_wp2_with fail
        refine (awake35_any _).mono ?_; rintro e w8 ⟨rfl, hb8⟩
        go_wp2
        go_ret
        exact ⟨rfl, H.out.to.trans hb8⟩
    · have d3 : decide ((2000 : Int) < s.length) = true := by simp <;> omega
      have d4 : decide (2000 < s.length) = true := by simp <;> omega
      go_wp2_with fail
      refine (awake35_any _).mono ?_; rintro e w8 ⟨rfl, hb8⟩
      go_wp2
      go_ret
      exact ⟨rfl, H.out.to.trans hb8⟩
theorem walk_askTakes (w : World) (d : Sch) (hd : d.rd w) (b : ByteArray) (hb : b.size ≤ 9223372036854775807) :
    Calls Try.prog 6 #[.agg d.cs, .string b] w fun e w' => e = .returned (.bool true) ∧ Bel w w' := by
  obtain ⟨⟨l⟩⟩ := b
  exact walkl_askTakes w d hd l (by simpa [ByteArray.size] using hb)

end Go.Proofs.Ytigjghfonpfdlaa
