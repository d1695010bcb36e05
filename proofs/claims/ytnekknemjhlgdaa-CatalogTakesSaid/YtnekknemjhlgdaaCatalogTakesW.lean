/- The walk of the law CatalogTakes. -/
import Derived.Test.YtnekknemjhlgdaaBk
import Derived.Test.YtnekknemjhlgdaaBj
namespace Go.Proofs.Ytnekknemjhlgdaa
open Go.RowKit
set_option linter.unusedVariables false
set_option linter.unusedSimpArgs false


theorem cattake_back {s : List UInt8} (h : (cattake s).2 = 0) : catPutV (cattake s).1 = (s, 0) := by
  unfold cattake at *
  cases ho : pcat s with
  | error k => rw [ho] at h; exact absurd h (pcat_err ho)
  | ok q =>
    obtain ⟨d, l⟩ := q
    rw [ho] at h
    simp only at h ⊢
    by_cases hl : l = []
    · subst hl
      rw [if_pos rfl]
      obtain ⟨h1, h2⟩ := pcat_back ho
      rw [List.append_nil] at h2
      unfold catPutV
      simp only [h1, if_true, ← h2]
    · rw [if_neg hl] at h
      cases h
set_option maxRecDepth 100000 in
set_option maxHeartbeats 2000000 in
theorem walkl_catalogTakes (w : World) (s : List UInt8) (hs : s.length ≤ 9223372036854775807) :
    Calls Try.prog 4 #[.string ⟨s.toArray⟩] w fun e w' => e = .returned (.bool true) ∧ Bel w w' := by
  have H := Lib.hid (SL.start No w)
  by_cases hl : s.length ≤ 4000
  · have d3 : decide ((4000 : Int) < s.length) = false := by simp <;> omega
    have d4 : decide (4000 < s.length) = false := by simp <;> omega
    have HK := Lib.hid (fun w => cattake_any s w (by omega))
    have HR := Lib.hid (fun w => rcattake_any s w (by omega))
    have HV := Lib.hid (fun h => cattake_back (s := s) h)
    obtain ⟨rt, hrt⟩ : ∃ rt, rt = cattake s := ⟨_, rfl⟩
    rw [← hrt] at HK HR HV
    clear hrt
    obtain ⟨O1, k⟩ := rt
    simp only at HV
    go_enter Try.func4, Try.ntmps4
    go_wp2_with fail
    refine (HK.out _).mono ?_; rintro e w4 ⟨X, rfl, hX, hXr, hXs, hb4⟩
    replace H := Lib.hid (H.out.bel hb4); (try simp only [List.set_cons_zero, List.set_cons_succ, List.cons_append, List.nil_append, List.eraseIdx_cons_zero, List.eraseIdx_cons_succ, List.setIfInBounds_toArray, World.size_alloc, selR, List.getD_cons_zero, List.getD_cons_succ] at H)
    clear hb4
    have HX := Lib.hid hX
    have HXr := Lib.hid (fun w' (hb : Bel w4 w') => hXr.mono hb)
    have HP := Lib.hid (fun w' (hb : Bel w4 w') => catput_any X w' (hXr.mono hb) hXs)
    simp only at hX
    rw [hX] at HP
    clear hX hXr hXs HK
    have HSame := Lib.hid (fun (Y : Ct) w' (hb : Bel w4 w') (hY : Y.rd w') (hc : Y.con = O1) => (show sameK X.con Y.con = true by rw [HX.out, hc]; exact sameK_self _) ▸ catsame_any X Y w' (HXr.out w' hb) hY)
    obtain ⟨⟨⟨A1, n1, c1, ds1⟩, ⟨MA1, mn1, mc1, ms1⟩⟩, fa1, a0, a1, a2, a3, a4, a5⟩ := X
    simp only [Ct.cs, Sch.cs] at *
    go_upto_region 4 with ((with_reducible show wpList _ _ _ (⟨_, .store _ (.tmp 3) _, _, _, _, _⟩ :: _) _ _); (refine wpList_store_new rfl rowCt (.tmp 3) (.tmp 16) rfl rfl rfl (#[.slice A1 n1 c1, .slice MA1 mn1 mc1, .int .i64 fa1, .int .i64 a0, .int .i64 a1, .int .i64 a2, .int .i64 a3, .int .i64 a4, .int .i64 a5]) rfl rfl (by simp [Value.oneCell']) ?_; replace H := Lib.hid (H.out.alloc (#[.slice A1 n1 c1, .slice MA1 mn1 mc1, .int .i64 fa1, .int .i64 a0, .int .i64 a1, .int .i64 a2, .int .i64 a3, .int .i64 a4, .int .i64 a5]) 30); (try simp only [List.set_cons_zero, List.set_cons_succ, List.cons_append, List.nil_append, List.eraseIdx_cons_zero, List.eraseIdx_cons_succ, List.setIfInBounds_toArray, World.size_alloc, selR, List.getD_cons_zero, List.getD_cons_succ] at H)))
    (try simp only [Act.put, List.setIfInBounds_toArray, List.set_cons_zero, List.set_cons_succ])
    have HB := Lib.hid ((Bel.refl w4).alloc (.cells #[.slice A1 n1 c1, .slice MA1 mn1 mc1, .int .i64 fa1, .int .i64 a0, .int .i64 a1, .int .i64 a2, .int .i64 a3, .int .i64 a4, .int .i64 a5] 30))
    generalize w4.heap.size = y at *
    generalize World.alloc w4 _ = w5 at *
    go_wp2_with fail
    refine (HR.out _).mono ?_; rintro e w6 ⟨Y, rfl, hY, hYr, hYs, hb6⟩
    replace H := Lib.hid (H.out.bel hb6); (try simp only [List.set_cons_zero, List.set_cons_succ, List.cons_append, List.nil_append, List.eraseIdx_cons_zero, List.eraseIdx_cons_succ, List.setIfInBounds_toArray, World.size_alloc, selR, List.getD_cons_zero, List.getD_cons_succ] at H)
    replace HB := Lib.hid (HB.out.trans hb6)
    replace HSame := Lib.hid (fun w' (hb : Bel w6 w') => HSame.out Y w' (HB.out.trans hb) (hYr.mono hb) hY)
    clear hY hYr hYs hb6 HR
    obtain ⟨⟨⟨B1, m1, d1, es1⟩, ⟨MB1, mm1, md1, mt1⟩⟩, fb1, b0, b1, b2, b3, b4, b5⟩ := Y
    simp only [Ct.cs, Sch.cs] at *
    go_upto_region 5 with ((with_reducible show wpList _ _ _ (⟨_, .store _ (.tmp 5) _, _, _, _, _⟩ :: _) _ _); (refine wpList_store_new rfl rowCt (.tmp 5) (.tmp 21) rfl rfl rfl (#[.slice B1 m1 d1, .slice MB1 mm1 md1, .int .i64 fb1, .int .i64 b0, .int .i64 b1, .int .i64 b2, .int .i64 b3, .int .i64 b4, .int .i64 b5]) rfl rfl (by simp [Value.oneCell']) ?_; replace H := Lib.hid (H.out.alloc (#[.slice B1 m1 d1, .slice MB1 mm1 md1, .int .i64 fb1, .int .i64 b0, .int .i64 b1, .int .i64 b2, .int .i64 b3, .int .i64 b4, .int .i64 b5]) 30); (try simp only [List.set_cons_zero, List.set_cons_succ, List.cons_append, List.nil_append, List.eraseIdx_cons_zero, List.eraseIdx_cons_succ, List.setIfInBounds_toArray, World.size_alloc, selR, List.getD_cons_zero, List.getD_cons_succ] at H)))
    (try simp only [Act.put, List.setIfInBounds_toArray, List.set_cons_zero, List.set_cons_succ])
    have HB2 := Lib.hid ((Bel.refl w6).alloc (.cells #[.slice B1 m1 d1, .slice MB1 mm1 md1, .int .i64 fb1, .int .i64 b0, .int .i64 b1, .int .i64 b2, .int .i64 b3, .int .i64 b4, .int .i64 b5] 30))
    replace HB := Lib.hid (HB.out.trans HB2.out)
    generalize w6.heap.size = z at *
    generalize World.alloc w6 _ = w7 at *
    have q8 : (k != k) = false := by simp
    go_wp2_with (first | ((with_reducible show wpList _ _ _ (⟨some 23, _, _, _, _, _⟩ :: _) _ _); (refine wpList_load_blk rfl rowCt (.tmp 3) rfl _ rfl (H.out.blk 0 rfl) rfl ?_)) | ((with_reducible show wpList _ _ _ (⟨some 24, _, _, _, _, _⟩ :: _) _ _); (refine wpList_load_blk rfl rowCt (.tmp 5) rfl _ rfl (H.out.blk 1 rfl) rfl ?_)))
    refine (HSame.out _ HB2.out).mono ?_; rintro e w9 ⟨rfl, hb7⟩
    replace HB := Lib.hid (HB.out.trans hb7)
    replace H := Lib.hid (H.out.bel hb7); (try simp only [List.set_cons_zero, List.set_cons_succ, List.cons_append, List.nil_append, List.eraseIdx_cons_zero, List.eraseIdx_cons_succ, List.setIfInBounds_toArray, World.size_alloc, selR, List.getD_cons_zero, List.getD_cons_succ] at H)
    clear hb7
    clear HSame HB2
    by_cases hE : k = 0
    · subst hE
      rw [HV.out rfl] at HP
      clear HV
      have q9 : (s == s) = true := by simp
      go_wp2_with ((with_reducible show wpList _ _ _ (⟨some 36, _, _, _, _, _⟩ :: _) _ _); (refine wpList_load_blk rfl rowCt (.tmp 3) rfl _ rfl (H.out.blk 0 rfl) rfl ?_))
      refine (HP.out _ HB.out).mono ?_; rintro e w10 ⟨rfl, hb10⟩
      replace H := Lib.hid (H.out.bel hb10); (try simp only [List.set_cons_zero, List.set_cons_succ, List.cons_append, List.nil_append, List.eraseIdx_cons_zero, List.eraseIdx_cons_succ, List.setIfInBounds_toArray, World.size_alloc, selR, List.getD_cons_zero, List.getD_cons_succ] at H)
      clear hb10
      clear HP HB
      dsimp only
      go_wp2_with fail
      refine (awake18_any _).mono ?_; rintro e w8 ⟨rfl, hb8⟩
      replace H := Lib.hid (H.out.bel hb8); (try simp only [List.set_cons_zero, List.set_cons_succ, List.cons_append, List.nil_append, List.eraseIdx_cons_zero, List.eraseIdx_cons_succ, List.setIfInBounds_toArray, World.size_alloc, selR, List.getD_cons_zero, List.getD_cons_succ] at H)
      clear hb8
      go_wp2
      go_ret
      exact ⟨rfl, H.out.to⟩
    · have z1 : (k != 0) = true := by simpa using hE
      have z2 : (k == 0) = false := by simpa using hE
      clear hE HV HP HB
      go_wp2_with fail
      refine (awake18_any _).mono ?_; rintro e w8 ⟨rfl, hb8⟩
      replace H := Lib.hid (H.out.bel hb8); (try simp only [List.set_cons_zero, List.set_cons_succ, List.cons_append, List.nil_append, List.eraseIdx_cons_zero, List.eraseIdx_cons_succ, List.setIfInBounds_toArray, World.size_alloc, selR, List.getD_cons_zero, List.getD_cons_succ] at H)
      clear hb8
      go_wp2
      go_ret
      exact ⟨rfl, H.out.to⟩
  · have d3 : decide ((4000 : Int) < s.length) = true := by simp <;> omega
    have d4 : decide (4000 < s.length) = true := by simp <;> omega
    go_enter Try.func4, Try.ntmps4
    go_wp2_with fail
    refine (awake18_any _).mono ?_; rintro e w8 ⟨rfl, hb8⟩
    replace H := Lib.hid (H.out.bel hb8); (try simp only [List.set_cons_zero, List.set_cons_succ, List.cons_append, List.nil_append, List.eraseIdx_cons_zero, List.eraseIdx_cons_succ, List.setIfInBounds_toArray, World.size_alloc, selR, List.getD_cons_zero, List.getD_cons_succ] at H)
    clear hb8
    go_wp2
    go_ret
    exact ⟨rfl, H.out.to⟩
theorem walk_catalogTakes (b : ByteArray) (hb : b.size ≤ 9223372036854775807) (w : World) :
    Calls Try.prog 4 #[.string b] w fun e w' => e = .returned (.bool true) ∧ Bel w w' := by
  obtain ⟨⟨l⟩⟩ := b
  exact walkl_catalogTakes w l (by simpa [ByteArray.size] using hb)

end Go.Proofs.Ytnekknemjhlgdaa
