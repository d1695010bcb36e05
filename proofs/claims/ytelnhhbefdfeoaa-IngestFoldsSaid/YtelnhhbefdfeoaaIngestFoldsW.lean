/- The walk of the law IngestFolds. -/
import Derived.Test.YtelnhhbefdfeoaaInD
import Derived.Test.YtelnhhbefdfeoaaBo
import Derived.Test.YtelnhhbefdfeoaaBl
namespace Go.Proofs.Ytelnhhbefdfeoaa
open Go.RowKit
set_option linter.unusedVariables false
set_option linter.unusedSimpArgs false


set_option maxRecDepth 100000 in
set_option maxHeartbeats 4000000 in
theorem walk_ingestFolds (w : World) (x : Row Fct) (hx : x.ok w) (y : Row Fct) (hy : y.ok w) :
    Calls Try.prog 5 #[x.v, y.v] w fun e w' => e = .returned (.bool true) ∧ Bel w w' := by
  have HX := Lib.hid (fun w' (hb : Bel w w') => hx.mono hb)
  have HY := Lib.hid (fun w' (hb : Bel w w') => hy.mono hb)
  have HXa := Lib.hid hx.all
  have HYa := Lib.hid hy.all
  have hxl : Hid (x.l.length = x.n) := hx.len
  have hyl : Hid (y.l.length = y.n) := hy.len
  have H := Lib.hid (SL.start No w)
  have HF1 := Lib.hid (fun w' (hb : Bel w w') => few19_any x 60 w' (hx.mono hb) (by omega) (by omega))
  have HF2 := Lib.hid (fun w' (hb : Bel w w') => few19_any y 60 w' (hy.mono hb) (by omega) (by omega))
  clear hx hy
  obtain ⟨XA, xn, xc, xl⟩ := x
  obtain ⟨YA, yn, yc, yl⟩ := y
  simp only [Row.v] at *
  rw [show Int.toNat 60 = 60 from rfl] at HF1 HF2
  go_enter Try.func5, Try.ntmps5
  go_wp2_with fail
  refine (HF1.out _ H.out.to).mono ?_; rintro e w1 ⟨rfl, rfl⟩
  cases hfx : fewF 60 xl with
  | false =>
    clear hfx
    go_wp2_with fail
    refine (awake23_any _).mono ?_; rintro e w8 ⟨rfl, hb8⟩
    go_wp2
    go_ret
    exact ⟨rfl, H.out.to.trans hb8⟩
  | true =>
    have hxn : xn ≤ 60 := by have h := fewF_len hfx; have := hxl.out; omega
    clear hfx HF1
    go_wp2_with fail
    refine (HF2.out _ H.out.to).mono ?_; rintro e w1 ⟨rfl, rfl⟩
    cases hfy : fewF 60 yl with
    | false =>
      clear hfy
      go_wp2_with fail
      refine (awake23_any _).mono ?_; rintro e w8 ⟨rfl, hb8⟩
      go_wp2
      go_ret
      exact ⟨rfl, H.out.to.trans hb8⟩
    | true =>
      have hyn : yn ≤ 60 := by have h := fewF_len hfy; have := hyl.out; omega
      clear hfy HF2
      go_wp2_with fail
      refine (foldP_any _ ⟨XA, xn, xc, xl⟩ (HX.out _ H.out.to) (by simp only; omega)).mono ?_; rintro e w1 ⟨va, ka, rfl, hFa, hb1⟩
      replace H := Lib.hid (H.out.bel hb1); (try simp only [List.set_cons_zero, List.set_cons_succ, List.cons_append, List.nil_append, List.eraseIdx_cons_zero, List.eraseIdx_cons_succ, List.setIfInBounds_toArray, World.size_alloc, selR, List.getD_cons_zero, List.getD_cons_succ] at H)
      have HFa := Lib.hid hFa; clear hFa hb1
      go_wp2_with fail
      refine (rfoldP_any _ ⟨XA, xn, xc, xl⟩ (HX.out _ H.out.to) (by simp only; omega)).mono ?_; rintro e w2 ⟨ra, ba, rfl, hRa, hb2⟩
      replace H := Lib.hid (H.out.bel hb2); (try simp only [List.set_cons_zero, List.set_cons_succ, List.cons_append, List.nil_append, List.eraseIdx_cons_zero, List.eraseIdx_cons_succ, List.setIfInBounds_toArray, World.size_alloc, selR, List.getD_cons_zero, List.getD_cons_succ] at H)
      replace HFa := Lib.hid (HFa.out.mono hb2)
      have HRa := Lib.hid hRa; clear hRa hb2
      go_wp2_with fail
      refine (anyI_any ⟨XA, xn, xc, xl⟩ _ (HX.out _ H.out.to) (by simp only; omega)).mono ?_; rintro e w3 ⟨vb, kb, rfl, hFb, hb3⟩
      replace H := Lib.hid (H.out.bel hb3); (try simp only [List.set_cons_zero, List.set_cons_succ, List.cons_append, List.nil_append, List.eraseIdx_cons_zero, List.eraseIdx_cons_succ, List.setIfInBounds_toArray, World.size_alloc, selR, List.getD_cons_zero, List.getD_cons_succ] at H)
      replace HFa := Lib.hid (HFa.out.mono hb3)
      replace HRa := Lib.hid (HRa.out.mono hb3)
      have HFb := Lib.hid hFb; clear hFb hb3
      go_wp2_with fail
      refine (rsort_any ⟨XA, xn, xc, xl⟩ _ (HX.out _ H.out.to) (by simp only; omega)).mono ?_; rintro e w4 ⟨v, gs, rfl, hK, hgs⟩
      have hgl : gs.length = xn := by have h := congrArg List.length hgs; rw [cons_len, sortC_len, cons_len] at h; rw [h]; exact hxl.out
      obtain ⟨⟨zA, zn, zc, zl⟩, rfl, hzo, hzl, hzn⟩ := hK.row (by omega)
      replace H := Lib.hid (H.out.bel hK.bel); (try simp only [List.set_cons_zero, List.set_cons_succ, List.cons_append, List.nil_append, List.eraseIdx_cons_zero, List.eraseIdx_cons_succ, List.setIfInBounds_toArray, World.size_alloc, selR, List.getD_cons_zero, List.getD_cons_succ] at H)
      replace HFa := Lib.hid (HFa.out.mono hK.bel)
      replace HRa := Lib.hid (HRa.out.mono hK.bel)
      replace HFb := Lib.hid (HFb.out.mono hK.bel)
      have HRF := Lib.hid (rfoldP_any w4 ⟨zA, zn, zc, zl⟩ hzo (by simp only at hzn ⊢; omega))
      simp only at hzl
      rw [hzl, hgs] at HRF
      clear hK hgs hgl hzo hzl hzn
      simp only [Row.v]
      go_wp2_with fail
      refine (HRF.out).mono ?_; rintro e w5 ⟨rb, bb, rfl, hRb, hb5⟩
      replace H := Lib.hid (H.out.bel hb5); (try simp only [List.set_cons_zero, List.set_cons_succ, List.cons_append, List.nil_append, List.eraseIdx_cons_zero, List.eraseIdx_cons_succ, List.setIfInBounds_toArray, World.size_alloc, selR, List.getD_cons_zero, List.getD_cons_succ] at H)
      replace HFa := Lib.hid (HFa.out.mono hb5)
      replace HRa := Lib.hid (HRa.out.mono hb5)
      replace HFb := Lib.hid (HFb.out.mono hb5)
      have HRb := Lib.hid hRb; clear hRb hb5 HRF
      go_wp2_with fail
      refine (told_any _ va ra ka ba _ HFa.out HRa.out).mono ?_; rintro e w6 ⟨rfl, hb6⟩
      replace H := Lib.hid (H.out.bel hb6); (try simp only [List.set_cons_zero, List.set_cons_succ, List.cons_append, List.nil_append, List.eraseIdx_cons_zero, List.eraseIdx_cons_succ, List.setIfInBounds_toArray, World.size_alloc, selR, List.getD_cons_zero, List.getD_cons_succ] at H)
      replace HFb := Lib.hid (HFb.out.mono hb6)
      replace HRb := Lib.hid (HRb.out.mono hb6)
      clear hb6 HFa HRa
      go_wp2_with fail
      refine (told_any _ vb rb kb bb _ HFb.out HRb.out).mono ?_; rintro e w7 ⟨rfl, hb7⟩
      replace H := Lib.hid (H.out.bel hb7); (try simp only [List.set_cons_zero, List.set_cons_succ, List.cons_append, List.nil_append, List.eraseIdx_cons_zero, List.eraseIdx_cons_succ, List.setIfInBounds_toArray, World.size_alloc, selR, List.getD_cons_zero, List.getD_cons_succ] at H)
      clear hb7 HFb HRb
      go_wp2_with fail
      refine (sorted_any ⟨XA, xn, xc, xl⟩ _ (HX.out _ H.out.to) (by simp only; omega)).mono ?_; rintro e w8 ⟨rfl, hb8⟩
      replace H := Lib.hid (H.out.bel hb8); (try simp only [List.set_cons_zero, List.set_cons_succ, List.cons_append, List.nil_append, List.eraseIdx_cons_zero, List.eraseIdx_cons_succ, List.setIfInBounds_toArray, World.size_alloc, selR, List.getD_cons_zero, List.getD_cons_succ] at H)
      clear hb8
      simp only
      cases hsx : sortedF xl with
      | false =>
        clear hsx
        go_wp2_with fail
        refine (awake23_any _).mono ?_; rintro e w8 ⟨rfl, hb8⟩
        go_wp2
        go_ret
        exact ⟨rfl, H.out.to.trans hb8⟩
      | true =>
        have HSX := Lib.hid (chain_srt hsx)
        clear hsx
        go_wp2_with fail
        refine (sorted_any ⟨YA, yn, yc, yl⟩ _ (HY.out _ H.out.to) (by simp only; omega)).mono ?_; rintro e w9 ⟨rfl, hb9⟩
        replace H := Lib.hid (H.out.bel hb9); (try simp only [List.set_cons_zero, List.set_cons_succ, List.cons_append, List.nil_append, List.eraseIdx_cons_zero, List.eraseIdx_cons_succ, List.setIfInBounds_toArray, World.size_alloc, selR, List.getD_cons_zero, List.getD_cons_succ] at H)
        clear hb9
        simp only
        cases hsy : sortedF yl with
        | false =>
          clear hsy
          go_wp2_with fail
          refine (awake23_any _).mono ?_; rintro e w8 ⟨rfl, hb8⟩
          go_wp2
          go_ret
          exact ⟨rfl, H.out.to.trans hb8⟩
        | true =>
          have HSY := Lib.hid (chain_srt hsy)
          clear hsy
          go_wp2_with fail
          refine (joinI_any ⟨XA, xn, xc, xl⟩ ⟨YA, yn, yc, yl⟩ _ (HX.out _ H.out.to) (HY.out _ H.out.to) (by simp only; omega) (by simp only; omega) HSX.out HSY.out).mono ?_; rintro e w10 ⟨vc, kc, rfl, hFc, hb10⟩
          replace H := Lib.hid (H.out.bel hb10); (try simp only [List.set_cons_zero, List.set_cons_succ, List.cons_append, List.nil_append, List.eraseIdx_cons_zero, List.eraseIdx_cons_succ, List.setIfInBounds_toArray, World.size_alloc, selR, List.getD_cons_zero, List.getD_cons_succ] at H)
          have HFc := Lib.hid hFc; clear hFc hb10 HSX HSY
          have HB := Lib.hid H.out.to
          clear H
          have H := Lib.hid (SL.start No w10)
          go_upto_region 12 with fail
          have HXR := Lib.hid ((HX.out _ (HB.out.alloc (.cells #[] 84))).rd)
          have HFA : Hid (∀ f ∈ xl ++ yl, f.ok w) := fun f hf => (List.mem_append.1 hf).elim (HXa.out f) (HYa.out f)
          have HAL := Lib.hid (own_empty w10 84 11)
          replace H := Lib.hid (H.out.addRow ((Bel.refl _).alloc _) HAL.out); (try simp only [List.set_cons_zero, List.set_cons_succ, List.cons_append, List.nil_append, List.eraseIdx_cons_zero, List.eraseIdx_cons_succ, List.setIfInBounds_toArray, World.size_alloc, selR, List.getD_cons_zero, List.getD_cons_succ] at H)
          clear HAL
          go_wp2_with (first | ((with_reducible show wpList _ _ _ (⟨some 79, _, _, _, _, _⟩ :: _) _ _); (refine wpList_append0 rfl (.tmp 77) (.tmp 78) _ rfl E_fct 0 (Nat.zero_le _) _ 0 _ rfl (H.out.row 0 rfl) XA xn xc (xl.flatMap Cel.cells) rfl (HXR.out) (fun u hu => by obtain ⟨f, _, hf⟩ := List.mem_flatMap.1 hu; exact fct_onesK f u hf) (by unfold maxLen; omega) (by omega) ?_; intro vq wq howq hgq hatq; replace H := Lib.hid (H.out.setRow 0 rfl hgq howq hatq); (try simp only [List.set_cons_zero, List.set_cons_succ, List.cons_append, List.nil_append, List.eraseIdx_cons_zero, List.eraseIdx_cons_succ, List.setIfInBounds_toArray, World.size_alloc, selR, List.getD_cons_zero, List.getD_cons_succ] at H); clear howq hgq hatq; obtain ⟨B1, d1, rfl, _⟩ := own_slice (H.out.row 0 rfl); simp only [Nat.zero_add] at H ⊢; have HYR := Lib.hid (HY.out _ (HB.out.trans H.out.to)).rd)) | ((with_reducible show wpList _ _ _ (⟨some 81, _, _, _, _, _⟩ :: _) _ _); (refine wpList_append0 rfl (.tmp 79) (.tmp 80) _ rfl E_fct 0 (Nat.zero_le _) _ xn _ rfl (H.out.row 0 rfl) YA yn yc (yl.flatMap Cel.cells) rfl (HYR.out) (fun u hu => by obtain ⟨f, _, hf⟩ := List.mem_flatMap.1 hu; exact fct_onesK f u hf) (by unfold maxLen; omega) (by omega) ?_; intro vq wq howq hgq hatq; replace H := Lib.hid (H.out.setRow 0 rfl hgq howq hatq); (try simp only [List.set_cons_zero, List.set_cons_succ, List.cons_append, List.nil_append, List.eraseIdx_cons_zero, List.eraseIdx_cons_succ, List.setIfInBounds_toArray, World.size_alloc, selR, List.getD_cons_zero, List.getD_cons_succ] at H); clear howq hgq hatq; obtain ⟨B2, d2, rfl, _⟩ := own_slice (H.out.row 0 rfl))))
          rw [← List.flatMap_append] at H
          have hlen : Hid ((xl ++ yl).length = xn + yn) := by show _ = _; rw [List.length_append, hxl.out, hyl.out]
          have HO := Lib.hid (own_okK (x := ⟨B2, xn + yn, d2, xl ++ yl⟩) (H.out.row 0 rfl) (fun f hf => ⟨(HFA.out f hf).ks.mono (HB.out.trans H.out.to), (HFA.out f hf).ag⟩) (by show (xn + yn) * 104 ≤ _; omega))
          refine (rsort_any ⟨B2, xn + yn, d2, xl ++ yl⟩ _ HO.out (by simp only; omega)).mono ?_; rintro e w11 ⟨v, gs, rfl, hK, hgs⟩
          have hgl : gs.length = xn + yn := by have h := congrArg List.length hgs; rw [cons_len, sortC_len, cons_len] at h; rw [h]; exact hlen.out
          obtain ⟨⟨zA, zn, zc, zl⟩, rfl, hzo, hzl, hzn⟩ := hK.row (by omega)
          replace H := Lib.hid (H.out.bel hK.bel); (try simp only [List.set_cons_zero, List.set_cons_succ, List.cons_append, List.nil_append, List.eraseIdx_cons_zero, List.eraseIdx_cons_succ, List.setIfInBounds_toArray, World.size_alloc, selR, List.getD_cons_zero, List.getD_cons_succ] at H)
          have HRF := Lib.hid (rfoldP_any w11 ⟨zA, zn, zc, zl⟩ hzo (by simp only at hzn ⊢; omega))
          simp only at hzl
          rw [hzl, hgs, show cons (xl ++ yl) = cons xl ++ cons yl by simp [cons]] at HRF
          clear hK hgs hgl hzo hzl hzn HO HXR
          simp only [Row.v]
          go_wp2_with fail
          refine (HRF.out).mono ?_; rintro e w12 ⟨rc, bc, rfl, hRc, hb12⟩
          replace H := Lib.hid (H.out.bel hb12); (try simp only [List.set_cons_zero, List.set_cons_succ, List.cons_append, List.nil_append, List.eraseIdx_cons_zero, List.eraseIdx_cons_succ, List.setIfInBounds_toArray, World.size_alloc, selR, List.getD_cons_zero, List.getD_cons_succ] at H)
          have HRc := Lib.hid hRc; clear hRc hb12 HRF
          have HFd := Lib.hid (HFc.out.mono H.out.to)
          go_wp2_with fail
          refine (told_any _ vc rc kc bc _ HFd.out HRc.out).mono ?_; rintro e w13 ⟨rfl, hb13⟩
          replace H := Lib.hid (H.out.bel hb13); (try simp only [List.set_cons_zero, List.set_cons_succ, List.cons_append, List.nil_append, List.eraseIdx_cons_zero, List.eraseIdx_cons_succ, List.setIfInBounds_toArray, World.size_alloc, selR, List.getD_cons_zero, List.getD_cons_succ] at H)
          clear hb13 HFd HRc
          go_wp2_with fail
          refine (awake23_any _).mono ?_; rintro e w8 ⟨rfl, hb8⟩
          go_wp2
          go_ret
          exact ⟨rfl, (HB.out.trans H.out.to).trans hb8⟩

end Go.Proofs.Ytelnhhbefdfeoaa
