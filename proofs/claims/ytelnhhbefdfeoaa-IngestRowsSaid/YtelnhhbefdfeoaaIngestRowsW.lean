/- The walk of the law IngestRows. -/
import Derived.Test.YtelnhhbefdfeoaaInD
import Derived.Test.YtelnhhbefdfeoaaBo
import Derived.Test.YtelnhhbefdfeoaaBs
import Derived.Test.YtelnhhbefdfeoaaBr
namespace Go.Proofs.Ytelnhhbefdfeoaa
open Go.RowKit
set_option linter.unusedVariables false
set_option linter.unusedSimpArgs false


set_option maxRecDepth 100000 in
set_option maxHeartbeats 2000000 in
theorem walk_ingestRows (w : World) (d : Sch) (hd : d.rd w) (x : Row Rw) (hx : x.rd w) :
    Calls Try.prog 3 #[.agg d.cs, x.v] w fun e w' => e = .returned (.bool true) ∧ Bel w w' := by
  have HF := Lib.hid (fun w' (hb : Bel w w') => schfew_any d w' (hd.mono hb))
  have HF2 := Lib.hid (fun w' (hb : Bel w w') => rwfew_any x w' (hx.mono hb))
  have HW := Lib.hid (fun (hf : FewS d) w' (hb : Bel w w') => rbwrong_any d x w' (hd.mono hb) (hx.mono hb) (FewS.hn hf) (FewS.hm hf) (FewS.hd hf))
  have H := Lib.hid ((SL.start No w).alloc d.cs 25)
  (try simp only [List.set_cons_zero, List.set_cons_succ, List.cons_append, List.nil_append, List.eraseIdx_cons_zero, List.eraseIdx_cons_succ, List.setIfInBounds_toArray, World.size_alloc, selR, List.getD_cons_zero, List.getD_cons_succ] at H)
  simp only [Row.v] at *
  by_cases hE : batErr d.con (x.l.map Rw.con) = 0
  · have HR := Lib.hid (fun (hf : FewS d) w' (hb : Bel w w') => rows_any d x w' (hd.mono hb) (hx.mono hb) (FewS.hn hf) (FewS.hm hf) (FewS.hd hf) hE)
    have HFR := Lib.hid (fun (hf : FewS d) w' (hb : Bel w w') => rbatfacts_any d x w' (hd.mono hb) (hx.mono hb) (FewS.hn hf) (FewS.hm hf) (FewS.hd hf) hE)
    rw [hE] at HW
    obtain ⟨R, hR⟩ : ∃ R, R = (x.l.map Rw.con).map (facOf d.con) := ⟨_, rfl⟩
    have HRR := Lib.hid hR
    rw [← hR] at HR
    have hRl : R.length = x.n := by rw [hR, List.length_map, List.length_map]; exact hx.len
    clear hE hd hx hR
    obtain ⟨XA, xn, xc, xl⟩ := x
    simp only at *
    have hcs : d.cs = #[.slice d.dm.A d.dm.n d.dm.c, .slice d.ms.A d.ms.n d.ms.c] := rfl
    have HCS := Lib.hid hcs
    clear hcs
    go_enter Try.func3, Try.ntmps3
    rw [← HCS.out] at *
    go_wp2_with ((with_reducible show wpList _ _ _ (⟨some 10, _, _, _, _, _⟩ :: _) _ _); (refine wpList_load_blk rfl rowSch (.tmp 2) rfl _ rfl (H.out.blk 0 rfl) rfl ?_))
    refine (HF.out _ H.out.to).mono ?_; rintro e w1 ⟨b, rfl, hfew, hb1⟩
    replace H := Lib.hid (H.out.bel hb1); (try simp only [List.set_cons_zero, List.set_cons_succ, List.cons_append, List.nil_append, List.eraseIdx_cons_zero, List.eraseIdx_cons_succ, List.setIfInBounds_toArray, World.size_alloc, selR, List.getD_cons_zero, List.getD_cons_succ] at H)
    clear hb1 HF
    cases b with
    | false =>
      clear hfew
      go_wp2_with fail
      refine (awake23_any _).mono ?_; rintro e w8 ⟨rfl, hb8⟩
      go_wp2
      go_ret
      exact ⟨rfl, H.out.to.trans hb8⟩
    | true =>
      have hf := hfew rfl
      clear hfew
      go_wp2_with fail
      refine (HF2.out _ H.out.to).mono ?_; rintro e w2 ⟨b, rfl, hfew, hb2⟩
      replace H := Lib.hid (H.out.bel hb2); (try simp only [List.set_cons_zero, List.set_cons_succ, List.cons_append, List.nil_append, List.eraseIdx_cons_zero, List.eraseIdx_cons_succ, List.setIfInBounds_toArray, World.size_alloc, selR, List.getD_cons_zero, List.getD_cons_succ] at H)
      clear hb2 HF2 hfew
      cases b with
      | false =>
        go_wp2_with fail
        refine (awake23_any _).mono ?_; rintro e w8 ⟨rfl, hb8⟩
        go_wp2
        go_ret
        exact ⟨rfl, H.out.to.trans hb8⟩
      | true =>
        by_cases h120 : 120 < xn
        · have d1 : decide ((120 : Int) < xn) = true := by simp <;> omega
          go_wp2_with fail
          refine (awake23_any _).mono ?_; rintro e w8 ⟨rfl, hb8⟩
          go_wp2
          go_ret
          exact ⟨rfl, H.out.to.trans hb8⟩
        · have d1 : decide ((120 : Int) < xn) = false := by simp <;> omega
          have hxn : xn ≤ 120 := by omega
          clear h120

          go_wp2_with ((with_reducible show wpList _ _ _ (⟨some 25, _, _, _, _, _⟩ :: _) _ _); (refine wpList_load_blk rfl rowSch (.tmp 2) rfl _ rfl (H.out.blk 0 rfl) rfl ?_))
          refine (HR.out hf _ H.out.to).mono ?_; rintro e w3 ⟨va, ka, rfl, hFa, hb3⟩
          replace H := Lib.hid (H.out.bel hb3); (try simp only [List.set_cons_zero, List.set_cons_succ, List.cons_append, List.nil_append, List.eraseIdx_cons_zero, List.eraseIdx_cons_succ, List.setIfInBounds_toArray, World.size_alloc, selR, List.getD_cons_zero, List.getD_cons_succ] at H)
          have HFa := Lib.hid hFa; clear hFa hb3 HR
          go_wp2_with ((with_reducible show wpList _ _ _ (⟨some 30, _, _, _, _, _⟩ :: _) _ _); (refine wpList_load_blk rfl rowSch (.tmp 2) rfl _ rfl (H.out.blk 0 rfl) rfl ?_))
          refine (HW.out hf _ H.out.to).mono ?_; rintro e w4 ⟨rfl, hb4⟩
          replace H := Lib.hid (H.out.bel hb4); (try simp only [List.set_cons_zero, List.set_cons_succ, List.cons_append, List.nil_append, List.eraseIdx_cons_zero, List.eraseIdx_cons_succ, List.setIfInBounds_toArray, World.size_alloc, selR, List.getD_cons_zero, List.getD_cons_succ] at H)
          replace HFa := Lib.hid (HFa.out.mono hb4)
          clear hb4 HW
          go_wp2_with ((with_reducible show wpList _ _ _ (⟨some 47, _, _, _, _, _⟩ :: _) _ _); (refine wpList_load_blk rfl rowSch (.tmp 2) rfl _ rfl (H.out.blk 0 rfl) rfl ?_))
          refine (HFR.out hf _ H.out.to).mono ?_; rintro e w5 ⟨X, rfl, hXn, hXl, hb5, hXw⟩
          have hXok : X.ok w5 ∧ X.n ≤ 300 := hXw.1.now
          replace H := Lib.hid (H.out.bel hb5); (try simp only [List.set_cons_zero, List.set_cons_succ, List.cons_append, List.nil_append, List.eraseIdx_cons_zero, List.eraseIdx_cons_succ, List.setIfInBounds_toArray, World.size_alloc, selR, List.getD_cons_zero, List.getD_cons_succ] at H)
          replace HFa := Lib.hid (HFa.out.mono hb5)
          have hcX : cons X.l = R := by rw [HRR.out]; exact hXl
          have HRS := Lib.hid (rsort_any X w5 hXok.1 (by omega))
          have HcX := Lib.hid hcX
          have hX300 : X.n ≤ 300 := hXok.2
          clear hXn hXl hb5 hXw hXok hcX HFR
          obtain ⟨YA, yn, yc, yl⟩ := X
          simp only [Row.v] at *
          go_wp2_with fail
          refine HRS.out.mono ?_; rintro e w6 ⟨v, gs, rfl, hK, hgs⟩
          have hgl : gs.length = xn := by have h := congrArg List.length hgs; rw [HcX.out, cons_len, sortC_len] at h; omega
          obtain ⟨⟨zA, zn, zc, zl⟩, rfl, hzo, hzl, hzn⟩ := hK.row (by omega)
          replace H := Lib.hid (H.out.bel hK.bel); (try simp only [List.set_cons_zero, List.set_cons_succ, List.cons_append, List.nil_append, List.eraseIdx_cons_zero, List.eraseIdx_cons_succ, List.setIfInBounds_toArray, World.size_alloc, selR, List.getD_cons_zero, List.getD_cons_succ] at H)
          replace HFa := Lib.hid (HFa.out.mono hK.bel)
          have HRF := Lib.hid (rfoldP_any w6 ⟨zA, zn, zc, zl⟩ hzo (by simp only at hzn ⊢; omega))
          simp only at hzl
          rw [hzl, hgs, HcX.out] at HRF
          clear hK hgs hgl hzo hzl hzn HRS
          simp only [Row.v]
          go_wp2_with fail
          refine (HRF.out).mono ?_; rintro e w7 ⟨rb, bb, rfl, hRb, hb7⟩
          replace H := Lib.hid (H.out.bel hb7); (try simp only [List.set_cons_zero, List.set_cons_succ, List.cons_append, List.nil_append, List.eraseIdx_cons_zero, List.eraseIdx_cons_succ, List.setIfInBounds_toArray, World.size_alloc, selR, List.getD_cons_zero, List.getD_cons_succ] at H)
          replace HFa := Lib.hid (HFa.out.mono hb7)
          have HRb := Lib.hid hRb; clear hRb hb7 HRF
          go_wp2_with fail
          refine (told_any _ va rb ka bb _ HFa.out HRb.out).mono ?_; rintro e w9 ⟨rfl, hb9⟩
          replace H := Lib.hid (H.out.bel hb9); (try simp only [List.set_cons_zero, List.set_cons_succ, List.cons_append, List.nil_append, List.eraseIdx_cons_zero, List.eraseIdx_cons_succ, List.setIfInBounds_toArray, World.size_alloc, selR, List.getD_cons_zero, List.getD_cons_succ] at H)
          clear hb9 HFa HRb
          go_wp2_with fail
          refine (awake23_any _).mono ?_; rintro e w8 ⟨rfl, hb8⟩
          go_wp2
          go_ret
          exact ⟨rfl, H.out.to.trans hb8⟩
  · have HR := Lib.hid (fun (hf : FewS d) w' (hb : Bel w w') => rows_not d x w' (hd.mono hb) (hx.mono hb) (FewS.hn hf) (FewS.hm hf) (FewS.hd hf) hE)
    generalize batErr d.con (x.l.map Rw.con) = E at *
    have z1 : (E != 0) = true := by simpa using hE
    have z2 : (E == 0) = false := by simpa using hE
    have z3 : (E != E) = false := by simp
    have z4 : (E == E) = true := by simp
    clear hE hd hx
    obtain ⟨XA, xn, xc, xl⟩ := x
    simp only at *
    have hcs : d.cs = #[.slice d.dm.A d.dm.n d.dm.c, .slice d.ms.A d.ms.n d.ms.c] := rfl
    have HCS := Lib.hid hcs
    clear hcs
    go_enter Try.func3, Try.ntmps3
    rw [← HCS.out] at *
    go_wp2_with ((with_reducible show wpList _ _ _ (⟨some 10, _, _, _, _, _⟩ :: _) _ _); (refine wpList_load_blk rfl rowSch (.tmp 2) rfl _ rfl (H.out.blk 0 rfl) rfl ?_))
    refine (HF.out _ H.out.to).mono ?_; rintro e w1 ⟨b, rfl, hfew, hb1⟩
    replace H := Lib.hid (H.out.bel hb1); (try simp only [List.set_cons_zero, List.set_cons_succ, List.cons_append, List.nil_append, List.eraseIdx_cons_zero, List.eraseIdx_cons_succ, List.setIfInBounds_toArray, World.size_alloc, selR, List.getD_cons_zero, List.getD_cons_succ] at H)
    clear hb1 HF
    cases b with
    | false =>
      clear hfew
      go_wp2_with fail
      refine (awake23_any _).mono ?_; rintro e w8 ⟨rfl, hb8⟩
      go_wp2
      go_ret
      exact ⟨rfl, H.out.to.trans hb8⟩
    | true =>
      have hf := hfew rfl
      clear hfew
      go_wp2_with fail
      refine (HF2.out _ H.out.to).mono ?_; rintro e w2 ⟨b, rfl, hfew, hb2⟩
      replace H := Lib.hid (H.out.bel hb2); (try simp only [List.set_cons_zero, List.set_cons_succ, List.cons_append, List.nil_append, List.eraseIdx_cons_zero, List.eraseIdx_cons_succ, List.setIfInBounds_toArray, World.size_alloc, selR, List.getD_cons_zero, List.getD_cons_succ] at H)
      clear hb2 HF2 hfew
      cases b with
      | false =>
        go_wp2_with fail
        refine (awake23_any _).mono ?_; rintro e w8 ⟨rfl, hb8⟩
        go_wp2
        go_ret
        exact ⟨rfl, H.out.to.trans hb8⟩
      | true =>
        by_cases h120 : 120 < xn
        · have d1 : decide ((120 : Int) < xn) = true := by simp <;> omega
          go_wp2_with fail
          refine (awake23_any _).mono ?_; rintro e w8 ⟨rfl, hb8⟩
          go_wp2
          go_ret
          exact ⟨rfl, H.out.to.trans hb8⟩
        · have d1 : decide ((120 : Int) < xn) = false := by simp <;> omega
          have hxn : xn ≤ 120 := by omega
          clear h120

          go_wp2_with ((with_reducible show wpList _ _ _ (⟨some 25, _, _, _, _, _⟩ :: _) _ _); (refine wpList_load_blk rfl rowSch (.tmp 2) rfl _ rfl (H.out.blk 0 rfl) rfl ?_))
          refine (HR.out hf _ H.out.to).mono ?_; rintro e w3 ⟨rfl, hb3⟩
          replace H := Lib.hid (H.out.bel hb3); (try simp only [List.set_cons_zero, List.set_cons_succ, List.cons_append, List.nil_append, List.eraseIdx_cons_zero, List.eraseIdx_cons_succ, List.setIfInBounds_toArray, World.size_alloc, selR, List.getD_cons_zero, List.getD_cons_succ] at H)
          clear hb3
          go_wp2_with ((with_reducible show wpList _ _ _ (⟨some 30, _, _, _, _, _⟩ :: _) _ _); (refine wpList_load_blk rfl rowSch (.tmp 2) rfl _ rfl (H.out.blk 0 rfl) rfl ?_))
          refine (HW.out hf _ H.out.to).mono ?_; rintro e w4 ⟨rfl, hb4⟩
          replace H := Lib.hid (H.out.bel hb4); (try simp only [List.set_cons_zero, List.set_cons_succ, List.cons_append, List.nil_append, List.eraseIdx_cons_zero, List.eraseIdx_cons_succ, List.setIfInBounds_toArray, World.size_alloc, selR, List.getD_cons_zero, List.getD_cons_succ] at H)
          clear hb4
          go_wp2_with fail
          refine (awake23_any _).mono ?_; rintro e w8 ⟨rfl, hb8⟩
          go_wp2
          go_ret
          exact ⟨rfl, H.out.to.trans hb8⟩

end Go.Proofs.Ytelnhhbefdfeoaa
