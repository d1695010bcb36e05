/- The walk of the law CatalogChecks. -/
import Derived.Test.YtnekknemjhlgdaaBk
import Derived.Test.YtnekknemjhlgdaaBj
namespace Go.Proofs.Ytnekknemjhlgdaa
open Go.RowKit
set_option linter.unusedVariables false
set_option linter.unusedSimpArgs false


theorem catPut_len {c : CC} (h : catErr c = 0) : (catPut c).length ≤ 900100 := by
  have hs : schErr c.sc = 0 := by
    by_cases e : schErr c.sc = 0
    · exact e
    · rw [catErr_sc e] at h; exact absurd h e
  have h1 := schPut_len hs
  have h2 := nput_le9 c.fa.toNat
  have h3 : (((tots c).take c.sc.ms.length).flatMap totPut).length ≤ 18 * ((tots c).take c.sc.ms.length).length := flat_len fun x hx => by
    have := nput_le9 (nfold x.1)
    have := nput_le9 (nfold x.2)
    unfold totPut
    rw [List.length_append]
    omega
  have h4 : ((tots c).take c.sc.ms.length).length ≤ 3 := by rw [List.length_take]; show min _ 3 ≤ 3; omega
  unfold catPut
  simp only [List.length_append]
  omega
theorem wpList_build1G {P : Program} {ops : Array Oper} {rest : List Oper} {op : Oper} {a : Act} {w : World} {Q : Exit → Act → World → Prop} (hw : Region.wanted op (yielded ops a.tmps) = true) {t : TypeId} (x : Operand) {i : Nat} (ho : op.op = .build t #[(i, x)])
    {vx v : Value} (hx : a.eval x = vx) (hr : ∀ w, (Instr.build t #[(i, vx)]).run P w = .ok v w)
    (h : wpList P ops Q rest (a.put op.dst v) w) : wpList P ops Q (op :: rest) a w := by
  refine wpList_step fun K hK => ?_
  rw [if_pos hw]
  unfold Oper.wp execOp
  simp only [ho, List.map_toArray, List.map_cons, List.map_nil, hx, Sem.run_bind, hr, Result.andThen_ok, Sem.run_pure]
  exact hK _ _ h
set_option maxRecDepth 100000 in
set_option maxHeartbeats 4000000 in
theorem walk_catalogChecks (w : World) (s : Ct) (hs : s.rd w) :
    Calls Try.prog 3 #[.agg s.cs] w fun e w' => e = .returned (.bool true) ∧ Bel w w' := by
  have HF := Lib.hid (fun w' (hb : Bel w w') => schfew_any s.sc w' (hs.sc.mono hb))
  have HN := Lib.hid (fun (h : SmS s.sc) w' (hb : Bel w w') => catnew_any s.sc w' (hs.sc.mono hb) h)
  have HSW := Lib.hid (fun (h : SmS s.sc) w' (hb : Bel w w') => schwrong_any s.sc w' (hs.sc.mono hb) h.1 h.2.1 (fun x hx => (h.2.2 x hx).1))
  have HP := Lib.hid (fun (h : SmS s.sc) w' (hb : Bel w w') => catput_any s w' (hs.mono hb) h)
  have HW := Lib.hid (fun (h : SmS s.sc) w' (hb : Bel w w') => catwrong_any s w' (hs.mono hb) h)
  have HC := Lib.hid (fun (h : SmS s.sc) w' (hb : Bel w w') => catcheck_any s w' (hs.mono hb) h)
  have HRP := Lib.hid (fun h w' (hb : Bel w w') => rcatput_any s w' (hs.mono hb) h)
  have HSM2 := Lib.hid (fun (D : Ct) w' (hD : D.rd w') (hb : Bel w w') (hc : D.con = s.con) => (show sameK D.con s.con = true by rw [hc]; exact sameK_self _) ▸ catsame_any D s w' hD (hs.mono hb))
  have HOK : Hid (okC s.con) := ⟨hs.p0, hs.q0, hs.p1, hs.q1, hs.p2, hs.q2⟩
  have H := Lib.hid ((SL.start No w).alloc s.cs 30)
  (try simp only [List.set_cons_zero, List.set_cons_succ, List.cons_append, List.nil_append, List.eraseIdx_cons_zero, List.eraseIdx_cons_succ, List.setIfInBounds_toArray, World.size_alloc, selR, List.getD_cons_zero, List.getD_cons_succ] at H)
  have hcn : s.con.sc = s.sc.con := rfl
  have HSC := Lib.hid hs.sc
  by_cases hE0 : schErr s.sc.con = 0
  · have hN0 : catNew s.sc.con = (⟨s.sc.con, 0, 0, 0, 0, 0, 0, 0⟩, 0) := by unfold catNew; rw [if_neg (by simp [hE0])]
    rw [hN0] at HN
    rw [hE0] at HSW
    have HSD := Lib.hid (fun w' (hb : Bel w w') => (⟨hs.sc.mono hb, i64_zero, i64_zero, i64_zero, i64_zero, i64_zero, i64_zero, i64_zero⟩ : Ct.rd w' ⟨s.sc, 0, 0, 0, 0, 0, 0, 0⟩))
    by_cases hE : catErr s.con = 0
    · have hV : catPutV s.con = (catPut s.con, 0) := by unfold catPutV; rw [if_pos hE]
      have hl := catPut_len hE
      have HT := Lib.hid (fun w => cattake_any (catPut s.con) w (by omega))
      rw [cattake_put hE HOK.out] at HT
      rw [hV] at HP
      rw [hE] at HW HC
      replace HRP := Lib.hid (HRP.out hE)
      clear hE hV hl hE0 hN0 hcn HOK
      generalize catPut s.con = pq at *
      have q8 : (pq == pq) = true := by simp
      generalize hsc : s.con = sc at *
      have HSCN : Hid (s.sc.con = s.sc.con) := rfl
      obtain ⟨⟨⟨A, n, c, ds⟩, ⟨MA, mn, mc, ms⟩⟩, fa, p0, q0, p1, q1, p2, q2⟩ := s
      simp only [Ct.cs, Sch.cs] at *
      clear hs hsc
      go_enter Try.func3, Try.ntmps3
      go_upto_region 1 with fail
      generalize w.heap.size = x at *
      generalize World.alloc _ _ = w1 at *
      go_wp2_with ((with_reducible show wpList _ _ _ (⟨some 12, _, _, _, _, _⟩ :: _) _ _); (refine wpList_load_row_at rfl rowSch (.tmp 11) rfl x (0) rfl #[.slice A n c, .slice MA mn mc] rfl ((H.out.blk 0 rfl).part 0 _ rfl) ?_))
      refine (HF.out _ H.out.to).mono ?_; rintro e w2 ⟨bf, rfl, hfew, hb2⟩
      replace H := Lib.hid (H.out.bel hb2); (try simp only [List.set_cons_zero, List.set_cons_succ, List.cons_append, List.nil_append, List.eraseIdx_cons_zero, List.eraseIdx_cons_succ, List.setIfInBounds_toArray, World.size_alloc, selR, List.getD_cons_zero, List.getD_cons_succ] at H)
      clear hb2
      clear HF
      cases bf with
      | false =>
        clear hfew
        go_wp2_with fail
        refine (awake18_any _).mono ?_; rintro e w8 ⟨rfl, hb8⟩
        replace H := Lib.hid (H.out.bel hb8); (try simp only [List.set_cons_zero, List.set_cons_succ, List.cons_append, List.nil_append, List.eraseIdx_cons_zero, List.eraseIdx_cons_succ, List.setIfInBounds_toArray, World.size_alloc, selR, List.getD_cons_zero, List.getD_cons_succ] at H)
        clear hb8
        go_wp2
        go_ret
        exact ⟨rfl, H.out.to⟩
      | true =>
        have HSM := Lib.hid (sms_few (hfew rfl))
        clear hfew
        go_wp2_with ((with_reducible show wpList _ _ _ (⟨some 18, _, _, _, _, _⟩ :: _) _ _); (refine wpList_load_row_at rfl rowSch (.tmp 17) rfl x (0) rfl #[.slice A n c, .slice MA mn mc] rfl ((H.out.blk 0 rfl).part 0 _ rfl) ?_))
        refine (HN.out HSM.out _ H.out.to).mono ?_; rintro e w4 ⟨X, rfl, hX, hXr, hXs, hb4⟩
        replace H := Lib.hid (H.out.bel hb4); (try simp only [List.set_cons_zero, List.set_cons_succ, List.cons_append, List.nil_append, List.eraseIdx_cons_zero, List.eraseIdx_cons_succ, List.setIfInBounds_toArray, World.size_alloc, selR, List.getD_cons_zero, List.getD_cons_succ] at H)
        clear hb4
        have HX := Lib.hid hX
        have HXr := Lib.hid (fun w' (hb : Bel w4 w') => hXr.mono hb)
        clear hX hXr hXs HN
        have HSame := Lib.hid (fun (Y : Ct) w' (hb : Bel w4 w') (hY : Y.rd w') (hc : Y.con = X.con) => (show sameK X.con Y.con = true by rw [hc]; exact sameK_self _) ▸ catsame_any X Y w' (HXr.out w' hb) hY)
        have HXC : Hid (X.con = X.con) := rfl
        obtain ⟨⟨⟨A1, n1, c1, ds1⟩, ⟨MA1, mn1, mc1, ms1⟩⟩, fa1, a0, a1, a2, a3, a4, a5⟩ := X
        simp only [Ct.cs, Sch.cs] at *
        go_upto_region 4 with ((with_reducible show wpList _ _ _ (⟨_, .store _ (.tmp 3) _, _, _, _, _⟩ :: _) _ _); (refine wpList_store_new rfl rowCt (.tmp 3) (.tmp 20) rfl rfl rfl (#[.slice A1 n1 c1, .slice MA1 mn1 mc1, .int .i64 fa1, .int .i64 a0, .int .i64 a1, .int .i64 a2, .int .i64 a3, .int .i64 a4, .int .i64 a5]) rfl rfl (by simp [Value.oneCell']) ?_; replace H := Lib.hid (H.out.alloc (#[.slice A1 n1 c1, .slice MA1 mn1 mc1, .int .i64 fa1, .int .i64 a0, .int .i64 a1, .int .i64 a2, .int .i64 a3, .int .i64 a4, .int .i64 a5]) 30); (try simp only [List.set_cons_zero, List.set_cons_succ, List.cons_append, List.nil_append, List.eraseIdx_cons_zero, List.eraseIdx_cons_succ, List.setIfInBounds_toArray, World.size_alloc, selR, List.getD_cons_zero, List.getD_cons_succ] at H)))
        (try simp only [Act.put, List.setIfInBounds_toArray, List.set_cons_zero, List.set_cons_succ])
        have HB := Lib.hid ((Bel.refl w4).alloc (.cells #[.slice A1 n1 c1, .slice MA1 mn1 mc1, .int .i64 fa1, .int .i64 a0, .int .i64 a1, .int .i64 a2, .int .i64 a3, .int .i64 a4, .int .i64 a5] 30))
        generalize w4.heap.size = y at *
        generalize World.alloc w4 _ = w5 at *
        go_wp2_with ((with_reducible show wpList _ _ _ (⟨some 23, _, _, _, _, _⟩ :: _) _ _); (refine wpList_load_row_at rfl rowSch (.tmp 22) rfl x (0) rfl #[.slice A n c, .slice MA mn mc] rfl ((H.out.blk 0 rfl).part 0 _ rfl) ?_))
        refine (HSW.out HSM.out _ H.out.to).mono ?_; rintro e w6 ⟨rfl, hb6⟩
        replace HB := Lib.hid (HB.out.trans hb6)
        replace H := Lib.hid (H.out.bel hb6); (try simp only [List.set_cons_zero, List.set_cons_succ, List.cons_append, List.nil_append, List.eraseIdx_cons_zero, List.eraseIdx_cons_succ, List.setIfInBounds_toArray, World.size_alloc, selR, List.getD_cons_zero, List.getD_cons_succ] at H)
        clear hb6
        clear HSW
        have hbd : ∀ w : World, (Instr.build 30 #[(0, .agg #[.slice A n c, .slice MA mn mc])]).run Try.prog w = .ok (.agg #[.slice A n c, .slice MA mn mc, .int .i64 0, .int .i64 0, .int .i64 0, .int .i64 0, .int .i64 0, .int .i64 0, .int .i64 0]) w := fun _ => by kernel_rfl
        go_wp2_with (first | ((with_reducible show wpList _ _ _ (⟨some 39, _, _, _, _, _⟩ :: _) _ _); refine wpList_load_blkG (by first | rfl | go_simp) rowCt (.tmp 3) (by rfl) _ (by rfl) (H.out.blk 1 rfl) rfl ?_) | ((with_reducible show wpList _ _ _ (⟨some 41, _, _, _, _, _⟩ :: _) _ _); refine wpList_load_partG (by first | rfl | go_simp) rowSch (.tmp 40) rfl x 0 (by first | rfl | go_simp) #[.slice A n c, .slice MA mn mc] rfl ((H.out.blk 0 rfl).part 0 _ rfl) ?_) | ((with_reducible show wpList _ _ _ (⟨some 42, _, _, _, _, _⟩ :: _) _ _); refine wpList_build1G (by first | rfl | go_simp) (.tmp 41) rfl (vx := .agg #[.slice A n c, .slice MA mn mc]) (v := .agg #[.slice A n c, .slice MA mn mc, .int .i64 0, .int .i64 0, .int .i64 0, .int .i64 0, .int .i64 0, .int .i64 0, .int .i64 0]) (by first | rfl | go_simp) hbd ?_))
        refine (HSame.out ⟨⟨⟨A, n, c, ds⟩, ⟨MA, mn, mc, ms⟩⟩, 0, 0, 0, 0, 0, 0, 0⟩ _ HB.out (HSD.out _ H.out.to) HX.out.symm).mono ?_; rintro e w7 ⟨rfl, hb7⟩
        replace H := Lib.hid (H.out.bel hb7); (try simp only [List.set_cons_zero, List.set_cons_succ, List.cons_append, List.nil_append, List.eraseIdx_cons_zero, List.eraseIdx_cons_succ, List.setIfInBounds_toArray, World.size_alloc, selR, List.getD_cons_zero, List.getD_cons_succ] at H)
        clear hb7
        clear HSame HB hbd HXr HX HSD
        go_wp2_with ((with_reducible show wpList _ _ _ (⟨some 47, _, _, _, _, _⟩ :: _) _ _); (refine wpList_load_blk rfl rowCt (.tmp 1) rfl _ rfl (H.out.blk 0 rfl) rfl ?_))
        refine (HP.out HSM.out _ H.out.to).mono ?_; rintro e w12 ⟨rfl, hb12⟩
        replace H := Lib.hid (H.out.bel hb12); (try simp only [List.set_cons_zero, List.set_cons_succ, List.cons_append, List.nil_append, List.eraseIdx_cons_zero, List.eraseIdx_cons_succ, List.setIfInBounds_toArray, World.size_alloc, selR, List.getD_cons_zero, List.getD_cons_succ] at H)
        clear hb12
        clear HP
        go_wp2_with ((with_reducible show wpList _ _ _ (⟨some 51, _, _, _, _, _⟩ :: _) _ _); (refine wpList_load_blk rfl rowCt (.tmp 1) rfl _ rfl (H.out.blk 0 rfl) rfl ?_))
        refine (HW.out HSM.out _ H.out.to).mono ?_; rintro e w13 ⟨rfl, hb13⟩
        replace H := Lib.hid (H.out.bel hb13); (try simp only [List.set_cons_zero, List.set_cons_succ, List.cons_append, List.nil_append, List.eraseIdx_cons_zero, List.eraseIdx_cons_succ, List.setIfInBounds_toArray, World.size_alloc, selR, List.getD_cons_zero, List.getD_cons_succ] at H)
        clear hb13
        clear HW
        dsimp only
        go_wp2_with ((with_reducible show wpList _ _ _ (⟨some 57, _, _, _, _, _⟩ :: _) _ _); refine wpList_load_blkG (by first | rfl | go_simp) rowCt (.tmp 1) (by rfl) _ (by rfl) (H.out.blk 0 rfl) rfl ?_)
        refine (HC.out HSM.out _ H.out.to).mono ?_; rintro e w14 ⟨rfl, hb14⟩
        replace H := Lib.hid (H.out.bel hb14); (try simp only [List.set_cons_zero, List.set_cons_succ, List.cons_append, List.nil_append, List.eraseIdx_cons_zero, List.eraseIdx_cons_succ, List.setIfInBounds_toArray, World.size_alloc, selR, List.getD_cons_zero, List.getD_cons_succ] at H)
        clear hb14
        clear HC
        dsimp only
        go_wp2_with fail
        refine (HT.out _).mono ?_; rintro e w15 ⟨Y, rfl, hY, hYr, hYs, hb15⟩
        replace H := Lib.hid (H.out.bel hb15); (try simp only [List.set_cons_zero, List.set_cons_succ, List.cons_append, List.nil_append, List.eraseIdx_cons_zero, List.eraseIdx_cons_succ, List.setIfInBounds_toArray, World.size_alloc, selR, List.getD_cons_zero, List.getD_cons_succ] at H)
        clear hb15
        replace HSM2 := Lib.hid (fun w' (hb : Bel w15 w') hb2 => HSM2.out Y w' (hYr.mono hb) hb2 hY)
        clear hY hYr hYs HT
        obtain ⟨⟨⟨B1, m1, d1, es1⟩, ⟨MB1, mm1, md1, mt1⟩⟩, fb1, b0, b1, b2, b3, b4, b5⟩ := Y
        simp only [Ct.cs, Sch.cs] at *
        go_upto_region 17 with ((with_reducible show wpList _ _ _ (⟨_, .store _ (.tmp 9) _, _, _, _, _⟩ :: _) _ _); (refine wpList_store_new rfl rowCt (.tmp 9) (.tmp 72) rfl rfl rfl (#[.slice B1 m1 d1, .slice MB1 mm1 md1, .int .i64 fb1, .int .i64 b0, .int .i64 b1, .int .i64 b2, .int .i64 b3, .int .i64 b4, .int .i64 b5]) rfl rfl (by simp [Value.oneCell']) ?_; replace H := Lib.hid (H.out.alloc (#[.slice B1 m1 d1, .slice MB1 mm1 md1, .int .i64 fb1, .int .i64 b0, .int .i64 b1, .int .i64 b2, .int .i64 b3, .int .i64 b4, .int .i64 b5]) 30); (try simp only [List.set_cons_zero, List.set_cons_succ, List.cons_append, List.nil_append, List.eraseIdx_cons_zero, List.eraseIdx_cons_succ, List.setIfInBounds_toArray, World.size_alloc, selR, List.getD_cons_zero, List.getD_cons_succ] at H)))
        (try simp only [Act.put, List.setIfInBounds_toArray, List.set_cons_zero, List.set_cons_succ])
        have HB2 := Lib.hid ((Bel.refl w15).alloc (.cells #[.slice B1 m1 d1, .slice MB1 mm1 md1, .int .i64 fb1, .int .i64 b0, .int .i64 b1, .int .i64 b2, .int .i64 b3, .int .i64 b4, .int .i64 b5] 30))
        generalize w15.heap.size = z at *
        generalize World.alloc w15 _ = w16 at *
        go_wp2_with ((with_reducible show wpList _ _ _ (⟨some 75, _, _, _, _, _⟩ :: _) _ _); (refine wpList_load_blk rfl rowCt (.tmp 1) rfl _ rfl (H.out.blk 0 rfl) rfl ?_))
        refine (HRP.out _ H.out.to).mono ?_; rintro e w17 ⟨rfl, hb17⟩
        replace HB2 := Lib.hid (HB2.out.trans hb17)
        replace H := Lib.hid (H.out.bel hb17); (try simp only [List.set_cons_zero, List.set_cons_succ, List.cons_append, List.nil_append, List.eraseIdx_cons_zero, List.eraseIdx_cons_succ, List.setIfInBounds_toArray, World.size_alloc, selR, List.getD_cons_zero, List.getD_cons_succ] at H)
        clear hb17
        clear HRP
        go_wp2_with (first | ((with_reducible show wpList _ _ _ (⟨some 79, _, _, _, _, _⟩ :: _) _ _); refine wpList_load_blkG (by first | rfl | go_simp) rowCt (.tmp 9) (by rfl) _ (by rfl) (H.out.blk 2 rfl) rfl ?_) | ((with_reducible show wpList _ _ _ (⟨some 80, _, _, _, _, _⟩ :: _) _ _); refine wpList_load_blkG (by first | rfl | go_simp) rowCt (.tmp 1) (by rfl) _ (by rfl) (H.out.blk 0 rfl) rfl ?_))
        refine (HSM2.out _ HB2.out H.out.to).mono ?_; rintro e w18 ⟨rfl, hb18⟩
        replace H := Lib.hid (H.out.bel hb18); (try simp only [List.set_cons_zero, List.set_cons_succ, List.cons_append, List.nil_append, List.eraseIdx_cons_zero, List.eraseIdx_cons_succ, List.setIfInBounds_toArray, World.size_alloc, selR, List.getD_cons_zero, List.getD_cons_succ] at H)
        clear hb18
        clear HSM2 HB2
        go_wp2_with fail
        refine (awake18_any _).mono ?_; rintro e w8 ⟨rfl, hb8⟩
        replace H := Lib.hid (H.out.bel hb8); (try simp only [List.set_cons_zero, List.set_cons_succ, List.cons_append, List.nil_append, List.eraseIdx_cons_zero, List.eraseIdx_cons_succ, List.setIfInBounds_toArray, World.size_alloc, selR, List.getD_cons_zero, List.getD_cons_succ] at H)
        clear hb8
        go_wp2
        go_ret
        exact ⟨rfl, H.out.to⟩
    · have hV : catPutV s.con = ([], catErr s.con) := by unfold catPutV; rw [if_neg hE]
      rw [hV] at HP
      clear HRP HSM2
      generalize catErr s.con = E at *
      have dE : (E == 0) = false := by simpa using hE
      have dE2 : (E != 0) = true := by simpa using hE
      have dE3 : (E != E) = false := by simp
      clear hE hV hE0 hN0 hcn HOK
      obtain ⟨⟨⟨A, n, c, ds⟩, ⟨MA, mn, mc, ms⟩⟩, fa, p0, q0, p1, q1, p2, q2⟩ := s
      simp only [Ct.cs, Sch.cs] at *
      clear hs
      go_enter Try.func3, Try.ntmps3
      go_upto_region 1 with fail
      generalize w.heap.size = x at *
      generalize World.alloc _ _ = w1 at *
      go_wp2_with ((with_reducible show wpList _ _ _ (⟨some 12, _, _, _, _, _⟩ :: _) _ _); (refine wpList_load_row_at rfl rowSch (.tmp 11) rfl x (0) rfl #[.slice A n c, .slice MA mn mc] rfl ((H.out.blk 0 rfl).part 0 _ rfl) ?_))
      refine (HF.out _ H.out.to).mono ?_; rintro e w2 ⟨bf, rfl, hfew, hb2⟩
      replace H := Lib.hid (H.out.bel hb2); (try simp only [List.set_cons_zero, List.set_cons_succ, List.cons_append, List.nil_append, List.eraseIdx_cons_zero, List.eraseIdx_cons_succ, List.setIfInBounds_toArray, World.size_alloc, selR, List.getD_cons_zero, List.getD_cons_succ] at H)
      clear hb2
      clear HF
      cases bf with
      | false =>
        clear hfew
        go_wp2_with fail
        refine (awake18_any _).mono ?_; rintro e w8 ⟨rfl, hb8⟩
        replace H := Lib.hid (H.out.bel hb8); (try simp only [List.set_cons_zero, List.set_cons_succ, List.cons_append, List.nil_append, List.eraseIdx_cons_zero, List.eraseIdx_cons_succ, List.setIfInBounds_toArray, World.size_alloc, selR, List.getD_cons_zero, List.getD_cons_succ] at H)
        clear hb8
        go_wp2
        go_ret
        exact ⟨rfl, H.out.to⟩
      | true =>
        have HSM := Lib.hid (sms_few (hfew rfl))
        clear hfew
        go_wp2_with ((with_reducible show wpList _ _ _ (⟨some 18, _, _, _, _, _⟩ :: _) _ _); (refine wpList_load_row_at rfl rowSch (.tmp 17) rfl x (0) rfl #[.slice A n c, .slice MA mn mc] rfl ((H.out.blk 0 rfl).part 0 _ rfl) ?_))
        refine (HN.out HSM.out _ H.out.to).mono ?_; rintro e w4 ⟨X, rfl, hX, hXr, hXs, hb4⟩
        replace H := Lib.hid (H.out.bel hb4); (try simp only [List.set_cons_zero, List.set_cons_succ, List.cons_append, List.nil_append, List.eraseIdx_cons_zero, List.eraseIdx_cons_succ, List.setIfInBounds_toArray, World.size_alloc, selR, List.getD_cons_zero, List.getD_cons_succ] at H)
        clear hb4
        have HX := Lib.hid hX
        have HXr := Lib.hid (fun w' (hb : Bel w4 w') => hXr.mono hb)
        clear hX hXr hXs HN
        have HSame := Lib.hid (fun (Y : Ct) w' (hb : Bel w4 w') (hY : Y.rd w') (hc : Y.con = X.con) => (show sameK X.con Y.con = true by rw [hc]; exact sameK_self _) ▸ catsame_any X Y w' (HXr.out w' hb) hY)
        have HXC : Hid (X.con = X.con) := rfl
        obtain ⟨⟨⟨A1, n1, c1, ds1⟩, ⟨MA1, mn1, mc1, ms1⟩⟩, fa1, a0, a1, a2, a3, a4, a5⟩ := X
        simp only [Ct.cs, Sch.cs] at *
        go_upto_region 4 with ((with_reducible show wpList _ _ _ (⟨_, .store _ (.tmp 3) _, _, _, _, _⟩ :: _) _ _); (refine wpList_store_new rfl rowCt (.tmp 3) (.tmp 20) rfl rfl rfl (#[.slice A1 n1 c1, .slice MA1 mn1 mc1, .int .i64 fa1, .int .i64 a0, .int .i64 a1, .int .i64 a2, .int .i64 a3, .int .i64 a4, .int .i64 a5]) rfl rfl (by simp [Value.oneCell']) ?_; replace H := Lib.hid (H.out.alloc (#[.slice A1 n1 c1, .slice MA1 mn1 mc1, .int .i64 fa1, .int .i64 a0, .int .i64 a1, .int .i64 a2, .int .i64 a3, .int .i64 a4, .int .i64 a5]) 30); (try simp only [List.set_cons_zero, List.set_cons_succ, List.cons_append, List.nil_append, List.eraseIdx_cons_zero, List.eraseIdx_cons_succ, List.setIfInBounds_toArray, World.size_alloc, selR, List.getD_cons_zero, List.getD_cons_succ] at H)))
        (try simp only [Act.put, List.setIfInBounds_toArray, List.set_cons_zero, List.set_cons_succ])
        have HB := Lib.hid ((Bel.refl w4).alloc (.cells #[.slice A1 n1 c1, .slice MA1 mn1 mc1, .int .i64 fa1, .int .i64 a0, .int .i64 a1, .int .i64 a2, .int .i64 a3, .int .i64 a4, .int .i64 a5] 30))
        generalize w4.heap.size = y at *
        generalize World.alloc w4 _ = w5 at *
        go_wp2_with ((with_reducible show wpList _ _ _ (⟨some 23, _, _, _, _, _⟩ :: _) _ _); (refine wpList_load_row_at rfl rowSch (.tmp 22) rfl x (0) rfl #[.slice A n c, .slice MA mn mc] rfl ((H.out.blk 0 rfl).part 0 _ rfl) ?_))
        refine (HSW.out HSM.out _ H.out.to).mono ?_; rintro e w6 ⟨rfl, hb6⟩
        replace HB := Lib.hid (HB.out.trans hb6)
        replace H := Lib.hid (H.out.bel hb6); (try simp only [List.set_cons_zero, List.set_cons_succ, List.cons_append, List.nil_append, List.eraseIdx_cons_zero, List.eraseIdx_cons_succ, List.setIfInBounds_toArray, World.size_alloc, selR, List.getD_cons_zero, List.getD_cons_succ] at H)
        clear hb6
        clear HSW
        have hbd : ∀ w : World, (Instr.build 30 #[(0, .agg #[.slice A n c, .slice MA mn mc])]).run Try.prog w = .ok (.agg #[.slice A n c, .slice MA mn mc, .int .i64 0, .int .i64 0, .int .i64 0, .int .i64 0, .int .i64 0, .int .i64 0, .int .i64 0]) w := fun _ => by kernel_rfl
        go_wp2_with (first | ((with_reducible show wpList _ _ _ (⟨some 39, _, _, _, _, _⟩ :: _) _ _); refine wpList_load_blkG (by first | rfl | go_simp) rowCt (.tmp 3) (by rfl) _ (by rfl) (H.out.blk 1 rfl) rfl ?_) | ((with_reducible show wpList _ _ _ (⟨some 41, _, _, _, _, _⟩ :: _) _ _); refine wpList_load_partG (by first | rfl | go_simp) rowSch (.tmp 40) rfl x 0 (by first | rfl | go_simp) #[.slice A n c, .slice MA mn mc] rfl ((H.out.blk 0 rfl).part 0 _ rfl) ?_) | ((with_reducible show wpList _ _ _ (⟨some 42, _, _, _, _, _⟩ :: _) _ _); refine wpList_build1G (by first | rfl | go_simp) (.tmp 41) rfl (vx := .agg #[.slice A n c, .slice MA mn mc]) (v := .agg #[.slice A n c, .slice MA mn mc, .int .i64 0, .int .i64 0, .int .i64 0, .int .i64 0, .int .i64 0, .int .i64 0, .int .i64 0]) (by first | rfl | go_simp) hbd ?_))
        refine (HSame.out ⟨⟨⟨A, n, c, ds⟩, ⟨MA, mn, mc, ms⟩⟩, 0, 0, 0, 0, 0, 0, 0⟩ _ HB.out (HSD.out _ H.out.to) HX.out.symm).mono ?_; rintro e w7 ⟨rfl, hb7⟩
        replace H := Lib.hid (H.out.bel hb7); (try simp only [List.set_cons_zero, List.set_cons_succ, List.cons_append, List.nil_append, List.eraseIdx_cons_zero, List.eraseIdx_cons_succ, List.setIfInBounds_toArray, World.size_alloc, selR, List.getD_cons_zero, List.getD_cons_succ] at H)
        clear hb7
        clear HSame HB hbd HXr HX HSD
        go_wp2_with ((with_reducible show wpList _ _ _ (⟨some 47, _, _, _, _, _⟩ :: _) _ _); (refine wpList_load_blk rfl rowCt (.tmp 1) rfl _ rfl (H.out.blk 0 rfl) rfl ?_))
        refine (HP.out HSM.out _ H.out.to).mono ?_; rintro e w12 ⟨rfl, hb12⟩
        replace H := Lib.hid (H.out.bel hb12); (try simp only [List.set_cons_zero, List.set_cons_succ, List.cons_append, List.nil_append, List.eraseIdx_cons_zero, List.eraseIdx_cons_succ, List.setIfInBounds_toArray, World.size_alloc, selR, List.getD_cons_zero, List.getD_cons_succ] at H)
        clear hb12
        clear HP
        go_wp2_with ((with_reducible show wpList _ _ _ (⟨some 51, _, _, _, _, _⟩ :: _) _ _); (refine wpList_load_blk rfl rowCt (.tmp 1) rfl _ rfl (H.out.blk 0 rfl) rfl ?_))
        refine (HW.out HSM.out _ H.out.to).mono ?_; rintro e w13 ⟨rfl, hb13⟩
        replace H := Lib.hid (H.out.bel hb13); (try simp only [List.set_cons_zero, List.set_cons_succ, List.cons_append, List.nil_append, List.eraseIdx_cons_zero, List.eraseIdx_cons_succ, List.setIfInBounds_toArray, World.size_alloc, selR, List.getD_cons_zero, List.getD_cons_succ] at H)
        clear hb13
        clear HW
        dsimp only
        go_wp2_with ((with_reducible show wpList _ _ _ (⟨some 57, _, _, _, _, _⟩ :: _) _ _); refine wpList_load_blkG (by first | rfl | go_simp) rowCt (.tmp 1) (by rfl) _ (by rfl) (H.out.blk 0 rfl) rfl ?_)
        refine (HC.out HSM.out _ H.out.to).mono ?_; rintro e w14 ⟨rfl, hb14⟩
        replace H := Lib.hid (H.out.bel hb14); (try simp only [List.set_cons_zero, List.set_cons_succ, List.cons_append, List.nil_append, List.eraseIdx_cons_zero, List.eraseIdx_cons_succ, List.setIfInBounds_toArray, World.size_alloc, selR, List.getD_cons_zero, List.getD_cons_succ] at H)
        clear hb14
        clear HC
        dsimp only
        go_wp2_with fail
        refine (awake18_any _).mono ?_; rintro e w8 ⟨rfl, hb8⟩
        replace H := Lib.hid (H.out.bel hb8); (try simp only [List.set_cons_zero, List.set_cons_succ, List.cons_append, List.nil_append, List.eraseIdx_cons_zero, List.eraseIdx_cons_succ, List.setIfInBounds_toArray, World.size_alloc, selR, List.getD_cons_zero, List.getD_cons_succ] at H)
        clear hb8
        go_wp2
        go_ret
        exact ⟨rfl, H.out.to⟩
  · have hN0 : catNew s.sc.con = (CC.nil, schErr s.sc.con) := by unfold catNew; rw [if_pos hE0]
    have hE1 : catErr s.con = schErr s.sc.con := catErr_sc (by rw [hcn]; exact hE0)
    have hE : ¬ catErr s.con = 0 := by rw [hE1]; exact hE0
    have hV : catPutV s.con = ([], schErr s.sc.con) := by unfold catPutV; rw [if_neg hE, hE1]
    rw [hV] at HP
    rw [hN0] at HN
    rw [hE1] at HW HC
    clear HRP HSM2
    generalize schErr s.sc.con = E at *
    have dE : (E == 0) = false := by simpa using hE0
    have dE2 : (E != 0) = true := by simpa using hE0
    have dE3 : (E != E) = false := by simp
    clear hE hV hE0 hE1 hN0 hcn HOK
    obtain ⟨⟨⟨A, n, c, ds⟩, ⟨MA, mn, mc, ms⟩⟩, fa, p0, q0, p1, q1, p2, q2⟩ := s
    simp only [Ct.cs, Sch.cs] at *
    clear hs
    go_enter Try.func3, Try.ntmps3
    go_upto_region 1 with fail
    generalize w.heap.size = x at *
    generalize World.alloc _ _ = w1 at *
    go_wp2_with ((with_reducible show wpList _ _ _ (⟨some 12, _, _, _, _, _⟩ :: _) _ _); (refine wpList_load_row_at rfl rowSch (.tmp 11) rfl x (0) rfl #[.slice A n c, .slice MA mn mc] rfl ((H.out.blk 0 rfl).part 0 _ rfl) ?_))
    refine (HF.out _ H.out.to).mono ?_; rintro e w2 ⟨bf, rfl, hfew, hb2⟩
    replace H := Lib.hid (H.out.bel hb2); (try simp only [List.set_cons_zero, List.set_cons_succ, List.cons_append, List.nil_append, List.eraseIdx_cons_zero, List.eraseIdx_cons_succ, List.setIfInBounds_toArray, World.size_alloc, selR, List.getD_cons_zero, List.getD_cons_succ] at H)
    clear hb2
    clear HF
    cases bf with
    | false =>
      clear hfew
      go_wp2_with fail
      refine (awake18_any _).mono ?_; rintro e w8 ⟨rfl, hb8⟩
      replace H := Lib.hid (H.out.bel hb8); (try simp only [List.set_cons_zero, List.set_cons_succ, List.cons_append, List.nil_append, List.eraseIdx_cons_zero, List.eraseIdx_cons_succ, List.setIfInBounds_toArray, World.size_alloc, selR, List.getD_cons_zero, List.getD_cons_succ] at H)
      clear hb8
      go_wp2
      go_ret
      exact ⟨rfl, H.out.to⟩
    | true =>
      have HSM := Lib.hid (sms_few (hfew rfl))
      clear hfew
      go_wp2_with ((with_reducible show wpList _ _ _ (⟨some 18, _, _, _, _, _⟩ :: _) _ _); (refine wpList_load_row_at rfl rowSch (.tmp 17) rfl x (0) rfl #[.slice A n c, .slice MA mn mc] rfl ((H.out.blk 0 rfl).part 0 _ rfl) ?_))
      refine (HN.out HSM.out _ H.out.to).mono ?_; rintro e w4 ⟨X, rfl, hX, hXr, hXs, hb4⟩
      replace H := Lib.hid (H.out.bel hb4); (try simp only [List.set_cons_zero, List.set_cons_succ, List.cons_append, List.nil_append, List.eraseIdx_cons_zero, List.eraseIdx_cons_succ, List.setIfInBounds_toArray, World.size_alloc, selR, List.getD_cons_zero, List.getD_cons_succ] at H)
      clear hb4
      have HX := Lib.hid hX
      have HXr := Lib.hid (fun w' (hb : Bel w4 w') => hXr.mono hb)
      clear hX hXr hXs HN
      have HSame := Lib.hid (fun (Y : Ct) w' (hb : Bel w4 w') (hY : Y.rd w') (hc : Y.con = X.con) => (show sameK X.con Y.con = true by rw [hc]; exact sameK_self _) ▸ catsame_any X Y w' (HXr.out w' hb) hY)
      have HXC : Hid (X.con = X.con) := rfl
      obtain ⟨⟨⟨A1, n1, c1, ds1⟩, ⟨MA1, mn1, mc1, ms1⟩⟩, fa1, a0, a1, a2, a3, a4, a5⟩ := X
      simp only [Ct.cs, Sch.cs] at *
      go_upto_region 4 with ((with_reducible show wpList _ _ _ (⟨_, .store _ (.tmp 3) _, _, _, _, _⟩ :: _) _ _); (refine wpList_store_new rfl rowCt (.tmp 3) (.tmp 20) rfl rfl rfl (#[.slice A1 n1 c1, .slice MA1 mn1 mc1, .int .i64 fa1, .int .i64 a0, .int .i64 a1, .int .i64 a2, .int .i64 a3, .int .i64 a4, .int .i64 a5]) rfl rfl (by simp [Value.oneCell']) ?_; replace H := Lib.hid (H.out.alloc (#[.slice A1 n1 c1, .slice MA1 mn1 mc1, .int .i64 fa1, .int .i64 a0, .int .i64 a1, .int .i64 a2, .int .i64 a3, .int .i64 a4, .int .i64 a5]) 30); (try simp only [List.set_cons_zero, List.set_cons_succ, List.cons_append, List.nil_append, List.eraseIdx_cons_zero, List.eraseIdx_cons_succ, List.setIfInBounds_toArray, World.size_alloc, selR, List.getD_cons_zero, List.getD_cons_succ] at H)))
      (try simp only [Act.put, List.setIfInBounds_toArray, List.set_cons_zero, List.set_cons_succ])
      have HB := Lib.hid ((Bel.refl w4).alloc (.cells #[.slice A1 n1 c1, .slice MA1 mn1 mc1, .int .i64 fa1, .int .i64 a0, .int .i64 a1, .int .i64 a2, .int .i64 a3, .int .i64 a4, .int .i64 a5] 30))
      generalize w4.heap.size = y at *
      generalize World.alloc w4 _ = w5 at *
      go_wp2_with ((with_reducible show wpList _ _ _ (⟨some 23, _, _, _, _, _⟩ :: _) _ _); (refine wpList_load_row_at rfl rowSch (.tmp 22) rfl x (0) rfl #[.slice A n c, .slice MA mn mc] rfl ((H.out.blk 0 rfl).part 0 _ rfl) ?_))
      refine (HSW.out HSM.out _ H.out.to).mono ?_; rintro e w6 ⟨rfl, hb6⟩
      replace HB := Lib.hid (HB.out.trans hb6)
      replace H := Lib.hid (H.out.bel hb6); (try simp only [List.set_cons_zero, List.set_cons_succ, List.cons_append, List.nil_append, List.eraseIdx_cons_zero, List.eraseIdx_cons_succ, List.setIfInBounds_toArray, World.size_alloc, selR, List.getD_cons_zero, List.getD_cons_succ] at H)
      clear hb6
      clear HSW
      go_wp2_with ((with_reducible show wpList _ _ _ (⟨some 31, _, _, _, _, _⟩ :: _) _ _); refine wpList_load_blkG (by first | rfl | go_simp) rowCt (.tmp 3) (by rfl) _ (by rfl) (H.out.blk 1 rfl) rfl ?_)
      refine (HSame.out Ct.nil _ HB.out (ct_nil_rd _) HX.out.symm).mono ?_; rintro e w7 ⟨rfl, hb7⟩
      replace H := Lib.hid (H.out.bel hb7); (try simp only [List.set_cons_zero, List.set_cons_succ, List.cons_append, List.nil_append, List.eraseIdx_cons_zero, List.eraseIdx_cons_succ, List.setIfInBounds_toArray, World.size_alloc, selR, List.getD_cons_zero, List.getD_cons_succ] at H)
      clear hb7
      clear HSame HB HXr HX
      go_wp2_with ((with_reducible show wpList _ _ _ (⟨some 47, _, _, _, _, _⟩ :: _) _ _); (refine wpList_load_blk rfl rowCt (.tmp 1) rfl _ rfl (H.out.blk 0 rfl) rfl ?_))
      refine (HP.out HSM.out _ H.out.to).mono ?_; rintro e w12 ⟨rfl, hb12⟩
      replace H := Lib.hid (H.out.bel hb12); (try simp only [List.set_cons_zero, List.set_cons_succ, List.cons_append, List.nil_append, List.eraseIdx_cons_zero, List.eraseIdx_cons_succ, List.setIfInBounds_toArray, World.size_alloc, selR, List.getD_cons_zero, List.getD_cons_succ] at H)
      clear hb12
      clear HP
      go_wp2_with ((with_reducible show wpList _ _ _ (⟨some 51, _, _, _, _, _⟩ :: _) _ _); (refine wpList_load_blk rfl rowCt (.tmp 1) rfl _ rfl (H.out.blk 0 rfl) rfl ?_))
      refine (HW.out HSM.out _ H.out.to).mono ?_; rintro e w13 ⟨rfl, hb13⟩
      replace H := Lib.hid (H.out.bel hb13); (try simp only [List.set_cons_zero, List.set_cons_succ, List.cons_append, List.nil_append, List.eraseIdx_cons_zero, List.eraseIdx_cons_succ, List.setIfInBounds_toArray, World.size_alloc, selR, List.getD_cons_zero, List.getD_cons_succ] at H)
      clear hb13
      clear HW
      dsimp only
      go_wp2_with ((with_reducible show wpList _ _ _ (⟨some 57, _, _, _, _, _⟩ :: _) _ _); refine wpList_load_blkG (by first | rfl | go_simp) rowCt (.tmp 1) (by rfl) _ (by rfl) (H.out.blk 0 rfl) rfl ?_)
      refine (HC.out HSM.out _ H.out.to).mono ?_; rintro e w14 ⟨rfl, hb14⟩
      replace H := Lib.hid (H.out.bel hb14); (try simp only [List.set_cons_zero, List.set_cons_succ, List.cons_append, List.nil_append, List.eraseIdx_cons_zero, List.eraseIdx_cons_succ, List.setIfInBounds_toArray, World.size_alloc, selR, List.getD_cons_zero, List.getD_cons_succ] at H)
      clear hb14
      clear HC
      dsimp only
      go_wp2_with fail
      refine (awake18_any _).mono ?_; rintro e w8 ⟨rfl, hb8⟩
      replace H := Lib.hid (H.out.bel hb8); (try simp only [List.set_cons_zero, List.set_cons_succ, List.cons_append, List.nil_append, List.eraseIdx_cons_zero, List.eraseIdx_cons_succ, List.setIfInBounds_toArray, World.size_alloc, selR, List.getD_cons_zero, List.getD_cons_succ] at H)
      clear hb8
      go_wp2
      go_ret
      exact ⟨rfl, H.out.to⟩

end Go.Proofs.Ytnekknemjhlgdaa
