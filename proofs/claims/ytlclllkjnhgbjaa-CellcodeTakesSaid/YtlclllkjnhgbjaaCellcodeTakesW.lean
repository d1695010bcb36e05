/- The walk of law 32's CellcodeTakes. -/
import Derived.Test.YtlclllkjnhgbjaaBv
import Derived.Test.YtlclllkjnhgbjaaBw
import Derived.Test.YtlclllkjnhgbjaaAreK
import Derived.Test.YtlclllkjnhgbjaaAreN
import Derived.Test.YtlclllkjnhgbjaaAskR
namespace Go.Proofs.Ytlclllkjnhgbjaa
open Go.RowKit
set_option linter.unusedVariables false
set_option linter.unusedSimpArgs false


theorem wpList_build0NG {ops : Array Oper} {rest : List Oper} {o : Oper} {a : Act} {w : World} {Q : Exit → Act → World → Prop} (hw : Region.wanted o (yielded ops a.tmps) = true) {t : TypeId} (ho : o.op = .build t #[])
    {v : Value} (hr : ∀ w : World, (Instr.build t #[]).run Try.prog w = .ok v w)
    (h : wpList Try.prog ops Q rest (a.put o.dst v) w) : wpList Try.prog ops Q (o :: rest) a w := by
  refine wpList_step fun K hK => ?_
  rw [if_pos hw]
  unfold Oper.wp execOp
  simp only [ho, List.map_toArray, List.map_nil, Sem.run_bind, hr, Result.andThen_ok, Sem.run_pure]
  exact hK _ _ h
theorem nd_nil_rd (w : World) : Nd.nil.rd w := nd_of_own (holds_ndnil w)
set_option maxRecDepth 100000 in
set_option maxHeartbeats 4000000 in
theorem walkl_cellcodeTakes (w : World) (sh : Shp) (hs : sh.rd w) (s : List UInt8) (hls : s.length ≤ 9223372036854775807) :
    Calls Try.prog 4 #[.agg sh.cs, .string ⟨s.toArray⟩] w fun e w' => e = .returned (.bool true) ∧ Bel w w' := by
  have HSR := Lib.hid (fun w' (hb : Bel w w') => hs.mono hb)
  have HSMA := Lib.hid (fun w' (hb : Bel w w') => smallS_any sh w' (hs.mono hb))
  have HMY := Lib.hid (fun w' (hb : Bel w w') => rmay24_any sh w' (hs.mono hb))
  have hbn : ∀ w : World, (Instr.build 34 #[]).run Try.prog w = .ok (.agg Nd.nil.cs) w := fun _ => by kernel_rfl
  have H := Lib.hid ((SL.start No w).alloc sh.cs 24)
  (try simp only [List.set_cons_zero, List.set_cons_succ, List.cons_append, List.nil_append, List.eraseIdx_cons_zero, List.eraseIdx_cons_succ, List.setIfInBounds_toArray, World.size_alloc, selR, List.getD_cons_zero, List.getD_cons_succ] at H)
  have hcs : sh.cs = #[.slice sh.sz.A sh.sz.n sh.sz.c, .int .i64 sh.ms] := rfl
  have HCS := Lib.hid hcs
  clear hcs hs
  go_enter Try.func4, Try.ntmps4
  go_upto_region 1 with fail
  (try rw [← HCS.out] at *)
  generalize w.heap.size = x at *
  generalize World.alloc w _ = w1 at *
  go_wp2_with ((with_reducible show wpList _ _ _ (⟨some 15, _, _, _, _, _⟩ :: _) _ _); (refine wpList_load_blk rfl rowShp2 (.tmp 2) rfl _ rfl (H.out.blk 0 rfl) rfl ?_))
  refine (HSMA.out _ H.out.to).mono ?_; rintro e w2 ⟨b1, rfl, hb1, hb2⟩
  replace H := Lib.hid (H.out.bel hb2); (try simp only [List.set_cons_zero, List.set_cons_succ, List.cons_append, List.nil_append, List.eraseIdx_cons_zero, List.eraseIdx_cons_succ, List.setIfInBounds_toArray, World.size_alloc, selR, List.getD_cons_zero, List.getD_cons_succ] at H)
  clear hb2 HSMA
  cases b1 with
  | false =>
    go_wp2_with fail
    refine (awake32_any _).mono ?_; rintro e wz ⟨rfl, hbz⟩
    replace H := Lib.hid (H.out.bel hbz)
    go_wp2_with fail
    go_ret
    exact ⟨rfl, H.out.to⟩
  | true =>
  have hsm := hb1 rfl
  have HSM := Lib.hid hsm
  clear hb1 hsm
  by_cases hl2000 : 2000 < s.length
  · have d1 : decide ((2000 : Int) < (s.length : Int)) = true := by simp <;> omega
    have d1n : decide (2000 < s.length) = true := by simp <;> omega
    clear hl2000
    go_wp2_with fail
    refine (awake32_any _).mono ?_; rintro e wz ⟨rfl, hbz⟩
    replace H := Lib.hid (H.out.bel hbz)
    go_wp2_with fail
    go_ret
    exact ⟨rfl, H.out.to⟩
  have d1 : decide ((2000 : Int) < (s.length : Int)) = false := by simp <;> omega
  have d1n : decide (2000 < s.length) = false := by simp <;> omega
  have HTK := Lib.hid (fun w' (hb : Bel w w') => celtake_any sh s w' (HSR.out w' hb) (by omega) HSM.out)
  have HSZ := Lib.hid (fun w' => csize_any s w' (by omega))
  have HRZ := Lib.hid (fun w' => rcsize_any s w' (by omega))
  have HRT := Lib.hid (fun w' (hb : Bel w w') (h : shapeOk sh.con sh.ms = true) => rceltake_any sh s w' (HSR.out w' hb) (by omega) h)
  go_wp2_with ((with_reducible show wpList _ _ _ (⟨some 25, _, _, _, _, _⟩ :: _) _ _); (refine wpList_load_blk rfl rowShp2 (.tmp 2) rfl _ rfl (H.out.blk 0 rfl) rfl ?_))
  clear d1 d1n hl2000 hls
  refine (HTK.out _ H.out.to).mono ?_; rintro e w3 ⟨D, rfl, hDc, hb3, hnew⟩
  replace H := Lib.hid (H.out.add hb3 (rNd D) hnew.1 hnew.2); (try simp only [List.set_cons_zero, List.set_cons_succ, List.cons_append, List.nil_append, List.eraseIdx_cons_zero, List.eraseIdx_cons_succ, List.setIfInBounds_toArray, World.size_alloc, selR, List.getD_cons_zero, List.getD_cons_succ] at H)
  clear hb3 hnew HTK
  obtain ⟨O, hO⟩ : ∃ O, O = nodeTake sh.con sh.ms s := ⟨_, rfl⟩
  obtain ⟨Z, hZ⟩ : ∃ Z, Z = nodeSize s := ⟨_, rfl⟩
  rw [← hO] at hDc HRT ⊢
  rw [← hZ] at HSZ HRZ
  clear hO hZ
  obtain ⟨c, hc⟩ : ∃ c : NC, c = ((O.map Prod.fst).getD .nil) := ⟨_, rfl⟩
  rw [← hc] at hDc
  have HDc := Lib.hid hDc
  have HC := Lib.hid hc
  clear hc hDc
  obtain ⟨zo, hzo⟩ : ∃ zo : Int, zo = szN (O.map Prod.snd) := ⟨_, rfl⟩
  obtain ⟨eo, heo⟩ : ∃ eo : Int, eo = szErr (O.map Prod.snd) := ⟨_, rfl⟩
  obtain ⟨zz, hzz⟩ : ∃ zz : Int, zz = szN Z := ⟨_, rfl⟩
  rw [← hzo, ← heo]
  rw [← hzz] at HSZ HRZ
  have HZO := Lib.hid hzo
  have HEO := Lib.hid heo
  clear hzo heo hzz
  go_upto_region 4 with ((with_reducible show wpList _ _ _ (⟨_, .store _ (.tmp 5) _, _, _, _, _⟩ :: _) _ _); (refine wpList_store_new rfl rowNd (.tmp 5) (.tmp 28) rfl rfl rfl (D.cs) rfl rfl (nd_one D) ?_; replace H := Lib.hid (H.out.alloc (D.cs) 34); (try simp only [List.set_cons_zero, List.set_cons_succ, List.cons_append, List.nil_append, List.eraseIdx_cons_zero, List.eraseIdx_cons_succ, List.setIfInBounds_toArray, World.size_alloc, selR, List.getD_cons_zero, List.getD_cons_succ] at H)))
  (try simp only [Act.put, List.setIfInBounds_toArray, List.set_cons_zero, List.set_cons_succ])
  generalize w3.heap.size = dd at *
  generalize World.alloc w3 _ = w4 at *
  go_wp2_with fail
  refine (HSZ.out _).mono ?_; rintro e w5 ⟨rfl, hb5⟩
  replace H := Lib.hid (H.out.bel hb5); (try simp only [List.set_cons_zero, List.set_cons_succ, List.cons_append, List.nil_append, List.eraseIdx_cons_zero, List.eraseIdx_cons_succ, List.setIfInBounds_toArray, World.size_alloc, selR, List.getD_cons_zero, List.getD_cons_succ] at H)
  go_wp2_with fail
  refine (HRZ.out _).mono ?_; rintro e w6 ⟨rfl, hb6⟩
  replace H := Lib.hid (H.out.bel hb6); (try simp only [List.set_cons_zero, List.set_cons_succ, List.cons_append, List.nil_append, List.eraseIdx_cons_zero, List.eraseIdx_cons_succ, List.setIfInBounds_toArray, World.size_alloc, selR, List.getD_cons_zero, List.getD_cons_succ] at H)
  clear hb5 hb6 HSZ HRZ
  have HZZ : Hid (szErr Z = 0 ∧ szOk Z = true ∨ szErr Z = 15 ∧ szOk Z = false) := by
    show _ ∨ _
    cases Z with
    | none => exact .inr ⟨rfl, rfl⟩
    | some z => exact .inl ⟨rfl, rfl⟩
  have HOO : Hid (eo = 0 ∧ O.isSome = true ∨ eo = 15 ∧ zo = 0 ∧ O.isSome = false ∧ c = .nil) := by
    show _ ∨ _
    rw [HEO.out, HZO.out, HC.out]
    cases O with
    | none => exact .inr ⟨rfl, rfl, rfl, rfl⟩
    | some z => exact .inl ⟨rfl, rfl⟩
  generalize szErr Z = ez at *
  generalize szOk Z = oz at *
  clear HEO
  rcases HZZ.out with ⟨rfl, rfl⟩ | ⟨rfl, rfl⟩
  · clear HZZ
    go_wp2_with ((with_reducible show wpList _ _ _ (⟨some 58, _, _, _, _, _⟩ :: _) _ _); (refine wpList_load_blk rfl rowShp2 (.tmp 2) rfl _ rfl (H.out.blk 0 rfl) rfl ?_))
    refine (HMY.out _ H.out.to).mono ?_; rintro e w7 ⟨rfl, hb7⟩
    replace H := Lib.hid (H.out.bel hb7); (try simp only [List.set_cons_zero, List.set_cons_succ, List.cons_append, List.nil_append, List.eraseIdx_cons_zero, List.eraseIdx_cons_succ, List.setIfInBounds_toArray, World.size_alloc, selR, List.getD_cons_zero, List.getD_cons_succ] at H)
    clear hb7 HMY
    cases hok : shapeOk sh.con sh.ms with
    | false =>
      clear hok
      rcases HOO.out with ⟨rfl, h2⟩ | ⟨rfl, rfl, h2, h3⟩
      · clear h2 HOO
        go_wp2_with fail
        refine (awake32_any _).mono ?_; rintro e wz ⟨rfl, hbz⟩
        replace H := Lib.hid (H.out.bel hbz)
        go_wp2_with fail
        go_ret
        exact ⟨rfl, H.out.to⟩
      · have HDN : Hid (D.con = Nd.nil.con) := HDc.out.trans h3
        clear h2 h3 HOO
        go_wp2_with (first | ((with_reducible show wpList _ _ _ (⟨some 71, _, _, _, _, _⟩ :: _) _ _); refine wpList_load_blkG (by first | rfl | go_simp) rowNd (.tmp 5) (by rfl) _ (by rfl) (H.out.blk 2 rfl) rfl ?_) | ((with_reducible show wpList _ _ _ (⟨some 72, _, _, _, _, _⟩ :: _) _ _); refine wpList_build0NG (by first | rfl | go_simp) rfl hbn ?_))
        refine (rsame24_any D Nd.nil _ (nd_of_own (H.out.get 1 rfl)) (nd_nil_rd _) HDN.out).mono ?_; rintro e w8 ⟨rfl, hb8⟩
        replace H := Lib.hid (H.out.bel hb8); (try simp only [List.set_cons_zero, List.set_cons_succ, List.cons_append, List.nil_append, List.eraseIdx_cons_zero, List.eraseIdx_cons_succ, List.setIfInBounds_toArray, World.size_alloc, selR, List.getD_cons_zero, List.getD_cons_succ] at H)
        go_wp2_with fail
        refine (awake32_any _).mono ?_; rintro e wz ⟨rfl, hbz⟩
        replace H := Lib.hid (H.out.bel hbz)
        go_wp2_with fail
        go_ret
        exact ⟨rfl, H.out.to⟩
    | true =>
    go_wp2_with ((with_reducible show wpList _ _ _ (⟨some 80, _, _, _, _, _⟩ :: _) _ _); (refine wpList_load_blk rfl rowShp2 (.tmp 2) rfl _ rfl (H.out.blk 0 rfl) rfl ?_))
    refine (HRT.out _ H.out.to hok).mono ?_; rintro e w8 ⟨U, rfl, hUc, hb8, hnew⟩
    replace H := Lib.hid (H.out.add hb8 (rNd U) hnew.1 hnew.2); (try simp only [List.set_cons_zero, List.set_cons_succ, List.cons_append, List.nil_append, List.eraseIdx_cons_zero, List.eraseIdx_cons_succ, List.setIfInBounds_toArray, World.size_alloc, selR, List.getD_cons_zero, List.getD_cons_succ] at H)
    have HUc : Hid (D.con = U.con) := by show _ = _; rw [HDc.out, hUc, HC.out]
    rw [← HZO.out]
    clear hUc hb8 hnew HRT hok
    go_upto_region 11 with ((with_reducible show wpList _ _ _ (⟨_, .store _ (.tmp 12) _, _, _, _, _⟩ :: _) _ _); (refine wpList_store_new rfl rowNd (.tmp 12) (.tmp 83) rfl rfl rfl (U.cs) rfl rfl (nd_one U) ?_; replace H := Lib.hid (H.out.alloc (U.cs) 34); (try simp only [List.set_cons_zero, List.set_cons_succ, List.cons_append, List.nil_append, List.eraseIdx_cons_zero, List.eraseIdx_cons_succ, List.setIfInBounds_toArray, World.size_alloc, selR, List.getD_cons_zero, List.getD_cons_succ] at H)))
    (try simp only [Act.put, List.setIfInBounds_toArray, List.set_cons_zero, List.set_cons_succ])
    generalize w8.heap.size = uu at *
    generalize World.alloc w8 _ = w9 at *
    go_wp2_with (first | ((with_reducible show wpList _ _ _ (⟨some 86, _, _, _, _, _⟩ :: _) _ _); (refine wpList_load_blk rfl rowNd (.tmp 5) rfl _ rfl (H.out.blk 2 rfl) rfl ?_)) | ((with_reducible show wpList _ _ _ (⟨some 87, _, _, _, _, _⟩ :: _) _ _); (refine wpList_load_blk rfl rowNd (.tmp 12) rfl _ rfl (H.out.blk 4 rfl) rfl ?_)))
    refine (rsame24_any D U _ (nd_of_own (H.out.get 1 rfl)) (nd_of_own (H.out.get 3 rfl)) HUc.out).mono ?_; rintro e w10 ⟨rfl, hb10⟩
    replace H := Lib.hid (H.out.bel hb10); (try simp only [List.set_cons_zero, List.set_cons_succ, List.cons_append, List.nil_append, List.eraseIdx_cons_zero, List.eraseIdx_cons_succ, List.setIfInBounds_toArray, World.size_alloc, selR, List.getD_cons_zero, List.getD_cons_succ] at H)
    clear hb10
    rcases HOO.out with ⟨rfl, h2⟩ | ⟨rfl, rfl, h2, h3⟩
    · rw [h2]
      clear h2 HOO
      go_wp2_with fail
      refine (awake32_any _).mono ?_; rintro e wz ⟨rfl, hbz⟩
      replace H := Lib.hid (H.out.bel hbz)
      go_wp2_with fail
      go_ret
      exact ⟨rfl, H.out.to⟩
    · rw [h2]
      clear h2 h3 HOO
      go_wp2_with fail
      refine (awake32_any _).mono ?_; rintro e wz ⟨rfl, hbz⟩
      replace H := Lib.hid (H.out.bel hbz)
      go_wp2_with fail
      go_ret
      exact ⟨rfl, H.out.to⟩
  · clear HZZ
    go_wp2_with ((with_reducible show wpList _ _ _ (⟨some 58, _, _, _, _, _⟩ :: _) _ _); (refine wpList_load_blk rfl rowShp2 (.tmp 2) rfl _ rfl (H.out.blk 0 rfl) rfl ?_))
    refine (HMY.out _ H.out.to).mono ?_; rintro e w7 ⟨rfl, hb7⟩
    replace H := Lib.hid (H.out.bel hb7); (try simp only [List.set_cons_zero, List.set_cons_succ, List.cons_append, List.nil_append, List.eraseIdx_cons_zero, List.eraseIdx_cons_succ, List.setIfInBounds_toArray, World.size_alloc, selR, List.getD_cons_zero, List.getD_cons_succ] at H)
    clear hb7 HMY
    cases hok : shapeOk sh.con sh.ms with
    | false =>
      clear hok
      rcases HOO.out with ⟨rfl, h2⟩ | ⟨rfl, rfl, h2, h3⟩
      · clear h2 HOO
        go_wp2_with fail
        refine (awake32_any _).mono ?_; rintro e wz ⟨rfl, hbz⟩
        replace H := Lib.hid (H.out.bel hbz)
        go_wp2_with fail
        go_ret
        exact ⟨rfl, H.out.to⟩
      · have HDN : Hid (D.con = Nd.nil.con) := HDc.out.trans h3
        clear h2 h3 HOO
        go_wp2_with (first | ((with_reducible show wpList _ _ _ (⟨some 71, _, _, _, _, _⟩ :: _) _ _); refine wpList_load_blkG (by first | rfl | go_simp) rowNd (.tmp 5) (by rfl) _ (by rfl) (H.out.blk 2 rfl) rfl ?_) | ((with_reducible show wpList _ _ _ (⟨some 72, _, _, _, _, _⟩ :: _) _ _); refine wpList_build0NG (by first | rfl | go_simp) rfl hbn ?_))
        refine (rsame24_any D Nd.nil _ (nd_of_own (H.out.get 1 rfl)) (nd_nil_rd _) HDN.out).mono ?_; rintro e w8 ⟨rfl, hb8⟩
        replace H := Lib.hid (H.out.bel hb8); (try simp only [List.set_cons_zero, List.set_cons_succ, List.cons_append, List.nil_append, List.eraseIdx_cons_zero, List.eraseIdx_cons_succ, List.setIfInBounds_toArray, World.size_alloc, selR, List.getD_cons_zero, List.getD_cons_succ] at H)
        go_wp2_with fail
        refine (awake32_any _).mono ?_; rintro e wz ⟨rfl, hbz⟩
        replace H := Lib.hid (H.out.bel hbz)
        go_wp2_with fail
        go_ret
        exact ⟨rfl, H.out.to⟩
    | true =>
    go_wp2_with ((with_reducible show wpList _ _ _ (⟨some 80, _, _, _, _, _⟩ :: _) _ _); (refine wpList_load_blk rfl rowShp2 (.tmp 2) rfl _ rfl (H.out.blk 0 rfl) rfl ?_))
    refine (HRT.out _ H.out.to hok).mono ?_; rintro e w8 ⟨U, rfl, hUc, hb8, hnew⟩
    replace H := Lib.hid (H.out.add hb8 (rNd U) hnew.1 hnew.2); (try simp only [List.set_cons_zero, List.set_cons_succ, List.cons_append, List.nil_append, List.eraseIdx_cons_zero, List.eraseIdx_cons_succ, List.setIfInBounds_toArray, World.size_alloc, selR, List.getD_cons_zero, List.getD_cons_succ] at H)
    have HUc : Hid (D.con = U.con) := by show _ = _; rw [HDc.out, hUc, HC.out]
    rw [← HZO.out]
    clear hUc hb8 hnew HRT hok
    go_upto_region 11 with ((with_reducible show wpList _ _ _ (⟨_, .store _ (.tmp 12) _, _, _, _, _⟩ :: _) _ _); (refine wpList_store_new rfl rowNd (.tmp 12) (.tmp 83) rfl rfl rfl (U.cs) rfl rfl (nd_one U) ?_; replace H := Lib.hid (H.out.alloc (U.cs) 34); (try simp only [List.set_cons_zero, List.set_cons_succ, List.cons_append, List.nil_append, List.eraseIdx_cons_zero, List.eraseIdx_cons_succ, List.setIfInBounds_toArray, World.size_alloc, selR, List.getD_cons_zero, List.getD_cons_succ] at H)))
    (try simp only [Act.put, List.setIfInBounds_toArray, List.set_cons_zero, List.set_cons_succ])
    generalize w8.heap.size = uu at *
    generalize World.alloc w8 _ = w9 at *
    go_wp2_with (first | ((with_reducible show wpList _ _ _ (⟨some 86, _, _, _, _, _⟩ :: _) _ _); (refine wpList_load_blk rfl rowNd (.tmp 5) rfl _ rfl (H.out.blk 2 rfl) rfl ?_)) | ((with_reducible show wpList _ _ _ (⟨some 87, _, _, _, _, _⟩ :: _) _ _); (refine wpList_load_blk rfl rowNd (.tmp 12) rfl _ rfl (H.out.blk 4 rfl) rfl ?_)))
    refine (rsame24_any D U _ (nd_of_own (H.out.get 1 rfl)) (nd_of_own (H.out.get 3 rfl)) HUc.out).mono ?_; rintro e w10 ⟨rfl, hb10⟩
    replace H := Lib.hid (H.out.bel hb10); (try simp only [List.set_cons_zero, List.set_cons_succ, List.cons_append, List.nil_append, List.eraseIdx_cons_zero, List.eraseIdx_cons_succ, List.setIfInBounds_toArray, World.size_alloc, selR, List.getD_cons_zero, List.getD_cons_succ] at H)
    clear hb10
    rcases HOO.out with ⟨rfl, h2⟩ | ⟨rfl, rfl, h2, h3⟩
    · rw [h2]
      clear h2 HOO
      go_wp2_with fail
      refine (awake32_any _).mono ?_; rintro e wz ⟨rfl, hbz⟩
      replace H := Lib.hid (H.out.bel hbz)
      go_wp2_with fail
      go_ret
      exact ⟨rfl, H.out.to⟩
    · rw [h2]
      clear h2 h3 HOO
      go_wp2_with fail
      refine (awake32_any _).mono ?_; rintro e wz ⟨rfl, hbz⟩
      replace H := Lib.hid (H.out.bel hbz)
      go_wp2_with fail
      go_ret
      exact ⟨rfl, H.out.to⟩

theorem walk_cellcodeTakes (w : World) (sh : Shp) (hs : sh.rd w) (b : ByteArray) (hb : b.size ≤ 9223372036854775807) :
    Calls Try.prog 4 #[.agg sh.cs, .string b] w fun e w' => e = .returned (.bool true) ∧ Bel w w' := by
  obtain ⟨⟨l⟩⟩ := b
  exact walkl_cellcodeTakes w sh hs l (by simpa [ByteArray.size] using hb)

end Go.Proofs.Ytlclllkjnhgbjaa
