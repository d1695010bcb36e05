/- The walk of law 34's StreamNodes. -/
import Derived.Test.YtlclllkjnhgbjaaStrA
import Derived.Test.YtlclllkjnhgbjaaStrB
import Derived.Test.YtlclllkjnhgbjaaCellcodeTakesW
import Derived.Test.YtlclllkjnhgbjaaBf
import Derived.Test.YtlclllkjnhgbjaaBw
namespace Go.Proofs.Ytlclllkjnhgbjaa
open Go.RowKit
set_option linter.unusedVariables false
set_option linter.unusedSimpArgs false


theorem pszF_len : ∀ (f : Nat) (s : List UInt8) (l : List Nat), pszF f s = some l → l.length ≤ s.length
  | 0, s, l, h => by
    rw [pszF] at h
    split at h
    · injection h with h; subst h; simp
    · cases h
  | f + 1, s, l, h => by
    rw [pszF] at h
    split at h
    · injection h with h; subst h; simp
    · cases hz : nodeSize s with
      | none => rw [hz] at h; cases h
      | some z =>
        rw [hz] at h
        have h1 := (nodeSize_pos hz).1
        simp only at h
        split at h
        · cases h
        · rename_i hl
          cases hq : pszF f (s.drop z) with
          | none => rw [hq] at h; cases h
          | some q =>
            rw [hq] at h
            injection h with h
            subst h
            have := pszF_len f _ _ hq
            rw [List.length_drop] at this
            rw [List.length_cons]
            omega
theorem pszL_len (s : List UInt8) : (pszL s).length ≤ s.length := by
  unfold pszL psz
  cases h : pszF s.length s with
  | none => simp
  | some l => exact pszF_len _ _ _ h
set_option maxRecDepth 100000 in
set_option maxHeartbeats 4000000 in
theorem walkl_streamNodes (awake34_any : ∀ w : World, Calls Try.prog 21 #[] w fun e w' => e = .returned (.bool true) ∧ Bel w w') (w : World) (sh : Shp) (hs : sh.rd w) (s : List UInt8) (hls : s.length ≤ 9223372036854775807) (i : Int) (wi : (Lit.int .i64 i).wf = true) :
    Calls Try.prog 5 #[.agg sh.cs, .string ⟨s.toArray⟩, .int .i64 i] w fun e w' => e = .returned (.bool true) ∧ Bel w w' := by
  have h64 : I64 i := bounds_i64 wi
  have i64 := h64
  unfold I64 at i64
  have HSR := Lib.hid (fun w' (hb : Bel w w') => hs.mono hb)
  have HSMA := Lib.hid (fun w' (hb : Bel w w') => smallS_any sh w' (hs.mono hb))
  have HMY := Lib.hid (fun w' (hb : Bel w w') => rmay24_any sh w' (hs.mono hb))
  have hbn : ∀ w : World, (Instr.build 34 #[]).run Try.prog w = .ok (.agg Nd.nil.cs) w := fun _ => by kernel_rfl
  have H := Lib.hid ((SL.start No w).alloc sh.cs 24)
  (try simp only [List.set_cons_zero, List.set_cons_succ, List.cons_append, List.nil_append, List.eraseIdx_cons_zero, List.eraseIdx_cons_succ, List.setIfInBounds_toArray, World.size_alloc, selR, List.getD_cons_zero, List.getD_cons_succ] at H)
  have hcs : sh.cs = #[.slice sh.sz.A sh.sz.n sh.sz.c, .int .i64 sh.ms] := rfl
  have HCS := Lib.hid hcs
  clear hcs hs
  go_enter Try.func5, Try.ntmps5
  go_upto_region 1 with fail
  (try rw [← HCS.out] at *)
  generalize w.heap.size = x at *
  generalize World.alloc w _ = w1 at *
  go_wp2_with ((with_reducible show wpList _ _ _ (⟨some 18, _, _, _, _, _⟩ :: _) _ _); (refine wpList_load_blk rfl rowShp2 (.tmp 3) rfl _ rfl (H.out.blk 0 rfl) rfl ?_))
  refine (HSMA.out _ H.out.to).mono ?_; rintro e w2 ⟨b1, rfl, hb1, hb2⟩
  replace H := Lib.hid (H.out.bel hb2); (try simp only [List.set_cons_zero, List.set_cons_succ, List.cons_append, List.nil_append, List.eraseIdx_cons_zero, List.eraseIdx_cons_succ, List.setIfInBounds_toArray, World.size_alloc, selR, List.getD_cons_zero, List.getD_cons_succ] at H)
  clear hb2 HSMA
  cases b1 with
  | false =>
    go_wp2_with fail
    refine (awake34_any _).mono ?_; rintro e wz ⟨rfl, hbz⟩
    replace H := Lib.hid (H.out.bel hbz)
    go_wp2_with fail
    go_ret
    exact ⟨rfl, H.out.to⟩
  | true =>
  have hsm := hb1 rfl
  have HSM := Lib.hid hsm
  clear hb1 hsm
  go_wp2_with ((with_reducible show wpList _ _ _ (⟨some 22, _, _, _, _, _⟩ :: _) _ _); refine wpList_load_blkG (by first | rfl | go_simp) rowShp2 (.tmp 3) (by rfl) _ (by rfl) (H.out.blk 0 rfl) rfl ?_)
  refine (HMY.out _ H.out.to).mono ?_; rintro e w3 ⟨rfl, hb3⟩
  replace H := Lib.hid (H.out.bel hb3); (try simp only [List.set_cons_zero, List.set_cons_succ, List.cons_append, List.nil_append, List.eraseIdx_cons_zero, List.eraseIdx_cons_succ, List.setIfInBounds_toArray, World.size_alloc, selR, List.getD_cons_zero, List.getD_cons_succ] at H)
  clear hb3 HMY
  cases hok : shapeOk sh.con sh.ms with
  | false =>
    go_wp2_with fail
    refine (awake34_any _).mono ?_; rintro e wz ⟨rfl, hbz⟩
    replace H := Lib.hid (H.out.bel hbz)
    go_wp2_with fail
    go_ret
    exact ⟨rfl, H.out.to⟩
  | true =>
  have HOKS := Lib.hid hok
  clear hok
  by_cases hl1500 : 1500 < s.length
  · have d1 : decide ((1500 : Int) < (s.length : Int)) = true := by simp <;> omega
    have d1n : decide (1500 < s.length) = true := by simp <;> omega
    clear hl1500
    go_wp2_with fail
    refine (awake34_any _).mono ?_; rintro e wz ⟨rfl, hbz⟩
    replace H := Lib.hid (H.out.bel hbz)
    go_wp2_with fail
    go_ret
    exact ⟨rfl, H.out.to⟩
  have d1 : decide ((1500 : Int) < (s.length : Int)) = false := by simp <;> omega
  have d1n : decide (1500 < s.length) = false := by simp <;> omega
  have hsl : s.length ≤ 1500 := by omega
  have HSS := Lib.hid (fun w' => ssizes_any s w' (by omega))
  go_wp2_with ((with_reducible show wpList _ _ _ (⟨some 33, _, _, _, _, _⟩ :: _) _ _); (refine wpList_load_blk rfl rowShp2 (.tmp 3) rfl _ rfl (H.out.blk 0 rfl) rfl ?_))
  clear d1 d1n hl1500 hls
  by_cases hin : 0 ≤ i ∧ i < s.length
  · obtain ⟨k, rfl⟩ : ∃ k : Nat, i = k := ⟨i.toNat, by omega⟩
    have hks : k < s.length := by omega
    have HRT := Lib.hid (fun w' (hb : Bel w w') => rceltake_any sh (s.drop k) w' (HSR.out w' hb) (by rw [List.length_drop]; omega) HOKS.out)
    refine (snode_in sh s k _ (HSR.out _ H.out.to) (by omega) HSM.out hks).mono ?_; rintro e w4 ⟨D, rfl, hDc, hb4, hnew⟩
    replace H := Lib.hid (H.out.add hb4 (rNd D) hnew.1 hnew.2); (try simp only [List.set_cons_zero, List.set_cons_succ, List.cons_append, List.nil_append, List.eraseIdx_cons_zero, List.eraseIdx_cons_succ, List.setIfInBounds_toArray, World.size_alloc, selR, List.getD_cons_zero, List.getD_cons_succ] at H)
    have HDc := Lib.hid hDc
    clear hDc hb4 hnew
    generalize nodeTake sh.con sh.ms (s.drop k) = O at *
    have HOO : Hid (szErr (O.map Prod.snd) = 0 ∧ O.isSome = true ∨ szErr (O.map Prod.snd) = 15 ∧ O.isSome = false) := by
      show _ ∨ _
      cases O with
      | none => exact .inr ⟨rfl, rfl⟩
      | some z => exact .inl ⟨rfl, rfl⟩
    have k0 : (0 : Int) ≤ k := by omega
    have k1 : (k : Int) ≤ s.length := by omega
    have d1 : decide ((k : Int) < 0) = false := by simp
    have d2 : decide ((s.length : Int) ≤ (k : Int)) = false := by simp <;> omega
    have d2n : decide (s.length ≤ k) = false := by simp <;> omega
    have hex : (⟨s.toArray⟩ : ByteArray).extract k s.length = ⟨(s.drop k).toArray⟩ := by rw [str_extract, List.take_of_length_le (by rw [List.length_drop]; exact Nat.le_refl _)]
    clear hin
    go_upto_region 7 with ((with_reducible show wpList _ _ _ (⟨_, .store _ (.tmp 7) _, _, _, _, _⟩ :: _) _ _); (refine wpList_store_new rfl rowNd (.tmp 7) (.tmp 37) rfl rfl rfl (D.cs) rfl rfl (nd_one D) ?_; replace H := Lib.hid (H.out.alloc (D.cs) 34); (try simp only [List.set_cons_zero, List.set_cons_succ, List.cons_append, List.nil_append, List.eraseIdx_cons_zero, List.eraseIdx_cons_succ, List.setIfInBounds_toArray, World.size_alloc, selR, List.getD_cons_zero, List.getD_cons_succ] at H)))
    (try simp only [Act.put, List.setIfInBounds_toArray, List.set_cons_zero, List.set_cons_succ])
    clear d1 d2 d2n
    generalize w4.heap.size = dd at *
    generalize World.alloc w4 _ = w5 at *
    refine wp_region_held_drew (S := fun W => Blk W x 24 sh.cs) (by kernel_rfl) (H.out.blk 0 rfl) (fun hHeld => ?_)
    replace H := Lib.hid (H.out.drew); (try simp only [List.set_cons_zero, List.set_cons_succ, List.cons_append, List.nil_append, List.eraseIdx_cons_zero, List.eraseIdx_cons_succ, List.setIfInBounds_toArray, World.size_alloc, selR, List.getD_cons_zero, List.getD_cons_succ] at H)
    generalize World.drew _ = w8 at *
    refine wpAnyH_take (i := 0) (v := .agg sh.cs) (get_o0) (by kernel_rfl) (by kernel_rfl) (by kernel_rfl) (by exact fun _ _ _ h => h) (yields_blkS rowShp2 (by rfl) (.tmp 3) rfl _ rfl (fun w h => h) rfl) (by assumption) ?_
    try simp only [Act.put, List.setIfInBounds_toArray, List.set_cons_zero, List.set_cons_succ]
    refine wpAnyH_take (i := 1) (v := ?vq22_1) (get_os (get_o0)) (by kernel_rfl) (by kernel_rfl) (by kernel_rfl) (by exact fun _ _ _ h => h) (Or.inl ⟨by rfl, ?hyq22_1⟩) (by assumption) ?_
    case hyq22_1 => (intro w hSw; (try dsimp only at hSw); go_simp) <;> with_reducible rfl
    try simp only [Act.put, List.setIfInBounds_toArray, List.set_cons_zero, List.set_cons_succ]
    refine wpAnyH_take (i := 2) (v := ?vq22_2) (get_os (get_os (get_o0))) (by kernel_rfl) (by kernel_rfl) (by kernel_rfl) (by exact fun _ _ _ h => h) (Or.inl ⟨by rfl, ?hyq22_2⟩) (by assumption) ?_
    case hyq22_2 => (intro w hSw; (try dsimp only at hSw); go_simp) <;> with_reducible rfl
    try simp only [Act.put, List.setIfInBounds_toArray, List.set_cons_zero, List.set_cons_succ]
    refine wpAnyH_take (i := 3) (v := ?vq22_3) (get_os (get_os (get_os (get_o0)))) (by kernel_rfl) (by kernel_rfl) (by kernel_rfl) (by exact fun _ _ _ h => h) (Or.inl ⟨by rfl, ?hyq22_3⟩) (by assumption) ?_
    case hyq22_3 => (intro w hSw; (try dsimp only at hSw); go_simp) <;> with_reducible rfl
    try simp only [Act.put, List.setIfInBounds_toArray, List.set_cons_zero, List.set_cons_succ]
    refine wpAnyH_ready (rs := [4, 9]) (by kernel_rfl) (by simp) ?_
    refine (AllReadyH.cons (get_os (get_os (get_os (get_os (get_o0))))) (fun KK hKK => ?_) (AllReadyH.cons (get_os (get_os (get_os (get_os (get_os (get_os (get_os (get_os (get_os (get_o0)))))))))) (fun KK hKK => ?_) AllReadyH.nil))
    · go_simp
      refine (HRT.out _ H.out.to).mono ?_; rintro e' w6 ⟨U, rfl, hUc, hb6, hnew⟩
      replace H := Lib.hid (H.out.add hb6 (rNd U) hnew.1 hnew.2); (try simp only [List.set_cons_zero, List.set_cons_succ, List.cons_append, List.nil_append, List.eraseIdx_cons_zero, List.eraseIdx_cons_succ, List.setIfInBounds_toArray, World.size_alloc, selR, List.getD_cons_zero, List.getD_cons_succ] at H)
      have HUc : Hid (D.con = U.con) := by show _ = _; rw [HDc.out, hUc]
      clear hUc hb6 hnew
      refine hKK.out _ _ (H.out.blk 0 rfl) (fun hHeld => ?_)
      clear hKK KK
      try simp only [Act.put, List.setIfInBounds_toArray, List.set_cons_zero, List.set_cons_succ]
      refine wpAnyH_take (i := 5) (v := ?vq23_) (get_os (get_os (get_os (get_os (get_os (get_o0)))))) (by kernel_rfl) (by kernel_rfl) (by kernel_rfl) (by exact fun _ _ _ h => h) (Or.inl ⟨by rfl, ?hyq23_⟩) (by assumption) ?_
      case hyq23_ => (intro w hSw; (try dsimp only at hSw); go_simp) <;> with_reducible rfl
      try simp only [Act.put, List.setIfInBounds_toArray, List.set_cons_zero, List.set_cons_succ]
      refine wpAnyH_take (i := 6) (v := ?vq24_) (get_os (get_os (get_os (get_os (get_os (get_os (get_o0))))))) (by kernel_rfl) (by kernel_rfl) (by kernel_rfl) (by exact fun _ _ _ h => h) (Or.inl ⟨by rfl, ?hyq24_⟩) (by assumption) ?_
      case hyq24_ => (intro w hSw; (try dsimp only at hSw); go_simp) <;> with_reducible rfl
      try simp only [Act.put, List.setIfInBounds_toArray, List.set_cons_zero, List.set_cons_succ]
      refine wpAnyH_take (i := 7) (v := ?vq25_) (get_os (get_os (get_os (get_os (get_os (get_os (get_os (get_o0)))))))) (by kernel_rfl) (by kernel_rfl) (by kernel_rfl) (by exact fun _ _ _ h => h) (Or.inl ⟨by rfl, ?hyq25_⟩) (by assumption) ?_
      case hyq25_ => (intro w hSw; (try dsimp only at hSw); go_simp) <;> with_reducible rfl
      try simp only [Act.put, List.setIfInBounds_toArray, List.set_cons_zero, List.set_cons_succ]
      refine wpAnyH_take (i := 8) (v := ?vq26_) (get_os (get_os (get_os (get_os (get_os (get_os (get_os (get_os (get_o0))))))))) (by kernel_rfl) (by kernel_rfl) (by kernel_rfl) (by exact fun _ _ _ h => h) (Or.inl ⟨by rfl, ?hyq26_⟩) (by assumption) ?_
      case hyq26_ => (intro w hSw; (try dsimp only at hSw); go_simp) <;> with_reducible rfl
      try simp only [Act.put, List.setIfInBounds_toArray, List.set_cons_zero, List.set_cons_succ]
      refine wpAnyH_ready (rs := [9]) (by kernel_rfl) (by simp) ?_
      refine (AllReadyH.cons (get_os (get_os (get_os (get_os (get_os (get_os (get_os (get_os (get_os (get_o0)))))))))) (fun KK hKK => ?_) AllReadyH.nil)
      go_simp
      replace H := Lib.hid (H.out.alloc #[.int .i64 0, .slice none 0 0, .int .i64 0, .int .i64 0, .int .i64 0, .int .i64 0, .int .i64 0, .int .i64 0, .int .i64 0, .int .i64 0, .int .i64 0, .int .i64 0, .int .i64 0, .int .i64 0] 34); (try simp only [List.set_cons_zero, List.set_cons_succ, List.cons_append, List.nil_append, List.eraseIdx_cons_zero, List.eraseIdx_cons_succ, List.setIfInBounds_toArray, World.size_alloc, selR, List.getD_cons_zero, List.getD_cons_succ] at H)
      generalize w6.heap.size = u at *
      generalize World.alloc w6 _ = w7 at *
      refine hKK.out _ _ (H.out.blk 0 rfl) (fun hHeld => ?_)
      clear hKK KK
      try simp only [Act.put, List.setIfInBounds_toArray, List.set_cons_zero, List.set_cons_succ]
      refine wpAnyH_ready (rs := [10]) (by kernel_rfl) (by simp) ?_
      refine (AllReadyH.cons (get_ot (get_o0)) (fun KK hKK => ?_) AllReadyH.nil)
      refine step_store_blkA rfl rowNd (.tmp 9) (.tmp 61) rfl _ rfl (H.out.blk 4 rfl) rfl (U.cs) rfl rfl (nd_one U) ?_
      intro wq bq hgq
      replace H := Lib.hid (H.out.setBlk 4 rfl hgq bq); (try simp only [List.set_cons_zero, List.set_cons_succ, List.cons_append, List.nil_append, List.eraseIdx_cons_zero, List.eraseIdx_cons_succ, List.setIfInBounds_toArray, World.size_alloc, selR, List.getD_cons_zero, List.getD_cons_succ] at H)
      clear hgq bq
      refine hKK.out _ _ (H.out.blk 0 rfl) (fun hHeld => ?_)
      clear hKK KK
      try simp only [Act.put, List.setIfInBounds_toArray, List.set_cons_zero, List.set_cons_succ]
      refine wpAnyH_take (i := 11) (v := ?vq27_) (get_ot (get_os (get_o0))) (by kernel_rfl) (by kernel_rfl) (by kernel_rfl) (by exact fun _ _ _ h => h) (Or.inl ⟨by rfl, ?hyq27_⟩) (by assumption) ?_
      case hyq27_ => (intro w hSw; (try dsimp only at hSw); go_simp) <;> with_reducible rfl
      try simp only [Act.put, List.setIfInBounds_toArray, List.set_cons_zero, List.set_cons_succ]
      refine wpAnyH_take (i := 12) (v := ?vq28_) (get_ot (get_os (get_os (get_o0)))) (by kernel_rfl) (by kernel_rfl) (by kernel_rfl) (by exact fun _ _ _ h => h) (Or.inl ⟨by rfl, ?hyq28_⟩) (by assumption) ?_
      case hyq28_ => (intro w hSw; (try dsimp only at hSw); go_simp) <;> with_reducible rfl
      try simp only [Act.put, List.setIfInBounds_toArray, List.set_cons_zero, List.set_cons_succ]
      refine wpAnyH_done (by kernel_rfl) ?_ _
      clear hHeld
      go_wp2_with (first | ((with_reducible show wpList _ _ _ (⟨some 64, _, _, _, _, _⟩ :: _) _ _); (refine wpList_load_blk rfl rowNd (.tmp 7) rfl _ rfl (H.out.blk 2 rfl) rfl ?_)) | ((with_reducible show wpList _ _ _ (⟨some 65, _, _, _, _, _⟩ :: _) _ _); (refine wpList_load_blk rfl rowNd (.tmp 9) rfl _ rfl (H.out.blk 4 rfl) rfl ?_)))
      refine (rsame24_any D U _ (nd_of_own (H.out.get 1 rfl)) (nd_of_own (H.out.get 3 rfl)) HUc.out).mono ?_; rintro e w10 ⟨rfl, hb10⟩
      replace H := Lib.hid (H.out.bel hb10); (try simp only [List.set_cons_zero, List.set_cons_succ, List.cons_append, List.nil_append, List.eraseIdx_cons_zero, List.eraseIdx_cons_succ, List.setIfInBounds_toArray, World.size_alloc, selR, List.getD_cons_zero, List.getD_cons_succ] at H)
      clear hb10 hex k0 k1
      rcases HOO.out with ⟨h1, h2⟩ | ⟨h1, h2⟩
      · rw [h1, h2]
        clear h1 h2 HOO
        go_upto_region 10 with fail
        replace H := Lib.hid (H.out.sel [0] (by decide) (by simp)); (try simp only [List.set_cons_zero, List.set_cons_succ, List.cons_append, List.nil_append, List.eraseIdx_cons_zero, List.eraseIdx_cons_succ, List.setIfInBounds_toArray, World.size_alloc, selR, List.getD_cons_zero, List.getD_cons_succ] at H)
        go_wp2_with fail
        refine (HSS.out _).mono ?_; rintro e w7 ⟨A0, c0, rfl, hb7, ho7⟩
        replace H := Lib.hid ((H.out.addRow hb7 ho7).addNil 3 1); (try simp only [List.set_cons_zero, List.set_cons_succ, List.cons_append, List.nil_append, List.eraseIdx_cons_zero, List.eraseIdx_cons_succ, List.setIfInBounds_toArray, World.size_alloc, selR, List.getD_cons_zero, List.getD_cons_succ] at H)
        clear hb7 ho7 HSS
        have HP : Hid (psz s = (psz (s.drop 0)).map ([] ++ ·)) := by show _ = _; rw [List.drop_zero]; cases psz s <;> rfl
        have hpl := pszL_len s
        go_upto_region 13 with fail
        go_loopg [14, 15] s.length (fun gg s14 s15 wr => ∃ (acc : List Nat) (k : Nat) (A : Option Addr) (c : Nat), gg = s.length - k ∧ k ≤ s.length ∧ s14 = .slice A acc.length c ∧ s15 = .int .i64 k ∧ acc.length ≤ k ∧ Hid (psz s = (psz (s.drop k)).map (acc ++ ·)) ∧ Hid (SL No w wr [rBlk x 24 sh.cs, rRow 3 1 (.slice A0 (pszL s).length c0) (pszL s).length (vNat (pszL s)), rRow 3 1 (.slice A acc.length c) acc.length (vNat acc)]))
        case atStart => exact ⟨[], 0, none, 0, rfl, by omega, rfl, rfl, by simp, HP, H⟩
        case round =>
          clear H HP
          obtain ⟨acc, k, A, c, hgk, hk, rfl, rfl, hal, HP, H⟩ := hrel
          have Hgk := Lib.hid hgk
          clear hgk
          by_cases hlt : k < s.length
          · have hne : s.drop k ≠ [] := fun e => by have := congrArg List.length e; rw [List.length_drop, List.length_nil] at this; omega
            have hex : (⟨s.toArray⟩ : ByteArray).extract k s.length = ⟨(s.drop k).toArray⟩ := by rw [str_extract, List.take_of_length_le (by rw [List.length_drop]; exact Nat.le_refl _)]
            have HSZ := Lib.hid (fun w' => rcsize_any (s.drop k) w' (by rw [List.length_drop]; omega))
            have d1 : decide ((k : Int) < (s.length : Int)) = true := by simp <;> omega
            have d1n : decide (k < s.length) = true := by simp <;> omega
            have k0 : (0 : Int) ≤ k := by omega
            have k1 : (k : Int) ≤ s.length := by omega
            go_wp2_with fail
            refine (HSZ.out _).mono ?_; rintro e w8 ⟨rfl, hb8⟩
            replace H := Lib.hid (H.out.bel hb8); (try simp only [List.set_cons_zero, List.set_cons_succ, List.cons_append, List.nil_append, List.eraseIdx_cons_zero, List.eraseIdx_cons_succ, List.setIfInBounds_toArray, World.size_alloc, selR, List.getD_cons_zero, List.getD_cons_succ] at H)
            clear hb8 HSZ d1 d1n hex
            cases hz : nodeSize (s.drop k) with
            | none =>
              have HL : Hid (psz s = none) := by show _ = _; rw [HP.out, psz_none hne hz]; rfl
              have HLL : Hid ((pszL s).length = 0) := by show ((psz s).getD []).length = _; rw [HL.out]; rfl
              have HLE : Hid (pszErr s = 15) := by show (if _ then _ else _) = _; rw [HL.out]; rfl
              rw [show szN none = 0 from rfl, show szOk none = false from rfl]
              rw [HLL.out, HLE.out]
              clear hz
              go_wp2_with fail
              refine (awake34_any _).mono ?_; rintro e wz ⟨rfl, hbz⟩
              replace H := Lib.hid (H.out.bel hbz)
              go_wp2_with fail
              go_ret
              exact ⟨rfl, H.out.to⟩
            | some z =>
              rw [show szOk (some z) = true from rfl, show szN (some z) = (z : Nat) from rfl]
              by_cases hzl : (s.drop k).length < z
              · have HL : Hid (psz s = none) := by show _ = _; rw [HP.out, psz_short hne hz hzl]; rfl
                have HLL : Hid ((pszL s).length = 0) := by show ((psz s).getD []).length = _; rw [HL.out]; rfl
                have HLE : Hid (pszErr s = 15) := by show (if _ then _ else _) = _; rw [HL.out]; rfl
                rw [List.length_drop] at hzl
                have d1 : decide ((s.length : Int) - (k : Int) < (z : Int)) = true := by simp <;> omega
                rw [HLL.out, HLE.out]
                clear hz hzl
                go_wp2_with fail
                refine (awake34_any _).mono ?_; rintro e wz ⟨rfl, hbz⟩
                replace H := Lib.hid (H.out.bel hbz)
                go_wp2_with fail
                go_ret
                exact ⟨rfl, H.out.to⟩
              have HP2 : Hid (psz s = (psz (s.drop (k + z))).map ((acc ++ [z]) ++ ·)) := by show _ = _; rw [HP.out, psz_step hne hz (by omega), map_app, List.drop_drop]
              have hz1 := (nodeSize_pos hz).1
              have hz2 : k + z ≤ s.length := by rw [List.length_drop] at hzl; omega
              have d1 : decide ((s.length : Int) - (k : Int) < (z : Int)) = false := by simp <;> omega
              clear hz hzl HP
              go_upto_region 17 with fail
              clear d1
              go_wp2_with ((with_reducible show wpList _ _ _ (⟨some 121, _, _, _, _, _⟩ :: _) _ _); (replace H := Lib.hid (H.out.alloc #[.int .i64 z] 3); (try simp only [List.set_cons_zero, List.set_cons_succ, List.cons_append, List.nil_append, List.eraseIdx_cons_zero, List.eraseIdx_cons_succ, List.setIfInBounds_toArray, World.size_alloc, selR, List.getD_cons_zero, List.getD_cons_succ] at H); refine wpList_append0 rfl (.tmp 118) (.tmp 120) _ rfl E_num 0 (Nat.zero_le _) _ acc.length _ rfl (H.out.row 2 rfl) _ 1 1 [.int .i64 z] rfl (reads_of_block (H.out.blk 3 rfl) rfl) (by simp [Value.oneCell']) (by unfold maxLen; omega) (by omega) ?_; intro vq wq howq hgq hatq; replace H := Lib.hid (H.out.setRow 2 rfl hgq howq hatq); (try simp only [List.set_cons_zero, List.set_cons_succ, List.cons_append, List.nil_append, List.eraseIdx_cons_zero, List.eraseIdx_cons_succ, List.setIfInBounds_toArray, World.size_alloc, selR, List.getD_cons_zero, List.getD_cons_succ] at H); clear howq hgq hatq; obtain ⟨A2, c2, rfl, _⟩ := own_slice (H.out.row 2 rfl)))
              replace H := Lib.hid (H.out.sel [0, 1, 2] (by decide) (by simp)); (try simp only [List.set_cons_zero, List.set_cons_succ, List.cons_append, List.nil_append, List.eraseIdx_cons_zero, List.eraseIdx_cons_succ, List.setIfInBounds_toArray, World.size_alloc, selR, List.getD_cons_zero, List.getD_cons_succ] at H)
              have HN2 : Hid (acc.length + 1 = (acc ++ [z]).length) := by show _ = _; rw [List.length_append]; rfl
              have HV2 : Hid (vNat acc ++ [Value.int .i64 z] = vNat (acc ++ [z])) := by show _ = _; simp [vNat]
              rw [HN2.out, HV2.out] at H
              rw [HN2.out]
              go_roundg (s.length - (k + z))
              case rel => exact ⟨acc ++ [z], k + z, A2, c2, rfl, hz2, rfl, by go_num, by rw [List.length_append]; show acc.length + 1 ≤ _; omega, HP2, H⟩
              case measure => rw [Hgk.out]; omega
          · obtain rfl : k = s.length := by omega
            have HL : Hid (psz s = some acc) := by show _ = _; rw [HP.out, List.drop_length, psz_nil]; simp
            have HLL : Hid (pszL s = acc) := by show (psz s).getD [] = _; rw [HL.out]; rfl
            have HLE : Hid (pszErr s = 0) := by show (if _ then _ else _) = _; rw [HL.out]; rfl
            have HI : Hid (∀ W, SL No w W [rBlk x 24 sh.cs, rRow 3 1 (.slice A0 (pszL s).length c0) (pszL s).length (vNat (pszL s)), rRow 3 1 (.slice A acc.length c) acc.length (vNat acc)] → Calls Try.prog 24 #[.slice A0 (pszL s).length c0, .slice A acc.length c] W fun e w' => e = .returned (.bool (acc.map (Int.ofNat) == acc.map Int.ofNat)) ∧ Bel W w') := fun W h => by
              have h1 := Rd.of_own (size := 1) (e := 3) (h.row 1 rfl)
              have h2 := Rd.of_own (size := 1) (e := 3) (h.row 2 rfl)
              have hm : ∀ l : List Nat, vNat l = (l.map Int.ofNat).map (Value.int .i64) := fun l => by rw [List.map_map]; rfl
              rw [hm] at h1 h2
              have h3 := ints_any A0 _ c0 _ A _ c _ W h1 h2 (by omega) (by omega)
              rw [HLL.out] at h3 ⊢
              exact h3
            have d1 : decide ((s.length : Int) < (s.length : Int)) = false := by simp
            rw [HLE.out]
            go_wp2_with fail
            refine (HI.out _ H.out).mono ?_; rintro e w9 ⟨rfl, hb9⟩
            replace H := Lib.hid (H.out.bel hb9); (try simp only [List.set_cons_zero, List.set_cons_succ, List.cons_append, List.nil_append, List.eraseIdx_cons_zero, List.eraseIdx_cons_succ, List.setIfInBounds_toArray, World.size_alloc, selR, List.getD_cons_zero, List.getD_cons_succ] at H)
            rw [beq_self_eq_true]
            go_wp2_with fail
            refine (awake34_any _).mono ?_; rintro e wz ⟨rfl, hbz⟩
            replace H := Lib.hid (H.out.bel hbz)
            go_wp2_with fail
            go_ret
            exact ⟨rfl, H.out.to⟩
      · rw [h1, h2]
        clear h1 h2 HOO
        go_upto_region 10 with fail
        replace H := Lib.hid (H.out.sel [0] (by decide) (by simp)); (try simp only [List.set_cons_zero, List.set_cons_succ, List.cons_append, List.nil_append, List.eraseIdx_cons_zero, List.eraseIdx_cons_succ, List.setIfInBounds_toArray, World.size_alloc, selR, List.getD_cons_zero, List.getD_cons_succ] at H)
        go_wp2_with fail
        refine (HSS.out _).mono ?_; rintro e w7 ⟨A0, c0, rfl, hb7, ho7⟩
        replace H := Lib.hid ((H.out.addRow hb7 ho7).addNil 3 1); (try simp only [List.set_cons_zero, List.set_cons_succ, List.cons_append, List.nil_append, List.eraseIdx_cons_zero, List.eraseIdx_cons_succ, List.setIfInBounds_toArray, World.size_alloc, selR, List.getD_cons_zero, List.getD_cons_succ] at H)
        clear hb7 ho7 HSS
        have HP : Hid (psz s = (psz (s.drop 0)).map ([] ++ ·)) := by show _ = _; rw [List.drop_zero]; cases psz s <;> rfl
        have hpl := pszL_len s
        go_upto_region 13 with fail
        go_loopg [14, 15] s.length (fun gg s14 s15 wr => ∃ (acc : List Nat) (k : Nat) (A : Option Addr) (c : Nat), gg = s.length - k ∧ k ≤ s.length ∧ s14 = .slice A acc.length c ∧ s15 = .int .i64 k ∧ acc.length ≤ k ∧ Hid (psz s = (psz (s.drop k)).map (acc ++ ·)) ∧ Hid (SL No w wr [rBlk x 24 sh.cs, rRow 3 1 (.slice A0 (pszL s).length c0) (pszL s).length (vNat (pszL s)), rRow 3 1 (.slice A acc.length c) acc.length (vNat acc)]))
        case atStart => exact ⟨[], 0, none, 0, rfl, by omega, rfl, rfl, by simp, HP, H⟩
        case round =>
          clear H HP
          obtain ⟨acc, k, A, c, hgk, hk, rfl, rfl, hal, HP, H⟩ := hrel
          have Hgk := Lib.hid hgk
          clear hgk
          by_cases hlt : k < s.length
          · have hne : s.drop k ≠ [] := fun e => by have := congrArg List.length e; rw [List.length_drop, List.length_nil] at this; omega
            have hex : (⟨s.toArray⟩ : ByteArray).extract k s.length = ⟨(s.drop k).toArray⟩ := by rw [str_extract, List.take_of_length_le (by rw [List.length_drop]; exact Nat.le_refl _)]
            have HSZ := Lib.hid (fun w' => rcsize_any (s.drop k) w' (by rw [List.length_drop]; omega))
            have d1 : decide ((k : Int) < (s.length : Int)) = true := by simp <;> omega
            have d1n : decide (k < s.length) = true := by simp <;> omega
            have k0 : (0 : Int) ≤ k := by omega
            have k1 : (k : Int) ≤ s.length := by omega
            go_wp2_with fail
            refine (HSZ.out _).mono ?_; rintro e w8 ⟨rfl, hb8⟩
            replace H := Lib.hid (H.out.bel hb8); (try simp only [List.set_cons_zero, List.set_cons_succ, List.cons_append, List.nil_append, List.eraseIdx_cons_zero, List.eraseIdx_cons_succ, List.setIfInBounds_toArray, World.size_alloc, selR, List.getD_cons_zero, List.getD_cons_succ] at H)
            clear hb8 HSZ d1 d1n hex
            cases hz : nodeSize (s.drop k) with
            | none =>
              have HL : Hid (psz s = none) := by show _ = _; rw [HP.out, psz_none hne hz]; rfl
              have HLL : Hid ((pszL s).length = 0) := by show ((psz s).getD []).length = _; rw [HL.out]; rfl
              have HLE : Hid (pszErr s = 15) := by show (if _ then _ else _) = _; rw [HL.out]; rfl
              rw [show szN none = 0 from rfl, show szOk none = false from rfl]
              rw [HLL.out, HLE.out]
              clear hz
              go_wp2_with fail
              refine (awake34_any _).mono ?_; rintro e wz ⟨rfl, hbz⟩
              replace H := Lib.hid (H.out.bel hbz)
              go_wp2_with fail
              go_ret
              exact ⟨rfl, H.out.to⟩
            | some z =>
              rw [show szOk (some z) = true from rfl, show szN (some z) = (z : Nat) from rfl]
              by_cases hzl : (s.drop k).length < z
              · have HL : Hid (psz s = none) := by show _ = _; rw [HP.out, psz_short hne hz hzl]; rfl
                have HLL : Hid ((pszL s).length = 0) := by show ((psz s).getD []).length = _; rw [HL.out]; rfl
                have HLE : Hid (pszErr s = 15) := by show (if _ then _ else _) = _; rw [HL.out]; rfl
                rw [List.length_drop] at hzl
                have d1 : decide ((s.length : Int) - (k : Int) < (z : Int)) = true := by simp <;> omega
                rw [HLL.out, HLE.out]
                clear hz hzl
                go_wp2_with fail
                refine (awake34_any _).mono ?_; rintro e wz ⟨rfl, hbz⟩
                replace H := Lib.hid (H.out.bel hbz)
                go_wp2_with fail
                go_ret
                exact ⟨rfl, H.out.to⟩
              have HP2 : Hid (psz s = (psz (s.drop (k + z))).map ((acc ++ [z]) ++ ·)) := by show _ = _; rw [HP.out, psz_step hne hz (by omega), map_app, List.drop_drop]
              have hz1 := (nodeSize_pos hz).1
              have hz2 : k + z ≤ s.length := by rw [List.length_drop] at hzl; omega
              have d1 : decide ((s.length : Int) - (k : Int) < (z : Int)) = false := by simp <;> omega
              clear hz hzl HP
              go_upto_region 17 with fail
              clear d1
              go_wp2_with ((with_reducible show wpList _ _ _ (⟨some 121, _, _, _, _, _⟩ :: _) _ _); (replace H := Lib.hid (H.out.alloc #[.int .i64 z] 3); (try simp only [List.set_cons_zero, List.set_cons_succ, List.cons_append, List.nil_append, List.eraseIdx_cons_zero, List.eraseIdx_cons_succ, List.setIfInBounds_toArray, World.size_alloc, selR, List.getD_cons_zero, List.getD_cons_succ] at H); refine wpList_append0 rfl (.tmp 118) (.tmp 120) _ rfl E_num 0 (Nat.zero_le _) _ acc.length _ rfl (H.out.row 2 rfl) _ 1 1 [.int .i64 z] rfl (reads_of_block (H.out.blk 3 rfl) rfl) (by simp [Value.oneCell']) (by unfold maxLen; omega) (by omega) ?_; intro vq wq howq hgq hatq; replace H := Lib.hid (H.out.setRow 2 rfl hgq howq hatq); (try simp only [List.set_cons_zero, List.set_cons_succ, List.cons_append, List.nil_append, List.eraseIdx_cons_zero, List.eraseIdx_cons_succ, List.setIfInBounds_toArray, World.size_alloc, selR, List.getD_cons_zero, List.getD_cons_succ] at H); clear howq hgq hatq; obtain ⟨A2, c2, rfl, _⟩ := own_slice (H.out.row 2 rfl)))
              replace H := Lib.hid (H.out.sel [0, 1, 2] (by decide) (by simp)); (try simp only [List.set_cons_zero, List.set_cons_succ, List.cons_append, List.nil_append, List.eraseIdx_cons_zero, List.eraseIdx_cons_succ, List.setIfInBounds_toArray, World.size_alloc, selR, List.getD_cons_zero, List.getD_cons_succ] at H)
              have HN2 : Hid (acc.length + 1 = (acc ++ [z]).length) := by show _ = _; rw [List.length_append]; rfl
              have HV2 : Hid (vNat acc ++ [Value.int .i64 z] = vNat (acc ++ [z])) := by show _ = _; simp [vNat]
              rw [HN2.out, HV2.out] at H
              rw [HN2.out]
              go_roundg (s.length - (k + z))
              case rel => exact ⟨acc ++ [z], k + z, A2, c2, rfl, hz2, rfl, by go_num, by rw [List.length_append]; show acc.length + 1 ≤ _; omega, HP2, H⟩
              case measure => rw [Hgk.out]; omega
          · obtain rfl : k = s.length := by omega
            have HL : Hid (psz s = some acc) := by show _ = _; rw [HP.out, List.drop_length, psz_nil]; simp
            have HLL : Hid (pszL s = acc) := by show (psz s).getD [] = _; rw [HL.out]; rfl
            have HLE : Hid (pszErr s = 0) := by show (if _ then _ else _) = _; rw [HL.out]; rfl
            have HI : Hid (∀ W, SL No w W [rBlk x 24 sh.cs, rRow 3 1 (.slice A0 (pszL s).length c0) (pszL s).length (vNat (pszL s)), rRow 3 1 (.slice A acc.length c) acc.length (vNat acc)] → Calls Try.prog 24 #[.slice A0 (pszL s).length c0, .slice A acc.length c] W fun e w' => e = .returned (.bool (acc.map (Int.ofNat) == acc.map Int.ofNat)) ∧ Bel W w') := fun W h => by
              have h1 := Rd.of_own (size := 1) (e := 3) (h.row 1 rfl)
              have h2 := Rd.of_own (size := 1) (e := 3) (h.row 2 rfl)
              have hm : ∀ l : List Nat, vNat l = (l.map Int.ofNat).map (Value.int .i64) := fun l => by rw [List.map_map]; rfl
              rw [hm] at h1 h2
              have h3 := ints_any A0 _ c0 _ A _ c _ W h1 h2 (by omega) (by omega)
              rw [HLL.out] at h3 ⊢
              exact h3
            have d1 : decide ((s.length : Int) < (s.length : Int)) = false := by simp
            rw [HLE.out]
            go_wp2_with fail
            refine (HI.out _ H.out).mono ?_; rintro e w9 ⟨rfl, hb9⟩
            replace H := Lib.hid (H.out.bel hb9); (try simp only [List.set_cons_zero, List.set_cons_succ, List.cons_append, List.nil_append, List.eraseIdx_cons_zero, List.eraseIdx_cons_succ, List.setIfInBounds_toArray, World.size_alloc, selR, List.getD_cons_zero, List.getD_cons_succ] at H)
            rw [beq_self_eq_true]
            go_wp2_with fail
            refine (awake34_any _).mono ?_; rintro e wz ⟨rfl, hbz⟩
            replace H := Lib.hid (H.out.bel hbz)
            go_wp2_with fail
            go_ret
            exact ⟨rfl, H.out.to⟩
    · go_simp
      replace H := Lib.hid (H.out.alloc #[.int .i64 0, .slice none 0 0, .int .i64 0, .int .i64 0, .int .i64 0, .int .i64 0, .int .i64 0, .int .i64 0, .int .i64 0, .int .i64 0, .int .i64 0, .int .i64 0, .int .i64 0, .int .i64 0] 34); (try simp only [List.set_cons_zero, List.set_cons_succ, List.cons_append, List.nil_append, List.eraseIdx_cons_zero, List.eraseIdx_cons_succ, List.setIfInBounds_toArray, World.size_alloc, selR, List.getD_cons_zero, List.getD_cons_succ] at H)
      generalize w8.heap.size = u at *
      generalize World.alloc w8 _ = w7 at *
      refine hKK.out _ _ (H.out.blk 0 rfl) (fun hHeld => ?_)
      clear hKK KK
      try simp only [Act.put, List.setIfInBounds_toArray, List.set_cons_zero, List.set_cons_succ]
      refine wpAnyH_ready (rs := [4]) (by kernel_rfl) (by simp) ?_
      refine (AllReadyH.cons (get_os (get_os (get_os (get_os (get_o0))))) (fun KK hKK => ?_) AllReadyH.nil)
      go_simp
      refine (HRT.out _ H.out.to).mono ?_; rintro e' w6 ⟨U, rfl, hUc, hb6, hnew⟩
      replace H := Lib.hid (H.out.add hb6 (rNd U) hnew.1 hnew.2); (try simp only [List.set_cons_zero, List.set_cons_succ, List.cons_append, List.nil_append, List.eraseIdx_cons_zero, List.eraseIdx_cons_succ, List.setIfInBounds_toArray, World.size_alloc, selR, List.getD_cons_zero, List.getD_cons_succ] at H)
      have HUc : Hid (D.con = U.con) := by show _ = _; rw [HDc.out, hUc]
      clear hUc hb6 hnew
      refine hKK.out _ _ (H.out.blk 0 rfl) (fun hHeld => ?_)
      clear hKK KK
      try simp only [Act.put, List.setIfInBounds_toArray, List.set_cons_zero, List.set_cons_succ]
      refine wpAnyH_take (i := 5) (v := ?vq29_) (get_os (get_os (get_os (get_os (get_os (get_o0)))))) (by kernel_rfl) (by kernel_rfl) (by kernel_rfl) (by exact fun _ _ _ h => h) (Or.inl ⟨by rfl, ?hyq29_⟩) (by assumption) ?_
      case hyq29_ => (intro w hSw; (try dsimp only at hSw); go_simp) <;> with_reducible rfl
      try simp only [Act.put, List.setIfInBounds_toArray, List.set_cons_zero, List.set_cons_succ]
      refine wpAnyH_take (i := 6) (v := ?vq30_) (get_os (get_os (get_os (get_os (get_os (get_os (get_o0))))))) (by kernel_rfl) (by kernel_rfl) (by kernel_rfl) (by exact fun _ _ _ h => h) (Or.inl ⟨by rfl, ?hyq30_⟩) (by assumption) ?_
      case hyq30_ => (intro w hSw; (try dsimp only at hSw); go_simp) <;> with_reducible rfl
      try simp only [Act.put, List.setIfInBounds_toArray, List.set_cons_zero, List.set_cons_succ]
      refine wpAnyH_take (i := 7) (v := ?vq31_) (get_os (get_os (get_os (get_os (get_os (get_os (get_os (get_o0)))))))) (by kernel_rfl) (by kernel_rfl) (by kernel_rfl) (by exact fun _ _ _ h => h) (Or.inl ⟨by rfl, ?hyq31_⟩) (by assumption) ?_
      case hyq31_ => (intro w hSw; (try dsimp only at hSw); go_simp) <;> with_reducible rfl
      try simp only [Act.put, List.setIfInBounds_toArray, List.set_cons_zero, List.set_cons_succ]
      refine wpAnyH_take (i := 8) (v := ?vq32_) (get_os (get_os (get_os (get_os (get_os (get_os (get_os (get_os (get_o0))))))))) (by kernel_rfl) (by kernel_rfl) (by kernel_rfl) (by exact fun _ _ _ h => h) (Or.inl ⟨by rfl, ?hyq32_⟩) (by assumption) ?_
      case hyq32_ => (intro w hSw; (try dsimp only at hSw); go_simp) <;> with_reducible rfl
      try simp only [Act.put, List.setIfInBounds_toArray, List.set_cons_zero, List.set_cons_succ]
      refine wpAnyH_ready (rs := [10]) (by kernel_rfl) (by simp) ?_
      refine (AllReadyH.cons (get_ot (get_o0)) (fun KK hKK => ?_) AllReadyH.nil)
      refine step_store_blkA rfl rowNd (.tmp 9) (.tmp 61) rfl _ rfl (H.out.blk 3 rfl) rfl (U.cs) rfl rfl (nd_one U) ?_
      intro wq bq hgq
      replace H := Lib.hid (H.out.setBlk 3 rfl hgq bq); (try simp only [List.set_cons_zero, List.set_cons_succ, List.cons_append, List.nil_append, List.eraseIdx_cons_zero, List.eraseIdx_cons_succ, List.setIfInBounds_toArray, World.size_alloc, selR, List.getD_cons_zero, List.getD_cons_succ] at H)
      clear hgq bq
      refine hKK.out _ _ (H.out.blk 0 rfl) (fun hHeld => ?_)
      clear hKK KK
      try simp only [Act.put, List.setIfInBounds_toArray, List.set_cons_zero, List.set_cons_succ]
      refine wpAnyH_take (i := 11) (v := ?vq33_) (get_ot (get_os (get_o0))) (by kernel_rfl) (by kernel_rfl) (by kernel_rfl) (by exact fun _ _ _ h => h) (Or.inl ⟨by rfl, ?hyq33_⟩) (by assumption) ?_
      case hyq33_ => (intro w hSw; (try dsimp only at hSw); go_simp) <;> with_reducible rfl
      try simp only [Act.put, List.setIfInBounds_toArray, List.set_cons_zero, List.set_cons_succ]
      refine wpAnyH_take (i := 12) (v := ?vq34_) (get_ot (get_os (get_os (get_o0)))) (by kernel_rfl) (by kernel_rfl) (by kernel_rfl) (by exact fun _ _ _ h => h) (Or.inl ⟨by rfl, ?hyq34_⟩) (by assumption) ?_
      case hyq34_ => (intro w hSw; (try dsimp only at hSw); go_simp) <;> with_reducible rfl
      try simp only [Act.put, List.setIfInBounds_toArray, List.set_cons_zero, List.set_cons_succ]
      refine wpAnyH_done (by kernel_rfl) ?_ _
      clear hHeld
      go_wp2_with (first | ((with_reducible show wpList _ _ _ (⟨some 64, _, _, _, _, _⟩ :: _) _ _); (refine wpList_load_blk rfl rowNd (.tmp 7) rfl _ rfl (H.out.blk 2 rfl) rfl ?_)) | ((with_reducible show wpList _ _ _ (⟨some 65, _, _, _, _, _⟩ :: _) _ _); (refine wpList_load_blk rfl rowNd (.tmp 9) rfl _ rfl (H.out.blk 3 rfl) rfl ?_)))
      refine (rsame24_any D U _ (nd_of_own (H.out.get 1 rfl)) (nd_of_own (H.out.get 4 rfl)) HUc.out).mono ?_; rintro e w10 ⟨rfl, hb10⟩
      replace H := Lib.hid (H.out.bel hb10); (try simp only [List.set_cons_zero, List.set_cons_succ, List.cons_append, List.nil_append, List.eraseIdx_cons_zero, List.eraseIdx_cons_succ, List.setIfInBounds_toArray, World.size_alloc, selR, List.getD_cons_zero, List.getD_cons_succ] at H)
      clear hb10 hex k0 k1
      rcases HOO.out with ⟨h1, h2⟩ | ⟨h1, h2⟩
      · rw [h1, h2]
        clear h1 h2 HOO
        go_upto_region 10 with fail
        replace H := Lib.hid (H.out.sel [0] (by decide) (by simp)); (try simp only [List.set_cons_zero, List.set_cons_succ, List.cons_append, List.nil_append, List.eraseIdx_cons_zero, List.eraseIdx_cons_succ, List.setIfInBounds_toArray, World.size_alloc, selR, List.getD_cons_zero, List.getD_cons_succ] at H)
        go_wp2_with fail
        refine (HSS.out _).mono ?_; rintro e w7 ⟨A0, c0, rfl, hb7, ho7⟩
        replace H := Lib.hid ((H.out.addRow hb7 ho7).addNil 3 1); (try simp only [List.set_cons_zero, List.set_cons_succ, List.cons_append, List.nil_append, List.eraseIdx_cons_zero, List.eraseIdx_cons_succ, List.setIfInBounds_toArray, World.size_alloc, selR, List.getD_cons_zero, List.getD_cons_succ] at H)
        clear hb7 ho7 HSS
        have HP : Hid (psz s = (psz (s.drop 0)).map ([] ++ ·)) := by show _ = _; rw [List.drop_zero]; cases psz s <;> rfl
        have hpl := pszL_len s
        go_upto_region 13 with fail
        go_loopg [14, 15] s.length (fun gg s14 s15 wr => ∃ (acc : List Nat) (k : Nat) (A : Option Addr) (c : Nat), gg = s.length - k ∧ k ≤ s.length ∧ s14 = .slice A acc.length c ∧ s15 = .int .i64 k ∧ acc.length ≤ k ∧ Hid (psz s = (psz (s.drop k)).map (acc ++ ·)) ∧ Hid (SL No w wr [rBlk x 24 sh.cs, rRow 3 1 (.slice A0 (pszL s).length c0) (pszL s).length (vNat (pszL s)), rRow 3 1 (.slice A acc.length c) acc.length (vNat acc)]))
        case atStart => exact ⟨[], 0, none, 0, rfl, by omega, rfl, rfl, by simp, HP, H⟩
        case round =>
          clear H HP
          obtain ⟨acc, k, A, c, hgk, hk, rfl, rfl, hal, HP, H⟩ := hrel
          have Hgk := Lib.hid hgk
          clear hgk
          by_cases hlt : k < s.length
          · have hne : s.drop k ≠ [] := fun e => by have := congrArg List.length e; rw [List.length_drop, List.length_nil] at this; omega
            have hex : (⟨s.toArray⟩ : ByteArray).extract k s.length = ⟨(s.drop k).toArray⟩ := by rw [str_extract, List.take_of_length_le (by rw [List.length_drop]; exact Nat.le_refl _)]
            have HSZ := Lib.hid (fun w' => rcsize_any (s.drop k) w' (by rw [List.length_drop]; omega))
            have d1 : decide ((k : Int) < (s.length : Int)) = true := by simp <;> omega
            have d1n : decide (k < s.length) = true := by simp <;> omega
            have k0 : (0 : Int) ≤ k := by omega
            have k1 : (k : Int) ≤ s.length := by omega
            go_wp2_with fail
            refine (HSZ.out _).mono ?_; rintro e w8 ⟨rfl, hb8⟩
            replace H := Lib.hid (H.out.bel hb8); (try simp only [List.set_cons_zero, List.set_cons_succ, List.cons_append, List.nil_append, List.eraseIdx_cons_zero, List.eraseIdx_cons_succ, List.setIfInBounds_toArray, World.size_alloc, selR, List.getD_cons_zero, List.getD_cons_succ] at H)
            clear hb8 HSZ d1 d1n hex
            cases hz : nodeSize (s.drop k) with
            | none =>
              have HL : Hid (psz s = none) := by show _ = _; rw [HP.out, psz_none hne hz]; rfl
              have HLL : Hid ((pszL s).length = 0) := by show ((psz s).getD []).length = _; rw [HL.out]; rfl
              have HLE : Hid (pszErr s = 15) := by show (if _ then _ else _) = _; rw [HL.out]; rfl
              rw [show szN none = 0 from rfl, show szOk none = false from rfl]
              rw [HLL.out, HLE.out]
              clear hz
              go_wp2_with fail
              refine (awake34_any _).mono ?_; rintro e wz ⟨rfl, hbz⟩
              replace H := Lib.hid (H.out.bel hbz)
              go_wp2_with fail
              go_ret
              exact ⟨rfl, H.out.to⟩
            | some z =>
              rw [show szOk (some z) = true from rfl, show szN (some z) = (z : Nat) from rfl]
              by_cases hzl : (s.drop k).length < z
              · have HL : Hid (psz s = none) := by show _ = _; rw [HP.out, psz_short hne hz hzl]; rfl
                have HLL : Hid ((pszL s).length = 0) := by show ((psz s).getD []).length = _; rw [HL.out]; rfl
                have HLE : Hid (pszErr s = 15) := by show (if _ then _ else _) = _; rw [HL.out]; rfl
                rw [List.length_drop] at hzl
                have d1 : decide ((s.length : Int) - (k : Int) < (z : Int)) = true := by simp <;> omega
                rw [HLL.out, HLE.out]
                clear hz hzl
                go_wp2_with fail
                refine (awake34_any _).mono ?_; rintro e wz ⟨rfl, hbz⟩
                replace H := Lib.hid (H.out.bel hbz)
                go_wp2_with fail
                go_ret
                exact ⟨rfl, H.out.to⟩
              have HP2 : Hid (psz s = (psz (s.drop (k + z))).map ((acc ++ [z]) ++ ·)) := by show _ = _; rw [HP.out, psz_step hne hz (by omega), map_app, List.drop_drop]
              have hz1 := (nodeSize_pos hz).1
              have hz2 : k + z ≤ s.length := by rw [List.length_drop] at hzl; omega
              have d1 : decide ((s.length : Int) - (k : Int) < (z : Int)) = false := by simp <;> omega
              clear hz hzl HP
              go_upto_region 17 with fail
              clear d1
              go_wp2_with ((with_reducible show wpList _ _ _ (⟨some 121, _, _, _, _, _⟩ :: _) _ _); (replace H := Lib.hid (H.out.alloc #[.int .i64 z] 3); (try simp only [List.set_cons_zero, List.set_cons_succ, List.cons_append, List.nil_append, List.eraseIdx_cons_zero, List.eraseIdx_cons_succ, List.setIfInBounds_toArray, World.size_alloc, selR, List.getD_cons_zero, List.getD_cons_succ] at H); refine wpList_append0 rfl (.tmp 118) (.tmp 120) _ rfl E_num 0 (Nat.zero_le _) _ acc.length _ rfl (H.out.row 2 rfl) _ 1 1 [.int .i64 z] rfl (reads_of_block (H.out.blk 3 rfl) rfl) (by simp [Value.oneCell']) (by unfold maxLen; omega) (by omega) ?_; intro vq wq howq hgq hatq; replace H := Lib.hid (H.out.setRow 2 rfl hgq howq hatq); (try simp only [List.set_cons_zero, List.set_cons_succ, List.cons_append, List.nil_append, List.eraseIdx_cons_zero, List.eraseIdx_cons_succ, List.setIfInBounds_toArray, World.size_alloc, selR, List.getD_cons_zero, List.getD_cons_succ] at H); clear howq hgq hatq; obtain ⟨A2, c2, rfl, _⟩ := own_slice (H.out.row 2 rfl)))
              replace H := Lib.hid (H.out.sel [0, 1, 2] (by decide) (by simp)); (try simp only [List.set_cons_zero, List.set_cons_succ, List.cons_append, List.nil_append, List.eraseIdx_cons_zero, List.eraseIdx_cons_succ, List.setIfInBounds_toArray, World.size_alloc, selR, List.getD_cons_zero, List.getD_cons_succ] at H)
              have HN2 : Hid (acc.length + 1 = (acc ++ [z]).length) := by show _ = _; rw [List.length_append]; rfl
              have HV2 : Hid (vNat acc ++ [Value.int .i64 z] = vNat (acc ++ [z])) := by show _ = _; simp [vNat]
              rw [HN2.out, HV2.out] at H
              rw [HN2.out]
              go_roundg (s.length - (k + z))
              case rel => exact ⟨acc ++ [z], k + z, A2, c2, rfl, hz2, rfl, by go_num, by rw [List.length_append]; show acc.length + 1 ≤ _; omega, HP2, H⟩
              case measure => rw [Hgk.out]; omega
          · obtain rfl : k = s.length := by omega
            have HL : Hid (psz s = some acc) := by show _ = _; rw [HP.out, List.drop_length, psz_nil]; simp
            have HLL : Hid (pszL s = acc) := by show (psz s).getD [] = _; rw [HL.out]; rfl
            have HLE : Hid (pszErr s = 0) := by show (if _ then _ else _) = _; rw [HL.out]; rfl
            have HI : Hid (∀ W, SL No w W [rBlk x 24 sh.cs, rRow 3 1 (.slice A0 (pszL s).length c0) (pszL s).length (vNat (pszL s)), rRow 3 1 (.slice A acc.length c) acc.length (vNat acc)] → Calls Try.prog 24 #[.slice A0 (pszL s).length c0, .slice A acc.length c] W fun e w' => e = .returned (.bool (acc.map (Int.ofNat) == acc.map Int.ofNat)) ∧ Bel W w') := fun W h => by
              have h1 := Rd.of_own (size := 1) (e := 3) (h.row 1 rfl)
              have h2 := Rd.of_own (size := 1) (e := 3) (h.row 2 rfl)
              have hm : ∀ l : List Nat, vNat l = (l.map Int.ofNat).map (Value.int .i64) := fun l => by rw [List.map_map]; rfl
              rw [hm] at h1 h2
              have h3 := ints_any A0 _ c0 _ A _ c _ W h1 h2 (by omega) (by omega)
              rw [HLL.out] at h3 ⊢
              exact h3
            have d1 : decide ((s.length : Int) < (s.length : Int)) = false := by simp
            rw [HLE.out]
            go_wp2_with fail
            refine (HI.out _ H.out).mono ?_; rintro e w9 ⟨rfl, hb9⟩
            replace H := Lib.hid (H.out.bel hb9); (try simp only [List.set_cons_zero, List.set_cons_succ, List.cons_append, List.nil_append, List.eraseIdx_cons_zero, List.eraseIdx_cons_succ, List.setIfInBounds_toArray, World.size_alloc, selR, List.getD_cons_zero, List.getD_cons_succ] at H)
            rw [beq_self_eq_true]
            go_wp2_with fail
            refine (awake34_any _).mono ?_; rintro e wz ⟨rfl, hbz⟩
            replace H := Lib.hid (H.out.bel hbz)
            go_wp2_with fail
            go_ret
            exact ⟨rfl, H.out.to⟩
      · rw [h1, h2]
        clear h1 h2 HOO
        go_upto_region 10 with fail
        replace H := Lib.hid (H.out.sel [0] (by decide) (by simp)); (try simp only [List.set_cons_zero, List.set_cons_succ, List.cons_append, List.nil_append, List.eraseIdx_cons_zero, List.eraseIdx_cons_succ, List.setIfInBounds_toArray, World.size_alloc, selR, List.getD_cons_zero, List.getD_cons_succ] at H)
        go_wp2_with fail
        refine (HSS.out _).mono ?_; rintro e w7 ⟨A0, c0, rfl, hb7, ho7⟩
        replace H := Lib.hid ((H.out.addRow hb7 ho7).addNil 3 1); (try simp only [List.set_cons_zero, List.set_cons_succ, List.cons_append, List.nil_append, List.eraseIdx_cons_zero, List.eraseIdx_cons_succ, List.setIfInBounds_toArray, World.size_alloc, selR, List.getD_cons_zero, List.getD_cons_succ] at H)
        clear hb7 ho7 HSS
        have HP : Hid (psz s = (psz (s.drop 0)).map ([] ++ ·)) := by show _ = _; rw [List.drop_zero]; cases psz s <;> rfl
        have hpl := pszL_len s
        go_upto_region 13 with fail
        go_loopg [14, 15] s.length (fun gg s14 s15 wr => ∃ (acc : List Nat) (k : Nat) (A : Option Addr) (c : Nat), gg = s.length - k ∧ k ≤ s.length ∧ s14 = .slice A acc.length c ∧ s15 = .int .i64 k ∧ acc.length ≤ k ∧ Hid (psz s = (psz (s.drop k)).map (acc ++ ·)) ∧ Hid (SL No w wr [rBlk x 24 sh.cs, rRow 3 1 (.slice A0 (pszL s).length c0) (pszL s).length (vNat (pszL s)), rRow 3 1 (.slice A acc.length c) acc.length (vNat acc)]))
        case atStart => exact ⟨[], 0, none, 0, rfl, by omega, rfl, rfl, by simp, HP, H⟩
        case round =>
          clear H HP
          obtain ⟨acc, k, A, c, hgk, hk, rfl, rfl, hal, HP, H⟩ := hrel
          have Hgk := Lib.hid hgk
          clear hgk
          by_cases hlt : k < s.length
          · have hne : s.drop k ≠ [] := fun e => by have := congrArg List.length e; rw [List.length_drop, List.length_nil] at this; omega
            have hex : (⟨s.toArray⟩ : ByteArray).extract k s.length = ⟨(s.drop k).toArray⟩ := by rw [str_extract, List.take_of_length_le (by rw [List.length_drop]; exact Nat.le_refl _)]
            have HSZ := Lib.hid (fun w' => rcsize_any (s.drop k) w' (by rw [List.length_drop]; omega))
            have d1 : decide ((k : Int) < (s.length : Int)) = true := by simp <;> omega
            have d1n : decide (k < s.length) = true := by simp <;> omega
            have k0 : (0 : Int) ≤ k := by omega
            have k1 : (k : Int) ≤ s.length := by omega
            go_wp2_with fail
            refine (HSZ.out _).mono ?_; rintro e w8 ⟨rfl, hb8⟩
            replace H := Lib.hid (H.out.bel hb8); (try simp only [List.set_cons_zero, List.set_cons_succ, List.cons_append, List.nil_append, List.eraseIdx_cons_zero, List.eraseIdx_cons_succ, List.setIfInBounds_toArray, World.size_alloc, selR, List.getD_cons_zero, List.getD_cons_succ] at H)
            clear hb8 HSZ d1 d1n hex
            cases hz : nodeSize (s.drop k) with
            | none =>
              have HL : Hid (psz s = none) := by show _ = _; rw [HP.out, psz_none hne hz]; rfl
              have HLL : Hid ((pszL s).length = 0) := by show ((psz s).getD []).length = _; rw [HL.out]; rfl
              have HLE : Hid (pszErr s = 15) := by show (if _ then _ else _) = _; rw [HL.out]; rfl
              rw [show szN none = 0 from rfl, show szOk none = false from rfl]
              rw [HLL.out, HLE.out]
              clear hz
              go_wp2_with fail
              refine (awake34_any _).mono ?_; rintro e wz ⟨rfl, hbz⟩
              replace H := Lib.hid (H.out.bel hbz)
              go_wp2_with fail
              go_ret
              exact ⟨rfl, H.out.to⟩
            | some z =>
              rw [show szOk (some z) = true from rfl, show szN (some z) = (z : Nat) from rfl]
              by_cases hzl : (s.drop k).length < z
              · have HL : Hid (psz s = none) := by show _ = _; rw [HP.out, psz_short hne hz hzl]; rfl
                have HLL : Hid ((pszL s).length = 0) := by show ((psz s).getD []).length = _; rw [HL.out]; rfl
                have HLE : Hid (pszErr s = 15) := by show (if _ then _ else _) = _; rw [HL.out]; rfl
                rw [List.length_drop] at hzl
                have d1 : decide ((s.length : Int) - (k : Int) < (z : Int)) = true := by simp <;> omega
                rw [HLL.out, HLE.out]
                clear hz hzl
                go_wp2_with fail
                refine (awake34_any _).mono ?_; rintro e wz ⟨rfl, hbz⟩
                replace H := Lib.hid (H.out.bel hbz)
                go_wp2_with fail
                go_ret
                exact ⟨rfl, H.out.to⟩
              have HP2 : Hid (psz s = (psz (s.drop (k + z))).map ((acc ++ [z]) ++ ·)) := by show _ = _; rw [HP.out, psz_step hne hz (by omega), map_app, List.drop_drop]
              have hz1 := (nodeSize_pos hz).1
              have hz2 : k + z ≤ s.length := by rw [List.length_drop] at hzl; omega
              have d1 : decide ((s.length : Int) - (k : Int) < (z : Int)) = false := by simp <;> omega
              clear hz hzl HP
              go_upto_region 17 with fail
              clear d1
              go_wp2_with ((with_reducible show wpList _ _ _ (⟨some 121, _, _, _, _, _⟩ :: _) _ _); (replace H := Lib.hid (H.out.alloc #[.int .i64 z] 3); (try simp only [List.set_cons_zero, List.set_cons_succ, List.cons_append, List.nil_append, List.eraseIdx_cons_zero, List.eraseIdx_cons_succ, List.setIfInBounds_toArray, World.size_alloc, selR, List.getD_cons_zero, List.getD_cons_succ] at H); refine wpList_append0 rfl (.tmp 118) (.tmp 120) _ rfl E_num 0 (Nat.zero_le _) _ acc.length _ rfl (H.out.row 2 rfl) _ 1 1 [.int .i64 z] rfl (reads_of_block (H.out.blk 3 rfl) rfl) (by simp [Value.oneCell']) (by unfold maxLen; omega) (by omega) ?_; intro vq wq howq hgq hatq; replace H := Lib.hid (H.out.setRow 2 rfl hgq howq hatq); (try simp only [List.set_cons_zero, List.set_cons_succ, List.cons_append, List.nil_append, List.eraseIdx_cons_zero, List.eraseIdx_cons_succ, List.setIfInBounds_toArray, World.size_alloc, selR, List.getD_cons_zero, List.getD_cons_succ] at H); clear howq hgq hatq; obtain ⟨A2, c2, rfl, _⟩ := own_slice (H.out.row 2 rfl)))
              replace H := Lib.hid (H.out.sel [0, 1, 2] (by decide) (by simp)); (try simp only [List.set_cons_zero, List.set_cons_succ, List.cons_append, List.nil_append, List.eraseIdx_cons_zero, List.eraseIdx_cons_succ, List.setIfInBounds_toArray, World.size_alloc, selR, List.getD_cons_zero, List.getD_cons_succ] at H)
              have HN2 : Hid (acc.length + 1 = (acc ++ [z]).length) := by show _ = _; rw [List.length_append]; rfl
              have HV2 : Hid (vNat acc ++ [Value.int .i64 z] = vNat (acc ++ [z])) := by show _ = _; simp [vNat]
              rw [HN2.out, HV2.out] at H
              rw [HN2.out]
              go_roundg (s.length - (k + z))
              case rel => exact ⟨acc ++ [z], k + z, A2, c2, rfl, hz2, rfl, by go_num, by rw [List.length_append]; show acc.length + 1 ≤ _; omega, HP2, H⟩
              case measure => rw [Hgk.out]; omega
          · obtain rfl : k = s.length := by omega
            have HL : Hid (psz s = some acc) := by show _ = _; rw [HP.out, List.drop_length, psz_nil]; simp
            have HLL : Hid (pszL s = acc) := by show (psz s).getD [] = _; rw [HL.out]; rfl
            have HLE : Hid (pszErr s = 0) := by show (if _ then _ else _) = _; rw [HL.out]; rfl
            have HI : Hid (∀ W, SL No w W [rBlk x 24 sh.cs, rRow 3 1 (.slice A0 (pszL s).length c0) (pszL s).length (vNat (pszL s)), rRow 3 1 (.slice A acc.length c) acc.length (vNat acc)] → Calls Try.prog 24 #[.slice A0 (pszL s).length c0, .slice A acc.length c] W fun e w' => e = .returned (.bool (acc.map (Int.ofNat) == acc.map Int.ofNat)) ∧ Bel W w') := fun W h => by
              have h1 := Rd.of_own (size := 1) (e := 3) (h.row 1 rfl)
              have h2 := Rd.of_own (size := 1) (e := 3) (h.row 2 rfl)
              have hm : ∀ l : List Nat, vNat l = (l.map Int.ofNat).map (Value.int .i64) := fun l => by rw [List.map_map]; rfl
              rw [hm] at h1 h2
              have h3 := ints_any A0 _ c0 _ A _ c _ W h1 h2 (by omega) (by omega)
              rw [HLL.out] at h3 ⊢
              exact h3
            have d1 : decide ((s.length : Int) < (s.length : Int)) = false := by simp
            rw [HLE.out]
            go_wp2_with fail
            refine (HI.out _ H.out).mono ?_; rintro e w9 ⟨rfl, hb9⟩
            replace H := Lib.hid (H.out.bel hb9); (try simp only [List.set_cons_zero, List.set_cons_succ, List.cons_append, List.nil_append, List.eraseIdx_cons_zero, List.eraseIdx_cons_succ, List.setIfInBounds_toArray, World.size_alloc, selR, List.getD_cons_zero, List.getD_cons_succ] at H)
            rw [beq_self_eq_true]
            go_wp2_with fail
            refine (awake34_any _).mono ?_; rintro e wz ⟨rfl, hbz⟩
            replace H := Lib.hid (H.out.bel hbz)
            go_wp2_with fail
            go_ret
            exact ⟨rfl, H.out.to⟩
  · have hout : i < 0 ∨ (s.length : Int) ≤ i := by omega
    refine (snode_out sh s i _ (by omega) hout h64).mono ?_; rintro e w4 ⟨D, rfl, hDc, hb4, hnew⟩
    replace H := Lib.hid (H.out.add hb4 (rNd D) hnew.1 hnew.2); (try simp only [List.set_cons_zero, List.set_cons_succ, List.cons_append, List.nil_append, List.eraseIdx_cons_zero, List.eraseIdx_cons_succ, List.setIfInBounds_toArray, World.size_alloc, selR, List.getD_cons_zero, List.getD_cons_succ] at H)
    have HDc := Lib.hid hDc
    clear hDc hb4 hnew
    by_cases hi0 : i < 0
    · have d1 : decide (i < 0) = true := by simpa using hi0
      clear hin hout
      go_upto_region 5 with ((with_reducible show wpList _ _ _ (⟨_, .store _ (.tmp 7) _, _, _, _, _⟩ :: _) _ _); (refine wpList_store_new rfl rowNd (.tmp 7) (.tmp 37) rfl rfl rfl (D.cs) rfl rfl (nd_one D) ?_; replace H := Lib.hid (H.out.alloc (D.cs) 34); (try simp only [List.set_cons_zero, List.set_cons_succ, List.cons_append, List.nil_append, List.eraseIdx_cons_zero, List.eraseIdx_cons_succ, List.setIfInBounds_toArray, World.size_alloc, selR, List.getD_cons_zero, List.getD_cons_succ] at H)))
      (try simp only [Act.put, List.setIfInBounds_toArray, List.set_cons_zero, List.set_cons_succ])
      generalize w4.heap.size = dd at *
      generalize World.alloc w4 _ = w5 at *
      go_wp2_with (first | ((with_reducible show wpList _ _ _ (⟨some 50, _, _, _, _, _⟩ :: _) _ _); refine wpList_load_blkG (by first | rfl | go_simp) rowNd (.tmp 7) (by rfl) _ (by rfl) (H.out.blk 2 rfl) rfl ?_) | ((with_reducible show wpList _ _ _ (⟨some 51, _, _, _, _, _⟩ :: _) _ _); refine wpList_build0NG (by first | rfl | go_simp) rfl hbn ?_))
      refine (rsame24_any D Nd.nil _ (nd_of_own (H.out.get 1 rfl)) (nd_nil_rd _) HDc.out).mono ?_; rintro e w6 ⟨rfl, hb6⟩
      replace H := Lib.hid (H.out.bel hb6); (try simp only [List.set_cons_zero, List.set_cons_succ, List.cons_append, List.nil_append, List.eraseIdx_cons_zero, List.eraseIdx_cons_succ, List.setIfInBounds_toArray, World.size_alloc, selR, List.getD_cons_zero, List.getD_cons_succ] at H)
      clear hb6
      go_upto_region 10 with fail
      replace H := Lib.hid (H.out.sel [0] (by decide) (by simp)); (try simp only [List.set_cons_zero, List.set_cons_succ, List.cons_append, List.nil_append, List.eraseIdx_cons_zero, List.eraseIdx_cons_succ, List.setIfInBounds_toArray, World.size_alloc, selR, List.getD_cons_zero, List.getD_cons_succ] at H)
      go_wp2_with fail
      refine (HSS.out _).mono ?_; rintro e w7 ⟨A0, c0, rfl, hb7, ho7⟩
      replace H := Lib.hid ((H.out.addRow hb7 ho7).addNil 3 1); (try simp only [List.set_cons_zero, List.set_cons_succ, List.cons_append, List.nil_append, List.eraseIdx_cons_zero, List.eraseIdx_cons_succ, List.setIfInBounds_toArray, World.size_alloc, selR, List.getD_cons_zero, List.getD_cons_succ] at H)
      clear hb7 ho7 HSS
      have HP : Hid (psz s = (psz (s.drop 0)).map ([] ++ ·)) := by show _ = _; rw [List.drop_zero]; cases psz s <;> rfl
      have hpl := pszL_len s
      go_upto_region 13 with fail
      go_loopg [14, 15] s.length (fun gg s14 s15 wr => ∃ (acc : List Nat) (k : Nat) (A : Option Addr) (c : Nat), gg = s.length - k ∧ k ≤ s.length ∧ s14 = .slice A acc.length c ∧ s15 = .int .i64 k ∧ acc.length ≤ k ∧ Hid (psz s = (psz (s.drop k)).map (acc ++ ·)) ∧ Hid (SL No w wr [rBlk x 24 sh.cs, rRow 3 1 (.slice A0 (pszL s).length c0) (pszL s).length (vNat (pszL s)), rRow 3 1 (.slice A acc.length c) acc.length (vNat acc)]))
      case atStart => exact ⟨[], 0, none, 0, rfl, by omega, rfl, rfl, by simp, HP, H⟩
      case round =>
        clear H HP
        obtain ⟨acc, k, A, c, hgk, hk, rfl, rfl, hal, HP, H⟩ := hrel
        have Hgk := Lib.hid hgk
        clear hgk
        by_cases hlt : k < s.length
        · have hne : s.drop k ≠ [] := fun e => by have := congrArg List.length e; rw [List.length_drop, List.length_nil] at this; omega
          have hex : (⟨s.toArray⟩ : ByteArray).extract k s.length = ⟨(s.drop k).toArray⟩ := by rw [str_extract, List.take_of_length_le (by rw [List.length_drop]; exact Nat.le_refl _)]
          have HSZ := Lib.hid (fun w' => rcsize_any (s.drop k) w' (by rw [List.length_drop]; omega))
          have d1 : decide ((k : Int) < (s.length : Int)) = true := by simp <;> omega
          have d1n : decide (k < s.length) = true := by simp <;> omega
          have k0 : (0 : Int) ≤ k := by omega
          have k1 : (k : Int) ≤ s.length := by omega
          go_wp2_with fail
          refine (HSZ.out _).mono ?_; rintro e w8 ⟨rfl, hb8⟩
          replace H := Lib.hid (H.out.bel hb8); (try simp only [List.set_cons_zero, List.set_cons_succ, List.cons_append, List.nil_append, List.eraseIdx_cons_zero, List.eraseIdx_cons_succ, List.setIfInBounds_toArray, World.size_alloc, selR, List.getD_cons_zero, List.getD_cons_succ] at H)
          clear hb8 HSZ d1 d1n hex
          cases hz : nodeSize (s.drop k) with
          | none =>
            have HL : Hid (psz s = none) := by show _ = _; rw [HP.out, psz_none hne hz]; rfl
            have HLL : Hid ((pszL s).length = 0) := by show ((psz s).getD []).length = _; rw [HL.out]; rfl
            have HLE : Hid (pszErr s = 15) := by show (if _ then _ else _) = _; rw [HL.out]; rfl
            rw [show szN none = 0 from rfl, show szOk none = false from rfl]
            rw [HLL.out, HLE.out]
            clear hz
            go_wp2_with fail
            refine (awake34_any _).mono ?_; rintro e wz ⟨rfl, hbz⟩
            replace H := Lib.hid (H.out.bel hbz)
            go_wp2_with fail
            go_ret
            exact ⟨rfl, H.out.to⟩
          | some z =>
            rw [show szOk (some z) = true from rfl, show szN (some z) = (z : Nat) from rfl]
            by_cases hzl : (s.drop k).length < z
            · have HL : Hid (psz s = none) := by show _ = _; rw [HP.out, psz_short hne hz hzl]; rfl
              have HLL : Hid ((pszL s).length = 0) := by show ((psz s).getD []).length = _; rw [HL.out]; rfl
              have HLE : Hid (pszErr s = 15) := by show (if _ then _ else _) = _; rw [HL.out]; rfl
              rw [List.length_drop] at hzl
              have d1 : decide ((s.length : Int) - (k : Int) < (z : Int)) = true := by simp <;> omega
              rw [HLL.out, HLE.out]
              clear hz hzl
              go_wp2_with fail
              refine (awake34_any _).mono ?_; rintro e wz ⟨rfl, hbz⟩
              replace H := Lib.hid (H.out.bel hbz)
              go_wp2_with fail
              go_ret
              exact ⟨rfl, H.out.to⟩
            have HP2 : Hid (psz s = (psz (s.drop (k + z))).map ((acc ++ [z]) ++ ·)) := by show _ = _; rw [HP.out, psz_step hne hz (by omega), map_app, List.drop_drop]
            have hz1 := (nodeSize_pos hz).1
            have hz2 : k + z ≤ s.length := by rw [List.length_drop] at hzl; omega
            have d1 : decide ((s.length : Int) - (k : Int) < (z : Int)) = false := by simp <;> omega
            clear hz hzl HP
            go_upto_region 17 with fail
            clear d1
            go_wp2_with ((with_reducible show wpList _ _ _ (⟨some 121, _, _, _, _, _⟩ :: _) _ _); (replace H := Lib.hid (H.out.alloc #[.int .i64 z] 3); (try simp only [List.set_cons_zero, List.set_cons_succ, List.cons_append, List.nil_append, List.eraseIdx_cons_zero, List.eraseIdx_cons_succ, List.setIfInBounds_toArray, World.size_alloc, selR, List.getD_cons_zero, List.getD_cons_succ] at H); refine wpList_append0 rfl (.tmp 118) (.tmp 120) _ rfl E_num 0 (Nat.zero_le _) _ acc.length _ rfl (H.out.row 2 rfl) _ 1 1 [.int .i64 z] rfl (reads_of_block (H.out.blk 3 rfl) rfl) (by simp [Value.oneCell']) (by unfold maxLen; omega) (by omega) ?_; intro vq wq howq hgq hatq; replace H := Lib.hid (H.out.setRow 2 rfl hgq howq hatq); (try simp only [List.set_cons_zero, List.set_cons_succ, List.cons_append, List.nil_append, List.eraseIdx_cons_zero, List.eraseIdx_cons_succ, List.setIfInBounds_toArray, World.size_alloc, selR, List.getD_cons_zero, List.getD_cons_succ] at H); clear howq hgq hatq; obtain ⟨A2, c2, rfl, _⟩ := own_slice (H.out.row 2 rfl)))
            replace H := Lib.hid (H.out.sel [0, 1, 2] (by decide) (by simp)); (try simp only [List.set_cons_zero, List.set_cons_succ, List.cons_append, List.nil_append, List.eraseIdx_cons_zero, List.eraseIdx_cons_succ, List.setIfInBounds_toArray, World.size_alloc, selR, List.getD_cons_zero, List.getD_cons_succ] at H)
            have HN2 : Hid (acc.length + 1 = (acc ++ [z]).length) := by show _ = _; rw [List.length_append]; rfl
            have HV2 : Hid (vNat acc ++ [Value.int .i64 z] = vNat (acc ++ [z])) := by show _ = _; simp [vNat]
            rw [HN2.out, HV2.out] at H
            rw [HN2.out]
            go_roundg (s.length - (k + z))
            case rel => exact ⟨acc ++ [z], k + z, A2, c2, rfl, hz2, rfl, by go_num, by rw [List.length_append]; show acc.length + 1 ≤ _; omega, HP2, H⟩
            case measure => rw [Hgk.out]; omega
        · obtain rfl : k = s.length := by omega
          have HL : Hid (psz s = some acc) := by show _ = _; rw [HP.out, List.drop_length, psz_nil]; simp
          have HLL : Hid (pszL s = acc) := by show (psz s).getD [] = _; rw [HL.out]; rfl
          have HLE : Hid (pszErr s = 0) := by show (if _ then _ else _) = _; rw [HL.out]; rfl
          have HI : Hid (∀ W, SL No w W [rBlk x 24 sh.cs, rRow 3 1 (.slice A0 (pszL s).length c0) (pszL s).length (vNat (pszL s)), rRow 3 1 (.slice A acc.length c) acc.length (vNat acc)] → Calls Try.prog 24 #[.slice A0 (pszL s).length c0, .slice A acc.length c] W fun e w' => e = .returned (.bool (acc.map (Int.ofNat) == acc.map Int.ofNat)) ∧ Bel W w') := fun W h => by
            have h1 := Rd.of_own (size := 1) (e := 3) (h.row 1 rfl)
            have h2 := Rd.of_own (size := 1) (e := 3) (h.row 2 rfl)
            have hm : ∀ l : List Nat, vNat l = (l.map Int.ofNat).map (Value.int .i64) := fun l => by rw [List.map_map]; rfl
            rw [hm] at h1 h2
            have h3 := ints_any A0 _ c0 _ A _ c _ W h1 h2 (by omega) (by omega)
            rw [HLL.out] at h3 ⊢
            exact h3
          have d1 : decide ((s.length : Int) < (s.length : Int)) = false := by simp
          rw [HLE.out]
          go_wp2_with fail
          refine (HI.out _ H.out).mono ?_; rintro e w9 ⟨rfl, hb9⟩
          replace H := Lib.hid (H.out.bel hb9); (try simp only [List.set_cons_zero, List.set_cons_succ, List.cons_append, List.nil_append, List.eraseIdx_cons_zero, List.eraseIdx_cons_succ, List.setIfInBounds_toArray, World.size_alloc, selR, List.getD_cons_zero, List.getD_cons_succ] at H)
          rw [beq_self_eq_true]
          go_wp2_with fail
          refine (awake34_any _).mono ?_; rintro e wz ⟨rfl, hbz⟩
          replace H := Lib.hid (H.out.bel hbz)
          go_wp2_with fail
          go_ret
          exact ⟨rfl, H.out.to⟩
    · have d1 : decide (i < 0) = false := by simpa using hi0
      have d2 : decide ((s.length : Int) ≤ i) = true := by simp <;> omega
      clear hin hout
      go_upto_region 5 with ((with_reducible show wpList _ _ _ (⟨_, .store _ (.tmp 7) _, _, _, _, _⟩ :: _) _ _); (refine wpList_store_new rfl rowNd (.tmp 7) (.tmp 37) rfl rfl rfl (D.cs) rfl rfl (nd_one D) ?_; replace H := Lib.hid (H.out.alloc (D.cs) 34); (try simp only [List.set_cons_zero, List.set_cons_succ, List.cons_append, List.nil_append, List.eraseIdx_cons_zero, List.eraseIdx_cons_succ, List.setIfInBounds_toArray, World.size_alloc, selR, List.getD_cons_zero, List.getD_cons_succ] at H)))
      (try simp only [Act.put, List.setIfInBounds_toArray, List.set_cons_zero, List.set_cons_succ])
      generalize w4.heap.size = dd at *
      generalize World.alloc w4 _ = w5 at *
      go_wp2_with (first | ((with_reducible show wpList _ _ _ (⟨some 50, _, _, _, _, _⟩ :: _) _ _); refine wpList_load_blkG (by first | rfl | go_simp) rowNd (.tmp 7) (by rfl) _ (by rfl) (H.out.blk 2 rfl) rfl ?_) | ((with_reducible show wpList _ _ _ (⟨some 51, _, _, _, _, _⟩ :: _) _ _); refine wpList_build0NG (by first | rfl | go_simp) rfl hbn ?_))
      refine (rsame24_any D Nd.nil _ (nd_of_own (H.out.get 1 rfl)) (nd_nil_rd _) HDc.out).mono ?_; rintro e w6 ⟨rfl, hb6⟩
      replace H := Lib.hid (H.out.bel hb6); (try simp only [List.set_cons_zero, List.set_cons_succ, List.cons_append, List.nil_append, List.eraseIdx_cons_zero, List.eraseIdx_cons_succ, List.setIfInBounds_toArray, World.size_alloc, selR, List.getD_cons_zero, List.getD_cons_succ] at H)
      clear hb6
      go_upto_region 10 with fail
      replace H := Lib.hid (H.out.sel [0] (by decide) (by simp)); (try simp only [List.set_cons_zero, List.set_cons_succ, List.cons_append, List.nil_append, List.eraseIdx_cons_zero, List.eraseIdx_cons_succ, List.setIfInBounds_toArray, World.size_alloc, selR, List.getD_cons_zero, List.getD_cons_succ] at H)
      go_wp2_with fail
      refine (HSS.out _).mono ?_; rintro e w7 ⟨A0, c0, rfl, hb7, ho7⟩
      replace H := Lib.hid ((H.out.addRow hb7 ho7).addNil 3 1); (try simp only [List.set_cons_zero, List.set_cons_succ, List.cons_append, List.nil_append, List.eraseIdx_cons_zero, List.eraseIdx_cons_succ, List.setIfInBounds_toArray, World.size_alloc, selR, List.getD_cons_zero, List.getD_cons_succ] at H)
      clear hb7 ho7 HSS
      have HP : Hid (psz s = (psz (s.drop 0)).map ([] ++ ·)) := by show _ = _; rw [List.drop_zero]; cases psz s <;> rfl
      have hpl := pszL_len s
      go_upto_region 13 with fail
      go_loopg [14, 15] s.length (fun gg s14 s15 wr => ∃ (acc : List Nat) (k : Nat) (A : Option Addr) (c : Nat), gg = s.length - k ∧ k ≤ s.length ∧ s14 = .slice A acc.length c ∧ s15 = .int .i64 k ∧ acc.length ≤ k ∧ Hid (psz s = (psz (s.drop k)).map (acc ++ ·)) ∧ Hid (SL No w wr [rBlk x 24 sh.cs, rRow 3 1 (.slice A0 (pszL s).length c0) (pszL s).length (vNat (pszL s)), rRow 3 1 (.slice A acc.length c) acc.length (vNat acc)]))
      case atStart => exact ⟨[], 0, none, 0, rfl, by omega, rfl, rfl, by simp, HP, H⟩
      case round =>
        clear H HP
        obtain ⟨acc, k, A, c, hgk, hk, rfl, rfl, hal, HP, H⟩ := hrel
        have Hgk := Lib.hid hgk
        clear hgk
        by_cases hlt : k < s.length
        · have hne : s.drop k ≠ [] := fun e => by have := congrArg List.length e; rw [List.length_drop, List.length_nil] at this; omega
          have hex : (⟨s.toArray⟩ : ByteArray).extract k s.length = ⟨(s.drop k).toArray⟩ := by rw [str_extract, List.take_of_length_le (by rw [List.length_drop]; exact Nat.le_refl _)]
          have HSZ := Lib.hid (fun w' => rcsize_any (s.drop k) w' (by rw [List.length_drop]; omega))
          have d1 : decide ((k : Int) < (s.length : Int)) = true := by simp <;> omega
          have d1n : decide (k < s.length) = true := by simp <;> omega
          have k0 : (0 : Int) ≤ k := by omega
          have k1 : (k : Int) ≤ s.length := by omega
          go_wp2_with fail
          refine (HSZ.out _).mono ?_; rintro e w8 ⟨rfl, hb8⟩
          replace H := Lib.hid (H.out.bel hb8); (try simp only [List.set_cons_zero, List.set_cons_succ, List.cons_append, List.nil_append, List.eraseIdx_cons_zero, List.eraseIdx_cons_succ, List.setIfInBounds_toArray, World.size_alloc, selR, List.getD_cons_zero, List.getD_cons_succ] at H)
          clear hb8 HSZ d1 d1n hex
          cases hz : nodeSize (s.drop k) with
          | none =>
            have HL : Hid (psz s = none) := by show _ = _; rw [HP.out, psz_none hne hz]; rfl
            have HLL : Hid ((pszL s).length = 0) := by show ((psz s).getD []).length = _; rw [HL.out]; rfl
            have HLE : Hid (pszErr s = 15) := by show (if _ then _ else _) = _; rw [HL.out]; rfl
            rw [show szN none = 0 from rfl, show szOk none = false from rfl]
            rw [HLL.out, HLE.out]
            clear hz
            go_wp2_with fail
            refine (awake34_any _).mono ?_; rintro e wz ⟨rfl, hbz⟩
            replace H := Lib.hid (H.out.bel hbz)
            go_wp2_with fail
            go_ret
            exact ⟨rfl, H.out.to⟩
          | some z =>
            rw [show szOk (some z) = true from rfl, show szN (some z) = (z : Nat) from rfl]
            by_cases hzl : (s.drop k).length < z
            · have HL : Hid (psz s = none) := by show _ = _; rw [HP.out, psz_short hne hz hzl]; rfl
              have HLL : Hid ((pszL s).length = 0) := by show ((psz s).getD []).length = _; rw [HL.out]; rfl
              have HLE : Hid (pszErr s = 15) := by show (if _ then _ else _) = _; rw [HL.out]; rfl
              rw [List.length_drop] at hzl
              have d1 : decide ((s.length : Int) - (k : Int) < (z : Int)) = true := by simp <;> omega
              rw [HLL.out, HLE.out]
              clear hz hzl
              go_wp2_with fail
              refine (awake34_any _).mono ?_; rintro e wz ⟨rfl, hbz⟩
              replace H := Lib.hid (H.out.bel hbz)
              go_wp2_with fail
              go_ret
              exact ⟨rfl, H.out.to⟩
            have HP2 : Hid (psz s = (psz (s.drop (k + z))).map ((acc ++ [z]) ++ ·)) := by show _ = _; rw [HP.out, psz_step hne hz (by omega), map_app, List.drop_drop]
            have hz1 := (nodeSize_pos hz).1
            have hz2 : k + z ≤ s.length := by rw [List.length_drop] at hzl; omega
            have d1 : decide ((s.length : Int) - (k : Int) < (z : Int)) = false := by simp <;> omega
            clear hz hzl HP
            go_upto_region 17 with fail
            clear d1
            go_wp2_with ((with_reducible show wpList _ _ _ (⟨some 121, _, _, _, _, _⟩ :: _) _ _); (replace H := Lib.hid (H.out.alloc #[.int .i64 z] 3); (try simp only [List.set_cons_zero, List.set_cons_succ, List.cons_append, List.nil_append, List.eraseIdx_cons_zero, List.eraseIdx_cons_succ, List.setIfInBounds_toArray, World.size_alloc, selR, List.getD_cons_zero, List.getD_cons_succ] at H); refine wpList_append0 rfl (.tmp 118) (.tmp 120) _ rfl E_num 0 (Nat.zero_le _) _ acc.length _ rfl (H.out.row 2 rfl) _ 1 1 [.int .i64 z] rfl (reads_of_block (H.out.blk 3 rfl) rfl) (by simp [Value.oneCell']) (by unfold maxLen; omega) (by omega) ?_; intro vq wq howq hgq hatq; replace H := Lib.hid (H.out.setRow 2 rfl hgq howq hatq); (try simp only [List.set_cons_zero, List.set_cons_succ, List.cons_append, List.nil_append, List.eraseIdx_cons_zero, List.eraseIdx_cons_succ, List.setIfInBounds_toArray, World.size_alloc, selR, List.getD_cons_zero, List.getD_cons_succ] at H); clear howq hgq hatq; obtain ⟨A2, c2, rfl, _⟩ := own_slice (H.out.row 2 rfl)))
            replace H := Lib.hid (H.out.sel [0, 1, 2] (by decide) (by simp)); (try simp only [List.set_cons_zero, List.set_cons_succ, List.cons_append, List.nil_append, List.eraseIdx_cons_zero, List.eraseIdx_cons_succ, List.setIfInBounds_toArray, World.size_alloc, selR, List.getD_cons_zero, List.getD_cons_succ] at H)
            have HN2 : Hid (acc.length + 1 = (acc ++ [z]).length) := by show _ = _; rw [List.length_append]; rfl
            have HV2 : Hid (vNat acc ++ [Value.int .i64 z] = vNat (acc ++ [z])) := by show _ = _; simp [vNat]
            rw [HN2.out, HV2.out] at H
            rw [HN2.out]
            go_roundg (s.length - (k + z))
            case rel => exact ⟨acc ++ [z], k + z, A2, c2, rfl, hz2, rfl, by go_num, by rw [List.length_append]; show acc.length + 1 ≤ _; omega, HP2, H⟩
            case measure => rw [Hgk.out]; omega
        · obtain rfl : k = s.length := by omega
          have HL : Hid (psz s = some acc) := by show _ = _; rw [HP.out, List.drop_length, psz_nil]; simp
          have HLL : Hid (pszL s = acc) := by show (psz s).getD [] = _; rw [HL.out]; rfl
          have HLE : Hid (pszErr s = 0) := by show (if _ then _ else _) = _; rw [HL.out]; rfl
          have HI : Hid (∀ W, SL No w W [rBlk x 24 sh.cs, rRow 3 1 (.slice A0 (pszL s).length c0) (pszL s).length (vNat (pszL s)), rRow 3 1 (.slice A acc.length c) acc.length (vNat acc)] → Calls Try.prog 24 #[.slice A0 (pszL s).length c0, .slice A acc.length c] W fun e w' => e = .returned (.bool (acc.map (Int.ofNat) == acc.map Int.ofNat)) ∧ Bel W w') := fun W h => by
            have h1 := Rd.of_own (size := 1) (e := 3) (h.row 1 rfl)
            have h2 := Rd.of_own (size := 1) (e := 3) (h.row 2 rfl)
            have hm : ∀ l : List Nat, vNat l = (l.map Int.ofNat).map (Value.int .i64) := fun l => by rw [List.map_map]; rfl
            rw [hm] at h1 h2
            have h3 := ints_any A0 _ c0 _ A _ c _ W h1 h2 (by omega) (by omega)
            rw [HLL.out] at h3 ⊢
            exact h3
          have d1 : decide ((s.length : Int) < (s.length : Int)) = false := by simp
          rw [HLE.out]
          go_wp2_with fail
          refine (HI.out _ H.out).mono ?_; rintro e w9 ⟨rfl, hb9⟩
          replace H := Lib.hid (H.out.bel hb9); (try simp only [List.set_cons_zero, List.set_cons_succ, List.cons_append, List.nil_append, List.eraseIdx_cons_zero, List.eraseIdx_cons_succ, List.setIfInBounds_toArray, World.size_alloc, selR, List.getD_cons_zero, List.getD_cons_succ] at H)
          rw [beq_self_eq_true]
          go_wp2_with fail
          refine (awake34_any _).mono ?_; rintro e wz ⟨rfl, hbz⟩
          replace H := Lib.hid (H.out.bel hbz)
          go_wp2_with fail
          go_ret
          exact ⟨rfl, H.out.to⟩

end Go.Proofs.Ytlclllkjnhgbjaa
