/- The walk of law 25's ArenaLoads. -/
import Derived.Test.YtjiphfobengdlaaAreS
import Derived.Test.YtjiphfobengdlaaBr
namespace Go.Proofs.Ytjiphfobengdlaa
open Go.RowKit
set_option linter.unusedVariables false
set_option linter.unusedSimpArgs false


set_option maxRecDepth 100000 in
set_option maxHeartbeats 4000000 in
theorem walk_arenaLoads (w : World) (s : Shp) (hs : s.rd w) (l : Row Nd) (hl : l.ok w) :
    Calls Try.prog 6 #[.agg s.cs, .slice l.A l.n l.c] w fun e w' => e = .returned (.bool true) ∧ Bel w w' := by
  have HSR := Lib.hid (fun w' (hb : Bel w w') => hs.mono hb)
  have HLR := Lib.hid (fun w' (hb : Bel w w') => hl.rds.mono hb)
  have HLC : Hid (l.n ≤ l.c) := hl.le
  have hll : Hid (l.l.length = l.n) := hl.len
  have l63 := hl.rds.n63
  have HSMA := Lib.hid (fun w' (hb : Bel w w') => smallS_any s w' (hs.mono hb))
  have HFEW := Lib.hid (fun w' (hb : Bel w w') => few24_any l 30 w' (hl.rds.mono hb) (by omega))
  have HMY := Lib.hid (fun w' (hb : Bel w w') => rmay24_any s w' (hs.mono hb))
  have H := Lib.hid ((SL.start No w).alloc s.cs 24)
  (try simp only [List.set_cons_zero, List.set_cons_succ, List.cons_append, List.nil_append, List.eraseIdx_cons_zero, List.eraseIdx_cons_succ, List.setIfInBounds_toArray, World.size_alloc, selR, List.getD_cons_zero, List.getD_cons_succ] at H)
  have hcs : s.cs = #[.slice s.sz.A s.sz.n s.sz.c, .int .i64 s.ms] := rfl
  have HCS := Lib.hid hcs
  clear hcs hs hl
  go_enter Try.func6, Try.ntmps6
  go_upto_region 1 with fail
  (try rw [← HCS.out] at *)
  generalize w.heap.size = x at *
  generalize World.alloc w _ = w1 at *
  go_wp2_with ((with_reducible show wpList _ _ _ (⟨some 9, _, _, _, _, _⟩ :: _) _ _); (refine wpList_load_blk rfl rowShp2 (.tmp 2) rfl _ rfl (H.out.blk 0 rfl) rfl ?_))
  refine (HSMA.out _ H.out.to).mono ?_; rintro e w2 ⟨b1, rfl, _, hb2⟩
  replace H := Lib.hid (H.out.bel hb2); (try simp only [List.set_cons_zero, List.set_cons_succ, List.cons_append, List.nil_append, List.eraseIdx_cons_zero, List.eraseIdx_cons_succ, List.setIfInBounds_toArray, World.size_alloc, selR, List.getD_cons_zero, List.getD_cons_succ] at H)
  clear hb2 HSMA
  cases b1 with
  | false =>
    go_wp2_with fail
    refine (awake25_any _).mono ?_; rintro e wz ⟨rfl, hbz⟩
    replace H := Lib.hid (H.out.bel hbz)
    go_wp2_with fail
    go_ret
    exact ⟨rfl, H.out.to⟩
  | true =>
  go_wp2_with fail
  refine (HFEW.out _ H.out.to).mono ?_; rintro e w3 ⟨b2, rfl, hfew, hb3⟩
  replace H := Lib.hid (H.out.bel hb3); (try simp only [List.set_cons_zero, List.set_cons_succ, List.cons_append, List.nil_append, List.eraseIdx_cons_zero, List.eraseIdx_cons_succ, List.setIfInBounds_toArray, World.size_alloc, selR, List.getD_cons_zero, List.getD_cons_succ] at H)
  clear hb3 HFEW
  cases b2 with
  | false =>
    go_wp2_with fail
    refine (awake25_any _).mono ?_; rintro e wz ⟨rfl, hbz⟩
    replace H := Lib.hid (H.out.bel hbz)
    go_wp2_with fail
    go_ret
    exact ⟨rfl, H.out.to⟩
  | true =>
  have hfew := hfew rfl
  have HSM := Lib.hid (hfew.sm (HLR.out _ (Bel.refl _)))
  have hn30 : l.n ≤ 30 := by have := hfew.1; omega
  have HLD := Lib.hid (fun w' (hb : Bel w w') => aload_any s l w' (HSR.out w' hb) (HLR.out w' hb) (by omega) HSM.out)
  clear hfew
  go_wp2_with ((with_reducible show wpList _ _ _ (⟨some 19, _, _, _, _, _⟩ :: _) _ _); (refine wpList_load_blk rfl rowShp2 (.tmp 2) rfl _ rfl (H.out.blk 0 rfl) rfl ?_))
  refine (HLD.out _ H.out.to).mono ?_; intro e w4 hld
  clear HLD
  unfold LoadPost at hld
  cases hok : shapeOk s.con s.ms with
  | false =>
    rw [hok, if_pos rfl] at hld
    obtain ⟨rfl, hb4⟩ := hld
    rw [hok] at HMY
    replace H := Lib.hid (H.out.bel hb4); (try simp only [List.set_cons_zero, List.set_cons_succ, List.cons_append, List.nil_append, List.eraseIdx_cons_zero, List.eraseIdx_cons_succ, List.setIfInBounds_toArray, World.size_alloc, selR, List.getD_cons_zero, List.getD_cons_succ] at H)
    clear hb4 hok
    go_wp2_with ((with_reducible show wpList _ _ _ (⟨some 24, _, _, _, _, _⟩ :: _) _ _); (refine wpList_load_blk rfl rowShp2 (.tmp 2) rfl _ rfl (H.out.blk 0 rfl) rfl ?_))
    refine (HMY.out _ H.out.to).mono ?_; rintro e w5 ⟨rfl, hb5⟩
    replace H := Lib.hid (H.out.bel hb5); (try simp only [List.set_cons_zero, List.set_cons_succ, List.cons_append, List.nil_append, List.eraseIdx_cons_zero, List.eraseIdx_cons_succ, List.setIfInBounds_toArray, World.size_alloc, selR, List.getD_cons_zero, List.getD_cons_succ] at H)
    clear hb5 HMY
    go_wp2_with fail
    refine (awake25_any _).mono ?_; rintro e wz ⟨rfl, hbz⟩
    replace H := Lib.hid (H.out.bel hbz)
    go_wp2_with fail
    go_ret
    exact ⟨rfl, H.out.to⟩
  | true =>
    rw [hok, if_neg (by simp)] at hld
    rw [hok] at HMY
    obtain ⟨E, hE⟩ : ∃ E, E = firstErr (loadAt s.con s.ms (l.l.map Nd.con)) (l.l.map Nd.con).length 0 := ⟨_, rfl⟩
    rw [← hE] at hld
    have HE : Hid (E = firstErr (loadAt s.con s.ms (l.l.map Nd.con)) (l.n - 0) 0) := by show _ = _; rw [hE, List.length_map, hll.out]; rfl
    clear hok hE
    by_cases hE0 : E ≠ 0
    · rw [if_pos hE0] at hld
      obtain ⟨rfl, hb4⟩ := hld
      replace H := Lib.hid (H.out.bel hb4); (try simp only [List.set_cons_zero, List.set_cons_succ, List.cons_append, List.nil_append, List.eraseIdx_cons_zero, List.eraseIdx_cons_succ, List.setIfInBounds_toArray, World.size_alloc, selR, List.getD_cons_zero, List.getD_cons_succ] at H)
      have HNZ := Lib.hid hE0
      clear hb4 hE0
      go_wp2_with ((with_reducible show wpList _ _ _ (⟨some 24, _, _, _, _, _⟩ :: _) _ _); (refine wpList_load_blk rfl rowShp2 (.tmp 2) rfl _ rfl (H.out.blk 0 rfl) rfl ?_))
      refine (HMY.out _ H.out.to).mono ?_; rintro e w5 ⟨rfl, hb5⟩
      replace H := Lib.hid (H.out.bel hb5); (try simp only [List.set_cons_zero, List.set_cons_succ, List.cons_append, List.nil_append, List.eraseIdx_cons_zero, List.eraseIdx_cons_succ, List.setIfInBounds_toArray, World.size_alloc, selR, List.getD_cons_zero, List.getD_cons_succ] at H)
      clear hb5 HMY
      go_upto_region 7 with fail
      go_loopg [38] l.n (fun gg s38 wr => ∃ (k : Nat), gg = l.n - k ∧ k ≤ l.n ∧ s38 = .int .i64 k ∧ Hid (E = firstErr (loadAt s.con s.ms (l.l.map Nd.con)) (l.n - k) k) ∧ Hid (SL No w wr [rBlk x 24 s.cs]))
      case atStart => exact ⟨0, rfl, by omega, rfl, HE, H⟩
      case round =>
        clear H HE
        obtain ⟨k, hgk, hk, rfl, HE, H⟩ := hrel
        have Hgk := Lib.hid hgk
        clear hgk
        by_cases hlt : k < l.n
        · obtain ⟨bl, ol, n, hAl, hbl, hnk, hnr, hrg⟩ := (HLR.out _ H.out.to).ndAt (k := k) hlt
          have hnm := List.mem_of_getElem? hnk
          have hkc : (l.l.map Nd.con)[k]? = some n.con := by rw [List.getElem?_map, hnk]; rfl
          obtain ⟨F, hF⟩ : ∃ F, F = loadAt s.con s.ms (l.l.map Nd.con) k := ⟨_, rfl⟩
          have HAD : Hid (∀ w', Bel w w' → Calls Try.prog 27 #[.agg s.cs, .int .i64 131072, .slice (l.part 0 k).A (l.part 0 k).n (l.part 0 k).c, .agg n.cs] w' fun e w2 => e = .returned (.int .i64 F) ∧ Bel w' w2) := fun w' hb => by
            have h := radd24_any s 131072 (l.part 0 k) n w' (HSR.out w' hb) (by unfold I64; omega) (part_rd (HLR.out w' hb) HLC.out (Nat.zero_le _) hk) ((HLR.out w' hb).all n hnm) (HSM.out n hnm).t
            rw [hF]
            unfold loadAt
            rw [hkc, Option.getD_some, ← List.map_take]
            exact h
          have HFE := Lib.hid hF
          have HRG := Lib.hid hrg
          have hsl := nds_upto l k (Nat.le_trans hk HLC.out)
          have k0 : (0 : Int) ≤ k := by omega
          have k1 : (k : Int) < l.n := by omega
          have HAL := Lib.hid hAl
          rw [hAl] at hsl ⊢
          clear hnk hnr hrg hAl hnm hkc hF
          go_upto_region 9 with fail
          refine wp_region_over (by kernel_rfl) (by kernel_rfl) ?_
          (try simp only [Act.put, List.setIfInBounds_toArray, List.set_cons_zero, List.set_cons_succ])
          repeat (first
            | ((with_reducible show wpQuiet _ _ _ _ (⟨some 41, _, _, _, _, _⟩ :: _) _); refine wpQuiet_load_row (by first | rfl | go_simp) rowShp2 (.tmp 2) rfl _ (0) rfl _ rfl (H.out.blk 0 rfl).lt (H.out.blk 0 rfl).range ?_; simp only [Act.put, List.setIfInBounds_toArray, List.set_cons_zero, List.set_cons_succ])
            | ((with_reducible show wpQuiet _ _ _ _ (⟨some 44, _, _, _, _, _⟩ :: _) _); refine wpQuiet_slice (by first | rfl | go_simp) (.tmp 42) none (some (.tmp 43)) rfl hsl ?_; simp only [Act.put, List.setIfInBounds_toArray, List.set_cons_zero, List.set_cons_succ])
            | ((with_reducible show wpQuiet _ _ _ _ (⟨some 48, _, _, _, _, _⟩ :: _) _); refine wpQuiet_load_row (by first | rfl | go_simp) rowNd (.tmp 47) rfl bl (ol + k * 14) rfl n.cs rfl hbl HRG.out ?_; simp only [Act.put, List.setIfInBounds_toArray, List.set_cons_zero, List.set_cons_succ])
            | go_big_quiet_step (((go_at_call 27; rename_i u; exact calls_over (HAD.out _ (H.out.to.trans u.bel)))))
            | go_big_quiet_step (fail))
          refine wpQuiet_nil ?_
          rintro w5 ⟨⟨_, hw5⟩, rfl⟩
          (try dsimp only)
          replace H := Lib.hid (H.out.bel hw5); (try simp only [List.set_cons_zero, List.set_cons_succ, List.cons_append, List.nil_append, List.eraseIdx_cons_zero, List.eraseIdx_cons_succ, List.setIfInBounds_toArray, World.size_alloc, selR, List.getD_cons_zero, List.getD_cons_succ] at H)
          skip
          clear hsl HAD HRG hbl
          by_cases hz : F = 0
          · have HE2 : Hid (E = firstErr (loadAt s.con s.ms (l.l.map Nd.con)) (l.n - (k + 1)) (k + 1)) := by show _ = _; rw [HE.out]; exact firstErr_next hlt (by rw [← HFE.out]; exact hz)
            clear HE HFE
            subst hz
            go_wp2_with fail
            rw [← HAL.out]
            go_roundg (l.n - (k + 1))
            case rel => exact ⟨k + 1, rfl, by omega, by go_num, HE2, H⟩
            case measure => rw [Hgk.out]; omega
          · have hEF : E = F := by rw [HE.out]; exact firstErr_hit hlt HFE.out.symm hz
            have d1 : (F != 0) = true := by simpa using hz
            subst hEF
            clear HE HFE hz
            go_wp2_with fail
            refine (awake25_any _).mono ?_; rintro e wz ⟨rfl, hbz⟩
            replace H := Lib.hid (H.out.bel hbz)
            go_wp2_with fail
            go_ret
            exact ⟨rfl, H.out.to⟩
        · obtain rfl : k = l.n := by omega
          have hE0 : E = 0 := by rw [HE.out, Nat.sub_self]; rfl
          exact absurd hE0 HNZ.out
    · rw [if_neg hE0] at hld
      obtain ⟨b, z, rfl, ⟨hok, hzn, hzc, hzm⟩, hzl, hz⟩ := hld
      have HZS : Hid (z.shp.con = s.con ∧ z.ms = s.ms) := ⟨hzc, hzm⟩
      have HZL := Lib.hid hzl
      have HNZ : Hid (E = 0) := Classical.not_not.1 hE0
      replace H := Lib.hid ((H.out.join hz).mkAr hok); (try simp only [List.set_cons_zero, List.set_cons_succ, List.cons_append, List.nil_append, List.eraseIdx_cons_zero, List.eraseIdx_cons_succ, List.setIfInBounds_toArray, World.size_alloc, selR, List.getD_cons_zero, List.getD_cons_succ] at H)
      clear hz hzn hzc hzm hzl hE0
      go_wp2_with ((with_reducible show wpList _ _ _ (⟨some 24, _, _, _, _, _⟩ :: _) _ _); (refine wpList_load_blk rfl rowShp2 (.tmp 2) rfl _ rfl (H.out.blk 0 rfl) rfl ?_))
      refine (HMY.out _ H.out.to).mono ?_; rintro e w5 ⟨rfl, hb5⟩
      replace H := Lib.hid (H.out.bel hb5); (try simp only [List.set_cons_zero, List.set_cons_succ, List.cons_append, List.nil_append, List.eraseIdx_cons_zero, List.eraseIdx_cons_succ, List.setIfInBounds_toArray, World.size_alloc, selR, List.getD_cons_zero, List.getD_cons_succ] at H)
      clear hb5 HMY
      go_upto_region 7 with fail
      go_loopg [38] l.n (fun gg s38 wr => ∃ (k : Nat), gg = l.n - k ∧ k ≤ l.n ∧ s38 = .int .i64 k ∧ Hid (E = firstErr (loadAt s.con s.ms (l.l.map Nd.con)) (l.n - k) k) ∧ Hid (SL No w wr [rBlk x 24 s.cs, rAr b z]))
      case atStart => exact ⟨0, rfl, by omega, rfl, HE, H⟩
      case round =>
        clear H HE
        obtain ⟨k, hgk, hk, rfl, HE, H⟩ := hrel
        have Hgk := Lib.hid hgk
        clear hgk
        by_cases hlt : k < l.n
        · obtain ⟨bl, ol, n, hAl, hbl, hnk, hnr, hrg⟩ := (HLR.out _ H.out.to).ndAt (k := k) hlt
          have hnm := List.mem_of_getElem? hnk
          have hkc : (l.l.map Nd.con)[k]? = some n.con := by rw [List.getElem?_map, hnk]; rfl
          obtain ⟨F, hF⟩ : ∃ F, F = loadAt s.con s.ms (l.l.map Nd.con) k := ⟨_, rfl⟩
          have HAD : Hid (∀ w', Bel w w' → Calls Try.prog 27 #[.agg s.cs, .int .i64 131072, .slice (l.part 0 k).A (l.part 0 k).n (l.part 0 k).c, .agg n.cs] w' fun e w2 => e = .returned (.int .i64 F) ∧ Bel w' w2) := fun w' hb => by
            have h := radd24_any s 131072 (l.part 0 k) n w' (HSR.out w' hb) (by unfold I64; omega) (part_rd (HLR.out w' hb) HLC.out (Nat.zero_le _) hk) ((HLR.out w' hb).all n hnm) (HSM.out n hnm).t
            rw [hF]
            unfold loadAt
            rw [hkc, Option.getD_some, ← List.map_take]
            exact h
          have HFE := Lib.hid hF
          have HRG := Lib.hid hrg
          have hsl := nds_upto l k (Nat.le_trans hk HLC.out)
          have k0 : (0 : Int) ≤ k := by omega
          have k1 : (k : Int) < l.n := by omega
          have HAL := Lib.hid hAl
          rw [hAl] at hsl ⊢
          clear hnk hnr hrg hAl hnm hkc hF
          go_upto_region 9 with fail
          refine wp_region_over (by kernel_rfl) (by kernel_rfl) ?_
          (try simp only [Act.put, List.setIfInBounds_toArray, List.set_cons_zero, List.set_cons_succ])
          repeat (first
            | ((with_reducible show wpQuiet _ _ _ _ (⟨some 41, _, _, _, _, _⟩ :: _) _); refine wpQuiet_load_row (by first | rfl | go_simp) rowShp2 (.tmp 2) rfl _ (0) rfl _ rfl (H.out.blk 0 rfl).lt (H.out.blk 0 rfl).range ?_; simp only [Act.put, List.setIfInBounds_toArray, List.set_cons_zero, List.set_cons_succ])
            | ((with_reducible show wpQuiet _ _ _ _ (⟨some 44, _, _, _, _, _⟩ :: _) _); refine wpQuiet_slice (by first | rfl | go_simp) (.tmp 42) none (some (.tmp 43)) rfl hsl ?_; simp only [Act.put, List.setIfInBounds_toArray, List.set_cons_zero, List.set_cons_succ])
            | ((with_reducible show wpQuiet _ _ _ _ (⟨some 48, _, _, _, _, _⟩ :: _) _); refine wpQuiet_load_row (by first | rfl | go_simp) rowNd (.tmp 47) rfl bl (ol + k * 14) rfl n.cs rfl hbl HRG.out ?_; simp only [Act.put, List.setIfInBounds_toArray, List.set_cons_zero, List.set_cons_succ])
            | go_big_quiet_step (((go_at_call 27; rename_i u; exact calls_over (HAD.out _ (H.out.to.trans u.bel)))))
            | go_big_quiet_step (fail))
          refine wpQuiet_nil ?_
          rintro w5 ⟨⟨_, hw5⟩, rfl⟩
          (try dsimp only)
          replace H := Lib.hid (H.out.bel hw5); (try simp only [List.set_cons_zero, List.set_cons_succ, List.cons_append, List.nil_append, List.eraseIdx_cons_zero, List.eraseIdx_cons_succ, List.setIfInBounds_toArray, World.size_alloc, selR, List.getD_cons_zero, List.getD_cons_succ] at H)
          skip
          clear hsl HAD HRG hbl
          by_cases hz : F = 0
          · have HE2 : Hid (E = firstErr (loadAt s.con s.ms (l.l.map Nd.con)) (l.n - (k + 1)) (k + 1)) := by show _ = _; rw [HE.out]; exact firstErr_next hlt (by rw [← HFE.out]; exact hz)
            clear HE HFE
            subst hz
            go_wp2_with fail
            rw [← HAL.out]
            go_roundg (l.n - (k + 1))
            case rel => exact ⟨k + 1, rfl, by omega, by go_num, HE2, H⟩
            case measure => rw [Hgk.out]; omega
          · have hEF : E = F := by rw [HE.out]; exact firstErr_hit hlt HFE.out.symm hz
            exact absurd (hEF.symm.trans HNZ.out) hz
        · obtain rfl : k = l.n := by omega
          have hE0 : E = 0 := by rw [HE.out, Nat.sub_self]; rfl
          subst hE0
          clear HE
          go_upto_region 13 with fail
          refine wp_region_held_drew (S := fun _ => True) (by kernel_rfl) trivial (fun hHeld => ?_)
          replace H := Lib.hid (H.out.drew); (try simp only [List.set_cons_zero, List.set_cons_succ, List.cons_append, List.nil_append, List.eraseIdx_cons_zero, List.eraseIdx_cons_succ, List.setIfInBounds_toArray, World.size_alloc, selR, List.getD_cons_zero, List.getD_cons_succ] at H)
          generalize World.drew _ = w8 at *
          refine wpAnyH_take (i := 0) (v := ?vq7_0) (get_o0) (by kernel_rfl) (by kernel_rfl) (by kernel_rfl) (by exact fun _ _ _ h => h) (Or.inl ⟨by rfl, ?hyq7_0⟩) (by assumption) ?_
          case hyq7_0 => (intro w hSw; (try dsimp only at hSw); go_simp) <;> with_reducible rfl
          try simp only [Act.put, List.setIfInBounds_toArray, List.set_cons_zero, List.set_cons_succ]
          refine wpAnyH_take (i := 1) (v := ?vq7_1) (get_os (get_o0)) (by kernel_rfl) (by kernel_rfl) (by kernel_rfl) (by exact fun _ _ _ h => h) (Or.inl ⟨by rfl, ?hyq7_1⟩) (by assumption) ?_
          case hyq7_1 => (intro w hSw; (try dsimp only at hSw); go_simp) <;> with_reducible rfl
          try simp only [Act.put, List.setIfInBounds_toArray, List.set_cons_zero, List.set_cons_succ]
          refine wpAnyH_take (i := 2) (v := ?vq7_2) (get_os (get_os (get_o0))) (by kernel_rfl) (by kernel_rfl) (by kernel_rfl) (by exact fun _ _ _ h => h) (Or.inl ⟨by rfl, ?hyq7_2⟩) (by assumption) ?_
          case hyq7_2 => (intro w hSw; (try dsimp only at hSw); go_simp) <;> with_reducible rfl
          try simp only [Act.put, List.setIfInBounds_toArray, List.set_cons_zero, List.set_cons_succ]
          refine wpAnyH_take (i := 3) (v := ?vq7_3) (get_os (get_os (get_os (get_o0)))) (by kernel_rfl) (by kernel_rfl) (by kernel_rfl) (by exact fun _ _ _ h => h) (Or.inl ⟨by rfl, ?hyq7_3⟩) (by assumption) ?_
          case hyq7_3 => (intro w hSw; (try dsimp only at hSw); go_simp) <;> with_reducible rfl
          try simp only [Act.put, List.setIfInBounds_toArray, List.set_cons_zero, List.set_cons_succ]
          refine wpAnyH_take (i := 5) (v := ?vq7_5) (get_os (get_os (get_os (get_os (get_os (get_o0)))))) (by kernel_rfl) (by kernel_rfl) (by kernel_rfl) (by exact fun _ _ _ h => h) (Or.inl ⟨by rfl, ?hyq7_5⟩) (by assumption) ?_
          case hyq7_5 => (intro w hSw; (try dsimp only at hSw); go_simp) <;> with_reducible rfl
          try simp only [Act.put, List.setIfInBounds_toArray, List.set_cons_zero, List.set_cons_succ]
          refine wpAnyH_ready (rs := [4]) (by kernel_rfl) (by simp) ?_
          refine (AllReadyH.cons (get_os (get_os (get_os (get_os (get_o0))))) (fun KK hKK => ?_) AllReadyH.nil)
          go_simp
          refine (anodes_any b z _ hok (H.out.at_ 1 rfl)).mono ?_; rintro e' w6 ⟨l2, rfl, hl2, hr2, hb6⟩
          replace H := Lib.hid (H.out.bel hb6); (try simp only [List.set_cons_zero, List.set_cons_succ, List.cons_append, List.nil_append, List.eraseIdx_cons_zero, List.eraseIdx_cons_succ, List.setIfInBounds_toArray, World.size_alloc, selR, List.getD_cons_zero, List.getD_cons_succ] at H)
          have HL2 := Lib.hid hl2
          clear hl2 hb6
          refine hKK.out _ _ trivial (fun hHeld => ?_)
          clear hKK KK
          try simp only [Act.put, List.setIfInBounds_toArray, List.set_cons_zero, List.set_cons_succ]
          refine wpAnyH_ready (rs := [6]) (by kernel_rfl) (by simp) ?_
          refine (AllReadyH.cons (get_os (get_os (get_os (get_os (get_os (get_os (get_o0))))))) (fun KK hKK => ?_) AllReadyH.nil)
          go_simp
          refine (rall24_any l2 l _ hr2 (HLR.out _ H.out.to) (by rw [HL2.out]; exact HZL.out)).mono ?_; rintro e' w7 ⟨rfl, hb7⟩
          replace H := Lib.hid (H.out.bel hb7); (try simp only [List.set_cons_zero, List.set_cons_succ, List.cons_append, List.nil_append, List.eraseIdx_cons_zero, List.eraseIdx_cons_succ, List.setIfInBounds_toArray, World.size_alloc, selR, List.getD_cons_zero, List.getD_cons_succ] at H)
          clear hb7 hr2 HL2
          refine hKK.out _ _ trivial (fun hHeld => ?_)
          clear hKK KK
          try simp only [Act.put, List.setIfInBounds_toArray, List.set_cons_zero, List.set_cons_succ]
          refine wpAnyH_take (i := 7) (v := ?vq8_) (get_os (get_os (get_os (get_os (get_os (get_os (get_os (get_o0)))))))) (by kernel_rfl) (by kernel_rfl) (by kernel_rfl) (by exact fun _ _ _ h => h) (Or.inl ⟨by rfl, ?hyq8_⟩) (by assumption) ?_
          case hyq8_ => (intro w hSw; (try dsimp only at hSw); go_simp) <;> with_reducible rfl
          try simp only [Act.put, List.setIfInBounds_toArray, List.set_cons_zero, List.set_cons_succ]
          refine wpAnyH_take (i := 8) (v := ?vq9_) (get_os (get_os (get_os (get_os (get_os (get_os (get_os (get_os (get_o0))))))))) (by kernel_rfl) (by kernel_rfl) (by kernel_rfl) (by exact fun _ _ _ h => h) (Or.inl ⟨by rfl, ?hyq9_⟩) (by assumption) ?_
          case hyq9_ => (intro w hSw; (try dsimp only at hSw); go_simp) <;> with_reducible rfl
          try simp only [Act.put, List.setIfInBounds_toArray, List.set_cons_zero, List.set_cons_succ]
          refine wpAnyH_take (i := 9) (v := ?vq10_) (get_os (get_os (get_os (get_os (get_os (get_os (get_os (get_os (get_os (get_o0)))))))))) (by kernel_rfl) (by kernel_rfl) (by kernel_rfl) (by exact fun _ _ _ h => h) (Or.inl ⟨by rfl, ?hyq10_⟩) (by assumption) ?_
          case hyq10_ => (intro w hSw; (try dsimp only at hSw); go_simp) <;> with_reducible rfl
          try simp only [Act.put, List.setIfInBounds_toArray, List.set_cons_zero, List.set_cons_succ]
          refine wpAnyH_ready (rs := [10, 11]) (by kernel_rfl) (by simp) ?_
          refine (AllReadyH.cons (get_ot (get_o0)) (fun KK hKK => ?_) (AllReadyH.cons (get_ot (get_os (get_o0))) (fun KK hKK => ?_) AllReadyH.nil))
          · go_simp
            refine (ashape_any b z _ hok (H.out.at_ 1 rfl)).mono ?_; rintro e' w8 ⟨s2, rfl, hs2, hm2, hr8, hb8⟩
            replace H := Lib.hid (H.out.bel hb8); (try simp only [List.set_cons_zero, List.set_cons_succ, List.cons_append, List.nil_append, List.eraseIdx_cons_zero, List.eraseIdx_cons_succ, List.setIfInBounds_toArray, World.size_alloc, selR, List.getD_cons_zero, List.getD_cons_succ] at H)
            have HS2 := Lib.hid hs2
            have HM2 := Lib.hid hm2
            clear hs2 hm2 hb8
            refine hKK.out _ _ trivial (fun hHeld => ?_)
            clear hKK KK
            try simp only [Act.put, List.setIfInBounds_toArray, List.set_cons_zero, List.set_cons_succ]
            refine wpAnyH_ready (rs := [11]) (by kernel_rfl) (by simp) ?_
            refine (AllReadyH.cons (get_ot (get_os (get_o0))) (fun KK hKK => ?_) AllReadyH.nil)
            refine step_load_blkW (by rfl) rowShp2 (.tmp 2) rfl _ 0 rfl (H.out.blk 0 rfl).range rfl ?_
            refine hKK.out _ _ trivial (fun hHeld => ?_)
            clear hKK KK
            try simp only [Act.put, List.setIfInBounds_toArray, List.set_cons_zero, List.set_cons_succ]
            refine wpAnyH_ready (rs := [12]) (by kernel_rfl) (by simp) ?_
            refine (AllReadyH.cons (get_ot (get_os (get_os (get_o0)))) (fun KK hKK => ?_) AllReadyH.nil)
            go_simp
            refine (same25_any s2 s _ hr8 (HSR.out _ H.out.to) (by rw [HM2.out]; exact HZS.out.2) (by rw [HS2.out]; exact HZS.out.1)).mono ?_; rintro e' w9 ⟨rfl, hb9⟩
            replace H := Lib.hid (H.out.bel hb9); (try simp only [List.set_cons_zero, List.set_cons_succ, List.cons_append, List.nil_append, List.eraseIdx_cons_zero, List.eraseIdx_cons_succ, List.setIfInBounds_toArray, World.size_alloc, selR, List.getD_cons_zero, List.getD_cons_succ] at H)
            clear hb9 hr8 HS2 HM2
            refine hKK.out _ _ trivial (fun hHeld => ?_)
            clear hKK KK
            try simp only [Act.put, List.setIfInBounds_toArray, List.set_cons_zero, List.set_cons_succ]
            refine wpAnyH_take (i := 13) (v := ?vq11_) (get_ot (get_os (get_os (get_os (get_o0))))) (by kernel_rfl) (by kernel_rfl) (by kernel_rfl) (by exact fun _ _ _ h => h) (Or.inl ⟨by rfl, ?hyq11_⟩) (by assumption) ?_
            case hyq11_ => (intro w hSw; (try dsimp only at hSw); go_simp) <;> with_reducible rfl
            try simp only [Act.put, List.setIfInBounds_toArray, List.set_cons_zero, List.set_cons_succ]
            refine wpAnyH_take (i := 14) (v := ?vq12_) (get_ot (get_os (get_os (get_os (get_os (get_o0)))))) (by kernel_rfl) (by kernel_rfl) (by kernel_rfl) (by exact fun _ _ _ h => h) (Or.inl ⟨by rfl, ?hyq12_⟩) (by assumption) ?_
            case hyq12_ => (intro w hSw; (try dsimp only at hSw); go_simp) <;> with_reducible rfl
            try simp only [Act.put, List.setIfInBounds_toArray, List.set_cons_zero, List.set_cons_succ]
            refine wpAnyH_ready (rs := [15]) (by kernel_rfl) (by simp) ?_
            refine (AllReadyH.cons (get_ot (get_os (get_os (get_os (get_os (get_os (get_o0))))))) (fun KK hKK => ?_) AllReadyH.nil)
            go_simp
            refine (awake25_any _).mono ?_; rintro e' w10 ⟨rfl, hb10⟩
            replace H := Lib.hid (H.out.bel hb10); (try simp only [List.set_cons_zero, List.set_cons_succ, List.cons_append, List.nil_append, List.eraseIdx_cons_zero, List.eraseIdx_cons_succ, List.setIfInBounds_toArray, World.size_alloc, selR, List.getD_cons_zero, List.getD_cons_succ] at H)
            clear hb10
            refine hKK.out _ _ trivial (fun hHeld => ?_)
            clear hKK KK
            try simp only [Act.put, List.setIfInBounds_toArray, List.set_cons_zero, List.set_cons_succ]
            refine wpAnyH_take (i := 16) (v := ?vq13_) (get_ot (get_os (get_os (get_os (get_os (get_os (get_os (get_o0)))))))) (by kernel_rfl) (by kernel_rfl) (by kernel_rfl) (by exact fun _ _ _ h => h) (Or.inl ⟨by rfl, ?hyq13_⟩) (by assumption) ?_
            case hyq13_ => (intro w hSw; (try dsimp only at hSw); go_simp) <;> with_reducible rfl
            try simp only [Act.put, List.setIfInBounds_toArray, List.set_cons_zero, List.set_cons_succ]
            refine wpAnyH_take (i := 17) (v := ?vq14_) (get_ot (get_os (get_os (get_os (get_os (get_os (get_os (get_os (get_o0))))))))) (by kernel_rfl) (by kernel_rfl) (by kernel_rfl) (by exact fun _ _ _ h => h) (Or.inl ⟨by rfl, ?hyq14_⟩) (by assumption) ?_
            case hyq14_ => (intro w hSw; (try dsimp only at hSw); go_simp) <;> with_reducible rfl
            try simp only [Act.put, List.setIfInBounds_toArray, List.set_cons_zero, List.set_cons_succ]
            refine wpAnyH_done (by kernel_rfl) ?_ _
            clear hHeld
            go_wp2_with fail
            go_ret
            exact ⟨rfl, H.out.to⟩
          · refine step_load_blkW (by rfl) rowShp2 (.tmp 2) rfl _ 0 rfl (H.out.blk 0 rfl).range rfl ?_
            refine hKK.out _ _ trivial (fun hHeld => ?_)
            clear hKK KK
            try simp only [Act.put, List.setIfInBounds_toArray, List.set_cons_zero, List.set_cons_succ]
            refine wpAnyH_ready (rs := [10]) (by kernel_rfl) (by simp) ?_
            refine (AllReadyH.cons (get_ot (get_o0)) (fun KK hKK => ?_) AllReadyH.nil)
            go_simp
            refine (ashape_any b z _ hok (H.out.at_ 1 rfl)).mono ?_; rintro e' w8 ⟨s2, rfl, hs2, hm2, hr8, hb8⟩
            replace H := Lib.hid (H.out.bel hb8); (try simp only [List.set_cons_zero, List.set_cons_succ, List.cons_append, List.nil_append, List.eraseIdx_cons_zero, List.eraseIdx_cons_succ, List.setIfInBounds_toArray, World.size_alloc, selR, List.getD_cons_zero, List.getD_cons_succ] at H)
            have HS2 := Lib.hid hs2
            have HM2 := Lib.hid hm2
            clear hs2 hm2 hb8
            refine hKK.out _ _ trivial (fun hHeld => ?_)
            clear hKK KK
            try simp only [Act.put, List.setIfInBounds_toArray, List.set_cons_zero, List.set_cons_succ]
            refine wpAnyH_ready (rs := [12]) (by kernel_rfl) (by simp) ?_
            refine (AllReadyH.cons (get_ot (get_os (get_os (get_o0)))) (fun KK hKK => ?_) AllReadyH.nil)
            go_simp
            refine (same25_any s2 s _ hr8 (HSR.out _ H.out.to) (by rw [HM2.out]; exact HZS.out.2) (by rw [HS2.out]; exact HZS.out.1)).mono ?_; rintro e' w9 ⟨rfl, hb9⟩
            replace H := Lib.hid (H.out.bel hb9); (try simp only [List.set_cons_zero, List.set_cons_succ, List.cons_append, List.nil_append, List.eraseIdx_cons_zero, List.eraseIdx_cons_succ, List.setIfInBounds_toArray, World.size_alloc, selR, List.getD_cons_zero, List.getD_cons_succ] at H)
            clear hb9 hr8 HS2 HM2
            refine hKK.out _ _ trivial (fun hHeld => ?_)
            clear hKK KK
            try simp only [Act.put, List.setIfInBounds_toArray, List.set_cons_zero, List.set_cons_succ]
            refine wpAnyH_take (i := 13) (v := ?vq15_) (get_ot (get_os (get_os (get_os (get_o0))))) (by kernel_rfl) (by kernel_rfl) (by kernel_rfl) (by exact fun _ _ _ h => h) (Or.inl ⟨by rfl, ?hyq15_⟩) (by assumption) ?_
            case hyq15_ => (intro w hSw; (try dsimp only at hSw); go_simp) <;> with_reducible rfl
            try simp only [Act.put, List.setIfInBounds_toArray, List.set_cons_zero, List.set_cons_succ]
            refine wpAnyH_take (i := 14) (v := ?vq16_) (get_ot (get_os (get_os (get_os (get_os (get_o0)))))) (by kernel_rfl) (by kernel_rfl) (by kernel_rfl) (by exact fun _ _ _ h => h) (Or.inl ⟨by rfl, ?hyq16_⟩) (by assumption) ?_
            case hyq16_ => (intro w hSw; (try dsimp only at hSw); go_simp) <;> with_reducible rfl
            try simp only [Act.put, List.setIfInBounds_toArray, List.set_cons_zero, List.set_cons_succ]
            refine wpAnyH_ready (rs := [15]) (by kernel_rfl) (by simp) ?_
            refine (AllReadyH.cons (get_ot (get_os (get_os (get_os (get_os (get_os (get_o0))))))) (fun KK hKK => ?_) AllReadyH.nil)
            go_simp
            refine (awake25_any _).mono ?_; rintro e' w10 ⟨rfl, hb10⟩
            replace H := Lib.hid (H.out.bel hb10); (try simp only [List.set_cons_zero, List.set_cons_succ, List.cons_append, List.nil_append, List.eraseIdx_cons_zero, List.eraseIdx_cons_succ, List.setIfInBounds_toArray, World.size_alloc, selR, List.getD_cons_zero, List.getD_cons_succ] at H)
            clear hb10
            refine hKK.out _ _ trivial (fun hHeld => ?_)
            clear hKK KK
            try simp only [Act.put, List.setIfInBounds_toArray, List.set_cons_zero, List.set_cons_succ]
            refine wpAnyH_take (i := 16) (v := ?vq17_) (get_ot (get_os (get_os (get_os (get_os (get_os (get_os (get_o0)))))))) (by kernel_rfl) (by kernel_rfl) (by kernel_rfl) (by exact fun _ _ _ h => h) (Or.inl ⟨by rfl, ?hyq17_⟩) (by assumption) ?_
            case hyq17_ => (intro w hSw; (try dsimp only at hSw); go_simp) <;> with_reducible rfl
            try simp only [Act.put, List.setIfInBounds_toArray, List.set_cons_zero, List.set_cons_succ]
            refine wpAnyH_take (i := 17) (v := ?vq18_) (get_ot (get_os (get_os (get_os (get_os (get_os (get_os (get_os (get_o0))))))))) (by kernel_rfl) (by kernel_rfl) (by kernel_rfl) (by exact fun _ _ _ h => h) (Or.inl ⟨by rfl, ?hyq18_⟩) (by assumption) ?_
            case hyq18_ => (intro w hSw; (try dsimp only at hSw); go_simp) <;> with_reducible rfl
            try simp only [Act.put, List.setIfInBounds_toArray, List.set_cons_zero, List.set_cons_succ]
            refine wpAnyH_done (by kernel_rfl) ?_ _
            clear hHeld
            go_wp2_with fail
            go_ret
            exact ⟨rfl, H.out.to⟩

end Go.Proofs.Ytjiphfobengdlaa
