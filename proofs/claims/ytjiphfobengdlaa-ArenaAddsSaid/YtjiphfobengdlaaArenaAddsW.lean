/- The walk of law 25's ArenaAdds. -/
import Derived.Test.YtjiphfobengdlaaAreS
import Derived.Test.YtjiphfobengdlaaAreU
import Derived.Test.YtjiphfobengdlaaAreQ
import Derived.Test.YtjiphfobengdlaaBr
namespace Go.Proofs.Ytjiphfobengdlaa
open Go.RowKit
set_option linter.unusedVariables false
set_option linter.unusedSimpArgs false


theorem addE_addErr {xs : List (List Int)} {ms most : Int} {z : Arn} {n : Nd} {m : Nat} (h1 : z.shp.con = xs) (h2 : z.ms = ms) (h3 : z.most = most) (h4 : z.nd.n = m) (h5 : xs.length = z.sz.n) {l : List NC} (h6 : l.length = m) (h7 : l = z.nd.l.map Nd.con) : addE (leadsN z.sz.n (z.nd.l.map Nd.con) n.con) z n = addErr xs ms most l n.con := by
  unfold addE addErr
  rw [h1, h2, h3, h4, h5, h6, h7]
theorem addErr_zero {xs : List (List Int)} {ms most : Int} {l : List NC} {n : NC} (h : addErr xs ms most l n = 0) : nodeErr xs ms n = 0 ∧ leadsN xs.length l n = true := by
  unfold addErr at h
  by_cases h1 : nodeErr xs ms n ≠ 0
  · rw [if_pos h1] at h; exact absurd h h1
  · rw [if_neg h1] at h
    by_cases h2 : leadsN xs.length l n = false
    · rw [if_pos h2] at h; omega
    · exact ⟨Classical.not_not.1 h1, by simpa using h2⟩
set_option maxRecDepth 100000 in
set_option maxHeartbeats 8000000 in
theorem walk_arenaAdds (w : World) (s : Shp) (hs : s.rd w) (most : Int) (wm : (Lit.int .i64 most).wf = true) (l : Row Nd) (hl : l.ok w) (i : Int) (wi : (Lit.int .i64 i).wf = true) :
    Calls Try.prog 4 #[.agg s.cs, .int .i64 most, .slice l.A l.n l.c, .int .i64 i] w fun e w' => e = .returned (.bool true) ∧ Bel w w' := by
  have m64 : I64 most := i64_of wm
  have i64 : I64 i := i64_of wi
  have HSR := Lib.hid (fun w' (hb : Bel w w') => hs.mono hb)
  have HLR := Lib.hid (fun w' (hb : Bel w w') => hl.rds.mono hb)
  have hll : Hid (l.l.length = l.n) := hl.len
  have l63 := hl.rds.n63
  have HSMA := Lib.hid (fun w' (hb : Bel w w') => smallS_any s w' (hs.mono hb))
  have HFEW := Lib.hid (fun w' (hb : Bel w w') => few24_any l 30 w' (hl.rds.mono hb) (by omega))
  have HMY := Lib.hid (fun w' (hb : Bel w w') => rmay24_any s w' (hs.mono hb))
  have HAM := Lib.hid (fun w' (hb : Bel w w') => amay_any s w' (hs.mono hb))
  have HNW := Lib.hid (fun w' (hb : Bel w w') => anew_any s most w' (hs.mono hb) m64)
  have HSL : Hid (s.con.length = s.sz.n) := by show _ = _; rw [List.length_map]; exact hs.sz.len
  have HSI : Hid (∀ y ∈ s.sz.l, ∀ z ∈ y.l, I64 z) := fun y hy => (hs.sz.all y hy).all
  have M64 := Lib.hid m64
  have I64I := Lib.hid i64
  unfold I64 at m64 i64
  have H := Lib.hid ((SL.start No w).alloc s.cs 24)
  (try simp only [List.set_cons_zero, List.set_cons_succ, List.cons_append, List.nil_append, List.eraseIdx_cons_zero, List.eraseIdx_cons_succ, List.setIfInBounds_toArray, World.size_alloc, selR, List.getD_cons_zero, List.getD_cons_succ] at H)
  have hcs : s.cs = #[.slice s.sz.A s.sz.n s.sz.c, .int .i64 s.ms] := rfl
  have HCS := Lib.hid hcs
  clear hcs hs hl wm wi
  go_enter Try.func4, Try.ntmps4
  go_upto_region 1 with fail
  (try rw [← HCS.out] at *)
  generalize w.heap.size = p at *
  generalize World.alloc w _ = w1 at *
  go_wp2_with ((with_reducible show wpList _ _ _ (⟨some 19, _, _, _, _, _⟩ :: _) _ _); (refine wpList_load_blk rfl rowShp2 (.tmp 4) rfl _ rfl (H.out.blk 0 rfl) rfl ?_))
  refine (HSMA.out _ H.out.to).mono ?_; rintro e w2 ⟨b1, rfl, _, hb2⟩
  replace H := Lib.hid (H.out.bel hb2); (try simp only [List.set_cons_zero, List.set_cons_succ, List.cons_append, List.nil_append, List.eraseIdx_cons_zero, List.eraseIdx_cons_succ, List.setIfInBounds_toArray, World.size_alloc, selR, List.getD_cons_zero, List.getD_cons_succ] at H)
  clear hb2 HSMA
  cases b1 with
  | false =>
    go_wp2_with fail
    refine (awake25_any _).mono ?_; rintro e wz ⟨rfl, hbz⟩
    replace H := Lib.hid (H.out.bel hbz)
    go_wp2_with fail
    go_ret
    exact ⟨rfl, H.out.to⟩
  | true =>
  go_wp2_with fail
  refine (HFEW.out _ H.out.to).mono ?_; rintro e w3 ⟨b2, rfl, hfew, hb3⟩
  replace H := Lib.hid (H.out.bel hb3); (try simp only [List.set_cons_zero, List.set_cons_succ, List.cons_append, List.nil_append, List.eraseIdx_cons_zero, List.eraseIdx_cons_succ, List.setIfInBounds_toArray, World.size_alloc, selR, List.getD_cons_zero, List.getD_cons_succ] at H)
  clear hb3 HFEW
  cases b2 with
  | false =>
    go_wp2_with fail
    refine (awake25_any _).mono ?_; rintro e wz ⟨rfl, hbz⟩
    replace H := Lib.hid (H.out.bel hbz)
    go_wp2_with fail
    go_ret
    exact ⟨rfl, H.out.to⟩
  | true =>
  have hfew := hfew rfl
  have HSM := Lib.hid (hfew.sm (HLR.out _ (Bel.refl _)))
  have hn30 : l.n ≤ 30 := by have := hfew.1; omega
  clear hfew
  go_wp2_with ((with_reducible show wpList _ _ _ (⟨some 29, _, _, _, _, _⟩ :: _) _ _); (refine wpList_load_blk rfl rowShp2 (.tmp 4) rfl _ rfl (H.out.blk 0 rfl) rfl ?_))
  refine (HNW.out _ H.out.to).mono ?_; intro e w4 hnew
  clear HNW
  unfold NewPost at hnew
  by_cases hok : shapeOk s.con s.ms = true ∧ 0 ≤ most ∧ most ≤ 131072
  · rw [if_pos hok] at hnew
    obtain ⟨b, A, c, LI, rfl, hLc, hLn, hnew⟩ := hnew
    have hle := shape_le hok.1
    have h16 : s.sz.n ≤ 16 := by have h := hle.1.2; rw [HSL.out] at h; exact h
    have h01 : 1 ≤ s.sz.n := by have h := hle.1.1; rw [HSL.out] at h; exact h
    have hok0 : Hid (Arn.ok (Arn.mk ⟨A, s.sz.n, c, LI⟩ s.ms ⟨none, 0, 0, []⟩ most)) := by
      refine ⟨by have := hle.2.1; show I64 s.ms; unfold I64; omega, hok.2.1, hok.2.2, h01, h16, fun y hy => ?_, Nat.zero_le _⟩
      have hm : y.l ∈ s.con := by rw [← hLc]; exact List.mem_map.2 ⟨y, hy, rfl⟩
      obtain ⟨y', hy', e⟩ := List.mem_map.1 hm
      exact ⟨hle.2.2 _ hm, by rw [← e]; exact HSI.out y' hy'⟩
    rw [hok.1] at HMY HAM
    have mo0 : decide (most < 0) = false := by simp; exact hok.2.1
    have mo1 : decide (131072 < most) = false := by simp; exact hok.2.2
    replace H := Lib.hid (H.out.join hnew); (try simp only [List.set_cons_zero, List.set_cons_succ, List.cons_append, List.nil_append, List.eraseIdx_cons_zero, List.eraseIdx_cons_succ, List.setIfInBounds_toArray, World.size_alloc, selR, List.getD_cons_zero, List.getD_cons_succ] at H)
    replace H := Lib.hid (H.out.addNil 44 14); (try simp only [List.set_cons_zero, List.set_cons_succ, List.cons_append, List.nil_append, List.eraseIdx_cons_zero, List.eraseIdx_cons_succ, List.setIfInBounds_toArray, World.size_alloc, selR, List.getD_cons_zero, List.getD_cons_succ] at H)
    replace H := Lib.hid (H.out.add (Bel.refl _) (rListD rNd []) (holds_listD_nil _ _) listD_nil_D); (try simp only [List.set_cons_zero, List.set_cons_succ, List.cons_append, List.nil_append, List.eraseIdx_cons_zero, List.eraseIdx_cons_succ, List.setIfInBounds_toArray, World.size_alloc, selR, List.getD_cons_zero, List.getD_cons_succ] at H)
    obtain ⟨z0, hz⟩ : ∃ z, z = (Arn.mk ⟨A, s.sz.n, c, LI⟩ s.ms ⟨none, 0, 0, []⟩ most) := ⟨_, rfl⟩
    replace H : Hid (SL No w w4 ([rBlk p 24 s.cs] ++ arP b z0)) := by rw [hz]; exact H.out
    have F0 : Hid (z0.ok ∧ z0.sz.n = s.sz.n ∧ z0.shp.con = s.con ∧ z0.ms = s.ms ∧ z0.most = most) := by rw [hz]; exact ⟨hok0.out, rfl, hLc, rfl, rfl⟩
    have N00 : Hid (z0.nd.n = 0 ∧ z0.nd.l = []) := by rw [hz]; exact ⟨rfl, rfl⟩
    have HAT : Hid (∀ W, SL No w W ([rBlk p 24 s.cs] ++ arP b z0) → ArAt b z0 W) := fun W h => ar_at F0.out.1 h.focus
    clear hz hok0 hle hLc hLn hnew hok HSI
    go_wp2_with ((with_reducible show wpList _ _ _ (⟨some 34, _, _, _, _, _⟩ :: _) _ _); (refine wpList_load_blk rfl rowShp2 (.tmp 4) rfl _ rfl (H.out.blk 0 rfl) rfl ?_))
    refine (HMY.out _ H.out.to).mono ?_; rintro e w5 ⟨rfl, hb5⟩
    replace H := Lib.hid (H.out.bel hb5); (try simp only [List.set_cons_zero, List.set_cons_succ, List.cons_append, List.nil_append, List.eraseIdx_cons_zero, List.eraseIdx_cons_succ, List.setIfInBounds_toArray, World.size_alloc, selR, List.getD_cons_zero, List.getD_cons_succ] at H)
    clear hb5 HMY
    go_upto_region 6 with fail
    clear mo0 mo1
    refine wp_region_held_drew (S := fun W => Blk W p 24 s.cs) (by kernel_rfl) (H.out.blk 0 rfl) (fun hHeld => ?_)
    replace H := Lib.hid (H.out.drew); (try simp only [List.set_cons_zero, List.set_cons_succ, List.cons_append, List.nil_append, List.eraseIdx_cons_zero, List.eraseIdx_cons_succ, List.setIfInBounds_toArray, World.size_alloc, selR, List.getD_cons_zero, List.getD_cons_succ] at H)
    generalize World.drew _ = w8 at *
    refine wpAnyH_take (i := 0) (v := ?vq44_0) (get_o0) (by kernel_rfl) (by kernel_rfl) (by kernel_rfl) (by exact fun _ _ _ h => h) (Or.inl ⟨by rfl, ?hyq44_0⟩) (by assumption) ?_
    case hyq44_0 => (intro w hSw; (try dsimp only at hSw); go_simp) <;> with_reducible rfl
    try simp only [Act.put, List.setIfInBounds_toArray, List.set_cons_zero, List.set_cons_succ]
    refine wpAnyH_take (i := 1) (v := ?vq44_1) (get_os (get_o0)) (by kernel_rfl) (by kernel_rfl) (by kernel_rfl) (by exact fun _ _ _ h => h) (Or.inl ⟨by rfl, ?hyq44_1⟩) (by assumption) ?_
    case hyq44_1 => (intro w hSw; (try dsimp only at hSw); go_simp) <;> with_reducible rfl
    try simp only [Act.put, List.setIfInBounds_toArray, List.set_cons_zero, List.set_cons_succ]
    refine wpAnyH_take (i := 2) (v := ?vq44_2) (get_os (get_os (get_o0))) (by kernel_rfl) (by kernel_rfl) (by kernel_rfl) (by exact fun _ _ _ h => h) (Or.inl ⟨by rfl, ?hyq44_2⟩) (by assumption) ?_
    case hyq44_2 => (intro w hSw; (try dsimp only at hSw); go_simp) <;> with_reducible rfl
    try simp only [Act.put, List.setIfInBounds_toArray, List.set_cons_zero, List.set_cons_succ]
    refine wpAnyH_take (i := 3) (v := .agg s.cs) (get_os (get_os (get_os (get_o0)))) (by kernel_rfl) (by kernel_rfl) (by kernel_rfl) (by exact fun _ _ _ h => h) (yields_blkS rowShp2 (by rfl) (.tmp 4) rfl _ rfl (fun w h => h) rfl) (by assumption) ?_
    try simp only [Act.put, List.setIfInBounds_toArray, List.set_cons_zero, List.set_cons_succ]
    refine wpAnyH_ready (rs := [4]) (by kernel_rfl) (by simp) ?_
    refine (AllReadyH.cons (get_os (get_os (get_os (get_os (get_o0))))) (fun KK hKK => ?_) AllReadyH.nil)
    go_simp
    refine (HAM.out _ H.out.to).mono ?_; rintro e' w6 ⟨rfl, hb6⟩
    replace H := Lib.hid (H.out.bel hb6); (try simp only [List.set_cons_zero, List.set_cons_succ, List.cons_append, List.nil_append, List.eraseIdx_cons_zero, List.eraseIdx_cons_succ, List.setIfInBounds_toArray, World.size_alloc, selR, List.getD_cons_zero, List.getD_cons_succ] at H)
    clear hb6
    refine hKK.out _ _ (H.out.blk 0 rfl) (fun hHeld => ?_)
    clear hKK KK
    try simp only [Act.put, List.setIfInBounds_toArray, List.set_cons_zero, List.set_cons_succ]
    refine wpAnyH_take (i := 5) (v := ?vq45_) (get_os (get_os (get_os (get_os (get_os (get_o0)))))) (by kernel_rfl) (by kernel_rfl) (by kernel_rfl) (by exact fun _ _ _ h => h) (Or.inl ⟨by rfl, ?hyq45_⟩) (by assumption) ?_
    case hyq45_ => (intro w hSw; (try dsimp only at hSw); go_simp) <;> with_reducible rfl
    try simp only [Act.put, List.setIfInBounds_toArray, List.set_cons_zero, List.set_cons_succ]
    refine wpAnyH_take (i := 6) (v := ?vq46_) (get_os (get_os (get_os (get_os (get_os (get_os (get_o0))))))) (by kernel_rfl) (by kernel_rfl) (by kernel_rfl) (by exact fun _ _ _ h => h) (Or.inl ⟨by rfl, ?hyq46_⟩) (by assumption) ?_
    case hyq46_ => (intro w hSw; (try dsimp only at hSw); go_simp) <;> with_reducible rfl
    try simp only [Act.put, List.setIfInBounds_toArray, List.set_cons_zero, List.set_cons_succ]
    refine wpAnyH_take (i := 7) (v := ?vq47_) (get_os (get_os (get_os (get_os (get_os (get_os (get_os (get_o0)))))))) (by kernel_rfl) (by kernel_rfl) (by kernel_rfl) (by exact fun _ _ _ h => h) (Or.inl ⟨by rfl, ?hyq47_⟩) (by assumption) ?_
    case hyq47_ => (intro w hSw; (try dsimp only at hSw); go_simp) <;> with_reducible rfl
    try simp only [Act.put, List.setIfInBounds_toArray, List.set_cons_zero, List.set_cons_succ]
    refine wpAnyH_take (i := 8) (v := ?vq48_) (get_os (get_os (get_os (get_os (get_os (get_os (get_os (get_os (get_o0))))))))) (by kernel_rfl) (by kernel_rfl) (by kernel_rfl) (by exact fun _ _ _ h => h) (Or.inl ⟨by rfl, ?hyq48_⟩) (by assumption) ?_
    case hyq48_ => (intro w hSw; (try dsimp only at hSw); go_simp) <;> with_reducible rfl
    try simp only [Act.put, List.setIfInBounds_toArray, List.set_cons_zero, List.set_cons_succ]
    refine wpAnyH_take (i := 10) (v := .agg s.cs) (get_ot (get_o0)) (by kernel_rfl) (by kernel_rfl) (by kernel_rfl) (by exact fun _ _ _ h => h) (yields_blkS rowShp2 (by rfl) (.tmp 4) rfl _ rfl (fun w h => h) rfl) (by assumption) ?_
    try simp only [Act.put, List.setIfInBounds_toArray, List.set_cons_zero, List.set_cons_succ]
    refine wpAnyH_ready (rs := [9]) (by kernel_rfl) (by simp) ?_
    refine (AllReadyH.cons (get_os (get_os (get_os (get_os (get_os (get_os (get_os (get_os (get_os (get_o0)))))))))) (fun KK hKK => ?_) AllReadyH.nil)
    go_simp
    refine (ashape_any b z0 _ F0.out.1 (HAT.out _ H.out)).mono ?_; rintro e' w8 ⟨s2, rfl, hs2, hm2, hr8, hb8⟩
    replace H := Lib.hid (H.out.bel hb8); (try simp only [List.set_cons_zero, List.set_cons_succ, List.cons_append, List.nil_append, List.eraseIdx_cons_zero, List.eraseIdx_cons_succ, List.setIfInBounds_toArray, World.size_alloc, selR, List.getD_cons_zero, List.getD_cons_succ] at H)
    have HS2 := Lib.hid hs2
    have HM2 := Lib.hid hm2
    clear hs2 hm2 hb8
    refine hKK.out _ _ (H.out.blk 0 rfl) (fun hHeld => ?_)
    clear hKK KK
    try simp only [Act.put, List.setIfInBounds_toArray, List.set_cons_zero, List.set_cons_succ]
    refine wpAnyH_ready (rs := [11]) (by kernel_rfl) (by simp) ?_
    refine (AllReadyH.cons (get_ot (get_os (get_o0))) (fun KK hKK => ?_) AllReadyH.nil)
    go_simp
    refine (same25_any s2 s _ hr8 (HSR.out _ H.out.to) (by rw [HM2.out]; exact F0.out.2.2.2.1) (by rw [HS2.out]; exact F0.out.2.2.1)).mono ?_; rintro e' w9 ⟨rfl, hb9⟩
    replace H := Lib.hid (H.out.bel hb9); (try simp only [List.set_cons_zero, List.set_cons_succ, List.cons_append, List.nil_append, List.eraseIdx_cons_zero, List.eraseIdx_cons_succ, List.setIfInBounds_toArray, World.size_alloc, selR, List.getD_cons_zero, List.getD_cons_succ] at H)
    clear hb9 hr8 HS2 HM2
    refine hKK.out _ _ (H.out.blk 0 rfl) (fun hHeld => ?_)
    clear hKK KK
    try simp only [Act.put, List.setIfInBounds_toArray, List.set_cons_zero, List.set_cons_succ]
    refine wpAnyH_take (i := 12) (v := ?vq50_) (get_ot (get_os (get_os (get_o0)))) (by kernel_rfl) (by kernel_rfl) (by kernel_rfl) (by exact fun _ _ _ h => h) (Or.inl ⟨by rfl, ?hyq50_⟩) (by assumption) ?_
    case hyq50_ => (intro w hSw; (try dsimp only at hSw); go_simp) <;> with_reducible rfl
    try simp only [Act.put, List.setIfInBounds_toArray, List.set_cons_zero, List.set_cons_succ]
    refine wpAnyH_take (i := 13) (v := ?vq51_) (get_ot (get_os (get_os (get_os (get_o0))))) (by kernel_rfl) (by kernel_rfl) (by kernel_rfl) (by exact fun _ _ _ h => h) (Or.inl ⟨by rfl, ?hyq51_⟩) (by assumption) ?_
    case hyq51_ => (intro w hSw; (try dsimp only at hSw); go_simp) <;> with_reducible rfl
    try simp only [Act.put, List.setIfInBounds_toArray, List.set_cons_zero, List.set_cons_succ]
    refine wpAnyH_done (by kernel_rfl) ?_ _
    clear hHeld
    replace H := Lib.hid (H.out.addNil 44 14); (try simp only [List.set_cons_zero, List.set_cons_succ, List.cons_append, List.nil_append, List.eraseIdx_cons_zero, List.eraseIdx_cons_succ, List.setIfInBounds_toArray, World.size_alloc, selR, List.getD_cons_zero, List.getD_cons_succ] at H)
    replace H := Lib.hid (H.out.sel [0, 6, 1, 2, 3, 4, 5] (by decide) (by simp)); (try simp only [List.set_cons_zero, List.set_cons_succ, List.cons_append, List.nil_append, List.eraseIdx_cons_zero, List.eraseIdx_cons_succ, List.setIfInBounds_toArray, World.size_alloc, selR, List.getD_cons_zero, List.getD_cons_succ] at H)
    have N0 : Hid (z0.nd.n = 0 ∧ ([] : List Nd).map Nd.con = z0.nd.l.map Nd.con ∧ (∀ y ∈ ([] : List Nd), y ∈ l.l) ∧ GoodN s.con s.ms (([] : List Nd).map Nd.con)) := ⟨N00.out.1, by rw [N00.out.2], (fun y hy => by cases hy), goodN_nil _ _⟩
    go_upto_region 10 with fail
    go_loopg [11, 77] l.n (fun gg s11 s77 wr => ∃ (k m : Nat) (B : Option Addr) (d : Nat) (L : List Nd) (z : Arn), gg = l.n - k ∧ k ≤ l.n ∧ s11 = .slice B m d ∧ s77 = .int .i64 k ∧ m ≤ k ∧ Hid (z.ok ∧ z.sz.n = s.sz.n ∧ z.shp.con = s.con ∧ z.ms = s.ms ∧ z.most = most) ∧ Hid (z.nd.n = m ∧ L.map Nd.con = z.nd.l.map Nd.con ∧ (∀ y ∈ L, y ∈ l.l) ∧ GoodN s.con s.ms (L.map Nd.con)) ∧ Hid (SL No w wr ([rBlk p 24 s.cs, rRow 44 14 (.slice B m d) m (L.flatMap Cel.cells)] ++ arP b z)))
    case atStart => exact ⟨0, 0, none, 0, [], z0, rfl, by omega, rfl, rfl, by omega, F0, N0, H⟩
    case round =>
      clear H F0 N0 N00 HAT
      obtain ⟨k, m, B, d, L, z, hgk, hk, rfl, rfl, hmk, F0, N0, H⟩ := hrel
      have Hgk := Lib.hid hgk
      clear hgk
      by_cases hlt : k < l.n
      · obtain ⟨bl, ol, n, hAl, hbl, hnk, hnr, hrg⟩ := (HLR.out _ H.out.to).ndAt (k := k) hlt
        have hnm := List.mem_of_getElem? hnk
        have HNM := Lib.hid hnm
        have HNR := Lib.hid (fun w' (hb : Bel w w') => ((HLR.out w' hb).all n hnm : n.rd w'))
        have HSN := Lib.hid (HSM.out n hnm)
        have HRG := Lib.hid hrg
        have k0 : (0 : Int) ≤ k := by omega
        have k1 : (k : Int) < l.n := by omega
        have HAL := Lib.hid hAl
        have HALL : Hid (∀ W, Bel w W → W.ownsRow 0 44 14 (.slice B m d) m (L.flatMap Cel.cells) → (Row.mk B m d L : Row Nd).rd W) := fun W hb ho => ⟨Rd.of_own ho, fun y hy => (HLR.out W hb).all y (N0.out.2.2.1 y hy), by show m ≤ _; omega⟩
        have HLM : Hid ((L.map Nd.con).length = m) := by show _ = _; rw [N0.out.2.1, List.length_map]; have h := (ar_at F0.out.1 (show SL No w wr ([rBlk p 24 s.cs, rRow 44 14 (.slice B m d) m (L.flatMap Cel.cells)] ++ arP b z) from H.out).focus).nd.len; rw [h, N0.out.1]
        rw [hAl]
        clear hnk hnr hrg hAl hnm
        simp only [arP, List.cons_append, List.nil_append] at H
        go_upto_region 12 with (first | ((with_reducible show wpList _ _ _ (⟨some 80, _, _, _, _, _⟩ :: _) _ _); (refine wpList_load_row_at rfl rowNd (.tmp 79) rfl bl (ol + k * 14) rfl n.cs rfl HRG.out ?_)) | ((with_reducible show wpList _ _ _ (⟨_, .store _ (.tmp 13) _, _, _, _, _⟩ :: _) _ _); (refine wpList_store_new rfl rowNd (.tmp 13) (.tmp 80) rfl rfl rfl (n.cs) rfl rfl (nd_one n) ?_; replace H := Lib.hid (H.out.alloc (n.cs) 44); (try simp only [List.set_cons_zero, List.set_cons_succ, List.cons_append, List.nil_append, List.eraseIdx_cons_zero, List.eraseIdx_cons_succ, List.setIfInBounds_toArray, World.size_alloc, selR, List.getD_cons_zero, List.getD_cons_succ] at H))))
        (try simp only [Act.put, List.setIfInBounds_toArray, List.set_cons_zero, List.set_cons_succ])
        clear HRG hbl
        generalize wr.heap.size = u at *
        generalize World.alloc wr _ = w2 at *
        replace H := Lib.hid (H.out.sel [0, 1, 7, 2, 3, 4, 5, 6] (by decide) (by simp)); (try simp only [List.set_cons_zero, List.set_cons_succ, List.cons_append, List.nil_append, List.eraseIdx_cons_zero, List.eraseIdx_cons_succ, List.setIfInBounds_toArray, World.size_alloc, selR, List.getD_cons_zero, List.getD_cons_succ] at H)
        obtain ⟨E, hE⟩ : ∃ E, E = addErr s.con s.ms most (L.map Nd.con) n.con := ⟨_, rfl⟩
        have HEE : Hid (addE (leadsN z.sz.n (z.nd.l.map Nd.con) n.con) z n = E) := by show _ = _; rw [hE]; exact addE_addErr F0.out.2.2.1 F0.out.2.2.2.1 F0.out.2.2.2.2 N0.out.1 (by rw [HSL.out, F0.out.2.1]) HLM.out N0.out.2.1
        have HRE := Lib.hid hE
        clear hE
        go_wp2_with ((with_reducible show wpList _ _ _ (⟨some 83, _, _, _, _, _⟩ :: _) _ _); (refine wpList_load_blk rfl rowNd (.tmp 13) rfl _ rfl (H.out.blk 2 rfl) rfl ?_))
        refine (aadd_any b z n _ w2 (show SL No w w2 ([rBlk p 24 s.cs, rRow 44 14 (.slice B m d) m (L.flatMap Cel.cells), rBlk u 44 n.cs] ++ arP b z) from H.out).focus F0.out.1 (HNR.out _ H.out.to) HSN.out.a HSN.out.b (fun hz w' hb => aleads_any b z n w' ((show SL No w w2 ([rBlk p 24 s.cs, rRow 44 14 (.slice B m d) m (L.flatMap Cel.cells), rBlk u 44 n.cs] ++ arP b z) from H.out).bel hb).focus F0.out.1 (HNR.out w' (H.out.to.trans hb)) HSN.out.t hz)).mono ?_
        intro e w3 hp
        unfold AddPost at hp
        rw [HEE.out] at hp
        by_cases hz : E = 0
        · rw [if_pos hz] at hp
          obtain ⟨n2, A3, c3, rfl, hn2, h3⟩ := hp
          replace H := Lib.hid ((show SL No w w2 ([rBlk p 24 s.cs, rRow 44 14 (.slice B m d) m (L.flatMap Cel.cells), rBlk u 44 n.cs] ++ arP b z) from H.out).unfocus h3)
          have hade := addErr_zero (HRE.out.symm.trans hz)
          have hzo := F0.out.1
          have hzn := N0.out.1
          obtain ⟨z', hz'⟩ : ∃ z', z' = (Arn.mk z.sz z.ms ⟨A3, z.nd.n + 1, c3, z.nd.l ++ [n2]⟩ z.most) := ⟨_, rfl⟩
          rw [← hz'] at H
          have F2 : Hid (z'.ok ∧ z'.sz.n = s.sz.n ∧ z'.shp.con = s.con ∧ z'.ms = s.ms ∧ z'.most = most) := by rw [hz']; exact ⟨⟨hzo.ms, hzo.m0, hzo.m1, hzo.s1, hzo.s16, hzo.sv, by show z.nd.n + 1 ≤ _; omega⟩, F0.out.2⟩
          have FN : Hid (z'.nd.n = m + 1) := by show _ = _; rw [hz']; show z.nd.n + 1 = _; rw [hzn]
          have FZ : Hid (0 < z'.sz.n) := F2.out.1.s1
          have FM : Hid (z'.nd.n ≤ 1000000) := by have := F2.out.1.nn; show _ ≤ _; omega
          have N2 : Hid (z'.nd.n = m + 1 ∧ (L ++ [n]).map Nd.con = z'.nd.l.map Nd.con ∧ (∀ y ∈ L ++ [n], y ∈ l.l) ∧ GoodN s.con s.ms ((L ++ [n]).map Nd.con)) := ⟨FN.out, by rw [hz']; show _ = (z.nd.l ++ [n2]).map Nd.con; rw [List.map_append, List.map_append, N0.out.2.1, List.map_cons, List.map_cons, hn2]; try rfl, fun y hy => by
            rcases List.mem_append.1 hy with h | h
            · exact N0.out.2.2.1 y h
            · rw [List.mem_singleton] at h; rw [h]; exact HNM.out, by rw [List.map_append]; exact goodN_snoc N0.out.2.2.2 hade.1 hade.2⟩
          rw [hzn]
          have HFM : Hid (∀ W (A2 : Option Addr) (c2 : Nat), SL No w W ([rBlk p 24 s.cs, rRow 44 14 (.slice A2 (m + 1) c2) (m + 1) (L.flatMap Cel.cells ++ n.cs.toList)] ++ arP b z') → SL No w W ([rBlk p 24 s.cs, rRow 44 14 (.slice A2 (m + 1) c2) (m + 1) ((L ++ [n]).flatMap Cel.cells)] ++ arP b z')) := fun W A2 c2 h => by
            have e : (L ++ [n]).flatMap (Cel.cells : Nd → List Value) = L.flatMap Cel.cells ++ n.cs.toList := by rw [List.flatMap_append, List.flatMap_cons, List.flatMap_nil, List.append_nil]; rfl
            rw [e]; exact h
          subst hz
          clear h3 hade hzo hzn hz' hn2 HEE HNM
          simp only [arP, List.cons_append, List.nil_append] at H
          go_wp2_with (first | ((with_reducible show wpList _ _ _ (⟨some 87, _, _, _, _, _⟩ :: _) _ _); (refine wpList_load_blk rfl rowShp2 (.tmp 4) rfl _ rfl (H.out.blk 0 rfl) rfl ?_)) | ((with_reducible show wpList _ _ _ (⟨some 90, _, _, _, _, _⟩ :: _) _ _); (refine wpList_load_blk rfl rowNd (.tmp 13) rfl _ rfl (H.out.blk 2 rfl) rfl ?_)))
          refine (radd24_any s most ⟨B, m, d, L⟩ n _ (HSR.out _ H.out.to) M64.out (HALL.out _ H.out.to (H.out.row 1 rfl)) (HNR.out _ H.out.to) HSN.out.t).mono ?_; rintro e w7 ⟨rfl, hb7⟩
          replace H := Lib.hid (H.out.bel hb7); (try simp only [List.set_cons_zero, List.set_cons_succ, List.cons_append, List.nil_append, List.eraseIdx_cons_zero, List.eraseIdx_cons_succ, List.setIfInBounds_toArray, World.size_alloc, selR, List.getD_cons_zero, List.getD_cons_succ] at H)
          rw [← HRE.out]
          clear hb7 HRE HALL
          have hmm : ((m : Int) != m) = false := by simp
          go_wp2_with (first | ((with_reducible show wpList _ _ _ (⟨some 99, _, _, _, _, _⟩ :: _) _ _); (refine wpList_load_blk rfl rowNd (.tmp 13) rfl _ rfl (H.out.blk 2 rfl) rfl ?_)) | ((with_reducible show wpList _ _ _ (⟨some 100, _, _, _, _, _⟩ :: _) _ _); (refine wpList_buildSlice1 rfl E_nd (.tmp 99) rfl (n.cs) rfl rfl (by omega) ?_; replace H := Lib.hid (H.out.addRow ((Bel.refl _).alloc _) (own_made _ 44 (n.cs) _ rfl)); (try simp only [List.set_cons_zero, List.set_cons_succ, List.cons_append, List.nil_append, List.eraseIdx_cons_zero, List.eraseIdx_cons_succ, List.setIfInBounds_toArray, World.size_alloc, selR, List.getD_cons_zero, List.getD_cons_succ] at H))) | ((with_reducible show wpList _ _ _ (⟨some 101, _, _, _, _, _⟩ :: _) _ _); (refine wpList_append0 rfl (.tmp 98) (.tmp 100) _ rfl E_nd 0 (Nat.zero_le _) _ m _ rfl (H.out.row 1 rfl) _ 1 1 _ rfl (Rd.of_own (H.out.row 8 rfl)) (by simp [Value.oneCell']) (by unfold maxLen; omega) (by omega) ?_; intro vq wq howq hgq hatq; replace H := Lib.hid (H.out.setRow 1 rfl hgq howq hatq); (try simp only [List.set_cons_zero, List.set_cons_succ, List.cons_append, List.nil_append, List.eraseIdx_cons_zero, List.eraseIdx_cons_succ, List.setIfInBounds_toArray, World.size_alloc, selR, List.getD_cons_zero, List.getD_cons_succ] at H); clear howq hgq hatq; obtain ⟨A2, c2, rfl, _⟩ := own_slice (H.out.row 1 rfl))))
          clear hmm
          refine (alen_any b z'.sz.A z'.nd.A z'.sz.n z'.sz.c z'.nd.n z'.nd.c _ FZ.out ((H.out.blk 3 rfl).cell 0) ((H.out.blk 3 rfl).cell 2)).mono ?_; rintro e w8 ⟨rfl, hb8⟩
          replace H := Lib.hid (H.out.bel hb8); (try simp only [List.set_cons_zero, List.set_cons_succ, List.cons_append, List.nil_append, List.eraseIdx_cons_zero, List.eraseIdx_cons_succ, List.setIfInBounds_toArray, World.size_alloc, selR, List.getD_cons_zero, List.getD_cons_succ] at H)
          clear hb8
          rw [FN.out]
          go_wp2_with fail
          refine (atop_any b z'.sz.A z'.nd.A z'.sz.n z'.sz.c z'.nd.n z'.nd.c _ FZ.out FM.out ((H.out.blk 3 rfl).cell 0) ((H.out.blk 3 rfl).cell 2)).mono ?_; rintro e w9 ⟨rfl, hb9⟩
          replace H := Lib.hid (H.out.bel hb9); (try simp only [List.set_cons_zero, List.set_cons_succ, List.cons_append, List.nil_append, List.eraseIdx_cons_zero, List.eraseIdx_cons_succ, List.setIfInBounds_toArray, World.size_alloc, selR, List.getD_cons_zero, List.getD_cons_succ] at H)
          clear hb9
          rw [FN.out]
          replace H := Lib.hid (H.out.sel [0, 1, 3, 4, 5, 6, 7] (by decide) (by simp)); (try simp only [List.set_cons_zero, List.set_cons_succ, List.cons_append, List.nil_append, List.eraseIdx_cons_zero, List.eraseIdx_cons_succ, List.setIfInBounds_toArray, World.size_alloc, selR, List.getD_cons_zero, List.getD_cons_succ] at H)
          replace H := Lib.hid (HFM.out _ _ _ H.out)
          go_wp2_with fail
          rw [← HAL.out]
          go_roundg (l.n - (k + 1))
          case rel => exact ⟨k + 1, m + 1, A2, c2, L ++ [n], z', rfl, by omega, by rfl, by go_num, by omega, F2, N2, H⟩
          case measure => rw [Hgk.out]; omega
        · rw [if_neg hz] at hp
          obtain ⟨rfl, hb3⟩ := hp
          replace H := Lib.hid (H.out.bel hb3); (try simp only [List.set_cons_zero, List.set_cons_succ, List.cons_append, List.nil_append, List.eraseIdx_cons_zero, List.eraseIdx_cons_succ, List.setIfInBounds_toArray, World.size_alloc, selR, List.getD_cons_zero, List.getD_cons_succ] at H)
          have d1 : (E == 0) = false := by simpa using hz
          have d2 : (E != 0) = true := by simpa using hz
          have d3 : (E != E) = false := by simp
          have FN : Hid (z.nd.n = m) := N0.out.1
          have FZ : Hid (0 < z.sz.n) := F0.out.1.s1
          have FM : Hid (z.nd.n ≤ 1000000) := by have := F0.out.1.nn; show _ ≤ _; omega
          clear hb3 hz HEE HNM
          go_wp2_with (first | ((with_reducible show wpList _ _ _ (⟨some 87, _, _, _, _, _⟩ :: _) _ _); (refine wpList_load_blk rfl rowShp2 (.tmp 4) rfl _ rfl (H.out.blk 0 rfl) rfl ?_)) | ((with_reducible show wpList _ _ _ (⟨some 90, _, _, _, _, _⟩ :: _) _ _); (refine wpList_load_blk rfl rowNd (.tmp 13) rfl _ rfl (H.out.blk 2 rfl) rfl ?_)))
          refine (radd24_any s most ⟨B, m, d, L⟩ n _ (HSR.out _ H.out.to) M64.out (HALL.out _ H.out.to (H.out.row 1 rfl)) (HNR.out _ H.out.to) HSN.out.t).mono ?_; rintro e w7 ⟨rfl, hb7⟩
          replace H := Lib.hid (H.out.bel hb7); (try simp only [List.set_cons_zero, List.set_cons_succ, List.cons_append, List.nil_append, List.eraseIdx_cons_zero, List.eraseIdx_cons_succ, List.setIfInBounds_toArray, World.size_alloc, selR, List.getD_cons_zero, List.getD_cons_succ] at H)
          rw [← HRE.out]
          clear hb7 HRE HALL
          go_wp2_with fail
          refine (alen_any b z.sz.A z.nd.A z.sz.n z.sz.c z.nd.n z.nd.c _ FZ.out ((H.out.blk 3 rfl).cell 0) ((H.out.blk 3 rfl).cell 2)).mono ?_; rintro e w8 ⟨rfl, hb8⟩
          replace H := Lib.hid (H.out.bel hb8); (try simp only [List.set_cons_zero, List.set_cons_succ, List.cons_append, List.nil_append, List.eraseIdx_cons_zero, List.eraseIdx_cons_succ, List.setIfInBounds_toArray, World.size_alloc, selR, List.getD_cons_zero, List.getD_cons_succ] at H)
          clear hb8
          rw [FN.out]
          go_wp2_with fail
          refine (atop_any b z.sz.A z.nd.A z.sz.n z.sz.c z.nd.n z.nd.c _ FZ.out FM.out ((H.out.blk 3 rfl).cell 0) ((H.out.blk 3 rfl).cell 2)).mono ?_; rintro e w9 ⟨rfl, hb9⟩
          replace H := Lib.hid (H.out.bel hb9); (try simp only [List.set_cons_zero, List.set_cons_succ, List.cons_append, List.nil_append, List.eraseIdx_cons_zero, List.eraseIdx_cons_succ, List.setIfInBounds_toArray, World.size_alloc, selR, List.getD_cons_zero, List.getD_cons_succ] at H)
          clear hb9
          rw [FN.out]
          replace H := Lib.hid (H.out.sel [0, 1, 3, 4, 5, 6, 7] (by decide) (by simp)); (try simp only [List.set_cons_zero, List.set_cons_succ, List.cons_append, List.nil_append, List.eraseIdx_cons_zero, List.eraseIdx_cons_succ, List.setIfInBounds_toArray, World.size_alloc, selR, List.getD_cons_zero, List.getD_cons_succ] at H)
          go_wp2_with fail
          rw [← HAL.out]
          clear d1 d2 d3
          go_roundg (l.n - (k + 1))
          case rel => exact ⟨k + 1, m, B, d, L, z, rfl, by omega, rfl, by go_num, by omega, F0, N0, H⟩
          case measure => rw [Hgk.out]; omega
      · obtain rfl : k = l.n := by omega
        replace H := Lib.hid ((show SL No w wr ([rBlk p 24 s.cs, rRow 44 14 (.slice B m d) m (L.flatMap Cel.cells)] ++ arP b z) from H.out).mkAr F0.out.1)
        (try simp only [List.cons_append, List.nil_append] at H)
        have HALL : Hid (∀ W, Bel w W → W.ownsRow 0 44 14 (.slice B m d) m (L.flatMap Cel.cells) → (Row.mk B m d L : Row Nd).rd W) := fun W hb ho => ⟨Rd.of_own ho, fun y hy => (HLR.out W hb).all y (N0.out.2.2.1 y hy), by show m ≤ _; omega⟩
        obtain ⟨WV, hWV⟩ : ∃ WV, WV = wholeC z.sz.n (z.nd.l.map Nd.con) := ⟨_, rfl⟩
        have HW1 : Hid (∀ W, ArAt b z W → Calls Try.prog 32 #[.pointer (some ⟨b, 0, none⟩)] W fun e w2 => e = .returned (.bool WV) ∧ Bel W w2) := fun W h => by
          rw [hWV]
          refine awhole_any b z W F0.out.1 h (by rw [F0.out.2.2.1, F0.out.2.2.2.1, ← N0.out.2.1]; exact N0.out.2.2.2) fun y hy => ?_
          have hc : y.con ∈ L.map Nd.con := by rw [N0.out.2.1]; exact List.mem_map.2 ⟨y, hy, rfl⟩
          obtain ⟨y2, hy2, e⟩ := List.mem_map.1 hc
          have h2 := (HSM.out y2 (N0.out.2.2.1 y2 hy2)).t
          have e2 : y2.ls.l.map Row.l = y.ls.l.map Row.l := congrArg NC.ls e
          rwa [e2] at h2
        have HW2 : Hid (∀ W, Bel w W → W.ownsRow 0 44 14 (.slice B m d) m (L.flatMap Cel.cells) → Calls Try.prog 33 #[.agg s.cs, .slice B m d] W fun e w2 => e = .returned (.bool WV) ∧ Bel W w2) := fun W hb ho => by
          rw [hWV, F0.out.2.1, ← N0.out.2.1]
          exact rwhole24_any s ⟨B, m, d, L⟩ W (HSR.out W hb) (HALL.out W hb ho) (fun y hy => by have h := (goodN_dim N0.out.2.2.2 y.con (List.mem_map.2 ⟨y, hy, rfl⟩)).2; rw [HSL.out] at h; exact h) (fun y hy => (HSM.out y (N0.out.2.2.1 y hy)).t)
        clear hWV
        have HZN := Lib.hid N0.out.1
        have hm30 : m ≤ 30 := by omega
        have hww : (WV == WV) = true := by simp
        by_cases hir : 0 ≤ i ∧ i < m
        · obtain ⟨q, rfl⟩ : ∃ q : Nat, i = q := ⟨i.toNat, by omega⟩
          have hqm : q < m := by omega
          have hqn : q < z.nd.n := by rw [HZN.out]; exact hqm
          have hat := (H.out.at_ 2 rfl : ArAt b z wr)
          obtain ⟨n', hn'⟩ : ∃ n', z.nd.l[q]? = some n' := ⟨_, List.getElem?_eq_getElem (by rw [hat.nd.len]; exact hqn)⟩
          have hbd := hat.bd n' (List.mem_of_getElem? hn')
          have HN' := Lib.hid (hat.nd.all n' (List.mem_of_getElem? hn') : n'.rd wr)
          have HB1 := Lib.hid hbd.1
          have HCALL := Lib.hid (anode_at b z q n' wr F0.out.1 hqn hn' hat.nd hbd.1 hbd.2 hat.c0 hat.c2)
          obtain ⟨ba, oa, t, hBa, hbt, htk, htr, hrt⟩ := (HALL.out _ H.out.to (H.out.row 1 rfl)).ndAt (k := q) hqm
          simp only at hBa htk
          have HTC : Hid (n'.con = t.con) := by
            have h1 : (z.nd.l.map Nd.con)[q]? = some n'.con := by rw [List.getElem?_map, hn']; rfl
            have h2 : (L.map Nd.con)[q]? = some t.con := by rw [List.getElem?_map, htk]; rfl
            rw [← N0.out.2.1, h2] at h1
            injection h1 with h1
            exact h1.symm
          have htl : t ∈ L := List.mem_of_getElem? htk
          have HTR := Lib.hid (fun w' (hb : Bel w w') => ((HLR.out w' hb).all t (N0.out.2.2.1 t htl) : t.rd w'))
          have HRT := Lib.hid (fun w' (hb : Bel wr w') => (fun j v hv => cell_bel hb (hrt j v hv) : w'.rangeAt ba (oa + q * 14) t.cs.toList))
          have HBT := Lib.hid (fun w' (hb : Bel wr w') => Nat.lt_of_lt_of_le hbt hb.size)
          have HBA := Lib.hid hBa
          have q0 : (0 : Int) ≤ q := by omega
          have q1 : (q : Int) < m := by omega
          have d1 : decide ((q : Int) < (m : Int)) = true := by simp <;> omega
          have d1n : decide (q < m) = true := by simp <;> omega
          have HB0 : Hid (Bel wr wr) := Bel.refl _
          clear hir hat hn' hbd htk htr hrt htl hbt hBa
          go_wp2_with fail
          refine HCALL.out.mono ?_; rintro e w6 ⟨n2, rfl, hcon, hln, hbn, hN⟩
          replace H := Lib.hid (H.out.join hN); (try simp only [List.set_cons_zero, List.set_cons_succ, List.cons_append, List.nil_append, List.eraseIdx_cons_zero, List.eraseIdx_cons_succ, List.setIfInBounds_toArray, World.size_alloc, selR, List.getD_cons_zero, List.getD_cons_succ] at H)
          replace H := Lib.hid (H.out.mkNd 3 4 (n := n2) (by omega) rfl rfl ⟨by rw [show n2.dim = n'.dim from congrArg NC.dim hcon]; exact HN'.out.dim, by rw [show n2.all = n'.all from congrArg NC.all hcon]; exact HN'.out.all⟩ (fun y hy => hbn y hy) (by rw [hln]; exact HB1.out)); (try simp only [List.set_cons_zero, List.set_cons_succ, List.cons_append, List.nil_append, List.eraseIdx_cons_zero, List.eraseIdx_cons_succ, List.setIfInBounds_toArray, World.size_alloc, selR, List.getD_cons_zero, List.getD_cons_succ] at H)
          replace HB0 := Lib.hid (HB0.out.trans hN.to)
          have HC2 : Hid (n2.con = t.con) := hcon.trans HTC.out
          clear hN HCALL hcon hln hbn HB1 HN' HTC
          go_upto_region 22 with ((with_reducible show wpList _ _ _ (⟨_, .store _ (.tmp 17) _, _, _, _, _⟩ :: _) _ _); (refine wpList_store_new rfl rowNd (.tmp 17) (.tmp 133) rfl rfl rfl (n2.cs) rfl rfl (nd_one n2) ?_; replace H := Lib.hid (H.out.alloc (n2.cs) 44); (try simp only [List.set_cons_zero, List.set_cons_succ, List.cons_append, List.nil_append, List.eraseIdx_cons_zero, List.eraseIdx_cons_succ, List.setIfInBounds_toArray, World.size_alloc, selR, List.getD_cons_zero, List.getD_cons_succ] at H)))
          (try simp only [Act.put, List.setIfInBounds_toArray, List.set_cons_zero, List.set_cons_succ])
          replace HB0 := Lib.hid (HB0.out.alloc (.cells n2.cs 44))
          generalize w6.heap.size = u at *
          generalize World.alloc w6 _ = w7 at *
          have HSME := Lib.hid (fun w' (hb : Bel w7 w') => rsame24_any n2 t w' ((nd_of_own (H.out.get 3 rfl)).mono hb) (HTR.out w' (H.out.to.trans hb)) HC2.out)
          have hbt := HBT.out _ HB0.out
          have hrt := Lib.hid (HRT.out _ HB0.out)
          rw [HBA.out]
          go_upto_region 23 with fail
          refine wp_region_over (by kernel_rfl) (by kernel_rfl) ?_
          (try simp only [Act.put, List.setIfInBounds_toArray, List.set_cons_zero, List.set_cons_succ])
          repeat (first
            | ((with_reducible show wpQuiet _ _ _ _ (⟨some 146, _, _, _, _, _⟩ :: _) _); refine wpQuiet_load_row (by first | rfl | go_simp) rowNd (.tmp 17) rfl _ (0) rfl _ rfl (H.out.blk 4 rfl).lt (H.out.blk 4 rfl).range ?_; simp only [Act.put, List.setIfInBounds_toArray, List.set_cons_zero, List.set_cons_succ])
            | ((with_reducible show wpQuiet _ _ _ _ (⟨some 150, _, _, _, _, _⟩ :: _) _); refine wpQuiet_load_row (by first | rfl | go_simp) rowNd (.tmp 149) rfl ba (oa + q * 14) rfl t.cs rfl hbt hrt.out ?_; simp only [Act.put, List.setIfInBounds_toArray, List.set_cons_zero, List.set_cons_succ])
            | go_big_quiet_step (((go_at_call 29; rename_i u; exact calls_over (HSME.out _ u.bel))))
            | go_big_quiet_step (fail))
          refine wpQuiet_nil ?_
          rintro w5 ⟨⟨_, hw5⟩, rfl⟩
          (try dsimp only)
          replace H := Lib.hid (H.out.bel hw5); (try simp only [List.set_cons_zero, List.set_cons_succ, List.cons_append, List.nil_append, List.eraseIdx_cons_zero, List.eraseIdx_cons_succ, List.setIfInBounds_toArray, World.size_alloc, selR, List.getD_cons_zero, List.getD_cons_succ] at H)
          skip
          rw [← HBA.out]
          clear HSME hbt hrt HBT HRT HTR HC2 d1 d1n hw5 HB0
          go_upto_region 27 with fail
          refine wp_region_held_drew (S := fun W => Blk W p 24 s.cs) (by kernel_rfl) (H.out.blk 0 rfl) (fun hHeld => ?_)
          replace H := Lib.hid (H.out.drew); (try simp only [List.set_cons_zero, List.set_cons_succ, List.cons_append, List.nil_append, List.eraseIdx_cons_zero, List.eraseIdx_cons_succ, List.setIfInBounds_toArray, World.size_alloc, selR, List.getD_cons_zero, List.getD_cons_succ] at H)
          generalize World.drew _ = w8 at *
          refine wpAnyH_take (i := 0) (v := ?vq34_0) (get_o0) (by kernel_rfl) (by kernel_rfl) (by kernel_rfl) (by exact fun _ _ _ h => h) (Or.inl ⟨by rfl, ?hyq34_0⟩) (by assumption) ?_
          case hyq34_0 => (intro w hSw; (try dsimp only at hSw); go_simp) <;> with_reducible rfl
          try simp only [Act.put, List.setIfInBounds_toArray, List.set_cons_zero, List.set_cons_succ]
          refine wpAnyH_take (i := 2) (v := ?vq34_2) (get_os (get_os (get_o0))) (by kernel_rfl) (by kernel_rfl) (by kernel_rfl) (by exact fun _ _ _ h => h) (Or.inl ⟨by rfl, ?hyq34_2⟩) (by assumption) ?_
          case hyq34_2 => (intro w hSw; (try dsimp only at hSw); go_simp) <;> with_reducible rfl
          try simp only [Act.put, List.setIfInBounds_toArray, List.set_cons_zero, List.set_cons_succ]
          refine wpAnyH_ready (rs := [1]) (by kernel_rfl) (by simp) ?_
          refine (AllReadyH.cons (get_os (get_o0)) (fun KK hKK => ?_) AllReadyH.nil)
          go_simp
          refine (anodes_any b z _ F0.out.1 (H.out.at_ 2 rfl)).mono ?_; rintro e' w6 ⟨l2, rfl, hl2, hr2, hb6⟩
          replace H := Lib.hid (H.out.bel hb6); (try simp only [List.set_cons_zero, List.set_cons_succ, List.cons_append, List.nil_append, List.eraseIdx_cons_zero, List.eraseIdx_cons_succ, List.setIfInBounds_toArray, World.size_alloc, selR, List.getD_cons_zero, List.getD_cons_succ] at H)
          have HL2 := Lib.hid hl2
          clear hl2 hb6
          refine hKK.out _ _ (H.out.blk 0 rfl) (fun hHeld => ?_)
          clear hKK KK
          try simp only [Act.put, List.setIfInBounds_toArray, List.set_cons_zero, List.set_cons_succ]
          refine wpAnyH_ready (rs := [3]) (by kernel_rfl) (by simp) ?_
          refine (AllReadyH.cons (get_os (get_os (get_os (get_o0)))) (fun KK hKK => ?_) AllReadyH.nil)
          go_simp
          refine (rall24_any l2 ⟨B, m, d, L⟩ _ hr2 (HALL.out _ H.out.to (H.out.row 1 rfl)) (by rw [HL2.out]; exact N0.out.2.1.symm)).mono ?_; rintro e' w7 ⟨rfl, hb7⟩
          replace H := Lib.hid (H.out.bel hb7); (try simp only [List.set_cons_zero, List.set_cons_succ, List.cons_append, List.nil_append, List.eraseIdx_cons_zero, List.eraseIdx_cons_succ, List.setIfInBounds_toArray, World.size_alloc, selR, List.getD_cons_zero, List.getD_cons_succ] at H)
          clear hb7 hr2 HL2
          refine hKK.out _ _ (H.out.blk 0 rfl) (fun hHeld => ?_)
          clear hKK KK
          try simp only [Act.put, List.setIfInBounds_toArray, List.set_cons_zero, List.set_cons_succ]
          refine wpAnyH_take (i := 4) (v := ?vq35_) (get_os (get_os (get_os (get_os (get_o0))))) (by kernel_rfl) (by kernel_rfl) (by kernel_rfl) (by exact fun _ _ _ h => h) (Or.inl ⟨by rfl, ?hyq35_⟩) (by assumption) ?_
          case hyq35_ => (intro w hSw; (try dsimp only at hSw); go_simp) <;> with_reducible rfl
          try simp only [Act.put, List.setIfInBounds_toArray, List.set_cons_zero, List.set_cons_succ]
          refine wpAnyH_take (i := 5) (v := ?vq36_) (get_os (get_os (get_os (get_os (get_os (get_o0)))))) (by kernel_rfl) (by kernel_rfl) (by kernel_rfl) (by exact fun _ _ _ h => h) (Or.inl ⟨by rfl, ?hyq36_⟩) (by assumption) ?_
          case hyq36_ => (intro w hSw; (try dsimp only at hSw); go_simp) <;> with_reducible rfl
          try simp only [Act.put, List.setIfInBounds_toArray, List.set_cons_zero, List.set_cons_succ]
          refine wpAnyH_take (i := 7) (v := .agg s.cs) (get_os (get_os (get_os (get_os (get_os (get_os (get_os (get_o0)))))))) (by kernel_rfl) (by kernel_rfl) (by kernel_rfl) (by exact fun _ _ _ h => h) (yields_blkS rowShp2 (by rfl) (.tmp 4) rfl _ rfl (fun w h => h) rfl) (by assumption) ?_
          try simp only [Act.put, List.setIfInBounds_toArray, List.set_cons_zero, List.set_cons_succ]
          refine wpAnyH_take (i := 8) (v := ?vq38_) (get_os (get_os (get_os (get_os (get_os (get_os (get_os (get_os (get_o0))))))))) (by kernel_rfl) (by kernel_rfl) (by kernel_rfl) (by exact fun _ _ _ h => h) (Or.inl ⟨by rfl, ?hyq38_⟩) (by assumption) ?_
          case hyq38_ => (intro w hSw; (try dsimp only at hSw); go_simp) <;> with_reducible rfl
          try simp only [Act.put, List.setIfInBounds_toArray, List.set_cons_zero, List.set_cons_succ]
          refine wpAnyH_ready (rs := [6]) (by kernel_rfl) (by simp) ?_
          refine (AllReadyH.cons (get_os (get_os (get_os (get_os (get_os (get_os (get_o0))))))) (fun KK hKK => ?_) AllReadyH.nil)
          go_simp
          refine (HW1.out _ (H.out.at_ 2 rfl)).mono ?_; rintro e' w8 ⟨rfl, hb8⟩
          replace H := Lib.hid (H.out.bel hb8); (try simp only [List.set_cons_zero, List.set_cons_succ, List.cons_append, List.nil_append, List.eraseIdx_cons_zero, List.eraseIdx_cons_succ, List.setIfInBounds_toArray, World.size_alloc, selR, List.getD_cons_zero, List.getD_cons_succ] at H)
          clear hb8
          refine hKK.out _ _ (H.out.blk 0 rfl) (fun hHeld => ?_)
          clear hKK KK
          try simp only [Act.put, List.setIfInBounds_toArray, List.set_cons_zero, List.set_cons_succ]
          refine wpAnyH_ready (rs := [9]) (by kernel_rfl) (by simp) ?_
          refine (AllReadyH.cons (get_os (get_os (get_os (get_os (get_os (get_os (get_os (get_os (get_os (get_o0)))))))))) (fun KK hKK => ?_) AllReadyH.nil)
          go_simp
          refine (HW2.out _ H.out.to (H.out.row 1 rfl)).mono ?_; rintro e' w9 ⟨rfl, hb9⟩
          replace H := Lib.hid (H.out.bel hb9); (try simp only [List.set_cons_zero, List.set_cons_succ, List.cons_append, List.nil_append, List.eraseIdx_cons_zero, List.eraseIdx_cons_succ, List.setIfInBounds_toArray, World.size_alloc, selR, List.getD_cons_zero, List.getD_cons_succ] at H)
          clear hb9
          refine hKK.out _ _ (H.out.blk 0 rfl) (fun hHeld => ?_)
          clear hKK KK
          try simp only [Act.put, List.setIfInBounds_toArray, List.set_cons_zero, List.set_cons_succ]
          refine wpAnyH_take (i := 10) (v := ?vq39_) (get_ot (get_o0)) (by kernel_rfl) (by kernel_rfl) (by kernel_rfl) (by exact fun _ _ _ h => h) (Or.inl ⟨by rfl, ?hyq39_⟩) (by assumption) ?_
          case hyq39_ => (intro w hSw; (try dsimp only at hSw); go_simp) <;> with_reducible rfl
          try simp only [Act.put, List.setIfInBounds_toArray, List.set_cons_zero, List.set_cons_succ]
          refine wpAnyH_take (i := 11) (v := ?vq40_) (get_ot (get_os (get_o0))) (by kernel_rfl) (by kernel_rfl) (by kernel_rfl) (by exact fun _ _ _ h => h) (Or.inl ⟨by rfl, ?hyq40_⟩) (by assumption) ?_
          case hyq40_ => (intro w hSw; (try dsimp only at hSw); go_simp) <;> with_reducible rfl
          try simp only [Act.put, List.setIfInBounds_toArray, List.set_cons_zero, List.set_cons_succ]
          refine wpAnyH_take (i := 12) (v := ?vq41_) (get_ot (get_os (get_os (get_o0)))) (by kernel_rfl) (by kernel_rfl) (by kernel_rfl) (by exact fun _ _ _ h => h) (Or.inl ⟨by rfl, ?hyq41_⟩) (by assumption) ?_
          case hyq41_ => (intro w hSw; (try dsimp only at hSw); go_simp) <;> with_reducible rfl
          try simp only [Act.put, List.setIfInBounds_toArray, List.set_cons_zero, List.set_cons_succ]
          refine wpAnyH_ready (rs := [13]) (by kernel_rfl) (by simp) ?_
          refine (AllReadyH.cons (get_ot (get_os (get_os (get_os (get_o0))))) (fun KK hKK => ?_) AllReadyH.nil)
          go_simp
          refine (awake25_any _).mono ?_; rintro e' w10 ⟨rfl, hb10⟩
          replace H := Lib.hid (H.out.bel hb10); (try simp only [List.set_cons_zero, List.set_cons_succ, List.cons_append, List.nil_append, List.eraseIdx_cons_zero, List.eraseIdx_cons_succ, List.setIfInBounds_toArray, World.size_alloc, selR, List.getD_cons_zero, List.getD_cons_succ] at H)
          clear hb10
          refine hKK.out _ _ (H.out.blk 0 rfl) (fun hHeld => ?_)
          clear hKK KK
          try simp only [Act.put, List.setIfInBounds_toArray, List.set_cons_zero, List.set_cons_succ]
          refine wpAnyH_take (i := 14) (v := ?vq42_) (get_ot (get_os (get_os (get_os (get_os (get_o0)))))) (by kernel_rfl) (by kernel_rfl) (by kernel_rfl) (by exact fun _ _ _ h => h) (Or.inl ⟨by rfl, ?hyq42_⟩) (by assumption) ?_
          case hyq42_ => (intro w hSw; (try dsimp only at hSw); go_simp) <;> with_reducible rfl
          try simp only [Act.put, List.setIfInBounds_toArray, List.set_cons_zero, List.set_cons_succ]
          refine wpAnyH_take (i := 15) (v := ?vq43_) (get_ot (get_os (get_os (get_os (get_os (get_os (get_o0))))))) (by kernel_rfl) (by kernel_rfl) (by kernel_rfl) (by exact fun _ _ _ h => h) (Or.inl ⟨by rfl, ?hyq43_⟩) (by assumption) ?_
          case hyq43_ => (intro w hSw; (try dsimp only at hSw); go_simp) <;> with_reducible rfl
          try simp only [Act.put, List.setIfInBounds_toArray, List.set_cons_zero, List.set_cons_succ]
          refine wpAnyH_done (by kernel_rfl) ?_ _
          clear hHeld
          go_wp2_with fail
          go_ret
          exact ⟨rfl, H.out.to⟩
        · have hio : i < 0 ∨ (z.nd.n : Int) ≤ i := by rw [HZN.out]; omega
          have HCALL := Lib.hid (fun W (h : ArAt b z W) => anode_out b z i W F0.out.1 h hio I64I.out)
          have d0 : (decide (0 ≤ i) = false) ∨ (decide (0 ≤ i) = true ∧ decide (i < (m : Int)) = false) := by
            by_cases h : 0 ≤ i
            · right; exact ⟨by simpa using h, by simp; omega⟩
            · left; simpa using h
          have HNN := Lib.hid (fun w' => rsame24_any Nd.nil Nd.nil w' ⟨z_i64, Row.nil_rd w', ⟨z_i64, z_i64, ag_zero_ok⟩, by show (0 : Nat) ≤ _; omega⟩ ⟨z_i64, Row.nil_rd w', ⟨z_i64, z_i64, ag_zero_ok⟩, by show (0 : Nat) ≤ _; omega⟩ rfl)
          clear hir hio
          go_wp2_with fail
          refine (HCALL.out _ (H.out.at_ 2 rfl)).mono ?_; rintro e w6 ⟨rfl, hb6⟩
          replace H := Lib.hid (H.out.bel hb6); (try simp only [List.set_cons_zero, List.set_cons_succ, List.cons_append, List.nil_append, List.eraseIdx_cons_zero, List.eraseIdx_cons_succ, List.setIfInBounds_toArray, World.size_alloc, selR, List.getD_cons_zero, List.getD_cons_succ] at H)
          clear hb6 HCALL
          go_upto_region 22 with ((with_reducible show wpList _ _ _ (⟨_, .store _ (.tmp 17) _, _, _, _, _⟩ :: _) _ _); (refine wpList_store_new rfl rowNd (.tmp 17) (.tmp 133) rfl rfl rfl (Nd.nil.cs) rfl rfl (nd_one _) ?_; replace H := Lib.hid (H.out.alloc (Nd.nil.cs) 44); (try simp only [List.set_cons_zero, List.set_cons_succ, List.cons_append, List.nil_append, List.eraseIdx_cons_zero, List.eraseIdx_cons_succ, List.setIfInBounds_toArray, World.size_alloc, selR, List.getD_cons_zero, List.getD_cons_succ] at H)))
          (try simp only [Act.put, List.setIfInBounds_toArray, List.set_cons_zero, List.set_cons_succ])
          generalize w6.heap.size = u at *
          generalize World.alloc w6 _ = w7 at *
          rcases d0 with d0 | ⟨d0, d1⟩
          · go_wp2_with ((with_reducible show wpList _ _ _ (⟨some 157, _, _, _, _, _⟩ :: _) _ _); refine wpList_load_blkG (by first | rfl | go_simp) rowNd (.tmp 17) (by rfl) _ (by rfl) (H.out.blk 3 rfl) rfl ?_)
            refine (HNN.out _).mono ?_; rintro e w8 ⟨rfl, hb8⟩
            replace H := Lib.hid (H.out.bel hb8); (try simp only [List.set_cons_zero, List.set_cons_succ, List.cons_append, List.nil_append, List.eraseIdx_cons_zero, List.eraseIdx_cons_succ, List.setIfInBounds_toArray, World.size_alloc, selR, List.getD_cons_zero, List.getD_cons_succ] at H)
            clear hb8
            go_upto_region 27 with fail
            refine wp_region_held_drew (S := fun W => Blk W p 24 s.cs) (by kernel_rfl) (H.out.blk 0 rfl) (fun hHeld => ?_)
            replace H := Lib.hid (H.out.drew); (try simp only [List.set_cons_zero, List.set_cons_succ, List.cons_append, List.nil_append, List.eraseIdx_cons_zero, List.eraseIdx_cons_succ, List.setIfInBounds_toArray, World.size_alloc, selR, List.getD_cons_zero, List.getD_cons_succ] at H)
            generalize World.drew _ = w8 at *
            refine wpAnyH_take (i := 0) (v := ?vq34_0) (get_o0) (by kernel_rfl) (by kernel_rfl) (by kernel_rfl) (by exact fun _ _ _ h => h) (Or.inl ⟨by rfl, ?hyq34_0⟩) (by assumption) ?_
            case hyq34_0 => (intro w hSw; (try dsimp only at hSw); go_simp) <;> with_reducible rfl
            try simp only [Act.put, List.setIfInBounds_toArray, List.set_cons_zero, List.set_cons_succ]
            refine wpAnyH_take (i := 2) (v := ?vq34_2) (get_os (get_os (get_o0))) (by kernel_rfl) (by kernel_rfl) (by kernel_rfl) (by exact fun _ _ _ h => h) (Or.inl ⟨by rfl, ?hyq34_2⟩) (by assumption) ?_
            case hyq34_2 => (intro w hSw; (try dsimp only at hSw); go_simp) <;> with_reducible rfl
            try simp only [Act.put, List.setIfInBounds_toArray, List.set_cons_zero, List.set_cons_succ]
            refine wpAnyH_ready (rs := [1]) (by kernel_rfl) (by simp) ?_
            refine (AllReadyH.cons (get_os (get_o0)) (fun KK hKK => ?_) AllReadyH.nil)
            go_simp
            refine (anodes_any b z _ F0.out.1 (H.out.at_ 2 rfl)).mono ?_; rintro e' w6 ⟨l2, rfl, hl2, hr2, hb6⟩
            replace H := Lib.hid (H.out.bel hb6); (try simp only [List.set_cons_zero, List.set_cons_succ, List.cons_append, List.nil_append, List.eraseIdx_cons_zero, List.eraseIdx_cons_succ, List.setIfInBounds_toArray, World.size_alloc, selR, List.getD_cons_zero, List.getD_cons_succ] at H)
            have HL2 := Lib.hid hl2
            clear hl2 hb6
            refine hKK.out _ _ (H.out.blk 0 rfl) (fun hHeld => ?_)
            clear hKK KK
            try simp only [Act.put, List.setIfInBounds_toArray, List.set_cons_zero, List.set_cons_succ]
            refine wpAnyH_ready (rs := [3]) (by kernel_rfl) (by simp) ?_
            refine (AllReadyH.cons (get_os (get_os (get_os (get_o0)))) (fun KK hKK => ?_) AllReadyH.nil)
            go_simp
            refine (rall24_any l2 ⟨B, m, d, L⟩ _ hr2 (HALL.out _ H.out.to (H.out.row 1 rfl)) (by rw [HL2.out]; exact N0.out.2.1.symm)).mono ?_; rintro e' w7 ⟨rfl, hb7⟩
            replace H := Lib.hid (H.out.bel hb7); (try simp only [List.set_cons_zero, List.set_cons_succ, List.cons_append, List.nil_append, List.eraseIdx_cons_zero, List.eraseIdx_cons_succ, List.setIfInBounds_toArray, World.size_alloc, selR, List.getD_cons_zero, List.getD_cons_succ] at H)
            clear hb7 hr2 HL2
            refine hKK.out _ _ (H.out.blk 0 rfl) (fun hHeld => ?_)
            clear hKK KK
            try simp only [Act.put, List.setIfInBounds_toArray, List.set_cons_zero, List.set_cons_succ]
            refine wpAnyH_take (i := 4) (v := ?vq35_) (get_os (get_os (get_os (get_os (get_o0))))) (by kernel_rfl) (by kernel_rfl) (by kernel_rfl) (by exact fun _ _ _ h => h) (Or.inl ⟨by rfl, ?hyq35_⟩) (by assumption) ?_
            case hyq35_ => (intro w hSw; (try dsimp only at hSw); go_simp) <;> with_reducible rfl
            try simp only [Act.put, List.setIfInBounds_toArray, List.set_cons_zero, List.set_cons_succ]
            refine wpAnyH_take (i := 5) (v := ?vq36_) (get_os (get_os (get_os (get_os (get_os (get_o0)))))) (by kernel_rfl) (by kernel_rfl) (by kernel_rfl) (by exact fun _ _ _ h => h) (Or.inl ⟨by rfl, ?hyq36_⟩) (by assumption) ?_
            case hyq36_ => (intro w hSw; (try dsimp only at hSw); go_simp) <;> with_reducible rfl
            try simp only [Act.put, List.setIfInBounds_toArray, List.set_cons_zero, List.set_cons_succ]
            refine wpAnyH_take (i := 7) (v := .agg s.cs) (get_os (get_os (get_os (get_os (get_os (get_os (get_os (get_o0)))))))) (by kernel_rfl) (by kernel_rfl) (by kernel_rfl) (by exact fun _ _ _ h => h) (yields_blkS rowShp2 (by rfl) (.tmp 4) rfl _ rfl (fun w h => h) rfl) (by assumption) ?_
            try simp only [Act.put, List.setIfInBounds_toArray, List.set_cons_zero, List.set_cons_succ]
            refine wpAnyH_take (i := 8) (v := ?vq38_) (get_os (get_os (get_os (get_os (get_os (get_os (get_os (get_os (get_o0))))))))) (by kernel_rfl) (by kernel_rfl) (by kernel_rfl) (by exact fun _ _ _ h => h) (Or.inl ⟨by rfl, ?hyq38_⟩) (by assumption) ?_
            case hyq38_ => (intro w hSw; (try dsimp only at hSw); go_simp) <;> with_reducible rfl
            try simp only [Act.put, List.setIfInBounds_toArray, List.set_cons_zero, List.set_cons_succ]
            refine wpAnyH_ready (rs := [6]) (by kernel_rfl) (by simp) ?_
            refine (AllReadyH.cons (get_os (get_os (get_os (get_os (get_os (get_os (get_o0))))))) (fun KK hKK => ?_) AllReadyH.nil)
            go_simp
            refine (HW1.out _ (H.out.at_ 2 rfl)).mono ?_; rintro e' w8 ⟨rfl, hb8⟩
            replace H := Lib.hid (H.out.bel hb8); (try simp only [List.set_cons_zero, List.set_cons_succ, List.cons_append, List.nil_append, List.eraseIdx_cons_zero, List.eraseIdx_cons_succ, List.setIfInBounds_toArray, World.size_alloc, selR, List.getD_cons_zero, List.getD_cons_succ] at H)
            clear hb8
            refine hKK.out _ _ (H.out.blk 0 rfl) (fun hHeld => ?_)
            clear hKK KK
            try simp only [Act.put, List.setIfInBounds_toArray, List.set_cons_zero, List.set_cons_succ]
            refine wpAnyH_ready (rs := [9]) (by kernel_rfl) (by simp) ?_
            refine (AllReadyH.cons (get_os (get_os (get_os (get_os (get_os (get_os (get_os (get_os (get_os (get_o0)))))))))) (fun KK hKK => ?_) AllReadyH.nil)
            go_simp
            refine (HW2.out _ H.out.to (H.out.row 1 rfl)).mono ?_; rintro e' w9 ⟨rfl, hb9⟩
            replace H := Lib.hid (H.out.bel hb9); (try simp only [List.set_cons_zero, List.set_cons_succ, List.cons_append, List.nil_append, List.eraseIdx_cons_zero, List.eraseIdx_cons_succ, List.setIfInBounds_toArray, World.size_alloc, selR, List.getD_cons_zero, List.getD_cons_succ] at H)
            clear hb9
            refine hKK.out _ _ (H.out.blk 0 rfl) (fun hHeld => ?_)
            clear hKK KK
            try simp only [Act.put, List.setIfInBounds_toArray, List.set_cons_zero, List.set_cons_succ]
            refine wpAnyH_take (i := 10) (v := ?vq39_) (get_ot (get_o0)) (by kernel_rfl) (by kernel_rfl) (by kernel_rfl) (by exact fun _ _ _ h => h) (Or.inl ⟨by rfl, ?hyq39_⟩) (by assumption) ?_
            case hyq39_ => (intro w hSw; (try dsimp only at hSw); go_simp) <;> with_reducible rfl
            try simp only [Act.put, List.setIfInBounds_toArray, List.set_cons_zero, List.set_cons_succ]
            refine wpAnyH_take (i := 11) (v := ?vq40_) (get_ot (get_os (get_o0))) (by kernel_rfl) (by kernel_rfl) (by kernel_rfl) (by exact fun _ _ _ h => h) (Or.inl ⟨by rfl, ?hyq40_⟩) (by assumption) ?_
            case hyq40_ => (intro w hSw; (try dsimp only at hSw); go_simp) <;> with_reducible rfl
            try simp only [Act.put, List.setIfInBounds_toArray, List.set_cons_zero, List.set_cons_succ]
            refine wpAnyH_take (i := 12) (v := ?vq41_) (get_ot (get_os (get_os (get_o0)))) (by kernel_rfl) (by kernel_rfl) (by kernel_rfl) (by exact fun _ _ _ h => h) (Or.inl ⟨by rfl, ?hyq41_⟩) (by assumption) ?_
            case hyq41_ => (intro w hSw; (try dsimp only at hSw); go_simp) <;> with_reducible rfl
            try simp only [Act.put, List.setIfInBounds_toArray, List.set_cons_zero, List.set_cons_succ]
            refine wpAnyH_ready (rs := [13]) (by kernel_rfl) (by simp) ?_
            refine (AllReadyH.cons (get_ot (get_os (get_os (get_os (get_o0))))) (fun KK hKK => ?_) AllReadyH.nil)
            go_simp
            refine (awake25_any _).mono ?_; rintro e' w10 ⟨rfl, hb10⟩
            replace H := Lib.hid (H.out.bel hb10); (try simp only [List.set_cons_zero, List.set_cons_succ, List.cons_append, List.nil_append, List.eraseIdx_cons_zero, List.eraseIdx_cons_succ, List.setIfInBounds_toArray, World.size_alloc, selR, List.getD_cons_zero, List.getD_cons_succ] at H)
            clear hb10
            refine hKK.out _ _ (H.out.blk 0 rfl) (fun hHeld => ?_)
            clear hKK KK
            try simp only [Act.put, List.setIfInBounds_toArray, List.set_cons_zero, List.set_cons_succ]
            refine wpAnyH_take (i := 14) (v := ?vq42_) (get_ot (get_os (get_os (get_os (get_os (get_o0)))))) (by kernel_rfl) (by kernel_rfl) (by kernel_rfl) (by exact fun _ _ _ h => h) (Or.inl ⟨by rfl, ?hyq42_⟩) (by assumption) ?_
            case hyq42_ => (intro w hSw; (try dsimp only at hSw); go_simp) <;> with_reducible rfl
            try simp only [Act.put, List.setIfInBounds_toArray, List.set_cons_zero, List.set_cons_succ]
            refine wpAnyH_take (i := 15) (v := ?vq43_) (get_ot (get_os (get_os (get_os (get_os (get_os (get_o0))))))) (by kernel_rfl) (by kernel_rfl) (by kernel_rfl) (by exact fun _ _ _ h => h) (Or.inl ⟨by rfl, ?hyq43_⟩) (by assumption) ?_
            case hyq43_ => (intro w hSw; (try dsimp only at hSw); go_simp) <;> with_reducible rfl
            try simp only [Act.put, List.setIfInBounds_toArray, List.set_cons_zero, List.set_cons_succ]
            refine wpAnyH_done (by kernel_rfl) ?_ _
            clear hHeld
            go_wp2_with fail
            go_ret
            exact ⟨rfl, H.out.to⟩
          · go_wp2_with ((with_reducible show wpList _ _ _ (⟨some 157, _, _, _, _, _⟩ :: _) _ _); refine wpList_load_blkG (by first | rfl | go_simp) rowNd (.tmp 17) (by rfl) _ (by rfl) (H.out.blk 3 rfl) rfl ?_)
            refine (HNN.out _).mono ?_; rintro e w8 ⟨rfl, hb8⟩
            replace H := Lib.hid (H.out.bel hb8); (try simp only [List.set_cons_zero, List.set_cons_succ, List.cons_append, List.nil_append, List.eraseIdx_cons_zero, List.eraseIdx_cons_succ, List.setIfInBounds_toArray, World.size_alloc, selR, List.getD_cons_zero, List.getD_cons_succ] at H)
            clear hb8
            go_upto_region 27 with fail
            refine wp_region_held_drew (S := fun W => Blk W p 24 s.cs) (by kernel_rfl) (H.out.blk 0 rfl) (fun hHeld => ?_)
            replace H := Lib.hid (H.out.drew); (try simp only [List.set_cons_zero, List.set_cons_succ, List.cons_append, List.nil_append, List.eraseIdx_cons_zero, List.eraseIdx_cons_succ, List.setIfInBounds_toArray, World.size_alloc, selR, List.getD_cons_zero, List.getD_cons_succ] at H)
            generalize World.drew _ = w8 at *
            refine wpAnyH_take (i := 0) (v := ?vq34_0) (get_o0) (by kernel_rfl) (by kernel_rfl) (by kernel_rfl) (by exact fun _ _ _ h => h) (Or.inl ⟨by rfl, ?hyq34_0⟩) (by assumption) ?_
            case hyq34_0 => (intro w hSw; (try dsimp only at hSw); go_simp) <;> with_reducible rfl
            try simp only [Act.put, List.setIfInBounds_toArray, List.set_cons_zero, List.set_cons_succ]
            refine wpAnyH_take (i := 2) (v := ?vq34_2) (get_os (get_os (get_o0))) (by kernel_rfl) (by kernel_rfl) (by kernel_rfl) (by exact fun _ _ _ h => h) (Or.inl ⟨by rfl, ?hyq34_2⟩) (by assumption) ?_
            case hyq34_2 => (intro w hSw; (try dsimp only at hSw); go_simp) <;> with_reducible rfl
            try simp only [Act.put, List.setIfInBounds_toArray, List.set_cons_zero, List.set_cons_succ]
            refine wpAnyH_ready (rs := [1]) (by kernel_rfl) (by simp) ?_
            refine (AllReadyH.cons (get_os (get_o0)) (fun KK hKK => ?_) AllReadyH.nil)
            go_simp
            refine (anodes_any b z _ F0.out.1 (H.out.at_ 2 rfl)).mono ?_; rintro e' w6 ⟨l2, rfl, hl2, hr2, hb6⟩
            replace H := Lib.hid (H.out.bel hb6); (try simp only [List.set_cons_zero, List.set_cons_succ, List.cons_append, List.nil_append, List.eraseIdx_cons_zero, List.eraseIdx_cons_succ, List.setIfInBounds_toArray, World.size_alloc, selR, List.getD_cons_zero, List.getD_cons_succ] at H)
            have HL2 := Lib.hid hl2
            clear hl2 hb6
            refine hKK.out _ _ (H.out.blk 0 rfl) (fun hHeld => ?_)
            clear hKK KK
            try simp only [Act.put, List.setIfInBounds_toArray, List.set_cons_zero, List.set_cons_succ]
            refine wpAnyH_ready (rs := [3]) (by kernel_rfl) (by simp) ?_
            refine (AllReadyH.cons (get_os (get_os (get_os (get_o0)))) (fun KK hKK => ?_) AllReadyH.nil)
            go_simp
            refine (rall24_any l2 ⟨B, m, d, L⟩ _ hr2 (HALL.out _ H.out.to (H.out.row 1 rfl)) (by rw [HL2.out]; exact N0.out.2.1.symm)).mono ?_; rintro e' w7 ⟨rfl, hb7⟩
            replace H := Lib.hid (H.out.bel hb7); (try simp only [List.set_cons_zero, List.set_cons_succ, List.cons_append, List.nil_append, List.eraseIdx_cons_zero, List.eraseIdx_cons_succ, List.setIfInBounds_toArray, World.size_alloc, selR, List.getD_cons_zero, List.getD_cons_succ] at H)
            clear hb7 hr2 HL2
            refine hKK.out _ _ (H.out.blk 0 rfl) (fun hHeld => ?_)
            clear hKK KK
            try simp only [Act.put, List.setIfInBounds_toArray, List.set_cons_zero, List.set_cons_succ]
            refine wpAnyH_take (i := 4) (v := ?vq35_) (get_os (get_os (get_os (get_os (get_o0))))) (by kernel_rfl) (by kernel_rfl) (by kernel_rfl) (by exact fun _ _ _ h => h) (Or.inl ⟨by rfl, ?hyq35_⟩) (by assumption) ?_
            case hyq35_ => (intro w hSw; (try dsimp only at hSw); go_simp) <;> with_reducible rfl
            try simp only [Act.put, List.setIfInBounds_toArray, List.set_cons_zero, List.set_cons_succ]
            refine wpAnyH_take (i := 5) (v := ?vq36_) (get_os (get_os (get_os (get_os (get_os (get_o0)))))) (by kernel_rfl) (by kernel_rfl) (by kernel_rfl) (by exact fun _ _ _ h => h) (Or.inl ⟨by rfl, ?hyq36_⟩) (by assumption) ?_
            case hyq36_ => (intro w hSw; (try dsimp only at hSw); go_simp) <;> with_reducible rfl
            try simp only [Act.put, List.setIfInBounds_toArray, List.set_cons_zero, List.set_cons_succ]
            refine wpAnyH_take (i := 7) (v := .agg s.cs) (get_os (get_os (get_os (get_os (get_os (get_os (get_os (get_o0)))))))) (by kernel_rfl) (by kernel_rfl) (by kernel_rfl) (by exact fun _ _ _ h => h) (yields_blkS rowShp2 (by rfl) (.tmp 4) rfl _ rfl (fun w h => h) rfl) (by assumption) ?_
            try simp only [Act.put, List.setIfInBounds_toArray, List.set_cons_zero, List.set_cons_succ]
            refine wpAnyH_take (i := 8) (v := ?vq38_) (get_os (get_os (get_os (get_os (get_os (get_os (get_os (get_os (get_o0))))))))) (by kernel_rfl) (by kernel_rfl) (by kernel_rfl) (by exact fun _ _ _ h => h) (Or.inl ⟨by rfl, ?hyq38_⟩) (by assumption) ?_
            case hyq38_ => (intro w hSw; (try dsimp only at hSw); go_simp) <;> with_reducible rfl
            try simp only [Act.put, List.setIfInBounds_toArray, List.set_cons_zero, List.set_cons_succ]
            refine wpAnyH_ready (rs := [6]) (by kernel_rfl) (by simp) ?_
            refine (AllReadyH.cons (get_os (get_os (get_os (get_os (get_os (get_os (get_o0))))))) (fun KK hKK => ?_) AllReadyH.nil)
            go_simp
            refine (HW1.out _ (H.out.at_ 2 rfl)).mono ?_; rintro e' w8 ⟨rfl, hb8⟩
            replace H := Lib.hid (H.out.bel hb8); (try simp only [List.set_cons_zero, List.set_cons_succ, List.cons_append, List.nil_append, List.eraseIdx_cons_zero, List.eraseIdx_cons_succ, List.setIfInBounds_toArray, World.size_alloc, selR, List.getD_cons_zero, List.getD_cons_succ] at H)
            clear hb8
            refine hKK.out _ _ (H.out.blk 0 rfl) (fun hHeld => ?_)
            clear hKK KK
            try simp only [Act.put, List.setIfInBounds_toArray, List.set_cons_zero, List.set_cons_succ]
            refine wpAnyH_ready (rs := [9]) (by kernel_rfl) (by simp) ?_
            refine (AllReadyH.cons (get_os (get_os (get_os (get_os (get_os (get_os (get_os (get_os (get_os (get_o0)))))))))) (fun KK hKK => ?_) AllReadyH.nil)
            go_simp
            refine (HW2.out _ H.out.to (H.out.row 1 rfl)).mono ?_; rintro e' w9 ⟨rfl, hb9⟩
            replace H := Lib.hid (H.out.bel hb9); (try simp only [List.set_cons_zero, List.set_cons_succ, List.cons_append, List.nil_append, List.eraseIdx_cons_zero, List.eraseIdx_cons_succ, List.setIfInBounds_toArray, World.size_alloc, selR, List.getD_cons_zero, List.getD_cons_succ] at H)
            clear hb9
            refine hKK.out _ _ (H.out.blk 0 rfl) (fun hHeld => ?_)
            clear hKK KK
            try simp only [Act.put, List.setIfInBounds_toArray, List.set_cons_zero, List.set_cons_succ]
            refine wpAnyH_take (i := 10) (v := ?vq39_) (get_ot (get_o0)) (by kernel_rfl) (by kernel_rfl) (by kernel_rfl) (by exact fun _ _ _ h => h) (Or.inl ⟨by rfl, ?hyq39_⟩) (by assumption) ?_
            case hyq39_ => (intro w hSw; (try dsimp only at hSw); go_simp) <;> with_reducible rfl
            try simp only [Act.put, List.setIfInBounds_toArray, List.set_cons_zero, List.set_cons_succ]
            refine wpAnyH_take (i := 11) (v := ?vq40_) (get_ot (get_os (get_o0))) (by kernel_rfl) (by kernel_rfl) (by kernel_rfl) (by exact fun _ _ _ h => h) (Or.inl ⟨by rfl, ?hyq40_⟩) (by assumption) ?_
            case hyq40_ => (intro w hSw; (try dsimp only at hSw); go_simp) <;> with_reducible rfl
            try simp only [Act.put, List.setIfInBounds_toArray, List.set_cons_zero, List.set_cons_succ]
            refine wpAnyH_take (i := 12) (v := ?vq41_) (get_ot (get_os (get_os (get_o0)))) (by kernel_rfl) (by kernel_rfl) (by kernel_rfl) (by exact fun _ _ _ h => h) (Or.inl ⟨by rfl, ?hyq41_⟩) (by assumption) ?_
            case hyq41_ => (intro w hSw; (try dsimp only at hSw); go_simp) <;> with_reducible rfl
            try simp only [Act.put, List.setIfInBounds_toArray, List.set_cons_zero, List.set_cons_succ]
            refine wpAnyH_ready (rs := [13]) (by kernel_rfl) (by simp) ?_
            refine (AllReadyH.cons (get_ot (get_os (get_os (get_os (get_o0))))) (fun KK hKK => ?_) AllReadyH.nil)
            go_simp
            refine (awake25_any _).mono ?_; rintro e' w10 ⟨rfl, hb10⟩
            replace H := Lib.hid (H.out.bel hb10); (try simp only [List.set_cons_zero, List.set_cons_succ, List.cons_append, List.nil_append, List.eraseIdx_cons_zero, List.eraseIdx_cons_succ, List.setIfInBounds_toArray, World.size_alloc, selR, List.getD_cons_zero, List.getD_cons_succ] at H)
            clear hb10
            refine hKK.out _ _ (H.out.blk 0 rfl) (fun hHeld => ?_)
            clear hKK KK
            try simp only [Act.put, List.setIfInBounds_toArray, List.set_cons_zero, List.set_cons_succ]
            refine wpAnyH_take (i := 14) (v := ?vq42_) (get_ot (get_os (get_os (get_os (get_os (get_o0)))))) (by kernel_rfl) (by kernel_rfl) (by kernel_rfl) (by exact fun _ _ _ h => h) (Or.inl ⟨by rfl, ?hyq42_⟩) (by assumption) ?_
            case hyq42_ => (intro w hSw; (try dsimp only at hSw); go_simp) <;> with_reducible rfl
            try simp only [Act.put, List.setIfInBounds_toArray, List.set_cons_zero, List.set_cons_succ]
            refine wpAnyH_take (i := 15) (v := ?vq43_) (get_ot (get_os (get_os (get_os (get_os (get_os (get_o0))))))) (by kernel_rfl) (by kernel_rfl) (by kernel_rfl) (by exact fun _ _ _ h => h) (Or.inl ⟨by rfl, ?hyq43_⟩) (by assumption) ?_
            case hyq43_ => (intro w hSw; (try dsimp only at hSw); go_simp) <;> with_reducible rfl
            try simp only [Act.put, List.setIfInBounds_toArray, List.set_cons_zero, List.set_cons_succ]
            refine wpAnyH_done (by kernel_rfl) ?_ _
            clear hHeld
            go_wp2_with fail
            go_ret
            exact ⟨rfl, H.out.to⟩
  · rw [if_neg hok] at hnew
    obtain ⟨rfl, hb4⟩ := hnew
    replace H := Lib.hid (H.out.bel hb4); (try simp only [List.set_cons_zero, List.set_cons_succ, List.cons_append, List.nil_append, List.eraseIdx_cons_zero, List.eraseIdx_cons_succ, List.setIfInBounds_toArray, World.size_alloc, selR, List.getD_cons_zero, List.getD_cons_succ] at H)
    clear hb4
    obtain ⟨SO, hSO⟩ : ∃ SO, SO = shapeOk s.con s.ms := ⟨_, rfl⟩
    rw [← hSO] at HMY HAM hok
    clear hSO
    go_wp2_with ((with_reducible show wpList _ _ _ (⟨some 34, _, _, _, _, _⟩ :: _) _ _); (refine wpList_load_blk rfl rowShp2 (.tmp 4) rfl _ rfl (H.out.blk 0 rfl) rfl ?_))
    refine (HMY.out _ H.out.to).mono ?_; rintro e w5 ⟨rfl, hb5⟩
    replace H := Lib.hid (H.out.bel hb5); (try simp only [List.set_cons_zero, List.set_cons_succ, List.cons_append, List.nil_append, List.eraseIdx_cons_zero, List.eraseIdx_cons_succ, List.setIfInBounds_toArray, World.size_alloc, selR, List.getD_cons_zero, List.getD_cons_succ] at H)
    clear hb5
    cases SO with
    | false =>
      clear hok
      go_upto_region 5 with fail
      refine wp_region_over (by kernel_rfl) (by kernel_rfl) ?_
      (try simp only [Act.put, List.setIfInBounds_toArray, List.set_cons_zero, List.set_cons_succ])
      repeat (first
        | ((with_reducible show wpQuiet _ _ _ _ (⟨some 52, _, _, _, _, _⟩ :: _) _); refine wpQuiet_load_row (by first | rfl | go_simp) rowShp2 (.tmp 4) rfl _ (0) rfl _ rfl (H.out.blk 0 rfl).lt (H.out.blk 0 rfl).range ?_; simp only [Act.put, List.setIfInBounds_toArray, List.set_cons_zero, List.set_cons_succ])
        | ((with_reducible show wpQuiet _ _ _ _ (⟨some 54, _, _, _, _, _⟩ :: _) _); refine wpQuiet_load_row (by first | rfl | go_simp) rowShp2 (.tmp 4) rfl _ (0) rfl _ rfl (H.out.blk 0 rfl).lt (H.out.blk 0 rfl).range ?_; simp only [Act.put, List.setIfInBounds_toArray, List.set_cons_zero, List.set_cons_succ])
        | go_big_quiet_step ((first | (go_at_call 23; rename_i u; exact calls_over (HAM.out _ (H.out.to.trans u.bel))) | (go_at_call 22; rename_i u; exact calls_over (HMY.out _ (H.out.to.trans u.bel))) | (go_at_call 16; rename_i u; exact calls_over (awake25_any _))))
        | go_big_quiet_step (fail))
      refine wpQuiet_nil ?_
      rintro w5 ⟨⟨_, hw5⟩, rfl⟩
      (try dsimp only)
      replace H := Lib.hid (H.out.bel hw5); (try simp only [List.set_cons_zero, List.set_cons_succ, List.cons_append, List.nil_append, List.eraseIdx_cons_zero, List.eraseIdx_cons_succ, List.setIfInBounds_toArray, World.size_alloc, selR, List.getD_cons_zero, List.getD_cons_succ] at H)
      skip
      go_wp2_with fail
      go_ret
      exact ⟨rfl, H.out.to⟩
    | true =>
      by_cases g1 : most < 0
      · have mo0 : decide (most < 0) = true := by simpa using g1
        clear hok g1
        go_upto_region 5 with fail
        refine wp_region_over (by kernel_rfl) (by kernel_rfl) ?_
        (try simp only [Act.put, List.setIfInBounds_toArray, List.set_cons_zero, List.set_cons_succ])
        repeat (first
          | ((with_reducible show wpQuiet _ _ _ _ (⟨some 52, _, _, _, _, _⟩ :: _) _); refine wpQuiet_load_row (by first | rfl | go_simp) rowShp2 (.tmp 4) rfl _ (0) rfl _ rfl (H.out.blk 0 rfl).lt (H.out.blk 0 rfl).range ?_; simp only [Act.put, List.setIfInBounds_toArray, List.set_cons_zero, List.set_cons_succ])
          | ((with_reducible show wpQuiet _ _ _ _ (⟨some 54, _, _, _, _, _⟩ :: _) _); refine wpQuiet_load_row (by first | rfl | go_simp) rowShp2 (.tmp 4) rfl _ (0) rfl _ rfl (H.out.blk 0 rfl).lt (H.out.blk 0 rfl).range ?_; simp only [Act.put, List.setIfInBounds_toArray, List.set_cons_zero, List.set_cons_succ])
          | go_big_quiet_step ((first | (go_at_call 23; rename_i u; exact calls_over (HAM.out _ (H.out.to.trans u.bel))) | (go_at_call 22; rename_i u; exact calls_over (HMY.out _ (H.out.to.trans u.bel))) | (go_at_call 16; rename_i u; exact calls_over (awake25_any _))))
          | go_big_quiet_step (fail))
        refine wpQuiet_nil ?_
        rintro w5 ⟨⟨_, hw5⟩, rfl⟩
        (try dsimp only)
        replace H := Lib.hid (H.out.bel hw5); (try simp only [List.set_cons_zero, List.set_cons_succ, List.cons_append, List.nil_append, List.eraseIdx_cons_zero, List.eraseIdx_cons_succ, List.setIfInBounds_toArray, World.size_alloc, selR, List.getD_cons_zero, List.getD_cons_succ] at H)
        skip
        go_wp2_with fail
        go_ret
        exact ⟨rfl, H.out.to⟩
      · have mo0 : decide (most < 0) = false := by simpa using g1
        have mo1 : decide (131072 < most) = true := by have : ¬ most ≤ 131072 := fun h => hok ⟨rfl, by omega, h⟩; simp; omega
        clear hok g1
        go_upto_region 5 with fail
        refine wp_region_over (by kernel_rfl) (by kernel_rfl) ?_
        (try simp only [Act.put, List.setIfInBounds_toArray, List.set_cons_zero, List.set_cons_succ])
        repeat (first
          | ((with_reducible show wpQuiet _ _ _ _ (⟨some 52, _, _, _, _, _⟩ :: _) _); refine wpQuiet_load_row (by first | rfl | go_simp) rowShp2 (.tmp 4) rfl _ (0) rfl _ rfl (H.out.blk 0 rfl).lt (H.out.blk 0 rfl).range ?_; simp only [Act.put, List.setIfInBounds_toArray, List.set_cons_zero, List.set_cons_succ])
          | ((with_reducible show wpQuiet _ _ _ _ (⟨some 54, _, _, _, _, _⟩ :: _) _); refine wpQuiet_load_row (by first | rfl | go_simp) rowShp2 (.tmp 4) rfl _ (0) rfl _ rfl (H.out.blk 0 rfl).lt (H.out.blk 0 rfl).range ?_; simp only [Act.put, List.setIfInBounds_toArray, List.set_cons_zero, List.set_cons_succ])
          | go_big_quiet_step ((first | (go_at_call 23; rename_i u; exact calls_over (HAM.out _ (H.out.to.trans u.bel))) | (go_at_call 22; rename_i u; exact calls_over (HMY.out _ (H.out.to.trans u.bel))) | (go_at_call 16; rename_i u; exact calls_over (awake25_any _))))
          | go_big_quiet_step (fail))
        refine wpQuiet_nil ?_
        rintro w5 ⟨⟨_, hw5⟩, rfl⟩
        (try dsimp only)
        replace H := Lib.hid (H.out.bel hw5); (try simp only [List.set_cons_zero, List.set_cons_succ, List.cons_append, List.nil_append, List.eraseIdx_cons_zero, List.eraseIdx_cons_succ, List.setIfInBounds_toArray, World.size_alloc, selR, List.getD_cons_zero, List.getD_cons_succ] at H)
        skip
        go_wp2_with fail
        go_ret
        exact ⟨rfl, H.out.to⟩

end Go.Proofs.Ytjiphfobengdlaa
