/- The law's along. -/
import Derived.Test.YtjiphfobengdlaaLokC
import Derived.Test.YtjiphfobengdlaaAreG
namespace Go.Proofs.Ytjiphfobengdlaa
open Go.RowKit
set_option linter.unusedVariables false
set_option linter.unusedSimpArgs false


def RAlongPost (R : Ag × Nat × Int) (w : World) (e : Ending) (w' : World) : Prop := ∃ (A : Option Addr) (c : Nat), e = .returned (.tuple #[.agg R.1.cs, .slice A R.2.1 c, .int .i64 R.2.2]) ∧ Bel w w'
set_option maxRecDepth 100000 in
set_option maxHeartbeats 4000000 in
theorem ralong_any (l : Row Nd) (top : Int) (ps : Row Ps) (w : World) (hl : l.rd w) (hps : ps.rd w) (hp30 : ps.n ≤ 1000000) :
    Calls Try.prog 38 #[.int .i64 top, .slice l.A l.n l.c, .slice ps.A ps.n ps.c] w (RAlongPost (palong (l.l.map Nd.con) ps.l 0 top .nil) w) := by
  have HLR := Lib.hid (fun w' (hb : Bel w w') => hl.mono hb)
  have hll : Hid (l.l.length = l.n) := hl.len
  have l63 := hl.n63
  have HPR := Lib.hid (fun w' (hb : Bel w w') => hps.mono hb)
  have hpl : Hid (ps.l.length = ps.n) := hps.len
  obtain ⟨R, hR⟩ : ∃ R, R = palong (l.l.map Nd.con) ps.l 0 top .nil := ⟨_, rfl⟩
  rw [← hR]
  have HE : Hid (R = palong (l.l.map Nd.con) (ps.l.drop 0) 0 top .nil) := hR
  have H := Lib.hid ((((SL.start No w).alloc #[.int .i64 0, .int .i64 0, .int .i64 0, .int .i64 0, .int .i64 0, .int .i64 0, .int .i64 0, .int .i64 0, .int .i64 0, .int .i64 0] 40).alloc #[.int .i64 0, .int .i64 0, .int .i64 0, .int .i64 0, .int .i64 0, .int .i64 0, .int .i64 0, .int .i64 0, .int .i64 0, .int .i64 0, .int .i64 0, .int .i64 0] 42).addNil 3 1)
  (try simp only [List.set_cons_zero, List.set_cons_succ, List.cons_append, List.nil_append, List.eraseIdx_cons_zero, List.eraseIdx_cons_succ, List.setIfInBounds_toArray, World.size_alloc, selR, List.getD_cons_zero, List.getD_cons_succ] at H)
  clear hl hps hR
  go_enter Try.func38, Try.ntmps38
  go_upto_region 5 with fail
  generalize w.heap.size + 1 = z at *
  generalize w.heap.size = x at *
  generalize World.alloc (World.alloc _ _) _ = w1 at *
  go_loopg [9, 11, 19] ps.n (fun gg s9 s11 s19 wr => ∃ (k : Nat) (at_ : Int) (c : Cl) (B : Option Addr) (d : Nat) (pl : List Int), gg = ps.n - k ∧ k ≤ ps.n ∧ s9 = .int .i64 at_ ∧ s11 = .slice B k d ∧ s19 = .int .i64 k ∧ Hid (R = palong (l.l.map Nd.con) (ps.l.drop k) k at_ c) ∧ Hid (SL No w wr [rBlk x 40 #[.int .i64 0, .int .i64 0, .int .i64 0, .int .i64 0, .int .i64 0, .int .i64 0, .int .i64 0, .int .i64 0, .int .i64 0, .int .i64 0], rBlk z 42 c.cs, rRow 3 1 (.slice B k d) k (pl.map (Value.int .i64))]))
  case atStart => exact ⟨0, top, .nil, none, 0, [], rfl, by omega, rfl, rfl, rfl, HE, H⟩
  case round =>
    clear H HE
    obtain ⟨k, at_, c, B, d, pl, hgk, hk, rfl, rfl, rfl, HE, H⟩ := hrel
    have Hgk := Lib.hid hgk
    clear hgk
    by_cases hlt : k < ps.n
    · obtain ⟨bl, ol, p, hAl, hbl, hpk, hpo, hrg⟩ := (HPR.out _ H.out.to).psAt (k := k) hlt
      have HEP : Hid (R = if (pstep (l.l.map Nd.con) k at_ p.t p.k).2 ≠ 0 then (.zero, k + 1, (pstep (l.l.map Nd.con) k at_ p.t p.k).2) else palong (l.l.map Nd.con) (ps.l.drop (k + 1)) (k + 1) (pstep (l.l.map Nd.con) k at_ p.t p.k).1.ch (pstep (l.l.map Nd.con) k at_ p.t p.k).1) := by show _ = _; rw [HE.out, drop_consL hpk]; rfl
      have HPO := Lib.hid hpo
      have p64 := hpo.t
      unfold I64 at p64
      have HRG := Lib.hid hrg
      have k0 : (0 : Int) ≤ k := by omega
      have k1 : (k : Int) < ps.n := by omega
      have HAL := Lib.hid hAl
      rw [hAl]
      clear hpk hpo hrg hAl HE
      go_upto_region 7 with (first | ((with_reducible show wpList _ _ _ (⟨some 23, _, _, _, _, _⟩ :: _) _ _); (refine wpList_load_row_at rfl rowPosA (.tmp 22) rfl bl (ol + k * 2) rfl p.cs rfl HRG.out ?_)) | ((with_reducible show wpList _ _ _ (⟨_, .store _ (.tmp 13) _, _, _, _, _⟩ :: _) _ _); (refine wpList_store_new rfl rowPosA (.tmp 13) (.tmp 23) rfl rfl rfl (p.cs) rfl rfl (ps_one p) ?_; replace H := Lib.hid (H.out.alloc (p.cs) 110); (try simp only [List.set_cons_zero, List.set_cons_succ, List.cons_append, List.nil_append, List.eraseIdx_cons_zero, List.eraseIdx_cons_succ, List.setIfInBounds_toArray, World.size_alloc, selR, List.getD_cons_zero, List.getD_cons_succ] at H))))
      (try simp only [Act.put, List.setIfInBounds_toArray, List.set_cons_zero, List.set_cons_succ])
      clear HRG hbl
      generalize wr.heap.size = y at *
      generalize World.alloc wr _ = w2 at *
      go_upto_region 8 with ((with_reducible show wpList _ _ _ (⟨some 27, _, _, _, _, _⟩ :: _) _ _); (replace H := Lib.hid (H.out.alloc #[.int .i64 at_] 3); (try simp only [List.set_cons_zero, List.set_cons_succ, List.cons_append, List.nil_append, List.eraseIdx_cons_zero, List.eraseIdx_cons_succ, List.setIfInBounds_toArray, World.size_alloc, selR, List.getD_cons_zero, List.getD_cons_succ] at H); refine wpList_append0 rfl (.tmp 24) (.tmp 26) _ rfl E_num 0 (Nat.zero_le _) _ k _ rfl (H.out.row 2 rfl) _ 1 1 [.int .i64 at_] rfl (reads_of_block (H.out.blk 4 rfl) rfl) (by simp [Value.oneCell']) (by unfold maxLen; omega) (by omega) ?_; intro vq wq howq hgq hatq; replace H := Lib.hid (H.out.setRow 2 rfl hgq howq hatq); (try simp only [List.set_cons_zero, List.set_cons_succ, List.cons_append, List.nil_append, List.eraseIdx_cons_zero, List.eraseIdx_cons_succ, List.setIfInBounds_toArray, World.size_alloc, selR, List.getD_cons_zero, List.getD_cons_succ] at H); clear howq hgq hatq; obtain ⟨A2, c2, rfl, _⟩ := own_slice (H.out.row 2 rfl)))
      (try simp only [Act.put, List.setIfInBounds_toArray, List.set_cons_zero, List.set_cons_succ])
      replace H := Lib.hid (H.out.sel [0, 1, 2, 3] (by decide) (by simp)); (try simp only [List.set_cons_zero, List.set_cons_succ, List.cons_append, List.nil_append, List.eraseIdx_cons_zero, List.eraseIdx_cons_succ, List.setIfInBounds_toArray, World.size_alloc, selR, List.getD_cons_zero, List.getD_cons_succ] at H)
      have HPL : Hid (pl.map (Value.int .i64) ++ [Value.int .i64 at_] = (pl ++ [at_]).map (Value.int .i64)) := by show _ = _; rw [List.map_append]; rfl
      rw [HPL.out] at H
      clear HPL
      obtain ⟨O, hO⟩ : ∃ O, O = (if at_ < 0 then none else l.l[at_.toNat]?) := ⟨_, rfl⟩
      have HNA : Hid (nodeAt (l.l.map Nd.con) at_ = O.map Nd.con) := by show _ = _; rw [nodeAt_map, ← hO]
      by_cases h0 : at_ < 0
      · have HV : Hid (R = (.zero, k + 1, 9)) := by show _ = _; rw [HEP.out, pstep_none (by rw [HNA.out, hO, if_pos h0]; rfl), if_pos (by simp)]
        have d0 : decide (at_ < 0) = true := by simpa using h0
        clear HEP HNA hO h0
        go_wp2_with ((with_reducible show wpList _ _ _ (⟨_, .store _ (.tmp 6) _, _, _, _, _⟩ :: _) _ _); (refine wpList_store_blk rfl rowAgA (.tmp 6) (.tmp 36) rfl _ rfl (H.out.blk 0 rfl) rfl (#[.int .i64 0, .int .i64 0, .int .i64 0, .int .i64 0, .int .i64 0, .int .i64 0, .int .i64 0, .int .i64 0, .int .i64 0, .int .i64 0]) rfl rfl (by simp [Value.oneCell']) ?_; intro wq bq hgq; replace H := Lib.hid (H.out.setBlk 0 rfl hgq bq); (try simp only [List.set_cons_zero, List.set_cons_succ, List.cons_append, List.nil_append, List.eraseIdx_cons_zero, List.eraseIdx_cons_succ, List.setIfInBounds_toArray, World.size_alloc, selR, List.getD_cons_zero, List.getD_cons_succ] at H); clear hgq bq))
        refine bodyPost_ret (results_blk3 rfl rowAgA rfl (H.out.blk 0 rfl) rfl) rfl ?_
        rw [HV.out]
        exact ⟨A2, c2, rfl, H.out.to⟩
      have d0 : decide (at_ < 0) = false := by simpa using h0
      obtain ⟨q, rfl⟩ : ∃ q : Nat, at_ = q := ⟨at_.toNat, by omega⟩
      rw [if_neg h0, Int.toNat_natCast] at hO
      by_cases h1 : l.n ≤ q
      · have HV : Hid (R = (.zero, k + 1, 9)) := by show _ = _; rw [HEP.out, pstep_none (by rw [HNA.out, hO, List.getElem?_eq_none (by rw [hll.out]; exact h1)]; rfl), if_pos (by simp)]
        have d1 : decide ((l.n : Int) ≤ (q : Int)) = true := by simp; omega
        have d1n : decide (l.n ≤ q) = true := by simp; omega
        clear HEP HNA hO h0 h1
        go_wp2_with ((with_reducible show wpList _ _ _ (⟨_, .store _ (.tmp 6) _, _, _, _, _⟩ :: _) _ _); (refine wpList_store_blk rfl rowAgA (.tmp 6) (.tmp 36) rfl _ rfl (H.out.blk 0 rfl) rfl (#[.int .i64 0, .int .i64 0, .int .i64 0, .int .i64 0, .int .i64 0, .int .i64 0, .int .i64 0, .int .i64 0, .int .i64 0, .int .i64 0]) rfl rfl (by simp [Value.oneCell']) ?_; intro wq bq hgq; replace H := Lib.hid (H.out.setBlk 0 rfl hgq bq); (try simp only [List.set_cons_zero, List.set_cons_succ, List.cons_append, List.nil_append, List.eraseIdx_cons_zero, List.eraseIdx_cons_succ, List.setIfInBounds_toArray, World.size_alloc, selR, List.getD_cons_zero, List.getD_cons_succ] at H); clear hgq bq))
        refine bodyPost_ret (results_blk3 rfl rowAgA rfl (H.out.blk 0 rfl) rfl) rfl ?_
        rw [HV.out]
        exact ⟨A2, c2, rfl, H.out.to⟩
      have d1 : decide ((l.n : Int) ≤ (q : Int)) = false := by simp; omega
      have d1n : decide (l.n ≤ q) = false := by simp; omega
      obtain ⟨bn, on, n, hAn, hbn, hnk, hnr, hrn⟩ := (HLR.out _ (Bel.refl _)).ndAt (k := q) (by omega)
      have HRN : Hid (∀ W, Bel w W → W.rangeAt bn (on + q * 14) n.cs.toList) := fun W hb j v hv => cell_bel hb (hrn j v hv)
      have hnm := List.mem_of_getElem? hnk
      have HNR := Lib.hid (fun w' (hb : Bel w w') => ((HLR.out w' hb).all n hnm : n.rd w'))
      have hln : n.con.ls.length = n.ls.n := by show (n.ls.l.map Row.l).length = _; rw [List.length_map]; exact hnr.ls.len
      have HPS : Hid (pstep (l.l.map Nd.con) k (q : Int) p.t p.k = if n.dim ≠ k ∨ (n.ls.n : Int) ≤ p.t then ((.nil, 15) : Cl × Int) else match pfind n.con p.t p.k with | none => (.nil, 10) | some c => (c, 0)) := by show _ = _; rw [pstep_some (n := n.con) (by rw [HNA.out, hO, hnk]; rfl), hln]; rfl
      have d64 := hnr.dim
      have n63 := hnr.ls.n63
      unfold I64 at d64
      have q0 : (0 : Int) ≤ q := by omega
      have q1 : (q : Int) < l.n := by omega
      have HAN := Lib.hid hAn
      have x1 := HRN.out _ H.out.to 0 _ rfl
      have x2 := HRN.out _ H.out.to 1 _ rfl
      have cp : wq.cell? ⟨y, 0, none⟩ = some (.int .i64 p.t) := (H.out.blk 3 rfl).cell 0
      rw [Nat.add_zero] at x1
      rw [hAn]
      clear hnk hnm hnr hrn hln hAn hbn h0 h1 HNA hO
      go_upto_region 10 with fail
      clear d0 d1 d1n
      by_cases g1 : n.dim ≠ k
      · have HV : Hid (R = (.zero, k + 1, 15)) := by show _ = _; rw [HEP.out, show pstep (l.l.map Nd.con) k (q : Int) p.t p.k = ((.nil, 15) : Cl × Int) from by rw [HPS.out]; exact if_pos (.inl g1), if_pos (by simp)]
        have e1 : (n.dim != (k : Int)) = true := by simpa using g1
        clear HEP HPS g1
        have f_x1 := fun u : Over wq => Over.cell x1 u
        have f_x2 := fun u : Over wq => Over.cell x2 u
        have f_cp := fun u : Over wq => Over.cell cp u
        refine wp_region_over (by kernel_rfl) (by kernel_rfl) ?_
        (try simp only [Act.put, List.setIfInBounds_toArray, List.set_cons_zero, List.set_cons_succ])
        repeat (go_big_quiet_step (fail))
        refine wpQuiet_nil ?_
        rintro w5 ⟨⟨_, hw5⟩, rfl⟩
        (try dsimp only)
        replace H := Lib.hid (H.out.bel hw5); (try simp only [List.set_cons_zero, List.set_cons_succ, List.cons_append, List.nil_append, List.eraseIdx_cons_zero, List.eraseIdx_cons_succ, List.setIfInBounds_toArray, World.size_alloc, selR, List.getD_cons_zero, List.getD_cons_succ] at H)
        clear f_x1 f_x2 f_cp x1 x2 cp
        go_wp2_with ((with_reducible show wpList _ _ _ (⟨_, .store _ (.tmp 6) _, _, _, _, _⟩ :: _) _ _); (refine wpList_store_blk rfl rowAgA (.tmp 6) (.tmp 56) rfl _ rfl (H.out.blk 0 rfl) rfl (#[.int .i64 0, .int .i64 0, .int .i64 0, .int .i64 0, .int .i64 0, .int .i64 0, .int .i64 0, .int .i64 0, .int .i64 0, .int .i64 0]) rfl rfl (by simp [Value.oneCell']) ?_; intro wq bq hgq; replace H := Lib.hid (H.out.setBlk 0 rfl hgq bq); (try simp only [List.set_cons_zero, List.set_cons_succ, List.cons_append, List.nil_append, List.eraseIdx_cons_zero, List.eraseIdx_cons_succ, List.setIfInBounds_toArray, World.size_alloc, selR, List.getD_cons_zero, List.getD_cons_succ] at H); clear hgq bq))
        refine bodyPost_ret (results_blk3 rfl rowAgA rfl (H.out.blk 0 rfl) rfl) rfl ?_
        rw [HV.out]
        exact ⟨A2, c2, rfl, H.out.to⟩
      have g1 := Classical.not_not.1 g1
      have e1 : (n.dim != (k : Int)) = false := by simpa using g1
      by_cases g2 : (n.ls.n : Int) ≤ p.t
      · have HV : Hid (R = (.zero, k + 1, 15)) := by show _ = _; rw [HEP.out, show pstep (l.l.map Nd.con) k (q : Int) p.t p.k = ((.nil, 15) : Cl × Int) from by rw [HPS.out]; exact if_pos (.inr g2), if_pos (by simp)]
        have e2 : decide ((n.ls.n : Int) ≤ p.t) = true := by simpa using g2
        clear HEP HPS g1 g2
        have f_x1 := fun u : Over wq => Over.cell x1 u
        have f_x2 := fun u : Over wq => Over.cell x2 u
        have f_cp := fun u : Over wq => Over.cell cp u
        refine wp_region_over (by kernel_rfl) (by kernel_rfl) ?_
        (try simp only [Act.put, List.setIfInBounds_toArray, List.set_cons_zero, List.set_cons_succ])
        repeat (go_big_quiet_step (fail))
        refine wpQuiet_nil ?_
        rintro w5 ⟨⟨_, hw5⟩, rfl⟩
        (try dsimp only)
        replace H := Lib.hid (H.out.bel hw5); (try simp only [List.set_cons_zero, List.set_cons_succ, List.cons_append, List.nil_append, List.eraseIdx_cons_zero, List.eraseIdx_cons_succ, List.setIfInBounds_toArray, World.size_alloc, selR, List.getD_cons_zero, List.getD_cons_succ] at H)
        clear f_x1 f_x2 f_cp x1 x2 cp
        go_wp2_with ((with_reducible show wpList _ _ _ (⟨_, .store _ (.tmp 6) _, _, _, _, _⟩ :: _) _ _); (refine wpList_store_blk rfl rowAgA (.tmp 6) (.tmp 56) rfl _ rfl (H.out.blk 0 rfl) rfl (#[.int .i64 0, .int .i64 0, .int .i64 0, .int .i64 0, .int .i64 0, .int .i64 0, .int .i64 0, .int .i64 0, .int .i64 0, .int .i64 0]) rfl rfl (by simp [Value.oneCell']) ?_; intro wq bq hgq; replace H := Lib.hid (H.out.setBlk 0 rfl hgq bq); (try simp only [List.set_cons_zero, List.set_cons_succ, List.cons_append, List.nil_append, List.eraseIdx_cons_zero, List.eraseIdx_cons_succ, List.setIfInBounds_toArray, World.size_alloc, selR, List.getD_cons_zero, List.getD_cons_succ] at H); clear hgq bq))
        refine bodyPost_ret (results_blk3 rfl rowAgA rfl (H.out.blk 0 rfl) rfl) rfl ?_
        rw [HV.out]
        exact ⟨A2, c2, rfl, H.out.to⟩
      have e2 : decide ((n.ls.n : Int) ≤ p.t) = false := by simpa using g2
      have HPF : Hid (pstep (l.l.map Nd.con) k (q : Int) p.t p.k = match pfind n.con p.t p.k with | none => (.nil, 10) | some c => (c, 0)) := by show _ = _; rw [HPS.out, if_neg (by rintro (h | h); exact h g1; exact g2 h)]
      clear HPS g1 g2
      have f_x1 := fun u : Over wq => Over.cell x1 u
      have f_x2 := fun u : Over wq => Over.cell x2 u
      have f_cp := fun u : Over wq => Over.cell cp u
      refine wp_region_over (by kernel_rfl) (by kernel_rfl) ?_
      (try simp only [Act.put, List.setIfInBounds_toArray, List.set_cons_zero, List.set_cons_succ])
      repeat (go_big_quiet_step (fail))
      refine wpQuiet_nil ?_
      rintro w5 ⟨⟨_, hw5⟩, rfl⟩
      (try dsimp only)
      replace H := Lib.hid (H.out.bel hw5); (try simp only [List.set_cons_zero, List.set_cons_succ, List.cons_append, List.nil_append, List.eraseIdx_cons_zero, List.eraseIdx_cons_succ, List.setIfInBounds_toArray, World.size_alloc, selR, List.getD_cons_zero, List.getD_cons_succ] at H)
      clear f_x1 f_x2 f_cp x1 x2 cp
      clear e1 e2 hw5
      cases hO2 : pfind n.con p.t p.k with
      | none =>
        have HRF : Hid (∀ W, Bel w W → Calls Try.prog 68 #[.agg n.cs, .agg p.cs] W fun e w2 => e = .returned (.tuple #[.agg Cl.nil.cs, .bool false]) ∧ Bel W w2) := fun W hb => by
          have h := rfind_any n p W (HNR.out W hb) HPO.out
          rw [hO2] at h
          exact h
        have HV : Hid (R = (.zero, k + 1, 10)) := by show _ = _; rw [HEP.out, show pstep (l.l.map Nd.con) k (q : Int) p.t p.k = ((.nil, 10) : Cl × Int) from by rw [HPF.out, hO2], if_pos (by simp)]
        clear HEP HPF hO2
        go_upto_region 12 with fail
        refine wp_region_held_drew (S := fun W => Blk W y 110 p.cs ∧ W.rangeAt bn (on + q * 14) n.cs.toList) (by kernel_rfl) ⟨H.out.blk 3 rfl, HRN.out _ H.out.to.drew⟩ (fun hHeld => ?_)
        replace H := Lib.hid (H.out.drew); (try simp only [List.set_cons_zero, List.set_cons_succ, List.cons_append, List.nil_append, List.eraseIdx_cons_zero, List.eraseIdx_cons_succ, List.setIfInBounds_toArray, World.size_alloc, selR, List.getD_cons_zero, List.getD_cons_succ] at H)
        generalize World.drew _ = w8 at *
        refine wpAnyH_take (i := 0) (v := ?vq23_0) (get_o0) (by kernel_rfl) (by kernel_rfl) (by kernel_rfl) (by exact fun _ _ _ h => h) (Or.inl ⟨by rfl, ?hyq23_0⟩) (by assumption) ?_
        case hyq23_0 => (intro w hSw; (try dsimp only at hSw); go_simp) <;> with_reducible rfl
        try simp only [Act.put, List.setIfInBounds_toArray, List.set_cons_zero, List.set_cons_succ]
        refine wpAnyH_take (i := 1) (v := ?vq23_1) (get_os (get_o0)) (by kernel_rfl) (by kernel_rfl) (by kernel_rfl) (by exact fun _ _ _ h => h) (Or.inl ⟨by rfl, ?hyq23_1⟩) (by assumption) ?_
        case hyq23_1 => (intro w hSw; (try dsimp only at hSw); go_simp) <;> with_reducible rfl
        try simp only [Act.put, List.setIfInBounds_toArray, List.set_cons_zero, List.set_cons_succ]
        refine wpAnyH_take (i := 2) (v := ?vq23_2) (get_os (get_os (get_o0))) (by kernel_rfl) (by kernel_rfl) (by kernel_rfl) (by exact fun _ _ _ h => h) (Or.inl ⟨by rfl, ?hyq23_2⟩) (by assumption) ?_
        case hyq23_2 => (intro w hSw; (try dsimp only at hSw); go_simp) <;> with_reducible rfl
        try simp only [Act.put, List.setIfInBounds_toArray, List.set_cons_zero, List.set_cons_succ]
        refine wpAnyH_take (i := 3) (v := .agg n.cs) (get_os (get_os (get_os (get_o0)))) (by kernel_rfl) (by kernel_rfl) (by kernel_rfl) (by exact fun _ _ _ h => h) (yields_rngL rowNd (by rfl) (.tmp 61) rfl bn (on + q * 14) rfl (fun w h => h.2) rfl) (by assumption) ?_
        try simp only [Act.put, List.setIfInBounds_toArray, List.set_cons_zero, List.set_cons_succ]
        refine wpAnyH_take (i := 4) (v := .agg p.cs) (get_os (get_os (get_os (get_os (get_o0))))) (by kernel_rfl) (by kernel_rfl) (by kernel_rfl) (by exact fun _ _ _ h => h) (yields_rngL rowPosA (by rfl) (.tmp 13) rfl y 0 rfl (fun w h => h.1.range) rfl) (by assumption) ?_
        try simp only [Act.put, List.setIfInBounds_toArray, List.set_cons_zero, List.set_cons_succ]
        refine wpAnyH_ready (rs := [5, 9]) (by kernel_rfl) (by simp) ?_
        refine (AllReadyH.cons (get_os (get_os (get_os (get_os (get_os (get_o0)))))) (fun KK hKK => ?_) (AllReadyH.cons (get_os (get_os (get_os (get_os (get_os (get_os (get_os (get_os (get_os (get_o0)))))))))) (fun KK hKK => ?_) AllReadyH.nil))
        · go_simp
          refine (HRF.out _ H.out.to).mono ?_; rintro e' w6 ⟨rfl, hb6⟩
          replace H := Lib.hid (H.out.bel hb6); (try simp only [List.set_cons_zero, List.set_cons_succ, List.cons_append, List.nil_append, List.eraseIdx_cons_zero, List.eraseIdx_cons_succ, List.setIfInBounds_toArray, World.size_alloc, selR, List.getD_cons_zero, List.getD_cons_succ] at H)
          clear hb6
          refine hKK.out _ _ ⟨H.out.blk 3 rfl, HRN.out _ H.out.to⟩ (fun hHeld => ?_)
          clear hKK KK
          try simp only [Act.put, List.setIfInBounds_toArray, List.set_cons_zero, List.set_cons_succ]
          refine wpAnyH_take (i := 6) (v := ?vq24_) (get_os (get_os (get_os (get_os (get_os (get_os (get_o0))))))) (by kernel_rfl) (by kernel_rfl) (by kernel_rfl) (by exact fun _ _ _ h => h) (Or.inl ⟨by rfl, ?hyq24_⟩) (by assumption) ?_
          case hyq24_ => (intro w hSw; (try dsimp only at hSw); go_simp) <;> with_reducible rfl
          try simp only [Act.put, List.setIfInBounds_toArray, List.set_cons_zero, List.set_cons_succ]
          refine wpAnyH_take (i := 7) (v := ?vq25_) (get_os (get_os (get_os (get_os (get_os (get_os (get_os (get_o0)))))))) (by kernel_rfl) (by kernel_rfl) (by kernel_rfl) (by exact fun _ _ _ h => h) (Or.inl ⟨by rfl, ?hyq25_⟩) (by assumption) ?_
          case hyq25_ => (intro w hSw; (try dsimp only at hSw); go_simp) <;> with_reducible rfl
          try simp only [Act.put, List.setIfInBounds_toArray, List.set_cons_zero, List.set_cons_succ]
          refine wpAnyH_take (i := 8) (v := ?vq26_) (get_os (get_os (get_os (get_os (get_os (get_os (get_os (get_os (get_o0))))))))) (by kernel_rfl) (by kernel_rfl) (by kernel_rfl) (by exact fun _ _ _ h => h) (Or.inl ⟨by rfl, ?hyq26_⟩) (by assumption) ?_
          case hyq26_ => (intro w hSw; (try dsimp only at hSw); go_simp) <;> with_reducible rfl
          try simp only [Act.put, List.setIfInBounds_toArray, List.set_cons_zero, List.set_cons_succ]
          refine wpAnyH_ready (rs := [9]) (by kernel_rfl) (by simp) ?_
          refine (AllReadyH.cons (get_os (get_os (get_os (get_os (get_os (get_os (get_os (get_os (get_os (get_o0)))))))))) (fun KK hKK => ?_) AllReadyH.nil)
          go_simp
          replace H := Lib.hid (H.out.alloc #[.int .i64 0, .int .i64 0, .int .i64 0, .int .i64 0, .int .i64 0, .int .i64 0, .int .i64 0, .int .i64 0, .int .i64 0, .int .i64 0, .int .i64 0, .int .i64 0] 42); (try simp only [List.set_cons_zero, List.set_cons_succ, List.cons_append, List.nil_append, List.eraseIdx_cons_zero, List.eraseIdx_cons_succ, List.setIfInBounds_toArray, World.size_alloc, selR, List.getD_cons_zero, List.getD_cons_succ] at H)
          generalize w6.heap.size = u at *
          generalize World.alloc w6 _ = w7 at *
          refine hKK.out _ _ ⟨H.out.blk 3 rfl, HRN.out _ H.out.to⟩ (fun hHeld => ?_)
          clear hKK KK
          try simp only [Act.put, List.setIfInBounds_toArray, List.set_cons_zero, List.set_cons_succ]
          refine wpAnyH_ready (rs := [10]) (by kernel_rfl) (by simp) ?_
          refine (AllReadyH.cons (get_ot (get_o0)) (fun KK hKK => ?_) AllReadyH.nil)
          refine step_store_blkA rfl rowCl (.tmp 14) (.tmp 65) rfl _ rfl (H.out.blk 4 rfl) rfl (Cl.nil.cs) rfl rfl (cl_one _) ?_
          intro wq bq hgq
          replace H := Lib.hid (H.out.setBlk 4 rfl hgq bq); (try simp only [List.set_cons_zero, List.set_cons_succ, List.cons_append, List.nil_append, List.eraseIdx_cons_zero, List.eraseIdx_cons_succ, List.setIfInBounds_toArray, World.size_alloc, selR, List.getD_cons_zero, List.getD_cons_succ] at H)
          clear hgq bq
          refine hKK.out _ _ ⟨H.out.blk 3 rfl, HRN.out _ H.out.to⟩ (fun hHeld => ?_)
          clear hKK KK
          try simp only [Act.put, List.setIfInBounds_toArray, List.set_cons_zero, List.set_cons_succ]
          refine wpAnyH_take (i := 11) (v := ?vq27_) (get_ot (get_os (get_o0))) (by kernel_rfl) (by kernel_rfl) (by kernel_rfl) (by exact fun _ _ _ h => h) (Or.inl ⟨by rfl, ?hyq27_⟩) (by assumption) ?_
          case hyq27_ => (intro w hSw; (try dsimp only at hSw); go_simp) <;> with_reducible rfl
          try simp only [Act.put, List.setIfInBounds_toArray, List.set_cons_zero, List.set_cons_succ]
          refine wpAnyH_done (by kernel_rfl) ?_ _
          clear hHeld
          go_wp2_with ((with_reducible show wpList _ _ _ (⟨_, .store _ (.tmp 6) _, _, _, _, _⟩ :: _) _ _); (refine wpList_store_blk rfl rowAgA (.tmp 6) (.tmp 69) rfl _ rfl (H.out.blk 0 rfl) rfl (#[.int .i64 0, .int .i64 0, .int .i64 0, .int .i64 0, .int .i64 0, .int .i64 0, .int .i64 0, .int .i64 0, .int .i64 0, .int .i64 0]) rfl rfl (by simp [Value.oneCell']) ?_; intro wq bq hgq; replace H := Lib.hid (H.out.setBlk 0 rfl hgq bq); (try simp only [List.set_cons_zero, List.set_cons_succ, List.cons_append, List.nil_append, List.eraseIdx_cons_zero, List.eraseIdx_cons_succ, List.setIfInBounds_toArray, World.size_alloc, selR, List.getD_cons_zero, List.getD_cons_succ] at H); clear hgq bq))
          refine bodyPost_ret (results_blk3 rfl rowAgA rfl (H.out.blk 0 rfl) rfl) rfl ?_
          rw [HV.out]
          exact ⟨A2, c2, rfl, H.out.to⟩
        · go_simp
          replace H := Lib.hid (H.out.alloc #[.int .i64 0, .int .i64 0, .int .i64 0, .int .i64 0, .int .i64 0, .int .i64 0, .int .i64 0, .int .i64 0, .int .i64 0, .int .i64 0, .int .i64 0, .int .i64 0] 42); (try simp only [List.set_cons_zero, List.set_cons_succ, List.cons_append, List.nil_append, List.eraseIdx_cons_zero, List.eraseIdx_cons_succ, List.setIfInBounds_toArray, World.size_alloc, selR, List.getD_cons_zero, List.getD_cons_succ] at H)
          generalize w8.heap.size = u at *
          generalize World.alloc w8 _ = w7 at *
          refine hKK.out _ _ ⟨H.out.blk 3 rfl, HRN.out _ H.out.to⟩ (fun hHeld => ?_)
          clear hKK KK
          try simp only [Act.put, List.setIfInBounds_toArray, List.set_cons_zero, List.set_cons_succ]
          refine wpAnyH_ready (rs := [5]) (by kernel_rfl) (by simp) ?_
          refine (AllReadyH.cons (get_os (get_os (get_os (get_os (get_os (get_o0)))))) (fun KK hKK => ?_) AllReadyH.nil)
          go_simp
          refine (HRF.out _ H.out.to).mono ?_; rintro e' w6 ⟨rfl, hb6⟩
          replace H := Lib.hid (H.out.bel hb6); (try simp only [List.set_cons_zero, List.set_cons_succ, List.cons_append, List.nil_append, List.eraseIdx_cons_zero, List.eraseIdx_cons_succ, List.setIfInBounds_toArray, World.size_alloc, selR, List.getD_cons_zero, List.getD_cons_succ] at H)
          clear hb6
          refine hKK.out _ _ ⟨H.out.blk 3 rfl, HRN.out _ H.out.to⟩ (fun hHeld => ?_)
          clear hKK KK
          try simp only [Act.put, List.setIfInBounds_toArray, List.set_cons_zero, List.set_cons_succ]
          refine wpAnyH_take (i := 6) (v := ?vq28_) (get_os (get_os (get_os (get_os (get_os (get_os (get_o0))))))) (by kernel_rfl) (by kernel_rfl) (by kernel_rfl) (by exact fun _ _ _ h => h) (Or.inl ⟨by rfl, ?hyq28_⟩) (by assumption) ?_
          case hyq28_ => (intro w hSw; (try dsimp only at hSw); go_simp) <;> with_reducible rfl
          try simp only [Act.put, List.setIfInBounds_toArray, List.set_cons_zero, List.set_cons_succ]
          refine wpAnyH_take (i := 7) (v := ?vq29_) (get_os (get_os (get_os (get_os (get_os (get_os (get_os (get_o0)))))))) (by kernel_rfl) (by kernel_rfl) (by kernel_rfl) (by exact fun _ _ _ h => h) (Or.inl ⟨by rfl, ?hyq29_⟩) (by assumption) ?_
          case hyq29_ => (intro w hSw; (try dsimp only at hSw); go_simp) <;> with_reducible rfl
          try simp only [Act.put, List.setIfInBounds_toArray, List.set_cons_zero, List.set_cons_succ]
          refine wpAnyH_take (i := 8) (v := ?vq30_) (get_os (get_os (get_os (get_os (get_os (get_os (get_os (get_os (get_o0))))))))) (by kernel_rfl) (by kernel_rfl) (by kernel_rfl) (by exact fun _ _ _ h => h) (Or.inl ⟨by rfl, ?hyq30_⟩) (by assumption) ?_
          case hyq30_ => (intro w hSw; (try dsimp only at hSw); go_simp) <;> with_reducible rfl
          try simp only [Act.put, List.setIfInBounds_toArray, List.set_cons_zero, List.set_cons_succ]
          refine wpAnyH_ready (rs := [10]) (by kernel_rfl) (by simp) ?_
          refine (AllReadyH.cons (get_ot (get_o0)) (fun KK hKK => ?_) AllReadyH.nil)
          refine step_store_blkA rfl rowCl (.tmp 14) (.tmp 65) rfl _ rfl (H.out.blk 4 rfl) rfl (Cl.nil.cs) rfl rfl (cl_one _) ?_
          intro wq bq hgq
          replace H := Lib.hid (H.out.setBlk 4 rfl hgq bq); (try simp only [List.set_cons_zero, List.set_cons_succ, List.cons_append, List.nil_append, List.eraseIdx_cons_zero, List.eraseIdx_cons_succ, List.setIfInBounds_toArray, World.size_alloc, selR, List.getD_cons_zero, List.getD_cons_succ] at H)
          clear hgq bq
          refine hKK.out _ _ ⟨H.out.blk 3 rfl, HRN.out _ H.out.to⟩ (fun hHeld => ?_)
          clear hKK KK
          try simp only [Act.put, List.setIfInBounds_toArray, List.set_cons_zero, List.set_cons_succ]
          refine wpAnyH_take (i := 11) (v := ?vq31_) (get_ot (get_os (get_o0))) (by kernel_rfl) (by kernel_rfl) (by kernel_rfl) (by exact fun _ _ _ h => h) (Or.inl ⟨by rfl, ?hyq31_⟩) (by assumption) ?_
          case hyq31_ => (intro w hSw; (try dsimp only at hSw); go_simp) <;> with_reducible rfl
          try simp only [Act.put, List.setIfInBounds_toArray, List.set_cons_zero, List.set_cons_succ]
          refine wpAnyH_done (by kernel_rfl) ?_ _
          clear hHeld
          go_wp2_with ((with_reducible show wpList _ _ _ (⟨_, .store _ (.tmp 6) _, _, _, _, _⟩ :: _) _ _); (refine wpList_store_blk rfl rowAgA (.tmp 6) (.tmp 69) rfl _ rfl (H.out.blk 0 rfl) rfl (#[.int .i64 0, .int .i64 0, .int .i64 0, .int .i64 0, .int .i64 0, .int .i64 0, .int .i64 0, .int .i64 0, .int .i64 0, .int .i64 0]) rfl rfl (by simp [Value.oneCell']) ?_; intro wq bq hgq; replace H := Lib.hid (H.out.setBlk 0 rfl hgq bq); (try simp only [List.set_cons_zero, List.set_cons_succ, List.cons_append, List.nil_append, List.eraseIdx_cons_zero, List.eraseIdx_cons_succ, List.setIfInBounds_toArray, World.size_alloc, selR, List.getD_cons_zero, List.getD_cons_succ] at H); clear hgq bq))
          refine bodyPost_ret (results_blk3 rfl rowAgA rfl (H.out.blk 0 rfl) rfl) rfl ?_
          rw [HV.out]
          exact ⟨A2, c2, rfl, H.out.to⟩
      | some c3 =>
        have HRF : Hid (∀ W, Bel w W → Calls Try.prog 68 #[.agg n.cs, .agg p.cs] W fun e w2 => e = .returned (.tuple #[.agg c3.cs, .bool true]) ∧ Bel W w2) := fun W hb => by
          have h := rfind_any n p W (HNR.out W hb) HPO.out
          rw [hO2] at h
          exact h
        have HE2 : Hid (R = palong (l.l.map Nd.con) (ps.l.drop (k + 1)) (k + 1) c3.ch c3) := by show _ = _; rw [HEP.out, show pstep (l.l.map Nd.con) k (q : Int) p.t p.k = ((c3, 0) : Cl × Int) from by rw [HPF.out, hO2], if_neg (by simp)]
        clear HEP HPF hO2
        go_upto_region 12 with fail
        refine wp_region_held_drew (S := fun W => Blk W y 110 p.cs ∧ W.rangeAt bn (on + q * 14) n.cs.toList) (by kernel_rfl) ⟨H.out.blk 3 rfl, HRN.out _ H.out.to.drew⟩ (fun hHeld => ?_)
        replace H := Lib.hid (H.out.drew); (try simp only [List.set_cons_zero, List.set_cons_succ, List.cons_append, List.nil_append, List.eraseIdx_cons_zero, List.eraseIdx_cons_succ, List.setIfInBounds_toArray, World.size_alloc, selR, List.getD_cons_zero, List.getD_cons_succ] at H)
        generalize World.drew _ = w8 at *
        refine wpAnyH_take (i := 0) (v := ?vq32_0) (get_o0) (by kernel_rfl) (by kernel_rfl) (by kernel_rfl) (by exact fun _ _ _ h => h) (Or.inl ⟨by rfl, ?hyq32_0⟩) (by assumption) ?_
        case hyq32_0 => (intro w hSw; (try dsimp only at hSw); go_simp) <;> with_reducible rfl
        try simp only [Act.put, List.setIfInBounds_toArray, List.set_cons_zero, List.set_cons_succ]
        refine wpAnyH_take (i := 1) (v := ?vq32_1) (get_os (get_o0)) (by kernel_rfl) (by kernel_rfl) (by kernel_rfl) (by exact fun _ _ _ h => h) (Or.inl ⟨by rfl, ?hyq32_1⟩) (by assumption) ?_
        case hyq32_1 => (intro w hSw; (try dsimp only at hSw); go_simp) <;> with_reducible rfl
        try simp only [Act.put, List.setIfInBounds_toArray, List.set_cons_zero, List.set_cons_succ]
        refine wpAnyH_take (i := 2) (v := ?vq32_2) (get_os (get_os (get_o0))) (by kernel_rfl) (by kernel_rfl) (by kernel_rfl) (by exact fun _ _ _ h => h) (Or.inl ⟨by rfl, ?hyq32_2⟩) (by assumption) ?_
        case hyq32_2 => (intro w hSw; (try dsimp only at hSw); go_simp) <;> with_reducible rfl
        try simp only [Act.put, List.setIfInBounds_toArray, List.set_cons_zero, List.set_cons_succ]
        refine wpAnyH_take (i := 3) (v := .agg n.cs) (get_os (get_os (get_os (get_o0)))) (by kernel_rfl) (by kernel_rfl) (by kernel_rfl) (by exact fun _ _ _ h => h) (yields_rngL rowNd (by rfl) (.tmp 61) rfl bn (on + q * 14) rfl (fun w h => h.2) rfl) (by assumption) ?_
        try simp only [Act.put, List.setIfInBounds_toArray, List.set_cons_zero, List.set_cons_succ]
        refine wpAnyH_take (i := 4) (v := .agg p.cs) (get_os (get_os (get_os (get_os (get_o0))))) (by kernel_rfl) (by kernel_rfl) (by kernel_rfl) (by exact fun _ _ _ h => h) (yields_rngL rowPosA (by rfl) (.tmp 13) rfl y 0 rfl (fun w h => h.1.range) rfl) (by assumption) ?_
        try simp only [Act.put, List.setIfInBounds_toArray, List.set_cons_zero, List.set_cons_succ]
        refine wpAnyH_ready (rs := [5, 9]) (by kernel_rfl) (by simp) ?_
        refine (AllReadyH.cons (get_os (get_os (get_os (get_os (get_os (get_o0)))))) (fun KK hKK => ?_) (AllReadyH.cons (get_os (get_os (get_os (get_os (get_os (get_os (get_os (get_os (get_os (get_o0)))))))))) (fun KK hKK => ?_) AllReadyH.nil))
        · go_simp
          refine (HRF.out _ H.out.to).mono ?_; rintro e' w6 ⟨rfl, hb6⟩
          replace H := Lib.hid (H.out.bel hb6); (try simp only [List.set_cons_zero, List.set_cons_succ, List.cons_append, List.nil_append, List.eraseIdx_cons_zero, List.eraseIdx_cons_succ, List.setIfInBounds_toArray, World.size_alloc, selR, List.getD_cons_zero, List.getD_cons_succ] at H)
          clear hb6
          refine hKK.out _ _ ⟨H.out.blk 3 rfl, HRN.out _ H.out.to⟩ (fun hHeld => ?_)
          clear hKK KK
          try simp only [Act.put, List.setIfInBounds_toArray, List.set_cons_zero, List.set_cons_succ]
          refine wpAnyH_take (i := 6) (v := ?vq33_) (get_os (get_os (get_os (get_os (get_os (get_os (get_o0))))))) (by kernel_rfl) (by kernel_rfl) (by kernel_rfl) (by exact fun _ _ _ h => h) (Or.inl ⟨by rfl, ?hyq33_⟩) (by assumption) ?_
          case hyq33_ => (intro w hSw; (try dsimp only at hSw); go_simp) <;> with_reducible rfl
          try simp only [Act.put, List.setIfInBounds_toArray, List.set_cons_zero, List.set_cons_succ]
          refine wpAnyH_take (i := 7) (v := ?vq34_) (get_os (get_os (get_os (get_os (get_os (get_os (get_os (get_o0)))))))) (by kernel_rfl) (by kernel_rfl) (by kernel_rfl) (by exact fun _ _ _ h => h) (Or.inl ⟨by rfl, ?hyq34_⟩) (by assumption) ?_
          case hyq34_ => (intro w hSw; (try dsimp only at hSw); go_simp) <;> with_reducible rfl
          try simp only [Act.put, List.setIfInBounds_toArray, List.set_cons_zero, List.set_cons_succ]
          refine wpAnyH_take (i := 8) (v := ?vq35_) (get_os (get_os (get_os (get_os (get_os (get_os (get_os (get_os (get_o0))))))))) (by kernel_rfl) (by kernel_rfl) (by kernel_rfl) (by exact fun _ _ _ h => h) (Or.inl ⟨by rfl, ?hyq35_⟩) (by assumption) ?_
          case hyq35_ => (intro w hSw; (try dsimp only at hSw); go_simp) <;> with_reducible rfl
          try simp only [Act.put, List.setIfInBounds_toArray, List.set_cons_zero, List.set_cons_succ]
          refine wpAnyH_ready (rs := [9]) (by kernel_rfl) (by simp) ?_
          refine (AllReadyH.cons (get_os (get_os (get_os (get_os (get_os (get_os (get_os (get_os (get_os (get_o0)))))))))) (fun KK hKK => ?_) AllReadyH.nil)
          go_simp
          replace H := Lib.hid (H.out.alloc #[.int .i64 0, .int .i64 0, .int .i64 0, .int .i64 0, .int .i64 0, .int .i64 0, .int .i64 0, .int .i64 0, .int .i64 0, .int .i64 0, .int .i64 0, .int .i64 0] 42); (try simp only [List.set_cons_zero, List.set_cons_succ, List.cons_append, List.nil_append, List.eraseIdx_cons_zero, List.eraseIdx_cons_succ, List.setIfInBounds_toArray, World.size_alloc, selR, List.getD_cons_zero, List.getD_cons_succ] at H)
          generalize w6.heap.size = u at *
          generalize World.alloc w6 _ = w7 at *
          refine hKK.out _ _ ⟨H.out.blk 3 rfl, HRN.out _ H.out.to⟩ (fun hHeld => ?_)
          clear hKK KK
          try simp only [Act.put, List.setIfInBounds_toArray, List.set_cons_zero, List.set_cons_succ]
          refine wpAnyH_ready (rs := [10]) (by kernel_rfl) (by simp) ?_
          refine (AllReadyH.cons (get_ot (get_o0)) (fun KK hKK => ?_) AllReadyH.nil)
          refine step_store_blkA rfl rowCl (.tmp 14) (.tmp 65) rfl _ rfl (H.out.blk 4 rfl) rfl (c3.cs) rfl rfl (cl_one _) ?_
          intro wq bq hgq
          replace H := Lib.hid (H.out.setBlk 4 rfl hgq bq); (try simp only [List.set_cons_zero, List.set_cons_succ, List.cons_append, List.nil_append, List.eraseIdx_cons_zero, List.eraseIdx_cons_succ, List.setIfInBounds_toArray, World.size_alloc, selR, List.getD_cons_zero, List.getD_cons_succ] at H)
          clear hgq bq
          refine hKK.out _ _ ⟨H.out.blk 3 rfl, HRN.out _ H.out.to⟩ (fun hHeld => ?_)
          clear hKK KK
          try simp only [Act.put, List.setIfInBounds_toArray, List.set_cons_zero, List.set_cons_succ]
          refine wpAnyH_take (i := 11) (v := ?vq36_) (get_ot (get_os (get_o0))) (by kernel_rfl) (by kernel_rfl) (by kernel_rfl) (by exact fun _ _ _ h => h) (Or.inl ⟨by rfl, ?hyq36_⟩) (by assumption) ?_
          case hyq36_ => (intro w hSw; (try dsimp only at hSw); go_simp) <;> with_reducible rfl
          try simp only [Act.put, List.setIfInBounds_toArray, List.set_cons_zero, List.set_cons_succ]
          refine wpAnyH_done (by kernel_rfl) ?_ _
          clear hHeld
          go_upto_region 16 with (first | ((with_reducible show wpList _ _ _ (⟨some 71, _, _, _, _, _⟩ :: _) _ _); (refine wpList_load_blk rfl rowCl (.tmp 14) rfl _ rfl (H.out.blk 4 rfl) rfl ?_)) | ((with_reducible show wpList _ _ _ (⟨_, .store _ (.tmp 10) _, _, _, _, _⟩ :: _) _ _); (refine wpList_store_blk rfl rowCl (.tmp 10) (.tmp 71) rfl _ rfl (H.out.blk 1 rfl) rfl (c3.cs) rfl rfl (cl_one c3) ?_; intro wq bq hgq; replace H := Lib.hid (H.out.setBlk 1 rfl hgq bq); (try simp only [List.set_cons_zero, List.set_cons_succ, List.cons_append, List.nil_append, List.eraseIdx_cons_zero, List.eraseIdx_cons_succ, List.setIfInBounds_toArray, World.size_alloc, selR, List.getD_cons_zero, List.getD_cons_succ] at H); clear hgq bq)))
          (try simp only [Act.put, List.setIfInBounds_toArray, List.set_cons_zero, List.set_cons_succ])
          replace H := Lib.hid (H.out.sel [0, 1, 2] (by decide) (by simp)); (try simp only [List.set_cons_zero, List.set_cons_succ, List.cons_append, List.nil_append, List.eraseIdx_cons_zero, List.eraseIdx_cons_succ, List.setIfInBounds_toArray, World.size_alloc, selR, List.getD_cons_zero, List.getD_cons_succ] at H)
          rename_i wz
          have cz := (H.out.blk 1 rfl).cell 1; simp only [List.getElem?_toArray, List.getElem?_cons_zero, List.getElem?_cons_succ] at cz
          go_wp2_with fail
          clear cz
          rw [← HAL.out, ← HAN.out]
          go_roundg (ps.n - (k + 1))
          case rel => exact ⟨k + 1, c3.ch, c3, A2, c2, pl ++ [(q : Int)], rfl, by omega, by rfl, by rfl, by go_num, HE2, H⟩
          case measure => rw [Hgk.out]; omega
        · go_simp
          replace H := Lib.hid (H.out.alloc #[.int .i64 0, .int .i64 0, .int .i64 0, .int .i64 0, .int .i64 0, .int .i64 0, .int .i64 0, .int .i64 0, .int .i64 0, .int .i64 0, .int .i64 0, .int .i64 0] 42); (try simp only [List.set_cons_zero, List.set_cons_succ, List.cons_append, List.nil_append, List.eraseIdx_cons_zero, List.eraseIdx_cons_succ, List.setIfInBounds_toArray, World.size_alloc, selR, List.getD_cons_zero, List.getD_cons_succ] at H)
          generalize w8.heap.size = u at *
          generalize World.alloc w8 _ = w7 at *
          refine hKK.out _ _ ⟨H.out.blk 3 rfl, HRN.out _ H.out.to⟩ (fun hHeld => ?_)
          clear hKK KK
          try simp only [Act.put, List.setIfInBounds_toArray, List.set_cons_zero, List.set_cons_succ]
          refine wpAnyH_ready (rs := [5]) (by kernel_rfl) (by simp) ?_
          refine (AllReadyH.cons (get_os (get_os (get_os (get_os (get_os (get_o0)))))) (fun KK hKK => ?_) AllReadyH.nil)
          go_simp
          refine (HRF.out _ H.out.to).mono ?_; rintro e' w6 ⟨rfl, hb6⟩
          replace H := Lib.hid (H.out.bel hb6); (try simp only [List.set_cons_zero, List.set_cons_succ, List.cons_append, List.nil_append, List.eraseIdx_cons_zero, List.eraseIdx_cons_succ, List.setIfInBounds_toArray, World.size_alloc, selR, List.getD_cons_zero, List.getD_cons_succ] at H)
          clear hb6
          refine hKK.out _ _ ⟨H.out.blk 3 rfl, HRN.out _ H.out.to⟩ (fun hHeld => ?_)
          clear hKK KK
          try simp only [Act.put, List.setIfInBounds_toArray, List.set_cons_zero, List.set_cons_succ]
          refine wpAnyH_take (i := 6) (v := ?vq37_) (get_os (get_os (get_os (get_os (get_os (get_os (get_o0))))))) (by kernel_rfl) (by kernel_rfl) (by kernel_rfl) (by exact fun _ _ _ h => h) (Or.inl ⟨by rfl, ?hyq37_⟩) (by assumption) ?_
          case hyq37_ => (intro w hSw; (try dsimp only at hSw); go_simp) <;> with_reducible rfl
          try simp only [Act.put, List.setIfInBounds_toArray, List.set_cons_zero, List.set_cons_succ]
          refine wpAnyH_take (i := 7) (v := ?vq38_) (get_os (get_os (get_os (get_os (get_os (get_os (get_os (get_o0)))))))) (by kernel_rfl) (by kernel_rfl) (by kernel_rfl) (by exact fun _ _ _ h => h) (Or.inl ⟨by rfl, ?hyq38_⟩) (by assumption) ?_
          case hyq38_ => (intro w hSw; (try dsimp only at hSw); go_simp) <;> with_reducible rfl
          try simp only [Act.put, List.setIfInBounds_toArray, List.set_cons_zero, List.set_cons_succ]
          refine wpAnyH_take (i := 8) (v := ?vq39_) (get_os (get_os (get_os (get_os (get_os (get_os (get_os (get_os (get_o0))))))))) (by kernel_rfl) (by kernel_rfl) (by kernel_rfl) (by exact fun _ _ _ h => h) (Or.inl ⟨by rfl, ?hyq39_⟩) (by assumption) ?_
          case hyq39_ => (intro w hSw; (try dsimp only at hSw); go_simp) <;> with_reducible rfl
          try simp only [Act.put, List.setIfInBounds_toArray, List.set_cons_zero, List.set_cons_succ]
          refine wpAnyH_ready (rs := [10]) (by kernel_rfl) (by simp) ?_
          refine (AllReadyH.cons (get_ot (get_o0)) (fun KK hKK => ?_) AllReadyH.nil)
          refine step_store_blkA rfl rowCl (.tmp 14) (.tmp 65) rfl _ rfl (H.out.blk 4 rfl) rfl (c3.cs) rfl rfl (cl_one _) ?_
          intro wq bq hgq
          replace H := Lib.hid (H.out.setBlk 4 rfl hgq bq); (try simp only [List.set_cons_zero, List.set_cons_succ, List.cons_append, List.nil_append, List.eraseIdx_cons_zero, List.eraseIdx_cons_succ, List.setIfInBounds_toArray, World.size_alloc, selR, List.getD_cons_zero, List.getD_cons_succ] at H)
          clear hgq bq
          refine hKK.out _ _ ⟨H.out.blk 3 rfl, HRN.out _ H.out.to⟩ (fun hHeld => ?_)
          clear hKK KK
          try simp only [Act.put, List.setIfInBounds_toArray, List.set_cons_zero, List.set_cons_succ]
          refine wpAnyH_take (i := 11) (v := ?vq40_) (get_ot (get_os (get_o0))) (by kernel_rfl) (by kernel_rfl) (by kernel_rfl) (by exact fun _ _ _ h => h) (Or.inl ⟨by rfl, ?hyq40_⟩) (by assumption) ?_
          case hyq40_ => (intro w hSw; (try dsimp only at hSw); go_simp) <;> with_reducible rfl
          try simp only [Act.put, List.setIfInBounds_toArray, List.set_cons_zero, List.set_cons_succ]
          refine wpAnyH_done (by kernel_rfl) ?_ _
          clear hHeld
          go_upto_region 16 with (first | ((with_reducible show wpList _ _ _ (⟨some 71, _, _, _, _, _⟩ :: _) _ _); (refine wpList_load_blk rfl rowCl (.tmp 14) rfl _ rfl (H.out.blk 4 rfl) rfl ?_)) | ((with_reducible show wpList _ _ _ (⟨_, .store _ (.tmp 10) _, _, _, _, _⟩ :: _) _ _); (refine wpList_store_blk rfl rowCl (.tmp 10) (.tmp 71) rfl _ rfl (H.out.blk 1 rfl) rfl (c3.cs) rfl rfl (cl_one c3) ?_; intro wq bq hgq; replace H := Lib.hid (H.out.setBlk 1 rfl hgq bq); (try simp only [List.set_cons_zero, List.set_cons_succ, List.cons_append, List.nil_append, List.eraseIdx_cons_zero, List.eraseIdx_cons_succ, List.setIfInBounds_toArray, World.size_alloc, selR, List.getD_cons_zero, List.getD_cons_succ] at H); clear hgq bq)))
          (try simp only [Act.put, List.setIfInBounds_toArray, List.set_cons_zero, List.set_cons_succ])
          replace H := Lib.hid (H.out.sel [0, 1, 2] (by decide) (by simp)); (try simp only [List.set_cons_zero, List.set_cons_succ, List.cons_append, List.nil_append, List.eraseIdx_cons_zero, List.eraseIdx_cons_succ, List.setIfInBounds_toArray, World.size_alloc, selR, List.getD_cons_zero, List.getD_cons_succ] at H)
          rename_i wz
          have cz := (H.out.blk 1 rfl).cell 1; simp only [List.getElem?_toArray, List.getElem?_cons_zero, List.getElem?_cons_succ] at cz
          go_wp2_with fail
          clear cz
          rw [← HAL.out, ← HAN.out]
          go_roundg (ps.n - (k + 1))
          case rel => exact ⟨k + 1, c3.ch, c3, A2, c2, pl ++ [(q : Int)], rfl, by omega, by rfl, by rfl, by go_num, HE2, H⟩
          case measure => rw [Hgk.out]; omega
    · obtain rfl : k = ps.n := by omega
      have HV : Hid (R = (c.ag, ps.n, 0)) := by show _ = _; rw [HE.out, List.drop_of_length_le (by rw [hpl.out]; exact Nat.le_refl _)]; rfl
      have HAG : Hid (wr.rangeAt z 2 c.ag.cs.toList) := fun j v hv => by
        have := (H.out.blk 1 rfl).range (j + 2) v (by rw [cl_ag]; exact hv)
        rw [show 0 + (j + 2) = 2 + j by omega] at this
        exact this
      clear HE
      go_wp2_with (first | ((with_reducible show wpList _ _ _ (⟨some 76, _, _, _, _, _⟩ :: _) _ _); (refine wpList_load_row_at rfl rowAgA (.tmp 75) rfl z (2) rfl c.ag.cs rfl HAG.out ?_)) | ((with_reducible show wpList _ _ _ (⟨_, .store _ (.tmp 6) _, _, _, _, _⟩ :: _) _ _); (refine wpList_store_blk rfl rowAgA (.tmp 6) (.tmp 76) rfl _ rfl (H.out.blk 0 rfl) rfl (c.ag.cs) rfl rfl (ag_oneA _) ?_; intro wq bq hgq; replace H := Lib.hid (H.out.setBlk 0 rfl hgq bq); (try simp only [List.set_cons_zero, List.set_cons_succ, List.cons_append, List.nil_append, List.eraseIdx_cons_zero, List.eraseIdx_cons_succ, List.setIfInBounds_toArray, World.size_alloc, selR, List.getD_cons_zero, List.getD_cons_succ] at H); clear hgq bq)))
      refine bodyPost_ret (results_blk3 rfl rowAgA rfl (H.out.blk 0 rfl) rfl) rfl ?_
      rw [HV.out]
      exact ⟨B, d, rfl, H.out.to⟩

end Go.Proofs.Ytjiphfobengdlaa
