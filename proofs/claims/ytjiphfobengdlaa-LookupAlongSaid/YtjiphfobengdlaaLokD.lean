/- lookup.Along. -/
import Derived.Test.YtjiphfobengdlaaLokC
import Derived.Test.YtjiphfobengdlaaAreG
namespace Go.Proofs.Ytjiphfobengdlaa
open Go.RowKit
set_option linter.unusedVariables false
set_option linter.unusedSimpArgs false


set_option maxRecDepth 100000 in
set_option maxHeartbeats 4000000 in
theorem lalong_any (g : Nat) (l : Row Nd) (top : Int) (ps : Row Ps) (w : World) (hl : l.rd w) (hg : w.cell? ⟨g, 0, none⟩ = some (.slice l.A l.n l.c)) (hps : ps.rd w) (hs : ∀ n ∈ l.l, SmN n) (hr : ∀ n ∈ l.l, ∀ y ∈ n.ls.l, RiseL y.l) :
    Calls Try.prog 37 #[.int .i64 top, .func (.func 36) #[] #[.pointer (some ⟨g, 0, none⟩)], .slice ps.A ps.n ps.c] w fun e w' => e = .returned (.tuple #[.agg (palong (l.l.map Nd.con) ps.l 0 top .nil).1.cs, .int .i64 ((palong (l.l.map Nd.con) ps.l 0 top .nil).2.1 : Nat), .int .i64 (palong (l.l.map Nd.con) ps.l 0 top .nil).2.2]) ∧ Bel w w' := by
  have HST := Lib.hid (fun at_ i p w' (hb : Bel w w') (hp : Ps.ok p) => lstep_any g l at_ i p w' (hl.mono hb) (cell_bel hb hg) hp hs hr)
  have HPR := Lib.hid (fun w' (hb : Bel w w') => hps.mono hb)
  have hpl : Hid (ps.l.length = ps.n) := hps.len
  have p63 := hps.n63
  obtain ⟨R, hR⟩ : ∃ R, R = palong (l.l.map Nd.con) ps.l 0 top .nil := ⟨_, rfl⟩
  rw [← hR]
  have HE : Hid (R = palong (l.l.map Nd.con) (ps.l.drop 0) 0 top .nil) := hR
  have H := Lib.hid (((SL.start No w).alloc #[.int .i64 0, .int .i64 0, .int .i64 0, .int .i64 0, .int .i64 0, .int .i64 0, .int .i64 0, .int .i64 0, .int .i64 0, .int .i64 0] 40).alloc #[.int .i64 0, .int .i64 0, .int .i64 0, .int .i64 0, .int .i64 0, .int .i64 0, .int .i64 0, .int .i64 0, .int .i64 0, .int .i64 0, .int .i64 0, .int .i64 0] 42)
  (try simp only [List.set_cons_zero, List.set_cons_succ, List.cons_append, List.nil_append, List.eraseIdx_cons_zero, List.eraseIdx_cons_succ, List.setIfInBounds_toArray, World.size_alloc, selR, List.getD_cons_zero, List.getD_cons_succ] at H)
  clear hl hg hps hs hr hR
  go_enter Try.func37, Try.ntmps37
  go_upto_region 4 with fail
  generalize w.heap.size + 1 = z at *
  generalize w.heap.size = x at *
  generalize World.alloc (World.alloc _ _) _ = w1 at *
  go_loopg [9, 10, 19] ps.n (fun gg s9 s10 s19 wr => ∃ (k : Nat) (at_ : Int) (c : Cl), gg = ps.n - k ∧ k ≤ ps.n ∧ s9 = .int .i64 at_ ∧ s10 = .int .i64 k ∧ s19 = .int .i64 k ∧ Hid (R = palong (l.l.map Nd.con) (ps.l.drop k) k at_ c) ∧ Hid (SL No w wr [rBlk x 40 #[.int .i64 0, .int .i64 0, .int .i64 0, .int .i64 0, .int .i64 0, .int .i64 0, .int .i64 0, .int .i64 0, .int .i64 0, .int .i64 0], rBlk z 42 c.cs]))
  case atStart => exact ⟨0, top, .nil, rfl, by omega, rfl, rfl, rfl, HE, H⟩
  case round =>
    clear H HE
    obtain ⟨k, at_, c, hgk, hk, rfl, rfl, rfl, HE, H⟩ := hrel
    have Hgk := Lib.hid hgk
    clear hgk
    by_cases hlt : k < ps.n
    · obtain ⟨bl, ol, p, hAl, hbl, hpk, hpo, hrg⟩ := (HPR.out _ H.out.to).psAt (k := k) hlt
      have HEP : Hid (R = if (pstep (l.l.map Nd.con) k at_ p.t p.k).2 ≠ 0 then (.zero, k + 1, (pstep (l.l.map Nd.con) k at_ p.t p.k).2) else palong (l.l.map Nd.con) (ps.l.drop (k + 1)) (k + 1) (pstep (l.l.map Nd.con) k at_ p.t p.k).1.ch (pstep (l.l.map Nd.con) k at_ p.t p.k).1) := by show _ = _; rw [HE.out, drop_consL hpk]; rfl
      have HPO := Lib.hid hpo
      have HRG := Lib.hid hrg
      have k0 : (0 : Int) ≤ k := by omega
      have k1 : (k : Int) < ps.n := by omega
      have HAL := Lib.hid hAl
      rw [hAl]
      clear hpk hpo hrg hAl HE
      go_upto_region 6 with (first | ((with_reducible show wpList _ _ _ (⟨some 23, _, _, _, _, _⟩ :: _) _ _); (refine wpList_load_row_at rfl rowPosA (.tmp 22) rfl bl (ol + k * 2) rfl p.cs rfl HRG.out ?_)) | ((with_reducible show wpList _ _ _ (⟨_, .store _ (.tmp 13) _, _, _, _, _⟩ :: _) _ _); (refine wpList_store_new rfl rowPosA (.tmp 13) (.tmp 23) rfl rfl rfl (p.cs) rfl rfl (ps_one p) ?_; replace H := Lib.hid (H.out.alloc (p.cs) 110); (try simp only [List.set_cons_zero, List.set_cons_succ, List.cons_append, List.nil_append, List.eraseIdx_cons_zero, List.eraseIdx_cons_succ, List.setIfInBounds_toArray, World.size_alloc, selR, List.getD_cons_zero, List.getD_cons_succ] at H))))
      (try simp only [Act.put, List.setIfInBounds_toArray, List.set_cons_zero, List.set_cons_succ])
      clear HRG hbl
      generalize wr.heap.size = y at *
      generalize World.alloc wr _ = w2 at *
      go_wp2_with ((with_reducible show wpList _ _ _ (⟨some 28, _, _, _, _, _⟩ :: _) _ _); (refine wpList_load_blk rfl rowPosA (.tmp 13) rfl _ rfl (H.out.blk 2 rfl) rfl ?_))
      refine (HST.out at_ k p _ H.out.to HPO.out).mono ?_; rintro e w3 ⟨rfl, hw3⟩
      replace H := Lib.hid (H.out.bel hw3); (try simp only [List.set_cons_zero, List.set_cons_succ, List.cons_append, List.nil_append, List.eraseIdx_cons_zero, List.eraseIdx_cons_succ, List.setIfInBounds_toArray, World.size_alloc, selR, List.getD_cons_zero, List.getD_cons_succ] at H)
      clear hw3
      obtain ⟨⟨c2, er⟩, hV⟩ : ∃ V, V = pstep (l.l.map Nd.con) k at_ p.t p.k := ⟨_, rfl⟩
      rw [← hV] at HEP ⊢
      simp only at HEP ⊢
      clear hV
      by_cases he : er = 0
      · have HE2 : Hid (R = palong (l.l.map Nd.con) (ps.l.drop (k + 1)) (k + 1) c2.ch c2) := by show _ = _; rw [HEP.out, if_neg (by simpa using he)]
        subst he
        clear HEP
        go_upto_region 7 with ((with_reducible show wpList _ _ _ (⟨_, .store _ (.tmp 14) _, _, _, _, _⟩ :: _) _ _); (refine wpList_store_new rfl rowCl (.tmp 14) (.tmp 30) rfl rfl rfl (c2.cs) rfl rfl (cl_one c2) ?_; replace H := Lib.hid (H.out.alloc (c2.cs) 42); (try simp only [List.set_cons_zero, List.set_cons_succ, List.cons_append, List.nil_append, List.eraseIdx_cons_zero, List.eraseIdx_cons_succ, List.setIfInBounds_toArray, World.size_alloc, selR, List.getD_cons_zero, List.getD_cons_succ] at H)))
        (try simp only [Act.put, List.setIfInBounds_toArray, List.set_cons_zero, List.set_cons_succ])
        generalize w3.heap.size = u at *
        generalize World.alloc w3 _ = w4 at *
        go_upto_region 10 with fail
        refine wp_region_held_drew (S := fun _ => True) (by kernel_rfl) trivial (fun hHeld => ?_)
        replace H := Lib.hid (H.out.drew); (try simp only [List.set_cons_zero, List.set_cons_succ, List.cons_append, List.nil_append, List.eraseIdx_cons_zero, List.eraseIdx_cons_succ, List.setIfInBounds_toArray, World.size_alloc, selR, List.getD_cons_zero, List.getD_cons_succ] at H)
        generalize World.drew _ = w8 at *
        refine wpAnyH_take (i := 1) (v := ?vq22_1) (get_os (get_o0)) (by kernel_rfl) (by kernel_rfl) (by kernel_rfl) (by exact fun _ _ _ h => h) (Or.inl ⟨by rfl, ?hyq22_1⟩) (by assumption) ?_
        case hyq22_1 => (intro w hSw; (try dsimp only at hSw); go_simp) <;> with_reducible rfl
        try simp only [Act.put, List.setIfInBounds_toArray, List.set_cons_zero, List.set_cons_succ]
        refine wpAnyH_ready (rs := [0, 2]) (by kernel_rfl) (by simp) ?_
        refine (AllReadyH.cons (get_o0) (fun KK hKK => ?_) (AllReadyH.cons (get_os (get_os (get_o0))) (fun KK hKK => ?_) AllReadyH.nil))
        · refine step_load_blk rfl rowCl (.tmp 14) rfl _ rfl (H.out.blk 3 rfl) rfl ?_
          refine hKK.out _ _ trivial (fun hHeld => ?_)
          clear hKK KK
          try simp only [Act.put, List.setIfInBounds_toArray, List.set_cons_zero, List.set_cons_succ]
          refine wpAnyH_ready (rs := [2, 3]) (by kernel_rfl) (by simp) ?_
          refine (AllReadyH.cons (get_os (get_os (get_o0))) (fun KK hKK => ?_) (AllReadyH.cons (get_os (get_os (get_os (get_o0)))) (fun KK hKK => ?_) AllReadyH.nil))
          · have ca2 := (H.out.blk 3 rfl).cell 1; simp only [List.getElem?_toArray, List.getElem?_cons_zero, List.getElem?_cons_succ] at ca2
            go_simp
            clear ca2
            refine hKK.out _ _ trivial (fun hHeld => ?_)
            clear hKK KK
            try simp only [Act.put, List.setIfInBounds_toArray, List.set_cons_zero, List.set_cons_succ]
            refine wpAnyH_ready (rs := [3]) (by kernel_rfl) (by simp) ?_
            refine (AllReadyH.cons (get_os (get_os (get_os (get_o0)))) (fun KK hKK => ?_) AllReadyH.nil)
            refine step_store_blkA rfl rowCl (.tmp 11) (.tmp 39) rfl _ rfl (H.out.blk 1 rfl) rfl (c2.cs) rfl rfl (cl_one c2) ?_
            intro wq bq hgq
            replace H := Lib.hid (H.out.setBlk 1 rfl hgq bq); (try simp only [List.set_cons_zero, List.set_cons_succ, List.cons_append, List.nil_append, List.eraseIdx_cons_zero, List.eraseIdx_cons_succ, List.setIfInBounds_toArray, World.size_alloc, selR, List.getD_cons_zero, List.getD_cons_succ] at H)
            clear hgq bq
            refine hKK.out _ _ trivial (fun hHeld => ?_)
            clear hKK KK
            try simp only [Act.put, List.setIfInBounds_toArray, List.set_cons_zero, List.set_cons_succ]
            refine wpAnyH_ready (rs := [4]) (by kernel_rfl) (by simp) ?_
            refine (AllReadyH.cons (get_os (get_os (get_os (get_os (get_o0))))) (fun KK hKK => ?_) AllReadyH.nil)
            go_simp
            refine hKK.out _ _ trivial (fun hHeld => ?_)
            clear hKK KK
            try simp only [Act.put, List.setIfInBounds_toArray, List.set_cons_zero, List.set_cons_succ]
            refine wpAnyH_done (by kernel_rfl) ?_ _
            clear hHeld
            replace H := Lib.hid (H.out.sel [0, 1] (by decide) (by simp)); (try simp only [List.set_cons_zero, List.set_cons_succ, List.cons_append, List.nil_append, List.eraseIdx_cons_zero, List.eraseIdx_cons_succ, List.setIfInBounds_toArray, World.size_alloc, selR, List.getD_cons_zero, List.getD_cons_succ] at H)
            go_wp2_with fail
            rw [← HAL.out]
            go_roundg (ps.n - (k + 1))
            case rel => exact ⟨k + 1, c2.ch, c2, rfl, by omega, by rfl, by go_num, by go_num, HE2, H⟩
            case measure => rw [Hgk.out]; omega
          · refine step_store_blkA rfl rowCl (.tmp 11) (.tmp 39) rfl _ rfl (H.out.blk 1 rfl) rfl (c2.cs) rfl rfl (cl_one c2) ?_
            intro wq bq hgq
            replace H := Lib.hid (H.out.setBlk 1 rfl hgq bq); (try simp only [List.set_cons_zero, List.set_cons_succ, List.cons_append, List.nil_append, List.eraseIdx_cons_zero, List.eraseIdx_cons_succ, List.setIfInBounds_toArray, World.size_alloc, selR, List.getD_cons_zero, List.getD_cons_succ] at H)
            clear hgq bq
            refine hKK.out _ _ trivial (fun hHeld => ?_)
            clear hKK KK
            try simp only [Act.put, List.setIfInBounds_toArray, List.set_cons_zero, List.set_cons_succ]
            refine wpAnyH_ready (rs := [2]) (by kernel_rfl) (by simp) ?_
            refine (AllReadyH.cons (get_os (get_os (get_o0))) (fun KK hKK => ?_) AllReadyH.nil)
            have ca2 := (H.out.blk 3 rfl).cell 1; simp only [List.getElem?_toArray, List.getElem?_cons_zero, List.getElem?_cons_succ] at ca2
            go_simp
            clear ca2
            refine hKK.out _ _ trivial (fun hHeld => ?_)
            clear hKK KK
            try simp only [Act.put, List.setIfInBounds_toArray, List.set_cons_zero, List.set_cons_succ]
            refine wpAnyH_ready (rs := [4]) (by kernel_rfl) (by simp) ?_
            refine (AllReadyH.cons (get_os (get_os (get_os (get_os (get_o0))))) (fun KK hKK => ?_) AllReadyH.nil)
            go_simp
            refine hKK.out _ _ trivial (fun hHeld => ?_)
            clear hKK KK
            try simp only [Act.put, List.setIfInBounds_toArray, List.set_cons_zero, List.set_cons_succ]
            refine wpAnyH_done (by kernel_rfl) ?_ _
            clear hHeld
            replace H := Lib.hid (H.out.sel [0, 1] (by decide) (by simp)); (try simp only [List.set_cons_zero, List.set_cons_succ, List.cons_append, List.nil_append, List.eraseIdx_cons_zero, List.eraseIdx_cons_succ, List.setIfInBounds_toArray, World.size_alloc, selR, List.getD_cons_zero, List.getD_cons_succ] at H)
            go_wp2_with fail
            rw [← HAL.out]
            go_roundg (ps.n - (k + 1))
            case rel => exact ⟨k + 1, c2.ch, c2, rfl, by omega, by rfl, by go_num, by go_num, HE2, H⟩
            case measure => rw [Hgk.out]; omega
        · have ca2 := (H.out.blk 3 rfl).cell 1; simp only [List.getElem?_toArray, List.getElem?_cons_zero, List.getElem?_cons_succ] at ca2
          go_simp
          clear ca2
          refine hKK.out _ _ trivial (fun hHeld => ?_)
          clear hKK KK
          try simp only [Act.put, List.setIfInBounds_toArray, List.set_cons_zero, List.set_cons_succ]
          refine wpAnyH_ready (rs := [0]) (by kernel_rfl) (by simp) ?_
          refine (AllReadyH.cons (get_o0) (fun KK hKK => ?_) AllReadyH.nil)
          refine step_load_blk rfl rowCl (.tmp 14) rfl _ rfl (H.out.blk 3 rfl) rfl ?_
          refine hKK.out _ _ trivial (fun hHeld => ?_)
          clear hKK KK
          try simp only [Act.put, List.setIfInBounds_toArray, List.set_cons_zero, List.set_cons_succ]
          refine wpAnyH_ready (rs := [3]) (by kernel_rfl) (by simp) ?_
          refine (AllReadyH.cons (get_os (get_os (get_os (get_o0)))) (fun KK hKK => ?_) AllReadyH.nil)
          refine step_store_blkA rfl rowCl (.tmp 11) (.tmp 39) rfl _ rfl (H.out.blk 1 rfl) rfl (c2.cs) rfl rfl (cl_one c2) ?_
          intro wq bq hgq
          replace H := Lib.hid (H.out.setBlk 1 rfl hgq bq); (try simp only [List.set_cons_zero, List.set_cons_succ, List.cons_append, List.nil_append, List.eraseIdx_cons_zero, List.eraseIdx_cons_succ, List.setIfInBounds_toArray, World.size_alloc, selR, List.getD_cons_zero, List.getD_cons_succ] at H)
          clear hgq bq
          refine hKK.out _ _ trivial (fun hHeld => ?_)
          clear hKK KK
          try simp only [Act.put, List.setIfInBounds_toArray, List.set_cons_zero, List.set_cons_succ]
          refine wpAnyH_ready (rs := [4]) (by kernel_rfl) (by simp) ?_
          refine (AllReadyH.cons (get_os (get_os (get_os (get_os (get_o0))))) (fun KK hKK => ?_) AllReadyH.nil)
          go_simp
          refine hKK.out _ _ trivial (fun hHeld => ?_)
          clear hKK KK
          try simp only [Act.put, List.setIfInBounds_toArray, List.set_cons_zero, List.set_cons_succ]
          refine wpAnyH_done (by kernel_rfl) ?_ _
          clear hHeld
          replace H := Lib.hid (H.out.sel [0, 1] (by decide) (by simp)); (try simp only [List.set_cons_zero, List.set_cons_succ, List.cons_append, List.nil_append, List.eraseIdx_cons_zero, List.eraseIdx_cons_succ, List.setIfInBounds_toArray, World.size_alloc, selR, List.getD_cons_zero, List.getD_cons_succ] at H)
          go_wp2_with fail
          rw [← HAL.out]
          go_roundg (ps.n - (k + 1))
          case rel => exact ⟨k + 1, c2.ch, c2, rfl, by omega, by rfl, by go_num, by go_num, HE2, H⟩
          case measure => rw [Hgk.out]; omega
      · have HV : Hid (R = (.zero, k + 1, er)) := by show _ = _; rw [HEP.out, if_pos he]
        have e1 : (er != 0) = true := by simpa using he
        clear HEP he
        go_upto_region 7 with ((with_reducible show wpList _ _ _ (⟨_, .store _ (.tmp 14) _, _, _, _, _⟩ :: _) _ _); (refine wpList_store_new rfl rowCl (.tmp 14) (.tmp 30) rfl rfl rfl (c2.cs) rfl rfl (cl_one c2) ?_; replace H := Lib.hid (H.out.alloc (c2.cs) 42); (try simp only [List.set_cons_zero, List.set_cons_succ, List.cons_append, List.nil_append, List.eraseIdx_cons_zero, List.eraseIdx_cons_succ, List.setIfInBounds_toArray, World.size_alloc, selR, List.getD_cons_zero, List.getD_cons_succ] at H)))
        (try simp only [Act.put, List.setIfInBounds_toArray, List.set_cons_zero, List.set_cons_succ])
        generalize w3.heap.size = u at *
        generalize World.alloc w3 _ = w4 at *
        go_wp2_with ((with_reducible show wpList _ _ _ (⟨_, .store _ (.tmp 6) _, _, _, _, _⟩ :: _) _ _); (refine wpList_store_blk rfl rowAgA (.tmp 6) (.tmp 36) rfl _ rfl (H.out.blk 0 rfl) rfl (#[.int .i64 0, .int .i64 0, .int .i64 0, .int .i64 0, .int .i64 0, .int .i64 0, .int .i64 0, .int .i64 0, .int .i64 0, .int .i64 0]) rfl rfl (by simp [Value.oneCell']) ?_; intro wq bq hgq; replace H := Lib.hid (H.out.setBlk 0 rfl hgq bq); (try simp only [List.set_cons_zero, List.set_cons_succ, List.cons_append, List.nil_append, List.eraseIdx_cons_zero, List.eraseIdx_cons_succ, List.setIfInBounds_toArray, World.size_alloc, selR, List.getD_cons_zero, List.getD_cons_succ] at H); clear hgq bq))
        refine bodyPost_ret (results_blk3 rfl rowAgA rfl (H.out.blk 0 rfl) rfl) rfl ?_
        rw [HV.out]
        exact ⟨rfl, H.out.to⟩
    · obtain rfl : k = ps.n := by omega
      have HV : Hid (R = (c.ag, ps.n, 0)) := by show _ = _; rw [HE.out, List.drop_of_length_le (by rw [hpl.out]; exact Nat.le_refl _)]; rfl
      have HAG : Hid (wr.rangeAt z 2 c.ag.cs.toList) := fun j v hv => by
        have := (H.out.blk 1 rfl).range (j + 2) v (by rw [cl_ag]; exact hv)
        rw [show 0 + (j + 2) = 2 + j by omega] at this
        exact this
      clear HE
      go_wp2_with (first | ((with_reducible show wpList _ _ _ (⟨some 44, _, _, _, _, _⟩ :: _) _ _); (refine wpList_load_row_at rfl rowAgA (.tmp 43) rfl z (2) rfl c.ag.cs rfl HAG.out ?_)) | ((with_reducible show wpList _ _ _ (⟨_, .store _ (.tmp 6) _, _, _, _, _⟩ :: _) _ _); (refine wpList_store_blk rfl rowAgA (.tmp 6) (.tmp 44) rfl _ rfl (H.out.blk 0 rfl) rfl (c.ag.cs) rfl rfl (ag_oneA _) ?_; intro wq bq hgq; replace H := Lib.hid (H.out.setBlk 0 rfl hgq bq); (try simp only [List.set_cons_zero, List.set_cons_succ, List.cons_append, List.nil_append, List.eraseIdx_cons_zero, List.eraseIdx_cons_succ, List.setIfInBounds_toArray, World.size_alloc, selR, List.getD_cons_zero, List.getD_cons_succ] at H); clear hgq bq)))
      refine bodyPost_ret (results_blk3 rfl rowAgA rfl (H.out.blk 0 rfl) rfl) rfl ?_
      rw [HV.out]
      exact ⟨rfl, H.out.to⟩

end Go.Proofs.Ytjiphfobengdlaa
