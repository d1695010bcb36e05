/- The walk of the law PlanScans. -/
import Derived.Test.YtelnhhbefdfeoaaPlanL
import Derived.Test.YtelnhhbefdfeoaaPlanM
import Derived.Test.YtelnhhbefdfeoaaPlanB
import Derived.Test.YtelnhhbefdfeoaaAskZ
import Derived.Test.YtelnhhbefdfeoaaBr
import Derived.Test.YtelnhhbefdfeoaaAskV
import Derived.Test.YtelnhhbefdfeoaaBs
namespace Go.Proofs.Ytelnhhbefdfeoaa
open Go.RowKit
set_option linter.unusedVariables false
set_option linter.unusedSimpArgs false


theorem zip_at {ds : List DC} {ps : List PC} {k : Nat} {d : DC} {p : PC} (hd : ds[k]? = some d) (hp : ps[k]? = some p) : (List.zipWith scanOf ds ps)[k]? = some (scanOf d p) := by
  rw [List.getElem?_zipWith, hd, hp]
set_option maxRecDepth 100000 in
set_option maxHeartbeats 4000000 in
theorem walk_planScans (w : World) (d : Sch) (hd : d.rd w) (q : Qr) (hq : q.rd w) :
    Calls Try.prog 6 #[.agg d.cs, .agg q.cs] w fun e w' => e = .returned (.bool true) ∧ Bel w w' := by
  have HF := Lib.hid (fun w' (hb : Bel w w') => schfew_any d w' (hd.mono hb))
  have HF2 := Lib.hid (fun w' (hb : Bel w w') => askfew_any q w' (Row.rd.mono hq hb))
  have hl1 : Hid (d.dm.l.length = d.dm.n) := hd.dm.len
  have hl2 : Hid (q.ps.l.length = q.ps.n) := Row.rd.len hq
  have HP := Lib.hid (fun (hf : FewS d) (hf2 : FewQ q) w' (hb : Bel w w') => planof_any d q w' (List.zipWith scanOf d.con.dims q.con) (hd.mono hb) (Row.rd.mono hq hb) (FewS.hn hf) (FewS.hm hf) (FewS.hd hf) hf2.set (fun h0 => by rw [List.length_zipWith, ← (askErr_zero h0).2.1]; show min q.con.length q.con.length = q.ps.l.length; rw [Nat.min_self]; exact List.length_map ..) (fun h0 k D p c hD hp hc w'' hb' hDr hpr => by
    have hz := zip_at (ds := d.con.dims) (ps := q.con) (k := k) (d := D.con) (p := p.con) (by show (d.dm.l.map Dm.con)[k]? = _; rw [List.getElem?_map, hD]; rfl) (by show (q.ps.l.map Pk.con)[k]? = _; rw [List.getElem?_map, hp]; rfl)
    rw [hz] at hc
    injection hc with hc
    rw [← hc]
    have h1 := askErr_zero h0
    exact scan_any D p w'' hDr hpr (picksErr_ok h1.2.2 h1.2.1 k D.con p.con (by show (d.dm.l.map Dm.con)[k]? = _; rw [List.getElem?_map, hD]; rfl) (by show (q.ps.l.map Pk.con)[k]? = _; rw [List.getElem?_map, hp]; rfl)) ((schErr_zero h1.1).2.2.1 D.con (List.mem_map.2 ⟨D, List.mem_of_getElem? hD, rfl⟩))))
  have HR := Lib.hid (fun (hf : FewS d) (hf2 : FewQ q) w' (hb : Bel w w') => askwrong_any d q w' (hd.mono hb) (Row.rd.mono hq hb) (FewS.hn hf) (FewS.hm hf) (FewS.hd hf) hf2.set)
  have HSH := Lib.hid (fun (h16 : d.dm.n ≤ 16) (hf : FewS d) w' (hb : Bel w w') => rshape_any d w' (hd.mono hb) h16 (fun x hx => (FewS.hd hf x hx).1))
  have HWD := Lib.hid (fun w' (hb : Bel w w') => width_any q w' (Row.rd.mono hq hb))
  have HD := Lib.hid hd.dm
  have HQ := Lib.hid (show q.ps.rd w from hq)
  have m63 : q.ps.n ≤ 9223372036854775807 := hq.n63
  have H := Lib.hid (((SL.start No w).alloc d.cs 25).alloc q.cs 52)
  (try simp only [List.set_cons_zero, List.set_cons_succ, List.cons_append, List.nil_append, List.eraseIdx_cons_zero, List.eraseIdx_cons_succ, List.setIfInBounds_toArray, World.size_alloc, selR, List.getD_cons_zero, List.getD_cons_succ] at H)
  have hcs : d.cs = #[.slice d.dm.A d.dm.n d.dm.c, .slice d.ms.A d.ms.n d.ms.c] := rfl
  have HCS := Lib.hid hcs
  have hqs : q.cs = #[.slice q.ps.A q.ps.n q.ps.c] := rfl
  have HQS := Lib.hid hqs
  clear hcs hqs hd hq
  go_enter Try.func6, Try.ntmps6
  (try rw [← HCS.out] at *)
  (try rw [← HQS.out] at *)
  go_wp2_with ((with_reducible show wpList _ _ _ (⟨some 12, _, _, _, _, _⟩ :: _) _ _); (refine wpList_load_blk rfl rowSch (.tmp 2) rfl _ rfl (H.out.blk 0 rfl) rfl ?_))
  refine (HF.out _ H.out.to).mono ?_; rintro e w1 ⟨b, rfl, hfew, hb1⟩
  replace H := Lib.hid (H.out.bel hb1); (try simp only [List.set_cons_zero, List.set_cons_succ, List.cons_append, List.nil_append, List.eraseIdx_cons_zero, List.eraseIdx_cons_succ, List.setIfInBounds_toArray, World.size_alloc, selR, List.getD_cons_zero, List.getD_cons_succ] at H)
  clear hb1
  clear HF
  cases b with
  | false =>
    clear hfew
    go_wp2_with fail
    refine (awake36_any _).mono ?_; rintro e w8 ⟨rfl, hb8⟩
    go_wp2
    go_ret
    exact ⟨rfl, H.out.to.trans hb8⟩
  | true =>
    have hf := hfew rfl
    clear hfew
    go_wp2_with ((with_reducible show wpList _ _ _ (⟨some 16, _, _, _, _, _⟩ :: _) _ _); refine wpList_load_blkG (by first | rfl | go_simp) rowQry (.tmp 3) (by rfl) _ (by rfl) (H.out.blk 1 rfl) rfl ?_)
    refine (HF2.out _ H.out.to).mono ?_; rintro e w1b ⟨b2, rfl, hfew2, hb1b⟩
    replace H := Lib.hid (H.out.bel hb1b); (try simp only [List.set_cons_zero, List.set_cons_succ, List.cons_append, List.nil_append, List.eraseIdx_cons_zero, List.eraseIdx_cons_succ, List.setIfInBounds_toArray, World.size_alloc, selR, List.getD_cons_zero, List.getD_cons_succ] at H)
    clear hb1b HF2
    cases b2 with
    | false =>
      clear hfew2
      go_wp2_with fail
      refine (awake36_any _).mono ?_; rintro e w8 ⟨rfl, hb8⟩
      go_wp2
      go_ret
      exact ⟨rfl, H.out.to.trans hb8⟩
    | true =>
      have hf2 := hfew2 rfl
      clear hfew2
      go_wp2_with (first | ((with_reducible show wpList _ _ _ (⟨some 22, _, _, _, _, _⟩ :: _) _ _); (refine wpList_load_blk rfl rowSch (.tmp 2) rfl _ rfl (H.out.blk 0 rfl) rfl ?_)) | ((with_reducible show wpList _ _ _ (⟨some 23, _, _, _, _, _⟩ :: _) _ _); (refine wpList_load_blk rfl rowQry (.tmp 3) rfl _ rfl (H.out.blk 1 rfl) rfl ?_)))
      refine (HP.out hf hf2 _ H.out.to).mono ?_; rintro e w2 ⟨X, rfl, hXl, hb2, hXw⟩
      replace H := Lib.hid (H.out.add hb2 (rScns X) hXw.1 hXw.2); (try simp only [List.set_cons_zero, List.set_cons_succ, List.cons_append, List.nil_append, List.eraseIdx_cons_zero, List.eraseIdx_cons_succ, List.setIfInBounds_toArray, World.size_alloc, selR, List.getD_cons_zero, List.getD_cons_succ] at H)
      clear hb2 hXw HP
      go_wp2_with (first | ((with_reducible show wpList _ _ _ (⟨some 27, _, _, _, _, _⟩ :: _) _ _); (refine wpList_load_blk rfl rowSch (.tmp 2) rfl _ rfl (H.out.blk 0 rfl) rfl ?_)) | ((with_reducible show wpList _ _ _ (⟨some 28, _, _, _, _, _⟩ :: _) _ _); (refine wpList_load_blk rfl rowQry (.tmp 3) rfl _ rfl (H.out.blk 1 rfl) rfl ?_)))
      refine (HR.out hf hf2 _ H.out.to).mono ?_; rintro e w3 ⟨rfl, hb3⟩
      replace H := Lib.hid (H.out.bel hb3); (try simp only [List.set_cons_zero, List.set_cons_succ, List.cons_append, List.nil_append, List.eraseIdx_cons_zero, List.eraseIdx_cons_succ, List.setIfInBounds_toArray, World.size_alloc, selR, List.getD_cons_zero, List.getD_cons_succ] at H)
      clear hb3 HR
      have hXlen : X.l.length = X.n := (H.out.at_ 2 rfl).1.len
      by_cases hE : askErr d.con q.con = 0
      · rw [if_pos hE] at hXl
        have h1 := askErr_zero hE
        have hs1 := schErr_zero h1.1
        have hdn : d.dm.n = q.ps.n := by
          have := h1.2.1
          have a1 : q.con.length = q.ps.l.length := List.length_map ..
          have a2 : d.con.dims.length = d.dm.l.length := List.length_map ..
          have := hl1.out
          have := hl2.out
          omega
        have h16 : d.dm.n ≤ 16 := by have := hs1.2.1; have a2 : d.con.dims.length = d.dm.l.length := List.length_map ..; have := hl1.out; omega
        have HXn : Hid (X.n = q.ps.n) := by
          have h := congrArg List.length hXl
          rw [List.length_map, List.length_zipWith, ← h1.2.1, Nat.min_self, hXlen, show q.con.length = q.ps.l.length from List.length_map .., hl2.out] at h
          exact h
        have HXl := Lib.hid hXl
        have HPE : Hid (planErr (d.con.dims.map fun d => sizesOf d.trs) (X.l.map Scn.con) = 0) := by
          show _ = _
          rw [hXl]
          exact planErr_of h1.2.1 hs1.2.2.1 h1.2.2
        replace HSH := Lib.hid (HSH.out h16 hf)
        have HPK := Lib.hid (fun (k : Nat) (D : Dm) (p : Pk) (hD : d.dm.l[k]? = some D) (hp : q.ps.l[k]? = some p) w'' (hDr : D.rd w'') (hpr : p.rd w'') =>
          rscan_any D p w'' hDr hpr (picksErr_ok h1.2.2 h1.2.1 k D.con p.con (by show (d.dm.l.map Dm.con)[k]? = _; rw [List.getElem?_map, hD]; rfl) (by show (q.ps.l.map Pk.con)[k]? = _; rw [List.getElem?_map, hp]; rfl)) (hs1.2.2.1 D.con (List.mem_map.2 ⟨D, List.mem_of_getElem? hD, rfl⟩)))
        have HZ := Lib.hid (fun (k : Nat) (D : Dm) (p : Pk) (hD : d.dm.l[k]? = some D) (hp : q.ps.l[k]? = some p) => zip_at (ds := d.con.dims) (ps := q.con) (k := k) (d := D.con) (p := p.con) (by show (d.dm.l.map Dm.con)[k]? = _; rw [List.getElem?_map, hD]; rfl) (by show (q.ps.l.map Pk.con)[k]? = _; rw [List.getElem?_map, hp]; rfl))
        rw [hE]
        clear hE h1 hs1 hXl hXlen hf hf2
        obtain ⟨qcs, hqcs⟩ : ∃ l, l = q.con := ⟨_, rfl⟩
        have HQC := Lib.hid hqcs
        obtain ⟨zs, hzs⟩ : ∃ l, l = List.zipWith scanOf d.con.dims q.con := ⟨_, rfl⟩
        rw [← hzs] at HXl HZ
        rw [← hqcs] at HWD
        clear hzs hqcs
        obtain ⟨⟨DA, dn, dc2, ds⟩, ⟨MA, mn, mc, ms⟩⟩ := d
        obtain ⟨⟨QA, n, qc2, ps0⟩⟩ := q
        simp only [Sch.cs, Qr.cs, Sch.con, Qr.con] at *
        obtain rfl : n = dn := hdn.symm
        have ps_def : Hid (qcs = ps0.map Pk.con) := HQC.out
        have HXn2 := HXn.out
        have x2 : (X.n : Int) = n := by omega
        have x3 : ((X.n : Int) != n) = false := by rw [x2]; simp
        have x4 : ((n : Int) != n) = false := by simp
        have cy : w3.cell? ⟨w.heap.size + 1, 0, none⟩ = some (.slice QA n qc2) := (H.out.blk 1 rfl).cell 0
        rw [show X.n = n from HXn2]
        rw [show X.n = n from HXn2] at x2 x3
        clear HXn2 x2 x3
        go_wp2_with fail
        clear cy x4
        generalize w.heap.size + 1 = y at *
        generalize w.heap.size = x at *
        have HW : Hid (widthOf (qcs.take 0) = 0) := rfl
        have hps : ∃ ps, ps = qcs := ⟨_, rfl⟩
        obtain ⟨ps, hps⟩ := hps
        rw [← hps] at HW HWD ps_def
        clear hps HQC
        go_loopg [8, 56] n (fun gg s8 s56 wr => ∃ (k m : Nat), gg = n - k ∧ k ≤ n ∧ m ≤ k ∧ s8 = .int .i64 m ∧ s56 = .int .i64 k ∧ Hid (widthOf (ps.take k) = m) ∧ Hid (SL No w wr [rBlk x 25 #[.slice DA n dc2, .slice MA mn mc], rBlk y 52 #[.slice QA n qc2], rScns X]))
        case atStart => exact ⟨0, 0, rfl, by omega, by omega, rfl, rfl, HW, H⟩
        case round =>
          clear H HW
          obtain ⟨k, m, hgk, hk, hm, rfl, rfl, HW, H⟩ := hrel
          have Hgk := Lib.hid hgk
          clear hgk
          by_cases hlt : k < n
          · obtain ⟨bq0, oq, p, hA, hbq, hpk, hpr, hpg⟩ := (HQ.out.mono H.out.to).pkAt (k := k) hlt
            obtain ⟨bd, od, D, hA2, hbd, hDk, hDr, hDg⟩ := HD.out.dmAt (k := k) hlt
            simp only at hA hA2
            subst hA hA2
            have hp0 := HQ.out.all p (List.mem_of_getElem? hpk)
            have HSC := Lib.hid (fun w' (hb : Bel w w') => HPK.out k D p hDk hpk w' (Dm.rd.mono (HD.out.all D (List.mem_of_getElem? hDk)) hb) (Pk.rd.mono hp0 hb))
            have HZK := Lib.hid (HZ.out k D p hDk hpk)
            have HDC : Hid (∀ w', Bel w w' → w'.cell? ⟨bd, od + k * 2, none⟩ = some (.string ⟨D.nm.toArray⟩) ∧ w'.cell? ⟨bd, od + k * 2 + 1, none⟩ = some (.slice D.tr.A D.tr.n D.tr.c)) := fun w' hb => ⟨(hb.cell (p := ⟨bd, od + k * 2, none⟩) hbd).trans (hDg 0 _ rfl), (hb.cell (p := ⟨bd, od + k * 2 + 1, none⟩) hbd).trans (hDg 1 _ rfl)⟩
            have hpc : ps[k]? = some p.con := by rw [ps_def.out, List.getElem?_map, hpk]; rfl
            have HY := Lib.hid (fun h => widthOf_yes hpc h)
            have HN := Lib.hid (fun h => widthOf_no hpc h)
            obtain ⟨Dc, hDc⟩ : ∃ c, c = D.con := ⟨_, rfl⟩
            obtain ⟨Pc, hPc⟩ : ∃ c, c = p.con := ⟨_, rfl⟩
            rw [← hDc, ← hPc] at HSC HZK
            have HRp := Lib.hid hpg
            have i0 : (0 : Int) ≤ k := by omega
            have i1 : (k : Int) < n := by omega
            clear hpk hpr hpg hp0 hDk hDr hDg hpc hDc hPc hbd
            obtain ⟨pf, pt, lo, hi, ⟨SA, sn, sc, set⟩, pg, pby⟩ := p
            obtain ⟨nm, ⟨TA, tn, tc, trs⟩⟩ := D
            simp only [Pk.cs, Pk.con, Dm.cs] at *
            go_upto_region 13 with (first | ((with_reducible show wpList _ _ _ (⟨some 60, _, _, _, _, _⟩ :: _) _ _); (refine wpList_load_row_at rfl rowPk (.tmp 59) rfl bq0 (oq + k * 7) rfl (Pk.mk pf pt lo hi ⟨SA, sn, sc, set⟩ pg pby).cs rfl HRp.out ?_)) | ((with_reducible show wpList _ _ _ (⟨_, .store _ (.tmp 10) _, _, _, _, _⟩ :: _) _ _); (refine wpList_store_new rfl rowPk (.tmp 10) (.tmp 60) rfl rfl rfl ((Pk.mk pf pt lo hi ⟨SA, sn, sc, set⟩ pg pby).cs) rfl rfl (pk_one _) ?_; replace H := Lib.hid (H.out.alloc ((Pk.mk pf pt lo hi ⟨SA, sn, sc, set⟩ pg pby).cs) 59); (try simp only [List.set_cons_zero, List.set_cons_succ, List.cons_append, List.nil_append, List.eraseIdx_cons_zero, List.eraseIdx_cons_succ, List.setIfInBounds_toArray, World.size_alloc, selR, List.getD_cons_zero, List.getD_cons_succ] at H))))
            (try simp only [Act.put, List.setIfInBounds_toArray, List.set_cons_zero, List.set_cons_succ])
            clear HRp hbq
            generalize wr.heap.size = pb at *
            generalize World.alloc wr _ = w9 at *
            refine wp_region_held_drew (S := fun w => w.cell? ⟨x, 0, none⟩ = some (.slice (some ⟨bd, od, none⟩) n dc2) ∧ w.cell? ⟨bd, od + k * 2, none⟩ = some (.string ⟨nm.toArray⟩) ∧ w.cell? ⟨bd, od + k * 2 + 1, none⟩ = some (.slice TA tn tc) ∧ w.cell? ⟨pb, 0, none⟩ = some (.int .i64 pf) ∧ w.cell? ⟨pb, 1, none⟩ = some (.int .i64 pt) ∧ w.cell? ⟨pb, 2, none⟩ = some (.string ⟨lo.toArray⟩) ∧ w.cell? ⟨pb, 3, none⟩ = some (.string ⟨hi.toArray⟩) ∧ w.cell? ⟨pb, 4, none⟩ = some (.slice SA sn sc) ∧ w.cell? ⟨pb, 5, none⟩ = some (.bool pg) ∧ w.cell? ⟨pb, 6, none⟩ = some (.int .i64 pby)) (by kernel_rfl) ⟨(H.out.blk 0 rfl).cell 0, (HDC.out _ H.out.to).1, (HDC.out _ H.out.to).2, (H.out.blk 3 rfl).cell 0, (H.out.blk 3 rfl).cell 1, (H.out.blk 3 rfl).cell 2, (H.out.blk 3 rfl).cell 3, (H.out.blk 3 rfl).cell 4, (H.out.blk 3 rfl).cell 5, (H.out.blk 3 rfl).cell 6⟩ (fun hHeld => ?_)
            replace H := Lib.hid (H.out.drew); (try simp only [List.set_cons_zero, List.set_cons_succ, List.cons_append, List.nil_append, List.eraseIdx_cons_zero, List.eraseIdx_cons_succ, List.setIfInBounds_toArray, World.size_alloc, selR, List.getD_cons_zero, List.getD_cons_succ] at H)
            generalize World.drew _ = w8 at *
            refine wpAnyH_take (i := 0) (v := ?vq6_0) (get_o0) (by kernel_rfl) (by kernel_rfl) (by kernel_rfl) (by exact fun _ _ _ h => h) (Or.inl ⟨by rfl, ?hyq6_0⟩) (by assumption) ?_
            case hyq6_0 => (intro w hSw; (try dsimp only at hSw); go_simp) <;> with_reducible rfl
            try simp only [Act.put, List.setIfInBounds_toArray, List.set_cons_zero, List.set_cons_succ]
            refine wpAnyH_take (i := 1) (v := ?vq6_1) (get_os (get_o0)) (by kernel_rfl) (by kernel_rfl) (by kernel_rfl) (by exact fun _ _ _ h => h) (Or.inl ⟨by rfl, ?hyq6_1⟩) (by assumption) ?_
            case hyq6_1 => (intro w hSw; (try dsimp only at hSw); go_simp) <;> with_reducible rfl
            try simp only [Act.put, List.setIfInBounds_toArray, List.set_cons_zero, List.set_cons_succ]
            refine wpAnyH_take (i := 2) (v := ?vq6_2) (get_os (get_os (get_o0))) (by kernel_rfl) (by kernel_rfl) (by kernel_rfl) (by exact fun _ _ _ h => h) (Or.inl ⟨by rfl, ?hyq6_2⟩) (by assumption) ?_
            case hyq6_2 => (intro w hSw; (try dsimp only at hSw); go_simp) <;> with_reducible rfl
            try simp only [Act.put, List.setIfInBounds_toArray, List.set_cons_zero, List.set_cons_succ]
            refine wpAnyH_take (i := 3) (v := ?vq6_3) (get_os (get_os (get_os (get_o0)))) (by kernel_rfl) (by kernel_rfl) (by kernel_rfl) (by exact fun _ _ _ h => h) (Or.inl ⟨by rfl, ?hyq6_3⟩) (by assumption) ?_
            case hyq6_3 => (intro w hSw; (try dsimp only at hSw); go_simp) <;> with_reducible rfl
            try simp only [Act.put, List.setIfInBounds_toArray, List.set_cons_zero, List.set_cons_succ]
            refine wpAnyH_take (i := 4) (v := ?vq6_4) (get_os (get_os (get_os (get_os (get_o0))))) (by kernel_rfl) (by kernel_rfl) (by kernel_rfl) (by exact fun _ _ _ h => h) (Or.inl ⟨by rfl, ?hyq6_4⟩) (by assumption) ?_
            case hyq6_4 => (intro w hSw; (try dsimp only at hSw); go_simp) <;> with_reducible rfl
            try simp only [Act.put, List.setIfInBounds_toArray, List.set_cons_zero, List.set_cons_succ]
            refine wpAnyH_take (i := 5) (v := ?vq6_5) (get_os (get_os (get_os (get_os (get_os (get_o0)))))) (by kernel_rfl) (by kernel_rfl) (by kernel_rfl) (by exact fun _ _ _ h => h) (Or.inl ⟨by rfl, ?hyq6_5⟩) (by assumption) ?_
            case hyq6_5 => (intro w hSw; (try dsimp only at hSw); go_simp) <;> with_reducible rfl
            try simp only [Act.put, List.setIfInBounds_toArray, List.set_cons_zero, List.set_cons_succ]
            refine wpAnyH_ready (rs := [6, 7]) (by kernel_rfl) (by simp) ?_
            refine (AllReadyH.cons (get_os (get_os (get_os (get_os (get_os (get_os (get_o0))))))) (fun KK hKK => ?_) (AllReadyH.cons (get_os (get_os (get_os (get_os (get_os (get_os (get_os (get_o0)))))))) (fun KK hKK => ?_) AllReadyH.nil))
            · go_simp
              refine (HSC.out _ H.out.to).mono ?_; rintro e' w7 ⟨C, rfl, hCc, hb7, hCw⟩
              replace H := Lib.hid (H.out.add hb7 (rScn C) hCw.1 hCw.2); (try simp only [List.set_cons_zero, List.set_cons_succ, List.cons_append, List.nil_append, List.eraseIdx_cons_zero, List.eraseIdx_cons_succ, List.setIfInBounds_toArray, World.size_alloc, selR, List.getD_cons_zero, List.getD_cons_succ] at H)
              have HCc := Lib.hid hCc
              clear hb7 hCw hCc
              refine hKK.out _ _ ⟨(H.out.blk 0 rfl).cell 0, (HDC.out _ H.out.to).1, (HDC.out _ H.out.to).2, (H.out.blk 3 rfl).cell 0, (H.out.blk 3 rfl).cell 1, (H.out.blk 3 rfl).cell 2, (H.out.blk 3 rfl).cell 3, (H.out.blk 3 rfl).cell 4, (H.out.blk 3 rfl).cell 5, (H.out.blk 3 rfl).cell 6⟩ (fun hHeld => ?_)
              clear hKK KK
              try simp only [Act.put, List.setIfInBounds_toArray, List.set_cons_zero, List.set_cons_succ]
              refine wpAnyH_ready (rs := [7]) (by kernel_rfl) (by simp) ?_
              refine (AllReadyH.cons (get_os (get_os (get_os (get_os (get_os (get_os (get_os (get_o0)))))))) (fun KK hKK => ?_) AllReadyH.nil)
              go_simp
              replace H := Lib.hid (H.out.alloc #[.int .i64 0, .slice none 0 0, .slice none 0 0] 62); (try simp only [List.set_cons_zero, List.set_cons_succ, List.cons_append, List.nil_append, List.eraseIdx_cons_zero, List.eraseIdx_cons_succ, List.setIfInBounds_toArray, World.size_alloc, selR, List.getD_cons_zero, List.getD_cons_succ] at H)
              generalize w7.heap.size = cb at *
              generalize World.alloc w7 _ = wA at *
              refine hKK.out _ _ ⟨(H.out.blk 0 rfl).cell 0, (HDC.out _ H.out.to).1, (HDC.out _ H.out.to).2, (H.out.blk 3 rfl).cell 0, (H.out.blk 3 rfl).cell 1, (H.out.blk 3 rfl).cell 2, (H.out.blk 3 rfl).cell 3, (H.out.blk 3 rfl).cell 4, (H.out.blk 3 rfl).cell 5, (H.out.blk 3 rfl).cell 6⟩ (fun hHeld => ?_)
              clear hKK KK
              try simp only [Act.put, List.setIfInBounds_toArray, List.set_cons_zero, List.set_cons_succ]
              refine wpAnyH_ready (rs := [8]) (by kernel_rfl) (by simp) ?_
              refine (AllReadyH.cons (get_os (get_os (get_os (get_os (get_os (get_os (get_os (get_os (get_o0))))))))) (fun KK hKK => ?_) AllReadyH.nil)
              refine step_store_blk rfl rowScan (.tmp 11) (.tmp 67) rfl _ rfl (H.out.blk 5 rfl) rfl (C.cs) rfl rfl (scn_one C) ?_
              intro wq bq hgq
              replace H := Lib.hid (H.out.setBlk 5 rfl hgq bq); (try simp only [List.set_cons_zero, List.set_cons_succ, List.cons_append, List.nil_append, List.eraseIdx_cons_zero, List.eraseIdx_cons_succ, List.setIfInBounds_toArray, World.size_alloc, selR, List.getD_cons_zero, List.getD_cons_succ] at H)
              clear hgq bq
              skip
              refine hKK.out _ _ ⟨(H.out.blk 0 rfl).cell 0, (HDC.out _ H.out.to).1, (HDC.out _ H.out.to).2, (H.out.blk 3 rfl).cell 0, (H.out.blk 3 rfl).cell 1, (H.out.blk 3 rfl).cell 2, (H.out.blk 3 rfl).cell 3, (H.out.blk 3 rfl).cell 4, (H.out.blk 3 rfl).cell 5, (H.out.blk 3 rfl).cell 6⟩ (fun hHeld => ?_)
              clear hKK KK
              try simp only [Act.put, List.setIfInBounds_toArray, List.set_cons_zero, List.set_cons_succ]
              refine wpAnyH_done (by kernel_rfl) ?_ _
              clear hHeld
              obtain ⟨bX, oX, E, hXA, hbX, hEk, hEr, hEg⟩ := (H.out.at_ 2 rfl).1.scnAt (k := k) (by have := HXn.out; omega)
              have hEc : E.con = scanOf Dc Pc := by
                have h := congrArg (·[k]?) HXl.out
                simp only [List.getElem?_map, hEk] at h
                rw [HZK.out] at h
                simpa using h
              have hEC : E.con = C.con := hEc.trans HCc.out.symm
              have hCr := (H.out.at_ 4 rfl).rd
              have hCo := H.out.at_ 4 rfl
              have l0 : wq.cell? ⟨bX, oX + k * 3, none⟩ = some (.int .i64 E.t) := hEg 0 _ rfl
              have l1 : wq.cell? ⟨bX, oX + k * 3 + 1, none⟩ = some (.slice E.tk.A E.tk.n E.tk.c) := hEg 1 _ rfl
              have l2 : wq.cell? ⟨bX, oX + k * 3 + 2, none⟩ = some (.slice E.io.A E.io.n E.io.c) := hEg 2 _ rfl
              have q0 := (H.out.blk 5 rfl).cell 0
              have q1 := (H.out.blk 5 rfl).cell 1
              have q2 := (H.out.blk 5 rfl).cell 2
              have HI1 := Lib.hid (fun w' (hb : Bel wq w') => ints_any E.tk.A E.tk.n E.tk.c E.tk.l C.tk.A C.tk.n C.tk.c C.tk.l w' (by have := (hEr.tk.mono hb).r; rw [flat_ints] at this; exact this) (by have := (hCr.tk.mono hb).r; rw [flat_ints] at this; exact this) (by have := hEr.tb; omega) (by have := hCr.tb; omega))
              have HI2 := Lib.hid (fun w' (hb : Bel wq w') => ints_any E.io.A E.io.n E.io.c E.io.l C.io.A C.io.n C.io.c C.io.l w' (by have := (hEr.io.mono hb).r; rw [flat_ints] at this; exact this) (by have := (hCr.io.mono hb).r; rw [flat_ints] at this; exact this) (by have := hEr.ib; omega) (by have := hCr.ib; omega))
              have e1 : E.t = C.t := congrArg SnC.t hEC
              have e2 : (E.tk.l == C.tk.l) = true := by rw [show E.tk.l = C.tk.l from congrArg SnC.tk hEC]; simp
              have e3 : (E.io.l == C.io.l) = true := by rw [show E.io.l = C.io.l from congrArg SnC.io hEC]; simp
              rw [e2] at HI1
              rw [e3] at HI2
              change _ = some (Value.int .i64 C.t) at q0
              change _ = some (Value.slice C.tk.A C.tk.n C.tk.c) at q1
              change _ = some (Value.slice C.io.A C.io.n C.io.c) at q2
              rw [e1] at l0
              have z1 : (C.t != C.t) = false := by simp
              have x1 : (k : Int) < X.n := by have := HXn.out; omega
              have x0 : (0 : Int) ≤ k := by omega
              clear hEc hEC hCr hCo hEr hEg hEk e1 e2 e3 HCc HSC HDC
              obtain ⟨XA, Xn, Xc, Xl⟩ := X
              simp only at hXA x1
              subst hXA
              go_upto_region 14 with fail
              have f_l0 := fun u : Over wq => Over.cell l0 u
              have f_l1 := fun u : Over wq => Over.cell l1 u
              have f_l2 := fun u : Over wq => Over.cell l2 u
              have f_q0 := fun u : Over wq => Over.cell q0 u
              have f_q1 := fun u : Over wq => Over.cell q1 u
              have f_q2 := fun u : Over wq => Over.cell q2 u
              refine wp_region_over (by kernel_rfl) (by kernel_rfl) ?_
              (try simp only [Act.put, List.setIfInBounds_toArray, List.set_cons_zero, List.set_cons_succ])
              repeat (first
                | ((with_reducible show wpQuiet _ _ _ _ (⟨some 84, _, _, _, _, _⟩ :: _) _); go_big_quiet_step ((go_at_call 27; rename_i u; exact calls_over (HI1.out _ u.bel))))
                | ((with_reducible show wpQuiet _ _ _ _ (⟨some 95, _, _, _, _, _⟩ :: _) _); go_big_quiet_step ((go_at_call 27; rename_i u; exact calls_over (HI2.out _ u.bel))))
                | go_big_quiet_step (fail))
              refine wpQuiet_nil ?_
              rintro w5 ⟨⟨_, hw5⟩, rfl⟩
              (try dsimp only)
              replace H := Lib.hid (H.out.bel hw5); (try simp only [List.set_cons_zero, List.set_cons_succ, List.cons_append, List.nil_append, List.eraseIdx_cons_zero, List.eraseIdx_cons_succ, List.setIfInBounds_toArray, World.size_alloc, selR, List.getD_cons_zero, List.getD_cons_succ] at H)
              clear f_l0 f_l1 f_l2 f_q0 f_q1 f_q2 l0 l1 l2 q0 q1 q2
              clear HI1 HI2 z1 x1 x0
              have cg : w5.cell? ⟨pb, 5, none⟩ = some (.bool pg) := (H.out.blk 3 rfl).cell 5
              replace H := Lib.hid (H.out.sel [0, 1, 2] (by decide) (by simp)); (try simp only [List.set_cons_zero, List.set_cons_succ, List.cons_append, List.nil_append, List.eraseIdx_cons_zero, List.eraseIdx_cons_succ, List.setIfInBounds_toArray, World.size_alloc, selR, List.getD_cons_zero, List.getD_cons_succ] at H)
              cases pg with
              | true =>
                have HW2 : Hid (widthOf (ps.take (k + 1)) = m + 1) := by show _ = _; rw [HY.out rfl, HW.out]
                clear HW HY HN
                go_wp2_with fail
                go_roundg (n - (k + 1))
                case rel => exact ⟨k + 1, m + 1, rfl, by omega, by omega, by go_num, by go_num, HW2, H⟩
                case measure => rw [Hgk.out]; omega
              | false =>
                have HW2 : Hid (widthOf (ps.take (k + 1)) = m) := by show _ = _; rw [HN.out rfl, HW.out]
                clear HW HY HN
                go_wp2_with fail
                go_roundg (n - (k + 1))
                case rel => exact ⟨k + 1, m, rfl, by omega, by omega, rfl, by go_num, HW2, H⟩
                case measure => rw [Hgk.out]; omega
            · go_simp
              replace H := Lib.hid (H.out.alloc #[.int .i64 0, .slice none 0 0, .slice none 0 0] 62); (try simp only [List.set_cons_zero, List.set_cons_succ, List.cons_append, List.nil_append, List.eraseIdx_cons_zero, List.eraseIdx_cons_succ, List.setIfInBounds_toArray, World.size_alloc, selR, List.getD_cons_zero, List.getD_cons_succ] at H)
              generalize w8.heap.size = cb at *
              generalize World.alloc w8 _ = wA at *
              refine hKK.out _ _ ⟨(H.out.blk 0 rfl).cell 0, (HDC.out _ H.out.to).1, (HDC.out _ H.out.to).2, (H.out.blk 3 rfl).cell 0, (H.out.blk 3 rfl).cell 1, (H.out.blk 3 rfl).cell 2, (H.out.blk 3 rfl).cell 3, (H.out.blk 3 rfl).cell 4, (H.out.blk 3 rfl).cell 5, (H.out.blk 3 rfl).cell 6⟩ (fun hHeld => ?_)
              clear hKK KK
              try simp only [Act.put, List.setIfInBounds_toArray, List.set_cons_zero, List.set_cons_succ]
              refine wpAnyH_ready (rs := [6]) (by kernel_rfl) (by simp) ?_
              refine (AllReadyH.cons (get_os (get_os (get_os (get_os (get_os (get_os (get_o0))))))) (fun KK hKK => ?_) AllReadyH.nil)
              go_simp
              refine (HSC.out _ H.out.to).mono ?_; rintro e' w7 ⟨C, rfl, hCc, hb7, hCw⟩
              replace H := Lib.hid (H.out.add hb7 (rScn C) hCw.1 hCw.2); (try simp only [List.set_cons_zero, List.set_cons_succ, List.cons_append, List.nil_append, List.eraseIdx_cons_zero, List.eraseIdx_cons_succ, List.setIfInBounds_toArray, World.size_alloc, selR, List.getD_cons_zero, List.getD_cons_succ] at H)
              have HCc := Lib.hid hCc
              clear hb7 hCw hCc
              refine hKK.out _ _ ⟨(H.out.blk 0 rfl).cell 0, (HDC.out _ H.out.to).1, (HDC.out _ H.out.to).2, (H.out.blk 3 rfl).cell 0, (H.out.blk 3 rfl).cell 1, (H.out.blk 3 rfl).cell 2, (H.out.blk 3 rfl).cell 3, (H.out.blk 3 rfl).cell 4, (H.out.blk 3 rfl).cell 5, (H.out.blk 3 rfl).cell 6⟩ (fun hHeld => ?_)
              clear hKK KK
              try simp only [Act.put, List.setIfInBounds_toArray, List.set_cons_zero, List.set_cons_succ]
              refine wpAnyH_ready (rs := [8]) (by kernel_rfl) (by simp) ?_
              refine (AllReadyH.cons (get_os (get_os (get_os (get_os (get_os (get_os (get_os (get_os (get_o0))))))))) (fun KK hKK => ?_) AllReadyH.nil)
              refine step_store_blk rfl rowScan (.tmp 11) (.tmp 67) rfl _ rfl (H.out.blk 4 rfl) rfl (C.cs) rfl rfl (scn_one C) ?_
              intro wq bq hgq
              replace H := Lib.hid (H.out.setBlk 4 rfl hgq bq); (try simp only [List.set_cons_zero, List.set_cons_succ, List.cons_append, List.nil_append, List.eraseIdx_cons_zero, List.eraseIdx_cons_succ, List.setIfInBounds_toArray, World.size_alloc, selR, List.getD_cons_zero, List.getD_cons_succ] at H)
              clear hgq bq
              replace H := Lib.hid (H.out.sel [0, 1, 2, 3, 5, 4] (by decide) (by simp)); (try simp only [List.set_cons_zero, List.set_cons_succ, List.cons_append, List.nil_append, List.eraseIdx_cons_zero, List.eraseIdx_cons_succ, List.setIfInBounds_toArray, World.size_alloc, selR, List.getD_cons_zero, List.getD_cons_succ] at H)
              refine hKK.out _ _ ⟨(H.out.blk 0 rfl).cell 0, (HDC.out _ H.out.to).1, (HDC.out _ H.out.to).2, (H.out.blk 3 rfl).cell 0, (H.out.blk 3 rfl).cell 1, (H.out.blk 3 rfl).cell 2, (H.out.blk 3 rfl).cell 3, (H.out.blk 3 rfl).cell 4, (H.out.blk 3 rfl).cell 5, (H.out.blk 3 rfl).cell 6⟩ (fun hHeld => ?_)
              clear hKK KK
              try simp only [Act.put, List.setIfInBounds_toArray, List.set_cons_zero, List.set_cons_succ]
              refine wpAnyH_done (by kernel_rfl) ?_ _
              clear hHeld
              obtain ⟨bX, oX, E, hXA, hbX, hEk, hEr, hEg⟩ := (H.out.at_ 2 rfl).1.scnAt (k := k) (by have := HXn.out; omega)
              have hEc : E.con = scanOf Dc Pc := by
                have h := congrArg (·[k]?) HXl.out
                simp only [List.getElem?_map, hEk] at h
                rw [HZK.out] at h
                simpa using h
              have hEC : E.con = C.con := hEc.trans HCc.out.symm
              have hCr := (H.out.at_ 4 rfl).rd
              have hCo := H.out.at_ 4 rfl
              have l0 : wq.cell? ⟨bX, oX + k * 3, none⟩ = some (.int .i64 E.t) := hEg 0 _ rfl
              have l1 : wq.cell? ⟨bX, oX + k * 3 + 1, none⟩ = some (.slice E.tk.A E.tk.n E.tk.c) := hEg 1 _ rfl
              have l2 : wq.cell? ⟨bX, oX + k * 3 + 2, none⟩ = some (.slice E.io.A E.io.n E.io.c) := hEg 2 _ rfl
              have q0 := (H.out.blk 5 rfl).cell 0
              have q1 := (H.out.blk 5 rfl).cell 1
              have q2 := (H.out.blk 5 rfl).cell 2
              have HI1 := Lib.hid (fun w' (hb : Bel wq w') => ints_any E.tk.A E.tk.n E.tk.c E.tk.l C.tk.A C.tk.n C.tk.c C.tk.l w' (by have := (hEr.tk.mono hb).r; rw [flat_ints] at this; exact this) (by have := (hCr.tk.mono hb).r; rw [flat_ints] at this; exact this) (by have := hEr.tb; omega) (by have := hCr.tb; omega))
              have HI2 := Lib.hid (fun w' (hb : Bel wq w') => ints_any E.io.A E.io.n E.io.c E.io.l C.io.A C.io.n C.io.c C.io.l w' (by have := (hEr.io.mono hb).r; rw [flat_ints] at this; exact this) (by have := (hCr.io.mono hb).r; rw [flat_ints] at this; exact this) (by have := hEr.ib; omega) (by have := hCr.ib; omega))
              have e1 : E.t = C.t := congrArg SnC.t hEC
              have e2 : (E.tk.l == C.tk.l) = true := by rw [show E.tk.l = C.tk.l from congrArg SnC.tk hEC]; simp
              have e3 : (E.io.l == C.io.l) = true := by rw [show E.io.l = C.io.l from congrArg SnC.io hEC]; simp
              rw [e2] at HI1
              rw [e3] at HI2
              change _ = some (Value.int .i64 C.t) at q0
              change _ = some (Value.slice C.tk.A C.tk.n C.tk.c) at q1
              change _ = some (Value.slice C.io.A C.io.n C.io.c) at q2
              rw [e1] at l0
              have z1 : (C.t != C.t) = false := by simp
              have x1 : (k : Int) < X.n := by have := HXn.out; omega
              have x0 : (0 : Int) ≤ k := by omega
              clear hEc hEC hCr hCo hEr hEg hEk e1 e2 e3 HCc HSC HDC
              obtain ⟨XA, Xn, Xc, Xl⟩ := X
              simp only at hXA x1
              subst hXA
              go_upto_region 14 with fail
              have f_l0 := fun u : Over wq => Over.cell l0 u
              have f_l1 := fun u : Over wq => Over.cell l1 u
              have f_l2 := fun u : Over wq => Over.cell l2 u
              have f_q0 := fun u : Over wq => Over.cell q0 u
              have f_q1 := fun u : Over wq => Over.cell q1 u
              have f_q2 := fun u : Over wq => Over.cell q2 u
              refine wp_region_over (by kernel_rfl) (by kernel_rfl) ?_
              (try simp only [Act.put, List.setIfInBounds_toArray, List.set_cons_zero, List.set_cons_succ])
              repeat (first
                | ((with_reducible show wpQuiet _ _ _ _ (⟨some 84, _, _, _, _, _⟩ :: _) _); go_big_quiet_step ((go_at_call 27; rename_i u; exact calls_over (HI1.out _ u.bel))))
                | ((with_reducible show wpQuiet _ _ _ _ (⟨some 95, _, _, _, _, _⟩ :: _) _); go_big_quiet_step ((go_at_call 27; rename_i u; exact calls_over (HI2.out _ u.bel))))
                | go_big_quiet_step (fail))
              refine wpQuiet_nil ?_
              rintro w5 ⟨⟨_, hw5⟩, rfl⟩
              (try dsimp only)
              replace H := Lib.hid (H.out.bel hw5); (try simp only [List.set_cons_zero, List.set_cons_succ, List.cons_append, List.nil_append, List.eraseIdx_cons_zero, List.eraseIdx_cons_succ, List.setIfInBounds_toArray, World.size_alloc, selR, List.getD_cons_zero, List.getD_cons_succ] at H)
              clear f_l0 f_l1 f_l2 f_q0 f_q1 f_q2 l0 l1 l2 q0 q1 q2
              clear HI1 HI2 z1 x1 x0
              have cg : w5.cell? ⟨pb, 5, none⟩ = some (.bool pg) := (H.out.blk 3 rfl).cell 5
              replace H := Lib.hid (H.out.sel [0, 1, 2] (by decide) (by simp)); (try simp only [List.set_cons_zero, List.set_cons_succ, List.cons_append, List.nil_append, List.eraseIdx_cons_zero, List.eraseIdx_cons_succ, List.setIfInBounds_toArray, World.size_alloc, selR, List.getD_cons_zero, List.getD_cons_succ] at H)
              cases pg with
              | true =>
                have HW2 : Hid (widthOf (ps.take (k + 1)) = m + 1) := by show _ = _; rw [HY.out rfl, HW.out]
                clear HW HY HN
                go_wp2_with fail
                go_roundg (n - (k + 1))
                case rel => exact ⟨k + 1, m + 1, rfl, by omega, by omega, by go_num, by go_num, HW2, H⟩
                case measure => rw [Hgk.out]; omega
              | false =>
                have HW2 : Hid (widthOf (ps.take (k + 1)) = m) := by show _ = _; rw [HN.out rfl, HW.out]
                clear HW HY HN
                go_wp2_with fail
                go_roundg (n - (k + 1))
                case rel => exact ⟨k + 1, m, rfl, by omega, by omega, rfl, by go_num, HW2, H⟩
                case measure => rw [Hgk.out]; omega
          · obtain rfl : k = n := by omega
            have HWn : Hid (widthOf ps = m) := by
              show _ = _
              have h := HW.out
              rw [List.take_of_length_le (by rw [ps_def.out, List.length_map, hl2.out]; exact Nat.le_refl _)] at h
              exact h
            rw [HWn.out] at HWD
            clear HW HWn HPK HZ HXl
            go_wp2_with ((with_reducible show wpList _ _ _ (⟨some 103, _, _, _, _, _⟩ :: _) _ _); (refine wpList_load_blk rfl rowSch (.tmp 2) rfl _ rfl (H.out.blk 0 rfl) rfl ?_))
            refine (HSH.out _ H.out.to).mono ?_; rintro e w4 ⟨Y, rfl, hYc, _, hYr, hb4⟩
            replace H := Lib.hid (H.out.bel hb4); (try simp only [List.set_cons_zero, List.set_cons_succ, List.cons_append, List.nil_append, List.eraseIdx_cons_zero, List.eraseIdx_cons_succ, List.setIfInBounds_toArray, World.size_alloc, selR, List.getD_cons_zero, List.getD_cons_succ] at H)
            have hCK := plancheck_any Y X w4 hYr (H.out.at_ 2 rfl).1
            rw [hYc, HPE.out, show X.n = k from HXn.out] at hCK
            have HCK := Lib.hid hCK
            clear hb4 hYc hYr hCK HSH HPE
            go_wp2_with fail
            refine HCK.out.mono ?_; rintro e w5 ⟨rfl, hb5⟩
            replace H := Lib.hid (H.out.bel hb5); (try simp only [List.set_cons_zero, List.set_cons_succ, List.cons_append, List.nil_append, List.eraseIdx_cons_zero, List.eraseIdx_cons_succ, List.setIfInBounds_toArray, World.size_alloc, selR, List.getD_cons_zero, List.getD_cons_succ] at H)
            clear hb5 HCK
            go_wp2_with ((with_reducible show wpList _ _ _ (⟨some 109, _, _, _, _, _⟩ :: _) _ _); refine wpList_load_blkG (by first | rfl | go_simp) rowQry (.tmp 3) (by rfl) _ (by rfl) (H.out.blk 1 rfl) rfl ?_)
            refine (HWD.out _ H.out.to).mono ?_; rintro e w6 ⟨rfl, hb6⟩
            replace H := Lib.hid (H.out.bel hb6); (try simp only [List.set_cons_zero, List.set_cons_succ, List.cons_append, List.nil_append, List.eraseIdx_cons_zero, List.eraseIdx_cons_succ, List.setIfInBounds_toArray, World.size_alloc, selR, List.getD_cons_zero, List.getD_cons_succ] at H)
            clear hb6 HWD
            have z1 : ((m : Int) == m) = true := by simp
            go_wp2_with fail
            refine (awake36_any _).mono ?_; rintro e w8 ⟨rfl, hb8⟩
            go_wp2
            go_ret
            exact ⟨rfl, H.out.to.trans hb8⟩
      · rw [if_neg hE] at hXl
        have hX0 : X.n = 0 := by have h := congrArg List.length hXl; rw [List.length_map, hXlen] at h; exact h
        generalize askErr d.con q.con = E at *
        have z1 : (E != 0) = true := by simpa using hE
        have z2 : (E == 0) = false := by simpa using hE
        have z3 : (E == E) = true := by simp
        rw [hX0]
        clear hE hXl hXlen hX0
        go_wp2_with fail
        refine (awake36_any _).mono ?_; rintro e w8 ⟨rfl, hb8⟩
        go_wp2
        go_ret
        exact ⟨rfl, H.out.to.trans hb8⟩

end Go.Proofs.Ytelnhhbefdfeoaa
