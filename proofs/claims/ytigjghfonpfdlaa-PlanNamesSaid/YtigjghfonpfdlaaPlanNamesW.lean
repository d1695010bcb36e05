/- The walk of the law PlanNames. -/
import Derived.Test.YtigjghfonpfdlaaPlanN
namespace Go.Proofs.Ytigjghfonpfdlaa
open Go.RowKit
set_option linter.unusedVariables false
set_option linter.unusedSimpArgs false

theorem names_uni (s : Sch) (q : Qr) (x : Row Int) (w : World) (hs : s.rd w) (hq : q.rd w) (hx : x.rd w) (hxc : x.n ≤ x.c) (hn : s.dm.n ≤ 1000000) (hm : s.ms.n ≤ 1000000) (hd : ∀ d ∈ s.dm.l, d.tr.n ≤ 1000000 ∧ ∀ t ∈ d.tr.l, t.up.n ≤ 100000) (hp : ∀ p ∈ q.ps.l, p.set.n ≤ 100000) :
    Calls Try.prog 40 #[.agg s.cs, .agg q.cs, .slice x.A x.n x.c] w fun e w' => ∃ (A : Option Addr) (c : Nat) (ts : List (List UInt8)) (E : Int), e = .returned (.tuple #[.slice A ts.length c, .int .i64 E]) ∧ Bel w w' ∧ w'.ownsRow w.heap.size 9 1 (.slice A ts.length c) ts.length (ts.map tx) ∧ (∀ k, namesOf s.con q.con x.l = .error k → ts = [] ∧ E = k) ∧ (∀ l, namesOf s.con q.con x.l = .ok l → ts = l ∧ E = 0) := by
  refine (names_any s q x w hs hq hx hxc hn hm hd hp).mono ?_
  intro e w' h
  cases ho : namesOf s.con q.con x.l with
  | error k =>
    rw [ho] at h
    obtain ⟨rfl, hb⟩ := h
    exact ⟨none, 0, [], k, rfl, hb, World.ownsRow_nil _ _ _ _, fun k' hk => by injection hk with hk; exact ⟨rfl, hk⟩, fun l hl => by cases hl⟩
  | ok ts =>
    rw [ho] at h
    obtain ⟨A, c, rfl, hb, hown⟩ := h
    exact ⟨A, c, ts, 0, rfl, hb, hown, (fun k hk => by cases hk), fun l hl => by injection hl with hl; exact ⟨hl, rfl⟩⟩
theorem names_len {ds : List DC} : ∀ {ps : List PC} {ks : List Int} {acc l : List (List UInt8)}, namesFrom ds ps ks acc = .ok l → l.length ≤ acc.length + ks.length := by
  induction ds with
  | nil =>
    intro ps ks acc l h
    cases ks with
    | nil => simp only [namesFrom] at h; injection h with h; subst h; omega
    | cons a r => simp [namesFrom] at h
  | cons d ds ih =>
    intro ps ks acc l h
    cases ps with
    | nil =>
      cases ks with
      | nil => simp only [namesFrom] at h; injection h with h; subst h; omega
      | cons a r => simp [namesFrom] at h
    | cons p ps =>
      rw [namesFrom] at h
      split at h
      · split at h
        · cases h
        · split at h
          · cases h
          · split at h
            · cases h
            · split at h
              · cases h
              · have := ih h; simp only [List.length_append, List.length_cons, List.length_nil] at *; omega
      · exact ih h
set_option maxRecDepth 100000 in
set_option maxHeartbeats 8000000 in
theorem walk_planNames (w : World) (d : Sch) (hd : d.rd w) (q : Qr) (hq : q.rd w) (x : Row Int) (hx : x.ok w) :
    Calls Try.prog 10 #[.agg d.cs, .agg q.cs, x.v] w fun e w' => e = .returned (.bool true) ∧ Bel w w' := by
  have hxr := hx.rds
  have hxc := hx.le
  have HF := Lib.hid (fun w' (hb : Bel w w') => schfew_any d w' (hd.mono hb))
  have HF2 := Lib.hid (fun w' (hb : Bel w w') => askfew_any q w' (Row.rd.mono hq hb))
  have HP := Lib.hid (fun (hf : FewS d) (hf2 : FewQ q) w' (hb : Bel w w') => names_uni d q x w' (hd.mono hb) (Row.rd.mono hq hb) (hxr.mono hb) hxc (FewS.hn hf) (FewS.hm hf) (FewS.hd hf) hf2.set)
  have HR := Lib.hid (fun (hf : FewS d) (hf2 : FewQ q) w' (hb : Bel w w') => askwrong_any d q w' (hd.mono hb) (Row.rd.mono hq hb) (FewS.hn hf) (FewS.hm hf) (FewS.hd hf) hf2.set)
  have hl1 : Hid (d.dm.l.length = d.dm.n) := hd.dm.len
  have hl2 : Hid (q.ps.l.length = q.ps.n) := Row.rd.len hq
  have hxl : Hid (x.l.length = x.n) := hxr.len
  have HD := Lib.hid hd.dm
  have HQ := Lib.hid (show q.ps.rd w from hq)
  have HX := Lib.hid hxr
  have x63 := hxr.n63
  have m63 : q.ps.n ≤ 9223372036854775807 := hq.n63
  have H := Lib.hid (((SL.start No w).alloc d.cs 25).alloc q.cs 30)
  (try simp only [List.set_cons_zero, List.set_cons_succ, List.cons_append, List.nil_append, List.eraseIdx_cons_zero, List.eraseIdx_cons_succ, List.setIfInBounds_toArray, World.size_alloc, selR, List.getD_cons_zero, List.getD_cons_succ] at H)
  obtain ⟨dc, hdc⟩ : ∃ dc, dc = d.con := ⟨_, rfl⟩
  obtain ⟨qc, hqc⟩ : ∃ qc, qc = q.con := ⟨_, rfl⟩
  have HDC := Lib.hid hdc
  have HQC := Lib.hid hqc
  rw [← hdc, ← hqc] at HP HR
  have hcs : d.cs = #[.slice d.dm.A d.dm.n d.dm.c, .slice d.ms.A d.ms.n d.ms.c] := rfl
  have HCS := Lib.hid hcs
  have hqs : q.cs = #[.slice q.ps.A q.ps.n q.ps.c] := rfl
  have HQS := Lib.hid hqs
  obtain ⟨XA, xn, xc, keys⟩ := x
  simp only [Row.v] at *
  clear hcs hqs hd hq hx hxr hdc hqc
  go_enter Try.func10, Try.ntmps10
  (try rw [← HCS.out] at *)
  (try rw [← HQS.out] at *)
  go_wp2_with ((with_reducible show wpList _ _ _ (⟨some 14, _, _, _, _, _⟩ :: _) _ _); (refine wpList_load_blk rfl rowSch (.tmp 3) rfl _ rfl (H.out.blk 0 rfl) rfl ?_))
  refine (HF.out _ H.out.to).mono ?_; rintro e w1 ⟨b, rfl, hfew, hb1⟩
  replace H := Lib.hid (H.out.bel hb1); (try simp only [List.set_cons_zero, List.set_cons_succ, List.cons_append, List.nil_append, List.eraseIdx_cons_zero, List.eraseIdx_cons_succ, List.setIfInBounds_toArray, World.size_alloc, selR, List.getD_cons_zero, List.getD_cons_succ] at H)
  clear hb1
  clear HF
  cases b with
  | false =>
    clear hfew
    go_wp2_with fail
    refine (awake36_any _).mono ?_; rintro e w8 ⟨rfl, hb8⟩
    go_wp2
    go_ret
    exact ⟨rfl, H.out.to.trans hb8⟩
  | true =>
    have hf := hfew rfl
    clear hfew
    go_wp2_with ((with_reducible show wpList _ _ _ (⟨some 18, _, _, _, _, _⟩ :: _) _ _); refine wpList_load_blkG (by first | rfl | go_simp) rowQry (.tmp 4) (by rfl) _ (by rfl) (H.out.blk 1 rfl) rfl ?_)
    refine (HF2.out _ H.out.to).mono ?_; rintro e w1b ⟨b2, rfl, hfew2, hb1b⟩
    replace H := Lib.hid (H.out.bel hb1b); (try simp only [List.set_cons_zero, List.set_cons_succ, List.cons_append, List.nil_append, List.eraseIdx_cons_zero, List.eraseIdx_cons_succ, List.setIfInBounds_toArray, World.size_alloc, selR, List.getD_cons_zero, List.getD_cons_succ] at H)
    clear hb1b HF2
    cases b2 with
    | false =>
      clear hfew2
      go_wp2_with fail
      refine (awake36_any _).mono ?_; rintro e w8 ⟨rfl, hb8⟩
      go_wp2
      go_ret
      exact ⟨rfl, H.out.to.trans hb8⟩
    | true =>
      have hf2 := hfew2 rfl
      clear hfew2
      by_cases h30 : xn ≤ 30
      · have d1 : decide ((30 : Int) < xn) = false := by simp <;> omega
        have d2 : decide (30 < xn) = false := by simp <;> omega
        go_wp2_with (first | ((with_reducible show wpList _ _ _ (⟨some 29, _, _, _, _, _⟩ :: _) _ _); (refine wpList_load_blk rfl rowSch (.tmp 3) rfl _ rfl (H.out.blk 0 rfl) rfl ?_)) | ((with_reducible show wpList _ _ _ (⟨some 30, _, _, _, _, _⟩ :: _) _ _); (refine wpList_load_blk rfl rowQry (.tmp 4) rfl _ rfl (H.out.blk 1 rfl) rfl ?_)))
        refine (HP.out hf hf2 _ H.out.to).mono ?_; rintro e w2 ⟨VA, vc, vts, E8, rfl, hb2, hown, hv, hw⟩
        replace H := Lib.hid (H.out.addRow hb2 hown); (try simp only [List.set_cons_zero, List.set_cons_succ, List.cons_append, List.nil_append, List.eraseIdx_cons_zero, List.eraseIdx_cons_succ, List.setIfInBounds_toArray, World.size_alloc, selR, List.getD_cons_zero, List.getD_cons_succ] at H)
        have HV := Lib.hid hv
        have HW := Lib.hid hw
        clear hb2 hown hv hw HP d1 d2
        go_wp2_with (first | ((with_reducible show wpList _ _ _ (⟨some 35, _, _, _, _, _⟩ :: _) _ _); (refine wpList_load_blk rfl rowSch (.tmp 3) rfl _ rfl (H.out.blk 0 rfl) rfl ?_)) | ((with_reducible show wpList _ _ _ (⟨some 36, _, _, _, _, _⟩ :: _) _ _); (refine wpList_load_blk rfl rowQry (.tmp 4) rfl _ rfl (H.out.blk 1 rfl) rfl ?_)))
        refine (HR.out hf hf2 _ H.out.to).mono ?_; rintro e w3 ⟨rfl, hb3⟩
        replace H := Lib.hid (H.out.bel hb3); (try simp only [List.set_cons_zero, List.set_cons_succ, List.cons_append, List.nil_append, List.eraseIdx_cons_zero, List.eraseIdx_cons_succ, List.setIfInBounds_toArray, World.size_alloc, selR, List.getD_cons_zero, List.getD_cons_succ] at H)
        clear hb3
        clear HR hf hf2
        replace H := Lib.hid (H.out.addNil 9 1); (try simp only [List.set_cons_zero, List.set_cons_succ, List.cons_append, List.nil_append, List.eraseIdx_cons_zero, List.eraseIdx_cons_succ, List.setIfInBounds_toArray, World.size_alloc, selR, List.getD_cons_zero, List.getD_cons_succ] at H)
        by_cases hE : askErr dc qc = 0
        · have HE := Lib.hid hE
          obtain ⟨e1, e2, e3⟩ := askErr_zero hE
          have e4 := (schErr_zero e1).2.1
          have HPO := Lib.hid (fun k d p h1 h2 => pickErr_zero (picksErr_ok e3 e2 k d p h1 h2))
          have hN0 : namesOf dc qc keys = namesFrom dc.dims qc keys [] := by unfold namesOf; rw [if_neg (by omega)]
          have hdd : dc.dims = d.dm.l.map Dm.con := by rw [HDC.out]
          have hqq : qc = q.ps.l.map Pk.con := HQC.out
          have hvl : vts.length ≤ 30 := by
            cases ho : namesOf dc qc keys with
            | error k => rw [(HV.out _ ho).1]; exact Nat.zero_le _
            | ok l =>
              rw [(HW.out _ ho).1]
              rw [hN0] at ho
              have := names_len ho
              have := hxl.out
              simp only [List.length_nil] at *
              omega
          rw [hdd, hqq] at e2 hN0
          rw [hdd] at e4 HPO
          rw [hqq] at HPO
          rw [hE]
          obtain ⟨⟨DA, dn, dcp, ds⟩, ⟨MA, mn, mc, ms⟩⟩ := d
          obtain ⟨⟨A, n, c, ps⟩⟩ := q
          simp only [Sch.cs, Qr.cs] at *
          have hdn : dn = n := by have := hl1.out; have := hl2.out; simp only [List.length_map] at e2 e4; omega
          have hn16 : n ≤ 16 := by have := hl2.out; simp only [List.length_map] at e2 e4; omega
          have HN0 : Hid (namesOf dc qc keys = namesFrom ((ds.map Dm.con).drop 0) ((ps.map Pk.con).drop 0) (keys.drop 0) []) := by show _ = _; rw [← hqq] at hN0 ⊢; exact hN0
          subst hdn
          clear hE e1 e2 e3 e4 hN0 hdd hqq HDC HQC HCS HQS
          go_upto_region 8 with fail
          generalize w.heap.size + 1 = y at *
          generalize w.heap.size = x at *
          have k0 : Hid (((0 : Nat) : Int) = 0) := rfl
          go_loopg [9, 10, 11, 12] dn (fun gg s9 s10 s11 i wr => ∃ (k : Nat) (acc : List (List UInt8)) (B : Option Addr) (cB jj : Nat), gg = dn - k ∧ k ≤ dn ∧ s9 = .int .i64 0 ∧ i = .int .i64 k ∧ s11 = .int .i64 jj ∧ s10 = .slice B jj cB ∧ Hid (acc.length = jj) ∧ Hid (SL No w wr [rBlk x 25 #[.slice DA dn dcp, .slice MA mn mc], rBlk y 30 #[.slice A dn c], rRow 9 1 (.slice VA vts.length vc) vts.length (vts.map tx), rRow 9 1 (.slice B jj cB) jj (acc.map tx)]) ∧ Hid (namesOf dc qc keys = namesFrom ((ds.map Dm.con).drop k) ((ps.map Pk.con).drop k) (keys.drop jj) acc) ∧ jj ≤ k ∧ jj ≤ xn)
          case atStart => exact ⟨0, [], none, 0, 0, rfl, by omega, rfl, rfl, rfl, rfl, rfl, H, HN0, Nat.le_refl _, Nat.zero_le _⟩
          case round =>
            clear H HN0 k0
            obtain ⟨k, acc, B, cB, jj, hgk, hk, rfl, rfl, rfl, rfl, hac, H, HN, hjk, hjx⟩ := hrel
            have Hgk := Lib.hid hgk
            clear hgk
            have cy0 := (H.out.blk 1 rfl).cell 0; simp only [List.getElem?_toArray, List.getElem?_cons_zero, List.getElem?_cons_succ] at cy0
            by_cases hlt : k < dn
            · obtain ⟨b1, o1, D, hA, hb1, hDk, hDr, hrg1⟩ := (HD.out.mono H.out.to).dmAt (k := k) hlt
              simp only at hA
              subst hA
              obtain ⟨b2, o2, p, hB, hb2, hpk, hpr, hrg2⟩ := (HQ.out.mono H.out.to).pkAt (k := k) hlt
              simp only at hB
              subst hB
              have hDc : (ds.map Dm.con)[k]? = some D.con := by rw [List.getElem?_map, hDk]; rfl
              have hpc : (ps.map Pk.con)[k]? = some p.con := by rw [List.getElem?_map, hpk]; rfl
              have HPk := Lib.hid (HPO.out k D.con p.con hDc hpc)
              have HDC := Lib.hid hDc
              have HPC := Lib.hid hpc
              have HDl : Hid (D.tr.l.length = D.tr.n) := hDr.tr.len
              have HDr := Lib.hid hDr.tr
              have i0 : (0 : Int) ≤ k := by omega
              have i1 : (k : Int) < dn := by omega
              have D63 := hDr.tr.n63
              have q1 := hrg1 1 _ rfl
              have p5 := hrg2 5 _ rfl
              have p6 := hrg2 6 _ rfl
              clear hDk hpk hrg1 hrg2 hDr hpr hb1 hb2 hDc hpc
              obtain ⟨pf, pt, lo, hi, ⟨A3, n3, c3, set⟩, g, pb⟩ := p
              simp only [Pk.con] at *
              cases g with
              | false =>
                have HN2 : Hid (namesOf dc qc keys = namesFrom ((ds.map Dm.con).drop (k + 1)) ((ps.map Pk.con).drop (k + 1)) (keys.drop jj) acc) := by show _ = _; rw [HN.out, namesFrom_skip HDC.out HPC.out rfl]
                clear HN HPk HDC HPC q1 p6
                go_wp2_with fail
                clear p5 cy0
                go_roundg (dn - (k + 1))
                case rel => exact ⟨k + 1, acc, B, cB, jj, rfl, by omega, rfl, by go_num, rfl, rfl, hac, H, HN2, by omega, hjx⟩
                case measure => rw [Hgk.out]; omega
              | true =>
                obtain ⟨pb, rfl⟩ : ∃ b : Nat, pb = b := ⟨pb.toNat, by have hPb := HPk.out.b; simp only at hPb; rcases hPb with h | h; omega; cases h.1⟩
                have hbn : pb < D.tr.n := by
                  have := HDl.out
                  rcases HPk.out.b with h | h
                  · have h2 := h.2.2; simp only [List.length_map] at h2; omega
                  · cases h.1
                obtain ⟨b4, o4, Tr, hA4, hbb4, hTk, hTr, hrg4⟩ := HDr.out.tirAt (k := pb) hbn
                rw [hA4] at q1
                have q2 := hrg4 1 _ rfl
                have htrc : D.con.trs[(pb : Int).toNat]? = some Tr.con := by rw [Int.toNat_natCast]; show (D.tr.l.map Tir.con)[pb]? = _; rw [List.getElem?_map, hTk]; rfl
                have HN1 := Lib.hid (HN.out.trans (namesFrom_take HDC.out HPC.out rfl htrc))
                have HTr := Lib.hid hTr.ts
                have htl : Hid (Tr.ts.l.length = Tr.ts.n) := hTr.ts.len
                have T63 := hTr.ts.n63
                have j0 : (0 : Int) ≤ pb := by omega
                have j1 : (pb : Int) < D.tr.n := by omega
                have cs0 := (H.out.blk 0 rfl).cell 0; simp only [List.getElem?_toArray, List.getElem?_cons_zero, List.getElem?_cons_succ] at cs0
                clear hTk hTr hrg4 htrc HN HPk HDC HPC HDr hbb4 hA4
                go_upto_region 11 with fail
                have f_cy0 := fun u : Over wr => Over.cell cy0 u
                have f_cs0 := fun u : Over wr => Over.cell cs0 u
                have f_p6 := fun u : Over wr => Over.cell p6 u
                have f_p5 := fun u : Over wr => Over.cell p5 u
                have f_q1 := fun u : Over wr => Over.cell q1 u
                have f_q2 := fun u : Over wr => Over.cell q2 u
                refine wp_region_over (by kernel_rfl) (by kernel_rfl) ?_
                (try simp only [Act.put, List.setIfInBounds_toArray, List.set_cons_zero, List.set_cons_succ])
                repeat (go_big_quiet_step (fail))
                refine wpQuiet_nil ?_
                rintro w5 ⟨⟨_, hw5⟩, rfl⟩
                (try dsimp only)
                replace H := Lib.hid (H.out.bel hw5); (try simp only [List.set_cons_zero, List.set_cons_succ, List.cons_append, List.nil_append, List.eraseIdx_cons_zero, List.eraseIdx_cons_succ, List.setIfInBounds_toArray, World.size_alloc, selR, List.getD_cons_zero, List.getD_cons_succ] at H)
                clear f_cy0 f_cs0 f_p6 f_p5 f_q1 f_q2 cy0 cs0 p6 p5 q1 q2
                replace HTr := Lib.hid (HTr.out.mono hw5)
                clear hw5
                by_cases hk0 : xn ≤ jj
                · have hnil : keys.drop jj = [] := List.drop_of_length_le (by rw [hxl.out]; exact hk0)
                  have z1 : decide ((xn : Int) ≤ jj) = true := by simp <;> omega
                  have z2 : decide (xn ≤ jj) = true := by simp <;> omega
                  have HN2 : Hid (namesOf dc qc keys = .error 13) := by show _ = _; rw [HN1.out, hnil]
                  obtain ⟨hv1, rfl⟩ := HV.out _ HN2.out
                  subst hv1
                  clear HN2 HV HW
                  go_wp2_with fail
                  refine (texts_any VA 0 vc [] none 0 0 [] _ (Rd.of_own (H.out.row 2 rfl)) Rd.nil (by omega) (by omega)).mono ?_; rintro e w7 ⟨rfl, hb7⟩
                  replace H := Lib.hid (H.out.bel hb7); (try simp only [List.set_cons_zero, List.set_cons_succ, List.cons_append, List.nil_append, List.eraseIdx_cons_zero, List.eraseIdx_cons_succ, List.setIfInBounds_toArray, World.size_alloc, selR, List.getD_cons_zero, List.getD_cons_succ] at H)
                  clear hb7
                  rw [show (([] : List (List UInt8)) == []) = true from rfl]
                  go_wp2_with fail
                  refine (awake36_any _).mono ?_; rintro e w8 ⟨rfl, hb8⟩
                  go_wp2
                  go_ret
                  exact ⟨rfl, H.out.to.trans hb8⟩
                · have z1 : decide ((xn : Int) ≤ jj) = false := by simp <;> omega
                  have z2 : decide (xn ≤ jj) = false := by simp <;> omega
                  obtain ⟨b6, o6, kz, hA6, hkz, hkI, q6⟩ := (HX.out.mono H.out.to).intAt (k := jj) (by show jj < xn; omega)
                  simp only at hA6 hkz
                  subst hA6
                  have z3 : (0 : Int) ≤ jj := by omega
                  have z4 : (jj : Int) < xn := by omega
                  have hkd : keys.drop jj = kz :: keys.drop (jj + 1) := drop_split hkz
                  rw [hkd] at HN1
                  by_cases hz0 : kz < 0
                  · have d1 : decide (kz < 0) = true := by simpa using hz0
                    have HN2 : Hid (namesOf dc qc keys = .error 13) := by show _ = _; rw [HN1.out]; simp only; rw [if_pos hz0]
                    obtain ⟨hv1, rfl⟩ := HV.out _ HN2.out
                    subst hv1
                    clear HN2 HV HW
                    go_wp2_with fail
                    refine (texts_any VA 0 vc [] none 0 0 [] _ (Rd.of_own (H.out.row 2 rfl)) Rd.nil (by omega) (by omega)).mono ?_; rintro e w7 ⟨rfl, hb7⟩
                    replace H := Lib.hid (H.out.bel hb7); (try simp only [List.set_cons_zero, List.set_cons_succ, List.cons_append, List.nil_append, List.eraseIdx_cons_zero, List.eraseIdx_cons_succ, List.setIfInBounds_toArray, World.size_alloc, selR, List.getD_cons_zero, List.getD_cons_succ] at H)
                    clear hb7
                    rw [show (([] : List (List UInt8)) == []) = true from rfl]
                    go_wp2_with fail
                    refine (awake36_any _).mono ?_; rintro e w8 ⟨rfl, hb8⟩
                    go_wp2
                    go_ret
                    exact ⟨rfl, H.out.to.trans hb8⟩
                  · have d1 : decide (kz < 0) = false := by simpa using hz0
                    obtain ⟨kv, rfl⟩ : ∃ b : Nat, kz = b := ⟨kz.toNat, by omega⟩
                    by_cases hzn : kv < Tr.ts.n
                    · have d2 : decide ((Tr.ts.n : Int) ≤ kv) = false := by simp <;> omega
                      have d3 : decide (Tr.ts.n ≤ kv) = false := by simp <;> omega
                      obtain ⟨b7, o7, nm, hA7, hnk, hnl, q7⟩ := HTr.out.textAt (k := kv) hzn
                      have HN : Hid (namesOf dc qc keys = namesFrom ((ds.map Dm.con).drop (k + 1)) ((ps.map Pk.con).drop (k + 1)) (keys.drop (jj + 1)) (acc ++ [nm])) := by
                        show _ = _; rw [HN1.out]; simp only; rw [if_neg hz0, Int.toNat_natCast, show (Tr.con).ts[kv]? = some nm from hnk]
                      have i2 : (0 : Int) ≤ kv := by omega
                      have i3 : (kv : Int) < Tr.ts.n := by omega
                      rw [hA7]
                      clear hnk HN1 hkd hkz hA7
                      go_wp2_with ((with_reducible show wpList _ _ _ (⟨some 100, _, _, _, _, _⟩ :: _) _ _); (replace H := Lib.hid (H.out.alloc #[.string ⟨nm.toArray⟩] 9); (try simp only [List.set_cons_zero, List.set_cons_succ, List.cons_append, List.nil_append, List.eraseIdx_cons_zero, List.eraseIdx_cons_succ, List.setIfInBounds_toArray, World.size_alloc, selR, List.getD_cons_zero, List.getD_cons_succ] at H); refine wpList_append0 rfl (.tmp 91) (.tmp 99) _ rfl E_text 0 (Nat.zero_le _) _ jj _ rfl (H.out.row 3 rfl) _ 1 1 [.string ⟨nm.toArray⟩] rfl (reads_of_block (H.out.blk 4 rfl) rfl) (by simp [Value.oneCell']) (by unfold maxLen; omega) (by omega) ?_; intro vq wq howq hgq hatq; replace H := Lib.hid (H.out.setRow 3 rfl hgq howq hatq); (try simp only [List.set_cons_zero, List.set_cons_succ, List.cons_append, List.nil_append, List.eraseIdx_cons_zero, List.eraseIdx_cons_succ, List.setIfInBounds_toArray, World.size_alloc, selR, List.getD_cons_zero, List.getD_cons_succ] at H); clear howq hgq hatq; obtain ⟨B9, c9, rfl, _⟩ := own_slice (H.out.row 3 rfl)))
                      replace H := Lib.hid (H.out.sel [0, 1, 2, 3] (by decide) (by simp)); (try simp only [List.set_cons_zero, List.set_cons_succ, List.cons_append, List.nil_append, List.eraseIdx_cons_zero, List.eraseIdx_cons_succ, List.setIfInBounds_toArray, World.size_alloc, selR, List.getD_cons_zero, List.getD_cons_succ] at H)
                      clear q6 q7
                      go_roundg (dn - (k + 1))
                      case rel => exact ⟨k + 1, acc ++ [nm], B9, c9, jj + 1, rfl, by omega, rfl, by go_num, by go_num, rfl, by show _ = _; rw [List.length_append, hac.out]; rfl, by rw [List.map_append]; exact H, HN, by omega, by omega⟩
                      case measure => rw [Hgk.out]; omega
                    · have d2 : decide ((Tr.ts.n : Int) ≤ kv) = true := by simp <;> omega
                      have d3 : decide (Tr.ts.n ≤ kv) = true := by simp <;> omega
                      have HN2 : Hid (namesOf dc qc keys = .error 13) := by show _ = _; rw [HN1.out]; simp only; rw [if_neg hz0, Int.toNat_natCast, show (Tr.con).ts[kv]? = none from List.getElem?_eq_none (by rw [htl.out]; omega)]
                      obtain ⟨hv1, rfl⟩ := HV.out _ HN2.out
                      subst hv1
                      clear HN2 HV HW
                      go_wp2_with fail
                      refine (texts_any VA 0 vc [] none 0 0 [] _ (Rd.of_own (H.out.row 2 rfl)) Rd.nil (by omega) (by omega)).mono ?_; rintro e w7 ⟨rfl, hb7⟩
                      replace H := Lib.hid (H.out.bel hb7); (try simp only [List.set_cons_zero, List.set_cons_succ, List.cons_append, List.nil_append, List.eraseIdx_cons_zero, List.eraseIdx_cons_succ, List.setIfInBounds_toArray, World.size_alloc, selR, List.getD_cons_zero, List.getD_cons_succ] at H)
                      clear hb7
                      rw [show (([] : List (List UInt8)) == []) = true from rfl]
                      go_wp2_with fail
                      refine (awake36_any _).mono ?_; rintro e w8 ⟨rfl, hb8⟩
                      go_wp2
                      go_ret
                      exact ⟨rfl, H.out.to.trans hb8⟩
            · have HN1 : Hid (namesOf dc qc keys = (match keys.drop jj with | [] => .ok acc | _ :: _ => .error 2)) := by
                show _ = _
                rw [HN.out, List.drop_of_length_le (by have := hl1.out; simp; omega), List.drop_of_length_le (by have := hl2.out; simp; omega), namesFrom_end]
                rfl
              have y1 : decide ((k : Int) < dn) = false := by simp <;> omega
              have y2 : decide (k < dn) = false := by simp <;> omega
              by_cases hk0 : jj < xn
              · have z3 : decide ((jj : Int) < xn) = true := by simp <;> omega
                have z4 : decide (jj < xn) = true := by simp <;> omega
                have hnn : namesOf dc qc keys = .error 2 := by
                  rw [HN1.out]
                  cases hd : keys.drop jj with
                  | nil => exfalso; have h := congrArg List.length hd; rw [List.length_drop, hxl.out] at h; simp only [List.length_nil] at h; omega
                  | cons a r => rfl
                have HN2 : Hid (namesOf dc qc keys = .error 2) := by show _ = _; exact hnn
                obtain ⟨hv1, rfl⟩ := HV.out _ HN2.out
                subst hv1
                clear HN2 HV HW
                go_wp2_with fail
                refine (texts_any VA 0 vc [] none 0 0 [] _ (Rd.of_own (H.out.row 2 rfl)) Rd.nil (by omega) (by omega)).mono ?_; rintro e w7 ⟨rfl, hb7⟩
                replace H := Lib.hid (H.out.bel hb7); (try simp only [List.set_cons_zero, List.set_cons_succ, List.cons_append, List.nil_append, List.eraseIdx_cons_zero, List.eraseIdx_cons_succ, List.setIfInBounds_toArray, World.size_alloc, selR, List.getD_cons_zero, List.getD_cons_succ] at H)
                clear hb7
                rw [show (([] : List (List UInt8)) == []) = true from rfl]
                go_wp2_with fail
                refine (awake36_any _).mono ?_; rintro e w8 ⟨rfl, hb8⟩
                go_wp2
                go_ret
                exact ⟨rfl, H.out.to.trans hb8⟩
              · have z3 : decide ((jj : Int) < xn) = false := by simp <;> omega
                have z4 : decide (jj < xn) = false := by simp <;> omega
                have hnil : keys.drop jj = [] := List.drop_of_length_le (by rw [hxl.out]; omega)
                have HN2 : Hid (namesOf dc qc keys = .ok acc) := by show _ = _; rw [HN1.out, hnil]
                obtain ⟨hv1, rfl⟩ := HW.out _ HN2.out
                subst hv1
                clear HN HN1 HN2 HV HW hnil
                go_wp2_with fail
                refine (texts_any VA vts.length vc vts B jj cB vts _ (Rd.of_own (H.out.row 2 rfl)) (Rd.of_own (H.out.row 3 rfl)) (by omega) (by omega)).mono ?_; rintro e w7 ⟨rfl, hb7⟩
                replace H := Lib.hid (H.out.bel hb7); (try simp only [List.set_cons_zero, List.set_cons_succ, List.cons_append, List.nil_append, List.eraseIdx_cons_zero, List.eraseIdx_cons_succ, List.setIfInBounds_toArray, World.size_alloc, selR, List.getD_cons_zero, List.getD_cons_succ] at H)
                clear hb7
                rw [show (vts == vts) = true by simp]
                go_wp2_with fail
                refine (awake36_any _).mono ?_; rintro e w8 ⟨rfl, hb8⟩
                go_wp2
                go_ret
                exact ⟨rfl, H.out.to.trans hb8⟩
        · have z1 : (askErr dc qc != 0) = true := by simpa using hE
          have z2 : (askErr dc qc == 0) = false := by simpa using hE
          have z3 : (askErr dc qc == askErr dc qc) = true := by simp
          have hnn : namesOf dc qc keys = .error (askErr dc qc) := by unfold namesOf; rw [if_pos hE]
          have HNN := Lib.hid hnn
          clear hE hnn
          go_upto_region 8 with fail
          generalize w.heap.size + 1 = y at *
          generalize w.heap.size = x at *
          go_loopg [9, 10, 11, 12] 1 (fun gg s9 s10 s11 i wr => s9 = .int .i64 (askErr dc qc) ∧ s10 = .slice none 0 0 ∧ s11 = .int .i64 0 ∧ i = .int .i64 0 ∧ Hid (SL No w wr [rBlk x 25 d.cs, rBlk y 30 q.cs, rRow 9 1 (.slice VA vts.length vc) vts.length (vts.map tx), rRow 9 1 (.slice none 0 0) 0 []]))
          case atStart => exact ⟨rfl, rfl, rfl, rfl, H⟩
          case round =>
            clear H
            obtain ⟨rfl, rfl, rfl, rfl, H⟩ := hrel
            have HN2 : Hid (namesOf dc qc keys = .error (askErr dc qc)) := by show _ = _; exact HNN.out
            obtain ⟨hv1, rfl⟩ := HV.out _ HN2.out
            subst hv1
            clear HN2 HV HW
            go_wp2_with fail
            refine (texts_any VA 0 vc [] none 0 0 [] _ (Rd.of_own (H.out.row 2 rfl)) Rd.nil (by omega) (by omega)).mono ?_; rintro e w7 ⟨rfl, hb7⟩
            replace H := Lib.hid (H.out.bel hb7); (try simp only [List.set_cons_zero, List.set_cons_succ, List.cons_append, List.nil_append, List.eraseIdx_cons_zero, List.eraseIdx_cons_succ, List.setIfInBounds_toArray, World.size_alloc, selR, List.getD_cons_zero, List.getD_cons_succ] at H)
            clear hb7
            rw [show (([] : List (List UInt8)) == []) = true from rfl]
            go_wp2_with fail
            refine (awake36_any _).mono ?_; rintro e w8 ⟨rfl, hb8⟩
            go_wp2
            go_ret
            exact ⟨rfl, H.out.to.trans hb8⟩
      · have d1 : decide ((30 : Int) < xn) = true := by simp <;> omega
        have d2 : decide (30 < xn) = true := by simp <;> omega
        go_wp2_with fail
        refine (awake36_any _).mono ?_; rintro e w8 ⟨rfl, hb8⟩
        go_wp2
        go_ret
        exact ⟨rfl, H.out.to.trans hb8⟩

end Go.Proofs.Ytigjghfonpfdlaa
