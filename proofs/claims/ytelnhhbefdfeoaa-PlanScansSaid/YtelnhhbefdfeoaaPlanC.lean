/- plan.Check, and the law's wrong. -/
import Derived.Test.YtelnhhbefdfeoaaPlanB
import Derived.Test.YtelnhhbefdfeoaaShp
namespace Go.Proofs.Ytelnhhbefdfeoaa
open Go.RowKit
set_option linter.unusedVariables false
set_option linter.unusedSimpArgs false

theorem Row.rd.scnAt {w : World} {x : Row Scn} (h : x.rd w) {k : Nat} (hk : k < x.n) : ∃ b o t, x.A = some ⟨b, o, none⟩ ∧ b < w.heap.size ∧ x.l[k]? = some t ∧ t.rd w ∧ w.rangeAt b (o + k * 3) t.cs.toList := by
  obtain ⟨b, o, t, e, hb, ht, hc⟩ := rd_range h.r hk
  exact ⟨b, o, t, e, hb, ht, h.all t (List.mem_of_getElem? ht), hc⟩
def keyAt (sz : Int) (tk io : List Int) (j : Nat) : Int :=
  match tk[j]? with
  | none => 0
  | some k => if k < 0 ∨ sz ≤ k then 13 else if 0 < j ∧ k ≤ (tk[j - 1]?).getD 0 then 4 else if io ≠ [] ∧ (io[j]?).getD 0 < 0 then 2 else 0
def scanErr (sz : List Int) (c : SnC) : Int :=
  if c.t < 0 then (if c.t ≠ -1 ∨ 0 < c.tk.length ∨ 0 < c.io.length then 2 else 0) else
  match sz[c.t.toNat]? with
  | none => 2
  | some n => if 0 < c.io.length ∧ c.io.length ≠ c.tk.length then 2 else firstErr (keyAt n c.tk c.io) c.tk.length 0
def scanAt (xs : List (List Int)) (l : List SnC) (i : Nat) : Int := match l[i]?, xs[i]? with | some c, some sz => scanErr sz c | _, _ => 0
def planErr (xs : List (List Int)) (l : List SnC) : Int := if l.length ≠ xs.length then 2 else firstErr (scanAt xs l) l.length 0
set_option maxRecDepth 100000 in
set_option maxHeartbeats 4000000 in
theorem plancheck_any (s : Shp) (x : Row Scn) (w : World) (hs : s.rd w) (hx : x.rd w) :
    Calls Try.prog 28 #[.agg s.cs, .slice x.A x.n x.c] w fun e w' => e = .returned (.int .i64 (planErr s.con (x.l.map Scn.con))) ∧ Bel w w' := by
  have hl1 : Hid (s.sz.l.length = s.sz.n) := hs.sz.len
  have hl2 : Hid (x.l.length = x.n) := hx.len
  have HSZ := Lib.hid hs.sz
  have HX := Lib.hid hx
  have n63 := hs.sz.n63
  have m63 := hx.n63
  have H := Lib.hid ((SL.start No w).alloc s.cs 71)
  (try simp only [List.set_cons_zero, List.set_cons_succ, List.cons_append, List.nil_append, List.eraseIdx_cons_zero, List.eraseIdx_cons_succ, List.setIfInBounds_toArray, World.size_alloc, selR, List.getD_cons_zero, List.getD_cons_succ] at H)
  obtain ⟨⟨SA, sn, sc, X⟩, ms⟩ := s
  obtain ⟨A, n, c, cs⟩ := x
  simp only [Shp.cs, Shp.con] at *
  clear hs hx
  go_enter Try.func28, Try.ntmps28
  have cs0 := (H.out.blk 0 rfl).cell 0; simp only [List.getElem?_toArray, List.getElem?_cons_zero, List.getElem?_cons_succ] at cs0
  by_cases hl : n = sn
  · subst hl
    have HB : Hid (planErr (X.map Row.l) (cs.map Scn.con) = firstErr (scanAt (X.map Row.l) (cs.map Scn.con)) (n - 0) 0) := by
      show _ = _; unfold planErr; rw [if_neg (by have := hl1.out; have := hl2.out; simp only [List.length_map]; omega)]
      rw [List.length_map, hl2.out]; rfl
    go_wp2_with fail
    clear cs0
    generalize w.heap.size = x at *
    generalize World.alloc _ _ = w0 at *
    go_loopg [17] n (fun gg i wr => ∃ (k : Nat), gg = n - k ∧ k ≤ n ∧ i = .int .i64 k ∧ Hid (SL No w wr [rBlk x 71 #[.slice SA n sc, .int .i64 ms]]) ∧ Hid (planErr (X.map Row.l) (cs.map Scn.con) = firstErr (scanAt (X.map Row.l) (cs.map Scn.con)) (n - k) k))
    case atStart => exact ⟨0, rfl, by omega, rfl, H, HB⟩
    case round =>
      clear H HB
      obtain ⟨k, hgk, hk, rfl, H, HB⟩ := hrel
      obtain ⟨W0, hW0⟩ : ∃ W0, W0 = wr := ⟨_, rfl⟩
      subst hW0
      have Hgk := Lib.hid hgk
      clear hgk
      by_cases hlt : k < n
      · obtain ⟨b1, o1, y, hA, hyk, hyr, q1⟩ := (HSZ.out.mono H.out.to).slAt (k := k) hlt
        simp only at hA
        subst hA
        obtain ⟨b2, o2, p, hB, hb2, hpk, hpr, hrg2⟩ := (HX.out.mono H.out.to).scnAt (k := k) hlt
        simp only at hB
        subst hB
        have hyc : (X.map Row.l)[k]? = some y.l := by rw [List.getElem?_map, hyk]; rfl
        have hpc : (cs.map Scn.con)[k]? = some p.con := by rw [List.getElem?_map, hpk]; rfl
        have HST : Hid (scanAt (X.map Row.l) (cs.map Scn.con) k = scanErr y.l p.con) := by show _ = _; unfold scanAt; rw [hyc, hpc]
        have HP0 : Hid (planErr (X.map Row.l) (cs.map Scn.con) = if scanErr y.l p.con ≠ 0 then scanErr y.l p.con else firstErr (scanAt (X.map Row.l) (cs.map Scn.con)) (n - (k + 1)) (k + 1)) := by
          show _ = _; rw [HB.out, show n - k = (n - (k + 1)) + 1 by omega, firstErr, HST.out]
        have HY := Lib.hid (fun w' (hb : Bel W0 w') => hyr.rds.mono hb)
        have yl : Hid (y.l.length = y.n) := hyr.rds.len
        have y63 := hyr.rds.n63
        have HTk := Lib.hid (fun w' (hb : Bel W0 w') => hpr.tk.mono hb)
        have HIo := Lib.hid (fun w' (hb : Bel W0 w') => hpr.io.mono hb)
        have tkl : Hid (p.tk.l.length = p.tk.n) := hpr.tk.len
        have iol : Hid (p.io.l.length = p.io.n) := hpr.io.len
        have tb := hpr.tb
        have ib := hpr.ib
        have hct := hpr.t
        have HR2 := Lib.hid hrg2
        have HC1 := Lib.hid (fun w' (hb : Bel W0 w') => (hb.cell (World.block_lt_of_cell? _ _ q1)).trans q1)
        have i0 : (0 : Int) ≤ k := by omega
        have i1 : (k : Int) < n := by omega
        clear hyk hpk hrg2 hpr hb2 hyc hpc hyr q1 HB HST
        obtain ⟨ct, ⟨TA, tn, tc, tks⟩, ⟨IA, inn, ic, ios⟩⟩ := p
        obtain ⟨YA, yn, yc, szs⟩ := y
        simp only [Scn.cs, Scn.con] at *
        go_upto_region 6 with (first | ((with_reducible show wpList _ _ _ (⟨some 21, _, _, _, _, _⟩ :: _) _ _); (refine wpList_load_row_at rfl rowScan (.tmp 20) rfl b2 (o2 + k * 3) rfl #[.int .i64 ct, .slice TA tn tc, .slice IA inn ic] rfl HR2.out ?_)) | ((with_reducible show wpList _ _ _ (⟨_, .store _ (.tmp 6) _, _, _, _, _⟩ :: _) _ _); (refine wpList_store_new rfl rowScan (.tmp 6) (.tmp 21) rfl rfl rfl (#[.int .i64 ct, .slice TA tn tc, .slice IA inn ic]) rfl rfl (by simp [Value.oneCell']) ?_; replace H := Lib.hid (H.out.alloc (#[.int .i64 ct, .slice TA tn tc, .slice IA inn ic]) 62); (try simp only [List.set_cons_zero, List.set_cons_succ, List.cons_append, List.nil_append, List.eraseIdx_cons_zero, List.eraseIdx_cons_succ, List.setIfInBounds_toArray, World.size_alloc, selR, List.getD_cons_zero, List.getD_cons_succ] at H))))
        (try simp only [Act.put, List.setIfInBounds_toArray, List.set_cons_zero, List.set_cons_succ])
        have HB := Lib.hid ((Bel.refl W0).alloc (.cells #[.int .i64 ct, .slice TA tn tc, .slice IA inn ic] 62))
        clear HR2
        generalize W0.heap.size = z at *
        generalize World.alloc W0 _ = w5 at *
        have cc0 := (H.out.blk 1 rfl).cell 0; simp only [List.getElem?_toArray, List.getElem?_cons_zero, List.getElem?_cons_succ] at cc0
        have cc1 := (H.out.blk 1 rfl).cell 1; simp only [List.getElem?_toArray, List.getElem?_cons_zero, List.getElem?_cons_succ] at cc1
        have cc2 := (H.out.blk 1 rfl).cell 2; simp only [List.getElem?_toArray, List.getElem?_cons_zero, List.getElem?_cons_succ] at cc2
        by_cases ht0 : ct < 0
        · have d0 : decide (ct < 0) = true := by simpa using ht0
          by_cases htm : ct = -1
          · subst htm
            by_cases htk : tn = 0
            · subst htk
              by_cases hio : inn = 0
              · subst hio
                have HN : Hid (planErr (X.map Row.l) (cs.map Scn.con) = firstErr (scanAt (X.map Row.l) (cs.map Scn.con)) (n - (k + 1)) (k + 1)) := by
                  have h1 : scanErr szs ⟨-1, tks, ios⟩ = 0 := by unfold scanErr; rw [if_pos ht0, if_neg (by have := tkl.out; have := iol.out; simp only; omega)]
                  show _ = _; rw [HP0.out, h1, if_neg (by omega)]
                replace H := Lib.hid (H.out.sel [0] (by decide) (by simp)); (try simp only [List.set_cons_zero, List.set_cons_succ, List.cons_append, List.nil_append, List.eraseIdx_cons_zero, List.eraseIdx_cons_succ, List.setIfInBounds_toArray, World.size_alloc, selR, List.getD_cons_zero, List.getD_cons_succ] at H)
                clear HP0
                go_wp2_with fail
                go_roundg (n - (k + 1))
                case rel => exact ⟨k + 1, rfl, by omega, by go_num, H, HN⟩
                case measure => rw [Hgk.out]; omega
              · have e1 : decide ((0 : Int) < inn) = true := by simp <;> omega
                have e2 : decide (0 < inn) = true := by simp <;> omega
                have HN : Hid (planErr (X.map Row.l) (cs.map Scn.con) = 2) := by
                  have h1 : scanErr szs ⟨-1, tks, ios⟩ = 2 := by unfold scanErr; rw [if_pos ht0, if_pos (by have := iol.out; simp only; omega)]
                  show _ = _; rw [HP0.out, h1, if_pos (by omega)]
                clear HP0
                go_wp2
                go_ret
                rw [HN.out]
                exact ⟨rfl, H.out.to⟩
            · have e1 : decide ((0 : Int) < tn) = true := by simp <;> omega
              have e2 : decide (0 < tn) = true := by simp <;> omega
              have e3 : decide ((0 : Int) < (tn : Int) + inn) = true := by simp <;> omega
              have e4 : decide (0 < tn + inn) = true := by simp <;> omega
              have wr1 : IntKind.i64.wrap ((tn : Int) + inn) = (tn : Int) + inn := IntWalk.i64_in _ (by omega)
              have HN : Hid (planErr (X.map Row.l) (cs.map Scn.con) = 2) := by
                have h1 : scanErr szs ⟨-1, tks, ios⟩ = 2 := by unfold scanErr; rw [if_pos ht0, if_pos (by have := tkl.out; simp only; omega)]
                show _ = _; rw [HP0.out, h1, if_pos (by omega)]
              clear HP0
              go_wp2
              go_ret
              rw [HN.out]
              exact ⟨rfl, H.out.to⟩
          · have e1 : (ct != -1) = true := by simpa using htm
            have e2 : (ct == -1) = false := by simpa using htm
            have HN : Hid (planErr (X.map Row.l) (cs.map Scn.con) = 2) := by
              have h1 : scanErr szs ⟨ct, tks, ios⟩ = 2 := by unfold scanErr; rw [if_pos ht0, if_pos (.inl htm)]
              show _ = _; rw [HP0.out, h1, if_pos (by omega)]
            clear HP0
            go_wp2
            go_ret
            rw [HN.out]
            exact ⟨rfl, H.out.to⟩
        · have d0 : decide (ct < 0) = false := by simpa using ht0
          obtain ⟨t, rfl⟩ : ∃ t : Nat, ct = t := ⟨ct.toNat, by omega⟩
          have q1 := HC1.out _ HB.out
          have cs0 := (H.out.blk 0 rfl).cell 0; simp only [List.getElem?_toArray, List.getElem?_cons_zero, List.getElem?_cons_succ] at cs0
          by_cases htn : t < yn
          · have d1 : decide ((yn : Int) ≤ t) = false := by simp <;> omega
            have d2 : decide (yn ≤ t) = false := by simp <;> omega
            obtain ⟨szv, hszv⟩ : ∃ v, szs[t]? = some v := ⟨_, List.getElem?_eq_getElem (by have := yl.out; omega)⟩
            by_cases hi0 : inn = 0
            · have hio : ios = [] := List.eq_nil_of_length_eq_zero (by rw [iol.out]; exact hi0)
              have e1 : decide ((0 : Int) < inn) = false := by simp <;> omega
              have e2 : decide (0 < inn) = false := by simp <;> omega
              have HS : Hid (scanErr szs ⟨(t : Int), tks, ios⟩ = firstErr (keyAt szv tks ios) tn 0) := by
                show _ = _; unfold scanErr; rw [if_neg ht0]; simp only [Int.toNat_natCast]; rw [hszv]; simp only; rw [if_neg (by have := iol.out; omega), tkl.out]
              have HIN : Hid (inn = 0 ∨ inn = tn) := .inl hi0
              subst hi0
              go_upto_region 9 with fail
              have f_cs0 := fun u : Over w5 => Over.cell cs0 u
              have f_cc0 := fun u : Over w5 => Over.cell cc0 u
              have f_cc1 := fun u : Over w5 => Over.cell cc1 u
              have f_cc2 := fun u : Over w5 => Over.cell cc2 u
              have f_q1 := fun u : Over w5 => Over.cell q1 u
              refine wp_region_over (by kernel_rfl) (by kernel_rfl) ?_
              (try simp only [Act.put, List.setIfInBounds_toArray, List.set_cons_zero, List.set_cons_succ])
              repeat (go_big_quiet_step (fail))
              refine wpQuiet_nil ?_
              rintro w5 ⟨⟨_, hw5⟩, rfl⟩
              (try dsimp only)
              replace H := Lib.hid (H.out.bel hw5); (try simp only [List.set_cons_zero, List.set_cons_succ, List.cons_append, List.nil_append, List.eraseIdx_cons_zero, List.eraseIdx_cons_succ, List.setIfInBounds_toArray, World.size_alloc, selR, List.getD_cons_zero, List.getD_cons_succ] at H)
              clear f_cs0 f_cc0 f_cc1 f_cc2 f_q1 cs0 cc0 cc1 cc2 q1
              replace HB := Lib.hid (HB.out.trans hw5)
              clear hw5
              have cc1 := (H.out.blk 1 rfl).cell 1; simp only [List.getElem?_toArray, List.getElem?_cons_zero, List.getElem?_cons_succ] at cc1
              go_wp2_with fail
              clear cc1
              have HQ : Hid (firstErr (keyAt szv tks ios) tn 0 = firstErr (keyAt szv tks ios) (tn - 0) 0) := rfl
              go_loopg [65] tn (fun gg i wr => ∃ (j : Nat), gg = tn - j ∧ j ≤ tn ∧ i = .int .i64 j ∧ Hid (Bel W0 wr) ∧ Hid (SL No w wr [rBlk x 71 #[.slice (some ⟨b1, o1, none⟩) n sc, .int .i64 ms], rBlk z 62 #[.int .i64 (t : Nat), .slice TA tn tc, .slice IA 0 ic]]) ∧ Hid (firstErr (keyAt szv tks ios) tn 0 = firstErr (keyAt szv tks ios) (tn - j) j))
              case atStart => exact ⟨0, rfl, by omega, rfl, HB, H, HQ⟩
              case round =>
                clear H HB HQ
                obtain ⟨j, hgj, hj, rfl, HB, H, HQ⟩ := hrel
                have Hgj := Lib.hid hgj
                clear hgj
                have cs0 := (H.out.blk 0 rfl).cell 0; simp only [List.getElem?_toArray, List.getElem?_cons_zero, List.getElem?_cons_succ] at cs0
                have cc0 := (H.out.blk 1 rfl).cell 0; simp only [List.getElem?_toArray, List.getElem?_cons_zero, List.getElem?_cons_succ] at cc0
                have cc1 := (H.out.blk 1 rfl).cell 1; simp only [List.getElem?_toArray, List.getElem?_cons_zero, List.getElem?_cons_succ] at cc1
                have cc2 := (H.out.blk 1 rfl).cell 2; simp only [List.getElem?_toArray, List.getElem?_cons_zero, List.getElem?_cons_succ] at cc2
                have q1 := HC1.out _ HB.out
                by_cases hjlt : j < tn
                · obtain ⟨b4, o4, kz, hA4, hkt, hkI, q4⟩ := (HTk.out _ HB.out).intAt (k := j) hjlt
                  simp only at hA4 hkt
                  subst hA4
                  obtain ⟨b8, o8, sv, hA8, hsv, hsI, q8⟩ := (HY.out _ HB.out).intAt (k := t) htn
                  simp only at hA8 hsv
                  subst hA8
                  obtain rfl : szv = sv := by rw [hszv] at hsv; injection hsv
                  have j0 : (0 : Int) ≤ j := by omega
                  have j1 : (j : Int) < tn := by omega
                  have t0 : (0 : Int) ≤ t := by omega
                  have t1 : (t : Int) < yn := by omega
                  by_cases hk0 : kz < 0
                  · have d5 : decide (kz < 0) = true := by simpa using hk0
                    go_upto_region 14 with fail
                    have f_cs0 := fun u : Over wr => Over.cell cs0 u
                    have f_cc0 := fun u : Over wr => Over.cell cc0 u
                    have f_q1 := fun u : Over wr => Over.cell q1 u
                    have f_q8 := fun u : Over wr => Over.cell q8 u
                    refine wp_region_over (by kernel_rfl) (by kernel_rfl) ?_
                    (try simp only [Act.put, List.setIfInBounds_toArray, List.set_cons_zero, List.set_cons_succ])
                    repeat (go_big_quiet_step (fail))
                    refine wpQuiet_nil ?_
                    rintro w5 ⟨⟨_, hw5⟩, rfl⟩
                    (try dsimp only)
                    replace H := Lib.hid (H.out.bel hw5); (try simp only [List.set_cons_zero, List.set_cons_succ, List.cons_append, List.nil_append, List.eraseIdx_cons_zero, List.eraseIdx_cons_succ, List.setIfInBounds_toArray, World.size_alloc, selR, List.getD_cons_zero, List.getD_cons_succ] at H)
                    clear f_cs0 f_cc0 f_q1 f_q8 cs0 cc0 q1 q8
                    have HN : Hid (planErr (X.map Row.l) (cs.map Scn.con) = 13) := by
                      have h1 : keyAt szv tks ios j = 13 := by unfold keyAt; rw [hkt]; simp only; rw [if_pos (.inl hk0)]
                      show _ = _; rw [HP0.out, HS.out, HQ.out, firstErr_hit (show j < tn from hjlt) h1 (by omega), if_pos (by omega)]
                    
                    go_wp2
                    go_ret
                    rw [HN.out]
                    exact ⟨rfl, H.out.to⟩
                  · have d5 : decide (kz < 0) = false := by simpa using hk0
                    by_cases hks : szv ≤ kz
                    · have d6 : decide (szv ≤ kz) = true := by simpa using hks
                      go_upto_region 14 with fail
                      have f_cs0 := fun u : Over wr => Over.cell cs0 u
                      have f_cc0 := fun u : Over wr => Over.cell cc0 u
                      have f_q1 := fun u : Over wr => Over.cell q1 u
                      have f_q8 := fun u : Over wr => Over.cell q8 u
                      refine wp_region_over (by kernel_rfl) (by kernel_rfl) ?_
                      (try simp only [Act.put, List.setIfInBounds_toArray, List.set_cons_zero, List.set_cons_succ])
                      repeat (go_big_quiet_step (fail))
                      refine wpQuiet_nil ?_
                      rintro w5 ⟨⟨_, hw5⟩, rfl⟩
                      (try dsimp only)
                      replace H := Lib.hid (H.out.bel hw5); (try simp only [List.set_cons_zero, List.set_cons_succ, List.cons_append, List.nil_append, List.eraseIdx_cons_zero, List.eraseIdx_cons_succ, List.setIfInBounds_toArray, World.size_alloc, selR, List.getD_cons_zero, List.getD_cons_succ] at H)
                      clear f_cs0 f_cc0 f_q1 f_q8 cs0 cc0 q1 q8
                      have HN : Hid (planErr (X.map Row.l) (cs.map Scn.con) = 13) := by
                        have h1 : keyAt szv tks ios j = 13 := by unfold keyAt; rw [hkt]; simp only; rw [if_pos (.inr hks)]
                        show _ = _; rw [HP0.out, HS.out, HQ.out, firstErr_hit (show j < tn from hjlt) h1 (by omega), if_pos (by omega)]
                      
                      go_wp2
                      go_ret
                      rw [HN.out]
                      exact ⟨rfl, H.out.to⟩
                    · have d6 : decide (szv ≤ kz) = false := by simpa using hks
                      go_upto_region 14 with fail
                      have f_cs0 := fun u : Over wr => Over.cell cs0 u
                      have f_cc0 := fun u : Over wr => Over.cell cc0 u
                      have f_q1 := fun u : Over wr => Over.cell q1 u
                      have f_q8 := fun u : Over wr => Over.cell q8 u
                      refine wp_region_over (by kernel_rfl) (by kernel_rfl) ?_
                      (try simp only [Act.put, List.setIfInBounds_toArray, List.set_cons_zero, List.set_cons_succ])
                      repeat (go_big_quiet_step (fail))
                      refine wpQuiet_nil ?_
                      rintro w5 ⟨⟨_, hw5⟩, rfl⟩
                      (try dsimp only)
                      replace H := Lib.hid (H.out.bel hw5); (try simp only [List.set_cons_zero, List.set_cons_succ, List.cons_append, List.nil_append, List.eraseIdx_cons_zero, List.eraseIdx_cons_succ, List.setIfInBounds_toArray, World.size_alloc, selR, List.getD_cons_zero, List.getD_cons_succ] at H)
                      clear f_cs0 f_cc0 f_q1 f_q8 cs0 cc0 q1 q8
                      replace HB := Lib.hid (HB.out.trans hw5)
                      clear hw5 cc1 cc2 q4
                      have cc1 := (H.out.blk 1 rfl).cell 1; simp only [List.getElem?_toArray, List.getElem?_cons_zero, List.getElem?_cons_succ] at cc1
                      have cc2 := (H.out.blk 1 rfl).cell 2; simp only [List.getElem?_toArray, List.getElem?_cons_zero, List.getElem?_cons_succ] at cc2
                      by_cases hj0 : j = 0
                      · subst hj0
                        have HQ2 : Hid (firstErr (keyAt szv tks ios) tn 0 = firstErr (keyAt szv tks ios) (tn - (0 + 1)) (0 + 1)) := by
                          have h1 : keyAt szv tks ios 0 = 0 := by unfold keyAt; rw [hkt]; simp only; rw [if_neg (by omega), if_neg (by omega), if_neg (fun h => h.1 hio)]
                          show _ = _; rw [HQ.out, firstErr_next (show 0 < tn from hjlt) h1]
                        clear HQ
                        go_wp2_with fail
                        go_roundg (tn - (0 + 1))
                        case rel => exact ⟨0 + 1, rfl, by omega, by go_num, HB, H, HQ2⟩
                        case measure => rw [Hgj.out]; omega
                      · have g1 : decide ((0 : Int) < j) = true := by simp <;> omega
                        have g2 : decide (0 < j) = true := by simp <;> omega
                        have wj : IntKind.i64.wrap ((j : Int) - 1) = (j : Int) - 1 := IntWalk.i64_in _ (by omega)
                        have tj : ((j : Int) - 1).toNat = j - 1 := by omega
                        have jm0 : (0 : Int) ≤ (j : Int) - 1 := by omega
                        have jm1 : (j : Int) - 1 < tn := by omega
                        have jm2 : j - 1 < tn := by omega
                        obtain ⟨b4', o4', kp, hA4', hkp, hkpI, q4'⟩ := (HTk.out _ HB.out).intAt (k := j - 1) (show j - 1 < tn by omega)
                        simp only [Option.some.injEq, Addr.mk.injEq, and_true] at hA4' hkp
                        obtain ⟨rfl, rfl⟩ := hA4'
                        by_cases hkk : kz ≤ kp
                        · have g3 : decide (kz ≤ kp) = true := by simpa using hkk
                          have HN : Hid (planErr (X.map Row.l) (cs.map Scn.con) = 4) := by
                            have h1 : keyAt szv tks ios j = 4 := by unfold keyAt; rw [hkt]; simp only; rw [if_neg (by omega), if_pos ⟨by omega, by rw [hkp]; exact hkk⟩]
                            show _ = _; rw [HP0.out, HS.out, HQ.out, firstErr_hit (show j < tn from hjlt) h1 (by omega), if_pos (by omega)]
                          
                          go_wp2
                          go_ret
                          rw [HN.out]
                          exact ⟨rfl, H.out.to⟩
                        · have g3 : decide (kz ≤ kp) = false := by simpa using hkk
                          have HQ2 : Hid (firstErr (keyAt szv tks ios) tn 0 = firstErr (keyAt szv tks ios) (tn - (j + 1)) (j + 1)) := by
                            have h1 : keyAt szv tks ios j = 0 := by unfold keyAt; rw [hkt]; simp only; rw [if_neg (by omega), if_neg (by rw [hkp]; simp only [Option.getD_some]; intro h; exact hkk h.2), if_neg (fun h => h.1 hio)]
                            show _ = _; rw [HQ.out, firstErr_next (show j < tn from hjlt) h1]
                          clear HQ
                          go_wp2_with fail
                          go_roundg (tn - (j + 1))
                          case rel => exact ⟨j + 1, rfl, by omega, by go_num, HB, H, HQ2⟩
                          case measure => rw [Hgj.out]; omega
                · have HN : Hid (planErr (X.map Row.l) (cs.map Scn.con) = firstErr (scanAt (X.map Row.l) (cs.map Scn.con)) (n - (k + 1)) (k + 1)) := by
                    have h1 : scanErr szs ⟨(t : Int), tks, ios⟩ = 0 := by rw [HS.out, HQ.out, show tn - j = 0 by omega]; rfl
                    show _ = _; rw [HP0.out, h1, if_neg (by omega)]
                  replace H := Lib.hid (H.out.sel [0] (by decide) (by simp)); (try simp only [List.set_cons_zero, List.set_cons_succ, List.cons_append, List.nil_append, List.eraseIdx_cons_zero, List.eraseIdx_cons_succ, List.setIfInBounds_toArray, World.size_alloc, selR, List.getD_cons_zero, List.getD_cons_succ] at H)
                  clear HP0
                  go_wp2_with fail
                  go_roundg (n - (k + 1))
                  case rel => exact ⟨k + 1, rfl, by omega, by go_num, H, HN⟩
                  case measure => rw [Hgk.out]; omega
            · by_cases hit : inn = tn
              · have e1 : decide ((0 : Int) < inn) = true := by simp <;> omega
                have e2 : decide (0 < inn) = true := by simp <;> omega
                have e3 : ((inn : Int) != tn) = false := by simp <;> omega
                have e4 : (inn != tn) = false := by simp <;> omega
                have HS : Hid (scanErr szs ⟨(t : Int), tks, ios⟩ = firstErr (keyAt szv tks ios) tn 0) := by
                  show _ = _; unfold scanErr; rw [if_neg ht0]; simp only [Int.toNat_natCast]; rw [hszv]; simp only; rw [if_neg (by have := iol.out; have := tkl.out; omega), tkl.out]
                subst hit
                go_upto_region 9 with fail
                have f_cs0 := fun u : Over w5 => Over.cell cs0 u
                have f_cc0 := fun u : Over w5 => Over.cell cc0 u
                have f_cc1 := fun u : Over w5 => Over.cell cc1 u
                have f_cc2 := fun u : Over w5 => Over.cell cc2 u
                have f_q1 := fun u : Over w5 => Over.cell q1 u
                refine wp_region_over (by kernel_rfl) (by kernel_rfl) ?_
                (try simp only [Act.put, List.setIfInBounds_toArray, List.set_cons_zero, List.set_cons_succ])
                repeat (go_big_quiet_step (fail))
                refine wpQuiet_nil ?_
                rintro w5 ⟨⟨_, hw5⟩, rfl⟩
                (try dsimp only)
                replace H := Lib.hid (H.out.bel hw5); (try simp only [List.set_cons_zero, List.set_cons_succ, List.cons_append, List.nil_append, List.eraseIdx_cons_zero, List.eraseIdx_cons_succ, List.setIfInBounds_toArray, World.size_alloc, selR, List.getD_cons_zero, List.getD_cons_succ] at H)
                clear f_cs0 f_cc0 f_cc1 f_cc2 f_q1 cs0 cc0 cc1 cc2 q1
                replace HB := Lib.hid (HB.out.trans hw5)
                clear hw5
                have cc1 := (H.out.blk 1 rfl).cell 1; simp only [List.getElem?_toArray, List.getElem?_cons_zero, List.getElem?_cons_succ] at cc1
                go_wp2_with fail
                clear cc1
                have HQ : Hid (firstErr (keyAt szv tks ios) inn 0 = firstErr (keyAt szv tks ios) (inn - 0) 0) := rfl
                go_loopg [65] inn (fun gg i wr => ∃ (j : Nat), gg = inn - j ∧ j ≤ inn ∧ i = .int .i64 j ∧ Hid (Bel W0 wr) ∧ Hid (SL No w wr [rBlk x 71 #[.slice (some ⟨b1, o1, none⟩) n sc, .int .i64 ms], rBlk z 62 #[.int .i64 (t : Nat), .slice TA inn tc, .slice IA inn ic]]) ∧ Hid (firstErr (keyAt szv tks ios) inn 0 = firstErr (keyAt szv tks ios) (inn - j) j))
                case atStart => exact ⟨0, rfl, by omega, rfl, HB, H, HQ⟩
                case round =>
                  clear H HB HQ
                  obtain ⟨j, hgj, hj, rfl, HB, H, HQ⟩ := hrel
                  have Hgj := Lib.hid hgj
                  clear hgj
                  have cs0 := (H.out.blk 0 rfl).cell 0; simp only [List.getElem?_toArray, List.getElem?_cons_zero, List.getElem?_cons_succ] at cs0
                  have cc0 := (H.out.blk 1 rfl).cell 0; simp only [List.getElem?_toArray, List.getElem?_cons_zero, List.getElem?_cons_succ] at cc0
                  have cc1 := (H.out.blk 1 rfl).cell 1; simp only [List.getElem?_toArray, List.getElem?_cons_zero, List.getElem?_cons_succ] at cc1
                  have cc2 := (H.out.blk 1 rfl).cell 2; simp only [List.getElem?_toArray, List.getElem?_cons_zero, List.getElem?_cons_succ] at cc2
                  have q1 := HC1.out _ HB.out
                  by_cases hjlt : j < inn
                  · obtain ⟨b4, o4, kz, hA4, hkt, hkI, q4⟩ := (HTk.out _ HB.out).intAt (k := j) hjlt
                    simp only at hA4 hkt
                    subst hA4
                    obtain ⟨b8, o8, sv, hA8, hsv, hsI, q8⟩ := (HY.out _ HB.out).intAt (k := t) htn
                    simp only at hA8 hsv
                    subst hA8
                    obtain rfl : szv = sv := by rw [hszv] at hsv; injection hsv
                    have j0 : (0 : Int) ≤ j := by omega
                    have j1 : (j : Int) < inn := by omega
                    have t0 : (0 : Int) ≤ t := by omega
                    have t1 : (t : Int) < yn := by omega
                    by_cases hk0 : kz < 0
                    · have d5 : decide (kz < 0) = true := by simpa using hk0
                      go_upto_region 14 with fail
                      have f_cs0 := fun u : Over wr => Over.cell cs0 u
                      have f_cc0 := fun u : Over wr => Over.cell cc0 u
                      have f_q1 := fun u : Over wr => Over.cell q1 u
                      have f_q8 := fun u : Over wr => Over.cell q8 u
                      refine wp_region_over (by kernel_rfl) (by kernel_rfl) ?_
                      (try simp only [Act.put, List.setIfInBounds_toArray, List.set_cons_zero, List.set_cons_succ])
                      repeat (go_big_quiet_step (fail))
                      refine wpQuiet_nil ?_
                      rintro w5 ⟨⟨_, hw5⟩, rfl⟩
                      (try dsimp only)
                      replace H := Lib.hid (H.out.bel hw5); (try simp only [List.set_cons_zero, List.set_cons_succ, List.cons_append, List.nil_append, List.eraseIdx_cons_zero, List.eraseIdx_cons_succ, List.setIfInBounds_toArray, World.size_alloc, selR, List.getD_cons_zero, List.getD_cons_succ] at H)
                      clear f_cs0 f_cc0 f_q1 f_q8 cs0 cc0 q1 q8
                      have HN : Hid (planErr (X.map Row.l) (cs.map Scn.con) = 13) := by
                        have h1 : keyAt szv tks ios j = 13 := by unfold keyAt; rw [hkt]; simp only; rw [if_pos (.inl hk0)]
                        show _ = _; rw [HP0.out, HS.out, HQ.out, firstErr_hit (show j < inn from hjlt) h1 (by omega), if_pos (by omega)]
                      
                      go_wp2
                      go_ret
                      rw [HN.out]
                      exact ⟨rfl, H.out.to⟩
                    · have d5 : decide (kz < 0) = false := by simpa using hk0
                      by_cases hks : szv ≤ kz
                      · have d6 : decide (szv ≤ kz) = true := by simpa using hks
                        go_upto_region 14 with fail
                        have f_cs0 := fun u : Over wr => Over.cell cs0 u
                        have f_cc0 := fun u : Over wr => Over.cell cc0 u
                        have f_q1 := fun u : Over wr => Over.cell q1 u
                        have f_q8 := fun u : Over wr => Over.cell q8 u
                        refine wp_region_over (by kernel_rfl) (by kernel_rfl) ?_
                        (try simp only [Act.put, List.setIfInBounds_toArray, List.set_cons_zero, List.set_cons_succ])
                        repeat (go_big_quiet_step (fail))
                        refine wpQuiet_nil ?_
                        rintro w5 ⟨⟨_, hw5⟩, rfl⟩
                        (try dsimp only)
                        replace H := Lib.hid (H.out.bel hw5); (try simp only [List.set_cons_zero, List.set_cons_succ, List.cons_append, List.nil_append, List.eraseIdx_cons_zero, List.eraseIdx_cons_succ, List.setIfInBounds_toArray, World.size_alloc, selR, List.getD_cons_zero, List.getD_cons_succ] at H)
                        clear f_cs0 f_cc0 f_q1 f_q8 cs0 cc0 q1 q8
                        have HN : Hid (planErr (X.map Row.l) (cs.map Scn.con) = 13) := by
                          have h1 : keyAt szv tks ios j = 13 := by unfold keyAt; rw [hkt]; simp only; rw [if_pos (.inr hks)]
                          show _ = _; rw [HP0.out, HS.out, HQ.out, firstErr_hit (show j < inn from hjlt) h1 (by omega), if_pos (by omega)]
                        
                        go_wp2
                        go_ret
                        rw [HN.out]
                        exact ⟨rfl, H.out.to⟩
                      · have d6 : decide (szv ≤ kz) = false := by simpa using hks
                        go_upto_region 14 with fail
                        have f_cs0 := fun u : Over wr => Over.cell cs0 u
                        have f_cc0 := fun u : Over wr => Over.cell cc0 u
                        have f_q1 := fun u : Over wr => Over.cell q1 u
                        have f_q8 := fun u : Over wr => Over.cell q8 u
                        refine wp_region_over (by kernel_rfl) (by kernel_rfl) ?_
                        (try simp only [Act.put, List.setIfInBounds_toArray, List.set_cons_zero, List.set_cons_succ])
                        repeat (go_big_quiet_step (fail))
                        refine wpQuiet_nil ?_
                        rintro w5 ⟨⟨_, hw5⟩, rfl⟩
                        (try dsimp only)
                        replace H := Lib.hid (H.out.bel hw5); (try simp only [List.set_cons_zero, List.set_cons_succ, List.cons_append, List.nil_append, List.eraseIdx_cons_zero, List.eraseIdx_cons_succ, List.setIfInBounds_toArray, World.size_alloc, selR, List.getD_cons_zero, List.getD_cons_succ] at H)
                        clear f_cs0 f_cc0 f_q1 f_q8 cs0 cc0 q1 q8
                        replace HB := Lib.hid (HB.out.trans hw5)
                        clear hw5 cc1 cc2 q4
                        have cc1 := (H.out.blk 1 rfl).cell 1; simp only [List.getElem?_toArray, List.getElem?_cons_zero, List.getElem?_cons_succ] at cc1
                        have cc2 := (H.out.blk 1 rfl).cell 2; simp only [List.getElem?_toArray, List.getElem?_cons_zero, List.getElem?_cons_succ] at cc2
                        by_cases hj0 : j = 0
                        · subst hj0
                          obtain ⟨b5, o5, iz, hA5, hit2, hiI, q5⟩ := (HIo.out _ HB.out).intAt (k := 0) hjlt
                          simp only at hA5 hit2
                          subst hA5
                          (try simp only [Nat.add_zero] at q5)
                          by_cases hz : iz < 0
                          · have f1 : decide (iz < 0) = true := by simpa using hz
                            have HN : Hid (planErr (X.map Row.l) (cs.map Scn.con) = 2) := by
                              have h1 : keyAt szv tks ios 0 = 2 := by unfold keyAt; rw [hkt]; simp only; rw [if_neg (by omega), if_neg (by omega), if_pos ⟨by have := iol.out; intro h; rw [h] at this; simp at this; omega, by rw [hit2]; exact hz⟩]
                              show _ = _; rw [HP0.out, HS.out, HQ.out, firstErr_hit (show 0 < inn from hjlt) h1 (by omega), if_pos (by omega)]
                            
                            go_wp2
                            go_ret
                            rw [HN.out]
                            exact ⟨rfl, H.out.to⟩
                          · have f1 : decide (iz < 0) = false := by simpa using hz
                            have HQ2 : Hid (firstErr (keyAt szv tks ios) inn 0 = firstErr (keyAt szv tks ios) (inn - (0 + 1)) (0 + 1)) := by
                              have h1 : keyAt szv tks ios 0 = 0 := by unfold keyAt; rw [hkt]; simp only; rw [if_neg (by omega), if_neg (by omega), if_neg (by rw [hit2]; simp only [Option.getD_some]; intro h; exact hz h.2)]
                              show _ = _; rw [HQ.out, firstErr_next (show 0 < inn from hjlt) h1]
                            clear HQ
                            go_wp2_with fail
                            go_roundg (inn - (0 + 1))
                            case rel => exact ⟨0 + 1, rfl, by omega, by go_num, HB, H, HQ2⟩
                            case measure => rw [Hgj.out]; omega
                        · have g1 : decide ((0 : Int) < j) = true := by simp <;> omega
                          have g2 : decide (0 < j) = true := by simp <;> omega
                          have wj : IntKind.i64.wrap ((j : Int) - 1) = (j : Int) - 1 := IntWalk.i64_in _ (by omega)
                          have tj : ((j : Int) - 1).toNat = j - 1 := by omega
                          have jm0 : (0 : Int) ≤ (j : Int) - 1 := by omega
                          have jm1 : (j : Int) - 1 < inn := by omega
                          have jm2 : j - 1 < inn := by omega
                          obtain ⟨b4', o4', kp, hA4', hkp, hkpI, q4'⟩ := (HTk.out _ HB.out).intAt (k := j - 1) (show j - 1 < inn by omega)
                          simp only [Option.some.injEq, Addr.mk.injEq, and_true] at hA4' hkp
                          obtain ⟨rfl, rfl⟩ := hA4'
                          by_cases hkk : kz ≤ kp
                          · have g3 : decide (kz ≤ kp) = true := by simpa using hkk
                            have HN : Hid (planErr (X.map Row.l) (cs.map Scn.con) = 4) := by
                              have h1 : keyAt szv tks ios j = 4 := by unfold keyAt; rw [hkt]; simp only; rw [if_neg (by omega), if_pos ⟨by omega, by rw [hkp]; exact hkk⟩]
                              show _ = _; rw [HP0.out, HS.out, HQ.out, firstErr_hit (show j < inn from hjlt) h1 (by omega), if_pos (by omega)]
                            
                            go_wp2
                            go_ret
                            rw [HN.out]
                            exact ⟨rfl, H.out.to⟩
                          · have g3 : decide (kz ≤ kp) = false := by simpa using hkk
                            obtain ⟨b5, o5, iz, hA5, hit2, hiI, q5⟩ := (HIo.out _ HB.out).intAt (k := j) hjlt
                            simp only at hA5 hit2
                            subst hA5
                            (try simp only [Nat.add_zero] at q5)
                            by_cases hz : iz < 0
                            · have f1 : decide (iz < 0) = true := by simpa using hz
                              have HN : Hid (planErr (X.map Row.l) (cs.map Scn.con) = 2) := by
                                have h1 : keyAt szv tks ios j = 2 := by unfold keyAt; rw [hkt]; simp only; rw [if_neg (by omega), if_neg (by rw [hkp]; simp only [Option.getD_some]; intro h; exact hkk h.2), if_pos ⟨by have := iol.out; intro h; rw [h] at this; simp at this; omega, by rw [hit2]; exact hz⟩]
                                show _ = _; rw [HP0.out, HS.out, HQ.out, firstErr_hit (show j < inn from hjlt) h1 (by omega), if_pos (by omega)]
                              
                              go_wp2
                              go_ret
                              rw [HN.out]
                              exact ⟨rfl, H.out.to⟩
                            · have f1 : decide (iz < 0) = false := by simpa using hz
                              have HQ2 : Hid (firstErr (keyAt szv tks ios) inn 0 = firstErr (keyAt szv tks ios) (inn - (j + 1)) (j + 1)) := by
                                have h1 : keyAt szv tks ios j = 0 := by unfold keyAt; rw [hkt]; simp only; rw [if_neg (by omega), if_neg (by rw [hkp]; simp only [Option.getD_some]; intro h; exact hkk h.2), if_neg (by rw [hit2]; simp only [Option.getD_some]; intro h; exact hz h.2)]
                                show _ = _; rw [HQ.out, firstErr_next (show j < inn from hjlt) h1]
                              clear HQ
                              go_wp2_with fail
                              go_roundg (inn - (j + 1))
                              case rel => exact ⟨j + 1, rfl, by omega, by go_num, HB, H, HQ2⟩
                              case measure => rw [Hgj.out]; omega
                  · have HN : Hid (planErr (X.map Row.l) (cs.map Scn.con) = firstErr (scanAt (X.map Row.l) (cs.map Scn.con)) (n - (k + 1)) (k + 1)) := by
                      have h1 : scanErr szs ⟨(t : Int), tks, ios⟩ = 0 := by rw [HS.out, HQ.out, show inn - j = 0 by omega]; rfl
                      show _ = _; rw [HP0.out, h1, if_neg (by omega)]
                    replace H := Lib.hid (H.out.sel [0] (by decide) (by simp)); (try simp only [List.set_cons_zero, List.set_cons_succ, List.cons_append, List.nil_append, List.eraseIdx_cons_zero, List.eraseIdx_cons_succ, List.setIfInBounds_toArray, World.size_alloc, selR, List.getD_cons_zero, List.getD_cons_succ] at H)
                    clear HP0
                    go_wp2_with fail
                    go_roundg (n - (k + 1))
                    case rel => exact ⟨k + 1, rfl, by omega, by go_num, H, HN⟩
                    case measure => rw [Hgk.out]; omega
              · have e1 : decide ((0 : Int) < inn) = true := by simp <;> omega
                have e2 : decide (0 < inn) = true := by simp <;> omega
                have e3 : ((inn : Int) != tn) = true := by simp <;> omega
                have e4 : (inn != tn) = true := by simp <;> omega
                have HN : Hid (planErr (X.map Row.l) (cs.map Scn.con) = 2) := by
                  have h1 : scanErr szs ⟨(t : Int), tks, ios⟩ = 2 := by
                    unfold scanErr; rw [if_neg ht0]; simp only [Int.toNat_natCast]; rw [hszv]; simp only; rw [if_pos (by have := iol.out; have := tkl.out; omega)]
                  show _ = _; rw [HP0.out, h1, if_pos (by omega)]
                clear HP0
                go_upto_region 9 with fail
                have f_cs0 := fun u : Over w5 => Over.cell cs0 u
                have f_cc0 := fun u : Over w5 => Over.cell cc0 u
                have f_cc1 := fun u : Over w5 => Over.cell cc1 u
                have f_cc2 := fun u : Over w5 => Over.cell cc2 u
                have f_q1 := fun u : Over w5 => Over.cell q1 u
                refine wp_region_over (by kernel_rfl) (by kernel_rfl) ?_
                (try simp only [Act.put, List.setIfInBounds_toArray, List.set_cons_zero, List.set_cons_succ])
                repeat (go_big_quiet_step (fail))
                refine wpQuiet_nil ?_
                rintro w5 ⟨⟨_, hw5⟩, rfl⟩
                (try dsimp only)
                replace H := Lib.hid (H.out.bel hw5); (try simp only [List.set_cons_zero, List.set_cons_succ, List.cons_append, List.nil_append, List.eraseIdx_cons_zero, List.eraseIdx_cons_succ, List.setIfInBounds_toArray, World.size_alloc, selR, List.getD_cons_zero, List.getD_cons_succ] at H)
                clear f_cs0 f_cc0 f_cc1 f_cc2 f_q1 cs0 cc0 cc1 cc2 q1
                go_wp2
                go_ret
                rw [HN.out]
                exact ⟨rfl, H.out.to⟩
          · have d1 : decide ((yn : Int) ≤ t) = true := by simp <;> omega
            have d2 : decide (yn ≤ t) = true := by simp <;> omega
            have HN : Hid (planErr (X.map Row.l) (cs.map Scn.con) = 2) := by
              have h1 : scanErr szs ⟨(t : Int), tks, ios⟩ = 2 := by
                unfold scanErr; rw [if_neg ht0]; simp only [Int.toNat_natCast]; rw [List.getElem?_eq_none (by have := yl.out; omega)]
              show _ = _; rw [HP0.out, h1, if_pos (by omega)]
            clear HP0
            go_upto_region 9 with fail
            have f_cs0 := fun u : Over w5 => Over.cell cs0 u
            have f_cc0 := fun u : Over w5 => Over.cell cc0 u
            have f_cc1 := fun u : Over w5 => Over.cell cc1 u
            have f_cc2 := fun u : Over w5 => Over.cell cc2 u
            have f_q1 := fun u : Over w5 => Over.cell q1 u
            refine wp_region_over (by kernel_rfl) (by kernel_rfl) ?_
            (try simp only [Act.put, List.setIfInBounds_toArray, List.set_cons_zero, List.set_cons_succ])
            repeat (go_big_quiet_step (fail))
            refine wpQuiet_nil ?_
            rintro w5 ⟨⟨_, hw5⟩, rfl⟩
            (try dsimp only)
            replace H := Lib.hid (H.out.bel hw5); (try simp only [List.set_cons_zero, List.set_cons_succ, List.cons_append, List.nil_append, List.eraseIdx_cons_zero, List.eraseIdx_cons_succ, List.setIfInBounds_toArray, World.size_alloc, selR, List.getD_cons_zero, List.getD_cons_succ] at H)
            clear f_cs0 f_cc0 f_cc1 f_cc2 f_q1 cs0 cc0 cc1 cc2 q1
            go_wp2
            go_ret
            rw [HN.out]
            exact ⟨rfl, H.out.to⟩
      · have HN : Hid (planErr (X.map Row.l) (cs.map Scn.con) = 0) := by show _ = _; rw [HB.out, show n - k = 0 by omega]; rfl
        clear HB
        go_wp2
        go_ret
        rw [HN.out]
        exact ⟨rfl, H.out.to⟩
  · have HN : Hid (planErr (X.map Row.l) (cs.map Scn.con) = 2) := by show _ = _; unfold planErr; rw [if_pos (by have := hl1.out; have := hl2.out; simp only [List.length_map]; omega)]
    have g1 : ((n : Int) != (sn : Int)) = true := by simp <;> omega
    have g2 : (n != sn) = true := by simp <;> omega
    go_wp2
    go_ret
    rw [HN.out]
    exact ⟨rfl, H.out.to⟩

end Go.Proofs.Ytelnhhbefdfeoaa
