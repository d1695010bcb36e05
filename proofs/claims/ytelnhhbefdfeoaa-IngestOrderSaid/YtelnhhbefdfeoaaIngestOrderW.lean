/- The walk of the law IngestOrder. -/
import Derived.Test.YtelnhhbefdfeoaaInD
import Derived.Test.YtelnhhbefdfeoaaBo
import Derived.Test.YtelnhhbefdfeoaaBs
import Derived.Test.YtelnhhbefdfeoaaBr
import Derived.Test.YtelnhhbefdfeoaaPart
import Derived.Test.YtelnhhbefdfeoaaInO
namespace Go.Proofs.Ytelnhhbefdfeoaa
open Go.RowKit
set_option linter.unusedVariables false
set_option linter.unusedSimpArgs false


/-- What ingest.Rows comes to where all fits. -/
theorem FldPost.some {r : List Con} {w w' : World} {e : Ending} (h : FldPost (some r) w e w') : ∃ X : Row Fct, e = .returned (.tuple #[.slice X.A X.n X.c, .int .i64 0]) ∧ cons X.l = r ∧ X.ok w' ∧ X.n ≤ 1000000 ∧ Bel w w' := by
  obtain ⟨v, k, rfl, hF, hb⟩ := h
  rcases hF with ⟨h, _⟩ | ⟨X, h1, rfl, rfl, h2, h3⟩
  · cases h
  · injection h1 with h1
    exact ⟨X, rfl, h1.symm, h2, h3, hb⟩
set_option maxRecDepth 100000 in
set_option maxHeartbeats 4000000 in
theorem walk_ingestOrder (w : World) (d : Sch) (hd : d.rd w) (x : Row Rw) (hx : x.ok w) (cut : Int) (hcut : (Lit.int .i64 cut).wf = true) :
    Calls Try.prog 4 #[.agg d.cs, x.v, .int .i64 cut] w fun e w' => e = .returned (.bool true) ∧ Bel w w' := by
  have HF := Lib.hid (fun w' (hb : Bel w w') => schfew_any d w' (hd.mono hb))
  have HF2 := Lib.hid (fun w' (hb : Bel w w') => rwfew_any x w' (hx.rds.mono hb))
  have HW := Lib.hid (fun (hf : FewS d) w' (hb : Bel w w') => rbwrong_any d x w' (hd.mono hb) (hx.rds.mono hb) (FewS.hn hf) (FewS.hm hf) (FewS.hd hf))
  have HRW := Lib.hid (fun (hf : FewS d) (X : Row Rw) w' (hb : Bel w w') (hX : X.rd w') (hE : batErr d.con (X.l.map Rw.con) = 0) => rows_any d X w' (hd.mono hb) hX (FewS.hn hf) (FewS.hm hf) (FewS.hd hf) hE)
  have HPT := Lib.hid (fun (j k : Nat) (h1 : j ≤ k) (h2 : k ≤ x.n) w' (hb : Bel w w') => part_rd (j := j) (k := k) (hx.rds.mono hb) hx.le h1 h2)
  have HSL1' := Lib.hid (rws_from x)
  have HSL2' := Lib.hid (rws_upto x)
  have HX := Lib.hid (fun w' (hb : Bel w w') => hx.rds.mono hb)
  have hxl : Hid (x.l.length = x.n) := hx.len
  have hle := hx.le
  have x63 := hx.size
  have HP1 : Hid (∀ j, ((x.part 0 j).l) = x.l.take j) := fun j => by show (x.l.drop 0).take (j - 0) = _; rw [List.drop_zero, Nat.sub_zero]
  have HP2 : Hid (∀ j, ((x.part j x.n).l) = x.l.drop j) := fun j => by show (x.l.drop j).take (x.n - j) = _; rw [List.take_of_length_le (by rw [List.length_drop, hxl.out]; exact Nat.le_refl _)]
  have HP3 : Hid (∀ j k, (x.part j k).n = k - j) := fun _ _ => rfl
  have hc1 : cut ≤ 9223372036854775807 := (i64_of hcut).2
  have hc0 : -9223372036854775808 ≤ cut := (i64_of hcut).1
  have H := Lib.hid ((SL.start No w).alloc d.cs 25)
  (try simp only [List.set_cons_zero, List.set_cons_succ, List.cons_append, List.nil_append, List.eraseIdx_cons_zero, List.eraseIdx_cons_succ, List.setIfInBounds_toArray, World.size_alloc, selR, List.getD_cons_zero, List.getD_cons_succ] at H)
  simp only [Row.v] at *
  obtain ⟨E, hE⟩ : ∃ E, E = batErr d.con (x.l.map Rw.con) := ⟨_, rfl⟩
  have HEE := Lib.hid hE
  rw [← hE] at HW
  obtain ⟨C, hC⟩ : ∃ C, C = d.con := ⟨_, rfl⟩
  rw [← hC] at HEE HRW
  clear hE hC hd hx hcut
  obtain ⟨XA, xn, xc, rs⟩ := x
  simp only at *
  have hcs : d.cs = #[.slice d.dm.A d.dm.n d.dm.c, .slice d.ms.A d.ms.n d.ms.c] := rfl
  have HCS := Lib.hid hcs
  clear hcs
  go_enter Try.func4, Try.ntmps4
  rw [← HCS.out] at *
  go_wp2_with ((with_reducible show wpList _ _ _ (⟨some 22, _, _, _, _, _⟩ :: _) _ _); (refine wpList_load_blk rfl rowSch (.tmp 3) rfl _ rfl (H.out.blk 0 rfl) rfl ?_))
  refine (HF.out _ H.out.to).mono ?_; rintro e w1 ⟨b, rfl, hfew, hb1⟩
  replace H := Lib.hid (H.out.bel hb1); (try simp only [List.set_cons_zero, List.set_cons_succ, List.cons_append, List.nil_append, List.eraseIdx_cons_zero, List.eraseIdx_cons_succ, List.setIfInBounds_toArray, World.size_alloc, selR, List.getD_cons_zero, List.getD_cons_succ] at H)
  clear hb1 HF
  cases b with
  | false =>
    clear hfew
    go_wp2_with fail
    refine (awake23_any _).mono ?_; rintro e w8 ⟨rfl, hb8⟩
    go_wp2
    go_ret
    exact ⟨rfl, H.out.to.trans hb8⟩
  | true =>
    have hf := hfew rfl
    replace HRW := Lib.hid (HRW.out hf)
    replace HW := Lib.hid (HW.out hf)
    clear hfew hf
    go_wp2_with fail
    refine (HF2.out _ H.out.to).mono ?_; rintro e w2 ⟨b, rfl, hfew, hb2⟩
    replace H := Lib.hid (H.out.bel hb2); (try simp only [List.set_cons_zero, List.set_cons_succ, List.cons_append, List.nil_append, List.eraseIdx_cons_zero, List.eraseIdx_cons_succ, List.setIfInBounds_toArray, World.size_alloc, selR, List.getD_cons_zero, List.getD_cons_succ] at H)
    clear hb2 HF2 hfew
    cases b with
    | false =>
      go_wp2_with fail
      refine (awake23_any _).mono ?_; rintro e w8 ⟨rfl, hb8⟩
      go_wp2
      go_ret
      exact ⟨rfl, H.out.to.trans hb8⟩
    | true =>
      by_cases h60 : 60 < xn
      · have d1 : decide ((60 : Int) < xn) = true := by simp <;> omega
        go_wp2_with fail
        refine (awake23_any _).mono ?_; rintro e w8 ⟨rfl, hb8⟩
        go_wp2
        go_ret
        exact ⟨rfl, H.out.to.trans hb8⟩
      have d1 : decide ((60 : Int) < xn) = false := by simp <;> omega
      have hxn : xn ≤ 60 := by omega
      clear h60
      go_wp2_with ((with_reducible show wpList _ _ _ (⟨some 36, _, _, _, _, _⟩ :: _) _ _); refine wpList_load_blkG (by first | rfl | go_simp) rowSch (.tmp 3) (by rfl) _ (by rfl) (H.out.blk 0 rfl) rfl ?_)
      refine (HW.out _ H.out.to).mono ?_; rintro e w3 ⟨rfl, hb3⟩
      replace H := Lib.hid (H.out.bel hb3); (try simp only [List.set_cons_zero, List.set_cons_succ, List.cons_append, List.nil_append, List.eraseIdx_cons_zero, List.eraseIdx_cons_succ, List.setIfInBounds_toArray, World.size_alloc, selR, List.getD_cons_zero, List.getD_cons_succ] at H)
      clear hb3 HW
      by_cases hE : ¬ E = 0
      · have z1 : (E != 0) = true := by simpa using hE
        clear hE
        go_wp2_with fail
        refine (awake23_any _).mono ?_; rintro e w8 ⟨rfl, hb8⟩
        go_wp2
        go_ret
        exact ⟨rfl, H.out.to.trans hb8⟩
      replace hE : E = 0 := Classical.not_not.1 hE
      rw [hE] at HEE
      rw [hE]
      clear hE
      by_cases hc2 : cut < 0
      · have z1 : decide (cut < 0) = true := by simpa using hc2
        clear hc2
        go_wp2_with fail
        refine (awake23_any _).mono ?_; rintro e w8 ⟨rfl, hb8⟩
        go_wp2
        go_ret
        exact ⟨rfl, H.out.to.trans hb8⟩
      have z1 : decide (cut < 0) = false := by simpa using hc2
      obtain ⟨j, rfl⟩ : ∃ j : Nat, cut = j := ⟨cut.toNat, by omega⟩
      clear hc2 hc0
      by_cases hjn : xn < j
      · have z2 : decide ((xn : Int) < j) = true := by simp <;> omega
        go_wp2_with fail
        refine (awake23_any _).mono ?_; rintro e w8 ⟨rfl, hb8⟩
        go_wp2
        go_ret
        exact ⟨rfl, H.out.to.trans hb8⟩
      have z2 : decide ((xn : Int) < j) = false := by simp <;> omega
      have z3 : decide (xn < j) = false := by simp <;> omega
      have hj : j ≤ xn := by omega
      clear hjn hc1
      go_upto_region 3 with fail
      replace H := Lib.hid (H.out.addNil 43 2)
      (try simp only [List.set_cons_zero, List.set_cons_succ, List.cons_append, List.nil_append, List.eraseIdx_cons_zero, List.eraseIdx_cons_succ, List.setIfInBounds_toArray, World.size_alloc, selR, List.getD_cons_zero, List.getD_cons_succ] at H)
      have HG : Hid (∀ r ∈ rs.reverse.take 0, SmallV r.vs.l) := fun r hr => by simp at hr
      go_upto_region 4 with fail
      generalize w.heap.size = x at *
      go_wp2_with fail
      go_loopg [7, 11, 54] xn (fun gg s7 s11 s54 wr => ∃ (k q : Nat) (B : Option Addr), gg = xn - k ∧ k ≤ xn ∧ s7 = .slice B k q ∧ s54 = .int .i64 k ∧ Hid (∀ r ∈ rs.reverse.take k, SmallV r.vs.l) ∧ Hid (SL No w wr [rBlk x 25 #[.slice d.dm.A d.dm.n d.dm.c, .slice d.ms.A d.ms.n d.ms.c], rRow 43 2 (.slice B k q) k ((rs.reverse.take k).flatMap Cel.cells)]))
      case atStart => exact ⟨0, 0, none, rfl, by omega, rfl, rfl, HG, H⟩
      case round =>
        clear H HG
        obtain ⟨k, q, B, hgk, hk, rfl, rfl, HG, H⟩ := hrel
        have Hgk := Lib.hid hgk
        clear hgk
        by_cases hlt : k < xn
        · obtain ⟨i, hi⟩ : ∃ i : Nat, i + k + 1 = xn := ⟨xn - k - 1, by omega⟩
          have hi2 : (xn : Int) - 1 - k = i := by omega
          obtain ⟨bx, ox, t, hA, hbx, htk, htok, hrg⟩ := (HX.out _ H.out.to).rwAt (k := i) (by show i < xn; omega)
          simp only at hA
          subst hA
          have h5 : rs.reverse[k]? = some t := by
            rw [List.getElem?_reverse (by rw [hxl.out]; exact hlt), hxl.out, show xn - 1 - k = i by omega]
            exact htk
          have HREV : Hid ((rs.reverse.take (k + 1)).flatMap Cel.cells = (rs.reverse.take k).flatMap Cel.cells ++ t.cs.toList) := by
            show _ = _
            rw [List.take_add_one, h5]
            simp [Cel.cells]
          have HMEM : Hid (∀ r, r ∈ rs.reverse.take (k + 1) → r ∈ rs.reverse.take k ∨ r = t) := fun r hr => by
            rw [List.take_add_one, h5] at hr
            simpa using hr
          have HRG := Lib.hid hrg
          have HT := Lib.hid (fun w' (hb : Bel wr w') => htok.vs.mono hb)
          have htl : Hid (t.vs.l.length = t.vs.n) := htok.vs.len
          have t63 := htok.vs.n63
          have i0 : (0 : Int) ≤ i := by omega
          have i1 : (i : Int) < xn := by omega
          clear htk htok h5 hrg
          go_upto_region 8 with (first | ((with_reducible show wpList _ _ _ (⟨some 64, _, _, _, _, _⟩ :: _) _ _); (refine wpList_load_row_at rfl rowRw (.tmp 63) rfl bx (ox + i * 2) rfl t.cs rfl HRG.out ?_)) | ((with_reducible show wpList _ _ _ (⟨_, .store _ (.tmp 9) _, _, _, _, _⟩ :: _) _ _); (refine wpList_store_new rfl rowRw (.tmp 9) (.tmp 64) rfl rfl rfl (t.cs) rfl rfl (rw_one t) ?_; replace H := Lib.hid (H.out.alloc (t.cs) 43); (try simp only [List.set_cons_zero, List.set_cons_succ, List.cons_append, List.nil_append, List.eraseIdx_cons_zero, List.eraseIdx_cons_succ, List.setIfInBounds_toArray, World.size_alloc, selR, List.getD_cons_zero, List.getD_cons_succ] at H))))
          (try simp only [Act.put, List.setIfInBounds_toArray, List.set_cons_zero, List.set_cons_succ])
          obtain ⟨wz, hwz⟩ : ∃ wz, wz = wr := ⟨_, rfl⟩
          have HBZ : Hid (Bel wr (wr.alloc (.cells t.cs 43))) := (Bel.refl wr).alloc _
          have HT2 := Lib.hid (fun w' (hb : Bel (wr.alloc (.cells t.cs 43)) w') => HT.out w' (HBZ.out.trans hb))
          clear HT HBZ HRG hwz wz
          generalize wr.heap.size = y at *
          generalize World.alloc wr _ = w5 at *
          have c0 := (H.out.blk 2 rfl).cell 1
          change _ = some (Value.slice t.vs.A t.vs.n t.vs.c) at c0
          have HSV : Hid (SmallV (t.vs.l.take 0)) := fun v hv => by simp at hv
          obtain ⟨tts, ⟨VA, vn, vc, vs⟩⟩ := t
          simp only at *
          go_wp2_with fail
          clear c0
          go_loopg [68] vn (fun gg s68 wv => ∃ (m : Nat), gg = vn - m ∧ m ≤ vn ∧ s68 = .int .i64 m ∧ Hid (SmallV (vs.take m)) ∧ Hid (wv = w5))
          case atStart => exact ⟨0, rfl, by omega, rfl, HSV, rfl⟩
          case round =>
            clear HSV
            obtain ⟨m, hgm, hm, rfl, HSV, hwv⟩ := hrel
            have Hgm := Lib.hid hgm
            have hwv := hwv.out
            subst hwv
            clear hgm
            by_cases hmv : m < vn
            · obtain ⟨bb, oo, v, hA, hvk, q1⟩ := rd_cell rfl (HT2.out _ (Bel.refl _)).r (k := m) hmv
              simp only at hA
              subst hA
              have q1 := q1 _ rfl
              have hv64 : I64 v := (HT2.out _ (Bel.refl _)).all v (List.mem_of_getElem? hvk)
              have j0 : (0 : Int) ≤ m := by omega
              have j1 : (m : Int) < vn := by omega
              by_cases hv1 : 1000000000000 < v
              · have e1 : decide (1000000000000 < v) = true := by simpa using hv1
                go_wp2_with fail
                refine (awake23_any _).mono ?_; rintro e w8 ⟨rfl, hb8⟩
                go_wp2
                go_ret
                exact ⟨rfl, H.out.to.trans hb8⟩
              have e1 : decide (1000000000000 < v) = false := by simp <;> omega
              by_cases hv2 : v < -1000000000000
              · have e2 : decide (v < -1000000000000) = true := by simpa using hv2
                go_wp2_with fail
                refine (awake23_any _).mono ?_; rintro e w8 ⟨rfl, hb8⟩
                go_wp2
                go_ret
                exact ⟨rfl, H.out.to.trans hb8⟩
              have e2 : decide (v < -1000000000000) = false := by simp <;> omega
              have HSV2 : Hid (SmallV (vs.take (m + 1))) := fun z hz => by
                rw [List.take_add_one, hvk] at hz
                rcases List.mem_append.1 hz with h | h
                · exact HSV.out z h
                · simp at h; rw [h]; omega
              clear hvk hv1 hv2 hv64 HSV
              go_wp2_with fail
              clear q1
              go_roundg (vn - (m + 1))
              case rel => exact ⟨m + 1, rfl, by omega, by go_num, HSV2, rfl⟩
              case measure => rw [Hgm.out]; omega
            · obtain rfl : m = vn := by omega
              rw [List.take_of_length_le (by have := htl.out; omega)] at HSV
              have HG2 : Hid (∀ r ∈ rs.reverse.take (k + 1), SmallV r.vs.l) := fun r hr => by
                rcases HMEM.out r hr with h | rfl
                · exact HG.out r h
                · exact HSV.out
              clear HG HMEM HT2
              go_wp2_with (first | ((with_reducible show wpList _ _ _ (⟨some 81, _, _, _, _, _⟩ :: _) _ _); (refine wpList_load_blk rfl rowRw (.tmp 9) rfl _ rfl (H.out.blk 2 rfl) rfl ?_)) | ((with_reducible show wpList _ _ _ (⟨some 82, _, _, _, _, _⟩ :: _) _ _); (refine wpList_buildSlice1 rfl E_rw (.tmp 81) rfl ((Rw.mk tts ⟨VA, m, vc, vs⟩).cs) rfl rfl (by omega) ?_; replace H := Lib.hid (H.out.addRow ((Bel.refl _).alloc _) (own_made _ 43 ((Rw.mk tts ⟨VA, m, vc, vs⟩).cs) _ rfl)); (try simp only [List.set_cons_zero, List.set_cons_succ, List.cons_append, List.nil_append, List.eraseIdx_cons_zero, List.eraseIdx_cons_succ, List.setIfInBounds_toArray, World.size_alloc, selR, List.getD_cons_zero, List.getD_cons_succ] at H))) | ((with_reducible show wpList _ _ _ (⟨some 83, _, _, _, _, _⟩ :: _) _ _); (refine wpList_append0 rfl (.tmp 80) (.tmp 82) _ rfl E_rw 0 (Nat.zero_le _) _ k _ rfl (H.out.row 1 rfl) _ 1 1 (Rw.mk tts ⟨VA, m, vc, vs⟩).cs.toList rfl (Rd.of_own (H.out.row 3 rfl)) (fun u hu => by have := Array.all_eq_true_iff_forall_mem.1 (rw_one (Rw.mk tts ⟨VA, m, vc, vs⟩)) u (by simpa using hu); exact this) (by unfold maxLen; omega) (by omega) ?_; intro vq wq howq hgq hatq; replace H := Lib.hid (H.out.setRow 1 rfl hgq howq hatq); (try simp only [List.set_cons_zero, List.set_cons_succ, List.cons_append, List.nil_append, List.eraseIdx_cons_zero, List.eraseIdx_cons_succ, List.setIfInBounds_toArray, World.size_alloc, selR, List.getD_cons_zero, List.getD_cons_succ] at H); clear howq hgq hatq; obtain ⟨B2, q2, rfl, _⟩ := own_slice (H.out.row 1 rfl))))
              replace H := Lib.hid (H.out.sel [0, 1] (by decide) (by simp)); (try simp only [List.set_cons_zero, List.set_cons_succ, List.cons_append, List.nil_append, List.eraseIdx_cons_zero, List.eraseIdx_cons_succ, List.setIfInBounds_toArray, World.size_alloc, selR, List.getD_cons_zero, List.getD_cons_succ] at H)
              rw [← HREV.out] at H
              go_roundg (xn - (k + 1))
              case rel => exact ⟨k + 1, q2, B2, rfl, by omega, rfl, by go_num, HG2, H⟩
              case measure => rw [Hgk.out]; omega
        · obtain rfl : k = xn := by omega
          have hback : Hid (rs.reverse.take k = rs.reverse) := List.take_of_length_le (by rw [List.length_reverse, hxl.out]; exact Nat.le_refl _)
          rw [hback.out] at H HG
          have HALL : Hid (∀ r ∈ rs.map Rw.con, SmallV r.vs) := fun r hr => by
            obtain ⟨r', hr', rfl⟩ := List.mem_map.1 hr
            exact HG.out r' (List.mem_reverse.2 hr')
          have HORD := Lib.hid (rows_orders C (rs.map Rw.con) j HALL.out (by rw [List.length_map, hxl.out]; exact hxn))
          have HBE : Hid (∀ q : List RC, (∀ r ∈ q, r ∈ rs.map Rw.con) → q.length ≤ k → batErr C q = 0) := fun q h1 h2 => batErr_of HEE.out.symm h1 (by rw [List.length_map, hxl.out]; exact h2)
          have HBR := Lib.hid (fun w' (hb : Bel w w') (ho : w'.ownsRow 0 43 2 (.slice B k q) k (rs.reverse.flatMap Cel.cells)) => (show Row.rd w' (⟨B, k, q, rs.reverse⟩ : Row Rw) from ⟨Rd.of_own ho, fun y hy => (HX.out w' hb).all y (List.mem_reverse.1 hy), by show k ≤ _; omega⟩))
          have HR1 := Lib.hid (fun w' (hb : Bel w w') => HRW.out ⟨XA, k, xc, rs⟩ w' hb (HX.out w' hb) HEE.out.symm)
          have HR2 := Lib.hid (fun w' (hb : Bel w w') (ho : w'.ownsRow 0 43 2 (.slice B k q) k (rs.reverse.flatMap Cel.cells)) => HRW.out ⟨B, k, q, rs.reverse⟩ w' hb (HBR.out w' hb ho) (HBE.out _ (fun r hr => by rw [List.map_reverse] at hr; exact List.mem_reverse.1 hr) (by rw [List.length_map, List.length_reverse, hxl.out]; exact Nat.le_refl _)))
          have HR3 := Lib.hid (fun w' (hb : Bel w w') => HRW.out _ w' hb (HPT.out 0 j (Nat.zero_le _) hj w' hb) (by rw [HP1.out]; exact HBE.out _ (fun r hr => by rw [List.map_take] at hr; exact List.mem_of_mem_take hr) (by rw [List.length_map, List.length_take]; omega)))
          have HR4 := Lib.hid (fun w' (hb : Bel w w') => HRW.out _ w' hb (HPT.out j k hj (Nat.le_refl _) w' hb) (by rw [HP2.out]; exact HBE.out _ (fun r hr => by rw [List.map_drop] at hr; exact List.mem_of_mem_drop hr) (by rw [List.length_map, List.length_drop, hxl.out]; omega)))
          have HSL1 := Lib.hid (HSL1'.out j hj)
          have HSL2 := Lib.hid (HSL2'.out j (by omega))
          rw [HP1.out] at HR3
          rw [HP2.out] at HR4
          simp only [List.map_reverse, List.map_take, List.map_drop] at HR1 HR2 HR3 HR4
          obtain ⟨r, y1, y2, o1, o2, o3, o4, o5, o6, o7⟩ := HORD.out
          simp only [List.map_reverse, List.map_take, List.map_drop] at o1 o2 o3 o4
          rw [o1] at HR1
          rw [o2] at HR2
          rw [o3] at HR3
          rw [o4] at HR4
          have HO5 := Lib.hid o5
          have HO6 := Lib.hid o6
          have HO7 := Lib.hid o7
          have HY1 : Hid (y1.length ≤ 60) := by have h := foldC_len o3; rw [sortC_len, List.length_take, List.length_map, List.length_map] at h; show _ ≤ _; omega
          have HY2 : Hid (y2.length ≤ 60) := by have h := foldC_len o4; rw [sortC_len, List.length_drop, List.length_map, List.length_map, hxl.out] at h; show _ ≤ _; omega
          clear o1 o2 o3 o4 o5 o6 o7 HORD HBE HBR HRW HALL HEE HPT HP1 HP2 HP3 HSL1' HSL2' HG hback
          generalize (Row.mk XA k xc rs : Row Rw).part 0 j = R3 at *
          generalize (Row.mk XA k xc rs : Row Rw).part j k = R4 at *
          obtain ⟨PA, pn, pc, pl⟩ := R3
          obtain ⟨QA, qn, qc, ql⟩ := R4
          simp only at *
          go_wp2_with ((with_reducible show wpList _ _ _ (⟨some 86, _, _, _, _, _⟩ :: _) _ _); (refine wpList_load_blk rfl rowSch (.tmp 3) rfl _ rfl (H.out.blk 0 rfl) rfl ?_))
          refine (HR1.out _ H.out.to).mono ?_; rintro e w6 h6
          obtain ⟨⟨AA, an, ac, al⟩, rfl, ha1, ha2, ha3, hb6⟩ := h6.some
          replace H := Lib.hid (H.out.bel hb6); (try simp only [List.set_cons_zero, List.set_cons_succ, List.cons_append, List.nil_append, List.eraseIdx_cons_zero, List.eraseIdx_cons_succ, List.setIfInBounds_toArray, World.size_alloc, selR, List.getD_cons_zero, List.getD_cons_succ] at H)
          have HA1 := Lib.hid ha1
          have HA := Lib.hid ha2
          simp only at ha3
          clear ha1 ha2 h6 hb6 HR1
          go_wp2_with ((with_reducible show wpList _ _ _ (⟨some 92, _, _, _, _, _⟩ :: _) _ _); (refine wpList_load_blk rfl rowSch (.tmp 3) rfl _ rfl (H.out.blk 0 rfl) rfl ?_))
          refine (HR2.out _ H.out.to (H.out.row 1 rfl)).mono ?_; rintro e w7 h6
          obtain ⟨⟨BA, bn, bc, bl⟩, rfl, ha1, ha2, hb3, hb6⟩ := h6.some
          replace H := Lib.hid (H.out.bel hb6); (try simp only [List.set_cons_zero, List.set_cons_succ, List.cons_append, List.nil_append, List.eraseIdx_cons_zero, List.eraseIdx_cons_succ, List.setIfInBounds_toArray, World.size_alloc, selR, List.getD_cons_zero, List.getD_cons_succ] at H)
          replace HA := Lib.hid (HA.out.mono hb6)
          have HB1 := Lib.hid ha1
          have HB := Lib.hid ha2
          simp only at hb3
          clear ha1 ha2 h6 hb6 HR2
          go_upto_region 18 with fail
          refine wp_region_held_drew (S := fun w => w.cell? ⟨x, 0, none⟩ = some (.slice d.dm.A d.dm.n d.dm.c) ∧ w.cell? ⟨x, 1, none⟩ = some (.slice d.ms.A d.ms.n d.ms.c)) (by kernel_rfl) ⟨(H.out.blk 0 rfl).cell 0, (H.out.blk 0 rfl).cell 1⟩ (fun hHeld => ?_)
          replace H := Lib.hid (H.out.drew); (try simp only [List.set_cons_zero, List.set_cons_succ, List.cons_append, List.nil_append, List.eraseIdx_cons_zero, List.eraseIdx_cons_succ, List.setIfInBounds_toArray, World.size_alloc, selR, List.getD_cons_zero, List.getD_cons_succ] at H)
          replace HA := Lib.hid (HA.out.mono (Bel.refl _).drew)
          replace HB := Lib.hid (HB.out.mono (Bel.refl _).drew)
          refine wpAnyH_take (i := 0) (v := ?vq3_0) (get_o0) (by kernel_rfl) (by kernel_rfl) (by kernel_rfl) (by exact fun _ _ _ h => h) (Or.inl ⟨by rfl, ?hyq3_0⟩) (by assumption) ?_
          case hyq3_0 => (intro w hSw; (try dsimp only at hSw); go_simp) <;> with_reducible rfl
          try simp only [Act.put, List.setIfInBounds_toArray, List.set_cons_zero, List.set_cons_succ]
          refine wpAnyH_take (i := 1) (v := ?vq3_1) (get_os (get_o0)) (by kernel_rfl) (by kernel_rfl) (by kernel_rfl) (by exact fun _ _ _ h => h) (Or.inl ⟨by rfl, ?hyq3_1⟩) (by assumption) ?_
          case hyq3_1 => (intro w hSw; (try dsimp only at hSw); go_simp) <;> with_reducible rfl
          try simp only [Act.put, List.setIfInBounds_toArray, List.set_cons_zero, List.set_cons_succ]
          refine wpAnyH_take (i := 2) (v := ?vq3_2) (get_os (get_os (get_o0))) (by kernel_rfl) (by kernel_rfl) (by kernel_rfl) (by exact fun _ _ _ h => h) (Or.inl ⟨by rfl, ?hyq3_2⟩) (by assumption) ?_
          case hyq3_2 => (intro w hSw; (try dsimp only at hSw); go_simp) <;> with_reducible rfl
          try simp only [Act.put, List.setIfInBounds_toArray, List.set_cons_zero, List.set_cons_succ]
          refine wpAnyH_take (i := 3) (v := .slice PA pn pc) (get_os (get_os (get_os (get_o0)))) (by kernel_rfl) (by kernel_rfl) (by kernel_rfl) (by exact fun _ _ _ h => h) (yields_sliceP (by rfl) (.tmp 99) none (some (.tmp 100)) rfl (fun w => HSL2.out w)) (by assumption) ?_
          try simp only [Act.put, List.setIfInBounds_toArray, List.set_cons_zero, List.set_cons_succ]
          refine wpAnyH_ready (rs := [4]) (by kernel_rfl) (by simp) ?_
          refine (AllReadyH.cons (get_os (get_os (get_os (get_os (get_o0))))) (fun KK hKK => ?_) AllReadyH.nil)
          go_simp
          refine (HR3.out _ H.out.to).mono ?_; rintro e wU h6
          obtain ⟨⟨UA, Un, Uc, Ul⟩, rfl, ha1, ha2, ha3, hb6⟩ := h6.some
          replace H := Lib.hid (H.out.bel hb6); (try simp only [List.set_cons_zero, List.set_cons_succ, List.cons_append, List.nil_append, List.eraseIdx_cons_zero, List.eraseIdx_cons_succ, List.setIfInBounds_toArray, World.size_alloc, selR, List.getD_cons_zero, List.getD_cons_succ] at H)
          replace HA := Lib.hid (HA.out.mono hb6)
          replace HB := Lib.hid (HB.out.mono hb6)
          have HU1 := Lib.hid ha1
          have HU := Lib.hid ha2
          have hUn : Un ≤ 1000000 := ha3
          clear ha1 ha2 ha3 h6 hb6
          refine hKK.out _ _ ⟨(H.out.blk 0 rfl).cell 0, (H.out.blk 0 rfl).cell 1⟩ (fun hHeld => ?_)
          clear hKK KK
          try simp only [Act.put, List.setIfInBounds_toArray, List.set_cons_zero, List.set_cons_succ]
          refine wpAnyH_take (i := 5) (v := ?vq4_) (get_os (get_os (get_os (get_os (get_os (get_o0)))))) (by kernel_rfl) (by kernel_rfl) (by kernel_rfl) (by exact fun _ _ _ h => h) (Or.inl ⟨by rfl, ?hyq4_⟩) (by assumption) ?_
          case hyq4_ => (intro w hSw; (try dsimp only at hSw); go_simp) <;> with_reducible rfl
          try simp only [Act.put, List.setIfInBounds_toArray, List.set_cons_zero, List.set_cons_succ]
          refine wpAnyH_take (i := 6) (v := ?vq5_) (get_os (get_os (get_os (get_os (get_os (get_os (get_o0))))))) (by kernel_rfl) (by kernel_rfl) (by kernel_rfl) (by exact fun _ _ _ h => h) (Or.inl ⟨by rfl, ?hyq5_⟩) (by assumption) ?_
          case hyq5_ => (intro w hSw; (try dsimp only at hSw); go_simp) <;> with_reducible rfl
          try simp only [Act.put, List.setIfInBounds_toArray, List.set_cons_zero, List.set_cons_succ]
          refine wpAnyH_take (i := 7) (v := ?vq6_) (get_os (get_os (get_os (get_os (get_os (get_os (get_os (get_o0)))))))) (by kernel_rfl) (by kernel_rfl) (by kernel_rfl) (by exact fun _ _ _ h => h) (Or.inl ⟨by rfl, ?hyq6_⟩) (by assumption) ?_
          case hyq6_ => (intro w hSw; (try dsimp only at hSw); go_simp) <;> with_reducible rfl
          try simp only [Act.put, List.setIfInBounds_toArray, List.set_cons_zero, List.set_cons_succ]
          refine wpAnyH_take (i := 8) (v := ?vq7_) (get_os (get_os (get_os (get_os (get_os (get_os (get_os (get_os (get_o0))))))))) (by kernel_rfl) (by kernel_rfl) (by kernel_rfl) (by exact fun _ _ _ h => h) (Or.inl ⟨by rfl, ?hyq7_⟩) (by assumption) ?_
          case hyq7_ => (intro w hSw; (try dsimp only at hSw); go_simp) <;> with_reducible rfl
          try simp only [Act.put, List.setIfInBounds_toArray, List.set_cons_zero, List.set_cons_succ]
          refine wpAnyH_take (i := 9) (v := ?vq8_) (get_os (get_os (get_os (get_os (get_os (get_os (get_os (get_os (get_os (get_o0)))))))))) (by kernel_rfl) (by kernel_rfl) (by kernel_rfl) (by exact fun _ _ _ h => h) (Or.inl ⟨by rfl, ?hyq8_⟩) (by assumption) ?_
          case hyq8_ => (intro w hSw; (try dsimp only at hSw); go_simp) <;> with_reducible rfl
          try simp only [Act.put, List.setIfInBounds_toArray, List.set_cons_zero, List.set_cons_succ]
          refine wpAnyH_done (by kernel_rfl) ?_ _
          clear hHeld
          go_upto_region 19 with fail
          refine wp_region_held_drew (S := fun w => w.cell? ⟨x, 0, none⟩ = some (.slice d.dm.A d.dm.n d.dm.c) ∧ w.cell? ⟨x, 1, none⟩ = some (.slice d.ms.A d.ms.n d.ms.c)) (by kernel_rfl) ⟨(H.out.blk 0 rfl).cell 0, (H.out.blk 0 rfl).cell 1⟩ (fun hHeld => ?_)
          replace H := Lib.hid (H.out.drew); (try simp only [List.set_cons_zero, List.set_cons_succ, List.cons_append, List.nil_append, List.eraseIdx_cons_zero, List.eraseIdx_cons_succ, List.setIfInBounds_toArray, World.size_alloc, selR, List.getD_cons_zero, List.getD_cons_succ] at H)
          replace HA := Lib.hid (HA.out.mono (Bel.refl _).drew)
          replace HB := Lib.hid (HB.out.mono (Bel.refl _).drew)
          replace HU := Lib.hid (HU.out.mono (Bel.refl _).drew)
          refine wpAnyH_take (i := 0) (v := ?vq9_0) (get_o0) (by kernel_rfl) (by kernel_rfl) (by kernel_rfl) (by exact fun _ _ _ h => h) (Or.inl ⟨by rfl, ?hyq9_0⟩) (by assumption) ?_
          case hyq9_0 => (intro w hSw; (try dsimp only at hSw); go_simp) <;> with_reducible rfl
          try simp only [Act.put, List.setIfInBounds_toArray, List.set_cons_zero, List.set_cons_succ]
          refine wpAnyH_take (i := 1) (v := ?vq9_1) (get_os (get_o0)) (by kernel_rfl) (by kernel_rfl) (by kernel_rfl) (by exact fun _ _ _ h => h) (Or.inl ⟨by rfl, ?hyq9_1⟩) (by assumption) ?_
          case hyq9_1 => (intro w hSw; (try dsimp only at hSw); go_simp) <;> with_reducible rfl
          try simp only [Act.put, List.setIfInBounds_toArray, List.set_cons_zero, List.set_cons_succ]
          refine wpAnyH_take (i := 2) (v := ?vq9_2) (get_os (get_os (get_o0))) (by kernel_rfl) (by kernel_rfl) (by kernel_rfl) (by exact fun _ _ _ h => h) (Or.inl ⟨by rfl, ?hyq9_2⟩) (by assumption) ?_
          case hyq9_2 => (intro w hSw; (try dsimp only at hSw); go_simp) <;> with_reducible rfl
          try simp only [Act.put, List.setIfInBounds_toArray, List.set_cons_zero, List.set_cons_succ]
          refine wpAnyH_take (i := 3) (v := .slice QA qn qc) (get_os (get_os (get_os (get_o0)))) (by kernel_rfl) (by kernel_rfl) (by kernel_rfl) (by exact fun _ _ _ h => h) (yields_sliceP (by rfl) (.tmp 107) (some (.tmp 108)) none rfl (fun w => HSL1.out w)) (by assumption) ?_
          try simp only [Act.put, List.setIfInBounds_toArray, List.set_cons_zero, List.set_cons_succ]
          refine wpAnyH_ready (rs := [4]) (by kernel_rfl) (by simp) ?_
          refine (AllReadyH.cons (get_os (get_os (get_os (get_os (get_o0))))) (fun KK hKK => ?_) AllReadyH.nil)
          go_simp
          refine (HR4.out _ H.out.to).mono ?_; rintro e wV h6
          obtain ⟨⟨VA, Vn, Vc, Vl⟩, rfl, ha1, ha2, ha3, hb6⟩ := h6.some
          replace H := Lib.hid (H.out.bel hb6); (try simp only [List.set_cons_zero, List.set_cons_succ, List.cons_append, List.nil_append, List.eraseIdx_cons_zero, List.eraseIdx_cons_succ, List.setIfInBounds_toArray, World.size_alloc, selR, List.getD_cons_zero, List.getD_cons_succ] at H)
          replace HA := Lib.hid (HA.out.mono hb6)
          replace HB := Lib.hid (HB.out.mono hb6)
          replace HU := Lib.hid (HU.out.mono hb6)
          have HV1 := Lib.hid ha1
          have HV := Lib.hid ha2
          have hVn : Vn ≤ 1000000 := ha3
          clear ha1 ha2 ha3 h6 hb6
          refine hKK.out _ _ ⟨(H.out.blk 0 rfl).cell 0, (H.out.blk 0 rfl).cell 1⟩ (fun hHeld => ?_)
          clear hKK KK
          try simp only [Act.put, List.setIfInBounds_toArray, List.set_cons_zero, List.set_cons_succ]
          refine wpAnyH_take (i := 5) (v := ?vq10_) (get_os (get_os (get_os (get_os (get_os (get_o0)))))) (by kernel_rfl) (by kernel_rfl) (by kernel_rfl) (by exact fun _ _ _ h => h) (Or.inl ⟨by rfl, ?hyq10_⟩) (by assumption) ?_
          case hyq10_ => (intro w hSw; (try dsimp only at hSw); go_simp) <;> with_reducible rfl
          try simp only [Act.put, List.setIfInBounds_toArray, List.set_cons_zero, List.set_cons_succ]
          refine wpAnyH_take (i := 6) (v := ?vq11_) (get_os (get_os (get_os (get_os (get_os (get_os (get_o0))))))) (by kernel_rfl) (by kernel_rfl) (by kernel_rfl) (by exact fun _ _ _ h => h) (Or.inl ⟨by rfl, ?hyq11_⟩) (by assumption) ?_
          case hyq11_ => (intro w hSw; (try dsimp only at hSw); go_simp) <;> with_reducible rfl
          try simp only [Act.put, List.setIfInBounds_toArray, List.set_cons_zero, List.set_cons_succ]
          refine wpAnyH_take (i := 7) (v := ?vq12_) (get_os (get_os (get_os (get_os (get_os (get_os (get_os (get_o0)))))))) (by kernel_rfl) (by kernel_rfl) (by kernel_rfl) (by exact fun _ _ _ h => h) (Or.inl ⟨by rfl, ?hyq12_⟩) (by assumption) ?_
          case hyq12_ => (intro w hSw; (try dsimp only at hSw); go_simp) <;> with_reducible rfl
          try simp only [Act.put, List.setIfInBounds_toArray, List.set_cons_zero, List.set_cons_succ]
          refine wpAnyH_take (i := 8) (v := ?vq13_) (get_os (get_os (get_os (get_os (get_os (get_os (get_os (get_os (get_o0))))))))) (by kernel_rfl) (by kernel_rfl) (by kernel_rfl) (by exact fun _ _ _ h => h) (Or.inl ⟨by rfl, ?hyq13_⟩) (by assumption) ?_
          case hyq13_ => (intro w hSw; (try dsimp only at hSw); go_simp) <;> with_reducible rfl
          try simp only [Act.put, List.setIfInBounds_toArray, List.set_cons_zero, List.set_cons_succ]
          refine wpAnyH_take (i := 9) (v := ?vq14_) (get_os (get_os (get_os (get_os (get_os (get_os (get_os (get_os (get_os (get_o0)))))))))) (by kernel_rfl) (by kernel_rfl) (by kernel_rfl) (by exact fun _ _ _ h => h) (Or.inl ⟨by rfl, ?hyq14_⟩) (by assumption) ?_
          case hyq14_ => (intro w hSw; (try dsimp only at hSw); go_simp) <;> with_reducible rfl
          try simp only [Act.put, List.setIfInBounds_toArray, List.set_cons_zero, List.set_cons_succ]
          refine wpAnyH_done (by kernel_rfl) ?_ _
          clear hHeld
          have hU60 : Un ≤ 60 := by have h := HU.out.len; have h2 := congrArg List.length HU1.out; simp only [cons_len] at h h2; have h3 := HY1.out; omega
          have hV60 : Vn ≤ 60 := by have h := HV.out.len; have h2 := congrArg List.length HV1.out; simp only [cons_len] at h h2; have h3 := HY2.out; omega
          have HJ := Lib.hid (joinI_any ⟨VA, Vn, Vc, Vl⟩ ⟨UA, Un, Uc, Ul⟩ _ HV.out HU.out (by simp only; omega) (by simp only; omega) (by simp only; rw [show cons Vl = y2 from HV1.out]; exact HO6.out) (by simp only; rw [show cons Ul = y1 from HU1.out]; exact HO5.out))
          simp only at HJ
          rw [show cons Vl = y2 from HV1.out, show cons Ul = y1 from HU1.out, HO7.out] at HJ
          go_wp2_with fail
          refine HJ.out.mono ?_; rintro e w9 h6
          obtain ⟨⟨JA, jn, jc, jl⟩, rfl, hj1, hj2, hj3, hb9⟩ := h6.some
          replace H := Lib.hid (H.out.bel hb9); (try simp only [List.set_cons_zero, List.set_cons_succ, List.cons_append, List.nil_append, List.eraseIdx_cons_zero, List.eraseIdx_cons_succ, List.setIfInBounds_toArray, World.size_alloc, selR, List.getD_cons_zero, List.getD_cons_succ] at H)
          replace HA := Lib.hid (HA.out.mono hb9)
          replace HB := Lib.hid (HB.out.mono hb9)
          have HJ1 := Lib.hid hj1
          have HJo := Lib.hid hj2
          simp only at hj3
          clear hj1 hj2 h6 hb9 HJ HU HV HU1 HV1 hU60 hV60
          have HS1 := Lib.hid (same_any ⟨AA, an, ac, al⟩ ⟨BA, bn, bc, bl⟩ _ HA.out HB.out ha3 hb3)
          have hs1 : sameF al bl = true := sameF_consK (HA1.out.trans HB1.out.symm)
          simp only [Row.v] at HS1
          rw [hs1] at HS1
          clear hs1
          go_wp2_with fail
          refine HS1.out.mono ?_; rintro e wA ⟨rfl, hb5⟩
          replace H := Lib.hid (H.out.bel hb5); (try simp only [List.set_cons_zero, List.set_cons_succ, List.cons_append, List.nil_append, List.eraseIdx_cons_zero, List.eraseIdx_cons_succ, List.setIfInBounds_toArray, World.size_alloc, selR, List.getD_cons_zero, List.getD_cons_succ] at H)
          replace HA := Lib.hid (HA.out.mono hb5)
          replace HJo := Lib.hid (HJo.out.mono hb5)
          clear hb5 HS1
          have HS1 := Lib.hid (same_any ⟨AA, an, ac, al⟩ ⟨JA, jn, jc, jl⟩ _ HA.out HJo.out ha3 hj3)
          have hs1 : sameF al jl = true := sameF_consK (HA1.out.trans HJ1.out.symm)
          simp only [Row.v] at HS1
          rw [hs1] at HS1
          clear hs1
          go_wp2_with fail
          refine HS1.out.mono ?_; rintro e wB ⟨rfl, hb5⟩
          replace H := Lib.hid (H.out.bel hb5); (try simp only [List.set_cons_zero, List.set_cons_succ, List.cons_append, List.nil_append, List.eraseIdx_cons_zero, List.eraseIdx_cons_succ, List.setIfInBounds_toArray, World.size_alloc, selR, List.getD_cons_zero, List.getD_cons_succ] at H)
          clear hb5 HS1
          go_wp2_with fail
          refine (awake23_any _).mono ?_; rintro e w8 ⟨rfl, hb8⟩
          go_wp2
          go_ret
          exact ⟨rfl, H.out.to.trans hb8⟩

end Go.Proofs.Ytelnhhbefdfeoaa
