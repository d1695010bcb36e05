/- The document's Add. -/
import Derived.Test.YtlclllkjnhgbjaaAreK
import Derived.Test.YtlclllkjnhgbjaaBt
namespace Go.Proofs.Ytlclllkjnhgbjaa
open Go.RowKit
set_option linter.unusedVariables false
set_option linter.unusedSimpArgs false


set_option maxRecDepth 100000 in
set_option maxHeartbeats 4000000 in
theorem radd24_any (s : Shp) (most : Int) (l : Row Nd) (n : Nd) (w : World) (hs : s.rd w) (hm : I64 most) (hl : l.rd w) (hn : n.rd w) (ht : (n.ls.l.map Row.l).flatten.length ≤ 999999) :
    Calls Try.prog 59 #[.agg s.cs, .int .i64 most, .slice l.A l.n l.c, .agg n.cs] w fun e w' => e = .returned (.int .i64 (addErr s.con s.ms most (l.l.map Nd.con) n.con)) ∧ Bel w w' := by
  have HW := Lib.hid (fun w' (hb : Bel w w') => rwrong24_any s n w' (hs.mono hb) (hn.mono hb))
  have HEA := Lib.hid (fun w' (hb : Bel w w') => reach_any n w' (hn.mono hb) ht)
  have HLR := Lib.hid (fun w' (hb : Bel w w') => hl.mono hb)
  have hll : Hid (l.l.length = l.n) := hl.len
  have HCE := Lib.hid (fun (h : nodeErr s.con s.ms n.con = 0) => nodeErr_cells h)
  have HOK := Lib.hid (nd_cells hn)
  have hxn : Hid (s.con.length = s.sz.n) := by show _ = _; rw [List.length_map]; exact hs.sz.len
  have s63 := hs.sz.n63
  have l63 := hl.n63
  have m64 := hm
  unfold I64 at m64
  have hel : (eachN n.con).length ≤ 1000000 := by unfold eachN; rw [List.length_append]; show _ + 1 ≤ _; have : n.con.ls = n.ls.l.map Row.l := rfl; rw [this]; omega
  have hcs : s.cs = #[.slice s.sz.A s.sz.n s.sz.c, .int .i64 s.ms] := rfl
  have HCS := Lib.hid hcs
  have H := Lib.hid (((SL.start No w).alloc s.cs 24).alloc n.cs 34)
  (try simp only [List.set_cons_zero, List.set_cons_succ, List.cons_append, List.nil_append, List.eraseIdx_cons_zero, List.eraseIdx_cons_succ, List.setIfInBounds_toArray, World.size_alloc, selR, List.getD_cons_zero, List.getD_cons_succ] at H)
  obtain ⟨R, hR⟩ : ∃ R, R = addErr s.con s.ms most (l.l.map Nd.con) n.con := ⟨_, rfl⟩
  obtain ⟨E, hE⟩ : ∃ E, E = nodeErr s.con s.ms n.con := ⟨_, rfl⟩
  rw [← hR]
  have HR : Hid (R = if E ≠ 0 then E else if leadsN s.sz.n (l.l.map Nd.con) n.con = false then 9 else if most ≤ (l.n : Int) then 7 else 0) := by show _ = _; rw [hR, hE]; unfold addErr; rw [hxn.out, List.length_map, hll.out]
  rw [← hE] at HW HCE
  clear hs hm hl hn ht hR hE hcs
  go_enter Try.func59, Try.ntmps59
  go_upto_region 1 with fail
  (try rw [← HCS.out] at *)
  generalize w.heap.size + 1 = y at *
  generalize w.heap.size = x at *
  generalize World.alloc (World.alloc _ _) _ = w1 at *
  go_wp2_with (first | ((with_reducible show wpList _ _ _ (⟨some 12, _, _, _, _, _⟩ :: _) _ _); (refine wpList_load_blk rfl rowShp2 (.tmp 4) rfl _ rfl (H.out.blk 0 rfl) rfl ?_)) | ((with_reducible show wpList _ _ _ (⟨some 13, _, _, _, _, _⟩ :: _) _ _); (refine wpList_load_blk rfl rowNd (.tmp 7) rfl _ rfl (H.out.blk 1 rfl) rfl ?_)))
  refine (HW.out _ H.out.to).mono ?_; rintro e w2 ⟨rfl, hb2⟩
  replace H := Lib.hid (H.out.bel hb2); (try simp only [List.set_cons_zero, List.set_cons_succ, List.cons_append, List.nil_append, List.eraseIdx_cons_zero, List.eraseIdx_cons_succ, List.setIfInBounds_toArray, World.size_alloc, selR, List.getD_cons_zero, List.getD_cons_succ] at H)
  clear hb2 HW
  by_cases h1 : E ≠ 0
  · have HRV : Hid (R = E) := by show _ = _; rw [HR.out, if_pos h1]
    have d1 : (E != 0) = true := by simpa using h1
    clear h1 HR HCE HEA
    go_wp2_with fail
    go_ret
    rw [HRV.out]
    exact ⟨rfl, H.out.to⟩
  obtain rfl : E = 0 := Classical.not_not.1 h1
  have HRL : Hid (R = if leadsN s.sz.n (l.l.map Nd.con) n.con = false then 9 else if most ≤ (l.n : Int) then 7 else 0) := by show _ = _; rw [HR.out, if_neg (by simp)]
  have HR9 : Hid (leadsN s.sz.n (l.l.map Nd.con) n.con = false → R = 9) := fun h => by rw [HRL.out, if_pos h]
  have hcl := HCE.out rfl
  rw [hxn.out] at hcl
  have HCH := Lib.hid (fun c hc => cellOk_ch (hcl.2 c hc))
  have hdim0 : 0 ≤ n.dim := hcl.1.1
  have hdim1 : n.dim < s.sz.n := hcl.1.2
  clear h1 HR HCE hcl
  go_wp2_with ((with_reducible show wpList _ _ _ (⟨some 18, _, _, _, _, _⟩ :: _) _ _); (refine wpList_load_blk rfl rowNd (.tmp 7) rfl _ rfl (H.out.blk 1 rfl) rfl ?_))
  refine (HEA.out _ H.out.to).mono ?_; rintro e w6 ⟨A, cp, rfl, hb6, ho6⟩
  replace H := Lib.hid (H.out.addRow hb6 ho6); (try simp only [List.set_cons_zero, List.set_cons_succ, List.cons_append, List.nil_append, List.eraseIdx_cons_zero, List.eraseIdx_cons_succ, List.setIfInBounds_toArray, World.size_alloc, selR, List.getD_cons_zero, List.getD_cons_succ] at H)
  clear hb6 ho6 HEA
  obtain ⟨m, hm⟩ : ∃ m, m = (eachN n.con).length := ⟨_, rfl⟩
  rw [← hm] at H hel ⊢
  have HM := Lib.hid hm
  clear hm
  have HCR : Hid (∀ w', SL No w w' [rBlk x 24 s.cs, rBlk y 34 n.cs, rRow 32 12 (.slice A m cp) m ((eachN n.con).flatMap Cel.cells)] → (Row.mk A m cp (eachN n.con) : Row Cl).rd w') := fun w' h => Row.ok.rds (own_ok (x := ⟨A, m, cp, eachN n.con⟩) (h.row 2 rfl) HOK.out (by show m * 96 ≤ _; omega))
  have HF : Hid (∀ j c, j < 0 → (eachN n.con)[j]? = some c → n.dim = (s.sz.n : Int) - 1 ∨ aheadC (l.l.map Nd.con) n.dim c = true) := fun j c h => by omega
  go_upto_region 5 with fail
  go_loopg [21] m (fun gg s21 wr => ∃ (k : Nat), gg = m - k ∧ k ≤ m ∧ s21 = .int .i64 k ∧ Hid (∀ j c, j < k → (eachN n.con)[j]? = some c → n.dim = (s.sz.n : Int) - 1 ∨ aheadC (l.l.map Nd.con) n.dim c = true) ∧ Hid (SL No w wr [rBlk x 24 s.cs, rBlk y 34 n.cs, rRow 32 12 (.slice A m cp) m ((eachN n.con).flatMap Cel.cells)]))
  case atStart => exact ⟨0, rfl, by omega, rfl, HF, H⟩
  case round =>
    clear H HF
    obtain ⟨k, hgk, hk, rfl, HF, H⟩ := hrel
    have Hgk := Lib.hid hgk
    clear hgk
    by_cases hlt : k < m
    · obtain ⟨bl, ol, c, hAl, hbl, hck, hcok, hrg⟩ := (HCR.out _ H.out).clAt (k := k) hlt
      simp only at hAl hck
      have hcm := List.mem_of_getElem? hck
      have HCK := Lib.hid hck
      have HRG := Lib.hid hrg
      have hch := HCH.out c hcm
      have c64 := hcok.ch
      unfold I64 at c64
      have k0 : (0 : Int) ≤ k := by omega
      have k1 : (k : Int) < m := by omega
      have HAL := Lib.hid hAl
      rw [hAl]
      clear hck hcok hrg hAl hcm
      go_upto_region 7 with (first | ((with_reducible show wpList _ _ _ (⟨some 24, _, _, _, _, _⟩ :: _) _ _); (refine wpList_load_row_at rfl rowCl (.tmp 23) rfl bl (ol + k * 12) rfl c.cs rfl HRG.out ?_)) | ((with_reducible show wpList _ _ _ (⟨_, .store _ (.tmp 11) _, _, _, _, _⟩ :: _) _ _); (refine wpList_store_new rfl rowCl (.tmp 11) (.tmp 24) rfl rfl rfl (c.cs) rfl rfl (cl_one c) ?_; replace H := Lib.hid (H.out.alloc (c.cs) 32); (try simp only [List.set_cons_zero, List.set_cons_succ, List.cons_append, List.nil_append, List.eraseIdx_cons_zero, List.eraseIdx_cons_succ, List.setIfInBounds_toArray, World.size_alloc, selR, List.getD_cons_zero, List.getD_cons_succ] at H))))
      (try simp only [Act.put, List.setIfInBounds_toArray, List.set_cons_zero, List.set_cons_succ])
      clear HRG hbl
      generalize wr.heap.size = u at *
      generalize World.alloc wr _ = w2 at *
      obtain ⟨q, hq⟩ : ∃ q : Nat, c.ch = q := ⟨c.ch.toNat, by omega⟩
      have HQ := Lib.hid hq
      have cd : w2.cell? ⟨y, 0, none⟩ = some (.int .i64 n.dim) := (H.out.blk 1 rfl).cell 0
      have cs : w2.cell? ⟨x, 0, none⟩ = some (.slice s.sz.A s.sz.n s.sz.c) := (H.out.blk 0 rfl).cell 0
      have cc : w2.cell? ⟨u, 1, none⟩ = some (.int .i64 q) := by rw [← hq]; exact (H.out.blk 3 rfl).cell 1
      rw [hq] at c64 hch
      clear hq
      by_cases hla : n.dim = (s.sz.n : Int) - 1
      · have dl : decide (n.dim < (s.sz.n : Int) - 1) = false := by simp <;> omega
        have HF2 : Hid (∀ j c, j < k + 1 → (eachN n.con)[j]? = some c → n.dim = (s.sz.n : Int) - 1 ∨ aheadC (l.l.map Nd.con) n.dim c = true) := fun j c' hj hc' => by
          rcases (show j < k ∨ j = k by omega) with h | h
          · exact HF.out j c' h hc'
          · subst h
            rw [HCK.out] at hc'
            injection hc' with hc'
            subst hc'
            exact .inl hla
        clear hla HF
        have f_cd := fun u : Over w2 => Over.cell cd u
        have f_cs := fun u : Over w2 => Over.cell cs u
        have f_cc := fun u : Over w2 => Over.cell cc u
        refine wp_region_over (by kernel_rfl) (by kernel_rfl) ?_
        (try simp only [Act.put, List.setIfInBounds_toArray, List.set_cons_zero, List.set_cons_succ])
        repeat (go_big_quiet_step (fail))
        refine wpQuiet_nil ?_
        rintro w5 ⟨⟨_, hw5⟩, rfl⟩
        (try dsimp only)
        replace H := Lib.hid (H.out.bel hw5); (try simp only [List.set_cons_zero, List.set_cons_succ, List.cons_append, List.nil_append, List.eraseIdx_cons_zero, List.eraseIdx_cons_succ, List.setIfInBounds_toArray, World.size_alloc, selR, List.getD_cons_zero, List.getD_cons_succ] at H)
        clear f_cd f_cs f_cc cd cs cc
        go_wp2_with fail
        rw [← HAL.out]
        replace H := Lib.hid (H.out.sel [0, 1, 2] (by decide) (by simp)); (try simp only [List.set_cons_zero, List.set_cons_succ, List.cons_append, List.nil_append, List.eraseIdx_cons_zero, List.eraseIdx_cons_succ, List.setIfInBounds_toArray, World.size_alloc, selR, List.getD_cons_zero, List.getD_cons_succ] at H)
        go_roundg (m - (k + 1))
        case rel => exact ⟨k + 1, rfl, by omega, by go_num, HF2, H⟩
        case measure => rw [Hgk.out]; omega
      have dl : decide (n.dim < (s.sz.n : Int) - 1) = true := by simp <;> omega
      by_cases hql : q < l.n
      · obtain ⟨b2, o2, t, hAt, hbt, htk, htr, hrt⟩ := (HLR.out _ H.out.to).ndAt (k := q) hql
        have ct : w2.cell? ⟨b2, o2 + q * 14, none⟩ = some (.int .i64 t.dim) := hrt 0 _ rfl
        have hah : aheadC (l.l.map Nd.con) n.dim c = decide (t.dim = n.dim + 1) := by
          unfold aheadC
          rw [HQ.out, Int.toNat_natCast, List.getElem?_map, htk]
          rfl
        have d1 : decide ((l.n : Int) ≤ (q : Int)) = false := by simp <;> omega
        have d1n : decide (l.n ≤ q) = false := by simp <;> omega
        have q0 : (0 : Int) ≤ q := by omega
        have q1 : (q : Int) < l.n := by omega
        have t64 := htr.dim
        unfold I64 at t64
        have HAT := Lib.hid hAt
        rw [hAt]
        clear htk htr hrt hAt hbt hql
        by_cases htd : t.dim = n.dim + 1
        · have HF2 : Hid (∀ j c, j < k + 1 → (eachN n.con)[j]? = some c → n.dim = (s.sz.n : Int) - 1 ∨ aheadC (l.l.map Nd.con) n.dim c = true) := fun j c' hj hc' => by
            rcases (show j < k ∨ j = k by omega) with h | h
            · exact HF.out j c' h hc'
            · subst h
              rw [HCK.out] at hc'
              injection hc' with hc'
              subst hc'
              exact .inr (by rw [hah, htd]; simp)
          have d2 : (t.dim != n.dim + 1) = false := by simp [htd]
          clear hla HF htd hah
          have f_cd := fun u : Over w2 => Over.cell cd u
          have f_cs := fun u : Over w2 => Over.cell cs u
          have f_cc := fun u : Over w2 => Over.cell cc u
          have f_ct := fun u : Over w2 => Over.cell ct u
          refine wp_region_over (by kernel_rfl) (by kernel_rfl) ?_
          (try simp only [Act.put, List.setIfInBounds_toArray, List.set_cons_zero, List.set_cons_succ])
          repeat (go_big_quiet_step (fail))
          refine wpQuiet_nil ?_
          rintro w5 ⟨⟨_, hw5⟩, rfl⟩
          (try dsimp only)
          replace H := Lib.hid (H.out.bel hw5); (try simp only [List.set_cons_zero, List.set_cons_succ, List.cons_append, List.nil_append, List.eraseIdx_cons_zero, List.eraseIdx_cons_succ, List.setIfInBounds_toArray, World.size_alloc, selR, List.getD_cons_zero, List.getD_cons_succ] at H)
          clear f_cd f_cs f_cc f_ct cd cs cc ct
          rw [← HAT.out]
          go_wp2_with fail
          rw [← HAL.out]
          replace H := Lib.hid (H.out.sel [0, 1, 2] (by decide) (by simp)); (try simp only [List.set_cons_zero, List.set_cons_succ, List.cons_append, List.nil_append, List.eraseIdx_cons_zero, List.eraseIdx_cons_succ, List.setIfInBounds_toArray, World.size_alloc, selR, List.getD_cons_zero, List.getD_cons_succ] at H)
          go_roundg (m - (k + 1))
          case rel => exact ⟨k + 1, rfl, by omega, by go_num, HF2, H⟩
          case measure => rw [Hgk.out]; omega
        · have HRV : Hid (R = 9) := HR9.out (by
            unfold leadsN
            rw [show n.con.dim = n.dim from rfl]
            simp only [Bool.or_eq_false_iff, decide_eq_false_iff_not, List.all_eq_false]
            exact ⟨by omega, c, List.mem_of_getElem? HCK.out, by rw [hah, decide_eq_false htd]; simp⟩)
          have d2 : (t.dim != n.dim + 1) = true := by simpa using htd
          clear hla HF htd hah
          have f_cd := fun u : Over w2 => Over.cell cd u
          have f_cs := fun u : Over w2 => Over.cell cs u
          have f_cc := fun u : Over w2 => Over.cell cc u
          have f_ct := fun u : Over w2 => Over.cell ct u
          refine wp_region_over (by kernel_rfl) (by kernel_rfl) ?_
          (try simp only [Act.put, List.setIfInBounds_toArray, List.set_cons_zero, List.set_cons_succ])
          repeat (go_big_quiet_step (fail))
          refine wpQuiet_nil ?_
          rintro w5 ⟨⟨_, hw5⟩, rfl⟩
          (try dsimp only)
          replace H := Lib.hid (H.out.bel hw5); (try simp only [List.set_cons_zero, List.set_cons_succ, List.cons_append, List.nil_append, List.eraseIdx_cons_zero, List.eraseIdx_cons_succ, List.setIfInBounds_toArray, World.size_alloc, selR, List.getD_cons_zero, List.getD_cons_succ] at H)
          clear f_cd f_cs f_cc f_ct cd cs cc ct
          go_wp2_with fail
          go_ret
          rw [HRV.out]
          exact ⟨rfl, H.out.to⟩
      · have hah : aheadC (l.l.map Nd.con) n.dim c = false := by
          unfold aheadC
          rw [HQ.out, Int.toNat_natCast, List.getElem?_map, List.getElem?_eq_none (by rw [hll.out]; omega)]
          rfl
        have d1 : decide ((l.n : Int) ≤ (q : Int)) = true := by simp <;> omega
        have d1n : decide (l.n ≤ q) = true := by simp <;> omega
        have HRV : Hid (R = 9) := HR9.out (by
          unfold leadsN
          rw [show n.con.dim = n.dim from rfl]
          simp only [Bool.or_eq_false_iff, decide_eq_false_iff_not, List.all_eq_false]
          exact ⟨by omega, c, List.mem_of_getElem? HCK.out, by rw [hah]; simp⟩)
        clear hla HF hah hql
        have f_cd := fun u : Over w2 => Over.cell cd u
        have f_cs := fun u : Over w2 => Over.cell cs u
        have f_cc := fun u : Over w2 => Over.cell cc u
        refine wp_region_over (by kernel_rfl) (by kernel_rfl) ?_
        (try simp only [Act.put, List.setIfInBounds_toArray, List.set_cons_zero, List.set_cons_succ])
        repeat (go_big_quiet_step (fail))
        refine wpQuiet_nil ?_
        rintro w5 ⟨⟨_, hw5⟩, rfl⟩
        (try dsimp only)
        replace H := Lib.hid (H.out.bel hw5); (try simp only [List.set_cons_zero, List.set_cons_succ, List.cons_append, List.nil_append, List.eraseIdx_cons_zero, List.eraseIdx_cons_succ, List.setIfInBounds_toArray, World.size_alloc, selR, List.getD_cons_zero, List.getD_cons_succ] at H)
        clear f_cd f_cs f_cc cd cs cc
        go_wp2_with fail
        go_ret
        rw [HRV.out]
        exact ⟨rfl, H.out.to⟩
    · obtain rfl : k = m := by omega
      have hld : leadsN s.sz.n (l.l.map Nd.con) n.con = true := by
        unfold leadsN
        rw [show n.con.dim = n.dim from rfl, Bool.or_eq_true, decide_eq_true_eq, List.all_eq_true]
        by_cases hla : n.dim = (s.sz.n : Int) - 1
        · exact .inl hla
        · refine .inr fun c hc => ?_
          obtain ⟨i, hi, hci⟩ := List.getElem_of_mem hc
          exact (HF.out i c (by rw [HM.out]; exact hi) (by rw [List.getElem?_eq_getElem hi, hci])).resolve_left hla
      have HRM : Hid (R = if most ≤ (l.n : Int) then 7 else 0) := by show _ = _; rw [HRL.out, hld, if_neg (by simp)]
      clear HF HR9 HRL hld
      by_cases hmo : most ≤ (l.n : Int)
      · have HRV : Hid (R = 7) := by show _ = _; rw [HRM.out, if_pos hmo]
        have d1 : decide (most ≤ (l.n : Int)) = true := by simpa using hmo
        clear hmo HRM
        go_wp2_with fail
        go_ret
        rw [HRV.out]
        exact ⟨rfl, H.out.to⟩
      · have HRV : Hid (R = 0) := by show _ = _; rw [HRM.out, if_neg hmo]
        have d1 : decide (most ≤ (l.n : Int)) = false := by simpa using hmo
        clear hmo HRM
        go_wp2_with fail
        go_ret
        rw [HRV.out]
        exact ⟨rfl, H.out.to⟩

end Go.Proofs.Ytlclllkjnhgbjaa
