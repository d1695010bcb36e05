/- ask.Check. -/
import Derived.Test.YtelnhhbefdfeoaaAskW
import Derived.Test.YtelnhhbefdfeoaaBs
namespace Go.Proofs.Ytelnhhbefdfeoaa
open Go.RowKit
set_option linter.unusedVariables false
set_option linter.unusedSimpArgs false

set_option maxRecDepth 100000 in
set_option maxHeartbeats 1000000 in
theorem askcheck_any (s : Sch) (q : Qr) (w : World) (hs : s.rd w) (hq : q.rd w) (hn : s.dm.n ≤ 1000000) (hm : s.ms.n ≤ 1000000) (hd : ∀ d ∈ s.dm.l, d.tr.n ≤ 1000000 ∧ ∀ t ∈ d.tr.l, t.up.n ≤ 100000) (hp : ∀ p ∈ q.ps.l, p.set.n ≤ 100000) :
    Calls Try.prog 43 #[.agg s.cs, .agg q.cs] w fun e w' => e = .returned (.int .i64 (askErr s.con q.con)) ∧ Bel w w' := by
  have HC := Lib.hid (fun w' (hb : Bel w w') => schcheck_any s w' (hs.mono hb) hn hm hd)
  have hl1 : Hid (s.dm.l.length = s.dm.n) := hs.dm.len
  have hl2 : Hid (q.ps.l.length = q.ps.n) := Row.rd.len hq
  have HD := Lib.hid hs.dm
  have HQ := Lib.hid (show q.ps.rd w from hq)
  have n63 := hs.dm.n63
  have m63 : q.ps.n ≤ 9223372036854775807 := hq.n63
  have HRI := Lib.hid (fun hE => sch_rise hs hE)
  have HPS := Lib.hid hp
  have H := Lib.hid (((SL.start No w).alloc s.cs 25).alloc q.cs 52)
  (try simp only [List.set_cons_zero, List.set_cons_succ, List.cons_append, List.nil_append, List.eraseIdx_cons_zero, List.eraseIdx_cons_succ, List.setIfInBounds_toArray, World.size_alloc, selR, List.getD_cons_zero, List.getD_cons_succ] at H)
  obtain ⟨⟨A, n, c, ds⟩, ⟨A2, n2, c2, ms⟩⟩ := s
  obtain ⟨⟨B, m, d, ps⟩⟩ := q
  simp only [Sch.cs, Sch.con, Qr.cs, Qr.con] at *
  clear hs hq hp hd
  go_enter Try.func43, Try.ntmps43
  go_wp2_with ((with_reducible show wpList _ _ _ (⟨some 9, _, _, _, _, _⟩ :: _) _ _); (refine wpList_load_blk rfl rowSch (.tmp 2) rfl _ rfl (H.out.blk 0 rfl) rfl ?_))
  refine (HC.out _ H.out.to).mono ?_; rintro e w1 ⟨rfl, hb1⟩
  replace H := Lib.hid (H.out.bel hb1); (try simp only [List.set_cons_zero, List.set_cons_succ, List.cons_append, List.nil_append, List.eraseIdx_cons_zero, List.eraseIdx_cons_succ, List.setIfInBounds_toArray, World.size_alloc, selR, List.getD_cons_zero, List.getD_cons_succ] at H)
  clear hb1 HC
  by_cases hE : schErr ⟨ds.map Dm.con, ms⟩ = 0
  · have HRE := Lib.hid (HRI.out hE)
    have HE0 : Hid (askErr ⟨ds.map Dm.con, ms⟩ (ps.map Pk.con) = if (ps.map Pk.con).length ≠ (ds.map Dm.con).length then 2 else picksErr (ds.map Dm.con) (ps.map Pk.con)) := by show _ = _; unfold askErr; rw [if_neg (by omega)]
    rw [hE]
    clear HRI
    have cc0 := (H.out.blk 0 rfl).cell 0; simp only [List.getElem?_toArray, List.getElem?_cons_zero, List.getElem?_cons_succ] at cc0
    have cc1 := (H.out.blk 1 rfl).cell 0; simp only [List.getElem?_toArray, List.getElem?_cons_zero, List.getElem?_cons_succ] at cc1
    by_cases hl : m = n
    · subst hl
      have HB : Hid (askErr ⟨ds.map Dm.con, ms⟩ (ps.map Pk.con) = picksErr ((ds.map Dm.con).drop 0) ((ps.map Pk.con).drop 0)) := by
        show _ = _; rw [HE0.out, if_neg (by have := hl1.out; have := hl2.out; simp only [List.length_map] at this ⊢; omega)]; rfl
      clear HE0 hE
      go_wp2_with fail
      generalize w.heap.size + 1 = y at *
      generalize w.heap.size = x at *
      clear cc0 cc1
      go_loopg [24] m (fun gg i wr => ∃ k : Nat, gg = m - k ∧ k ≤ m ∧ i = .int .i64 k ∧ Hid (SL No w wr [rBlk x 25 #[.slice A m c, .slice A2 n2 c2], rBlk y 52 #[.slice B m d]]) ∧ Hid (askErr ⟨ds.map Dm.con, ms⟩ (ps.map Pk.con) = picksErr ((ds.map Dm.con).drop k) ((ps.map Pk.con).drop k)))
      case atStart => exact ⟨0, rfl, by omega, rfl, H, HB⟩
      case round =>
        clear H HB
        obtain ⟨k, hgk, hk, rfl, H, HB⟩ := hrel
        have Hgk := Lib.hid hgk
        clear hgk
        by_cases hlt : k < m
        · obtain ⟨b1, o1, D, hA, hb1, hDk, hDr, hrg1⟩ := (HD.out.mono H.out.to).dmAt (k := k) hlt
          simp only at hA
          subst hA
          obtain ⟨b2, o2, p, hB, hb2, hpk, hpr, hrg2⟩ := (HQ.out.mono H.out.to).pkAt (k := k) hlt
          simp only at hB
          subst hB
          have hDc : (ds.map Dm.con)[k]? = some D.con := by rw [List.getElem?_map, hDk]; rfl
          have hpc : (ps.map Pk.con)[k]? = some p.con := by rw [List.getElem?_map, hpk]; rfl
          have HSt := Lib.hid (picksErr_drop hDc hpc)
          have HR1 := Lib.hid hrg1
          have HR2 := Lib.hid hrg2
          have HDr := Lib.hid hDr
          have HPr := Lib.hid hpr
          have HRi := Lib.hid (HRE.out D (List.mem_of_getElem? hDk))
          have hps := HPS.out p (List.mem_of_getElem? hpk)
          have i0 : (0 : Int) ≤ k := by omega
          have i1 : (k : Int) < m := by omega
          have D63 := hDr.tr.n63
          have hDl : Hid (D.tr.l.length = D.tr.n) := hDr.tr.len
          clear hDk hpk hrg1 hrg2 hDc hpc hDr hpr hb2
          go_upto_region 9 with (first | ((with_reducible show wpList _ _ _ (⟨some 28, _, _, _, _, _⟩ :: _) _ _); (refine wpList_load_row_at rfl rowPk (.tmp 27) rfl b2 (o2 + k * 7) rfl p.cs rfl HR2.out ?_)) | ((with_reducible show wpList _ _ _ (⟨_, .store _ (.tmp 7) _, _, _, _, _⟩ :: _) _ _); (refine wpList_store_new rfl rowPk (.tmp 7) (.tmp 28) rfl rfl rfl (p.cs) rfl rfl (pk_one p) ?_; replace H := Lib.hid (H.out.alloc (p.cs) 59); (try simp only [List.set_cons_zero, List.set_cons_succ, List.cons_append, List.nil_append, List.eraseIdx_cons_zero, List.eraseIdx_cons_succ, List.setIfInBounds_toArray, World.size_alloc, selR, List.getD_cons_zero, List.getD_cons_succ] at H))))
          replace HDr := Lib.hid (HDr.out.mono ((Bel.refl wr).alloc (.cells p.cs 59)))
          replace HPr := Lib.hid (HPr.out.mono ((Bel.refl wr).alloc (.cells p.cs 59)))
          replace HR1 := Lib.hid (rangeAt_bel hb1 HR1.out ((Bel.refl wr).alloc (.cells p.cs 59)))
          replace hb1 : b1 < (wr.alloc (.cells p.cs 59)).heap.size := Nat.lt_of_lt_of_le hb1 ((Bel.refl wr).alloc (.cells p.cs 59)).size
          generalize wr.heap.size = z at *
          generalize wr.alloc (.cells p.cs 59) = w3 at *
          have cc0 := (H.out.blk 0 rfl).cell 0; simp only [List.getElem?_toArray, List.getElem?_cons_zero, List.getElem?_cons_succ] at cc0
          have f_cc0 := fun u : Over w3 => Over.cell cc0 u
          refine wp_region_over (by kernel_rfl) (by kernel_rfl) ?_
          (try simp only [Act.put, List.setIfInBounds_toArray, List.set_cons_zero, List.set_cons_succ])
          repeat (first
            | ((with_reducible show wpQuiet _ _ _ _ (⟨some 33, _, _, _, _, _⟩ :: _) _); refine wpQuiet_load_row (by first | rfl | go_simp) rowDm (.tmp 32) rfl b1 (o1 + k * 2) rfl D.cs rfl hb1 HR1.out ?_; simp only [Act.put, List.setIfInBounds_toArray, List.set_cons_zero, List.set_cons_succ])
            | ((with_reducible show wpQuiet _ _ _ _ (⟨some 34, _, _, _, _, _⟩ :: _) _); refine wpQuiet_load_row (by first | rfl | go_simp) rowPk (.tmp 7) rfl _ (0) rfl _ rfl (H.out.blk 2 rfl).lt (H.out.blk 2 rfl).range ?_; simp only [Act.put, List.setIfInBounds_toArray, List.set_cons_zero, List.set_cons_succ])
            | go_big_quiet_step (((go_at_call 67; rename_i u; exact calls_over (filter_any D p _ (HDr.out.mono u.bel) (HPr.out.mono u.bel) HRi.out hps)))))
          refine wpQuiet_nil ?_
          rintro w5 ⟨⟨_, hw5⟩, rfl⟩
          (try dsimp only)
          replace H := Lib.hid (H.out.bel hw5); (try simp only [List.set_cons_zero, List.set_cons_succ, List.cons_append, List.nil_append, List.eraseIdx_cons_zero, List.eraseIdx_cons_succ, List.setIfInBounds_toArray, World.size_alloc, selR, List.getD_cons_zero, List.getD_cons_succ] at H)
          clear f_cc0 cc0

          obtain ⟨w2, hw2⟩ : ∃ w2, w2 = w5 := ⟨_, rfl⟩
          subst hw2
          replace HDr := Lib.hid (HDr.out.mono hw5)
          replace HR1 := Lib.hid (rangeAt_bel hb1 HR1.out hw5)
          replace hb1 := Nat.lt_of_lt_of_le hb1 hw5.size
          clear hw5 HPr HR2
          by_cases hf : filtErr D.con p.con = 0
          · rw [hf]
            obtain ⟨pf, pt, lo, hi, ⟨A3, n3, c3, set⟩, g, pb⟩ := p
            simp only [Pk.cs, Pk.con] at *
            have cc0 := (H.out.blk 0 rfl).cell 0; simp only [List.getElem?_toArray, List.getElem?_cons_zero, List.getElem?_cons_succ] at cc0
            have cc2 := (H.out.blk 2 rfl).cell 5; simp only [List.getElem?_toArray, List.getElem?_cons_zero, List.getElem?_cons_succ] at cc2
            have cc5 := (H.out.blk 2 rfl).cell 6; simp only [List.getElem?_toArray, List.getElem?_cons_zero, List.getElem?_cons_succ] at cc5
            cases g with
            | true =>
              cases hh : decide (0 ≤ pb ∧ pb < (D.tr.n : Int)) with
              | true =>
                have HN : Hid (askErr ⟨ds.map Dm.con, ms⟩ (ps.map Pk.con) = picksErr ((ds.map Dm.con).drop (k + 1)) ((ps.map Pk.con).drop (k + 1))) := by
                  have hpe : pickErr D.con ⟨pf, pt, lo, hi, set, true, pb⟩ = 0 := by unfold pickErr hasT; have h9 := hDl.out; have := of_decide_eq_true hh; rw [if_neg (by rw [hf]; omega), if_neg (by simp only [List.length_map]; simp; omega)]
                  show _ = _
                  rw [HB.out, HSt.out, hpe, if_neg (by omega)]
                clear HB HSt hf
                go_upto_region 12 with fail
                have f_cc0 := fun u : Over w2 => Over.cell cc0 u
                have f_cc2 := fun u : Over w2 => Over.cell cc2 u
                have f_cc5 := fun u : Over w2 => Over.cell cc5 u
                refine wp_region_over (by kernel_rfl) (by kernel_rfl) ?_
                (try simp only [Act.put, List.setIfInBounds_toArray, List.set_cons_zero, List.set_cons_succ])
                repeat (first
                  | ((with_reducible show wpQuiet _ _ _ _ (⟨some 46, _, _, _, _, _⟩ :: _) _); refine wpQuiet_load_row (by first | rfl | go_simp) rowDm (.tmp 45) rfl b1 (o1 + k * 2) rfl D.cs rfl hb1 HR1.out ?_; simp only [Act.put, List.setIfInBounds_toArray, List.set_cons_zero, List.set_cons_succ])
                  | go_big_quiet_step (((go_at_call 68; rename_i u; exact calls_over (has_any D pb _ (HDr.out.mono u.bel))))))
                refine wpQuiet_nil ?_
                rintro w5 ⟨⟨_, hw5⟩, rfl⟩
                (try dsimp only)
                replace H := Lib.hid (H.out.bel hw5); (try simp only [List.set_cons_zero, List.set_cons_succ, List.cons_append, List.nil_append, List.eraseIdx_cons_zero, List.eraseIdx_cons_succ, List.setIfInBounds_toArray, World.size_alloc, selR, List.getD_cons_zero, List.getD_cons_succ] at H)
                clear f_cc0 f_cc2 f_cc5 cc0 cc2 cc5

                replace H := Lib.hid (H.out.sel [0, 1] (by decide) (by simp)); (try simp only [List.set_cons_zero, List.set_cons_succ, List.cons_append, List.nil_append, List.eraseIdx_cons_zero, List.eraseIdx_cons_succ, List.setIfInBounds_toArray, World.size_alloc, selR, List.getD_cons_zero, List.getD_cons_succ] at H)
                go_wp2
                go_roundg (m - (k + 1))
                case rel => exact ⟨k + 1, rfl, by omega, by go_num, H, HN⟩
                case measure => rw [Hgk.out]; omega
              | false =>
                have HN : Hid (askErr ⟨ds.map Dm.con, ms⟩ (ps.map Pk.con) = 2) := by
                  have hpe : pickErr D.con ⟨pf, pt, lo, hi, set, true, pb⟩ = 2 := by unfold pickErr hasT; have h9 := hDl.out; have := of_decide_eq_false hh; rw [if_neg (by rw [hf]; omega), if_pos (Or.inl ⟨rfl, by simp only [List.length_map]; simp; omega⟩)]
                  show _ = _
                  rw [HB.out, HSt.out, hpe, if_pos (by omega)]
                clear HB HSt hf
                go_upto_region 12 with fail
                have f_cc0 := fun u : Over w2 => Over.cell cc0 u
                have f_cc2 := fun u : Over w2 => Over.cell cc2 u
                have f_cc5 := fun u : Over w2 => Over.cell cc5 u
                refine wp_region_over (by kernel_rfl) (by kernel_rfl) ?_
                (try simp only [Act.put, List.setIfInBounds_toArray, List.set_cons_zero, List.set_cons_succ])
                repeat (first
                  | ((with_reducible show wpQuiet _ _ _ _ (⟨some 46, _, _, _, _, _⟩ :: _) _); refine wpQuiet_load_row (by first | rfl | go_simp) rowDm (.tmp 45) rfl b1 (o1 + k * 2) rfl D.cs rfl hb1 HR1.out ?_; simp only [Act.put, List.setIfInBounds_toArray, List.set_cons_zero, List.set_cons_succ])
                  | go_big_quiet_step (((go_at_call 68; rename_i u; exact calls_over (has_any D pb _ (HDr.out.mono u.bel))))))
                refine wpQuiet_nil ?_
                rintro w5 ⟨⟨_, hw5⟩, rfl⟩
                (try dsimp only)
                replace H := Lib.hid (H.out.bel hw5); (try simp only [List.set_cons_zero, List.set_cons_succ, List.cons_append, List.nil_append, List.eraseIdx_cons_zero, List.eraseIdx_cons_succ, List.setIfInBounds_toArray, World.size_alloc, selR, List.getD_cons_zero, List.getD_cons_succ] at H)
                clear f_cc0 f_cc2 f_cc5 cc0 cc2 cc5

                go_wp2
                go_ret
                rw [HN.out]
                exact ⟨rfl, H.out.to⟩
            | false =>
              by_cases hb : pb = 0
              · have HN : Hid (askErr ⟨ds.map Dm.con, ms⟩ (ps.map Pk.con) = picksErr ((ds.map Dm.con).drop (k + 1)) ((ps.map Pk.con).drop (k + 1))) := by
                  have hpe : pickErr D.con ⟨pf, pt, lo, hi, set, false, pb⟩ = 0 := by unfold pickErr hasT; have h9 := hDl.out; rw [if_neg (by rw [hf]; omega), if_neg (by simp [hb])]
                  show _ = _
                  rw [HB.out, HSt.out, hpe, if_neg (by omega)]
                subst hb
                clear HB HSt hf
                go_upto_region 12 with fail
                have f_cc0 := fun u : Over w2 => Over.cell cc0 u
                have f_cc2 := fun u : Over w2 => Over.cell cc2 u
                have f_cc5 := fun u : Over w2 => Over.cell cc5 u
                refine wp_region_over (by kernel_rfl) (by kernel_rfl) ?_
                (try simp only [Act.put, List.setIfInBounds_toArray, List.set_cons_zero, List.set_cons_succ])
                repeat (first
                  | ((with_reducible show wpQuiet _ _ _ _ (⟨some 46, _, _, _, _, _⟩ :: _) _); refine wpQuiet_load_row (by first | rfl | go_simp) rowDm (.tmp 45) rfl b1 (o1 + k * 2) rfl D.cs rfl hb1 HR1.out ?_; simp only [Act.put, List.setIfInBounds_toArray, List.set_cons_zero, List.set_cons_succ])
                  | go_big_quiet_step (((go_at_call 68; rename_i u; exact calls_over (has_any D pb _ (HDr.out.mono u.bel))))))
                refine wpQuiet_nil ?_
                rintro w5 ⟨⟨_, hw5⟩, rfl⟩
                (try dsimp only)
                replace H := Lib.hid (H.out.bel hw5); (try simp only [List.set_cons_zero, List.set_cons_succ, List.cons_append, List.nil_append, List.eraseIdx_cons_zero, List.eraseIdx_cons_succ, List.setIfInBounds_toArray, World.size_alloc, selR, List.getD_cons_zero, List.getD_cons_succ] at H)
                clear f_cc0 f_cc2 f_cc5 cc0 cc2 cc5

                replace H := Lib.hid (H.out.sel [0, 1] (by decide) (by simp)); (try simp only [List.set_cons_zero, List.set_cons_succ, List.cons_append, List.nil_append, List.eraseIdx_cons_zero, List.eraseIdx_cons_succ, List.setIfInBounds_toArray, World.size_alloc, selR, List.getD_cons_zero, List.getD_cons_succ] at H)
                go_wp2
                go_roundg (m - (k + 1))
                case rel => exact ⟨k + 1, rfl, by omega, by go_num, H, HN⟩
                case measure => rw [Hgk.out]; omega
              · have HN : Hid (askErr ⟨ds.map Dm.con, ms⟩ (ps.map Pk.con) = 2) := by
                  have hpe : pickErr D.con ⟨pf, pt, lo, hi, set, false, pb⟩ = 2 := by unfold pickErr hasT; have h9 := hDl.out; rw [if_neg (by rw [hf]; omega), if_pos (Or.inr ⟨rfl, hb⟩)]
                  show _ = _
                  rw [HB.out, HSt.out, hpe, if_pos (by omega)]
                have z1 : (pb != 0) = true := by simpa using hb
                have z2 : (pb == 0) = false := by simpa using hb
                clear HB HSt hf
                go_upto_region 12 with fail
                have f_cc0 := fun u : Over w2 => Over.cell cc0 u
                have f_cc2 := fun u : Over w2 => Over.cell cc2 u
                have f_cc5 := fun u : Over w2 => Over.cell cc5 u
                refine wp_region_over (by kernel_rfl) (by kernel_rfl) ?_
                (try simp only [Act.put, List.setIfInBounds_toArray, List.set_cons_zero, List.set_cons_succ])
                repeat (first
                  | ((with_reducible show wpQuiet _ _ _ _ (⟨some 46, _, _, _, _, _⟩ :: _) _); refine wpQuiet_load_row (by first | rfl | go_simp) rowDm (.tmp 45) rfl b1 (o1 + k * 2) rfl D.cs rfl hb1 HR1.out ?_; simp only [Act.put, List.setIfInBounds_toArray, List.set_cons_zero, List.set_cons_succ])
                  | go_big_quiet_step (((go_at_call 68; rename_i u; exact calls_over (has_any D pb _ (HDr.out.mono u.bel))))))
                refine wpQuiet_nil ?_
                rintro w5 ⟨⟨_, hw5⟩, rfl⟩
                (try dsimp only)
                replace H := Lib.hid (H.out.bel hw5); (try simp only [List.set_cons_zero, List.set_cons_succ, List.cons_append, List.nil_append, List.eraseIdx_cons_zero, List.eraseIdx_cons_succ, List.setIfInBounds_toArray, World.size_alloc, selR, List.getD_cons_zero, List.getD_cons_succ] at H)
                clear f_cc0 f_cc2 f_cc5 cc0 cc2 cc5

                go_wp2
                go_ret
                rw [HN.out]
                exact ⟨rfl, H.out.to⟩
          · have HN : Hid (askErr ⟨ds.map Dm.con, ms⟩ (ps.map Pk.con) = filtErr D.con p.con) := by
              have hpe : pickErr D.con p.con = filtErr D.con p.con := by unfold pickErr; rw [if_pos hf]
              show _ = _
              rw [HB.out, HSt.out, hpe, if_pos hf]
            have z1 : (filtErr D.con p.con != 0) = true := by simpa using hf
            have z2 : (filtErr D.con p.con == 0) = false := by simpa using hf
            clear HB HSt hf
            go_wp2
            go_ret
            rw [HN.out]
            exact ⟨rfl, H.out.to⟩
        · have HN : Hid (askErr ⟨ds.map Dm.con, ms⟩ (ps.map Pk.con) = 0) := by
            show _ = _; rw [HB.out, List.drop_of_length_le (by have := hl1.out; simp only [List.length_map] at this ⊢; omega)]; rfl
          clear HB
          go_wp2
          go_ret
          rw [HN.out]
          exact ⟨rfl, H.out.to⟩
    · have HN : Hid (askErr ⟨ds.map Dm.con, ms⟩ (ps.map Pk.con) = 2) := by show _ = _; rw [HE0.out, if_pos (by have := hl1.out; have := hl2.out; simp only [List.length_map] at this ⊢; omega)]
      have g1 : ((m : Int) != (n : Int)) = true := by simp <;> omega
      have g2 : (m != n) = true := by simp <;> omega
      clear hE HE0
      go_wp2
      go_ret
      rw [HN.out]
      exact ⟨rfl, H.out.to⟩
  · have HN : Hid (askErr ⟨ds.map Dm.con, ms⟩ (ps.map Pk.con) = schErr ⟨ds.map Dm.con, ms⟩) := by show _ = _; unfold askErr; rw [if_pos hE]
    have z1 : (schErr ⟨ds.map Dm.con, ms⟩ != 0) = true := by simpa using hE
    have z2 : (schErr ⟨ds.map Dm.con, ms⟩ == 0) = false := by simpa using hE
    clear hE
    go_wp2
    go_ret
    rw [HN.out]
    exact ⟨rfl, H.out.to⟩

end Go.Proofs.Ytelnhhbefdfeoaa
