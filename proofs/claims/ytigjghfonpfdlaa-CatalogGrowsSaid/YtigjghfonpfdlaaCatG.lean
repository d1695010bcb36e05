/- The document's Grow. -/
import Derived.Test.YtigjghfonpfdlaaCatF
namespace Go.Proofs.Ytigjghfonpfdlaa
open Go.RowKit
set_option linter.unusedVariables false
set_option linter.unusedSimpArgs false


theorem cell_bel {w w' : World} (hb : Bel w w') {p : Addr} {v : Value} (h : w.cell? p = some v) : w'.cell? p = some v := by rw [hb.cell (World.block_lt_of_cell? _ _ h)]; exact h
set_option maxRecDepth 100000 in
set_option maxHeartbeats 8000000 in
theorem rcatgrow_any (s : Ct) (r : Row (Row Int)) (w : World) (hs : s.rd w) (hm : SmS s.sc) (hr : r.rd w) (hrn : r.n ≤ 1000000) :
    Calls Try.prog 21 #[.agg s.cs, .slice r.A r.n r.c] w (CatPost (catGrow s.con (r.l.map (·.l))) w) := by
  have HC := Lib.hid (fun w' (hb : Bel w w') => catwrong_any s w' (hs.mono hb) hm)
  have HSC := Lib.hid hs.sc
  have HSM := Lib.hid hm
  have HRW := Lib.hid hr
  have HRA : Hid (∀ y ∈ r.l, ∀ w', Bel w w' → y.rd w') := fun y hy w' hb => (hr.all y hy).rds.mono hb
  have hrl : Hid (r.l.length = r.n) := hr.len
  have hml : Hid (s.sc.ms.l.length = s.sc.ms.n) := hs.sc.ms.len
  have H := Lib.hid (((SL.start No w).alloc s.cs 40).alloc #[.slice none 0 0, .slice none 0 0, .int .i64 0, .int .i64 0, .int .i64 0, .int .i64 0, .int .i64 0, .int .i64 0, .int .i64 0] 40)
  (try simp only [List.set_cons_zero, List.set_cons_succ, List.cons_append, List.nil_append, List.eraseIdx_cons_zero, List.eraseIdx_cons_succ, List.setIfInBounds_toArray, World.size_alloc, selR, List.getD_cons_zero, List.getD_cons_succ] at H)
  have hfa := hs.fa
  unfold I64 at hfa
  have HI0 : Hid (I64 s.p0 ∧ I64 s.q0 ∧ I64 s.p1 ∧ I64 s.q1 ∧ I64 s.p2 ∧ I64 s.q2) := ⟨hs.p0, hs.q0, hs.p1, hs.q1, hs.p2, hs.q2⟩
  generalize hO : catGrow s.con (r.l.map (·.l)) = O
  have HO := Lib.hid hO
  clear hO
  obtain ⟨⟨⟨A, n, c, ds⟩, ⟨MA, mn, mc, ms⟩⟩, fa, p0, q0, p1, q1, p2, q2⟩ := s
  obtain ⟨RA, rn, rc, rs⟩ := r
  simp only [Ct.cs, Sch.cs, Ct.con, Sch.con] at *
  obtain ⟨f1, f2⟩ := hfa
  clear hs hm hr
  go_enter Try.func21, Try.ntmps21
  go_upto_region 1 with fail
  generalize w.heap.size + 1 = y at *
  generalize w.heap.size = x at *
  generalize World.alloc (World.alloc _ _) _ = w1 at *
  go_wp2_with ((with_reducible show wpList _ _ _ (⟨some 11, _, _, _, _, _⟩ :: _) _ _); (refine wpList_load_blk rfl rowCt (.tmp 2) rfl _ rfl (H.out.blk 0 rfl) rfl ?_))
  refine (HC.out _ H.out.to).mono ?_; rintro e w2 ⟨rfl, hb2⟩
  replace H := Lib.hid (H.out.bel hb2); (try simp only [List.set_cons_zero, List.set_cons_succ, List.cons_append, List.nil_append, List.eraseIdx_cons_zero, List.eraseIdx_cons_succ, List.setIfInBounds_toArray, World.size_alloc, selR, List.getD_cons_zero, List.getD_cons_succ] at H)
  clear hb2 HC
  by_cases hE : catErr ⟨⟨ds.map Dm.con, ms⟩, fa, p0, q0, p1, q1, p2, q2⟩ = 0
  · obtain ⟨g1, g2, g3⟩ := catErr_zero hE
    have hm3 : mn ≤ 3 := by have h : ms.length ≤ 3 := (schErr_zero g1).2.2.2.2.1; have := hml.out; omega
    simp only at g2 g3
    by_cases h4 : 4000 < fa + rn
    · have HO2 : Hid (O = (CC.nil, 6)) := by have h := HO.out; unfold catGrow at h; rw [if_neg (by simp [hE]), if_pos (by rw [List.length_map, hrl.out]; exact h4)] at h; exact h.symm
      have e1 : decide (4000 < fa + (rn : Int)) = true := decide_eq_true (by omega)
      rw [hE]
      have c2 := (H.out.blk 0 rfl).cell 2; simp only [List.getElem?_toArray, List.getElem?_cons_zero, List.getElem?_cons_succ] at c2
      clear hE g1 HO
      go_wp2_with ((with_reducible show wpList _ _ _ (⟨_, .store _ (.tmp 4) _, _, _, _, _⟩ :: _) _ _); (refine wpList_store_blk rfl rowCt (.tmp 4) (.tmp 23) rfl _ rfl (H.out.blk 1 rfl) rfl (#[.slice none 0 0, .slice none 0 0, .int .i64 0, .int .i64 0, .int .i64 0, .int .i64 0, .int .i64 0, .int .i64 0, .int .i64 0]) rfl rfl (by simp [Value.oneCell']) ?_; intro wq bq hgq; replace H := Lib.hid (H.out.setBlk 1 rfl hgq bq); (try simp only [List.set_cons_zero, List.set_cons_succ, List.cons_append, List.nil_append, List.eraseIdx_cons_zero, List.eraseIdx_cons_succ, List.setIfInBounds_toArray, World.size_alloc, selR, List.getD_cons_zero, List.getD_cons_succ] at H); clear hgq bq))
      refine bodyPost_ret (results_blk rfl rowCt rfl (H.out.blk 1 rfl) rfl) rfl ?_
      rw [HO2.out]
      exact catPost_nil H.out.to
    · have HO4 : Hid (O = cfin rn (crows mn ⟨⟨ds.map Dm.con, ms⟩, fa, p0, q0, p1, q1, p2, q2⟩ (rs.map (·.l)))) := by have h := HO.out; unfold catGrow at h; rw [if_neg (by simp [hE]), if_neg (by rw [List.length_map, hrl.out]; exact h4)] at h; rw [← h, List.length_map, hrl.out]; show cfin rn (crows ms.length _ _) = _; rw [hml.out]
      have e1 : decide (4000 < fa + (rn : Int)) = false := decide_eq_false (by omega)
      rw [hE]
      have c2 := (H.out.blk 0 rfl).cell 2; simp only [List.getElem?_toArray, List.getElem?_cons_zero, List.getElem?_cons_succ] at c2
      clear hE g1 HO
      go_wp2_with fail
      clear c2 e1
      have HOR : Hid (∀ o, crows mn ⟨⟨ds.map Dm.con, ms⟩, fa, p0, q0, p1, q1, p2, q2⟩ (rs.map (·.l)) = o → cfin rn o = O) := fun o ho => by rw [HO4.out, ho]
      have HRR : Hid (crows mn ⟨⟨ds.map Dm.con, ms⟩, fa, p0, q0, p1, q1, p2, q2⟩ (rs.map (·.l)) = crows mn ⟨⟨ds.map Dm.con, ms⟩, fa, p0, q0, p1, q1, p2, q2⟩ ((rs.map (·.l)).drop 0)) := rfl
      clear HO4
      go_loopg [26] rn (fun gg i wr => ∃ (k : Nat) (P0 Q0 P1 Q1 P2 Q2 : Int), gg = rn - k ∧ k ≤ rn ∧ i = .int .i64 k ∧ Hid (SL No w wr [rBlk x 40 #[.slice A n c, .slice MA mn mc, .int .i64 fa, .int .i64 P0, .int .i64 Q0, .int .i64 P1, .int .i64 Q1, .int .i64 P2, .int .i64 Q2], rBlk y 40 #[.slice none 0 0, .slice none 0 0, .int .i64 0, .int .i64 0, .int .i64 0, .int .i64 0, .int .i64 0, .int .i64 0, .int .i64 0]]) ∧ Hid (crows mn ⟨⟨ds.map Dm.con, ms⟩, fa, p0, q0, p1, q1, p2, q2⟩ (rs.map (·.l)) = crows mn ⟨⟨ds.map Dm.con, ms⟩, fa, P0, Q0, P1, Q1, P2, Q2⟩ ((rs.map (·.l)).drop k)) ∧ Hid (I64 P0 ∧ I64 Q0 ∧ I64 P1 ∧ I64 Q1 ∧ I64 P2 ∧ I64 Q2))
      case atStart => exact ⟨0, p0, q0, p1, q1, p2, q2, rfl, by omega, rfl, H, HRR, HI0⟩
      case round =>
        clear H HRR HI0
        obtain ⟨k, P0, Q0, P1, Q1, P2, Q2, hgk, hk, rfl, H, HRR, hI⟩ := hrel
        have Hgk := Lib.hid hgk
        clear hgk
        by_cases hlt : k < rn
        · obtain ⟨bb, oo, yr, hA, hyk, hyok, q1'⟩ := (HRW.out.mono H.out.to).slRow (k := k) hlt
          simp only at hA
          subst hA
          have HYK : Hid ((rs.map (·.l))[k]? = some yr.l) := by show _ = _; rw [List.getElem?_map, hyk]; rfl
          have HYR := Lib.hid (fun w' (hb : Bel w w') => (HRA.out yr (List.mem_of_getElem? hyk) w' hb))
          have HYL : Hid (yr.l.length = yr.n) := hyok.rds.len
          have y63 := hyok.rds.n63
          have i0 : (0 : Int) ≤ k := by omega
          have i1 : (k : Int) < rn := by omega
          clear hyk hyok
          obtain ⟨YA, yn, yc, ys⟩ := yr
          simp only at *
          have cm0 := (H.out.blk 0 rfl).cell 1; simp only [List.getElem?_toArray, List.getElem?_cons_zero, List.getElem?_cons_succ] at cm0
          by_cases hyn : yn = mn
          · obtain rfl : mn = yn := hyn.symm
            have e1 : (((mn : Nat) : Int) != mn) = false := by simp
            go_wp2_with fail
            clear cm0 e1 q1'
            have HRI : Hid (crow ⟨⟨ds.map Dm.con, ms⟩, fa, P0, Q0, P1, Q1, P2, Q2⟩ 0 ys = crow ⟨⟨ds.map Dm.con, ms⟩, fa, P0, Q0, P1, Q1, P2, Q2⟩ 0 (ys.drop 0)) := rfl
            have hI0 := hI
            have HRR0 := HRR
            clear hI HRR
            generalize hC1 : (⟨⟨ds.map Dm.con, ms⟩, fa, P0, Q0, P1, Q1, P2, Q2⟩ : CC) = C1 at HRR0 HRI
            have HC1 := Lib.hid hC1
            clear hC1
            replace HRI : Hid (crow C1 0 ys = crow ⟨⟨ds.map Dm.con, ms⟩, fa, P0, Q0, P1, Q1, P2, Q2⟩ 0 (ys.drop 0)) := by show _ = _; rw [HC1.out]; exact HRI.out
            go_loopg [40] mn (fun gg i wr => ∃ (j : Nat) (P0 Q0 P1 Q1 P2 Q2 : Int), gg = mn - j ∧ j ≤ mn ∧ i = .int .i64 j ∧ Hid (SL No w wr [rBlk x 40 #[.slice A n c, .slice MA mn mc, .int .i64 fa, .int .i64 P0, .int .i64 Q0, .int .i64 P1, .int .i64 Q1, .int .i64 P2, .int .i64 Q2], rBlk y 40 #[.slice none 0 0, .slice none 0 0, .int .i64 0, .int .i64 0, .int .i64 0, .int .i64 0, .int .i64 0, .int .i64 0, .int .i64 0]]) ∧ Hid (crow C1 0 ys = crow ⟨⟨ds.map Dm.con, ms⟩, fa, P0, Q0, P1, Q1, P2, Q2⟩ j (ys.drop j)) ∧ Hid (I64 P0 ∧ I64 Q0 ∧ I64 P1 ∧ I64 Q1 ∧ I64 P2 ∧ I64 Q2))
            case atStart => exact ⟨0, P0, Q0, P1, Q1, P2, Q2, rfl, by omega, rfl, H, HRI, hI0⟩
            case round =>
              clear H HRI hI0 HC1
              obtain ⟨j, P0, Q0, P1, Q1, P2, Q2, hgj, hj, rfl, H, HRI, hI⟩ := hrel
              have Hgj := Lib.hid hgj
              clear hgj
              by_cases hjlt : j < mn
              · obtain ⟨b2, o2, v, hA, hyv, hv, q2⟩ := (HYR.out w (Bel.refl w)).intAt (k := j) hjlt
                simp only at hA
                subst hA
                have HRD := Lib.hid (fun w' (hb : Bel w w') => cell_bel hb q2)
                have q2' := HRD.out _ H.out.to
                have HYV := Lib.hid hyv
                have HV := Lib.hid hv
                clear hyv hv q2
                have j0 : (0 : Int) ≤ j := by omega
                have j1 : (j : Int) < mn := by omega
                obtain rfl | rfl | rfl : j = 0 ∨ j = 1 ∨ j = 2 := by omega
                · rw [show ((0 : Nat) : Int) = 0 from rfl] at j0 j1 ⊢
                  rw [Nat.add_zero] at q2'
                  by_cases hv0 : v < 0
                  · have HV0 : Hid (v < 0) := hv0
                    have dv : decide (v < 0) = true := decide_eq_true hv0
                    go_upto_region 16 with fail
                    (try simp only [Act.put, List.setIfInBounds_toArray, List.set_cons_zero, List.set_cons_succ])
                    clear q2' dv
                    have HU6 : Hid (I64 (xadd Q0 v).1) := xadd_i64
                    have HG := Lib.hid (fun w => radd_any Q0 v w hI.out.2.1 HV.out)
                    have HU : Hid (cupd ⟨⟨ds.map Dm.con, ms⟩, fa, P0, Q0, P1, Q1, P2, Q2⟩ 0 v = (if (xadd Q0 v).2 then ⟨⟨ds.map Dm.con, ms⟩, fa, P0, (xadd Q0 v).1, P1, Q1, P2, Q2⟩ else (cupd ⟨⟨ds.map Dm.con, ms⟩, fa, P0, Q0, P1, Q1, P2, Q2⟩ 0 v).1, (xadd Q0 v).2)) := by
                      show _ = _
                      refine Prod.ext ?_ (by show (egrow P0 Q0 v).2 = _; unfold egrow; rw [if_pos HV0.out])
                      cases hx : (xadd Q0 v).2
                      · rfl
                      · show (⟨_, _, (egrow P0 Q0 v).1.1, (egrow P0 Q0 v).1.2, _, _, _, _⟩ : CC) = _
                        have he : egrow P0 Q0 v = ((P0, (xadd Q0 v).1), true) := by unfold egrow; rw [if_pos HV0.out, hx]; rfl
                        rw [he]
                        rfl
                    generalize xadd Q0 v = G at *
                    obtain ⟨u, ok⟩ := G
                    simp only at HG HU HU6
                    refine wp_region_held_drew (S := fun w => w.cell? ⟨b2, o2, none⟩ = some (.int .i64 v)) (by kernel_rfl) (by first | exact HRD.out _ H.out.to | exact HRD.out _ H.out.drew.to) (fun hHeld => ?_)
                    replace H := Lib.hid (H.out.drew); (try simp only [List.set_cons_zero, List.set_cons_succ, List.cons_append, List.nil_append, List.eraseIdx_cons_zero, List.eraseIdx_cons_succ, List.setIfInBounds_toArray, World.size_alloc, selR, List.getD_cons_zero, List.getD_cons_succ] at H)
                    refine wpAnyH_take (i := 0) (v := ?vq1_0) (get_o0) (by kernel_rfl) (by kernel_rfl) (by kernel_rfl) (by exact fun _ _ _ h => h) (Or.inl ⟨by rfl, ?hyq1_0⟩) (by assumption) ?_
                    case hyq1_0 => (intro w hSw; (try dsimp only at hSw); go_simp) <;> with_reducible rfl
                    try simp only [Act.put, List.setIfInBounds_toArray, List.set_cons_zero, List.set_cons_succ]
                    refine wpAnyH_take (i := 1) (v := ?vq1_1) (get_os (get_o0)) (by kernel_rfl) (by kernel_rfl) (by kernel_rfl) (by exact fun _ _ _ h => h) (Or.inl ⟨by rfl, ?hyq1_1⟩) (by assumption) ?_
                    case hyq1_1 => (intro w hSw; (try dsimp only at hSw); go_simp) <;> with_reducible rfl
                    try simp only [Act.put, List.setIfInBounds_toArray, List.set_cons_zero, List.set_cons_succ]
                    refine wpAnyH_take (i := 2) (v := ?vq1_2) (get_os (get_os (get_o0))) (by kernel_rfl) (by kernel_rfl) (by kernel_rfl) (by exact fun _ _ _ h => h) (Or.inl ⟨by rfl, ?hyq1_2⟩) (by assumption) ?_
                    case hyq1_2 => (intro w hSw; (try dsimp only at hSw); go_simp) <;> with_reducible rfl
                    try simp only [Act.put, List.setIfInBounds_toArray, List.set_cons_zero, List.set_cons_succ]
                    refine wpAnyH_take (i := 3) (v := ?vq1_3) (get_os (get_os (get_os (get_o0)))) (by kernel_rfl) (by kernel_rfl) (by kernel_rfl) (by exact fun _ _ _ h => h) (Or.inl ⟨by rfl, ?hyq1_3⟩) (by assumption) ?_
                    case hyq1_3 => (intro w hSw; (try dsimp only at hSw); go_simp) <;> with_reducible rfl
                    try simp only [Act.put, List.setIfInBounds_toArray, List.set_cons_zero, List.set_cons_succ]
                    refine wpAnyH_take (i := 4) (v := ?vq1_4) (get_os (get_os (get_os (get_os (get_o0))))) (by kernel_rfl) (by kernel_rfl) (by kernel_rfl) (by exact fun _ _ _ h => h) (Or.inl ⟨by rfl, ?hyq1_4⟩) (by assumption) ?_
                    case hyq1_4 => (intro w hSw; (try dsimp only at hSw); go_simp) <;> with_reducible rfl
                    try simp only [Act.put, List.setIfInBounds_toArray, List.set_cons_zero, List.set_cons_succ]
                    refine wpAnyH_take (i := 6) (v := ?vq1_6) (get_os (get_os (get_os (get_os (get_os (get_os (get_o0))))))) (by kernel_rfl) (by kernel_rfl) (by kernel_rfl) (by exact fun _ _ _ h => h) (Or.inl ⟨by rfl, ?hyq1_6⟩) (by assumption) ?_
                    case hyq1_6 => (intro w hSw; (try dsimp only at hSw); go_simp) <;> with_reducible rfl
                    try simp only [Act.put, List.setIfInBounds_toArray, List.set_cons_zero, List.set_cons_succ]
                    refine wpAnyH_take (i := 7) (v := ?vq1_7) (get_os (get_os (get_os (get_os (get_os (get_os (get_os (get_o0)))))))) (by kernel_rfl) (by kernel_rfl) (by kernel_rfl) (by exact fun _ _ _ h => h) (Or.inl ⟨by rfl, ?hyq1_7⟩) (by assumption) ?_
                    case hyq1_7 => (intro w hSw; (try dsimp only at hSw); go_simp) <;> with_reducible rfl
                    try simp only [Act.put, List.setIfInBounds_toArray, List.set_cons_zero, List.set_cons_succ]
                    refine wpAnyH_take (i := 8) (v := ?vq1_8) (get_os (get_os (get_os (get_os (get_os (get_os (get_os (get_os (get_o0))))))))) (by kernel_rfl) (by kernel_rfl) (by kernel_rfl) (by exact fun _ _ _ h => h) (Or.inl ⟨by rfl, ?hyq1_8⟩) (by assumption) ?_
                    case hyq1_8 => (intro w hSw; (try dsimp only at hSw); go_simp) <;> with_reducible rfl
                    try simp only [Act.put, List.setIfInBounds_toArray, List.set_cons_zero, List.set_cons_succ]
                    refine wpAnyH_take (i := 9) (v := ?vq1_9) (get_os (get_os (get_os (get_os (get_os (get_os (get_os (get_os (get_os (get_o0)))))))))) (by kernel_rfl) (by kernel_rfl) (by kernel_rfl) (by exact fun _ _ _ h => h) (Or.inl ⟨by rfl, ?hyq1_9⟩) (by assumption) ?_
                    case hyq1_9 => (intro w hSw; (try dsimp only at hSw); go_simp) <;> with_reducible rfl
                    try simp only [Act.put, List.setIfInBounds_toArray, List.set_cons_zero, List.set_cons_succ]
                    refine wpAnyH_take (i := 14) (v := ?vq1_14) (get_ot (get_os (get_os (get_os (get_os (get_o0)))))) (by kernel_rfl) (by kernel_rfl) (by kernel_rfl) (by exact fun _ _ _ h => h) (Or.inl ⟨by rfl, ?hyq1_14⟩) (by assumption) ?_
                    case hyq1_14 => (intro w hSw; (try dsimp only at hSw); go_simp) <;> with_reducible rfl
                    try simp only [Act.put, List.setIfInBounds_toArray, List.set_cons_zero, List.set_cons_succ]
                    refine wpAnyH_ready (rs := [5]) (by kernel_rfl) (by simp) ?_
                    refine (AllReadyH.cons (get_os (get_os (get_os (get_os (get_os (get_o0)))))) (fun KK hKK => ?_) AllReadyH.nil)
                    generalize World.drew _ = w7 at *
                    have cz := (H.out.blk 0 rfl).cell 4; simp only [List.getElem?_toArray, List.getElem?_cons_zero, List.getElem?_cons_succ] at cz
                    go_simp
                    clear cz
                    refine hKK.out _ _ (by first | exact HRD.out _ H.out.to | exact HRD.out _ H.out.drew.to) (fun hHeld => ?_)
                    clear hKK KK
                    try simp only [Act.put, List.setIfInBounds_toArray, List.set_cons_zero, List.set_cons_succ]
                    refine wpAnyH_ready (rs := [10]) (by kernel_rfl) (by simp) ?_
                    refine (AllReadyH.cons (get_ot (get_o0)) (fun KK hKK => ?_) AllReadyH.nil)
                    go_simp
                    refine (HG.out _).mono ?_; rintro e' w6 ⟨rfl, rfl⟩
                    refine hKK.out _ _ (by first | exact HRD.out _ H.out.to | exact HRD.out _ H.out.drew.to) (fun hHeld => ?_)
                    clear hKK KK
                    try simp only [Act.put, List.setIfInBounds_toArray, List.set_cons_zero, List.set_cons_succ]
                    refine wpAnyH_take (i := 11) (v := ?vq2_) (get_ot (get_os (get_o0))) (by kernel_rfl) (by kernel_rfl) (by kernel_rfl) (by exact fun _ _ _ h => h) (Or.inl ⟨by rfl, ?hyq2_⟩) (by assumption) ?_
                    case hyq2_ => (intro w hSw; (try dsimp only at hSw); go_simp) <;> with_reducible rfl
                    try simp only [Act.put, List.setIfInBounds_toArray, List.set_cons_zero, List.set_cons_succ]
                    refine wpAnyH_take (i := 12) (v := ?vq3_) (get_ot (get_os (get_os (get_o0)))) (by kernel_rfl) (by kernel_rfl) (by kernel_rfl) (by exact fun _ _ _ h => h) (Or.inl ⟨by rfl, ?hyq3_⟩) (by assumption) ?_
                    case hyq3_ => (intro w hSw; (try dsimp only at hSw); go_simp) <;> with_reducible rfl
                    try simp only [Act.put, List.setIfInBounds_toArray, List.set_cons_zero, List.set_cons_succ]
                    refine wpAnyH_take (i := 13) (v := ?vq4_) (get_ot (get_os (get_os (get_os (get_o0))))) (by kernel_rfl) (by kernel_rfl) (by kernel_rfl) (by exact fun _ _ _ h => h) (Or.inl ⟨by rfl, ?hyq4_⟩) (by assumption) ?_
                    case hyq4_ => (intro w hSw; (try dsimp only at hSw); go_simp) <;> with_reducible rfl
                    try simp only [Act.put, List.setIfInBounds_toArray, List.set_cons_zero, List.set_cons_succ]
                    refine wpAnyH_take (i := 15) (v := ?vq5_) (get_ot (get_os (get_os (get_os (get_os (get_os (get_o0))))))) (by kernel_rfl) (by kernel_rfl) (by kernel_rfl) (by exact fun _ _ _ h => h) (Or.inl ⟨by rfl, ?hyq5_⟩) (by assumption) ?_
                    case hyq5_ => (intro w hSw; (try dsimp only at hSw); go_simp) <;> with_reducible rfl
                    try simp only [Act.put, List.setIfInBounds_toArray, List.set_cons_zero, List.set_cons_succ]
                    refine wpAnyH_take (i := 16) (v := ?vq6_) (get_ot (get_os (get_os (get_os (get_os (get_os (get_os (get_o0)))))))) (by kernel_rfl) (by kernel_rfl) (by kernel_rfl) (by exact fun _ _ _ h => h) (Or.inl ⟨by rfl, ?hyq6_⟩) (by assumption) ?_
                    case hyq6_ => (intro w hSw; (try dsimp only at hSw); go_simp) <;> with_reducible rfl
                    try simp only [Act.put, List.setIfInBounds_toArray, List.set_cons_zero, List.set_cons_succ]
                    refine wpAnyH_ready (rs := [17]) (by kernel_rfl) (by simp) ?_
                    refine (AllReadyH.cons (get_ot (get_os (get_os (get_os (get_os (get_os (get_os (get_os (get_o0))))))))) (fun KK hKK => ?_) AllReadyH.nil)
                    have cz := (H.out.blk 0 rfl).cell 4; simp only [List.getElem?_toArray, List.getElem?_cons_zero, List.getElem?_cons_succ] at cz; have fz := (H.out.blk 0 rfl).frozen 4
                    go_simp
                    replace H := Lib.hid (H.out.setCell 0 rfl 4 (.int .i64 u)); (try simp only [List.set_cons_zero, List.set_cons_succ, List.cons_append, List.nil_append, List.eraseIdx_cons_zero, List.eraseIdx_cons_succ, List.setIfInBounds_toArray, World.size_alloc, selR, List.getD_cons_zero, List.getD_cons_succ] at H)
                    clear cz fz
                    refine hKK.out _ _ (by first | exact HRD.out _ H.out.to | exact HRD.out _ H.out.drew.to) (fun hHeld => ?_)
                    clear hKK KK
                    try simp only [Act.put, List.setIfInBounds_toArray, List.set_cons_zero, List.set_cons_succ]
                    refine wpAnyH_ready (rs := [18]) (by kernel_rfl) (by simp) ?_
                    refine (AllReadyH.cons (get_ot (get_os (get_os (get_os (get_os (get_os (get_os (get_os (get_os (get_o0)))))))))) (fun KK hKK => ?_) AllReadyH.nil)
                    go_simp
                    refine hKK.out _ _ (by first | exact HRD.out _ H.out.to | exact HRD.out _ H.out.drew.to) (fun hHeld => ?_)
                    clear hKK KK
                    try simp only [Act.put, List.setIfInBounds_toArray, List.set_cons_zero, List.set_cons_succ]
                    refine wpAnyH_done (by kernel_rfl) ?_ _
                    clear hHeld
                    cases ok with
                    | true =>
                      have HR2 : Hid (crow C1 0 ys = crow ⟨⟨ds.map Dm.con, ms⟩, fa, P0, u, P1, Q1, P2, Q2⟩ (0 + 1) (ys.drop (0 + 1))) := by
                        show _ = _
                        rw [HRI.out, drop_get HYV.out, crow_step (by rw [HU.out]), HU.out]
                        rfl
                      have hI2 : Hid (I64 P0 ∧ I64 u ∧ I64 P1 ∧ I64 Q1 ∧ I64 P2 ∧ I64 Q2) := ⟨hI.out.1, HU6.out, hI.out.2.2.1, hI.out.2.2.2.1, hI.out.2.2.2.2.1, hI.out.2.2.2.2.2⟩
                      clear HRI HU
                      go_wp2_with fail
                      go_roundg (mn - (0 + 1))
                      case rel => exact ⟨0 + 1, P0, u, P1, Q1, P2, Q2, rfl, by omega, rfl, H, HR2, hI2⟩
                      case measure => rw [Hgj.out]; omega
                    | false =>
                      have HO3 : Hid (O = (CC.nil, 12)) := by
                        show _ = _
                        refine (HOR.out (CC.nil, 12) (HRR0.out.trans ?_)).symm.trans (cfin_bad (by decide))
                        rw [drop_get HYK.out]
                        refine crows_over HYL.out ?_
                        rw [HRI.out, drop_get HYV.out]
                        exact crow_none (by rw [HU.out])
                      go_wp2_with ((with_reducible show wpList _ _ _ (⟨_, .store _ (.tmp 4) _, _, _, _, _⟩ :: _) _ _); (refine wpList_store_blk rfl rowCt (.tmp 4) (.tmp 84) rfl _ rfl (H.out.blk 1 rfl) rfl (#[.slice none 0 0, .slice none 0 0, .int .i64 0, .int .i64 0, .int .i64 0, .int .i64 0, .int .i64 0, .int .i64 0, .int .i64 0]) rfl rfl (by simp [Value.oneCell']) ?_; intro wq bq hgq; replace H := Lib.hid (H.out.setBlk 1 rfl hgq bq); (try simp only [List.set_cons_zero, List.set_cons_succ, List.cons_append, List.nil_append, List.eraseIdx_cons_zero, List.eraseIdx_cons_succ, List.setIfInBounds_toArray, World.size_alloc, selR, List.getD_cons_zero, List.getD_cons_succ] at H); clear hgq bq))
                      refine bodyPost_ret (results_blk rfl rowCt rfl (H.out.blk 1 rfl) rfl) rfl ?_
                      rw [HO3.out]
                      exact catPost_nil H.out.to
                  · have HV0 : Hid (¬ v < 0) := hv0
                    have dv : decide (v < 0) = false := decide_eq_false hv0
                    go_upto_region 17 with fail
                    (try simp only [Act.put, List.setIfInBounds_toArray, List.set_cons_zero, List.set_cons_succ])
                    clear q2' dv
                    have HU6 : Hid (I64 (xadd P0 v).1) := xadd_i64
                    have HG := Lib.hid (fun w => radd_any P0 v w hI.out.1 HV.out)
                    have HU : Hid (cupd ⟨⟨ds.map Dm.con, ms⟩, fa, P0, Q0, P1, Q1, P2, Q2⟩ 0 v = (if (xadd P0 v).2 then ⟨⟨ds.map Dm.con, ms⟩, fa, (xadd P0 v).1, Q0, P1, Q1, P2, Q2⟩ else (cupd ⟨⟨ds.map Dm.con, ms⟩, fa, P0, Q0, P1, Q1, P2, Q2⟩ 0 v).1, (xadd P0 v).2)) := by
                      show _ = _
                      refine Prod.ext ?_ (by show (egrow P0 Q0 v).2 = _; unfold egrow; rw [if_neg (by have := HV0.out; omega)])
                      cases hx : (xadd P0 v).2
                      · rfl
                      · show (⟨_, _, (egrow P0 Q0 v).1.1, (egrow P0 Q0 v).1.2, _, _, _, _⟩ : CC) = _
                        have he : egrow P0 Q0 v = (((xadd P0 v).1, Q0), true) := by unfold egrow; rw [if_neg (by have := HV0.out; omega), hx]; rfl
                        rw [he]
                        rfl
                    generalize xadd P0 v = G at *
                    obtain ⟨u, ok⟩ := G
                    simp only at HG HU HU6
                    refine wp_region_held_drew (S := fun w => w.cell? ⟨b2, o2, none⟩ = some (.int .i64 v)) (by kernel_rfl) (by first | exact HRD.out _ H.out.to | exact HRD.out _ H.out.drew.to) (fun hHeld => ?_)
                    replace H := Lib.hid (H.out.drew); (try simp only [List.set_cons_zero, List.set_cons_succ, List.cons_append, List.nil_append, List.eraseIdx_cons_zero, List.eraseIdx_cons_succ, List.setIfInBounds_toArray, World.size_alloc, selR, List.getD_cons_zero, List.getD_cons_succ] at H)
                    refine wpAnyH_take (i := 0) (v := ?vq7_0) (get_o0) (by kernel_rfl) (by kernel_rfl) (by kernel_rfl) (by exact fun _ _ _ h => h) (Or.inl ⟨by rfl, ?hyq7_0⟩) (by assumption) ?_
                    case hyq7_0 => (intro w hSw; (try dsimp only at hSw); go_simp) <;> with_reducible rfl
                    try simp only [Act.put, List.setIfInBounds_toArray, List.set_cons_zero, List.set_cons_succ]
                    refine wpAnyH_take (i := 1) (v := ?vq7_1) (get_os (get_o0)) (by kernel_rfl) (by kernel_rfl) (by kernel_rfl) (by exact fun _ _ _ h => h) (Or.inl ⟨by rfl, ?hyq7_1⟩) (by assumption) ?_
                    case hyq7_1 => (intro w hSw; (try dsimp only at hSw); go_simp) <;> with_reducible rfl
                    try simp only [Act.put, List.setIfInBounds_toArray, List.set_cons_zero, List.set_cons_succ]
                    refine wpAnyH_take (i := 2) (v := ?vq7_2) (get_os (get_os (get_o0))) (by kernel_rfl) (by kernel_rfl) (by kernel_rfl) (by exact fun _ _ _ h => h) (Or.inl ⟨by rfl, ?hyq7_2⟩) (by assumption) ?_
                    case hyq7_2 => (intro w hSw; (try dsimp only at hSw); go_simp) <;> with_reducible rfl
                    try simp only [Act.put, List.setIfInBounds_toArray, List.set_cons_zero, List.set_cons_succ]
                    refine wpAnyH_take (i := 3) (v := ?vq7_3) (get_os (get_os (get_os (get_o0)))) (by kernel_rfl) (by kernel_rfl) (by kernel_rfl) (by exact fun _ _ _ h => h) (Or.inl ⟨by rfl, ?hyq7_3⟩) (by assumption) ?_
                    case hyq7_3 => (intro w hSw; (try dsimp only at hSw); go_simp) <;> with_reducible rfl
                    try simp only [Act.put, List.setIfInBounds_toArray, List.set_cons_zero, List.set_cons_succ]
                    refine wpAnyH_take (i := 4) (v := ?vq7_4) (get_os (get_os (get_os (get_os (get_o0))))) (by kernel_rfl) (by kernel_rfl) (by kernel_rfl) (by exact fun _ _ _ h => h) (Or.inl ⟨by rfl, ?hyq7_4⟩) (by assumption) ?_
                    case hyq7_4 => (intro w hSw; (try dsimp only at hSw); go_simp) <;> with_reducible rfl
                    try simp only [Act.put, List.setIfInBounds_toArray, List.set_cons_zero, List.set_cons_succ]
                    refine wpAnyH_take (i := 6) (v := ?vq7_6) (get_os (get_os (get_os (get_os (get_os (get_os (get_o0))))))) (by kernel_rfl) (by kernel_rfl) (by kernel_rfl) (by exact fun _ _ _ h => h) (Or.inl ⟨by rfl, ?hyq7_6⟩) (by assumption) ?_
                    case hyq7_6 => (intro w hSw; (try dsimp only at hSw); go_simp) <;> with_reducible rfl
                    try simp only [Act.put, List.setIfInBounds_toArray, List.set_cons_zero, List.set_cons_succ]
                    refine wpAnyH_take (i := 7) (v := ?vq7_7) (get_os (get_os (get_os (get_os (get_os (get_os (get_os (get_o0)))))))) (by kernel_rfl) (by kernel_rfl) (by kernel_rfl) (by exact fun _ _ _ h => h) (Or.inl ⟨by rfl, ?hyq7_7⟩) (by assumption) ?_
                    case hyq7_7 => (intro w hSw; (try dsimp only at hSw); go_simp) <;> with_reducible rfl
                    try simp only [Act.put, List.setIfInBounds_toArray, List.set_cons_zero, List.set_cons_succ]
                    refine wpAnyH_take (i := 8) (v := ?vq7_8) (get_os (get_os (get_os (get_os (get_os (get_os (get_os (get_os (get_o0))))))))) (by kernel_rfl) (by kernel_rfl) (by kernel_rfl) (by exact fun _ _ _ h => h) (Or.inl ⟨by rfl, ?hyq7_8⟩) (by assumption) ?_
                    case hyq7_8 => (intro w hSw; (try dsimp only at hSw); go_simp) <;> with_reducible rfl
                    try simp only [Act.put, List.setIfInBounds_toArray, List.set_cons_zero, List.set_cons_succ]
                    refine wpAnyH_take (i := 9) (v := ?vq7_9) (get_os (get_os (get_os (get_os (get_os (get_os (get_os (get_os (get_os (get_o0)))))))))) (by kernel_rfl) (by kernel_rfl) (by kernel_rfl) (by exact fun _ _ _ h => h) (Or.inl ⟨by rfl, ?hyq7_9⟩) (by assumption) ?_
                    case hyq7_9 => (intro w hSw; (try dsimp only at hSw); go_simp) <;> with_reducible rfl
                    try simp only [Act.put, List.setIfInBounds_toArray, List.set_cons_zero, List.set_cons_succ]
                    refine wpAnyH_take (i := 14) (v := ?vq7_14) (get_ot (get_os (get_os (get_os (get_os (get_o0)))))) (by kernel_rfl) (by kernel_rfl) (by kernel_rfl) (by exact fun _ _ _ h => h) (Or.inl ⟨by rfl, ?hyq7_14⟩) (by assumption) ?_
                    case hyq7_14 => (intro w hSw; (try dsimp only at hSw); go_simp) <;> with_reducible rfl
                    try simp only [Act.put, List.setIfInBounds_toArray, List.set_cons_zero, List.set_cons_succ]
                    refine wpAnyH_ready (rs := [5]) (by kernel_rfl) (by simp) ?_
                    refine (AllReadyH.cons (get_os (get_os (get_os (get_os (get_os (get_o0)))))) (fun KK hKK => ?_) AllReadyH.nil)
                    generalize World.drew _ = w7 at *
                    have cz := (H.out.blk 0 rfl).cell 3; simp only [List.getElem?_toArray, List.getElem?_cons_zero, List.getElem?_cons_succ] at cz
                    go_simp
                    clear cz
                    refine hKK.out _ _ (by first | exact HRD.out _ H.out.to | exact HRD.out _ H.out.drew.to) (fun hHeld => ?_)
                    clear hKK KK
                    try simp only [Act.put, List.setIfInBounds_toArray, List.set_cons_zero, List.set_cons_succ]
                    refine wpAnyH_ready (rs := [10]) (by kernel_rfl) (by simp) ?_
                    refine (AllReadyH.cons (get_ot (get_o0)) (fun KK hKK => ?_) AllReadyH.nil)
                    go_simp
                    refine (HG.out _).mono ?_; rintro e' w6 ⟨rfl, rfl⟩
                    refine hKK.out _ _ (by first | exact HRD.out _ H.out.to | exact HRD.out _ H.out.drew.to) (fun hHeld => ?_)
                    clear hKK KK
                    try simp only [Act.put, List.setIfInBounds_toArray, List.set_cons_zero, List.set_cons_succ]
                    refine wpAnyH_take (i := 11) (v := ?vq8_) (get_ot (get_os (get_o0))) (by kernel_rfl) (by kernel_rfl) (by kernel_rfl) (by exact fun _ _ _ h => h) (Or.inl ⟨by rfl, ?hyq8_⟩) (by assumption) ?_
                    case hyq8_ => (intro w hSw; (try dsimp only at hSw); go_simp) <;> with_reducible rfl
                    try simp only [Act.put, List.setIfInBounds_toArray, List.set_cons_zero, List.set_cons_succ]
                    refine wpAnyH_take (i := 12) (v := ?vq9_) (get_ot (get_os (get_os (get_o0)))) (by kernel_rfl) (by kernel_rfl) (by kernel_rfl) (by exact fun _ _ _ h => h) (Or.inl ⟨by rfl, ?hyq9_⟩) (by assumption) ?_
                    case hyq9_ => (intro w hSw; (try dsimp only at hSw); go_simp) <;> with_reducible rfl
                    try simp only [Act.put, List.setIfInBounds_toArray, List.set_cons_zero, List.set_cons_succ]
                    refine wpAnyH_take (i := 13) (v := ?vq10_) (get_ot (get_os (get_os (get_os (get_o0))))) (by kernel_rfl) (by kernel_rfl) (by kernel_rfl) (by exact fun _ _ _ h => h) (Or.inl ⟨by rfl, ?hyq10_⟩) (by assumption) ?_
                    case hyq10_ => (intro w hSw; (try dsimp only at hSw); go_simp) <;> with_reducible rfl
                    try simp only [Act.put, List.setIfInBounds_toArray, List.set_cons_zero, List.set_cons_succ]
                    refine wpAnyH_take (i := 15) (v := ?vq11_) (get_ot (get_os (get_os (get_os (get_os (get_os (get_o0))))))) (by kernel_rfl) (by kernel_rfl) (by kernel_rfl) (by exact fun _ _ _ h => h) (Or.inl ⟨by rfl, ?hyq11_⟩) (by assumption) ?_
                    case hyq11_ => (intro w hSw; (try dsimp only at hSw); go_simp) <;> with_reducible rfl
                    try simp only [Act.put, List.setIfInBounds_toArray, List.set_cons_zero, List.set_cons_succ]
                    refine wpAnyH_take (i := 16) (v := ?vq12_) (get_ot (get_os (get_os (get_os (get_os (get_os (get_os (get_o0)))))))) (by kernel_rfl) (by kernel_rfl) (by kernel_rfl) (by exact fun _ _ _ h => h) (Or.inl ⟨by rfl, ?hyq12_⟩) (by assumption) ?_
                    case hyq12_ => (intro w hSw; (try dsimp only at hSw); go_simp) <;> with_reducible rfl
                    try simp only [Act.put, List.setIfInBounds_toArray, List.set_cons_zero, List.set_cons_succ]
                    refine wpAnyH_ready (rs := [17]) (by kernel_rfl) (by simp) ?_
                    refine (AllReadyH.cons (get_ot (get_os (get_os (get_os (get_os (get_os (get_os (get_os (get_o0))))))))) (fun KK hKK => ?_) AllReadyH.nil)
                    have cz := (H.out.blk 0 rfl).cell 3; simp only [List.getElem?_toArray, List.getElem?_cons_zero, List.getElem?_cons_succ] at cz; have fz := (H.out.blk 0 rfl).frozen 3
                    go_simp
                    replace H := Lib.hid (H.out.setCell 0 rfl 3 (.int .i64 u)); (try simp only [List.set_cons_zero, List.set_cons_succ, List.cons_append, List.nil_append, List.eraseIdx_cons_zero, List.eraseIdx_cons_succ, List.setIfInBounds_toArray, World.size_alloc, selR, List.getD_cons_zero, List.getD_cons_succ] at H)
                    clear cz fz
                    refine hKK.out _ _ (by first | exact HRD.out _ H.out.to | exact HRD.out _ H.out.drew.to) (fun hHeld => ?_)
                    clear hKK KK
                    try simp only [Act.put, List.setIfInBounds_toArray, List.set_cons_zero, List.set_cons_succ]
                    refine wpAnyH_ready (rs := [18]) (by kernel_rfl) (by simp) ?_
                    refine (AllReadyH.cons (get_ot (get_os (get_os (get_os (get_os (get_os (get_os (get_os (get_os (get_o0)))))))))) (fun KK hKK => ?_) AllReadyH.nil)
                    go_simp
                    refine hKK.out _ _ (by first | exact HRD.out _ H.out.to | exact HRD.out _ H.out.drew.to) (fun hHeld => ?_)
                    clear hKK KK
                    try simp only [Act.put, List.setIfInBounds_toArray, List.set_cons_zero, List.set_cons_succ]
                    refine wpAnyH_done (by kernel_rfl) ?_ _
                    clear hHeld
                    cases ok with
                    | true =>
                      have HR2 : Hid (crow C1 0 ys = crow ⟨⟨ds.map Dm.con, ms⟩, fa, u, Q0, P1, Q1, P2, Q2⟩ (0 + 1) (ys.drop (0 + 1))) := by
                        show _ = _
                        rw [HRI.out, drop_get HYV.out, crow_step (by rw [HU.out]), HU.out]
                        rfl
                      have hI2 : Hid (I64 u ∧ I64 Q0 ∧ I64 P1 ∧ I64 Q1 ∧ I64 P2 ∧ I64 Q2) := ⟨HU6.out, hI.out.2.1, hI.out.2.2.1, hI.out.2.2.2.1, hI.out.2.2.2.2.1, hI.out.2.2.2.2.2⟩
                      clear HRI HU
                      go_wp2_with fail
                      go_roundg (mn - (0 + 1))
                      case rel => exact ⟨0 + 1, u, Q0, P1, Q1, P2, Q2, rfl, by omega, rfl, H, HR2, hI2⟩
                      case measure => rw [Hgj.out]; omega
                    | false =>
                      have HO3 : Hid (O = (CC.nil, 12)) := by
                        show _ = _
                        refine (HOR.out (CC.nil, 12) (HRR0.out.trans ?_)).symm.trans (cfin_bad (by decide))
                        rw [drop_get HYK.out]
                        refine crows_over HYL.out ?_
                        rw [HRI.out, drop_get HYV.out]
                        exact crow_none (by rw [HU.out])
                      go_wp2_with ((with_reducible show wpList _ _ _ (⟨_, .store _ (.tmp 4) _, _, _, _, _⟩ :: _) _ _); (refine wpList_store_blk rfl rowCt (.tmp 4) (.tmp 84) rfl _ rfl (H.out.blk 1 rfl) rfl (#[.slice none 0 0, .slice none 0 0, .int .i64 0, .int .i64 0, .int .i64 0, .int .i64 0, .int .i64 0, .int .i64 0, .int .i64 0]) rfl rfl (by simp [Value.oneCell']) ?_; intro wq bq hgq; replace H := Lib.hid (H.out.setBlk 1 rfl hgq bq); (try simp only [List.set_cons_zero, List.set_cons_succ, List.cons_append, List.nil_append, List.eraseIdx_cons_zero, List.eraseIdx_cons_succ, List.setIfInBounds_toArray, World.size_alloc, selR, List.getD_cons_zero, List.getD_cons_succ] at H); clear hgq bq))
                      refine bodyPost_ret (results_blk rfl rowCt rfl (H.out.blk 1 rfl) rfl) rfl ?_
                      rw [HO3.out]
                      exact catPost_nil H.out.to
                · rw [show ((1 : Nat) : Int) = 1 from rfl] at j0 j1 ⊢
                  by_cases hv0 : v < 0
                  · have HV0 : Hid (v < 0) := hv0
                    have dv : decide (v < 0) = true := decide_eq_true hv0
                    go_upto_region 16 with fail
                    (try simp only [Act.put, List.setIfInBounds_toArray, List.set_cons_zero, List.set_cons_succ])
                    clear q2' dv
                    have HU6 : Hid (I64 (xadd Q1 v).1) := xadd_i64
                    have HG := Lib.hid (fun w => radd_any Q1 v w hI.out.2.2.2.1 HV.out)
                    have HU : Hid (cupd ⟨⟨ds.map Dm.con, ms⟩, fa, P0, Q0, P1, Q1, P2, Q2⟩ 1 v = (if (xadd Q1 v).2 then ⟨⟨ds.map Dm.con, ms⟩, fa, P0, Q0, P1, (xadd Q1 v).1, P2, Q2⟩ else (cupd ⟨⟨ds.map Dm.con, ms⟩, fa, P0, Q0, P1, Q1, P2, Q2⟩ 1 v).1, (xadd Q1 v).2)) := by
                      show _ = _
                      refine Prod.ext ?_ (by show (egrow P1 Q1 v).2 = _; unfold egrow; rw [if_pos HV0.out])
                      cases hx : (xadd Q1 v).2
                      · rfl
                      · show (⟨_, _, _, _, (egrow P1 Q1 v).1.1, (egrow P1 Q1 v).1.2, _, _⟩ : CC) = _
                        have he : egrow P1 Q1 v = ((P1, (xadd Q1 v).1), true) := by unfold egrow; rw [if_pos HV0.out, hx]; rfl
                        rw [he]
                        rfl
                    generalize xadd Q1 v = G at *
                    obtain ⟨u, ok⟩ := G
                    simp only at HG HU HU6
                    refine wp_region_held_drew (S := fun w => w.cell? ⟨b2, o2 + 1, none⟩ = some (.int .i64 v)) (by kernel_rfl) (by first | exact HRD.out _ H.out.to | exact HRD.out _ H.out.drew.to) (fun hHeld => ?_)
                    replace H := Lib.hid (H.out.drew); (try simp only [List.set_cons_zero, List.set_cons_succ, List.cons_append, List.nil_append, List.eraseIdx_cons_zero, List.eraseIdx_cons_succ, List.setIfInBounds_toArray, World.size_alloc, selR, List.getD_cons_zero, List.getD_cons_succ] at H)
                    refine wpAnyH_take (i := 0) (v := ?vq13_0) (get_o0) (by kernel_rfl) (by kernel_rfl) (by kernel_rfl) (by exact fun _ _ _ h => h) (Or.inl ⟨by rfl, ?hyq13_0⟩) (by assumption) ?_
                    case hyq13_0 => (intro w hSw; (try dsimp only at hSw); go_simp) <;> with_reducible rfl
                    try simp only [Act.put, List.setIfInBounds_toArray, List.set_cons_zero, List.set_cons_succ]
                    refine wpAnyH_take (i := 1) (v := ?vq13_1) (get_os (get_o0)) (by kernel_rfl) (by kernel_rfl) (by kernel_rfl) (by exact fun _ _ _ h => h) (Or.inl ⟨by rfl, ?hyq13_1⟩) (by assumption) ?_
                    case hyq13_1 => (intro w hSw; (try dsimp only at hSw); go_simp) <;> with_reducible rfl
                    try simp only [Act.put, List.setIfInBounds_toArray, List.set_cons_zero, List.set_cons_succ]
                    refine wpAnyH_take (i := 2) (v := ?vq13_2) (get_os (get_os (get_o0))) (by kernel_rfl) (by kernel_rfl) (by kernel_rfl) (by exact fun _ _ _ h => h) (Or.inl ⟨by rfl, ?hyq13_2⟩) (by assumption) ?_
                    case hyq13_2 => (intro w hSw; (try dsimp only at hSw); go_simp) <;> with_reducible rfl
                    try simp only [Act.put, List.setIfInBounds_toArray, List.set_cons_zero, List.set_cons_succ]
                    refine wpAnyH_take (i := 3) (v := ?vq13_3) (get_os (get_os (get_os (get_o0)))) (by kernel_rfl) (by kernel_rfl) (by kernel_rfl) (by exact fun _ _ _ h => h) (Or.inl ⟨by rfl, ?hyq13_3⟩) (by assumption) ?_
                    case hyq13_3 => (intro w hSw; (try dsimp only at hSw); go_simp) <;> with_reducible rfl
                    try simp only [Act.put, List.setIfInBounds_toArray, List.set_cons_zero, List.set_cons_succ]
                    refine wpAnyH_take (i := 4) (v := ?vq13_4) (get_os (get_os (get_os (get_os (get_o0))))) (by kernel_rfl) (by kernel_rfl) (by kernel_rfl) (by exact fun _ _ _ h => h) (Or.inl ⟨by rfl, ?hyq13_4⟩) (by assumption) ?_
                    case hyq13_4 => (intro w hSw; (try dsimp only at hSw); go_simp) <;> with_reducible rfl
                    try simp only [Act.put, List.setIfInBounds_toArray, List.set_cons_zero, List.set_cons_succ]
                    refine wpAnyH_take (i := 6) (v := ?vq13_6) (get_os (get_os (get_os (get_os (get_os (get_os (get_o0))))))) (by kernel_rfl) (by kernel_rfl) (by kernel_rfl) (by exact fun _ _ _ h => h) (Or.inl ⟨by rfl, ?hyq13_6⟩) (by assumption) ?_
                    case hyq13_6 => (intro w hSw; (try dsimp only at hSw); go_simp) <;> with_reducible rfl
                    try simp only [Act.put, List.setIfInBounds_toArray, List.set_cons_zero, List.set_cons_succ]
                    refine wpAnyH_take (i := 7) (v := ?vq13_7) (get_os (get_os (get_os (get_os (get_os (get_os (get_os (get_o0)))))))) (by kernel_rfl) (by kernel_rfl) (by kernel_rfl) (by exact fun _ _ _ h => h) (Or.inl ⟨by rfl, ?hyq13_7⟩) (by assumption) ?_
                    case hyq13_7 => (intro w hSw; (try dsimp only at hSw); go_simp) <;> with_reducible rfl
                    try simp only [Act.put, List.setIfInBounds_toArray, List.set_cons_zero, List.set_cons_succ]
                    refine wpAnyH_take (i := 8) (v := ?vq13_8) (get_os (get_os (get_os (get_os (get_os (get_os (get_os (get_os (get_o0))))))))) (by kernel_rfl) (by kernel_rfl) (by kernel_rfl) (by exact fun _ _ _ h => h) (Or.inl ⟨by rfl, ?hyq13_8⟩) (by assumption) ?_
                    case hyq13_8 => (intro w hSw; (try dsimp only at hSw); go_simp) <;> with_reducible rfl
                    try simp only [Act.put, List.setIfInBounds_toArray, List.set_cons_zero, List.set_cons_succ]
                    refine wpAnyH_take (i := 9) (v := ?vq13_9) (get_os (get_os (get_os (get_os (get_os (get_os (get_os (get_os (get_os (get_o0)))))))))) (by kernel_rfl) (by kernel_rfl) (by kernel_rfl) (by exact fun _ _ _ h => h) (Or.inl ⟨by rfl, ?hyq13_9⟩) (by assumption) ?_
                    case hyq13_9 => (intro w hSw; (try dsimp only at hSw); go_simp) <;> with_reducible rfl
                    try simp only [Act.put, List.setIfInBounds_toArray, List.set_cons_zero, List.set_cons_succ]
                    refine wpAnyH_take (i := 14) (v := ?vq13_14) (get_ot (get_os (get_os (get_os (get_os (get_o0)))))) (by kernel_rfl) (by kernel_rfl) (by kernel_rfl) (by exact fun _ _ _ h => h) (Or.inl ⟨by rfl, ?hyq13_14⟩) (by assumption) ?_
                    case hyq13_14 => (intro w hSw; (try dsimp only at hSw); go_simp) <;> with_reducible rfl
                    try simp only [Act.put, List.setIfInBounds_toArray, List.set_cons_zero, List.set_cons_succ]
                    refine wpAnyH_ready (rs := [5]) (by kernel_rfl) (by simp) ?_
                    refine (AllReadyH.cons (get_os (get_os (get_os (get_os (get_os (get_o0)))))) (fun KK hKK => ?_) AllReadyH.nil)
                    generalize World.drew _ = w7 at *
                    have cz := (H.out.blk 0 rfl).cell 6; simp only [List.getElem?_toArray, List.getElem?_cons_zero, List.getElem?_cons_succ] at cz
                    go_simp
                    clear cz
                    refine hKK.out _ _ (by first | exact HRD.out _ H.out.to | exact HRD.out _ H.out.drew.to) (fun hHeld => ?_)
                    clear hKK KK
                    try simp only [Act.put, List.setIfInBounds_toArray, List.set_cons_zero, List.set_cons_succ]
                    refine wpAnyH_ready (rs := [10]) (by kernel_rfl) (by simp) ?_
                    refine (AllReadyH.cons (get_ot (get_o0)) (fun KK hKK => ?_) AllReadyH.nil)
                    go_simp
                    refine (HG.out _).mono ?_; rintro e' w6 ⟨rfl, rfl⟩
                    refine hKK.out _ _ (by first | exact HRD.out _ H.out.to | exact HRD.out _ H.out.drew.to) (fun hHeld => ?_)
                    clear hKK KK
                    try simp only [Act.put, List.setIfInBounds_toArray, List.set_cons_zero, List.set_cons_succ]
                    refine wpAnyH_take (i := 11) (v := ?vq14_) (get_ot (get_os (get_o0))) (by kernel_rfl) (by kernel_rfl) (by kernel_rfl) (by exact fun _ _ _ h => h) (Or.inl ⟨by rfl, ?hyq14_⟩) (by assumption) ?_
                    case hyq14_ => (intro w hSw; (try dsimp only at hSw); go_simp) <;> with_reducible rfl
                    try simp only [Act.put, List.setIfInBounds_toArray, List.set_cons_zero, List.set_cons_succ]
                    refine wpAnyH_take (i := 12) (v := ?vq15_) (get_ot (get_os (get_os (get_o0)))) (by kernel_rfl) (by kernel_rfl) (by kernel_rfl) (by exact fun _ _ _ h => h) (Or.inl ⟨by rfl, ?hyq15_⟩) (by assumption) ?_
                    case hyq15_ => (intro w hSw; (try dsimp only at hSw); go_simp) <;> with_reducible rfl
                    try simp only [Act.put, List.setIfInBounds_toArray, List.set_cons_zero, List.set_cons_succ]
                    refine wpAnyH_take (i := 13) (v := ?vq16_) (get_ot (get_os (get_os (get_os (get_o0))))) (by kernel_rfl) (by kernel_rfl) (by kernel_rfl) (by exact fun _ _ _ h => h) (Or.inl ⟨by rfl, ?hyq16_⟩) (by assumption) ?_
                    case hyq16_ => (intro w hSw; (try dsimp only at hSw); go_simp) <;> with_reducible rfl
                    try simp only [Act.put, List.setIfInBounds_toArray, List.set_cons_zero, List.set_cons_succ]
                    refine wpAnyH_take (i := 15) (v := ?vq17_) (get_ot (get_os (get_os (get_os (get_os (get_os (get_o0))))))) (by kernel_rfl) (by kernel_rfl) (by kernel_rfl) (by exact fun _ _ _ h => h) (Or.inl ⟨by rfl, ?hyq17_⟩) (by assumption) ?_
                    case hyq17_ => (intro w hSw; (try dsimp only at hSw); go_simp) <;> with_reducible rfl
                    try simp only [Act.put, List.setIfInBounds_toArray, List.set_cons_zero, List.set_cons_succ]
                    refine wpAnyH_take (i := 16) (v := ?vq18_) (get_ot (get_os (get_os (get_os (get_os (get_os (get_os (get_o0)))))))) (by kernel_rfl) (by kernel_rfl) (by kernel_rfl) (by exact fun _ _ _ h => h) (Or.inl ⟨by rfl, ?hyq18_⟩) (by assumption) ?_
                    case hyq18_ => (intro w hSw; (try dsimp only at hSw); go_simp) <;> with_reducible rfl
                    try simp only [Act.put, List.setIfInBounds_toArray, List.set_cons_zero, List.set_cons_succ]
                    refine wpAnyH_ready (rs := [17]) (by kernel_rfl) (by simp) ?_
                    refine (AllReadyH.cons (get_ot (get_os (get_os (get_os (get_os (get_os (get_os (get_os (get_o0))))))))) (fun KK hKK => ?_) AllReadyH.nil)
                    have cz := (H.out.blk 0 rfl).cell 6; simp only [List.getElem?_toArray, List.getElem?_cons_zero, List.getElem?_cons_succ] at cz; have fz := (H.out.blk 0 rfl).frozen 6
                    go_simp
                    replace H := Lib.hid (H.out.setCell 0 rfl 6 (.int .i64 u)); (try simp only [List.set_cons_zero, List.set_cons_succ, List.cons_append, List.nil_append, List.eraseIdx_cons_zero, List.eraseIdx_cons_succ, List.setIfInBounds_toArray, World.size_alloc, selR, List.getD_cons_zero, List.getD_cons_succ] at H)
                    clear cz fz
                    refine hKK.out _ _ (by first | exact HRD.out _ H.out.to | exact HRD.out _ H.out.drew.to) (fun hHeld => ?_)
                    clear hKK KK
                    try simp only [Act.put, List.setIfInBounds_toArray, List.set_cons_zero, List.set_cons_succ]
                    refine wpAnyH_ready (rs := [18]) (by kernel_rfl) (by simp) ?_
                    refine (AllReadyH.cons (get_ot (get_os (get_os (get_os (get_os (get_os (get_os (get_os (get_os (get_o0)))))))))) (fun KK hKK => ?_) AllReadyH.nil)
                    go_simp
                    refine hKK.out _ _ (by first | exact HRD.out _ H.out.to | exact HRD.out _ H.out.drew.to) (fun hHeld => ?_)
                    clear hKK KK
                    try simp only [Act.put, List.setIfInBounds_toArray, List.set_cons_zero, List.set_cons_succ]
                    refine wpAnyH_done (by kernel_rfl) ?_ _
                    clear hHeld
                    cases ok with
                    | true =>
                      have HR2 : Hid (crow C1 0 ys = crow ⟨⟨ds.map Dm.con, ms⟩, fa, P0, Q0, P1, u, P2, Q2⟩ (1 + 1) (ys.drop (1 + 1))) := by
                        show _ = _
                        rw [HRI.out, drop_get HYV.out, crow_step (by rw [HU.out]), HU.out]
                        rfl
                      have hI2 : Hid (I64 P0 ∧ I64 Q0 ∧ I64 P1 ∧ I64 u ∧ I64 P2 ∧ I64 Q2) := ⟨hI.out.1, hI.out.2.1, hI.out.2.2.1, HU6.out, hI.out.2.2.2.2.1, hI.out.2.2.2.2.2⟩
                      clear HRI HU
                      go_wp2_with fail
                      go_roundg (mn - (1 + 1))
                      case rel => exact ⟨1 + 1, P0, Q0, P1, u, P2, Q2, rfl, by omega, rfl, H, HR2, hI2⟩
                      case measure => rw [Hgj.out]; omega
                    | false =>
                      have HO3 : Hid (O = (CC.nil, 12)) := by
                        show _ = _
                        refine (HOR.out (CC.nil, 12) (HRR0.out.trans ?_)).symm.trans (cfin_bad (by decide))
                        rw [drop_get HYK.out]
                        refine crows_over HYL.out ?_
                        rw [HRI.out, drop_get HYV.out]
                        exact crow_none (by rw [HU.out])
                      go_wp2_with ((with_reducible show wpList _ _ _ (⟨_, .store _ (.tmp 4) _, _, _, _, _⟩ :: _) _ _); (refine wpList_store_blk rfl rowCt (.tmp 4) (.tmp 84) rfl _ rfl (H.out.blk 1 rfl) rfl (#[.slice none 0 0, .slice none 0 0, .int .i64 0, .int .i64 0, .int .i64 0, .int .i64 0, .int .i64 0, .int .i64 0, .int .i64 0]) rfl rfl (by simp [Value.oneCell']) ?_; intro wq bq hgq; replace H := Lib.hid (H.out.setBlk 1 rfl hgq bq); (try simp only [List.set_cons_zero, List.set_cons_succ, List.cons_append, List.nil_append, List.eraseIdx_cons_zero, List.eraseIdx_cons_succ, List.setIfInBounds_toArray, World.size_alloc, selR, List.getD_cons_zero, List.getD_cons_succ] at H); clear hgq bq))
                      refine bodyPost_ret (results_blk rfl rowCt rfl (H.out.blk 1 rfl) rfl) rfl ?_
                      rw [HO3.out]
                      exact catPost_nil H.out.to
                  · have HV0 : Hid (¬ v < 0) := hv0
                    have dv : decide (v < 0) = false := decide_eq_false hv0
                    go_upto_region 17 with fail
                    (try simp only [Act.put, List.setIfInBounds_toArray, List.set_cons_zero, List.set_cons_succ])
                    clear q2' dv
                    have HU6 : Hid (I64 (xadd P1 v).1) := xadd_i64
                    have HG := Lib.hid (fun w => radd_any P1 v w hI.out.2.2.1 HV.out)
                    have HU : Hid (cupd ⟨⟨ds.map Dm.con, ms⟩, fa, P0, Q0, P1, Q1, P2, Q2⟩ 1 v = (if (xadd P1 v).2 then ⟨⟨ds.map Dm.con, ms⟩, fa, P0, Q0, (xadd P1 v).1, Q1, P2, Q2⟩ else (cupd ⟨⟨ds.map Dm.con, ms⟩, fa, P0, Q0, P1, Q1, P2, Q2⟩ 1 v).1, (xadd P1 v).2)) := by
                      show _ = _
                      refine Prod.ext ?_ (by show (egrow P1 Q1 v).2 = _; unfold egrow; rw [if_neg (by have := HV0.out; omega)])
                      cases hx : (xadd P1 v).2
                      · rfl
                      · show (⟨_, _, _, _, (egrow P1 Q1 v).1.1, (egrow P1 Q1 v).1.2, _, _⟩ : CC) = _
                        have he : egrow P1 Q1 v = (((xadd P1 v).1, Q1), true) := by unfold egrow; rw [if_neg (by have := HV0.out; omega), hx]; rfl
                        rw [he]
                        rfl
                    generalize xadd P1 v = G at *
                    obtain ⟨u, ok⟩ := G
                    simp only at HG HU HU6
                    refine wp_region_held_drew (S := fun w => w.cell? ⟨b2, o2 + 1, none⟩ = some (.int .i64 v)) (by kernel_rfl) (by first | exact HRD.out _ H.out.to | exact HRD.out _ H.out.drew.to) (fun hHeld => ?_)
                    replace H := Lib.hid (H.out.drew); (try simp only [List.set_cons_zero, List.set_cons_succ, List.cons_append, List.nil_append, List.eraseIdx_cons_zero, List.eraseIdx_cons_succ, List.setIfInBounds_toArray, World.size_alloc, selR, List.getD_cons_zero, List.getD_cons_succ] at H)
                    refine wpAnyH_take (i := 0) (v := ?vq19_0) (get_o0) (by kernel_rfl) (by kernel_rfl) (by kernel_rfl) (by exact fun _ _ _ h => h) (Or.inl ⟨by rfl, ?hyq19_0⟩) (by assumption) ?_
                    case hyq19_0 => (intro w hSw; (try dsimp only at hSw); go_simp) <;> with_reducible rfl
                    try simp only [Act.put, List.setIfInBounds_toArray, List.set_cons_zero, List.set_cons_succ]
                    refine wpAnyH_take (i := 1) (v := ?vq19_1) (get_os (get_o0)) (by kernel_rfl) (by kernel_rfl) (by kernel_rfl) (by exact fun _ _ _ h => h) (Or.inl ⟨by rfl, ?hyq19_1⟩) (by assumption) ?_
                    case hyq19_1 => (intro w hSw; (try dsimp only at hSw); go_simp) <;> with_reducible rfl
                    try simp only [Act.put, List.setIfInBounds_toArray, List.set_cons_zero, List.set_cons_succ]
                    refine wpAnyH_take (i := 2) (v := ?vq19_2) (get_os (get_os (get_o0))) (by kernel_rfl) (by kernel_rfl) (by kernel_rfl) (by exact fun _ _ _ h => h) (Or.inl ⟨by rfl, ?hyq19_2⟩) (by assumption) ?_
                    case hyq19_2 => (intro w hSw; (try dsimp only at hSw); go_simp) <;> with_reducible rfl
                    try simp only [Act.put, List.setIfInBounds_toArray, List.set_cons_zero, List.set_cons_succ]
                    refine wpAnyH_take (i := 3) (v := ?vq19_3) (get_os (get_os (get_os (get_o0)))) (by kernel_rfl) (by kernel_rfl) (by kernel_rfl) (by exact fun _ _ _ h => h) (Or.inl ⟨by rfl, ?hyq19_3⟩) (by assumption) ?_
                    case hyq19_3 => (intro w hSw; (try dsimp only at hSw); go_simp) <;> with_reducible rfl
                    try simp only [Act.put, List.setIfInBounds_toArray, List.set_cons_zero, List.set_cons_succ]
                    refine wpAnyH_take (i := 4) (v := ?vq19_4) (get_os (get_os (get_os (get_os (get_o0))))) (by kernel_rfl) (by kernel_rfl) (by kernel_rfl) (by exact fun _ _ _ h => h) (Or.inl ⟨by rfl, ?hyq19_4⟩) (by assumption) ?_
                    case hyq19_4 => (intro w hSw; (try dsimp only at hSw); go_simp) <;> with_reducible rfl
                    try simp only [Act.put, List.setIfInBounds_toArray, List.set_cons_zero, List.set_cons_succ]
                    refine wpAnyH_take (i := 6) (v := ?vq19_6) (get_os (get_os (get_os (get_os (get_os (get_os (get_o0))))))) (by kernel_rfl) (by kernel_rfl) (by kernel_rfl) (by exact fun _ _ _ h => h) (Or.inl ⟨by rfl, ?hyq19_6⟩) (by assumption) ?_
                    case hyq19_6 => (intro w hSw; (try dsimp only at hSw); go_simp) <;> with_reducible rfl
                    try simp only [Act.put, List.setIfInBounds_toArray, List.set_cons_zero, List.set_cons_succ]
                    refine wpAnyH_take (i := 7) (v := ?vq19_7) (get_os (get_os (get_os (get_os (get_os (get_os (get_os (get_o0)))))))) (by kernel_rfl) (by kernel_rfl) (by kernel_rfl) (by exact fun _ _ _ h => h) (Or.inl ⟨by rfl, ?hyq19_7⟩) (by assumption) ?_
                    case hyq19_7 => (intro w hSw; (try dsimp only at hSw); go_simp) <;> with_reducible rfl
                    try simp only [Act.put, List.setIfInBounds_toArray, List.set_cons_zero, List.set_cons_succ]
                    refine wpAnyH_take (i := 8) (v := ?vq19_8) (get_os (get_os (get_os (get_os (get_os (get_os (get_os (get_os (get_o0))))))))) (by kernel_rfl) (by kernel_rfl) (by kernel_rfl) (by exact fun _ _ _ h => h) (Or.inl ⟨by rfl, ?hyq19_8⟩) (by assumption) ?_
                    case hyq19_8 => (intro w hSw; (try dsimp only at hSw); go_simp) <;> with_reducible rfl
                    try simp only [Act.put, List.setIfInBounds_toArray, List.set_cons_zero, List.set_cons_succ]
                    refine wpAnyH_take (i := 9) (v := ?vq19_9) (get_os (get_os (get_os (get_os (get_os (get_os (get_os (get_os (get_os (get_o0)))))))))) (by kernel_rfl) (by kernel_rfl) (by kernel_rfl) (by exact fun _ _ _ h => h) (Or.inl ⟨by rfl, ?hyq19_9⟩) (by assumption) ?_
                    case hyq19_9 => (intro w hSw; (try dsimp only at hSw); go_simp) <;> with_reducible rfl
                    try simp only [Act.put, List.setIfInBounds_toArray, List.set_cons_zero, List.set_cons_succ]
                    refine wpAnyH_take (i := 14) (v := ?vq19_14) (get_ot (get_os (get_os (get_os (get_os (get_o0)))))) (by kernel_rfl) (by kernel_rfl) (by kernel_rfl) (by exact fun _ _ _ h => h) (Or.inl ⟨by rfl, ?hyq19_14⟩) (by assumption) ?_
                    case hyq19_14 => (intro w hSw; (try dsimp only at hSw); go_simp) <;> with_reducible rfl
                    try simp only [Act.put, List.setIfInBounds_toArray, List.set_cons_zero, List.set_cons_succ]
                    refine wpAnyH_ready (rs := [5]) (by kernel_rfl) (by simp) ?_
                    refine (AllReadyH.cons (get_os (get_os (get_os (get_os (get_os (get_o0)))))) (fun KK hKK => ?_) AllReadyH.nil)
                    generalize World.drew _ = w7 at *
                    have cz := (H.out.blk 0 rfl).cell 5; simp only [List.getElem?_toArray, List.getElem?_cons_zero, List.getElem?_cons_succ] at cz
                    go_simp
                    clear cz
                    refine hKK.out _ _ (by first | exact HRD.out _ H.out.to | exact HRD.out _ H.out.drew.to) (fun hHeld => ?_)
                    clear hKK KK
                    try simp only [Act.put, List.setIfInBounds_toArray, List.set_cons_zero, List.set_cons_succ]
                    refine wpAnyH_ready (rs := [10]) (by kernel_rfl) (by simp) ?_
                    refine (AllReadyH.cons (get_ot (get_o0)) (fun KK hKK => ?_) AllReadyH.nil)
                    go_simp
                    refine (HG.out _).mono ?_; rintro e' w6 ⟨rfl, rfl⟩
                    refine hKK.out _ _ (by first | exact HRD.out _ H.out.to | exact HRD.out _ H.out.drew.to) (fun hHeld => ?_)
                    clear hKK KK
                    try simp only [Act.put, List.setIfInBounds_toArray, List.set_cons_zero, List.set_cons_succ]
                    refine wpAnyH_take (i := 11) (v := ?vq20_) (get_ot (get_os (get_o0))) (by kernel_rfl) (by kernel_rfl) (by kernel_rfl) (by exact fun _ _ _ h => h) (Or.inl ⟨by rfl, ?hyq20_⟩) (by assumption) ?_
                    case hyq20_ => (intro w hSw; (try dsimp only at hSw); go_simp) <;> with_reducible rfl
                    try simp only [Act.put, List.setIfInBounds_toArray, List.set_cons_zero, List.set_cons_succ]
                    refine wpAnyH_take (i := 12) (v := ?vq21_) (get_ot (get_os (get_os (get_o0)))) (by kernel_rfl) (by kernel_rfl) (by kernel_rfl) (by exact fun _ _ _ h => h) (Or.inl ⟨by rfl, ?hyq21_⟩) (by assumption) ?_
                    case hyq21_ => (intro w hSw; (try dsimp only at hSw); go_simp) <;> with_reducible rfl
                    try simp only [Act.put, List.setIfInBounds_toArray, List.set_cons_zero, List.set_cons_succ]
                    refine wpAnyH_take (i := 13) (v := ?vq22_) (get_ot (get_os (get_os (get_os (get_o0))))) (by kernel_rfl) (by kernel_rfl) (by kernel_rfl) (by exact fun _ _ _ h => h) (Or.inl ⟨by rfl, ?hyq22_⟩) (by assumption) ?_
                    case hyq22_ => (intro w hSw; (try dsimp only at hSw); go_simp) <;> with_reducible rfl
                    try simp only [Act.put, List.setIfInBounds_toArray, List.set_cons_zero, List.set_cons_succ]
                    refine wpAnyH_take (i := 15) (v := ?vq23_) (get_ot (get_os (get_os (get_os (get_os (get_os (get_o0))))))) (by kernel_rfl) (by kernel_rfl) (by kernel_rfl) (by exact fun _ _ _ h => h) (Or.inl ⟨by rfl, ?hyq23_⟩) (by assumption) ?_
                    case hyq23_ => (intro w hSw; (try dsimp only at hSw); go_simp) <;> with_reducible rfl
                    try simp only [Act.put, List.setIfInBounds_toArray, List.set_cons_zero, List.set_cons_succ]
                    refine wpAnyH_take (i := 16) (v := ?vq24_) (get_ot (get_os (get_os (get_os (get_os (get_os (get_os (get_o0)))))))) (by kernel_rfl) (by kernel_rfl) (by kernel_rfl) (by exact fun _ _ _ h => h) (Or.inl ⟨by rfl, ?hyq24_⟩) (by assumption) ?_
                    case hyq24_ => (intro w hSw; (try dsimp only at hSw); go_simp) <;> with_reducible rfl
                    try simp only [Act.put, List.setIfInBounds_toArray, List.set_cons_zero, List.set_cons_succ]
                    refine wpAnyH_ready (rs := [17]) (by kernel_rfl) (by simp) ?_
                    refine (AllReadyH.cons (get_ot (get_os (get_os (get_os (get_os (get_os (get_os (get_os (get_o0))))))))) (fun KK hKK => ?_) AllReadyH.nil)
                    have cz := (H.out.blk 0 rfl).cell 5; simp only [List.getElem?_toArray, List.getElem?_cons_zero, List.getElem?_cons_succ] at cz; have fz := (H.out.blk 0 rfl).frozen 5
                    go_simp
                    replace H := Lib.hid (H.out.setCell 0 rfl 5 (.int .i64 u)); (try simp only [List.set_cons_zero, List.set_cons_succ, List.cons_append, List.nil_append, List.eraseIdx_cons_zero, List.eraseIdx_cons_succ, List.setIfInBounds_toArray, World.size_alloc, selR, List.getD_cons_zero, List.getD_cons_succ] at H)
                    clear cz fz
                    refine hKK.out _ _ (by first | exact HRD.out _ H.out.to | exact HRD.out _ H.out.drew.to) (fun hHeld => ?_)
                    clear hKK KK
                    try simp only [Act.put, List.setIfInBounds_toArray, List.set_cons_zero, List.set_cons_succ]
                    refine wpAnyH_ready (rs := [18]) (by kernel_rfl) (by simp) ?_
                    refine (AllReadyH.cons (get_ot (get_os (get_os (get_os (get_os (get_os (get_os (get_os (get_os (get_o0)))))))))) (fun KK hKK => ?_) AllReadyH.nil)
                    go_simp
                    refine hKK.out _ _ (by first | exact HRD.out _ H.out.to | exact HRD.out _ H.out.drew.to) (fun hHeld => ?_)
                    clear hKK KK
                    try simp only [Act.put, List.setIfInBounds_toArray, List.set_cons_zero, List.set_cons_succ]
                    refine wpAnyH_done (by kernel_rfl) ?_ _
                    clear hHeld
                    cases ok with
                    | true =>
                      have HR2 : Hid (crow C1 0 ys = crow ⟨⟨ds.map Dm.con, ms⟩, fa, P0, Q0, u, Q1, P2, Q2⟩ (1 + 1) (ys.drop (1 + 1))) := by
                        show _ = _
                        rw [HRI.out, drop_get HYV.out, crow_step (by rw [HU.out]), HU.out]
                        rfl
                      have hI2 : Hid (I64 P0 ∧ I64 Q0 ∧ I64 u ∧ I64 Q1 ∧ I64 P2 ∧ I64 Q2) := ⟨hI.out.1, hI.out.2.1, HU6.out, hI.out.2.2.2.1, hI.out.2.2.2.2.1, hI.out.2.2.2.2.2⟩
                      clear HRI HU
                      go_wp2_with fail
                      go_roundg (mn - (1 + 1))
                      case rel => exact ⟨1 + 1, P0, Q0, u, Q1, P2, Q2, rfl, by omega, rfl, H, HR2, hI2⟩
                      case measure => rw [Hgj.out]; omega
                    | false =>
                      have HO3 : Hid (O = (CC.nil, 12)) := by
                        show _ = _
                        refine (HOR.out (CC.nil, 12) (HRR0.out.trans ?_)).symm.trans (cfin_bad (by decide))
                        rw [drop_get HYK.out]
                        refine crows_over HYL.out ?_
                        rw [HRI.out, drop_get HYV.out]
                        exact crow_none (by rw [HU.out])
                      go_wp2_with ((with_reducible show wpList _ _ _ (⟨_, .store _ (.tmp 4) _, _, _, _, _⟩ :: _) _ _); (refine wpList_store_blk rfl rowCt (.tmp 4) (.tmp 84) rfl _ rfl (H.out.blk 1 rfl) rfl (#[.slice none 0 0, .slice none 0 0, .int .i64 0, .int .i64 0, .int .i64 0, .int .i64 0, .int .i64 0, .int .i64 0, .int .i64 0]) rfl rfl (by simp [Value.oneCell']) ?_; intro wq bq hgq; replace H := Lib.hid (H.out.setBlk 1 rfl hgq bq); (try simp only [List.set_cons_zero, List.set_cons_succ, List.cons_append, List.nil_append, List.eraseIdx_cons_zero, List.eraseIdx_cons_succ, List.setIfInBounds_toArray, World.size_alloc, selR, List.getD_cons_zero, List.getD_cons_succ] at H); clear hgq bq))
                      refine bodyPost_ret (results_blk rfl rowCt rfl (H.out.blk 1 rfl) rfl) rfl ?_
                      rw [HO3.out]
                      exact catPost_nil H.out.to
                · rw [show ((2 : Nat) : Int) = 2 from rfl] at j0 j1 ⊢
                  by_cases hv0 : v < 0
                  · have HV0 : Hid (v < 0) := hv0
                    have dv : decide (v < 0) = true := decide_eq_true hv0
                    go_upto_region 16 with fail
                    (try simp only [Act.put, List.setIfInBounds_toArray, List.set_cons_zero, List.set_cons_succ])
                    clear q2' dv
                    have HU6 : Hid (I64 (xadd Q2 v).1) := xadd_i64
                    have HG := Lib.hid (fun w => radd_any Q2 v w hI.out.2.2.2.2.2 HV.out)
                    have HU : Hid (cupd ⟨⟨ds.map Dm.con, ms⟩, fa, P0, Q0, P1, Q1, P2, Q2⟩ 2 v = (if (xadd Q2 v).2 then ⟨⟨ds.map Dm.con, ms⟩, fa, P0, Q0, P1, Q1, P2, (xadd Q2 v).1⟩ else (cupd ⟨⟨ds.map Dm.con, ms⟩, fa, P0, Q0, P1, Q1, P2, Q2⟩ 2 v).1, (xadd Q2 v).2)) := by
                      show _ = _
                      refine Prod.ext ?_ (by show (egrow P2 Q2 v).2 = _; unfold egrow; rw [if_pos HV0.out])
                      cases hx : (xadd Q2 v).2
                      · rfl
                      · show (⟨_, _, _, _, _, _, (egrow P2 Q2 v).1.1, (egrow P2 Q2 v).1.2⟩ : CC) = _
                        have he : egrow P2 Q2 v = ((P2, (xadd Q2 v).1), true) := by unfold egrow; rw [if_pos HV0.out, hx]; rfl
                        rw [he]
                        rfl
                    generalize xadd Q2 v = G at *
                    obtain ⟨u, ok⟩ := G
                    simp only at HG HU HU6
                    refine wp_region_held_drew (S := fun w => w.cell? ⟨b2, o2 + 2, none⟩ = some (.int .i64 v)) (by kernel_rfl) (by first | exact HRD.out _ H.out.to | exact HRD.out _ H.out.drew.to) (fun hHeld => ?_)
                    replace H := Lib.hid (H.out.drew); (try simp only [List.set_cons_zero, List.set_cons_succ, List.cons_append, List.nil_append, List.eraseIdx_cons_zero, List.eraseIdx_cons_succ, List.setIfInBounds_toArray, World.size_alloc, selR, List.getD_cons_zero, List.getD_cons_succ] at H)
                    refine wpAnyH_take (i := 0) (v := ?vq25_0) (get_o0) (by kernel_rfl) (by kernel_rfl) (by kernel_rfl) (by exact fun _ _ _ h => h) (Or.inl ⟨by rfl, ?hyq25_0⟩) (by assumption) ?_
                    case hyq25_0 => (intro w hSw; (try dsimp only at hSw); go_simp) <;> with_reducible rfl
                    try simp only [Act.put, List.setIfInBounds_toArray, List.set_cons_zero, List.set_cons_succ]
                    refine wpAnyH_take (i := 1) (v := ?vq25_1) (get_os (get_o0)) (by kernel_rfl) (by kernel_rfl) (by kernel_rfl) (by exact fun _ _ _ h => h) (Or.inl ⟨by rfl, ?hyq25_1⟩) (by assumption) ?_
                    case hyq25_1 => (intro w hSw; (try dsimp only at hSw); go_simp) <;> with_reducible rfl
                    try simp only [Act.put, List.setIfInBounds_toArray, List.set_cons_zero, List.set_cons_succ]
                    refine wpAnyH_take (i := 2) (v := ?vq25_2) (get_os (get_os (get_o0))) (by kernel_rfl) (by kernel_rfl) (by kernel_rfl) (by exact fun _ _ _ h => h) (Or.inl ⟨by rfl, ?hyq25_2⟩) (by assumption) ?_
                    case hyq25_2 => (intro w hSw; (try dsimp only at hSw); go_simp) <;> with_reducible rfl
                    try simp only [Act.put, List.setIfInBounds_toArray, List.set_cons_zero, List.set_cons_succ]
                    refine wpAnyH_take (i := 3) (v := ?vq25_3) (get_os (get_os (get_os (get_o0)))) (by kernel_rfl) (by kernel_rfl) (by kernel_rfl) (by exact fun _ _ _ h => h) (Or.inl ⟨by rfl, ?hyq25_3⟩) (by assumption) ?_
                    case hyq25_3 => (intro w hSw; (try dsimp only at hSw); go_simp) <;> with_reducible rfl
                    try simp only [Act.put, List.setIfInBounds_toArray, List.set_cons_zero, List.set_cons_succ]
                    refine wpAnyH_take (i := 4) (v := ?vq25_4) (get_os (get_os (get_os (get_os (get_o0))))) (by kernel_rfl) (by kernel_rfl) (by kernel_rfl) (by exact fun _ _ _ h => h) (Or.inl ⟨by rfl, ?hyq25_4⟩) (by assumption) ?_
                    case hyq25_4 => (intro w hSw; (try dsimp only at hSw); go_simp) <;> with_reducible rfl
                    try simp only [Act.put, List.setIfInBounds_toArray, List.set_cons_zero, List.set_cons_succ]
                    refine wpAnyH_take (i := 6) (v := ?vq25_6) (get_os (get_os (get_os (get_os (get_os (get_os (get_o0))))))) (by kernel_rfl) (by kernel_rfl) (by kernel_rfl) (by exact fun _ _ _ h => h) (Or.inl ⟨by rfl, ?hyq25_6⟩) (by assumption) ?_
                    case hyq25_6 => (intro w hSw; (try dsimp only at hSw); go_simp) <;> with_reducible rfl
                    try simp only [Act.put, List.setIfInBounds_toArray, List.set_cons_zero, List.set_cons_succ]
                    refine wpAnyH_take (i := 7) (v := ?vq25_7) (get_os (get_os (get_os (get_os (get_os (get_os (get_os (get_o0)))))))) (by kernel_rfl) (by kernel_rfl) (by kernel_rfl) (by exact fun _ _ _ h => h) (Or.inl ⟨by rfl, ?hyq25_7⟩) (by assumption) ?_
                    case hyq25_7 => (intro w hSw; (try dsimp only at hSw); go_simp) <;> with_reducible rfl
                    try simp only [Act.put, List.setIfInBounds_toArray, List.set_cons_zero, List.set_cons_succ]
                    refine wpAnyH_take (i := 8) (v := ?vq25_8) (get_os (get_os (get_os (get_os (get_os (get_os (get_os (get_os (get_o0))))))))) (by kernel_rfl) (by kernel_rfl) (by kernel_rfl) (by exact fun _ _ _ h => h) (Or.inl ⟨by rfl, ?hyq25_8⟩) (by assumption) ?_
                    case hyq25_8 => (intro w hSw; (try dsimp only at hSw); go_simp) <;> with_reducible rfl
                    try simp only [Act.put, List.setIfInBounds_toArray, List.set_cons_zero, List.set_cons_succ]
                    refine wpAnyH_take (i := 9) (v := ?vq25_9) (get_os (get_os (get_os (get_os (get_os (get_os (get_os (get_os (get_os (get_o0)))))))))) (by kernel_rfl) (by kernel_rfl) (by kernel_rfl) (by exact fun _ _ _ h => h) (Or.inl ⟨by rfl, ?hyq25_9⟩) (by assumption) ?_
                    case hyq25_9 => (intro w hSw; (try dsimp only at hSw); go_simp) <;> with_reducible rfl
                    try simp only [Act.put, List.setIfInBounds_toArray, List.set_cons_zero, List.set_cons_succ]
                    refine wpAnyH_take (i := 14) (v := ?vq25_14) (get_ot (get_os (get_os (get_os (get_os (get_o0)))))) (by kernel_rfl) (by kernel_rfl) (by kernel_rfl) (by exact fun _ _ _ h => h) (Or.inl ⟨by rfl, ?hyq25_14⟩) (by assumption) ?_
                    case hyq25_14 => (intro w hSw; (try dsimp only at hSw); go_simp) <;> with_reducible rfl
                    try simp only [Act.put, List.setIfInBounds_toArray, List.set_cons_zero, List.set_cons_succ]
                    refine wpAnyH_ready (rs := [5]) (by kernel_rfl) (by simp) ?_
                    refine (AllReadyH.cons (get_os (get_os (get_os (get_os (get_os (get_o0)))))) (fun KK hKK => ?_) AllReadyH.nil)
                    generalize World.drew _ = w7 at *
                    have cz := (H.out.blk 0 rfl).cell 8; simp only [List.getElem?_toArray, List.getElem?_cons_zero, List.getElem?_cons_succ] at cz
                    go_simp
                    clear cz
                    refine hKK.out _ _ (by first | exact HRD.out _ H.out.to | exact HRD.out _ H.out.drew.to) (fun hHeld => ?_)
                    clear hKK KK
                    try simp only [Act.put, List.setIfInBounds_toArray, List.set_cons_zero, List.set_cons_succ]
                    refine wpAnyH_ready (rs := [10]) (by kernel_rfl) (by simp) ?_
                    refine (AllReadyH.cons (get_ot (get_o0)) (fun KK hKK => ?_) AllReadyH.nil)
                    go_simp
                    refine (HG.out _).mono ?_; rintro e' w6 ⟨rfl, rfl⟩
                    refine hKK.out _ _ (by first | exact HRD.out _ H.out.to | exact HRD.out _ H.out.drew.to) (fun hHeld => ?_)
                    clear hKK KK
                    try simp only [Act.put, List.setIfInBounds_toArray, List.set_cons_zero, List.set_cons_succ]
                    refine wpAnyH_take (i := 11) (v := ?vq26_) (get_ot (get_os (get_o0))) (by kernel_rfl) (by kernel_rfl) (by kernel_rfl) (by exact fun _ _ _ h => h) (Or.inl ⟨by rfl, ?hyq26_⟩) (by assumption) ?_
                    case hyq26_ => (intro w hSw; (try dsimp only at hSw); go_simp) <;> with_reducible rfl
                    try simp only [Act.put, List.setIfInBounds_toArray, List.set_cons_zero, List.set_cons_succ]
                    refine wpAnyH_take (i := 12) (v := ?vq27_) (get_ot (get_os (get_os (get_o0)))) (by kernel_rfl) (by kernel_rfl) (by kernel_rfl) (by exact fun _ _ _ h => h) (Or.inl ⟨by rfl, ?hyq27_⟩) (by assumption) ?_
                    case hyq27_ => (intro w hSw; (try dsimp only at hSw); go_simp) <;> with_reducible rfl
                    try simp only [Act.put, List.setIfInBounds_toArray, List.set_cons_zero, List.set_cons_succ]
                    refine wpAnyH_take (i := 13) (v := ?vq28_) (get_ot (get_os (get_os (get_os (get_o0))))) (by kernel_rfl) (by kernel_rfl) (by kernel_rfl) (by exact fun _ _ _ h => h) (Or.inl ⟨by rfl, ?hyq28_⟩) (by assumption) ?_
                    case hyq28_ => (intro w hSw; (try dsimp only at hSw); go_simp) <;> with_reducible rfl
                    try simp only [Act.put, List.setIfInBounds_toArray, List.set_cons_zero, List.set_cons_succ]
                    refine wpAnyH_take (i := 15) (v := ?vq29_) (get_ot (get_os (get_os (get_os (get_os (get_os (get_o0))))))) (by kernel_rfl) (by kernel_rfl) (by kernel_rfl) (by exact fun _ _ _ h => h) (Or.inl ⟨by rfl, ?hyq29_⟩) (by assumption) ?_
                    case hyq29_ => (intro w hSw; (try dsimp only at hSw); go_simp) <;> with_reducible rfl
                    try simp only [Act.put, List.setIfInBounds_toArray, List.set_cons_zero, List.set_cons_succ]
                    refine wpAnyH_take (i := 16) (v := ?vq30_) (get_ot (get_os (get_os (get_os (get_os (get_os (get_os (get_o0)))))))) (by kernel_rfl) (by kernel_rfl) (by kernel_rfl) (by exact fun _ _ _ h => h) (Or.inl ⟨by rfl, ?hyq30_⟩) (by assumption) ?_
                    case hyq30_ => (intro w hSw; (try dsimp only at hSw); go_simp) <;> with_reducible rfl
                    try simp only [Act.put, List.setIfInBounds_toArray, List.set_cons_zero, List.set_cons_succ]
                    refine wpAnyH_ready (rs := [17]) (by kernel_rfl) (by simp) ?_
                    refine (AllReadyH.cons (get_ot (get_os (get_os (get_os (get_os (get_os (get_os (get_os (get_o0))))))))) (fun KK hKK => ?_) AllReadyH.nil)
                    have cz := (H.out.blk 0 rfl).cell 8; simp only [List.getElem?_toArray, List.getElem?_cons_zero, List.getElem?_cons_succ] at cz; have fz := (H.out.blk 0 rfl).frozen 8
                    go_simp
                    replace H := Lib.hid (H.out.setCell 0 rfl 8 (.int .i64 u)); (try simp only [List.set_cons_zero, List.set_cons_succ, List.cons_append, List.nil_append, List.eraseIdx_cons_zero, List.eraseIdx_cons_succ, List.setIfInBounds_toArray, World.size_alloc, selR, List.getD_cons_zero, List.getD_cons_succ] at H)
                    clear cz fz
                    refine hKK.out _ _ (by first | exact HRD.out _ H.out.to | exact HRD.out _ H.out.drew.to) (fun hHeld => ?_)
                    clear hKK KK
                    try simp only [Act.put, List.setIfInBounds_toArray, List.set_cons_zero, List.set_cons_succ]
                    refine wpAnyH_ready (rs := [18]) (by kernel_rfl) (by simp) ?_
                    refine (AllReadyH.cons (get_ot (get_os (get_os (get_os (get_os (get_os (get_os (get_os (get_os (get_o0)))))))))) (fun KK hKK => ?_) AllReadyH.nil)
                    go_simp
                    refine hKK.out _ _ (by first | exact HRD.out _ H.out.to | exact HRD.out _ H.out.drew.to) (fun hHeld => ?_)
                    clear hKK KK
                    try simp only [Act.put, List.setIfInBounds_toArray, List.set_cons_zero, List.set_cons_succ]
                    refine wpAnyH_done (by kernel_rfl) ?_ _
                    clear hHeld
                    cases ok with
                    | true =>
                      have HR2 : Hid (crow C1 0 ys = crow ⟨⟨ds.map Dm.con, ms⟩, fa, P0, Q0, P1, Q1, P2, u⟩ (2 + 1) (ys.drop (2 + 1))) := by
                        show _ = _
                        rw [HRI.out, drop_get HYV.out, crow_step (by rw [HU.out]), HU.out]
                        rfl
                      have hI2 : Hid (I64 P0 ∧ I64 Q0 ∧ I64 P1 ∧ I64 Q1 ∧ I64 P2 ∧ I64 u) := ⟨hI.out.1, hI.out.2.1, hI.out.2.2.1, hI.out.2.2.2.1, hI.out.2.2.2.2.1, HU6.out⟩
                      clear HRI HU
                      go_wp2_with fail
                      go_roundg (mn - (2 + 1))
                      case rel => exact ⟨2 + 1, P0, Q0, P1, Q1, P2, u, rfl, by omega, rfl, H, HR2, hI2⟩
                      case measure => rw [Hgj.out]; omega
                    | false =>
                      have HO3 : Hid (O = (CC.nil, 12)) := by
                        show _ = _
                        refine (HOR.out (CC.nil, 12) (HRR0.out.trans ?_)).symm.trans (cfin_bad (by decide))
                        rw [drop_get HYK.out]
                        refine crows_over HYL.out ?_
                        rw [HRI.out, drop_get HYV.out]
                        exact crow_none (by rw [HU.out])
                      go_wp2_with ((with_reducible show wpList _ _ _ (⟨_, .store _ (.tmp 4) _, _, _, _, _⟩ :: _) _ _); (refine wpList_store_blk rfl rowCt (.tmp 4) (.tmp 84) rfl _ rfl (H.out.blk 1 rfl) rfl (#[.slice none 0 0, .slice none 0 0, .int .i64 0, .int .i64 0, .int .i64 0, .int .i64 0, .int .i64 0, .int .i64 0, .int .i64 0]) rfl rfl (by simp [Value.oneCell']) ?_; intro wq bq hgq; replace H := Lib.hid (H.out.setBlk 1 rfl hgq bq); (try simp only [List.set_cons_zero, List.set_cons_succ, List.cons_append, List.nil_append, List.eraseIdx_cons_zero, List.eraseIdx_cons_succ, List.setIfInBounds_toArray, World.size_alloc, selR, List.getD_cons_zero, List.getD_cons_succ] at H); clear hgq bq))
                      refine bodyPost_ret (results_blk rfl rowCt rfl (H.out.blk 1 rfl) rfl) rfl ?_
                      rw [HO3.out]
                      exact catPost_nil H.out.to
                  · have HV0 : Hid (¬ v < 0) := hv0
                    have dv : decide (v < 0) = false := decide_eq_false hv0
                    go_upto_region 17 with fail
                    (try simp only [Act.put, List.setIfInBounds_toArray, List.set_cons_zero, List.set_cons_succ])
                    clear q2' dv
                    have HU6 : Hid (I64 (xadd P2 v).1) := xadd_i64
                    have HG := Lib.hid (fun w => radd_any P2 v w hI.out.2.2.2.2.1 HV.out)
                    have HU : Hid (cupd ⟨⟨ds.map Dm.con, ms⟩, fa, P0, Q0, P1, Q1, P2, Q2⟩ 2 v = (if (xadd P2 v).2 then ⟨⟨ds.map Dm.con, ms⟩, fa, P0, Q0, P1, Q1, (xadd P2 v).1, Q2⟩ else (cupd ⟨⟨ds.map Dm.con, ms⟩, fa, P0, Q0, P1, Q1, P2, Q2⟩ 2 v).1, (xadd P2 v).2)) := by
                      show _ = _
                      refine Prod.ext ?_ (by show (egrow P2 Q2 v).2 = _; unfold egrow; rw [if_neg (by have := HV0.out; omega)])
                      cases hx : (xadd P2 v).2
                      · rfl
                      · show (⟨_, _, _, _, _, _, (egrow P2 Q2 v).1.1, (egrow P2 Q2 v).1.2⟩ : CC) = _
                        have he : egrow P2 Q2 v = (((xadd P2 v).1, Q2), true) := by unfold egrow; rw [if_neg (by have := HV0.out; omega), hx]; rfl
                        rw [he]
                        rfl
                    generalize xadd P2 v = G at *
                    obtain ⟨u, ok⟩ := G
                    simp only at HG HU HU6
                    refine wp_region_held_drew (S := fun w => w.cell? ⟨b2, o2 + 2, none⟩ = some (.int .i64 v)) (by kernel_rfl) (by first | exact HRD.out _ H.out.to | exact HRD.out _ H.out.drew.to) (fun hHeld => ?_)
                    replace H := Lib.hid (H.out.drew); (try simp only [List.set_cons_zero, List.set_cons_succ, List.cons_append, List.nil_append, List.eraseIdx_cons_zero, List.eraseIdx_cons_succ, List.setIfInBounds_toArray, World.size_alloc, selR, List.getD_cons_zero, List.getD_cons_succ] at H)
                    refine wpAnyH_take (i := 0) (v := ?vq31_0) (get_o0) (by kernel_rfl) (by kernel_rfl) (by kernel_rfl) (by exact fun _ _ _ h => h) (Or.inl ⟨by rfl, ?hyq31_0⟩) (by assumption) ?_
                    case hyq31_0 => (intro w hSw; (try dsimp only at hSw); go_simp) <;> with_reducible rfl
                    try simp only [Act.put, List.setIfInBounds_toArray, List.set_cons_zero, List.set_cons_succ]
                    refine wpAnyH_take (i := 1) (v := ?vq31_1) (get_os (get_o0)) (by kernel_rfl) (by kernel_rfl) (by kernel_rfl) (by exact fun _ _ _ h => h) (Or.inl ⟨by rfl, ?hyq31_1⟩) (by assumption) ?_
                    case hyq31_1 => (intro w hSw; (try dsimp only at hSw); go_simp) <;> with_reducible rfl
                    try simp only [Act.put, List.setIfInBounds_toArray, List.set_cons_zero, List.set_cons_succ]
                    refine wpAnyH_take (i := 2) (v := ?vq31_2) (get_os (get_os (get_o0))) (by kernel_rfl) (by kernel_rfl) (by kernel_rfl) (by exact fun _ _ _ h => h) (Or.inl ⟨by rfl, ?hyq31_2⟩) (by assumption) ?_
                    case hyq31_2 => (intro w hSw; (try dsimp only at hSw); go_simp) <;> with_reducible rfl
                    try simp only [Act.put, List.setIfInBounds_toArray, List.set_cons_zero, List.set_cons_succ]
                    refine wpAnyH_take (i := 3) (v := ?vq31_3) (get_os (get_os (get_os (get_o0)))) (by kernel_rfl) (by kernel_rfl) (by kernel_rfl) (by exact fun _ _ _ h => h) (Or.inl ⟨by rfl, ?hyq31_3⟩) (by assumption) ?_
                    case hyq31_3 => (intro w hSw; (try dsimp only at hSw); go_simp) <;> with_reducible rfl
                    try simp only [Act.put, List.setIfInBounds_toArray, List.set_cons_zero, List.set_cons_succ]
                    refine wpAnyH_take (i := 4) (v := ?vq31_4) (get_os (get_os (get_os (get_os (get_o0))))) (by kernel_rfl) (by kernel_rfl) (by kernel_rfl) (by exact fun _ _ _ h => h) (Or.inl ⟨by rfl, ?hyq31_4⟩) (by assumption) ?_
                    case hyq31_4 => (intro w hSw; (try dsimp only at hSw); go_simp) <;> with_reducible rfl
                    try simp only [Act.put, List.setIfInBounds_toArray, List.set_cons_zero, List.set_cons_succ]
                    refine wpAnyH_take (i := 6) (v := ?vq31_6) (get_os (get_os (get_os (get_os (get_os (get_os (get_o0))))))) (by kernel_rfl) (by kernel_rfl) (by kernel_rfl) (by exact fun _ _ _ h => h) (Or.inl ⟨by rfl, ?hyq31_6⟩) (by assumption) ?_
                    case hyq31_6 => (intro w hSw; (try dsimp only at hSw); go_simp) <;> with_reducible rfl
                    try simp only [Act.put, List.setIfInBounds_toArray, List.set_cons_zero, List.set_cons_succ]
                    refine wpAnyH_take (i := 7) (v := ?vq31_7) (get_os (get_os (get_os (get_os (get_os (get_os (get_os (get_o0)))))))) (by kernel_rfl) (by kernel_rfl) (by kernel_rfl) (by exact fun _ _ _ h => h) (Or.inl ⟨by rfl, ?hyq31_7⟩) (by assumption) ?_
                    case hyq31_7 => (intro w hSw; (try dsimp only at hSw); go_simp) <;> with_reducible rfl
                    try simp only [Act.put, List.setIfInBounds_toArray, List.set_cons_zero, List.set_cons_succ]
                    refine wpAnyH_take (i := 8) (v := ?vq31_8) (get_os (get_os (get_os (get_os (get_os (get_os (get_os (get_os (get_o0))))))))) (by kernel_rfl) (by kernel_rfl) (by kernel_rfl) (by exact fun _ _ _ h => h) (Or.inl ⟨by rfl, ?hyq31_8⟩) (by assumption) ?_
                    case hyq31_8 => (intro w hSw; (try dsimp only at hSw); go_simp) <;> with_reducible rfl
                    try simp only [Act.put, List.setIfInBounds_toArray, List.set_cons_zero, List.set_cons_succ]
                    refine wpAnyH_take (i := 9) (v := ?vq31_9) (get_os (get_os (get_os (get_os (get_os (get_os (get_os (get_os (get_os (get_o0)))))))))) (by kernel_rfl) (by kernel_rfl) (by kernel_rfl) (by exact fun _ _ _ h => h) (Or.inl ⟨by rfl, ?hyq31_9⟩) (by assumption) ?_
                    case hyq31_9 => (intro w hSw; (try dsimp only at hSw); go_simp) <;> with_reducible rfl
                    try simp only [Act.put, List.setIfInBounds_toArray, List.set_cons_zero, List.set_cons_succ]
                    refine wpAnyH_take (i := 14) (v := ?vq31_14) (get_ot (get_os (get_os (get_os (get_os (get_o0)))))) (by kernel_rfl) (by kernel_rfl) (by kernel_rfl) (by exact fun _ _ _ h => h) (Or.inl ⟨by rfl, ?hyq31_14⟩) (by assumption) ?_
                    case hyq31_14 => (intro w hSw; (try dsimp only at hSw); go_simp) <;> with_reducible rfl
                    try simp only [Act.put, List.setIfInBounds_toArray, List.set_cons_zero, List.set_cons_succ]
                    refine wpAnyH_ready (rs := [5]) (by kernel_rfl) (by simp) ?_
                    refine (AllReadyH.cons (get_os (get_os (get_os (get_os (get_os (get_o0)))))) (fun KK hKK => ?_) AllReadyH.nil)
                    generalize World.drew _ = w7 at *
                    have cz := (H.out.blk 0 rfl).cell 7; simp only [List.getElem?_toArray, List.getElem?_cons_zero, List.getElem?_cons_succ] at cz
                    go_simp
                    clear cz
                    refine hKK.out _ _ (by first | exact HRD.out _ H.out.to | exact HRD.out _ H.out.drew.to) (fun hHeld => ?_)
                    clear hKK KK
                    try simp only [Act.put, List.setIfInBounds_toArray, List.set_cons_zero, List.set_cons_succ]
                    refine wpAnyH_ready (rs := [10]) (by kernel_rfl) (by simp) ?_
                    refine (AllReadyH.cons (get_ot (get_o0)) (fun KK hKK => ?_) AllReadyH.nil)
                    go_simp
                    refine (HG.out _).mono ?_; rintro e' w6 ⟨rfl, rfl⟩
                    refine hKK.out _ _ (by first | exact HRD.out _ H.out.to | exact HRD.out _ H.out.drew.to) (fun hHeld => ?_)
                    clear hKK KK
                    try simp only [Act.put, List.setIfInBounds_toArray, List.set_cons_zero, List.set_cons_succ]
                    refine wpAnyH_take (i := 11) (v := ?vq32_) (get_ot (get_os (get_o0))) (by kernel_rfl) (by kernel_rfl) (by kernel_rfl) (by exact fun _ _ _ h => h) (Or.inl ⟨by rfl, ?hyq32_⟩) (by assumption) ?_
                    case hyq32_ => (intro w hSw; (try dsimp only at hSw); go_simp) <;> with_reducible rfl
                    try simp only [Act.put, List.setIfInBounds_toArray, List.set_cons_zero, List.set_cons_succ]
                    refine wpAnyH_take (i := 12) (v := ?vq33_) (get_ot (get_os (get_os (get_o0)))) (by kernel_rfl) (by kernel_rfl) (by kernel_rfl) (by exact fun _ _ _ h => h) (Or.inl ⟨by rfl, ?hyq33_⟩) (by assumption) ?_
                    case hyq33_ => (intro w hSw; (try dsimp only at hSw); go_simp) <;> with_reducible rfl
                    try simp only [Act.put, List.setIfInBounds_toArray, List.set_cons_zero, List.set_cons_succ]
                    refine wpAnyH_take (i := 13) (v := ?vq34_) (get_ot (get_os (get_os (get_os (get_o0))))) (by kernel_rfl) (by kernel_rfl) (by kernel_rfl) (by exact fun _ _ _ h => h) (Or.inl ⟨by rfl, ?hyq34_⟩) (by assumption) ?_
                    case hyq34_ => (intro w hSw; (try dsimp only at hSw); go_simp) <;> with_reducible rfl
                    try simp only [Act.put, List.setIfInBounds_toArray, List.set_cons_zero, List.set_cons_succ]
                    refine wpAnyH_take (i := 15) (v := ?vq35_) (get_ot (get_os (get_os (get_os (get_os (get_os (get_o0))))))) (by kernel_rfl) (by kernel_rfl) (by kernel_rfl) (by exact fun _ _ _ h => h) (Or.inl ⟨by rfl, ?hyq35_⟩) (by assumption) ?_
                    case hyq35_ => (intro w hSw; (try dsimp only at hSw); go_simp) <;> with_reducible rfl
                    try simp only [Act.put, List.setIfInBounds_toArray, List.set_cons_zero, List.set_cons_succ]
                    refine wpAnyH_take (i := 16) (v := ?vq36_) (get_ot (get_os (get_os (get_os (get_os (get_os (get_os (get_o0)))))))) (by kernel_rfl) (by kernel_rfl) (by kernel_rfl) (by exact fun _ _ _ h => h) (Or.inl ⟨by rfl, ?hyq36_⟩) (by assumption) ?_
                    case hyq36_ => (intro w hSw; (try dsimp only at hSw); go_simp) <;> with_reducible rfl
                    try simp only [Act.put, List.setIfInBounds_toArray, List.set_cons_zero, List.set_cons_succ]
                    refine wpAnyH_ready (rs := [17]) (by kernel_rfl) (by simp) ?_
                    refine (AllReadyH.cons (get_ot (get_os (get_os (get_os (get_os (get_os (get_os (get_os (get_o0))))))))) (fun KK hKK => ?_) AllReadyH.nil)
                    have cz := (H.out.blk 0 rfl).cell 7; simp only [List.getElem?_toArray, List.getElem?_cons_zero, List.getElem?_cons_succ] at cz; have fz := (H.out.blk 0 rfl).frozen 7
                    go_simp
                    replace H := Lib.hid (H.out.setCell 0 rfl 7 (.int .i64 u)); (try simp only [List.set_cons_zero, List.set_cons_succ, List.cons_append, List.nil_append, List.eraseIdx_cons_zero, List.eraseIdx_cons_succ, List.setIfInBounds_toArray, World.size_alloc, selR, List.getD_cons_zero, List.getD_cons_succ] at H)
                    clear cz fz
                    refine hKK.out _ _ (by first | exact HRD.out _ H.out.to | exact HRD.out _ H.out.drew.to) (fun hHeld => ?_)
                    clear hKK KK
                    try simp only [Act.put, List.setIfInBounds_toArray, List.set_cons_zero, List.set_cons_succ]
                    refine wpAnyH_ready (rs := [18]) (by kernel_rfl) (by simp) ?_
                    refine (AllReadyH.cons (get_ot (get_os (get_os (get_os (get_os (get_os (get_os (get_os (get_os (get_o0)))))))))) (fun KK hKK => ?_) AllReadyH.nil)
                    go_simp
                    refine hKK.out _ _ (by first | exact HRD.out _ H.out.to | exact HRD.out _ H.out.drew.to) (fun hHeld => ?_)
                    clear hKK KK
                    try simp only [Act.put, List.setIfInBounds_toArray, List.set_cons_zero, List.set_cons_succ]
                    refine wpAnyH_done (by kernel_rfl) ?_ _
                    clear hHeld
                    cases ok with
                    | true =>
                      have HR2 : Hid (crow C1 0 ys = crow ⟨⟨ds.map Dm.con, ms⟩, fa, P0, Q0, P1, Q1, u, Q2⟩ (2 + 1) (ys.drop (2 + 1))) := by
                        show _ = _
                        rw [HRI.out, drop_get HYV.out, crow_step (by rw [HU.out]), HU.out]
                        rfl
                      have hI2 : Hid (I64 P0 ∧ I64 Q0 ∧ I64 P1 ∧ I64 Q1 ∧ I64 u ∧ I64 Q2) := ⟨hI.out.1, hI.out.2.1, hI.out.2.2.1, hI.out.2.2.2.1, HU6.out, hI.out.2.2.2.2.2⟩
                      clear HRI HU
                      go_wp2_with fail
                      go_roundg (mn - (2 + 1))
                      case rel => exact ⟨2 + 1, P0, Q0, P1, Q1, u, Q2, rfl, by omega, rfl, H, HR2, hI2⟩
                      case measure => rw [Hgj.out]; omega
                    | false =>
                      have HO3 : Hid (O = (CC.nil, 12)) := by
                        show _ = _
                        refine (HOR.out (CC.nil, 12) (HRR0.out.trans ?_)).symm.trans (cfin_bad (by decide))
                        rw [drop_get HYK.out]
                        refine crows_over HYL.out ?_
                        rw [HRI.out, drop_get HYV.out]
                        exact crow_none (by rw [HU.out])
                      go_wp2_with ((with_reducible show wpList _ _ _ (⟨_, .store _ (.tmp 4) _, _, _, _, _⟩ :: _) _ _); (refine wpList_store_blk rfl rowCt (.tmp 4) (.tmp 84) rfl _ rfl (H.out.blk 1 rfl) rfl (#[.slice none 0 0, .slice none 0 0, .int .i64 0, .int .i64 0, .int .i64 0, .int .i64 0, .int .i64 0, .int .i64 0, .int .i64 0]) rfl rfl (by simp [Value.oneCell']) ?_; intro wq bq hgq; replace H := Lib.hid (H.out.setBlk 1 rfl hgq bq); (try simp only [List.set_cons_zero, List.set_cons_succ, List.cons_append, List.nil_append, List.eraseIdx_cons_zero, List.eraseIdx_cons_succ, List.setIfInBounds_toArray, World.size_alloc, selR, List.getD_cons_zero, List.getD_cons_succ] at H); clear hgq bq))
                      refine bodyPost_ret (results_blk rfl rowCt rfl (H.out.blk 1 rfl) rfl) rfl ?_
                      rw [HO3.out]
                      exact catPost_nil H.out.to
              · obtain rfl : j = mn := by omega
                have HRR2 : Hid (crows j ⟨⟨ds.map Dm.con, ms⟩, fa, p0, q0, p1, q1, p2, q2⟩ (rs.map (·.l)) = crows j ⟨⟨ds.map Dm.con, ms⟩, fa, P0, Q0, P1, Q1, P2, Q2⟩ ((rs.map (·.l)).drop (k + 1))) := by
                  show _ = _
                  rw [HRR0.out, drop_get HYK.out]
                  refine crows_ok (HYL.out) ?_
                  rw [HRI.out, List.drop_of_length_le (by have := HYL.out; omega)]
                  rfl
                clear HRR0 HRI
                go_wp2_with fail
                go_roundg (rn - (k + 1))
                case rel => exact ⟨k + 1, P0, Q0, P1, Q1, P2, Q2, rfl, by omega, by go_num, H, HRR2, hI⟩
                case measure => rw [Hgk.out]; omega
          · have e1 : (((yn : Nat) : Int) != mn) = true := by simp; omega
            have HO3 : Hid (O = (CC.nil, 2)) := by
              show _ = _
              refine (HOR.out (CC.nil, 2) (HRR.out.trans ?_)).symm.trans (cfin_bad (by decide))
              rw [drop_get HYK.out]
              exact crows_bad (by have := HYL.out; omega)
            clear hyn
            go_wp2_with ((with_reducible show wpList _ _ _ (⟨_, .store _ (.tmp 4) _, _, _, _, _⟩ :: _) _ _); (refine wpList_store_blk rfl rowCt (.tmp 4) (.tmp 37) rfl _ rfl (H.out.blk 1 rfl) rfl (#[.slice none 0 0, .slice none 0 0, .int .i64 0, .int .i64 0, .int .i64 0, .int .i64 0, .int .i64 0, .int .i64 0, .int .i64 0]) rfl rfl (by simp [Value.oneCell']) ?_; intro wq bq hgq; replace H := Lib.hid (H.out.setBlk 1 rfl hgq bq); (try simp only [List.set_cons_zero, List.set_cons_succ, List.cons_append, List.nil_append, List.eraseIdx_cons_zero, List.eraseIdx_cons_succ, List.setIfInBounds_toArray, World.size_alloc, selR, List.getD_cons_zero, List.getD_cons_succ] at H); clear hgq bq))
            refine bodyPost_ret (results_blk rfl rowCt rfl (H.out.blk 1 rfl) rfl) rfl ?_
            rw [HO3.out]
            exact catPost_nil H.out.to
        · obtain rfl : k = rn := by omega
          have HO3 : Hid (O = (⟨⟨ds.map Dm.con, ms⟩, fa + k, P0, Q0, P1, Q1, P2, Q2⟩, 0)) := by
            show _ = _
            refine (HOR.out (⟨⟨ds.map Dm.con, ms⟩, fa, P0, Q0, P1, Q1, P2, Q2⟩, 0) (HRR.out.trans ?_)).symm.trans ?_
            · rw [List.drop_of_length_le (by rw [List.length_map, hrl.out]; omega)]
              rfl
            · rfl
          clear HRR
          have cz2 := (H.out.blk 0 rfl).cell 2; simp only [List.getElem?_toArray, List.getElem?_cons_zero, List.getElem?_cons_succ] at cz2; have fz2 := (H.out.blk 0 rfl).frozen 2
          go_wp2_with (first | ((with_reducible show wpList _ _ _ (⟨some 93, _, _, _, _, _⟩ :: _) _ _); replace H := Lib.hid (H.out.setCell 0 rfl 2 (.int .i64 (fa + k))); (try simp only [List.set_cons_zero, List.set_cons_succ, List.cons_append, List.nil_append, List.eraseIdx_cons_zero, List.eraseIdx_cons_succ, List.setIfInBounds_toArray, World.size_alloc, selR, List.getD_cons_zero, List.getD_cons_succ] at H); clear cz2 fz2; refine wpList_load_blk rfl rowCt (.tmp 2) rfl _ rfl (H.out.blk 0 rfl) rfl ?_) | ((with_reducible show wpList _ _ _ (⟨_, .store _ (.tmp 4) _, _, _, _, _⟩ :: _) _ _); (refine wpList_store_blk rfl rowCt (.tmp 4) (.tmp 93) rfl _ rfl (H.out.blk 1 rfl) rfl (#[.slice A n c, .slice MA mn mc, .int .i64 (fa + k), .int .i64 P0, .int .i64 Q0, .int .i64 P1, .int .i64 Q1, .int .i64 P2, .int .i64 Q2]) rfl rfl (by simp [Value.oneCell']) ?_; intro wq bq hgq; replace H := Lib.hid (H.out.setBlk 1 rfl hgq bq); (try simp only [List.set_cons_zero, List.set_cons_succ, List.cons_append, List.nil_append, List.eraseIdx_cons_zero, List.eraseIdx_cons_succ, List.setIfInBounds_toArray, World.size_alloc, selR, List.getD_cons_zero, List.getD_cons_succ] at H); clear hgq bq)))
          refine bodyPost_ret (results_blk rfl rowCt rfl (H.out.blk 1 rfl) rfl) rfl ?_
          rw [HO3.out]
          exact ⟨⟨⟨⟨A, n, c, ds⟩, ⟨MA, mn, mc, ms⟩⟩, fa + k, P0, Q0, P1, Q1, P2, Q2⟩, rfl, rfl, ⟨HSC.out.mono H.out.to, by show _ ≤ fa + (k : Int) ∧ fa + (k : Int) ≤ _; omega, hI.out.1, hI.out.2.1, hI.out.2.2.1, hI.out.2.2.2.1, hI.out.2.2.2.2.1, hI.out.2.2.2.2.2⟩, HSM.out, H.out.to⟩
  · have HO2 : Hid (O = (CC.nil, catErr ⟨⟨ds.map Dm.con, ms⟩, fa, p0, q0, p1, q1, p2, q2⟩)) := by have h := HO.out; unfold catGrow at h; rw [if_pos hE] at h; exact h.symm
    have dE : (catErr ⟨⟨ds.map Dm.con, ms⟩, fa, p0, q0, p1, q1, p2, q2⟩ == 0) = false := by simpa using hE
    generalize catErr ⟨⟨ds.map Dm.con, ms⟩, fa, p0, q0, p1, q1, p2, q2⟩ = E at *
    clear hE HO
    go_wp2_with ((with_reducible show wpList _ _ _ (⟨_, .store _ (.tmp 4) _, _, _, _, _⟩ :: _) _ _); (refine wpList_store_blk rfl rowCt (.tmp 4) (.tmp 15) rfl _ rfl (H.out.blk 1 rfl) rfl (#[.slice none 0 0, .slice none 0 0, .int .i64 0, .int .i64 0, .int .i64 0, .int .i64 0, .int .i64 0, .int .i64 0, .int .i64 0]) rfl rfl (by simp [Value.oneCell']) ?_; intro wq bq hgq; replace H := Lib.hid (H.out.setBlk 1 rfl hgq bq); (try simp only [List.set_cons_zero, List.set_cons_succ, List.cons_append, List.nil_append, List.eraseIdx_cons_zero, List.eraseIdx_cons_succ, List.setIfInBounds_toArray, World.size_alloc, selR, List.getD_cons_zero, List.getD_cons_succ] at H); clear hgq bq))
    refine bodyPost_ret (results_blk rfl rowCt rfl (H.out.blk 1 rfl) rfl) rfl ?_
    rw [HO2.out]
    exact catPost_nil H.out.to

end Go.Proofs.Ytigjghfonpfdlaa
