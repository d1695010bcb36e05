/- catalog.Grow. -/
import Derived.Test.YtigjghfonpfdlaaCatP
import Derived.Test.YtigjghfonpfdlaaBatX
namespace Go.Proofs.Ytigjghfonpfdlaa
open Go.RowKit
set_option linter.unusedVariables false
set_option linter.unusedSimpArgs false


def CatPost2 (o : CC × Int) (w : World) (e : Ending) (w' : World) : Prop :=
  ∃ D : Ct, e = .returned (.tuple #[.agg D.cs, .int .i64 o.2]) ∧ D.con = o.1 ∧ D.rd w' ∧ SmS D.sc ∧ Bel w w' ∧ NewR w w' (rSch D.sc)
theorem catPost2_nil {k : Int} {w w' : World} (hb : Bel w w') : CatPost2 (CC.nil, k) w (.returned (.tuple #[.agg #[.slice none 0 0, .slice none 0 0, .int .i64 0, .int .i64 0, .int .i64 0, .int .i64 0, .int .i64 0, .int .i64 0, .int .i64 0], .int .i64 k])) w' := ⟨Ct.nil, rfl, rfl, ct_nil_rd w', small_nil, hb, holds_sch_nil w', sch_nil_new⟩
theorem cfin_bad {n : Nat} {k : Int} (h : k ≠ 0) : cfin n (CC.nil, k) = (CC.nil, k) := by unfold cfin; rw [if_neg h]
theorem Row.rd.slRow {w : World} {x : Row (Row Int)} (h : x.rd w) {k : Nat} (hk : k < x.n) : ∃ b o y, x.A = some ⟨b, o, none⟩ ∧ x.l[k]? = some y ∧ y.ok w ∧ w.cell? ⟨b, o + k, none⟩ = some (.slice y.A y.n y.c) := by
  obtain ⟨b, o, y, e, hy, hc⟩ := rd_cell rfl h.r hk
  exact ⟨b, o, y, e, hy, h.all y (List.mem_of_getElem? hy), hc _ rfl⟩
set_option maxRecDepth 100000 in
set_option maxHeartbeats 8000000 in
theorem catgrow2_any (s : Ct) (r : Row (Row Int)) (w : World) (hs : s.rd w) (hm : SmS s.sc) (hr : r.rd w) (hrn : r.n ≤ 1000000) :
    Calls Try.prog 20 #[.agg s.cs, .slice r.A r.n r.c] w (CatPost2 (catGrow s.con (r.l.map (·.l))) w) := by
  have HC := Lib.hid (fun w' (hb : Bel w w') => catcheck_any s w' (hs.mono hb) hm)
  have HK := Lib.hid (fun hE w' (hb : Bel w w') => catclone_any s.sc w' (hs.sc.mono hb) hE)
  have HRW := Lib.hid hr
  have HRA : Hid (∀ y ∈ r.l, ∀ w', Bel w w' → y.rd w') := fun y hy w' hb => (hr.all y hy).rds.mono hb
  have hrl : Hid (r.l.length = r.n) := hr.len
  have hml : Hid (s.sc.ms.l.length = s.sc.ms.n) := hs.sc.ms.len
  have H := Lib.hid (((SL.start No w).alloc s.cs 40).alloc #[.slice none 0 0, .slice none 0 0, .int .i64 0, .int .i64 0, .int .i64 0, .int .i64 0, .int .i64 0, .int .i64 0, .int .i64 0] 40)
  (try simp only [List.set_cons_zero, List.set_cons_succ, List.cons_append, List.nil_append, List.eraseIdx_cons_zero, List.eraseIdx_cons_succ, List.setIfInBounds_toArray, World.size_alloc, selR, List.getD_cons_zero, List.getD_cons_succ] at H)
  have hfa := hs.fa
  unfold I64 at hfa
  have HI0 : Hid (I64 s.p0 ∧ I64 s.q0 ∧ I64 s.p1 ∧ I64 s.q1 ∧ I64 s.p2 ∧ I64 s.q2) := ⟨hs.p0, hs.q0, hs.p1, hs.q1, hs.p2, hs.q2⟩
  generalize hO : catGrow s.con (r.l.map (·.l)) = O
  have HO := Lib.hid hO
  clear hO
  obtain ⟨⟨⟨A, n, c, ds⟩, ⟨MA, mn, mc, ms⟩⟩, fa, p0, q0, p1, q1, p2, q2⟩ := s
  obtain ⟨RA, rn, rc, rs⟩ := r
  simp only [Ct.cs, Sch.cs, Ct.con, Sch.con] at *
  obtain ⟨f1, f2⟩ := hfa
  clear hs hm hr
  go_enter Try.func20, Try.ntmps20
  go_upto_region 1 with fail
  generalize w.heap.size + 1 = y at *
  generalize w.heap.size = x at *
  generalize World.alloc (World.alloc _ _) _ = w1 at *
  go_wp2_with ((with_reducible show wpList _ _ _ (⟨some 13, _, _, _, _, _⟩ :: _) _ _); (refine wpList_load_blk rfl rowCt (.tmp 2) rfl _ rfl (H.out.blk 0 rfl) rfl ?_))
  refine (HC.out _ H.out.to).mono ?_; rintro e w2 ⟨rfl, hb2⟩
  replace H := Lib.hid (H.out.bel hb2); (try simp only [List.set_cons_zero, List.set_cons_succ, List.cons_append, List.nil_append, List.eraseIdx_cons_zero, List.eraseIdx_cons_succ, List.setIfInBounds_toArray, World.size_alloc, selR, List.getD_cons_zero, List.getD_cons_succ] at H)
  clear hb2 HC
  by_cases hE : catErr ⟨⟨ds.map Dm.con, ms⟩, fa, p0, q0, p1, q1, p2, q2⟩ = 0
  · obtain ⟨g1, g2, g3⟩ := catErr_zero hE
    have hm3 : mn ≤ 3 := by have h : ms.length ≤ 3 := (schErr_zero g1).2.2.2.2.1; have := hml.out; omega
    replace HK := Lib.hid (HK.out g1)
    simp only at g2 g3
    by_cases h4 : 4000 < fa + rn
    · have HO2 : Hid (O = (CC.nil, 6)) := by have h := HO.out; unfold catGrow at h; rw [if_neg (by simp [hE]), if_pos (by rw [List.length_map, hrl.out]; exact h4)] at h; exact h.symm
      have e1 : decide (4000 - fa < (rn : Int)) = true := decide_eq_true (by omega)
      rw [hE]
      have c2 := (H.out.blk 0 rfl).cell 2; simp only [List.getElem?_toArray, List.getElem?_cons_zero, List.getElem?_cons_succ] at c2
      clear hE g1 HK HO
      go_wp2_with ((with_reducible show wpList _ _ _ (⟨_, .store _ (.tmp 4) _, _, _, _, _⟩ :: _) _ _); (refine wpList_store_blk rfl rowCt (.tmp 4) (.tmp 25) rfl _ rfl (H.out.blk 1 rfl) rfl (#[.slice none 0 0, .slice none 0 0, .int .i64 0, .int .i64 0, .int .i64 0, .int .i64 0, .int .i64 0, .int .i64 0, .int .i64 0]) rfl rfl (by simp [Value.oneCell']) ?_; intro wq bq hgq; replace H := Lib.hid (H.out.setBlk 1 rfl hgq bq); (try simp only [List.set_cons_zero, List.set_cons_succ, List.cons_append, List.nil_append, List.eraseIdx_cons_zero, List.eraseIdx_cons_succ, List.setIfInBounds_toArray, World.size_alloc, selR, List.getD_cons_zero, List.getD_cons_succ] at H); clear hgq bq))
      refine bodyPost_ret (results_blk rfl rowCt rfl (H.out.blk 1 rfl) rfl) rfl ?_
      rw [HO2.out]
      exact catPost2_nil H.out.to
    · have HO4 : Hid (O = cfin rn (crows mn ⟨⟨ds.map Dm.con, ms⟩, fa, p0, q0, p1, q1, p2, q2⟩ (rs.map (·.l)))) := by have h := HO.out; unfold catGrow at h; rw [if_neg (by simp [hE]), if_neg (by rw [List.length_map, hrl.out]; exact h4)] at h; rw [← h, List.length_map, hrl.out]; show cfin rn (crows ms.length _ _) = _; rw [hml.out]
      have e1 : decide (4000 - fa < (rn : Int)) = false := decide_eq_false (by omega)
      rw [hE]
      have c2 := (H.out.blk 0 rfl).cell 2; simp only [List.getElem?_toArray, List.getElem?_cons_zero, List.getElem?_cons_succ] at c2
      clear hE g1 HO
      go_upto_region 6 with fail
      clear c2 e1
      refine wp_region_held_drew (S := fun w => w.cell? ⟨x, 0, none⟩ = some (.slice A n c) ∧ w.cell? ⟨x, 1, none⟩ = some (.slice MA mn mc) ∧ w.cell? ⟨x, 2, none⟩ = some (.int .i64 fa) ∧ w.cell? ⟨x, 3, none⟩ = some (.int .i64 p0) ∧ w.cell? ⟨x, 4, none⟩ = some (.int .i64 q0) ∧ w.cell? ⟨x, 5, none⟩ = some (.int .i64 p1) ∧ w.cell? ⟨x, 6, none⟩ = some (.int .i64 q1) ∧ w.cell? ⟨x, 7, none⟩ = some (.int .i64 p2) ∧ w.cell? ⟨x, 8, none⟩ = some (.int .i64 q2)) (by kernel_rfl) (by exact ⟨(H.out.blk 0 rfl).cell 0, (H.out.blk 0 rfl).cell 1, (H.out.blk 0 rfl).cell 2, (H.out.blk 0 rfl).cell 3, (H.out.blk 0 rfl).cell 4, (H.out.blk 0 rfl).cell 5, (H.out.blk 0 rfl).cell 6, (H.out.blk 0 rfl).cell 7, (H.out.blk 0 rfl).cell 8⟩) (fun hHeld => ?_)
      replace H := Lib.hid (H.out.drew); (try simp only [List.set_cons_zero, List.set_cons_succ, List.cons_append, List.nil_append, List.eraseIdx_cons_zero, List.eraseIdx_cons_succ, List.setIfInBounds_toArray, World.size_alloc, selR, List.getD_cons_zero, List.getD_cons_succ] at H)
      refine wpAnyH_take (i := 0) (v := ?vq1_0) (get_o0) (by kernel_rfl) (by kernel_rfl) (by kernel_rfl) (by exact fun _ _ _ h => h) (Or.inl ⟨by rfl, ?hyq1_0⟩) (by assumption) ?_
      case hyq1_0 => (intro w hSw; (try dsimp only at hSw); go_simp) <;> with_reducible rfl
      try simp only [Act.put, List.setIfInBounds_toArray, List.set_cons_zero, List.set_cons_succ]
      refine wpAnyH_take (i := 1) (v := ?vq1_1) (get_os (get_o0)) (by kernel_rfl) (by kernel_rfl) (by kernel_rfl) (by exact fun _ _ _ h => h) (Or.inl ⟨by rfl, ?hyq1_1⟩) (by assumption) ?_
      case hyq1_1 => (intro w hSw; (try dsimp only at hSw); go_simp) <;> with_reducible rfl
      try simp only [Act.put, List.setIfInBounds_toArray, List.set_cons_zero, List.set_cons_succ]
      refine wpAnyH_take (i := 3) (v := ?vq1_3) (get_os (get_os (get_os (get_o0)))) (by kernel_rfl) (by kernel_rfl) (by kernel_rfl) (by exact fun _ _ _ h => h) (Or.inl ⟨by rfl, ?hyq1_3⟩) (by assumption) ?_
      case hyq1_3 => (intro w hSw; (try dsimp only at hSw); go_simp) <;> with_reducible rfl
      try simp only [Act.put, List.setIfInBounds_toArray, List.set_cons_zero, List.set_cons_succ]
      refine wpAnyH_take (i := 4) (v := ?vq1_4) (get_os (get_os (get_os (get_os (get_o0))))) (by kernel_rfl) (by kernel_rfl) (by kernel_rfl) (by exact fun _ _ _ h => h) (Or.inl ⟨by rfl, ?hyq1_4⟩) (by assumption) ?_
      case hyq1_4 => (intro w hSw; (try dsimp only at hSw); go_simp) <;> with_reducible rfl
      try simp only [Act.put, List.setIfInBounds_toArray, List.set_cons_zero, List.set_cons_succ]
      refine wpAnyH_take (i := 5) (v := ?vq1_5) (get_os (get_os (get_os (get_os (get_os (get_o0)))))) (by kernel_rfl) (by kernel_rfl) (by kernel_rfl) (by exact fun _ _ _ h => h) (Or.inl ⟨by rfl, ?hyq1_5⟩) (by assumption) ?_
      case hyq1_5 => (intro w hSw; (try dsimp only at hSw); go_simp) <;> with_reducible rfl
      try simp only [Act.put, List.setIfInBounds_toArray, List.set_cons_zero, List.set_cons_succ]
      refine wpAnyH_take (i := 6) (v := ?vq1_6) (get_os (get_os (get_os (get_os (get_os (get_os (get_o0))))))) (by kernel_rfl) (by kernel_rfl) (by kernel_rfl) (by exact fun _ _ _ h => h) (Or.inl ⟨by rfl, ?hyq1_6⟩) (by assumption) ?_
      case hyq1_6 => (intro w hSw; (try dsimp only at hSw); go_simp) <;> with_reducible rfl
      try simp only [Act.put, List.setIfInBounds_toArray, List.set_cons_zero, List.set_cons_succ]
      refine wpAnyH_ready (rs := [2, 8]) (by kernel_rfl) (by simp) ?_
      refine (AllReadyH.cons (get_os (get_os (get_o0))) (fun KK hKK => ?_) (AllReadyH.cons (get_os (get_os (get_os (get_os (get_os (get_os (get_os (get_os (get_o0))))))))) (fun KK hKK => ?_) AllReadyH.nil))
      · go_simp
        refine (HK.out _ H.out.to).mono ?_; rintro e w3 ⟨D, rfl, hD, hb3, hN⟩
        replace H := Lib.hid (H.out.add hb3 _ hN.1 hN.2); (try simp only [List.set_cons_zero, List.set_cons_succ, List.cons_append, List.nil_append, List.eraseIdx_cons_zero, List.eraseIdx_cons_succ, List.setIfInBounds_toArray, World.size_alloc, selR, List.getD_cons_zero, List.getD_cons_succ] at H)
        have HDC := Lib.hid hD
        clear hN hD hb3
        obtain ⟨⟨B, m, d, es⟩, ⟨MB, mm, md, mt⟩⟩ := D
        simp only [Sch.cs, Sch.con] at *
        have hbd : ∀ w : World, (Instr.build 40 #[(0, .agg #[.slice B m d, .slice MB mm md]), (1, .int .i64 fa), (2, .agg #[.int .i64 p0, .int .i64 q0, .int .i64 p1, .int .i64 q1, .int .i64 p2, .int .i64 q2])]).run Try.prog w = .ok (.agg #[.slice B m d, .slice MB mm md, .int .i64 fa, .int .i64 p0, .int .i64 q0, .int .i64 p1, .int .i64 q1, .int .i64 p2, .int .i64 q2]) w := fun _ => by kernel_rfl
        refine hKK.out _ _ (by exact ⟨(H.out.blk 0 rfl).cell 0, (H.out.blk 0 rfl).cell 1, (H.out.blk 0 rfl).cell 2, (H.out.blk 0 rfl).cell 3, (H.out.blk 0 rfl).cell 4, (H.out.blk 0 rfl).cell 5, (H.out.blk 0 rfl).cell 6, (H.out.blk 0 rfl).cell 7, (H.out.blk 0 rfl).cell 8⟩) (fun hHeld => ?_)
        clear hKK KK
        try simp only [Act.put, List.setIfInBounds_toArray, List.set_cons_zero, List.set_cons_succ]
        refine wpAnyH_ready (rs := [7, 8]) (by kernel_rfl) (by simp) ?_
        refine (AllReadyH.cons (get_os (get_os (get_os (get_os (get_os (get_os (get_os (get_o0)))))))) (fun KK hKK => ?_) (AllReadyH.cons (get_os (get_os (get_os (get_os (get_os (get_os (get_os (get_os (get_o0))))))))) (fun KK hKK => ?_) AllReadyH.nil))
        · go_simp
          refine hKK.out _ _ (by exact ⟨(H.out.blk 0 rfl).cell 0, (H.out.blk 0 rfl).cell 1, (H.out.blk 0 rfl).cell 2, (H.out.blk 0 rfl).cell 3, (H.out.blk 0 rfl).cell 4, (H.out.blk 0 rfl).cell 5, (H.out.blk 0 rfl).cell 6, (H.out.blk 0 rfl).cell 7, (H.out.blk 0 rfl).cell 8⟩) (fun hHeld => ?_)
          clear hKK KK
          try simp only [Act.put, List.setIfInBounds_toArray, List.set_cons_zero, List.set_cons_succ]
          refine wpAnyH_ready (rs := [8]) (by kernel_rfl) (by simp) ?_
          refine (AllReadyH.cons (get_os (get_os (get_os (get_os (get_os (get_os (get_os (get_os (get_o0))))))))) (fun KK hKK => ?_) AllReadyH.nil)
          go_simp
          replace H := Lib.hid (H.out.alloc #[.slice none 0 0, .slice none 0 0, .int .i64 0, .int .i64 0, .int .i64 0, .int .i64 0, .int .i64 0, .int .i64 0, .int .i64 0] 40); (try simp only [List.set_cons_zero, List.set_cons_succ, List.cons_append, List.nil_append, List.eraseIdx_cons_zero, List.eraseIdx_cons_succ, List.setIfInBounds_toArray, World.size_alloc, selR, List.getD_cons_zero, List.getD_cons_succ] at H)
          refine hKK.out _ _ (by exact ⟨(H.out.blk 0 rfl).cell 0, (H.out.blk 0 rfl).cell 1, (H.out.blk 0 rfl).cell 2, (H.out.blk 0 rfl).cell 3, (H.out.blk 0 rfl).cell 4, (H.out.blk 0 rfl).cell 5, (H.out.blk 0 rfl).cell 6, (H.out.blk 0 rfl).cell 7, (H.out.blk 0 rfl).cell 8⟩) (fun hHeld => ?_)
          clear hKK KK
          try simp only [Act.put, List.setIfInBounds_toArray, List.set_cons_zero, List.set_cons_succ]
          refine wpAnyH_ready (rs := [9]) (by kernel_rfl) (by simp) ?_
          refine (AllReadyH.cons (get_os (get_os (get_os (get_os (get_os (get_os (get_os (get_os (get_os (get_o0)))))))))) (fun KK hKK => ?_) AllReadyH.nil)
          generalize w3.heap.size = z at *
          generalize World.alloc w3 _ = w4 at *
          refine step_store_blk rfl rowCt (.tmp 7) (.tmp 33) rfl _ rfl (H.out.blk 3 rfl) rfl (#[.slice B m d, .slice MB mm md, .int .i64 fa, .int .i64 p0, .int .i64 q0, .int .i64 p1, .int .i64 q1, .int .i64 p2, .int .i64 q2]) rfl rfl (by simp [Value.oneCell']) ?_
          intro wq bq hgq
          replace H := Lib.hid (H.out.setBlk 3 rfl hgq bq); (try simp only [List.set_cons_zero, List.set_cons_succ, List.cons_append, List.nil_append, List.eraseIdx_cons_zero, List.eraseIdx_cons_succ, List.setIfInBounds_toArray, World.size_alloc, selR, List.getD_cons_zero, List.getD_cons_succ] at H)
          clear hgq bq
          refine hKK.out _ _ (by exact ⟨(H.out.blk 0 rfl).cell 0, (H.out.blk 0 rfl).cell 1, (H.out.blk 0 rfl).cell 2, (H.out.blk 0 rfl).cell 3, (H.out.blk 0 rfl).cell 4, (H.out.blk 0 rfl).cell 5, (H.out.blk 0 rfl).cell 6, (H.out.blk 0 rfl).cell 7, (H.out.blk 0 rfl).cell 8⟩) (fun hHeld => ?_)
          clear hKK KK
          try simp only [Act.put, List.setIfInBounds_toArray, List.set_cons_zero, List.set_cons_succ]
          refine wpAnyH_done (by kernel_rfl) ?_ _
          clear hHeld
          replace H := Lib.hid (H.out.sel [0, 1, 3, 2] (by decide) (by simp)); (try simp only [List.set_cons_zero, List.set_cons_succ, List.cons_append, List.nil_append, List.eraseIdx_cons_zero, List.eraseIdx_cons_succ, List.setIfInBounds_toArray, World.size_alloc, selR, List.getD_cons_zero, List.getD_cons_succ] at H)
          go_wp2_with fail
          have HOR : Hid (∀ o, crows mn ⟨⟨ds.map Dm.con, ms⟩, fa, p0, q0, p1, q1, p2, q2⟩ (rs.map (·.l)) = o → cfin rn o = O) := fun o ho => by rw [HO4.out, ho]
          have HRR : Hid (crows mn ⟨⟨ds.map Dm.con, ms⟩, fa, p0, q0, p1, q1, p2, q2⟩ (rs.map (·.l)) = crows mn ⟨⟨ds.map Dm.con, ms⟩, fa, p0, q0, p1, q1, p2, q2⟩ ((rs.map (·.l)).drop 0)) := rfl
          clear HO4
          go_loopg [8, 36] rn (fun gg s8 i wr => ∃ (k : Nat) (P0 Q0 P1 Q1 P2 Q2 : Int) (ob : Bool), gg = rn - k ∧ k ≤ rn ∧ s8 = .bool ob ∧ i = .int .i64 k ∧ Hid (SL No w wr [rBlk x 40 #[.slice A n c, .slice MA mn mc, .int .i64 fa, .int .i64 p0, .int .i64 q0, .int .i64 p1, .int .i64 q1, .int .i64 p2, .int .i64 q2], rBlk y 40 #[.slice none 0 0, .slice none 0 0, .int .i64 0, .int .i64 0, .int .i64 0, .int .i64 0, .int .i64 0, .int .i64 0, .int .i64 0], rBlk z 40 #[.slice B m d, .slice MB mm md, .int .i64 fa, .int .i64 P0, .int .i64 Q0, .int .i64 P1, .int .i64 Q1, .int .i64 P2, .int .i64 Q2], rSch ⟨⟨B, m, d, es⟩, ⟨MB, mm, md, mt⟩⟩]) ∧ Hid (crows mn ⟨⟨ds.map Dm.con, ms⟩, fa, p0, q0, p1, q1, p2, q2⟩ (rs.map (·.l)) = crows mn ⟨⟨ds.map Dm.con, ms⟩, fa, P0, Q0, P1, Q1, P2, Q2⟩ ((rs.map (·.l)).drop k)) ∧ Hid (I64 P0 ∧ I64 Q0 ∧ I64 P1 ∧ I64 Q1 ∧ I64 P2 ∧ I64 Q2))
          case atStart => exact ⟨0, p0, q0, p1, q1, p2, q2, true, rfl, by omega, rfl, rfl, H, HRR, HI0⟩
          case round =>
            clear H HRR HI0
            obtain ⟨k, P0, Q0, P1, Q1, P2, Q2, ob, hgk, hk, rfl, rfl, H, HRR, hI⟩ := hrel
            have Hgk := Lib.hid hgk
            clear hgk
            by_cases hlt : k < rn
            · obtain ⟨bb, oo, yr, hA, hyk, hyok, q1'⟩ := (HRW.out.mono H.out.to).slRow (k := k) hlt
              simp only at hA
              subst hA
              have HYK : Hid ((rs.map (·.l))[k]? = some yr.l) := by show _ = _; rw [List.getElem?_map, hyk]; rfl
              have HYR := Lib.hid (fun w' (hb : Bel w w') => (HRA.out yr (List.mem_of_getElem? hyk) w' hb))
              have HYL : Hid (yr.l.length = yr.n) := hyok.rds.len
              have y63 := hyok.rds.n63
              have i0 : (0 : Int) ≤ k := by omega
              have i1 : (k : Int) < rn := by omega
              clear hyk hyok
              obtain ⟨YA, yn, yc, ys⟩ := yr
              simp only at *
              have cm0 := (H.out.blk 0 rfl).cell 1; simp only [List.getElem?_toArray, List.getElem?_cons_zero, List.getElem?_cons_succ] at cm0
              by_cases hyn : yn = mn
              · obtain rfl : mn = yn := hyn.symm
                have e1 : (((mn : Nat) : Int) != mn) = false := by simp
                have e2 : decide ((3 : Int) < mn) = false := by simp <;> omega
                go_wp2_with fail
                clear cm0 e1 e2 q1'
                have HRI : Hid (crow ⟨⟨ds.map Dm.con, ms⟩, fa, P0, Q0, P1, Q1, P2, Q2⟩ 0 ys = crow ⟨⟨ds.map Dm.con, ms⟩, fa, P0, Q0, P1, Q1, P2, Q2⟩ 0 (ys.drop 0)) := rfl
                have hI0 := hI
                have HRR0 := HRR
                clear hI HRR
                generalize hC1 : (⟨⟨ds.map Dm.con, ms⟩, fa, P0, Q0, P1, Q1, P2, Q2⟩ : CC) = C1 at HRR0 HRI
                have HC1 := Lib.hid hC1
                clear hC1
                replace HRI : Hid (crow C1 0 ys = crow ⟨⟨ds.map Dm.con, ms⟩, fa, P0, Q0, P1, Q1, P2, Q2⟩ 0 (ys.drop 0)) := by show _ = _; rw [HC1.out]; exact HRI.out
                go_loopg [8, 55] mn (fun gg s8 i wr => ∃ (j : Nat) (P0 Q0 P1 Q1 P2 Q2 : Int) (ob : Bool), gg = mn - j ∧ j ≤ mn ∧ s8 = .bool ob ∧ i = .int .i64 j ∧ Hid (SL No w wr [rBlk x 40 #[.slice A n c, .slice MA mn mc, .int .i64 fa, .int .i64 p0, .int .i64 q0, .int .i64 p1, .int .i64 q1, .int .i64 p2, .int .i64 q2], rBlk y 40 #[.slice none 0 0, .slice none 0 0, .int .i64 0, .int .i64 0, .int .i64 0, .int .i64 0, .int .i64 0, .int .i64 0, .int .i64 0], rBlk z 40 #[.slice B m d, .slice MB mm md, .int .i64 fa, .int .i64 P0, .int .i64 Q0, .int .i64 P1, .int .i64 Q1, .int .i64 P2, .int .i64 Q2], rSch ⟨⟨B, m, d, es⟩, ⟨MB, mm, md, mt⟩⟩]) ∧ Hid (crow C1 0 ys = crow ⟨⟨ds.map Dm.con, ms⟩, fa, P0, Q0, P1, Q1, P2, Q2⟩ j (ys.drop j)) ∧ Hid (I64 P0 ∧ I64 Q0 ∧ I64 P1 ∧ I64 Q1 ∧ I64 P2 ∧ I64 Q2))
                case atStart => exact ⟨0, P0, Q0, P1, Q1, P2, Q2, ob, rfl, by omega, rfl, rfl, H, HRI, hI0⟩
                case round =>
                  clear H HRI hI0 HC1
                  obtain ⟨j, P0, Q0, P1, Q1, P2, Q2, ob, hgj, hj, rfl, rfl, H, HRI, hI⟩ := hrel
                  have Hgj := Lib.hid hgj
                  clear hgj
                  by_cases hjlt : j < mn
                  · obtain ⟨b2, o2, v, hA, hyv, hv, q2'⟩ := (HYR.out _ H.out.to).intAt (k := j) hjlt
                    simp only at hA
                    subst hA
                    have HYV := Lib.hid hyv
                    have HV := Lib.hid hv
                    clear hyv hv
                    have j0 : (0 : Int) ≤ j := by omega
                    have j1 : (j : Int) < mn := by omega
                    go_upto_region 16 with fail
                    clear q2'
                    obtain rfl | rfl | rfl : j = 0 ∨ j = 1 ∨ j = 2 := by omega
                    · rw [show ((0 : Nat) : Int) = 0 from rfl]
                      have hu := egrow_i64 (v := v) (hI.out.1) (hI.out.2.1)
                      have HG := Lib.hid (fun w => egrow_any P0 Q0 v w (hI.out.1) (hI.out.2.1) HV.out)
                      have HU : Hid (cupd ⟨⟨ds.map Dm.con, ms⟩, fa, P0, Q0, P1, Q1, P2, Q2⟩ 0 v = (⟨⟨ds.map Dm.con, ms⟩, fa, (egrow P0 Q0 v).1.1, (egrow P0 Q0 v).1.2, P1, Q1, P2, Q2⟩, (egrow P0 Q0 v).2)) := rfl
                      generalize egrow P0 Q0 v = G at *
                      obtain ⟨⟨u1, u2⟩, ok⟩ := G
                      simp only at HG HU hu
                      go_wp2_with ((with_reducible show wpList _ _ _ (⟨some 65, _, _, _, _, _⟩ :: _) _ _); (refine wpList_load_row_at rfl rowTt (.tmp 64) rfl z (3) rfl #[.int .i64 P0, .int .i64 Q0] rfl ((H.out.blk 2 rfl).part 3 _ rfl) ?_))
                      refine (HG.out _).mono ?_; rintro e w6 ⟨rfl, hb6⟩
                      replace H := Lib.hid (H.out.bel hb6); (try simp only [List.set_cons_zero, List.set_cons_succ, List.cons_append, List.nil_append, List.eraseIdx_cons_zero, List.eraseIdx_cons_succ, List.setIfInBounds_toArray, World.size_alloc, selR, List.getD_cons_zero, List.getD_cons_succ] at H)
                      clear hb6 HG
                      cases ok with
                      | true =>
                        have HR2 : Hid (crow C1 0 ys = crow ⟨⟨ds.map Dm.con, ms⟩, fa, u1, u2, P1, Q1, P2, Q2⟩ (0 + 1) (ys.drop (0 + 1))) := by
                          show _ = _
                          rw [HRI.out, drop_get HYV.out, crow_step (by rw [HU.out]), HU.out]
                        have hI2 : Hid (I64 u1 ∧ I64 u2 ∧ I64 P1 ∧ I64 Q1 ∧ I64 P2 ∧ I64 Q2) := ⟨hu.1, hu.2, hI.out.2.2.1, hI.out.2.2.2.1, hI.out.2.2.2.2.1, hI.out.2.2.2.2.2⟩
                        clear HRI HU
                        go_wp2_with ((with_reducible show wpList _ _ _ (⟨_, .store _ (.tmp 71) _, _, _, _, _⟩ :: _) _ _); refine wpList_store_at rfl rowTt (.tmp 71) (.tmp 68) rfl z 3 rfl (H.out.blk 2 rfl) #[.int .i64 u1, .int .i64 u2] rfl (by simp) rfl (by simp [Value.oneCell']) ?_; intro wq bq hgq; replace bq : Blk wq z 40 #[.slice B m d, .slice MB mm md, .int .i64 fa, .int .i64 u1, .int .i64 u2, .int .i64 P1, .int .i64 Q1, .int .i64 P2, .int .i64 Q2] := bq; replace H := Lib.hid (H.out.setBlk 2 rfl hgq bq); (try simp only [List.set_cons_zero, List.set_cons_succ, List.cons_append, List.nil_append, List.eraseIdx_cons_zero, List.eraseIdx_cons_succ, List.setIfInBounds_toArray, World.size_alloc, selR, List.getD_cons_zero, List.getD_cons_succ] at H); clear hgq bq)
                        go_roundg (mn - (0 + 1))
                        case rel => exact ⟨0 + 1, u1, u2, P1, Q1, P2, Q2, true, rfl, by omega, rfl, rfl, H, HR2, hI2⟩
                        case measure => rw [Hgj.out]; omega
                      | false =>
                        have HO3 : Hid (O = (CC.nil, 12)) := by
                          show _ = _
                          refine (HOR.out (CC.nil, 12) (HRR0.out.trans ?_)).symm.trans (cfin_bad (by decide))
                          rw [drop_get HYK.out]
                          refine crows_over HYL.out ?_
                          rw [HRI.out, drop_get HYV.out]
                          exact crow_none (by rw [HU.out])
                        go_wp2_with (first | ((with_reducible show wpList _ _ _ (⟨_, .store _ (.tmp 71) _, _, _, _, _⟩ :: _) _ _); refine wpList_store_at rfl rowTt (.tmp 71) (.tmp 68) rfl z 3 rfl (H.out.blk 2 rfl) #[.int .i64 u1, .int .i64 u2] rfl (by simp) rfl (by simp [Value.oneCell']) ?_; intro wq bq hgq; replace bq : Blk wq z 40 #[.slice B m d, .slice MB mm md, .int .i64 fa, .int .i64 u1, .int .i64 u2, .int .i64 P1, .int .i64 Q1, .int .i64 P2, .int .i64 Q2] := bq; replace H := Lib.hid (H.out.setBlk 2 rfl hgq bq); (try simp only [List.set_cons_zero, List.set_cons_succ, List.cons_append, List.nil_append, List.eraseIdx_cons_zero, List.eraseIdx_cons_succ, List.setIfInBounds_toArray, World.size_alloc, selR, List.getD_cons_zero, List.getD_cons_succ] at H); clear hgq bq) | ((with_reducible show wpList _ _ _ (⟨_, .store _ (.tmp 4) _, _, _, _, _⟩ :: _) _ _); (refine wpList_store_blk rfl rowCt (.tmp 4) (.tmp 74) rfl _ rfl (H.out.blk 1 rfl) rfl (#[.slice none 0 0, .slice none 0 0, .int .i64 0, .int .i64 0, .int .i64 0, .int .i64 0, .int .i64 0, .int .i64 0, .int .i64 0]) rfl rfl (by simp [Value.oneCell']) ?_; intro wq bq hgq; replace H := Lib.hid (H.out.setBlk 1 rfl hgq bq); (try simp only [List.set_cons_zero, List.set_cons_succ, List.cons_append, List.nil_append, List.eraseIdx_cons_zero, List.eraseIdx_cons_succ, List.setIfInBounds_toArray, World.size_alloc, selR, List.getD_cons_zero, List.getD_cons_succ] at H); clear hgq bq)))
                        refine bodyPost_ret (results_blk rfl rowCt rfl (H.out.blk 1 rfl) rfl) rfl ?_
                        rw [HO3.out]
                        exact catPost2_nil H.out.to
                    · rw [show ((1 : Nat) : Int) = 1 from rfl]
                      have hu := egrow_i64 (v := v) (hI.out.2.2.1) (hI.out.2.2.2.1)
                      have HG := Lib.hid (fun w => egrow_any P1 Q1 v w (hI.out.2.2.1) (hI.out.2.2.2.1) HV.out)
                      have HU : Hid (cupd ⟨⟨ds.map Dm.con, ms⟩, fa, P0, Q0, P1, Q1, P2, Q2⟩ 1 v = (⟨⟨ds.map Dm.con, ms⟩, fa, P0, Q0, (egrow P1 Q1 v).1.1, (egrow P1 Q1 v).1.2, P2, Q2⟩, (egrow P1 Q1 v).2)) := rfl
                      generalize egrow P1 Q1 v = G at *
                      obtain ⟨⟨u1, u2⟩, ok⟩ := G
                      simp only at HG HU hu
                      go_wp2_with ((with_reducible show wpList _ _ _ (⟨some 65, _, _, _, _, _⟩ :: _) _ _); (refine wpList_load_row_at rfl rowTt (.tmp 64) rfl z (5) rfl #[.int .i64 P1, .int .i64 Q1] rfl ((H.out.blk 2 rfl).part 5 _ rfl) ?_))
                      refine (HG.out _).mono ?_; rintro e w6 ⟨rfl, hb6⟩
                      replace H := Lib.hid (H.out.bel hb6); (try simp only [List.set_cons_zero, List.set_cons_succ, List.cons_append, List.nil_append, List.eraseIdx_cons_zero, List.eraseIdx_cons_succ, List.setIfInBounds_toArray, World.size_alloc, selR, List.getD_cons_zero, List.getD_cons_succ] at H)
                      clear hb6 HG
                      cases ok with
                      | true =>
                        have HR2 : Hid (crow C1 0 ys = crow ⟨⟨ds.map Dm.con, ms⟩, fa, P0, Q0, u1, u2, P2, Q2⟩ (1 + 1) (ys.drop (1 + 1))) := by
                          show _ = _
                          rw [HRI.out, drop_get HYV.out, crow_step (by rw [HU.out]), HU.out]
                        have hI2 : Hid (I64 P0 ∧ I64 Q0 ∧ I64 u1 ∧ I64 u2 ∧ I64 P2 ∧ I64 Q2) := ⟨hI.out.1, hI.out.2.1, hu.1, hu.2, hI.out.2.2.2.2.1, hI.out.2.2.2.2.2⟩
                        clear HRI HU
                        go_wp2_with ((with_reducible show wpList _ _ _ (⟨_, .store _ (.tmp 71) _, _, _, _, _⟩ :: _) _ _); refine wpList_store_at rfl rowTt (.tmp 71) (.tmp 68) rfl z 5 rfl (H.out.blk 2 rfl) #[.int .i64 u1, .int .i64 u2] rfl (by simp) rfl (by simp [Value.oneCell']) ?_; intro wq bq hgq; replace bq : Blk wq z 40 #[.slice B m d, .slice MB mm md, .int .i64 fa, .int .i64 P0, .int .i64 Q0, .int .i64 u1, .int .i64 u2, .int .i64 P2, .int .i64 Q2] := bq; replace H := Lib.hid (H.out.setBlk 2 rfl hgq bq); (try simp only [List.set_cons_zero, List.set_cons_succ, List.cons_append, List.nil_append, List.eraseIdx_cons_zero, List.eraseIdx_cons_succ, List.setIfInBounds_toArray, World.size_alloc, selR, List.getD_cons_zero, List.getD_cons_succ] at H); clear hgq bq)
                        go_roundg (mn - (1 + 1))
                        case rel => exact ⟨1 + 1, P0, Q0, u1, u2, P2, Q2, true, rfl, by omega, rfl, rfl, H, HR2, hI2⟩
                        case measure => rw [Hgj.out]; omega
                      | false =>
                        have HO3 : Hid (O = (CC.nil, 12)) := by
                          show _ = _
                          refine (HOR.out (CC.nil, 12) (HRR0.out.trans ?_)).symm.trans (cfin_bad (by decide))
                          rw [drop_get HYK.out]
                          refine crows_over HYL.out ?_
                          rw [HRI.out, drop_get HYV.out]
                          exact crow_none (by rw [HU.out])
                        go_wp2_with (first | ((with_reducible show wpList _ _ _ (⟨_, .store _ (.tmp 71) _, _, _, _, _⟩ :: _) _ _); refine wpList_store_at rfl rowTt (.tmp 71) (.tmp 68) rfl z 5 rfl (H.out.blk 2 rfl) #[.int .i64 u1, .int .i64 u2] rfl (by simp) rfl (by simp [Value.oneCell']) ?_; intro wq bq hgq; replace bq : Blk wq z 40 #[.slice B m d, .slice MB mm md, .int .i64 fa, .int .i64 P0, .int .i64 Q0, .int .i64 u1, .int .i64 u2, .int .i64 P2, .int .i64 Q2] := bq; replace H := Lib.hid (H.out.setBlk 2 rfl hgq bq); (try simp only [List.set_cons_zero, List.set_cons_succ, List.cons_append, List.nil_append, List.eraseIdx_cons_zero, List.eraseIdx_cons_succ, List.setIfInBounds_toArray, World.size_alloc, selR, List.getD_cons_zero, List.getD_cons_succ] at H); clear hgq bq) | ((with_reducible show wpList _ _ _ (⟨_, .store _ (.tmp 4) _, _, _, _, _⟩ :: _) _ _); (refine wpList_store_blk rfl rowCt (.tmp 4) (.tmp 74) rfl _ rfl (H.out.blk 1 rfl) rfl (#[.slice none 0 0, .slice none 0 0, .int .i64 0, .int .i64 0, .int .i64 0, .int .i64 0, .int .i64 0, .int .i64 0, .int .i64 0]) rfl rfl (by simp [Value.oneCell']) ?_; intro wq bq hgq; replace H := Lib.hid (H.out.setBlk 1 rfl hgq bq); (try simp only [List.set_cons_zero, List.set_cons_succ, List.cons_append, List.nil_append, List.eraseIdx_cons_zero, List.eraseIdx_cons_succ, List.setIfInBounds_toArray, World.size_alloc, selR, List.getD_cons_zero, List.getD_cons_succ] at H); clear hgq bq)))
                        refine bodyPost_ret (results_blk rfl rowCt rfl (H.out.blk 1 rfl) rfl) rfl ?_
                        rw [HO3.out]
                        exact catPost2_nil H.out.to
                    · rw [show ((2 : Nat) : Int) = 2 from rfl]
                      have hu := egrow_i64 (v := v) (hI.out.2.2.2.2.1) (hI.out.2.2.2.2.2)
                      have HG := Lib.hid (fun w => egrow_any P2 Q2 v w (hI.out.2.2.2.2.1) (hI.out.2.2.2.2.2) HV.out)
                      have HU : Hid (cupd ⟨⟨ds.map Dm.con, ms⟩, fa, P0, Q0, P1, Q1, P2, Q2⟩ 2 v = (⟨⟨ds.map Dm.con, ms⟩, fa, P0, Q0, P1, Q1, (egrow P2 Q2 v).1.1, (egrow P2 Q2 v).1.2⟩, (egrow P2 Q2 v).2)) := rfl
                      generalize egrow P2 Q2 v = G at *
                      obtain ⟨⟨u1, u2⟩, ok⟩ := G
                      simp only at HG HU hu
                      go_wp2_with ((with_reducible show wpList _ _ _ (⟨some 65, _, _, _, _, _⟩ :: _) _ _); (refine wpList_load_row_at rfl rowTt (.tmp 64) rfl z (7) rfl #[.int .i64 P2, .int .i64 Q2] rfl ((H.out.blk 2 rfl).part 7 _ rfl) ?_))
                      refine (HG.out _).mono ?_; rintro e w6 ⟨rfl, hb6⟩
                      replace H := Lib.hid (H.out.bel hb6); (try simp only [List.set_cons_zero, List.set_cons_succ, List.cons_append, List.nil_append, List.eraseIdx_cons_zero, List.eraseIdx_cons_succ, List.setIfInBounds_toArray, World.size_alloc, selR, List.getD_cons_zero, List.getD_cons_succ] at H)
                      clear hb6 HG
                      cases ok with
                      | true =>
                        have HR2 : Hid (crow C1 0 ys = crow ⟨⟨ds.map Dm.con, ms⟩, fa, P0, Q0, P1, Q1, u1, u2⟩ (2 + 1) (ys.drop (2 + 1))) := by
                          show _ = _
                          rw [HRI.out, drop_get HYV.out, crow_step (by rw [HU.out]), HU.out]
                        have hI2 : Hid (I64 P0 ∧ I64 Q0 ∧ I64 P1 ∧ I64 Q1 ∧ I64 u1 ∧ I64 u2) := ⟨hI.out.1, hI.out.2.1, hI.out.2.2.1, hI.out.2.2.2.1, hu.1, hu.2⟩
                        clear HRI HU
                        go_wp2_with ((with_reducible show wpList _ _ _ (⟨_, .store _ (.tmp 71) _, _, _, _, _⟩ :: _) _ _); refine wpList_store_at rfl rowTt (.tmp 71) (.tmp 68) rfl z 7 rfl (H.out.blk 2 rfl) #[.int .i64 u1, .int .i64 u2] rfl (by simp) rfl (by simp [Value.oneCell']) ?_; intro wq bq hgq; replace bq : Blk wq z 40 #[.slice B m d, .slice MB mm md, .int .i64 fa, .int .i64 P0, .int .i64 Q0, .int .i64 P1, .int .i64 Q1, .int .i64 u1, .int .i64 u2] := bq; replace H := Lib.hid (H.out.setBlk 2 rfl hgq bq); (try simp only [List.set_cons_zero, List.set_cons_succ, List.cons_append, List.nil_append, List.eraseIdx_cons_zero, List.eraseIdx_cons_succ, List.setIfInBounds_toArray, World.size_alloc, selR, List.getD_cons_zero, List.getD_cons_succ] at H); clear hgq bq)
                        go_roundg (mn - (2 + 1))
                        case rel => exact ⟨2 + 1, P0, Q0, P1, Q1, u1, u2, true, rfl, by omega, rfl, rfl, H, HR2, hI2⟩
                        case measure => rw [Hgj.out]; omega
                      | false =>
                        have HO3 : Hid (O = (CC.nil, 12)) := by
                          show _ = _
                          refine (HOR.out (CC.nil, 12) (HRR0.out.trans ?_)).symm.trans (cfin_bad (by decide))
                          rw [drop_get HYK.out]
                          refine crows_over HYL.out ?_
                          rw [HRI.out, drop_get HYV.out]
                          exact crow_none (by rw [HU.out])
                        go_wp2_with (first | ((with_reducible show wpList _ _ _ (⟨_, .store _ (.tmp 71) _, _, _, _, _⟩ :: _) _ _); refine wpList_store_at rfl rowTt (.tmp 71) (.tmp 68) rfl z 7 rfl (H.out.blk 2 rfl) #[.int .i64 u1, .int .i64 u2] rfl (by simp) rfl (by simp [Value.oneCell']) ?_; intro wq bq hgq; replace bq : Blk wq z 40 #[.slice B m d, .slice MB mm md, .int .i64 fa, .int .i64 P0, .int .i64 Q0, .int .i64 P1, .int .i64 Q1, .int .i64 u1, .int .i64 u2] := bq; replace H := Lib.hid (H.out.setBlk 2 rfl hgq bq); (try simp only [List.set_cons_zero, List.set_cons_succ, List.cons_append, List.nil_append, List.eraseIdx_cons_zero, List.eraseIdx_cons_succ, List.setIfInBounds_toArray, World.size_alloc, selR, List.getD_cons_zero, List.getD_cons_succ] at H); clear hgq bq) | ((with_reducible show wpList _ _ _ (⟨_, .store _ (.tmp 4) _, _, _, _, _⟩ :: _) _ _); (refine wpList_store_blk rfl rowCt (.tmp 4) (.tmp 74) rfl _ rfl (H.out.blk 1 rfl) rfl (#[.slice none 0 0, .slice none 0 0, .int .i64 0, .int .i64 0, .int .i64 0, .int .i64 0, .int .i64 0, .int .i64 0, .int .i64 0]) rfl rfl (by simp [Value.oneCell']) ?_; intro wq bq hgq; replace H := Lib.hid (H.out.setBlk 1 rfl hgq bq); (try simp only [List.set_cons_zero, List.set_cons_succ, List.cons_append, List.nil_append, List.eraseIdx_cons_zero, List.eraseIdx_cons_succ, List.setIfInBounds_toArray, World.size_alloc, selR, List.getD_cons_zero, List.getD_cons_succ] at H); clear hgq bq)))
                        refine bodyPost_ret (results_blk rfl rowCt rfl (H.out.blk 1 rfl) rfl) rfl ?_
                        rw [HO3.out]
                        exact catPost2_nil H.out.to
                  · obtain rfl : j = mn := by omega
                    have HRR2 : Hid (crows j ⟨⟨ds.map Dm.con, ms⟩, fa, p0, q0, p1, q1, p2, q2⟩ (rs.map (·.l)) = crows j ⟨⟨ds.map Dm.con, ms⟩, fa, P0, Q0, P1, Q1, P2, Q2⟩ ((rs.map (·.l)).drop (k + 1))) := by
                      show _ = _
                      rw [HRR0.out, drop_get HYK.out]
                      refine crows_ok (HYL.out) ?_
                      rw [HRI.out, List.drop_of_length_le (by have := HYL.out; omega)]
                      rfl
                    clear HRR0 HRI
                    go_wp2_with fail
                    go_roundg (rn - (k + 1))
                    case rel => exact ⟨k + 1, P0, Q0, P1, Q1, P2, Q2, ob, rfl, by omega, rfl, by go_num, H, HRR2, hI⟩
                    case measure => rw [Hgk.out]; omega
              · have e1 : (((yn : Nat) : Int) != mn) = true := by simp; omega
                have HO3 : Hid (O = (CC.nil, 2)) := by
                  show _ = _
                  refine (HOR.out (CC.nil, 2) (HRR.out.trans ?_)).symm.trans (cfin_bad (by decide))
                  rw [drop_get HYK.out]
                  exact crows_bad (by have := HYL.out; omega)
                clear hyn
                go_wp2_with ((with_reducible show wpList _ _ _ (⟨_, .store _ (.tmp 4) _, _, _, _, _⟩ :: _) _ _); (refine wpList_store_blk rfl rowCt (.tmp 4) (.tmp 52) rfl _ rfl (H.out.blk 1 rfl) rfl (#[.slice none 0 0, .slice none 0 0, .int .i64 0, .int .i64 0, .int .i64 0, .int .i64 0, .int .i64 0, .int .i64 0, .int .i64 0]) rfl rfl (by simp [Value.oneCell']) ?_; intro wq bq hgq; replace H := Lib.hid (H.out.setBlk 1 rfl hgq bq); (try simp only [List.set_cons_zero, List.set_cons_succ, List.cons_append, List.nil_append, List.eraseIdx_cons_zero, List.eraseIdx_cons_succ, List.setIfInBounds_toArray, World.size_alloc, selR, List.getD_cons_zero, List.getD_cons_succ] at H); clear hgq bq))
                refine bodyPost_ret (results_blk rfl rowCt rfl (H.out.blk 1 rfl) rfl) rfl ?_
                rw [HO3.out]
                exact catPost2_nil H.out.to
            · obtain rfl : k = rn := by omega
              have HO3 : Hid (O = (⟨⟨ds.map Dm.con, ms⟩, fa + k, P0, Q0, P1, Q1, P2, Q2⟩, 0)) := by
                show _ = _
                refine (HOR.out (⟨⟨ds.map Dm.con, ms⟩, fa, P0, Q0, P1, Q1, P2, Q2⟩, 0) (HRR.out.trans ?_)).symm.trans ?_
                · rw [List.drop_of_length_le (by rw [List.length_map, hrl.out]; omega)]
                  rfl
                · rfl
              clear HRR
              have cz2 := (H.out.blk 2 rfl).cell 2; simp only [List.getElem?_toArray, List.getElem?_cons_zero, List.getElem?_cons_succ] at cz2; have fz2 := (H.out.blk 2 rfl).frozen 2
              go_wp2_with (first | ((with_reducible show wpList _ _ _ (⟨some 83, _, _, _, _, _⟩ :: _) _ _); replace H := Lib.hid (H.out.setCell 2 rfl 2 (.int .i64 (fa + k))); (try simp only [List.set_cons_zero, List.set_cons_succ, List.cons_append, List.nil_append, List.eraseIdx_cons_zero, List.eraseIdx_cons_succ, List.setIfInBounds_toArray, World.size_alloc, selR, List.getD_cons_zero, List.getD_cons_succ] at H); clear cz2 fz2; refine wpList_load_blk rfl rowCt (.tmp 7) rfl _ rfl (H.out.blk 2 rfl) rfl ?_) | ((with_reducible show wpList _ _ _ (⟨_, .store _ (.tmp 4) _, _, _, _, _⟩ :: _) _ _); (refine wpList_store_blk rfl rowCt (.tmp 4) (.tmp 83) rfl _ rfl (H.out.blk 1 rfl) rfl (#[.slice B m d, .slice MB mm md, .int .i64 (fa + k), .int .i64 P0, .int .i64 Q0, .int .i64 P1, .int .i64 Q1, .int .i64 P2, .int .i64 Q2]) rfl rfl (by simp [Value.oneCell']) ?_; intro wq bq hgq; replace H := Lib.hid (H.out.setBlk 1 rfl hgq bq); (try simp only [List.set_cons_zero, List.set_cons_succ, List.cons_append, List.nil_append, List.eraseIdx_cons_zero, List.eraseIdx_cons_succ, List.setIfInBounds_toArray, World.size_alloc, selR, List.getD_cons_zero, List.getD_cons_succ] at H); clear hgq bq)))
              refine bodyPost_ret (results_blk rfl rowCt rfl (H.out.blk 1 rfl) rfl) rfl ?_
              rw [HO3.out]
              exact ⟨⟨⟨⟨B, m, d, es⟩, ⟨MB, mm, md, mt⟩⟩, fa + k, P0, Q0, P1, Q1, P2, Q2⟩, rfl, congrArg (fun s => (⟨s, fa + k, P0, Q0, P1, Q1, P2, Q2⟩ : CC)) HDC.out, ⟨(H.out.at_ 3 rfl).rd, by show _ ≤ fa + (k : Int) ∧ fa + (k : Int) ≤ _; omega, hI.out.1, hI.out.2.1, hI.out.2.2.1, hI.out.2.2.2.1, hI.out.2.2.2.2.1, hI.out.2.2.2.2.2⟩, small_of_own (H.out.at_ 3 rfl), H.out.to, H.out.get 3 rfl, H.out.new 3 rfl⟩
        · go_simp
          replace H := Lib.hid (H.out.alloc #[.slice none 0 0, .slice none 0 0, .int .i64 0, .int .i64 0, .int .i64 0, .int .i64 0, .int .i64 0, .int .i64 0, .int .i64 0] 40); (try simp only [List.set_cons_zero, List.set_cons_succ, List.cons_append, List.nil_append, List.eraseIdx_cons_zero, List.eraseIdx_cons_succ, List.setIfInBounds_toArray, World.size_alloc, selR, List.getD_cons_zero, List.getD_cons_succ] at H)
          refine hKK.out _ _ (by exact ⟨(H.out.blk 0 rfl).cell 0, (H.out.blk 0 rfl).cell 1, (H.out.blk 0 rfl).cell 2, (H.out.blk 0 rfl).cell 3, (H.out.blk 0 rfl).cell 4, (H.out.blk 0 rfl).cell 5, (H.out.blk 0 rfl).cell 6, (H.out.blk 0 rfl).cell 7, (H.out.blk 0 rfl).cell 8⟩) (fun hHeld => ?_)
          clear hKK KK
          try simp only [Act.put, List.setIfInBounds_toArray, List.set_cons_zero, List.set_cons_succ]
          refine wpAnyH_ready (rs := [7]) (by kernel_rfl) (by simp) ?_
          refine (AllReadyH.cons (get_os (get_os (get_os (get_os (get_os (get_os (get_os (get_o0)))))))) (fun KK hKK => ?_) AllReadyH.nil)
          go_simp
          refine hKK.out _ _ (by exact ⟨(H.out.blk 0 rfl).cell 0, (H.out.blk 0 rfl).cell 1, (H.out.blk 0 rfl).cell 2, (H.out.blk 0 rfl).cell 3, (H.out.blk 0 rfl).cell 4, (H.out.blk 0 rfl).cell 5, (H.out.blk 0 rfl).cell 6, (H.out.blk 0 rfl).cell 7, (H.out.blk 0 rfl).cell 8⟩) (fun hHeld => ?_)
          clear hKK KK
          try simp only [Act.put, List.setIfInBounds_toArray, List.set_cons_zero, List.set_cons_succ]
          refine wpAnyH_ready (rs := [9]) (by kernel_rfl) (by simp) ?_
          refine (AllReadyH.cons (get_os (get_os (get_os (get_os (get_os (get_os (get_os (get_os (get_os (get_o0)))))))))) (fun KK hKK => ?_) AllReadyH.nil)
          generalize w3.heap.size = z at *
          generalize World.alloc w3 _ = w4 at *
          refine step_store_blk rfl rowCt (.tmp 7) (.tmp 33) rfl _ rfl (H.out.blk 3 rfl) rfl (#[.slice B m d, .slice MB mm md, .int .i64 fa, .int .i64 p0, .int .i64 q0, .int .i64 p1, .int .i64 q1, .int .i64 p2, .int .i64 q2]) rfl rfl (by simp [Value.oneCell']) ?_
          intro wq bq hgq
          replace H := Lib.hid (H.out.setBlk 3 rfl hgq bq); (try simp only [List.set_cons_zero, List.set_cons_succ, List.cons_append, List.nil_append, List.eraseIdx_cons_zero, List.eraseIdx_cons_succ, List.setIfInBounds_toArray, World.size_alloc, selR, List.getD_cons_zero, List.getD_cons_succ] at H)
          clear hgq bq
          refine hKK.out _ _ (by exact ⟨(H.out.blk 0 rfl).cell 0, (H.out.blk 0 rfl).cell 1, (H.out.blk 0 rfl).cell 2, (H.out.blk 0 rfl).cell 3, (H.out.blk 0 rfl).cell 4, (H.out.blk 0 rfl).cell 5, (H.out.blk 0 rfl).cell 6, (H.out.blk 0 rfl).cell 7, (H.out.blk 0 rfl).cell 8⟩) (fun hHeld => ?_)
          clear hKK KK
          try simp only [Act.put, List.setIfInBounds_toArray, List.set_cons_zero, List.set_cons_succ]
          refine wpAnyH_done (by kernel_rfl) ?_ _
          clear hHeld
          replace H := Lib.hid (H.out.sel [0, 1, 3, 2] (by decide) (by simp)); (try simp only [List.set_cons_zero, List.set_cons_succ, List.cons_append, List.nil_append, List.eraseIdx_cons_zero, List.eraseIdx_cons_succ, List.setIfInBounds_toArray, World.size_alloc, selR, List.getD_cons_zero, List.getD_cons_succ] at H)
          go_wp2_with fail
          have HOR : Hid (∀ o, crows mn ⟨⟨ds.map Dm.con, ms⟩, fa, p0, q0, p1, q1, p2, q2⟩ (rs.map (·.l)) = o → cfin rn o = O) := fun o ho => by rw [HO4.out, ho]
          have HRR : Hid (crows mn ⟨⟨ds.map Dm.con, ms⟩, fa, p0, q0, p1, q1, p2, q2⟩ (rs.map (·.l)) = crows mn ⟨⟨ds.map Dm.con, ms⟩, fa, p0, q0, p1, q1, p2, q2⟩ ((rs.map (·.l)).drop 0)) := rfl
          clear HO4
          go_loopg [8, 36] rn (fun gg s8 i wr => ∃ (k : Nat) (P0 Q0 P1 Q1 P2 Q2 : Int) (ob : Bool), gg = rn - k ∧ k ≤ rn ∧ s8 = .bool ob ∧ i = .int .i64 k ∧ Hid (SL No w wr [rBlk x 40 #[.slice A n c, .slice MA mn mc, .int .i64 fa, .int .i64 p0, .int .i64 q0, .int .i64 p1, .int .i64 q1, .int .i64 p2, .int .i64 q2], rBlk y 40 #[.slice none 0 0, .slice none 0 0, .int .i64 0, .int .i64 0, .int .i64 0, .int .i64 0, .int .i64 0, .int .i64 0, .int .i64 0], rBlk z 40 #[.slice B m d, .slice MB mm md, .int .i64 fa, .int .i64 P0, .int .i64 Q0, .int .i64 P1, .int .i64 Q1, .int .i64 P2, .int .i64 Q2], rSch ⟨⟨B, m, d, es⟩, ⟨MB, mm, md, mt⟩⟩]) ∧ Hid (crows mn ⟨⟨ds.map Dm.con, ms⟩, fa, p0, q0, p1, q1, p2, q2⟩ (rs.map (·.l)) = crows mn ⟨⟨ds.map Dm.con, ms⟩, fa, P0, Q0, P1, Q1, P2, Q2⟩ ((rs.map (·.l)).drop k)) ∧ Hid (I64 P0 ∧ I64 Q0 ∧ I64 P1 ∧ I64 Q1 ∧ I64 P2 ∧ I64 Q2))
          case atStart => exact ⟨0, p0, q0, p1, q1, p2, q2, true, rfl, by omega, rfl, rfl, H, HRR, HI0⟩
          case round =>
            clear H HRR HI0
            obtain ⟨k, P0, Q0, P1, Q1, P2, Q2, ob, hgk, hk, rfl, rfl, H, HRR, hI⟩ := hrel
            have Hgk := Lib.hid hgk
            clear hgk
            by_cases hlt : k < rn
            · obtain ⟨bb, oo, yr, hA, hyk, hyok, q1'⟩ := (HRW.out.mono H.out.to).slRow (k := k) hlt
              simp only at hA
              subst hA
              have HYK : Hid ((rs.map (·.l))[k]? = some yr.l) := by show _ = _; rw [List.getElem?_map, hyk]; rfl
              have HYR := Lib.hid (fun w' (hb : Bel w w') => (HRA.out yr (List.mem_of_getElem? hyk) w' hb))
              have HYL : Hid (yr.l.length = yr.n) := hyok.rds.len
              have y63 := hyok.rds.n63
              have i0 : (0 : Int) ≤ k := by omega
              have i1 : (k : Int) < rn := by omega
              clear hyk hyok
              obtain ⟨YA, yn, yc, ys⟩ := yr
              simp only at *
              have cm0 := (H.out.blk 0 rfl).cell 1; simp only [List.getElem?_toArray, List.getElem?_cons_zero, List.getElem?_cons_succ] at cm0
              by_cases hyn : yn = mn
              · obtain rfl : mn = yn := hyn.symm
                have e1 : (((mn : Nat) : Int) != mn) = false := by simp
                have e2 : decide ((3 : Int) < mn) = false := by simp <;> omega
                go_wp2_with fail
                clear cm0 e1 e2 q1'
                have HRI : Hid (crow ⟨⟨ds.map Dm.con, ms⟩, fa, P0, Q0, P1, Q1, P2, Q2⟩ 0 ys = crow ⟨⟨ds.map Dm.con, ms⟩, fa, P0, Q0, P1, Q1, P2, Q2⟩ 0 (ys.drop 0)) := rfl
                have hI0 := hI
                have HRR0 := HRR
                clear hI HRR
                generalize hC1 : (⟨⟨ds.map Dm.con, ms⟩, fa, P0, Q0, P1, Q1, P2, Q2⟩ : CC) = C1 at HRR0 HRI
                have HC1 := Lib.hid hC1
                clear hC1
                replace HRI : Hid (crow C1 0 ys = crow ⟨⟨ds.map Dm.con, ms⟩, fa, P0, Q0, P1, Q1, P2, Q2⟩ 0 (ys.drop 0)) := by show _ = _; rw [HC1.out]; exact HRI.out
                go_loopg [8, 55] mn (fun gg s8 i wr => ∃ (j : Nat) (P0 Q0 P1 Q1 P2 Q2 : Int) (ob : Bool), gg = mn - j ∧ j ≤ mn ∧ s8 = .bool ob ∧ i = .int .i64 j ∧ Hid (SL No w wr [rBlk x 40 #[.slice A n c, .slice MA mn mc, .int .i64 fa, .int .i64 p0, .int .i64 q0, .int .i64 p1, .int .i64 q1, .int .i64 p2, .int .i64 q2], rBlk y 40 #[.slice none 0 0, .slice none 0 0, .int .i64 0, .int .i64 0, .int .i64 0, .int .i64 0, .int .i64 0, .int .i64 0, .int .i64 0], rBlk z 40 #[.slice B m d, .slice MB mm md, .int .i64 fa, .int .i64 P0, .int .i64 Q0, .int .i64 P1, .int .i64 Q1, .int .i64 P2, .int .i64 Q2], rSch ⟨⟨B, m, d, es⟩, ⟨MB, mm, md, mt⟩⟩]) ∧ Hid (crow C1 0 ys = crow ⟨⟨ds.map Dm.con, ms⟩, fa, P0, Q0, P1, Q1, P2, Q2⟩ j (ys.drop j)) ∧ Hid (I64 P0 ∧ I64 Q0 ∧ I64 P1 ∧ I64 Q1 ∧ I64 P2 ∧ I64 Q2))
                case atStart => exact ⟨0, P0, Q0, P1, Q1, P2, Q2, ob, rfl, by omega, rfl, rfl, H, HRI, hI0⟩
                case round =>
                  clear H HRI hI0 HC1
                  obtain ⟨j, P0, Q0, P1, Q1, P2, Q2, ob, hgj, hj, rfl, rfl, H, HRI, hI⟩ := hrel
                  have Hgj := Lib.hid hgj
                  clear hgj
                  by_cases hjlt : j < mn
                  · obtain ⟨b2, o2, v, hA, hyv, hv, q2'⟩ := (HYR.out _ H.out.to).intAt (k := j) hjlt
                    simp only at hA
                    subst hA
                    have HYV := Lib.hid hyv
                    have HV := Lib.hid hv
                    clear hyv hv
                    have j0 : (0 : Int) ≤ j := by omega
                    have j1 : (j : Int) < mn := by omega
                    go_upto_region 16 with fail
                    clear q2'
                    obtain rfl | rfl | rfl : j = 0 ∨ j = 1 ∨ j = 2 := by omega
                    · rw [show ((0 : Nat) : Int) = 0 from rfl]
                      have hu := egrow_i64 (v := v) (hI.out.1) (hI.out.2.1)
                      have HG := Lib.hid (fun w => egrow_any P0 Q0 v w (hI.out.1) (hI.out.2.1) HV.out)
                      have HU : Hid (cupd ⟨⟨ds.map Dm.con, ms⟩, fa, P0, Q0, P1, Q1, P2, Q2⟩ 0 v = (⟨⟨ds.map Dm.con, ms⟩, fa, (egrow P0 Q0 v).1.1, (egrow P0 Q0 v).1.2, P1, Q1, P2, Q2⟩, (egrow P0 Q0 v).2)) := rfl
                      generalize egrow P0 Q0 v = G at *
                      obtain ⟨⟨u1, u2⟩, ok⟩ := G
                      simp only at HG HU hu
                      go_wp2_with ((with_reducible show wpList _ _ _ (⟨some 65, _, _, _, _, _⟩ :: _) _ _); (refine wpList_load_row_at rfl rowTt (.tmp 64) rfl z (3) rfl #[.int .i64 P0, .int .i64 Q0] rfl ((H.out.blk 2 rfl).part 3 _ rfl) ?_))
                      refine (HG.out _).mono ?_; rintro e w6 ⟨rfl, hb6⟩
                      replace H := Lib.hid (H.out.bel hb6); (try simp only [List.set_cons_zero, List.set_cons_succ, List.cons_append, List.nil_append, List.eraseIdx_cons_zero, List.eraseIdx_cons_succ, List.setIfInBounds_toArray, World.size_alloc, selR, List.getD_cons_zero, List.getD_cons_succ] at H)
                      clear hb6 HG
                      cases ok with
                      | true =>
                        have HR2 : Hid (crow C1 0 ys = crow ⟨⟨ds.map Dm.con, ms⟩, fa, u1, u2, P1, Q1, P2, Q2⟩ (0 + 1) (ys.drop (0 + 1))) := by
                          show _ = _
                          rw [HRI.out, drop_get HYV.out, crow_step (by rw [HU.out]), HU.out]
                        have hI2 : Hid (I64 u1 ∧ I64 u2 ∧ I64 P1 ∧ I64 Q1 ∧ I64 P2 ∧ I64 Q2) := ⟨hu.1, hu.2, hI.out.2.2.1, hI.out.2.2.2.1, hI.out.2.2.2.2.1, hI.out.2.2.2.2.2⟩
                        clear HRI HU
                        go_wp2_with ((with_reducible show wpList _ _ _ (⟨_, .store _ (.tmp 71) _, _, _, _, _⟩ :: _) _ _); refine wpList_store_at rfl rowTt (.tmp 71) (.tmp 68) rfl z 3 rfl (H.out.blk 2 rfl) #[.int .i64 u1, .int .i64 u2] rfl (by simp) rfl (by simp [Value.oneCell']) ?_; intro wq bq hgq; replace bq : Blk wq z 40 #[.slice B m d, .slice MB mm md, .int .i64 fa, .int .i64 u1, .int .i64 u2, .int .i64 P1, .int .i64 Q1, .int .i64 P2, .int .i64 Q2] := bq; replace H := Lib.hid (H.out.setBlk 2 rfl hgq bq); (try simp only [List.set_cons_zero, List.set_cons_succ, List.cons_append, List.nil_append, List.eraseIdx_cons_zero, List.eraseIdx_cons_succ, List.setIfInBounds_toArray, World.size_alloc, selR, List.getD_cons_zero, List.getD_cons_succ] at H); clear hgq bq)
                        go_roundg (mn - (0 + 1))
                        case rel => exact ⟨0 + 1, u1, u2, P1, Q1, P2, Q2, true, rfl, by omega, rfl, rfl, H, HR2, hI2⟩
                        case measure => rw [Hgj.out]; omega
                      | false =>
                        have HO3 : Hid (O = (CC.nil, 12)) := by
                          show _ = _
                          refine (HOR.out (CC.nil, 12) (HRR0.out.trans ?_)).symm.trans (cfin_bad (by decide))
                          rw [drop_get HYK.out]
                          refine crows_over HYL.out ?_
                          rw [HRI.out, drop_get HYV.out]
                          exact crow_none (by rw [HU.out])
                        go_wp2_with (first | ((with_reducible show wpList _ _ _ (⟨_, .store _ (.tmp 71) _, _, _, _, _⟩ :: _) _ _); refine wpList_store_at rfl rowTt (.tmp 71) (.tmp 68) rfl z 3 rfl (H.out.blk 2 rfl) #[.int .i64 u1, .int .i64 u2] rfl (by simp) rfl (by simp [Value.oneCell']) ?_; intro wq bq hgq; replace bq : Blk wq z 40 #[.slice B m d, .slice MB mm md, .int .i64 fa, .int .i64 u1, .int .i64 u2, .int .i64 P1, .int .i64 Q1, .int .i64 P2, .int .i64 Q2] := bq; replace H := Lib.hid (H.out.setBlk 2 rfl hgq bq); (try simp only [List.set_cons_zero, List.set_cons_succ, List.cons_append, List.nil_append, List.eraseIdx_cons_zero, List.eraseIdx_cons_succ, List.setIfInBounds_toArray, World.size_alloc, selR, List.getD_cons_zero, List.getD_cons_succ] at H); clear hgq bq) | ((with_reducible show wpList _ _ _ (⟨_, .store _ (.tmp 4) _, _, _, _, _⟩ :: _) _ _); (refine wpList_store_blk rfl rowCt (.tmp 4) (.tmp 74) rfl _ rfl (H.out.blk 1 rfl) rfl (#[.slice none 0 0, .slice none 0 0, .int .i64 0, .int .i64 0, .int .i64 0, .int .i64 0, .int .i64 0, .int .i64 0, .int .i64 0]) rfl rfl (by simp [Value.oneCell']) ?_; intro wq bq hgq; replace H := Lib.hid (H.out.setBlk 1 rfl hgq bq); (try simp only [List.set_cons_zero, List.set_cons_succ, List.cons_append, List.nil_append, List.eraseIdx_cons_zero, List.eraseIdx_cons_succ, List.setIfInBounds_toArray, World.size_alloc, selR, List.getD_cons_zero, List.getD_cons_succ] at H); clear hgq bq)))
                        refine bodyPost_ret (results_blk rfl rowCt rfl (H.out.blk 1 rfl) rfl) rfl ?_
                        rw [HO3.out]
                        exact catPost2_nil H.out.to
                    · rw [show ((1 : Nat) : Int) = 1 from rfl]
                      have hu := egrow_i64 (v := v) (hI.out.2.2.1) (hI.out.2.2.2.1)
                      have HG := Lib.hid (fun w => egrow_any P1 Q1 v w (hI.out.2.2.1) (hI.out.2.2.2.1) HV.out)
                      have HU : Hid (cupd ⟨⟨ds.map Dm.con, ms⟩, fa, P0, Q0, P1, Q1, P2, Q2⟩ 1 v = (⟨⟨ds.map Dm.con, ms⟩, fa, P0, Q0, (egrow P1 Q1 v).1.1, (egrow P1 Q1 v).1.2, P2, Q2⟩, (egrow P1 Q1 v).2)) := rfl
                      generalize egrow P1 Q1 v = G at *
                      obtain ⟨⟨u1, u2⟩, ok⟩ := G
                      simp only at HG HU hu
                      go_wp2_with ((with_reducible show wpList _ _ _ (⟨some 65, _, _, _, _, _⟩ :: _) _ _); (refine wpList_load_row_at rfl rowTt (.tmp 64) rfl z (5) rfl #[.int .i64 P1, .int .i64 Q1] rfl ((H.out.blk 2 rfl).part 5 _ rfl) ?_))
                      refine (HG.out _).mono ?_; rintro e w6 ⟨rfl, hb6⟩
                      replace H := Lib.hid (H.out.bel hb6); (try simp only [List.set_cons_zero, List.set_cons_succ, List.cons_append, List.nil_append, List.eraseIdx_cons_zero, List.eraseIdx_cons_succ, List.setIfInBounds_toArray, World.size_alloc, selR, List.getD_cons_zero, List.getD_cons_succ] at H)
                      clear hb6 HG
                      cases ok with
                      | true =>
                        have HR2 : Hid (crow C1 0 ys = crow ⟨⟨ds.map Dm.con, ms⟩, fa, P0, Q0, u1, u2, P2, Q2⟩ (1 + 1) (ys.drop (1 + 1))) := by
                          show _ = _
                          rw [HRI.out, drop_get HYV.out, crow_step (by rw [HU.out]), HU.out]
                        have hI2 : Hid (I64 P0 ∧ I64 Q0 ∧ I64 u1 ∧ I64 u2 ∧ I64 P2 ∧ I64 Q2) := ⟨hI.out.1, hI.out.2.1, hu.1, hu.2, hI.out.2.2.2.2.1, hI.out.2.2.2.2.2⟩
                        clear HRI HU
                        go_wp2_with ((with_reducible show wpList _ _ _ (⟨_, .store _ (.tmp 71) _, _, _, _, _⟩ :: _) _ _); refine wpList_store_at rfl rowTt (.tmp 71) (.tmp 68) rfl z 5 rfl (H.out.blk 2 rfl) #[.int .i64 u1, .int .i64 u2] rfl (by simp) rfl (by simp [Value.oneCell']) ?_; intro wq bq hgq; replace bq : Blk wq z 40 #[.slice B m d, .slice MB mm md, .int .i64 fa, .int .i64 P0, .int .i64 Q0, .int .i64 u1, .int .i64 u2, .int .i64 P2, .int .i64 Q2] := bq; replace H := Lib.hid (H.out.setBlk 2 rfl hgq bq); (try simp only [List.set_cons_zero, List.set_cons_succ, List.cons_append, List.nil_append, List.eraseIdx_cons_zero, List.eraseIdx_cons_succ, List.setIfInBounds_toArray, World.size_alloc, selR, List.getD_cons_zero, List.getD_cons_succ] at H); clear hgq bq)
                        go_roundg (mn - (1 + 1))
                        case rel => exact ⟨1 + 1, P0, Q0, u1, u2, P2, Q2, true, rfl, by omega, rfl, rfl, H, HR2, hI2⟩
                        case measure => rw [Hgj.out]; omega
                      | false =>
                        have HO3 : Hid (O = (CC.nil, 12)) := by
                          show _ = _
                          refine (HOR.out (CC.nil, 12) (HRR0.out.trans ?_)).symm.trans (cfin_bad (by decide))
                          rw [drop_get HYK.out]
                          refine crows_over HYL.out ?_
                          rw [HRI.out, drop_get HYV.out]
                          exact crow_none (by rw [HU.out])
                        go_wp2_with (first | ((with_reducible show wpList _ _ _ (⟨_, .store _ (.tmp 71) _, _, _, _, _⟩ :: _) _ _); refine wpList_store_at rfl rowTt (.tmp 71) (.tmp 68) rfl z 5 rfl (H.out.blk 2 rfl) #[.int .i64 u1, .int .i64 u2] rfl (by simp) rfl (by simp [Value.oneCell']) ?_; intro wq bq hgq; replace bq : Blk wq z 40 #[.slice B m d, .slice MB mm md, .int .i64 fa, .int .i64 P0, .int .i64 Q0, .int .i64 u1, .int .i64 u2, .int .i64 P2, .int .i64 Q2] := bq; replace H := Lib.hid (H.out.setBlk 2 rfl hgq bq); (try simp only [List.set_cons_zero, List.set_cons_succ, List.cons_append, List.nil_append, List.eraseIdx_cons_zero, List.eraseIdx_cons_succ, List.setIfInBounds_toArray, World.size_alloc, selR, List.getD_cons_zero, List.getD_cons_succ] at H); clear hgq bq) | ((with_reducible show wpList _ _ _ (⟨_, .store _ (.tmp 4) _, _, _, _, _⟩ :: _) _ _); (refine wpList_store_blk rfl rowCt (.tmp 4) (.tmp 74) rfl _ rfl (H.out.blk 1 rfl) rfl (#[.slice none 0 0, .slice none 0 0, .int .i64 0, .int .i64 0, .int .i64 0, .int .i64 0, .int .i64 0, .int .i64 0, .int .i64 0]) rfl rfl (by simp [Value.oneCell']) ?_; intro wq bq hgq; replace H := Lib.hid (H.out.setBlk 1 rfl hgq bq); (try simp only [List.set_cons_zero, List.set_cons_succ, List.cons_append, List.nil_append, List.eraseIdx_cons_zero, List.eraseIdx_cons_succ, List.setIfInBounds_toArray, World.size_alloc, selR, List.getD_cons_zero, List.getD_cons_succ] at H); clear hgq bq)))
                        refine bodyPost_ret (results_blk rfl rowCt rfl (H.out.blk 1 rfl) rfl) rfl ?_
                        rw [HO3.out]
                        exact catPost2_nil H.out.to
                    · rw [show ((2 : Nat) : Int) = 2 from rfl]
                      have hu := egrow_i64 (v := v) (hI.out.2.2.2.2.1) (hI.out.2.2.2.2.2)
                      have HG := Lib.hid (fun w => egrow_any P2 Q2 v w (hI.out.2.2.2.2.1) (hI.out.2.2.2.2.2) HV.out)
                      have HU : Hid (cupd ⟨⟨ds.map Dm.con, ms⟩, fa, P0, Q0, P1, Q1, P2, Q2⟩ 2 v = (⟨⟨ds.map Dm.con, ms⟩, fa, P0, Q0, P1, Q1, (egrow P2 Q2 v).1.1, (egrow P2 Q2 v).1.2⟩, (egrow P2 Q2 v).2)) := rfl
                      generalize egrow P2 Q2 v = G at *
                      obtain ⟨⟨u1, u2⟩, ok⟩ := G
                      simp only at HG HU hu
                      go_wp2_with ((with_reducible show wpList _ _ _ (⟨some 65, _, _, _, _, _⟩ :: _) _ _); (refine wpList_load_row_at rfl rowTt (.tmp 64) rfl z (7) rfl #[.int .i64 P2, .int .i64 Q2] rfl ((H.out.blk 2 rfl).part 7 _ rfl) ?_))
                      refine (HG.out _).mono ?_; rintro e w6 ⟨rfl, hb6⟩
                      replace H := Lib.hid (H.out.bel hb6); (try simp only [List.set_cons_zero, List.set_cons_succ, List.cons_append, List.nil_append, List.eraseIdx_cons_zero, List.eraseIdx_cons_succ, List.setIfInBounds_toArray, World.size_alloc, selR, List.getD_cons_zero, List.getD_cons_succ] at H)
                      clear hb6 HG
                      cases ok with
                      | true =>
                        have HR2 : Hid (crow C1 0 ys = crow ⟨⟨ds.map Dm.con, ms⟩, fa, P0, Q0, P1, Q1, u1, u2⟩ (2 + 1) (ys.drop (2 + 1))) := by
                          show _ = _
                          rw [HRI.out, drop_get HYV.out, crow_step (by rw [HU.out]), HU.out]
                        have hI2 : Hid (I64 P0 ∧ I64 Q0 ∧ I64 P1 ∧ I64 Q1 ∧ I64 u1 ∧ I64 u2) := ⟨hI.out.1, hI.out.2.1, hI.out.2.2.1, hI.out.2.2.2.1, hu.1, hu.2⟩
                        clear HRI HU
                        go_wp2_with ((with_reducible show wpList _ _ _ (⟨_, .store _ (.tmp 71) _, _, _, _, _⟩ :: _) _ _); refine wpList_store_at rfl rowTt (.tmp 71) (.tmp 68) rfl z 7 rfl (H.out.blk 2 rfl) #[.int .i64 u1, .int .i64 u2] rfl (by simp) rfl (by simp [Value.oneCell']) ?_; intro wq bq hgq; replace bq : Blk wq z 40 #[.slice B m d, .slice MB mm md, .int .i64 fa, .int .i64 P0, .int .i64 Q0, .int .i64 P1, .int .i64 Q1, .int .i64 u1, .int .i64 u2] := bq; replace H := Lib.hid (H.out.setBlk 2 rfl hgq bq); (try simp only [List.set_cons_zero, List.set_cons_succ, List.cons_append, List.nil_append, List.eraseIdx_cons_zero, List.eraseIdx_cons_succ, List.setIfInBounds_toArray, World.size_alloc, selR, List.getD_cons_zero, List.getD_cons_succ] at H); clear hgq bq)
                        go_roundg (mn - (2 + 1))
                        case rel => exact ⟨2 + 1, P0, Q0, P1, Q1, u1, u2, true, rfl, by omega, rfl, rfl, H, HR2, hI2⟩
                        case measure => rw [Hgj.out]; omega
                      | false =>
                        have HO3 : Hid (O = (CC.nil, 12)) := by
                          show _ = _
                          refine (HOR.out (CC.nil, 12) (HRR0.out.trans ?_)).symm.trans (cfin_bad (by decide))
                          rw [drop_get HYK.out]
                          refine crows_over HYL.out ?_
                          rw [HRI.out, drop_get HYV.out]
                          exact crow_none (by rw [HU.out])
                        go_wp2_with (first | ((with_reducible show wpList _ _ _ (⟨_, .store _ (.tmp 71) _, _, _, _, _⟩ :: _) _ _); refine wpList_store_at rfl rowTt (.tmp 71) (.tmp 68) rfl z 7 rfl (H.out.blk 2 rfl) #[.int .i64 u1, .int .i64 u2] rfl (by simp) rfl (by simp [Value.oneCell']) ?_; intro wq bq hgq; replace bq : Blk wq z 40 #[.slice B m d, .slice MB mm md, .int .i64 fa, .int .i64 P0, .int .i64 Q0, .int .i64 P1, .int .i64 Q1, .int .i64 u1, .int .i64 u2] := bq; replace H := Lib.hid (H.out.setBlk 2 rfl hgq bq); (try simp only [List.set_cons_zero, List.set_cons_succ, List.cons_append, List.nil_append, List.eraseIdx_cons_zero, List.eraseIdx_cons_succ, List.setIfInBounds_toArray, World.size_alloc, selR, List.getD_cons_zero, List.getD_cons_succ] at H); clear hgq bq) | ((with_reducible show wpList _ _ _ (⟨_, .store _ (.tmp 4) _, _, _, _, _⟩ :: _) _ _); (refine wpList_store_blk rfl rowCt (.tmp 4) (.tmp 74) rfl _ rfl (H.out.blk 1 rfl) rfl (#[.slice none 0 0, .slice none 0 0, .int .i64 0, .int .i64 0, .int .i64 0, .int .i64 0, .int .i64 0, .int .i64 0, .int .i64 0]) rfl rfl (by simp [Value.oneCell']) ?_; intro wq bq hgq; replace H := Lib.hid (H.out.setBlk 1 rfl hgq bq); (try simp only [List.set_cons_zero, List.set_cons_succ, List.cons_append, List.nil_append, List.eraseIdx_cons_zero, List.eraseIdx_cons_succ, List.setIfInBounds_toArray, World.size_alloc, selR, List.getD_cons_zero, List.getD_cons_succ] at H); clear hgq bq)))
                        refine bodyPost_ret (results_blk rfl rowCt rfl (H.out.blk 1 rfl) rfl) rfl ?_
                        rw [HO3.out]
                        exact catPost2_nil H.out.to
                  · obtain rfl : j = mn := by omega
                    have HRR2 : Hid (crows j ⟨⟨ds.map Dm.con, ms⟩, fa, p0, q0, p1, q1, p2, q2⟩ (rs.map (·.l)) = crows j ⟨⟨ds.map Dm.con, ms⟩, fa, P0, Q0, P1, Q1, P2, Q2⟩ ((rs.map (·.l)).drop (k + 1))) := by
                      show _ = _
                      rw [HRR0.out, drop_get HYK.out]
                      refine crows_ok (HYL.out) ?_
                      rw [HRI.out, List.drop_of_length_le (by have := HYL.out; omega)]
                      rfl
                    clear HRR0 HRI
                    go_wp2_with fail
                    go_roundg (rn - (k + 1))
                    case rel => exact ⟨k + 1, P0, Q0, P1, Q1, P2, Q2, ob, rfl, by omega, rfl, by go_num, H, HRR2, hI⟩
                    case measure => rw [Hgk.out]; omega
              · have e1 : (((yn : Nat) : Int) != mn) = true := by simp; omega
                have HO3 : Hid (O = (CC.nil, 2)) := by
                  show _ = _
                  refine (HOR.out (CC.nil, 2) (HRR.out.trans ?_)).symm.trans (cfin_bad (by decide))
                  rw [drop_get HYK.out]
                  exact crows_bad (by have := HYL.out; omega)
                clear hyn
                go_wp2_with ((with_reducible show wpList _ _ _ (⟨_, .store _ (.tmp 4) _, _, _, _, _⟩ :: _) _ _); (refine wpList_store_blk rfl rowCt (.tmp 4) (.tmp 52) rfl _ rfl (H.out.blk 1 rfl) rfl (#[.slice none 0 0, .slice none 0 0, .int .i64 0, .int .i64 0, .int .i64 0, .int .i64 0, .int .i64 0, .int .i64 0, .int .i64 0]) rfl rfl (by simp [Value.oneCell']) ?_; intro wq bq hgq; replace H := Lib.hid (H.out.setBlk 1 rfl hgq bq); (try simp only [List.set_cons_zero, List.set_cons_succ, List.cons_append, List.nil_append, List.eraseIdx_cons_zero, List.eraseIdx_cons_succ, List.setIfInBounds_toArray, World.size_alloc, selR, List.getD_cons_zero, List.getD_cons_succ] at H); clear hgq bq))
                refine bodyPost_ret (results_blk rfl rowCt rfl (H.out.blk 1 rfl) rfl) rfl ?_
                rw [HO3.out]
                exact catPost2_nil H.out.to
            · obtain rfl : k = rn := by omega
              have HO3 : Hid (O = (⟨⟨ds.map Dm.con, ms⟩, fa + k, P0, Q0, P1, Q1, P2, Q2⟩, 0)) := by
                show _ = _
                refine (HOR.out (⟨⟨ds.map Dm.con, ms⟩, fa, P0, Q0, P1, Q1, P2, Q2⟩, 0) (HRR.out.trans ?_)).symm.trans ?_
                · rw [List.drop_of_length_le (by rw [List.length_map, hrl.out]; omega)]
                  rfl
                · rfl
              clear HRR
              have cz2 := (H.out.blk 2 rfl).cell 2; simp only [List.getElem?_toArray, List.getElem?_cons_zero, List.getElem?_cons_succ] at cz2; have fz2 := (H.out.blk 2 rfl).frozen 2
              go_wp2_with (first | ((with_reducible show wpList _ _ _ (⟨some 83, _, _, _, _, _⟩ :: _) _ _); replace H := Lib.hid (H.out.setCell 2 rfl 2 (.int .i64 (fa + k))); (try simp only [List.set_cons_zero, List.set_cons_succ, List.cons_append, List.nil_append, List.eraseIdx_cons_zero, List.eraseIdx_cons_succ, List.setIfInBounds_toArray, World.size_alloc, selR, List.getD_cons_zero, List.getD_cons_succ] at H); clear cz2 fz2; refine wpList_load_blk rfl rowCt (.tmp 7) rfl _ rfl (H.out.blk 2 rfl) rfl ?_) | ((with_reducible show wpList _ _ _ (⟨_, .store _ (.tmp 4) _, _, _, _, _⟩ :: _) _ _); (refine wpList_store_blk rfl rowCt (.tmp 4) (.tmp 83) rfl _ rfl (H.out.blk 1 rfl) rfl (#[.slice B m d, .slice MB mm md, .int .i64 (fa + k), .int .i64 P0, .int .i64 Q0, .int .i64 P1, .int .i64 Q1, .int .i64 P2, .int .i64 Q2]) rfl rfl (by simp [Value.oneCell']) ?_; intro wq bq hgq; replace H := Lib.hid (H.out.setBlk 1 rfl hgq bq); (try simp only [List.set_cons_zero, List.set_cons_succ, List.cons_append, List.nil_append, List.eraseIdx_cons_zero, List.eraseIdx_cons_succ, List.setIfInBounds_toArray, World.size_alloc, selR, List.getD_cons_zero, List.getD_cons_succ] at H); clear hgq bq)))
              refine bodyPost_ret (results_blk rfl rowCt rfl (H.out.blk 1 rfl) rfl) rfl ?_
              rw [HO3.out]
              exact ⟨⟨⟨⟨B, m, d, es⟩, ⟨MB, mm, md, mt⟩⟩, fa + k, P0, Q0, P1, Q1, P2, Q2⟩, rfl, congrArg (fun s => (⟨s, fa + k, P0, Q0, P1, Q1, P2, Q2⟩ : CC)) HDC.out, ⟨(H.out.at_ 3 rfl).rd, by show _ ≤ fa + (k : Int) ∧ fa + (k : Int) ≤ _; omega, hI.out.1, hI.out.2.1, hI.out.2.2.1, hI.out.2.2.2.1, hI.out.2.2.2.2.1, hI.out.2.2.2.2.2⟩, small_of_own (H.out.at_ 3 rfl), H.out.to, H.out.get 3 rfl, H.out.new 3 rfl⟩
      · go_simp
        replace H := Lib.hid (H.out.alloc #[.slice none 0 0, .slice none 0 0, .int .i64 0, .int .i64 0, .int .i64 0, .int .i64 0, .int .i64 0, .int .i64 0, .int .i64 0] 40); (try simp only [List.set_cons_zero, List.set_cons_succ, List.cons_append, List.nil_append, List.eraseIdx_cons_zero, List.eraseIdx_cons_succ, List.setIfInBounds_toArray, World.size_alloc, selR, List.getD_cons_zero, List.getD_cons_succ] at H)
        refine hKK.out _ _ (by exact ⟨(H.out.blk 0 rfl).cell 0, (H.out.blk 0 rfl).cell 1, (H.out.blk 0 rfl).cell 2, (H.out.blk 0 rfl).cell 3, (H.out.blk 0 rfl).cell 4, (H.out.blk 0 rfl).cell 5, (H.out.blk 0 rfl).cell 6, (H.out.blk 0 rfl).cell 7, (H.out.blk 0 rfl).cell 8⟩) (fun hHeld => ?_)
        clear hKK KK
        try simp only [Act.put, List.setIfInBounds_toArray, List.set_cons_zero, List.set_cons_succ]
        refine wpAnyH_ready (rs := [2]) (by kernel_rfl) (by simp) ?_
        refine (AllReadyH.cons (get_os (get_os (get_o0))) (fun KK hKK => ?_) AllReadyH.nil)
        go_simp
        refine (HK.out _ H.out.to).mono ?_; rintro e w3 ⟨D, rfl, hD, hb3, hN⟩
        replace H := Lib.hid (H.out.add hb3 _ hN.1 hN.2); (try simp only [List.set_cons_zero, List.set_cons_succ, List.cons_append, List.nil_append, List.eraseIdx_cons_zero, List.eraseIdx_cons_succ, List.setIfInBounds_toArray, World.size_alloc, selR, List.getD_cons_zero, List.getD_cons_succ] at H)
        have HDC := Lib.hid hD
        clear hN hD hb3
        obtain ⟨⟨B, m, d, es⟩, ⟨MB, mm, md, mt⟩⟩ := D
        simp only [Sch.cs, Sch.con] at *
        have hbd : ∀ w : World, (Instr.build 40 #[(0, .agg #[.slice B m d, .slice MB mm md]), (1, .int .i64 fa), (2, .agg #[.int .i64 p0, .int .i64 q0, .int .i64 p1, .int .i64 q1, .int .i64 p2, .int .i64 q2])]).run Try.prog w = .ok (.agg #[.slice B m d, .slice MB mm md, .int .i64 fa, .int .i64 p0, .int .i64 q0, .int .i64 p1, .int .i64 q1, .int .i64 p2, .int .i64 q2]) w := fun _ => by kernel_rfl
        refine hKK.out _ _ (by exact ⟨(H.out.blk 0 rfl).cell 0, (H.out.blk 0 rfl).cell 1, (H.out.blk 0 rfl).cell 2, (H.out.blk 0 rfl).cell 3, (H.out.blk 0 rfl).cell 4, (H.out.blk 0 rfl).cell 5, (H.out.blk 0 rfl).cell 6, (H.out.blk 0 rfl).cell 7, (H.out.blk 0 rfl).cell 8⟩) (fun hHeld => ?_)
        clear hKK KK
        try simp only [Act.put, List.setIfInBounds_toArray, List.set_cons_zero, List.set_cons_succ]
        refine wpAnyH_ready (rs := [7]) (by kernel_rfl) (by simp) ?_
        refine (AllReadyH.cons (get_os (get_os (get_os (get_os (get_os (get_os (get_os (get_o0)))))))) (fun KK hKK => ?_) AllReadyH.nil)
        go_simp
        refine hKK.out _ _ (by exact ⟨(H.out.blk 0 rfl).cell 0, (H.out.blk 0 rfl).cell 1, (H.out.blk 0 rfl).cell 2, (H.out.blk 0 rfl).cell 3, (H.out.blk 0 rfl).cell 4, (H.out.blk 0 rfl).cell 5, (H.out.blk 0 rfl).cell 6, (H.out.blk 0 rfl).cell 7, (H.out.blk 0 rfl).cell 8⟩) (fun hHeld => ?_)
        clear hKK KK
        try simp only [Act.put, List.setIfInBounds_toArray, List.set_cons_zero, List.set_cons_succ]
        refine wpAnyH_ready (rs := [9]) (by kernel_rfl) (by simp) ?_
        refine (AllReadyH.cons (get_os (get_os (get_os (get_os (get_os (get_os (get_os (get_os (get_os (get_o0)))))))))) (fun KK hKK => ?_) AllReadyH.nil)
        have hdz : w2.drew.heap.size = w2.heap.size := rfl
        rw [hdz] at H
        clear hdz
        generalize w2.heap.size = z at *
        refine step_store_blk rfl rowCt (.tmp 7) (.tmp 33) rfl _ rfl (H.out.blk 2 rfl) rfl (#[.slice B m d, .slice MB mm md, .int .i64 fa, .int .i64 p0, .int .i64 q0, .int .i64 p1, .int .i64 q1, .int .i64 p2, .int .i64 q2]) rfl rfl (by simp [Value.oneCell']) ?_
        intro wq bq hgq
        replace H := Lib.hid (H.out.setBlk 2 rfl hgq bq); (try simp only [List.set_cons_zero, List.set_cons_succ, List.cons_append, List.nil_append, List.eraseIdx_cons_zero, List.eraseIdx_cons_succ, List.setIfInBounds_toArray, World.size_alloc, selR, List.getD_cons_zero, List.getD_cons_succ] at H)
        clear hgq bq
        refine hKK.out _ _ (by exact ⟨(H.out.blk 0 rfl).cell 0, (H.out.blk 0 rfl).cell 1, (H.out.blk 0 rfl).cell 2, (H.out.blk 0 rfl).cell 3, (H.out.blk 0 rfl).cell 4, (H.out.blk 0 rfl).cell 5, (H.out.blk 0 rfl).cell 6, (H.out.blk 0 rfl).cell 7, (H.out.blk 0 rfl).cell 8⟩) (fun hHeld => ?_)
        clear hKK KK
        try simp only [Act.put, List.setIfInBounds_toArray, List.set_cons_zero, List.set_cons_succ]
        refine wpAnyH_done (by kernel_rfl) ?_ _
        clear hHeld
        skip
        go_wp2_with fail
        have HOR : Hid (∀ o, crows mn ⟨⟨ds.map Dm.con, ms⟩, fa, p0, q0, p1, q1, p2, q2⟩ (rs.map (·.l)) = o → cfin rn o = O) := fun o ho => by rw [HO4.out, ho]
        have HRR : Hid (crows mn ⟨⟨ds.map Dm.con, ms⟩, fa, p0, q0, p1, q1, p2, q2⟩ (rs.map (·.l)) = crows mn ⟨⟨ds.map Dm.con, ms⟩, fa, p0, q0, p1, q1, p2, q2⟩ ((rs.map (·.l)).drop 0)) := rfl
        clear HO4
        go_loopg [8, 36] rn (fun gg s8 i wr => ∃ (k : Nat) (P0 Q0 P1 Q1 P2 Q2 : Int) (ob : Bool), gg = rn - k ∧ k ≤ rn ∧ s8 = .bool ob ∧ i = .int .i64 k ∧ Hid (SL No w wr [rBlk x 40 #[.slice A n c, .slice MA mn mc, .int .i64 fa, .int .i64 p0, .int .i64 q0, .int .i64 p1, .int .i64 q1, .int .i64 p2, .int .i64 q2], rBlk y 40 #[.slice none 0 0, .slice none 0 0, .int .i64 0, .int .i64 0, .int .i64 0, .int .i64 0, .int .i64 0, .int .i64 0, .int .i64 0], rBlk z 40 #[.slice B m d, .slice MB mm md, .int .i64 fa, .int .i64 P0, .int .i64 Q0, .int .i64 P1, .int .i64 Q1, .int .i64 P2, .int .i64 Q2], rSch ⟨⟨B, m, d, es⟩, ⟨MB, mm, md, mt⟩⟩]) ∧ Hid (crows mn ⟨⟨ds.map Dm.con, ms⟩, fa, p0, q0, p1, q1, p2, q2⟩ (rs.map (·.l)) = crows mn ⟨⟨ds.map Dm.con, ms⟩, fa, P0, Q0, P1, Q1, P2, Q2⟩ ((rs.map (·.l)).drop k)) ∧ Hid (I64 P0 ∧ I64 Q0 ∧ I64 P1 ∧ I64 Q1 ∧ I64 P2 ∧ I64 Q2))
        case atStart => exact ⟨0, p0, q0, p1, q1, p2, q2, true, rfl, by omega, rfl, rfl, H, HRR, HI0⟩
        case round =>
          clear H HRR HI0
          obtain ⟨k, P0, Q0, P1, Q1, P2, Q2, ob, hgk, hk, rfl, rfl, H, HRR, hI⟩ := hrel
          have Hgk := Lib.hid hgk
          clear hgk
          by_cases hlt : k < rn
          · obtain ⟨bb, oo, yr, hA, hyk, hyok, q1'⟩ := (HRW.out.mono H.out.to).slRow (k := k) hlt
            simp only at hA
            subst hA
            have HYK : Hid ((rs.map (·.l))[k]? = some yr.l) := by show _ = _; rw [List.getElem?_map, hyk]; rfl
            have HYR := Lib.hid (fun w' (hb : Bel w w') => (HRA.out yr (List.mem_of_getElem? hyk) w' hb))
            have HYL : Hid (yr.l.length = yr.n) := hyok.rds.len
            have y63 := hyok.rds.n63
            have i0 : (0 : Int) ≤ k := by omega
            have i1 : (k : Int) < rn := by omega
            clear hyk hyok
            obtain ⟨YA, yn, yc, ys⟩ := yr
            simp only at *
            have cm0 := (H.out.blk 0 rfl).cell 1; simp only [List.getElem?_toArray, List.getElem?_cons_zero, List.getElem?_cons_succ] at cm0
            by_cases hyn : yn = mn
            · obtain rfl : mn = yn := hyn.symm
              have e1 : (((mn : Nat) : Int) != mn) = false := by simp
              have e2 : decide ((3 : Int) < mn) = false := by simp <;> omega
              go_wp2_with fail
              clear cm0 e1 e2 q1'
              have HRI : Hid (crow ⟨⟨ds.map Dm.con, ms⟩, fa, P0, Q0, P1, Q1, P2, Q2⟩ 0 ys = crow ⟨⟨ds.map Dm.con, ms⟩, fa, P0, Q0, P1, Q1, P2, Q2⟩ 0 (ys.drop 0)) := rfl
              have hI0 := hI
              have HRR0 := HRR
              clear hI HRR
              generalize hC1 : (⟨⟨ds.map Dm.con, ms⟩, fa, P0, Q0, P1, Q1, P2, Q2⟩ : CC) = C1 at HRR0 HRI
              have HC1 := Lib.hid hC1
              clear hC1
              replace HRI : Hid (crow C1 0 ys = crow ⟨⟨ds.map Dm.con, ms⟩, fa, P0, Q0, P1, Q1, P2, Q2⟩ 0 (ys.drop 0)) := by show _ = _; rw [HC1.out]; exact HRI.out
              go_loopg [8, 55] mn (fun gg s8 i wr => ∃ (j : Nat) (P0 Q0 P1 Q1 P2 Q2 : Int) (ob : Bool), gg = mn - j ∧ j ≤ mn ∧ s8 = .bool ob ∧ i = .int .i64 j ∧ Hid (SL No w wr [rBlk x 40 #[.slice A n c, .slice MA mn mc, .int .i64 fa, .int .i64 p0, .int .i64 q0, .int .i64 p1, .int .i64 q1, .int .i64 p2, .int .i64 q2], rBlk y 40 #[.slice none 0 0, .slice none 0 0, .int .i64 0, .int .i64 0, .int .i64 0, .int .i64 0, .int .i64 0, .int .i64 0, .int .i64 0], rBlk z 40 #[.slice B m d, .slice MB mm md, .int .i64 fa, .int .i64 P0, .int .i64 Q0, .int .i64 P1, .int .i64 Q1, .int .i64 P2, .int .i64 Q2], rSch ⟨⟨B, m, d, es⟩, ⟨MB, mm, md, mt⟩⟩]) ∧ Hid (crow C1 0 ys = crow ⟨⟨ds.map Dm.con, ms⟩, fa, P0, Q0, P1, Q1, P2, Q2⟩ j (ys.drop j)) ∧ Hid (I64 P0 ∧ I64 Q0 ∧ I64 P1 ∧ I64 Q1 ∧ I64 P2 ∧ I64 Q2))
              case atStart => exact ⟨0, P0, Q0, P1, Q1, P2, Q2, ob, rfl, by omega, rfl, rfl, H, HRI, hI0⟩
              case round =>
                clear H HRI hI0 HC1
                obtain ⟨j, P0, Q0, P1, Q1, P2, Q2, ob, hgj, hj, rfl, rfl, H, HRI, hI⟩ := hrel
                have Hgj := Lib.hid hgj
                clear hgj
                by_cases hjlt : j < mn
                · obtain ⟨b2, o2, v, hA, hyv, hv, q2'⟩ := (HYR.out _ H.out.to).intAt (k := j) hjlt
                  simp only at hA
                  subst hA
                  have HYV := Lib.hid hyv
                  have HV := Lib.hid hv
                  clear hyv hv
                  have j0 : (0 : Int) ≤ j := by omega
                  have j1 : (j : Int) < mn := by omega
                  go_upto_region 16 with fail
                  clear q2'
                  obtain rfl | rfl | rfl : j = 0 ∨ j = 1 ∨ j = 2 := by omega
                  · rw [show ((0 : Nat) : Int) = 0 from rfl]
                    have hu := egrow_i64 (v := v) (hI.out.1) (hI.out.2.1)
                    have HG := Lib.hid (fun w => egrow_any P0 Q0 v w (hI.out.1) (hI.out.2.1) HV.out)
                    have HU : Hid (cupd ⟨⟨ds.map Dm.con, ms⟩, fa, P0, Q0, P1, Q1, P2, Q2⟩ 0 v = (⟨⟨ds.map Dm.con, ms⟩, fa, (egrow P0 Q0 v).1.1, (egrow P0 Q0 v).1.2, P1, Q1, P2, Q2⟩, (egrow P0 Q0 v).2)) := rfl
                    generalize egrow P0 Q0 v = G at *
                    obtain ⟨⟨u1, u2⟩, ok⟩ := G
                    simp only at HG HU hu
                    go_wp2_with ((with_reducible show wpList _ _ _ (⟨some 65, _, _, _, _, _⟩ :: _) _ _); (refine wpList_load_row_at rfl rowTt (.tmp 64) rfl z (3) rfl #[.int .i64 P0, .int .i64 Q0] rfl ((H.out.blk 2 rfl).part 3 _ rfl) ?_))
                    refine (HG.out _).mono ?_; rintro e w6 ⟨rfl, hb6⟩
                    replace H := Lib.hid (H.out.bel hb6); (try simp only [List.set_cons_zero, List.set_cons_succ, List.cons_append, List.nil_append, List.eraseIdx_cons_zero, List.eraseIdx_cons_succ, List.setIfInBounds_toArray, World.size_alloc, selR, List.getD_cons_zero, List.getD_cons_succ] at H)
                    clear hb6 HG
                    cases ok with
                    | true =>
                      have HR2 : Hid (crow C1 0 ys = crow ⟨⟨ds.map Dm.con, ms⟩, fa, u1, u2, P1, Q1, P2, Q2⟩ (0 + 1) (ys.drop (0 + 1))) := by
                        show _ = _
                        rw [HRI.out, drop_get HYV.out, crow_step (by rw [HU.out]), HU.out]
                      have hI2 : Hid (I64 u1 ∧ I64 u2 ∧ I64 P1 ∧ I64 Q1 ∧ I64 P2 ∧ I64 Q2) := ⟨hu.1, hu.2, hI.out.2.2.1, hI.out.2.2.2.1, hI.out.2.2.2.2.1, hI.out.2.2.2.2.2⟩
                      clear HRI HU
                      go_wp2_with ((with_reducible show wpList _ _ _ (⟨_, .store _ (.tmp 71) _, _, _, _, _⟩ :: _) _ _); refine wpList_store_at rfl rowTt (.tmp 71) (.tmp 68) rfl z 3 rfl (H.out.blk 2 rfl) #[.int .i64 u1, .int .i64 u2] rfl (by simp) rfl (by simp [Value.oneCell']) ?_; intro wq bq hgq; replace bq : Blk wq z 40 #[.slice B m d, .slice MB mm md, .int .i64 fa, .int .i64 u1, .int .i64 u2, .int .i64 P1, .int .i64 Q1, .int .i64 P2, .int .i64 Q2] := bq; replace H := Lib.hid (H.out.setBlk 2 rfl hgq bq); (try simp only [List.set_cons_zero, List.set_cons_succ, List.cons_append, List.nil_append, List.eraseIdx_cons_zero, List.eraseIdx_cons_succ, List.setIfInBounds_toArray, World.size_alloc, selR, List.getD_cons_zero, List.getD_cons_succ] at H); clear hgq bq)
                      go_roundg (mn - (0 + 1))
                      case rel => exact ⟨0 + 1, u1, u2, P1, Q1, P2, Q2, true, rfl, by omega, rfl, rfl, H, HR2, hI2⟩
                      case measure => rw [Hgj.out]; omega
                    | false =>
                      have HO3 : Hid (O = (CC.nil, 12)) := by
                        show _ = _
                        refine (HOR.out (CC.nil, 12) (HRR0.out.trans ?_)).symm.trans (cfin_bad (by decide))
                        rw [drop_get HYK.out]
                        refine crows_over HYL.out ?_
                        rw [HRI.out, drop_get HYV.out]
                        exact crow_none (by rw [HU.out])
                      go_wp2_with (first | ((with_reducible show wpList _ _ _ (⟨_, .store _ (.tmp 71) _, _, _, _, _⟩ :: _) _ _); refine wpList_store_at rfl rowTt (.tmp 71) (.tmp 68) rfl z 3 rfl (H.out.blk 2 rfl) #[.int .i64 u1, .int .i64 u2] rfl (by simp) rfl (by simp [Value.oneCell']) ?_; intro wq bq hgq; replace bq : Blk wq z 40 #[.slice B m d, .slice MB mm md, .int .i64 fa, .int .i64 u1, .int .i64 u2, .int .i64 P1, .int .i64 Q1, .int .i64 P2, .int .i64 Q2] := bq; replace H := Lib.hid (H.out.setBlk 2 rfl hgq bq); (try simp only [List.set_cons_zero, List.set_cons_succ, List.cons_append, List.nil_append, List.eraseIdx_cons_zero, List.eraseIdx_cons_succ, List.setIfInBounds_toArray, World.size_alloc, selR, List.getD_cons_zero, List.getD_cons_succ] at H); clear hgq bq) | ((with_reducible show wpList _ _ _ (⟨_, .store _ (.tmp 4) _, _, _, _, _⟩ :: _) _ _); (refine wpList_store_blk rfl rowCt (.tmp 4) (.tmp 74) rfl _ rfl (H.out.blk 1 rfl) rfl (#[.slice none 0 0, .slice none 0 0, .int .i64 0, .int .i64 0, .int .i64 0, .int .i64 0, .int .i64 0, .int .i64 0, .int .i64 0]) rfl rfl (by simp [Value.oneCell']) ?_; intro wq bq hgq; replace H := Lib.hid (H.out.setBlk 1 rfl hgq bq); (try simp only [List.set_cons_zero, List.set_cons_succ, List.cons_append, List.nil_append, List.eraseIdx_cons_zero, List.eraseIdx_cons_succ, List.setIfInBounds_toArray, World.size_alloc, selR, List.getD_cons_zero, List.getD_cons_succ] at H); clear hgq bq)))
                      refine bodyPost_ret (results_blk rfl rowCt rfl (H.out.blk 1 rfl) rfl) rfl ?_
                      rw [HO3.out]
                      exact catPost2_nil H.out.to
                  · rw [show ((1 : Nat) : Int) = 1 from rfl]
                    have hu := egrow_i64 (v := v) (hI.out.2.2.1) (hI.out.2.2.2.1)
                    have HG := Lib.hid (fun w => egrow_any P1 Q1 v w (hI.out.2.2.1) (hI.out.2.2.2.1) HV.out)
                    have HU : Hid (cupd ⟨⟨ds.map Dm.con, ms⟩, fa, P0, Q0, P1, Q1, P2, Q2⟩ 1 v = (⟨⟨ds.map Dm.con, ms⟩, fa, P0, Q0, (egrow P1 Q1 v).1.1, (egrow P1 Q1 v).1.2, P2, Q2⟩, (egrow P1 Q1 v).2)) := rfl
                    generalize egrow P1 Q1 v = G at *
                    obtain ⟨⟨u1, u2⟩, ok⟩ := G
                    simp only at HG HU hu
                    go_wp2_with ((with_reducible show wpList _ _ _ (⟨some 65, _, _, _, _, _⟩ :: _) _ _); (refine wpList_load_row_at rfl rowTt (.tmp 64) rfl z (5) rfl #[.int .i64 P1, .int .i64 Q1] rfl ((H.out.blk 2 rfl).part 5 _ rfl) ?_))
                    refine (HG.out _).mono ?_; rintro e w6 ⟨rfl, hb6⟩
                    replace H := Lib.hid (H.out.bel hb6); (try simp only [List.set_cons_zero, List.set_cons_succ, List.cons_append, List.nil_append, List.eraseIdx_cons_zero, List.eraseIdx_cons_succ, List.setIfInBounds_toArray, World.size_alloc, selR, List.getD_cons_zero, List.getD_cons_succ] at H)
                    clear hb6 HG
                    cases ok with
                    | true =>
                      have HR2 : Hid (crow C1 0 ys = crow ⟨⟨ds.map Dm.con, ms⟩, fa, P0, Q0, u1, u2, P2, Q2⟩ (1 + 1) (ys.drop (1 + 1))) := by
                        show _ = _
                        rw [HRI.out, drop_get HYV.out, crow_step (by rw [HU.out]), HU.out]
                      have hI2 : Hid (I64 P0 ∧ I64 Q0 ∧ I64 u1 ∧ I64 u2 ∧ I64 P2 ∧ I64 Q2) := ⟨hI.out.1, hI.out.2.1, hu.1, hu.2, hI.out.2.2.2.2.1, hI.out.2.2.2.2.2⟩
                      clear HRI HU
                      go_wp2_with ((with_reducible show wpList _ _ _ (⟨_, .store _ (.tmp 71) _, _, _, _, _⟩ :: _) _ _); refine wpList_store_at rfl rowTt (.tmp 71) (.tmp 68) rfl z 5 rfl (H.out.blk 2 rfl) #[.int .i64 u1, .int .i64 u2] rfl (by simp) rfl (by simp [Value.oneCell']) ?_; intro wq bq hgq; replace bq : Blk wq z 40 #[.slice B m d, .slice MB mm md, .int .i64 fa, .int .i64 P0, .int .i64 Q0, .int .i64 u1, .int .i64 u2, .int .i64 P2, .int .i64 Q2] := bq; replace H := Lib.hid (H.out.setBlk 2 rfl hgq bq); (try simp only [List.set_cons_zero, List.set_cons_succ, List.cons_append, List.nil_append, List.eraseIdx_cons_zero, List.eraseIdx_cons_succ, List.setIfInBounds_toArray, World.size_alloc, selR, List.getD_cons_zero, List.getD_cons_succ] at H); clear hgq bq)
                      go_roundg (mn - (1 + 1))
                      case rel => exact ⟨1 + 1, P0, Q0, u1, u2, P2, Q2, true, rfl, by omega, rfl, rfl, H, HR2, hI2⟩
                      case measure => rw [Hgj.out]; omega
                    | false =>
                      have HO3 : Hid (O = (CC.nil, 12)) := by
                        show _ = _
                        refine (HOR.out (CC.nil, 12) (HRR0.out.trans ?_)).symm.trans (cfin_bad (by decide))
                        rw [drop_get HYK.out]
                        refine crows_over HYL.out ?_
                        rw [HRI.out, drop_get HYV.out]
                        exact crow_none (by rw [HU.out])
                      go_wp2_with (first | ((with_reducible show wpList _ _ _ (⟨_, .store _ (.tmp 71) _, _, _, _, _⟩ :: _) _ _); refine wpList_store_at rfl rowTt (.tmp 71) (.tmp 68) rfl z 5 rfl (H.out.blk 2 rfl) #[.int .i64 u1, .int .i64 u2] rfl (by simp) rfl (by simp [Value.oneCell']) ?_; intro wq bq hgq; replace bq : Blk wq z 40 #[.slice B m d, .slice MB mm md, .int .i64 fa, .int .i64 P0, .int .i64 Q0, .int .i64 u1, .int .i64 u2, .int .i64 P2, .int .i64 Q2] := bq; replace H := Lib.hid (H.out.setBlk 2 rfl hgq bq); (try simp only [List.set_cons_zero, List.set_cons_succ, List.cons_append, List.nil_append, List.eraseIdx_cons_zero, List.eraseIdx_cons_succ, List.setIfInBounds_toArray, World.size_alloc, selR, List.getD_cons_zero, List.getD_cons_succ] at H); clear hgq bq) | ((with_reducible show wpList _ _ _ (⟨_, .store _ (.tmp 4) _, _, _, _, _⟩ :: _) _ _); (refine wpList_store_blk rfl rowCt (.tmp 4) (.tmp 74) rfl _ rfl (H.out.blk 1 rfl) rfl (#[.slice none 0 0, .slice none 0 0, .int .i64 0, .int .i64 0, .int .i64 0, .int .i64 0, .int .i64 0, .int .i64 0, .int .i64 0]) rfl rfl (by simp [Value.oneCell']) ?_; intro wq bq hgq; replace H := Lib.hid (H.out.setBlk 1 rfl hgq bq); (try simp only [List.set_cons_zero, List.set_cons_succ, List.cons_append, List.nil_append, List.eraseIdx_cons_zero, List.eraseIdx_cons_succ, List.setIfInBounds_toArray, World.size_alloc, selR, List.getD_cons_zero, List.getD_cons_succ] at H); clear hgq bq)))
                      refine bodyPost_ret (results_blk rfl rowCt rfl (H.out.blk 1 rfl) rfl) rfl ?_
                      rw [HO3.out]
                      exact catPost2_nil H.out.to
                  · rw [show ((2 : Nat) : Int) = 2 from rfl]
                    have hu := egrow_i64 (v := v) (hI.out.2.2.2.2.1) (hI.out.2.2.2.2.2)
                    have HG := Lib.hid (fun w => egrow_any P2 Q2 v w (hI.out.2.2.2.2.1) (hI.out.2.2.2.2.2) HV.out)
                    have HU : Hid (cupd ⟨⟨ds.map Dm.con, ms⟩, fa, P0, Q0, P1, Q1, P2, Q2⟩ 2 v = (⟨⟨ds.map Dm.con, ms⟩, fa, P0, Q0, P1, Q1, (egrow P2 Q2 v).1.1, (egrow P2 Q2 v).1.2⟩, (egrow P2 Q2 v).2)) := rfl
                    generalize egrow P2 Q2 v = G at *
                    obtain ⟨⟨u1, u2⟩, ok⟩ := G
                    simp only at HG HU hu
                    go_wp2_with ((with_reducible show wpList _ _ _ (⟨some 65, _, _, _, _, _⟩ :: _) _ _); (refine wpList_load_row_at rfl rowTt (.tmp 64) rfl z (7) rfl #[.int .i64 P2, .int .i64 Q2] rfl ((H.out.blk 2 rfl).part 7 _ rfl) ?_))
                    refine (HG.out _).mono ?_; rintro e w6 ⟨rfl, hb6⟩
                    replace H := Lib.hid (H.out.bel hb6); (try simp only [List.set_cons_zero, List.set_cons_succ, List.cons_append, List.nil_append, List.eraseIdx_cons_zero, List.eraseIdx_cons_succ, List.setIfInBounds_toArray, World.size_alloc, selR, List.getD_cons_zero, List.getD_cons_succ] at H)
                    clear hb6 HG
                    cases ok with
                    | true =>
                      have HR2 : Hid (crow C1 0 ys = crow ⟨⟨ds.map Dm.con, ms⟩, fa, P0, Q0, P1, Q1, u1, u2⟩ (2 + 1) (ys.drop (2 + 1))) := by
                        show _ = _
                        rw [HRI.out, drop_get HYV.out, crow_step (by rw [HU.out]), HU.out]
                      have hI2 : Hid (I64 P0 ∧ I64 Q0 ∧ I64 P1 ∧ I64 Q1 ∧ I64 u1 ∧ I64 u2) := ⟨hI.out.1, hI.out.2.1, hI.out.2.2.1, hI.out.2.2.2.1, hu.1, hu.2⟩
                      clear HRI HU
                      go_wp2_with ((with_reducible show wpList _ _ _ (⟨_, .store _ (.tmp 71) _, _, _, _, _⟩ :: _) _ _); refine wpList_store_at rfl rowTt (.tmp 71) (.tmp 68) rfl z 7 rfl (H.out.blk 2 rfl) #[.int .i64 u1, .int .i64 u2] rfl (by simp) rfl (by simp [Value.oneCell']) ?_; intro wq bq hgq; replace bq : Blk wq z 40 #[.slice B m d, .slice MB mm md, .int .i64 fa, .int .i64 P0, .int .i64 Q0, .int .i64 P1, .int .i64 Q1, .int .i64 u1, .int .i64 u2] := bq; replace H := Lib.hid (H.out.setBlk 2 rfl hgq bq); (try simp only [List.set_cons_zero, List.set_cons_succ, List.cons_append, List.nil_append, List.eraseIdx_cons_zero, List.eraseIdx_cons_succ, List.setIfInBounds_toArray, World.size_alloc, selR, List.getD_cons_zero, List.getD_cons_succ] at H); clear hgq bq)
                      go_roundg (mn - (2 + 1))
                      case rel => exact ⟨2 + 1, P0, Q0, P1, Q1, u1, u2, true, rfl, by omega, rfl, rfl, H, HR2, hI2⟩
                      case measure => rw [Hgj.out]; omega
                    | false =>
                      have HO3 : Hid (O = (CC.nil, 12)) := by
                        show _ = _
                        refine (HOR.out (CC.nil, 12) (HRR0.out.trans ?_)).symm.trans (cfin_bad (by decide))
                        rw [drop_get HYK.out]
                        refine crows_over HYL.out ?_
                        rw [HRI.out, drop_get HYV.out]
                        exact crow_none (by rw [HU.out])
                      go_wp2_with (first | ((with_reducible show wpList _ _ _ (⟨_, .store _ (.tmp 71) _, _, _, _, _⟩ :: _) _ _); refine wpList_store_at rfl rowTt (.tmp 71) (.tmp 68) rfl z 7 rfl (H.out.blk 2 rfl) #[.int .i64 u1, .int .i64 u2] rfl (by simp) rfl (by simp [Value.oneCell']) ?_; intro wq bq hgq; replace bq : Blk wq z 40 #[.slice B m d, .slice MB mm md, .int .i64 fa, .int .i64 P0, .int .i64 Q0, .int .i64 P1, .int .i64 Q1, .int .i64 u1, .int .i64 u2] := bq; replace H := Lib.hid (H.out.setBlk 2 rfl hgq bq); (try simp only [List.set_cons_zero, List.set_cons_succ, List.cons_append, List.nil_append, List.eraseIdx_cons_zero, List.eraseIdx_cons_succ, List.setIfInBounds_toArray, World.size_alloc, selR, List.getD_cons_zero, List.getD_cons_succ] at H); clear hgq bq) | ((with_reducible show wpList _ _ _ (⟨_, .store _ (.tmp 4) _, _, _, _, _⟩ :: _) _ _); (refine wpList_store_blk rfl rowCt (.tmp 4) (.tmp 74) rfl _ rfl (H.out.blk 1 rfl) rfl (#[.slice none 0 0, .slice none 0 0, .int .i64 0, .int .i64 0, .int .i64 0, .int .i64 0, .int .i64 0, .int .i64 0, .int .i64 0]) rfl rfl (by simp [Value.oneCell']) ?_; intro wq bq hgq; replace H := Lib.hid (H.out.setBlk 1 rfl hgq bq); (try simp only [List.set_cons_zero, List.set_cons_succ, List.cons_append, List.nil_append, List.eraseIdx_cons_zero, List.eraseIdx_cons_succ, List.setIfInBounds_toArray, World.size_alloc, selR, List.getD_cons_zero, List.getD_cons_succ] at H); clear hgq bq)))
                      refine bodyPost_ret (results_blk rfl rowCt rfl (H.out.blk 1 rfl) rfl) rfl ?_
                      rw [HO3.out]
                      exact catPost2_nil H.out.to
                · obtain rfl : j = mn := by omega
                  have HRR2 : Hid (crows j ⟨⟨ds.map Dm.con, ms⟩, fa, p0, q0, p1, q1, p2, q2⟩ (rs.map (·.l)) = crows j ⟨⟨ds.map Dm.con, ms⟩, fa, P0, Q0, P1, Q1, P2, Q2⟩ ((rs.map (·.l)).drop (k + 1))) := by
                    show _ = _
                    rw [HRR0.out, drop_get HYK.out]
                    refine crows_ok (HYL.out) ?_
                    rw [HRI.out, List.drop_of_length_le (by have := HYL.out; omega)]
                    rfl
                  clear HRR0 HRI
                  go_wp2_with fail
                  go_roundg (rn - (k + 1))
                  case rel => exact ⟨k + 1, P0, Q0, P1, Q1, P2, Q2, ob, rfl, by omega, rfl, by go_num, H, HRR2, hI⟩
                  case measure => rw [Hgk.out]; omega
            · have e1 : (((yn : Nat) : Int) != mn) = true := by simp; omega
              have HO3 : Hid (O = (CC.nil, 2)) := by
                show _ = _
                refine (HOR.out (CC.nil, 2) (HRR.out.trans ?_)).symm.trans (cfin_bad (by decide))
                rw [drop_get HYK.out]
                exact crows_bad (by have := HYL.out; omega)
              clear hyn
              go_wp2_with ((with_reducible show wpList _ _ _ (⟨_, .store _ (.tmp 4) _, _, _, _, _⟩ :: _) _ _); (refine wpList_store_blk rfl rowCt (.tmp 4) (.tmp 52) rfl _ rfl (H.out.blk 1 rfl) rfl (#[.slice none 0 0, .slice none 0 0, .int .i64 0, .int .i64 0, .int .i64 0, .int .i64 0, .int .i64 0, .int .i64 0, .int .i64 0]) rfl rfl (by simp [Value.oneCell']) ?_; intro wq bq hgq; replace H := Lib.hid (H.out.setBlk 1 rfl hgq bq); (try simp only [List.set_cons_zero, List.set_cons_succ, List.cons_append, List.nil_append, List.eraseIdx_cons_zero, List.eraseIdx_cons_succ, List.setIfInBounds_toArray, World.size_alloc, selR, List.getD_cons_zero, List.getD_cons_succ] at H); clear hgq bq))
              refine bodyPost_ret (results_blk rfl rowCt rfl (H.out.blk 1 rfl) rfl) rfl ?_
              rw [HO3.out]
              exact catPost2_nil H.out.to
          · obtain rfl : k = rn := by omega
            have HO3 : Hid (O = (⟨⟨ds.map Dm.con, ms⟩, fa + k, P0, Q0, P1, Q1, P2, Q2⟩, 0)) := by
              show _ = _
              refine (HOR.out (⟨⟨ds.map Dm.con, ms⟩, fa, P0, Q0, P1, Q1, P2, Q2⟩, 0) (HRR.out.trans ?_)).symm.trans ?_
              · rw [List.drop_of_length_le (by rw [List.length_map, hrl.out]; omega)]
                rfl
              · rfl
            clear HRR
            have cz2 := (H.out.blk 2 rfl).cell 2; simp only [List.getElem?_toArray, List.getElem?_cons_zero, List.getElem?_cons_succ] at cz2; have fz2 := (H.out.blk 2 rfl).frozen 2
            go_wp2_with (first | ((with_reducible show wpList _ _ _ (⟨some 83, _, _, _, _, _⟩ :: _) _ _); replace H := Lib.hid (H.out.setCell 2 rfl 2 (.int .i64 (fa + k))); (try simp only [List.set_cons_zero, List.set_cons_succ, List.cons_append, List.nil_append, List.eraseIdx_cons_zero, List.eraseIdx_cons_succ, List.setIfInBounds_toArray, World.size_alloc, selR, List.getD_cons_zero, List.getD_cons_succ] at H); clear cz2 fz2; refine wpList_load_blk rfl rowCt (.tmp 7) rfl _ rfl (H.out.blk 2 rfl) rfl ?_) | ((with_reducible show wpList _ _ _ (⟨_, .store _ (.tmp 4) _, _, _, _, _⟩ :: _) _ _); (refine wpList_store_blk rfl rowCt (.tmp 4) (.tmp 83) rfl _ rfl (H.out.blk 1 rfl) rfl (#[.slice B m d, .slice MB mm md, .int .i64 (fa + k), .int .i64 P0, .int .i64 Q0, .int .i64 P1, .int .i64 Q1, .int .i64 P2, .int .i64 Q2]) rfl rfl (by simp [Value.oneCell']) ?_; intro wq bq hgq; replace H := Lib.hid (H.out.setBlk 1 rfl hgq bq); (try simp only [List.set_cons_zero, List.set_cons_succ, List.cons_append, List.nil_append, List.eraseIdx_cons_zero, List.eraseIdx_cons_succ, List.setIfInBounds_toArray, World.size_alloc, selR, List.getD_cons_zero, List.getD_cons_succ] at H); clear hgq bq)))
            refine bodyPost_ret (results_blk rfl rowCt rfl (H.out.blk 1 rfl) rfl) rfl ?_
            rw [HO3.out]
            exact ⟨⟨⟨⟨B, m, d, es⟩, ⟨MB, mm, md, mt⟩⟩, fa + k, P0, Q0, P1, Q1, P2, Q2⟩, rfl, congrArg (fun s => (⟨s, fa + k, P0, Q0, P1, Q1, P2, Q2⟩ : CC)) HDC.out, ⟨(H.out.at_ 3 rfl).rd, by show _ ≤ fa + (k : Int) ∧ fa + (k : Int) ≤ _; omega, hI.out.1, hI.out.2.1, hI.out.2.2.1, hI.out.2.2.2.1, hI.out.2.2.2.2.1, hI.out.2.2.2.2.2⟩, small_of_own (H.out.at_ 3 rfl), H.out.to, H.out.get 3 rfl, H.out.new 3 rfl⟩
  · have HO2 : Hid (O = (CC.nil, catErr ⟨⟨ds.map Dm.con, ms⟩, fa, p0, q0, p1, q1, p2, q2⟩)) := by have h := HO.out; unfold catGrow at h; rw [if_pos hE] at h; exact h.symm
    have dE : (catErr ⟨⟨ds.map Dm.con, ms⟩, fa, p0, q0, p1, q1, p2, q2⟩ == 0) = false := by simpa using hE
    generalize catErr ⟨⟨ds.map Dm.con, ms⟩, fa, p0, q0, p1, q1, p2, q2⟩ = E at *
    clear hE HO HK
    go_wp2_with ((with_reducible show wpList _ _ _ (⟨_, .store _ (.tmp 4) _, _, _, _, _⟩ :: _) _ _); (refine wpList_store_blk rfl rowCt (.tmp 4) (.tmp 17) rfl _ rfl (H.out.blk 1 rfl) rfl (#[.slice none 0 0, .slice none 0 0, .int .i64 0, .int .i64 0, .int .i64 0, .int .i64 0, .int .i64 0, .int .i64 0, .int .i64 0]) rfl rfl (by simp [Value.oneCell']) ?_; intro wq bq hgq; replace H := Lib.hid (H.out.setBlk 1 rfl hgq bq); (try simp only [List.set_cons_zero, List.set_cons_succ, List.cons_append, List.nil_append, List.eraseIdx_cons_zero, List.eraseIdx_cons_succ, List.setIfInBounds_toArray, World.size_alloc, selR, List.getD_cons_zero, List.getD_cons_succ] at H); clear hgq bq))
    refine bodyPost_ret (results_blk rfl rowCt rfl (H.out.blk 1 rfl) rfl) rfl ?_
    rw [HO2.out]
    exact catPost2_nil H.out.to
theorem catgrow_any (s : Ct) (r : Row (Row Int)) (w : World) (hs : s.rd w) (hm : SmS s.sc) (hr : r.rd w) (hrn : r.n ≤ 1000000) :
    Calls Try.prog 20 #[.agg s.cs, .slice r.A r.n r.c] w (CatPost (catGrow s.con (r.l.map (·.l))) w) := by
  refine (catgrow2_any s r w hs hm hr hrn).mono ?_
  rintro e w' ⟨D, h1, h2, h3, h4, h5, _⟩
  exact ⟨D, h1, h2, h3, h4, h5⟩
/-- The numbers of a catalog. -/
def Ct.ints (s : Ct) : Prop := I64 s.fa ∧ I64 s.p0 ∧ I64 s.q0 ∧ I64 s.p1 ∧ I64 s.q1 ∧ I64 s.p2 ∧ I64 s.q2
theorem Ct.rd.ints {s : Ct} {w : World} (h : s.rd w) : s.ints := ⟨h.fa, h.p0, h.q0, h.p1, h.q1, h.p2, h.q2⟩
theorem Ct.ints.rd {s : Ct} {w : World} (h : s.ints) (ho : SchOwn s.sc w) : s.rd w := ⟨ho.rd, h.1, h.2.1, h.2.2.1, h.2.2.2.1, h.2.2.2.2.1, h.2.2.2.2.2.1, h.2.2.2.2.2.2⟩

end Go.Proofs.Ytigjghfonpfdlaa
