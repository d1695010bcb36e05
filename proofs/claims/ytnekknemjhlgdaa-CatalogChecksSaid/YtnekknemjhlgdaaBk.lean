/- Texts laid together: XCatF XCatX XCatY XCatZ XCatK XCatH. -/
import Derived.Test.YtnekknemjhlgdaaBj
import Derived.Test.YtnekknemjhlgdaaBatX
import Derived.Test.YtnekknemjhlgdaaAskS
import Derived.Test.YtnekknemjhlgdaaSchA
import Derived.Test.YtnekknemjhlgdaaSchZ

namespace Go.Proofs.Ytnekknemjhlgdaa
open Go.RowKit
set_option linter.unusedVariables false
set_option linter.unusedSimpArgs false


def CatPost2 (o : CC × Int) (w : World) (e : Ending) (w' : World) : Prop :=
  ∃ D : Ct, e = .returned (.tuple #[.agg D.cs, .int .i64 o.2]) ∧ D.con = o.1 ∧ D.rd w' ∧ SmS D.sc ∧ Bel w w' ∧ NewR w w' (rSch D.sc)
theorem catPost2_nil {k : Int} {w w' : World} (hb : Bel w w') : CatPost2 (CC.nil, k) w (.returned (.tuple #[.agg #[.slice none 0 0, .slice none 0 0, .int .i64 0, .int .i64 0, .int .i64 0, .int .i64 0, .int .i64 0, .int .i64 0, .int .i64 0], .int .i64 k])) w' := ⟨Ct.nil, rfl, rfl, ct_nil_rd w', small_nil, hb, holds_sch_nil w', sch_nil_new⟩
theorem cfin_bad {n : Nat} {k : Int} (h : k ≠ 0) : cfin n (CC.nil, k) = (CC.nil, k) := by unfold cfin; rw [if_neg h]
theorem Row.rd.slRow {w : World} {x : Row (Row Int)} (h : x.rd w) {k : Nat} (hk : k < x.n) : ∃ b o y, x.A = some ⟨b, o, none⟩ ∧ x.l[k]? = some y ∧ y.ok w ∧ w.cell? ⟨b, o + k, none⟩ = some (.slice y.A y.n y.c) := by
  obtain ⟨b, o, y, e, hy, hc⟩ := rd_cell rfl h.r hk
  exact ⟨b, o, y, e, hy, h.all y (List.mem_of_getElem? hy), hc _ rfl⟩
set_option maxRecDepth 100000 in
set_option maxHeartbeats 8000000 in
theorem catgrow2_any (s : Ct) (r : Row (Row Int)) (w : World) (hs : s.rd w) (hm : SmS s.sc) (hr : r.rd w) (hrn : r.n ≤ 1000000) :
    Calls Try.prog 76 #[.agg s.cs, .slice r.A r.n r.c] w (CatPost2 (catGrow s.con (r.l.map (·.l))) w) := by
  have HC := Lib.hid (fun w' (hb : Bel w w') => catcheck_any s w' (hs.mono hb) hm)
  have HK := Lib.hid (fun hE w' (hb : Bel w w') => catclone_any s.sc w' (hs.sc.mono hb) hE)
  have HRW := Lib.hid hr
  have HRA : Hid (∀ y ∈ r.l, ∀ w', Bel w w' → y.rd w') := fun y hy w' hb => (hr.all y hy).rds.mono hb
  have hrl : Hid (r.l.length = r.n) := hr.len
  have hml : Hid (s.sc.ms.l.length = s.sc.ms.n) := hs.sc.ms.len
  have H := Lib.hid (((SL.start No w).alloc s.cs 30).alloc #[.slice none 0 0, .slice none 0 0, .int .i64 0, .int .i64 0, .int .i64 0, .int .i64 0, .int .i64 0, .int .i64 0, .int .i64 0] 30)
  (try simp only [List.set_cons_zero, List.set_cons_succ, List.cons_append, List.nil_append, List.eraseIdx_cons_zero, List.eraseIdx_cons_succ, List.setIfInBounds_toArray, World.size_alloc, selR, List.getD_cons_zero, List.getD_cons_succ] at H)
  have hfa := hs.fa
  unfold I64 at hfa
  have HI0 : Hid (I64 s.p0 ∧ I64 s.q0 ∧ I64 s.p1 ∧ I64 s.q1 ∧ I64 s.p2 ∧ I64 s.q2) := ⟨hs.p0, hs.q0, hs.p1, hs.q1, hs.p2, hs.q2⟩
  generalize hO : catGrow s.con (r.l.map (·.l)) = O
  have HO := Lib.hid hO
  clear hO
  obtain ⟨⟨⟨A, n, c, ds⟩, ⟨MA, mn, mc, ms⟩⟩, fa, p0, q0, p1, q1, p2, q2⟩ := s
  obtain ⟨RA, rn, rc, rs⟩ := r
  simp only [Ct.cs, Sch.cs, Ct.con, Sch.con] at *
  obtain ⟨f1, f2⟩ := hfa
  clear hs hm hr
  go_enter Try.func76, Try.ntmps76
  go_upto_region 1 with fail
  generalize w.heap.size + 1 = y at *
  generalize w.heap.size = x at *
  generalize World.alloc (World.alloc _ _) _ = w1 at *
  go_wp2_with ((with_reducible show wpList _ _ _ (⟨some 13, _, _, _, _, _⟩ :: _) _ _); (refine wpList_load_blk rfl rowCt (.tmp 2) rfl _ rfl (H.out.blk 0 rfl) rfl ?_))
  refine (HC.out _ H.out.to).mono ?_; rintro e w2 ⟨rfl, hb2⟩
  replace H := Lib.hid (H.out.bel hb2); (try simp only [List.set_cons_zero, List.set_cons_succ, List.cons_append, List.nil_append, List.eraseIdx_cons_zero, List.eraseIdx_cons_succ, List.setIfInBounds_toArray, World.size_alloc, selR, List.getD_cons_zero, List.getD_cons_succ] at H)
  clear hb2 HC
  by_cases hE : catErr ⟨⟨ds.map Dm.con, ms⟩, fa, p0, q0, p1, q1, p2, q2⟩ = 0
  · obtain ⟨g1, g2, g3⟩ := catErr_zero hE
    have hm3 : mn ≤ 3 := by have h : ms.length ≤ 3 := (schErr_zero g1).2.2.2.2.1; have := hml.out; omega
    replace HK := Lib.hid (HK.out g1)
    simp only at g2 g3
    by_cases h4 : 4000 < fa + rn
    · have HO2 : Hid (O = (CC.nil, 6)) := by have h := HO.out; unfold catGrow at h; rw [if_neg (by simp [hE]), if_pos (by rw [List.length_map, hrl.out]; exact h4)] at h; exact h.symm
      have e1 : decide (4000 - fa < (rn : Int)) = true := decide_eq_true (by omega)
      rw [hE]
      have c2 := (H.out.blk 0 rfl).cell 2; simp only [List.getElem?_toArray, List.getElem?_cons_zero, List.getElem?_cons_succ] at c2
      clear hE g1 HK HO
      go_wp2_with ((with_reducible show wpList _ _ _ (⟨_, .store _ (.tmp 4) _, _, _, _, _⟩ :: _) _ _); (refine wpList_store_blk rfl rowCt (.tmp 4) (.tmp 25) rfl _ rfl (H.out.blk 1 rfl) rfl (#[.slice none 0 0, .slice none 0 0, .int .i64 0, .int .i64 0, .int .i64 0, .int .i64 0, .int .i64 0, .int .i64 0, .int .i64 0]) rfl rfl (by simp [Value.oneCell']) ?_; intro wq bq hgq; replace H := Lib.hid (H.out.setBlk 1 rfl hgq bq); (try simp only [List.set_cons_zero, List.set_cons_succ, List.cons_append, List.nil_append, List.eraseIdx_cons_zero, List.eraseIdx_cons_succ, List.setIfInBounds_toArray, World.size_alloc, selR, List.getD_cons_zero, List.getD_cons_succ] at H); clear hgq bq))
      refine bodyPost_ret (results_blk rfl rowCt rfl (H.out.blk 1 rfl) rfl) rfl ?_
      rw [HO2.out]
      exact catPost2_nil H.out.to
    · have HO4 : Hid (O = cfin rn (crows mn ⟨⟨ds.map Dm.con, ms⟩, fa, p0, q0, p1, q1, p2, q2⟩ (rs.map (·.l)))) := by have h := HO.out; unfold catGrow at h; rw [if_neg (by simp [hE]), if_neg (by rw [List.length_map, hrl.out]; exact h4)] at h; rw [← h, List.length_map, hrl.out]; show cfin rn (crows ms.length _ _) = _; rw [hml.out]
      have e1 : decide (4000 - fa < (rn : Int)) = false := decide_eq_false (by omega)
      rw [hE]
      have c2 := (H.out.blk 0 rfl).cell 2; simp only [List.getElem?_toArray, List.getElem?_cons_zero, List.getElem?_cons_succ] at c2
      clear hE g1 HO
      go_upto_region 6 with fail
      clear c2 e1
      refine wp_region_held_drew (S := fun w => w.cell? ⟨x, 0, none⟩ = some (.slice A n c) ∧ w.cell? ⟨x, 1, none⟩ = some (.slice MA mn mc) ∧ w.cell? ⟨x, 2, none⟩ = some (.int .i64 fa) ∧ w.cell? ⟨x, 3, none⟩ = some (.int .i64 p0) ∧ w.cell? ⟨x, 4, none⟩ = some (.int .i64 q0) ∧ w.cell? ⟨x, 5, none⟩ = some (.int .i64 p1) ∧ w.cell? ⟨x, 6, none⟩ = some (.int .i64 q1) ∧ w.cell? ⟨x, 7, none⟩ = some (.int .i64 p2) ∧ w.cell? ⟨x, 8, none⟩ = some (.int .i64 q2)) (by kernel_rfl) (by exact ⟨(H.out.blk 0 rfl).cell 0, (H.out.blk 0 rfl).cell 1, (H.out.blk 0 rfl).cell 2, (H.out.blk 0 rfl).cell 3, (H.out.blk 0 rfl).cell 4, (H.out.blk 0 rfl).cell 5, (H.out.blk 0 rfl).cell 6, (H.out.blk 0 rfl).cell 7, (H.out.blk 0 rfl).cell 8⟩) (fun hHeld => ?_)
      replace H := Lib.hid (H.out.drew); (try simp only [List.set_cons_zero, List.set_cons_succ, List.cons_append, List.nil_append, List.eraseIdx_cons_zero, List.eraseIdx_cons_succ, List.setIfInBounds_toArray, World.size_alloc, selR, List.getD_cons_zero, List.getD_cons_succ] at H)
      refine wpAnyH_take (i := 0) (v := ?vq1_0) (get_o0) (by kernel_rfl) (by kernel_rfl) (by kernel_rfl) (by exact fun _ _ _ h => h) (Or.inl ⟨by rfl, ?hyq1_0⟩) (by assumption) ?_
      case hyq1_0 => (intro w hSw; (try dsimp only at hSw); go_simp) <;> with_reducible rfl
      try simp only [Act.put, List.setIfInBounds_toArray, List.set_cons_zero, List.set_cons_succ]
      refine wpAnyH_take (i := 1) (v := ?vq1_1) (get_os (get_o0)) (by kernel_rfl) (by kernel_rfl) (by kernel_rfl) (by exact fun _ _ _ h => h) (Or.inl ⟨by rfl, ?hyq1_1⟩) (by assumption) ?_
      case hyq1_1 => (intro w hSw; (try dsimp only at hSw); go_simp) <;> with_reducible rfl
      try simp only [Act.put, List.setIfInBounds_toArray, List.set_cons_zero, List.set_cons_succ]
      refine wpAnyH_take (i := 3) (v := ?vq1_3) (get_os (get_os (get_os (get_o0)))) (by kernel_rfl) (by kernel_rfl) (by kernel_rfl) (by exact fun _ _ _ h => h) (Or.inl ⟨by rfl, ?hyq1_3⟩) (by assumption) ?_
      case hyq1_3 => (intro w hSw; (try dsimp only at hSw); go_simp) <;> with_reducible rfl
      try simp only [Act.put, List.setIfInBounds_toArray, List.set_cons_zero, List.set_cons_succ]
      refine wpAnyH_take (i := 4) (v := ?vq1_4) (get_os (get_os (get_os (get_os (get_o0))))) (by kernel_rfl) (by kernel_rfl) (by kernel_rfl) (by exact fun _ _ _ h => h) (Or.inl ⟨by rfl, ?hyq1_4⟩) (by assumption) ?_
      case hyq1_4 => (intro w hSw; (try dsimp only at hSw); go_simp) <;> with_reducible rfl
      try simp only [Act.put, List.setIfInBounds_toArray, List.set_cons_zero, List.set_cons_succ]
      refine wpAnyH_take (i := 5) (v := ?vq1_5) (get_os (get_os (get_os (get_os (get_os (get_o0)))))) (by kernel_rfl) (by kernel_rfl) (by kernel_rfl) (by exact fun _ _ _ h => h) (Or.inl ⟨by rfl, ?hyq1_5⟩) (by assumption) ?_
      case hyq1_5 => (intro w hSw; (try dsimp only at hSw); go_simp) <;> with_reducible rfl
      try simp only [Act.put, List.setIfInBounds_toArray, List.set_cons_zero, List.set_cons_succ]
      refine wpAnyH_take (i := 6) (v := ?vq1_6) (get_os (get_os (get_os (get_os (get_os (get_os (get_o0))))))) (by kernel_rfl) (by kernel_rfl) (by kernel_rfl) (by exact fun _ _ _ h => h) (Or.inl ⟨by rfl, ?hyq1_6⟩) (by assumption) ?_
      case hyq1_6 => (intro w hSw; (try dsimp only at hSw); go_simp) <;> with_reducible rfl
      try simp only [Act.put, List.setIfInBounds_toArray, List.set_cons_zero, List.set_cons_succ]
      refine wpAnyH_ready (rs := [2, 8]) (by kernel_rfl) (by simp) ?_
      refine (AllReadyH.cons (get_os (get_os (get_o0))) (fun KK hKK => ?_) (AllReadyH.cons (get_os (get_os (get_os (get_os (get_os (get_os (get_os (get_os (get_o0))))))))) (fun KK hKK => ?_) AllReadyH.nil))
      · go_simp
        refine (HK.out _ H.out.to).mono ?_; rintro e w3 ⟨D, rfl, hD, hb3, hN⟩
        replace H := Lib.hid (H.out.add hb3 _ hN.1 hN.2); (try simp only [List.set_cons_zero, List.set_cons_succ, List.cons_append, List.nil_append, List.eraseIdx_cons_zero, List.eraseIdx_cons_succ, List.setIfInBounds_toArray, World.size_alloc, selR, List.getD_cons_zero, List.getD_cons_succ] at H)
        have HDC := Lib.hid hD
        clear hN hD hb3
        obtain ⟨⟨B, m, d, es⟩, ⟨MB, mm, md, mt⟩⟩ := D
        simp only [Sch.cs, Sch.con] at *
        have hbd : ∀ w : World, (Instr.build 30 #[(0, .agg #[.slice B m d, .slice MB mm md]), (1, .int .i64 fa), (2, .agg #[.int .i64 p0, .int .i64 q0, .int .i64 p1, .int .i64 q1, .int .i64 p2, .int .i64 q2])]).run Try.prog w = .ok (.agg #[.slice B m d, .slice MB mm md, .int .i64 fa, .int .i64 p0, .int .i64 q0, .int .i64 p1, .int .i64 q1, .int .i64 p2, .int .i64 q2]) w := fun _ => by kernel_rfl
        refine hKK.out _ _ (by exact ⟨(H.out.blk 0 rfl).cell 0, (H.out.blk 0 rfl).cell 1, (H.out.blk 0 rfl).cell 2, (H.out.blk 0 rfl).cell 3, (H.out.blk 0 rfl).cell 4, (H.out.blk 0 rfl).cell 5, (H.out.blk 0 rfl).cell 6, (H.out.blk 0 rfl).cell 7, (H.out.blk 0 rfl).cell 8⟩) (fun hHeld => ?_)
        clear hKK KK
        try simp only [Act.put, List.setIfInBounds_toArray, List.set_cons_zero, List.set_cons_succ]
        refine wpAnyH_ready (rs := [7, 8]) (by kernel_rfl) (by simp) ?_
        refine (AllReadyH.cons (get_os (get_os (get_os (get_os (get_os (get_os (get_os (get_o0)))))))) (fun KK hKK => ?_) (AllReadyH.cons (get_os (get_os (get_os (get_os (get_os (get_os (get_os (get_os (get_o0))))))))) (fun KK hKK => ?_) AllReadyH.nil))
        · go_simp
          refine hKK.out _ _ (by exact ⟨(H.out.blk 0 rfl).cell 0, (H.out.blk 0 rfl).cell 1, (H.out.blk 0 rfl).cell 2, (H.out.blk 0 rfl).cell 3, (H.out.blk 0 rfl).cell 4, (H.out.blk 0 rfl).cell 5, (H.out.blk 0 rfl).cell 6, (H.out.blk 0 rfl).cell 7, (H.out.blk 0 rfl).cell 8⟩) (fun hHeld => ?_)
          clear hKK KK
          try simp only [Act.put, List.setIfInBounds_toArray, List.set_cons_zero, List.set_cons_succ]
          refine wpAnyH_ready (rs := [8]) (by kernel_rfl) (by simp) ?_
          refine (AllReadyH.cons (get_os (get_os (get_os (get_os (get_os (get_os (get_os (get_os (get_o0))))))))) (fun KK hKK => ?_) AllReadyH.nil)
          go_simp
          replace H := Lib.hid (H.out.alloc #[.slice none 0 0, .slice none 0 0, .int .i64 0, .int .i64 0, .int .i64 0, .int .i64 0, .int .i64 0, .int .i64 0, .int .i64 0] 30); (try simp only [List.set_cons_zero, List.set_cons_succ, List.cons_append, List.nil_append, List.eraseIdx_cons_zero, List.eraseIdx_cons_succ, List.setIfInBounds_toArray, World.size_alloc, selR, List.getD_cons_zero, List.getD_cons_succ] at H)
          refine hKK.out _ _ (by exact ⟨(H.out.blk 0 rfl).cell 0, (H.out.blk 0 rfl).cell 1, (H.out.blk 0 rfl).cell 2, (H.out.blk 0 rfl).cell 3, (H.out.blk 0 rfl).cell 4, (H.out.blk 0 rfl).cell 5, (H.out.blk 0 rfl).cell 6, (H.out.blk 0 rfl).cell 7, (H.out.blk 0 rfl).cell 8⟩) (fun hHeld => ?_)
          clear hKK KK
          try simp only [Act.put, List.setIfInBounds_toArray, List.set_cons_zero, List.set_cons_succ]
          refine wpAnyH_ready (rs := [9]) (by kernel_rfl) (by simp) ?_
          refine (AllReadyH.cons (get_os (get_os (get_os (get_os (get_os (get_os (get_os (get_os (get_os (get_o0)))))))))) (fun KK hKK => ?_) AllReadyH.nil)
          generalize w3.heap.size = z at *
          generalize World.alloc w3 _ = w4 at *
          refine step_store_blk rfl rowCt (.tmp 7) (.tmp 33) rfl _ rfl (H.out.blk 3 rfl) rfl (#[.slice B m d, .slice MB mm md, .int .i64 fa, .int .i64 p0, .int .i64 q0, .int .i64 p1, .int .i64 q1, .int .i64 p2, .int .i64 q2]) rfl rfl (by simp [Value.oneCell']) ?_
          intro wq bq hgq
          replace H := Lib.hid (H.out.setBlk 3 rfl hgq bq); (try simp only [List.set_cons_zero, List.set_cons_succ, List.cons_append, List.nil_append, List.eraseIdx_cons_zero, List.eraseIdx_cons_succ, List.setIfInBounds_toArray, World.size_alloc, selR, List.getD_cons_zero, List.getD_cons_succ] at H)
          clear hgq bq
          refine hKK.out _ _ (by exact ⟨(H.out.blk 0 rfl).cell 0, (H.out.blk 0 rfl).cell 1, (H.out.blk 0 rfl).cell 2, (H.out.blk 0 rfl).cell 3, (H.out.blk 0 rfl).cell 4, (H.out.blk 0 rfl).cell 5, (H.out.blk 0 rfl).cell 6, (H.out.blk 0 rfl).cell 7, (H.out.blk 0 rfl).cell 8⟩) (fun hHeld => ?_)
          clear hKK KK
          try simp only [Act.put, List.setIfInBounds_toArray, List.set_cons_zero, List.set_cons_succ]
          refine wpAnyH_done (by kernel_rfl) ?_ _
          clear hHeld
          replace H := Lib.hid (H.out.sel [0, 1, 3, 2] (by decide) (by simp)); (try simp only [List.set_cons_zero, List.set_cons_succ, List.cons_append, List.nil_append, List.eraseIdx_cons_zero, List.eraseIdx_cons_succ, List.setIfInBounds_toArray, World.size_alloc, selR, List.getD_cons_zero, List.getD_cons_succ] at H)
          go_wp2_with fail
          have HOR : Hid (∀ o, crows mn ⟨⟨ds.map Dm.con, ms⟩, fa, p0, q0, p1, q1, p2, q2⟩ (rs.map (·.l)) = o → cfin rn o = O) := fun o ho => by rw [HO4.out, ho]
          have HRR : Hid (crows mn ⟨⟨ds.map Dm.con, ms⟩, fa, p0, q0, p1, q1, p2, q2⟩ (rs.map (·.l)) = crows mn ⟨⟨ds.map Dm.con, ms⟩, fa, p0, q0, p1, q1, p2, q2⟩ ((rs.map (·.l)).drop 0)) := rfl
          clear HO4
          go_loopg [8, 36] rn (fun gg s8 i wr => ∃ (k : Nat) (P0 Q0 P1 Q1 P2 Q2 : Int) (ob : Bool), gg = rn - k ∧ k ≤ rn ∧ s8 = .bool ob ∧ i = .int .i64 k ∧ Hid (SL No w wr [rBlk x 30 #[.slice A n c, .slice MA mn mc, .int .i64 fa, .int .i64 p0, .int .i64 q0, .int .i64 p1, .int .i64 q1, .int .i64 p2, .int .i64 q2], rBlk y 30 #[.slice none 0 0, .slice none 0 0, .int .i64 0, .int .i64 0, .int .i64 0, .int .i64 0, .int .i64 0, .int .i64 0, .int .i64 0], rBlk z 30 #[.slice B m d, .slice MB mm md, .int .i64 fa, .int .i64 P0, .int .i64 Q0, .int .i64 P1, .int .i64 Q1, .int .i64 P2, .int .i64 Q2], rSch ⟨⟨B, m, d, es⟩, ⟨MB, mm, md, mt⟩⟩]) ∧ Hid (crows mn ⟨⟨ds.map Dm.con, ms⟩, fa, p0, q0, p1, q1, p2, q2⟩ (rs.map (·.l)) = crows mn ⟨⟨ds.map Dm.con, ms⟩, fa, P0, Q0, P1, Q1, P2, Q2⟩ ((rs.map (·.l)).drop k)) ∧ Hid (I64 P0 ∧ I64 Q0 ∧ I64 P1 ∧ I64 Q1 ∧ I64 P2 ∧ I64 Q2))
          case atStart => exact ⟨0, p0, q0, p1, q1, p2, q2, true, rfl, by omega, rfl, rfl, H, HRR, HI0⟩
          case round =>
            clear H HRR HI0
            obtain ⟨k, P0, Q0, P1, Q1, P2, Q2, ob, hgk, hk, rfl, rfl, H, HRR, hI⟩ := hrel
            have Hgk := Lib.hid hgk
            clear hgk
            by_cases hlt : k < rn
            · obtain ⟨bb, oo, yr, hA, hyk, hyok, q1'⟩ := (HRW.out.mono H.out.to).slRow (k := k) hlt
              simp only at hA
              subst hA
              have HYK : Hid ((rs.map (·.l))[k]? = some yr.l) := by show _ = _; rw [List.getElem?_map, hyk]; rfl
              have HYR := Lib.hid (fun w' (hb : Bel w w') => (HRA.out yr (List.mem_of_getElem? hyk) w' hb))
              have HYL : Hid (yr.l.length = yr.n) := hyok.rds.len
              have y63 := hyok.rds.n63
              have i0 : (0 : Int) ≤ k := by omega
              have i1 : (k : Int) < rn := by omega
              clear hyk hyok
              obtain ⟨YA, yn, yc, ys⟩ := yr
              simp only at *
              have cm0 := (H.out.blk 0 rfl).cell 1; simp only [List.getElem?_toArray, List.getElem?_cons_zero, List.getElem?_cons_succ] at cm0
              by_cases hyn : yn = mn
              · obtain rfl : mn = yn := hyn.symm
                have e1 : (((mn : Nat) : Int) != mn) = false := by simp
                have e2 : decide ((3 : Int) < mn) = false := by simp <;> omega
                go_wp2_with fail
                clear cm0 e1 e2 q1'
                have HRI : Hid (crow ⟨⟨ds.map Dm.con, ms⟩, fa, P0, Q0, P1, Q1, P2, Q2⟩ 0 ys = crow ⟨⟨ds.map Dm.con, ms⟩, fa, P0, Q0, P1, Q1, P2, Q2⟩ 0 (ys.drop 0)) := rfl
                have hI0 := hI
                have HRR0 := HRR
                clear hI HRR
                generalize hC1 : (⟨⟨ds.map Dm.con, ms⟩, fa, P0, Q0, P1, Q1, P2, Q2⟩ : CC) = C1 at HRR0 HRI
                have HC1 := Lib.hid hC1
                clear hC1
                replace HRI : Hid (crow C1 0 ys = crow ⟨⟨ds.map Dm.con, ms⟩, fa, P0, Q0, P1, Q1, P2, Q2⟩ 0 (ys.drop 0)) := by show _ = _; rw [HC1.out]; exact HRI.out
                go_loopg [8, 55] mn (fun gg s8 i wr => ∃ (j : Nat) (P0 Q0 P1 Q1 P2 Q2 : Int) (ob : Bool), gg = mn - j ∧ j ≤ mn ∧ s8 = .bool ob ∧ i = .int .i64 j ∧ Hid (SL No w wr [rBlk x 30 #[.slice A n c, .slice MA mn mc, .int .i64 fa, .int .i64 p0, .int .i64 q0, .int .i64 p1, .int .i64 q1, .int .i64 p2, .int .i64 q2], rBlk y 30 #[.slice none 0 0, .slice none 0 0, .int .i64 0, .int .i64 0, .int .i64 0, .int .i64 0, .int .i64 0, .int .i64 0, .int .i64 0], rBlk z 30 #[.slice B m d, .slice MB mm md, .int .i64 fa, .int .i64 P0, .int .i64 Q0, .int .i64 P1, .int .i64 Q1, .int .i64 P2, .int .i64 Q2], rSch ⟨⟨B, m, d, es⟩, ⟨MB, mm, md, mt⟩⟩]) ∧ Hid (crow C1 0 ys = crow ⟨⟨ds.map Dm.con, ms⟩, fa, P0, Q0, P1, Q1, P2, Q2⟩ j (ys.drop j)) ∧ Hid (I64 P0 ∧ I64 Q0 ∧ I64 P1 ∧ I64 Q1 ∧ I64 P2 ∧ I64 Q2))
                case atStart => exact ⟨0, P0, Q0, P1, Q1, P2, Q2, ob, rfl, by omega, rfl, rfl, H, HRI, hI0⟩
                case round =>
                  clear H HRI hI0 HC1
                  obtain ⟨j, P0, Q0, P1, Q1, P2, Q2, ob, hgj, hj, rfl, rfl, H, HRI, hI⟩ := hrel
                  have Hgj := Lib.hid hgj
                  clear hgj
                  by_cases hjlt : j < mn
                  · obtain ⟨b2, o2, v, hA, hyv, hv, q2'⟩ := (HYR.out _ H.out.to).intAt (k := j) hjlt
                    simp only at hA
                    subst hA
                    have HYV := Lib.hid hyv
                    have HV := Lib.hid hv
                    clear hyv hv
                    have j0 : (0 : Int) ≤ j := by omega
                    have j1 : (j : Int) < mn := by omega
                    go_upto_region 16 with fail
                    clear q2'
                    obtain rfl | rfl | rfl : j = 0 ∨ j = 1 ∨ j = 2 := by omega
                    · rw [show ((0 : Nat) : Int) = 0 from rfl]
                      have hu := egrow_i64 (v := v) (hI.out.1) (hI.out.2.1)
                      have HG := Lib.hid (fun w => egrow_any P0 Q0 v w (hI.out.1) (hI.out.2.1) HV.out)
                      have HU : Hid (cupd ⟨⟨ds.map Dm.con, ms⟩, fa, P0, Q0, P1, Q1, P2, Q2⟩ 0 v = (⟨⟨ds.map Dm.con, ms⟩, fa, (egrow P0 Q0 v).1.1, (egrow P0 Q0 v).1.2, P1, Q1, P2, Q2⟩, (egrow P0 Q0 v).2)) := rfl
                      generalize egrow P0 Q0 v = G at *
                      obtain ⟨⟨u1, u2⟩, ok⟩ := G
                      simp only at HG HU hu
                      go_wp2_with ((with_reducible show wpList _ _ _ (⟨some 65, _, _, _, _, _⟩ :: _) _ _); (refine wpList_load_row_at rfl rowTt (.tmp 64) rfl z (3) rfl #[.int .i64 P0, .int .i64 Q0] rfl ((H.out.blk 2 rfl).part 3 _ rfl) ?_))
                      refine (HG.out _).mono ?_; rintro e w6 ⟨rfl, hb6⟩
                      replace H := Lib.hid (H.out.bel hb6); (try simp only [List.set_cons_zero, List.set_cons_succ, List.cons_append, List.nil_append, List.eraseIdx_cons_zero, List.eraseIdx_cons_succ, List.setIfInBounds_toArray, World.size_alloc, selR, List.getD_cons_zero, List.getD_cons_succ] at H)
                      clear hb6 HG
                      cases ok with
                      | true =>
                        have HR2 : Hid (crow C1 0 ys = crow ⟨⟨ds.map Dm.con, ms⟩, fa, u1, u2, P1, Q1, P2, Q2⟩ (0 + 1) (ys.drop (0 + 1))) := by
                          show _ = _
                          rw [HRI.out, drop_get HYV.out, crow_step (by rw [HU.out]), HU.out]
                        have hI2 : Hid (I64 u1 ∧ I64 u2 ∧ I64 P1 ∧ I64 Q1 ∧ I64 P2 ∧ I64 Q2) := ⟨hu.1, hu.2, hI.out.2.2.1, hI.out.2.2.2.1, hI.out.2.2.2.2.1, hI.out.2.2.2.2.2⟩
                        clear HRI HU
                        go_wp2_with ((with_reducible show wpList _ _ _ (⟨_, .store _ (.tmp 71) _, _, _, _, _⟩ :: _) _ _); refine wpList_store_at rfl rowTt (.tmp 71) (.tmp 68) rfl z 3 rfl (H.out.blk 2 rfl) #[.int .i64 u1, .int .i64 u2] rfl (by simp) rfl (by simp [Value.oneCell']) ?_; intro wq bq hgq; replace bq : Blk wq z 30 #[.slice B m d, .slice MB mm md, .int .i64 fa, .int .i64 u1, .int .i64 u2, .int .i64 P1, .int .i64 Q1, .int .i64 P2, .int .i64 Q2] := bq; replace H := Lib.hid (H.out.setBlk 2 rfl hgq bq); (try simp only [List.set_cons_zero, List.set_cons_succ, List.cons_append, List.nil_append, List.eraseIdx_cons_zero, List.eraseIdx_cons_succ, List.setIfInBounds_toArray, World.size_alloc, selR, List.getD_cons_zero, List.getD_cons_succ] at H); clear hgq bq)
                        go_roundg (mn - (0 + 1))
                        case rel => exact ⟨0 + 1, u1, u2, P1, Q1, P2, Q2, true, rfl, by omega, rfl, rfl, H, HR2, hI2⟩
                        case measure => rw [Hgj.out]; omega
                      | false =>
                        have HO3 : Hid (O = (CC.nil, 12)) := by
                          show _ = _
                          refine (HOR.out (CC.nil, 12) (HRR0.out.trans ?_)).symm.trans (cfin_bad (by decide))
                          rw [drop_get HYK.out]
                          refine crows_over HYL.out ?_
                          rw [HRI.out, drop_get HYV.out]
                          exact crow_none (by rw [HU.out])
                        go_wp2_with (first | ((with_reducible show wpList _ _ _ (⟨_, .store _ (.tmp 71) _, _, _, _, _⟩ :: _) _ _); refine wpList_store_at rfl rowTt (.tmp 71) (.tmp 68) rfl z 3 rfl (H.out.blk 2 rfl) #[.int .i64 u1, .int .i64 u2] rfl (by simp) rfl (by simp [Value.oneCell']) ?_; intro wq bq hgq; replace bq : Blk wq z 30 #[.slice B m d, .slice MB mm md, .int .i64 fa, .int .i64 u1, .int .i64 u2, .int .i64 P1, .int .i64 Q1, .int .i64 P2, .int .i64 Q2] := bq; replace H := Lib.hid (H.out.setBlk 2 rfl hgq bq); (try simp only [List.set_cons_zero, List.set_cons_succ, List.cons_append, List.nil_append, List.eraseIdx_cons_zero, List.eraseIdx_cons_succ, List.setIfInBounds_toArray, World.size_alloc, selR, List.getD_cons_zero, List.getD_cons_succ] at H); clear hgq bq) | ((with_reducible show wpList _ _ _ (⟨_, .store _ (.tmp 4) _, _, _, _, _⟩ :: _) _ _); (refine wpList_store_blk rfl rowCt (.tmp 4) (.tmp 74) rfl _ rfl (H.out.blk 1 rfl) rfl (#[.slice none 0 0, .slice none 0 0, .int .i64 0, .int .i64 0, .int .i64 0, .int .i64 0, .int .i64 0, .int .i64 0, .int .i64 0]) rfl rfl (by simp [Value.oneCell']) ?_; intro wq bq hgq; replace H := Lib.hid (H.out.setBlk 1 rfl hgq bq); (try simp only [List.set_cons_zero, List.set_cons_succ, List.cons_append, List.nil_append, List.eraseIdx_cons_zero, List.eraseIdx_cons_succ, List.setIfInBounds_toArray, World.size_alloc, selR, List.getD_cons_zero, List.getD_cons_succ] at H); clear hgq bq)))
                        refine bodyPost_ret (results_blk rfl rowCt rfl (H.out.blk 1 rfl) rfl) rfl ?_
                        rw [HO3.out]
                        exact catPost2_nil H.out.to
                    · rw [show ((1 : Nat) : Int) = 1 from rfl]
                      have hu := egrow_i64 (v := v) (hI.out.2.2.1) (hI.out.2.2.2.1)
                      have HG := Lib.hid (fun w => egrow_any P1 Q1 v w (hI.out.2.2.1) (hI.out.2.2.2.1) HV.out)
                      have HU : Hid (cupd ⟨⟨ds.map Dm.con, ms⟩, fa, P0, Q0, P1, Q1, P2, Q2⟩ 1 v = (⟨⟨ds.map Dm.con, ms⟩, fa, P0, Q0, (egrow P1 Q1 v).1.1, (egrow P1 Q1 v).1.2, P2, Q2⟩, (egrow P1 Q1 v).2)) := rfl
                      generalize egrow P1 Q1 v = G at *
                      obtain ⟨⟨u1, u2⟩, ok⟩ := G
                      simp only at HG HU hu
                      go_wp2_with ((with_reducible show wpList _ _ _ (⟨some 65, _, _, _, _, _⟩ :: _) _ _); (refine wpList_load_row_at rfl rowTt (.tmp 64) rfl z (5) rfl #[.int .i64 P1, .int .i64 Q1] rfl ((H.out.blk 2 rfl).part 5 _ rfl) ?_))
                      refine (HG.out _).mono ?_; rintro e w6 ⟨rfl, hb6⟩
                      replace H := Lib.hid (H.out.bel hb6); (try simp only [List.set_cons_zero, List.set_cons_succ, List.cons_append, List.nil_append, List.eraseIdx_cons_zero, List.eraseIdx_cons_succ, List.setIfInBounds_toArray, World.size_alloc, selR, List.getD_cons_zero, List.getD_cons_succ] at H)
                      clear hb6 HG
                      cases ok with
                      | true =>
                        have HR2 : Hid (crow C1 0 ys = crow ⟨⟨ds.map Dm.con, ms⟩, fa, P0, Q0, u1, u2, P2, Q2⟩ (1 + 1) (ys.drop (1 + 1))) := by
                          show _ = _
                          rw [HRI.out, drop_get HYV.out, crow_step (by rw [HU.out]), HU.out]
                        have hI2 : Hid (I64 P0 ∧ I64 Q0 ∧ I64 u1 ∧ I64 u2 ∧ I64 P2 ∧ I64 Q2) := ⟨hI.out.1, hI.out.2.1, hu.1, hu.2, hI.out.2.2.2.2.1, hI.out.2.2.2.2.2⟩
                        clear HRI HU
                        go_wp2_with ((with_reducible show wpList _ _ _ (⟨_, .store _ (.tmp 71) _, _, _, _, _⟩ :: _) _ _); refine wpList_store_at rfl rowTt (.tmp 71) (.tmp 68) rfl z 5 rfl (H.out.blk 2 rfl) #[.int .i64 u1, .int .i64 u2] rfl (by simp) rfl (by simp [Value.oneCell']) ?_; intro wq bq hgq; replace bq : Blk wq z 30 #[.slice B m d, .slice MB mm md, .int .i64 fa, .int .i64 P0, .int .i64 Q0, .int .i64 u1, .int .i64 u2, .int .i64 P2, .int .i64 Q2] := bq; replace H := Lib.hid (H.out.setBlk 2 rfl hgq bq); (try simp only [List.set_cons_zero, List.set_cons_succ, List.cons_append, List.nil_append, List.eraseIdx_cons_zero, List.eraseIdx_cons_succ, List.setIfInBounds_toArray, World.size_alloc, selR, List.getD_cons_zero, List.getD_cons_succ] at H); clear hgq bq)
                        go_roundg (mn - (1 + 1))
                        case rel => exact ⟨1 + 1, P0, Q0, u1, u2, P2, Q2, true, rfl, by omega, rfl, rfl, H, HR2, hI2⟩
                        case measure => rw [Hgj.out]; omega
                      | false =>
                        have HO3 : Hid (O = (CC.nil, 12)) := by
                          show _ = _
                          refine (HOR.out (CC.nil, 12) (HRR0.out.trans ?_)).symm.trans (cfin_bad (by decide))
                          rw [drop_get HYK.out]
                          refine crows_over HYL.out ?_
                          rw [HRI.out, drop_get HYV.out]
                          exact crow_none (by rw [HU.out])
                        go_wp2_with (first | ((with_reducible show wpList _ _ _ (⟨_, .store _ (.tmp 71) _, _, _, _, _⟩ :: _) _ _); refine wpList_store_at rfl rowTt (.tmp 71) (.tmp 68) rfl z 5 rfl (H.out.blk 2 rfl) #[.int .i64 u1, .int .i64 u2] rfl (by simp) rfl (by simp [Value.oneCell']) ?_; intro wq bq hgq; replace bq : Blk wq z 30 #[.slice B m d, .slice MB mm md, .int .i64 fa, .int .i64 P0, .int .i64 Q0, .int .i64 u1, .int .i64 u2, .int .i64 P2, .int .i64 Q2] := bq; replace H := Lib.hid (H.out.setBlk 2 rfl hgq bq); (try simp only [List.set_cons_zero, List.set_cons_succ, List.cons_append, List.nil_append, List.eraseIdx_cons_zero, List.eraseIdx_cons_succ, List.setIfInBounds_toArray, World.size_alloc, selR, List.getD_cons_zero, List.getD_cons_succ] at H); clear hgq bq) | ((with_reducible show wpList _ _ _ (⟨_, .store _ (.tmp 4) _, _, _, _, _⟩ :: _) _ _); (refine wpList_store_blk rfl rowCt (.tmp 4) (.tmp 74) rfl _ rfl (H.out.blk 1 rfl) rfl (#[.slice none 0 0, .slice none 0 0, .int .i64 0, .int .i64 0, .int .i64 0, .int .i64 0, .int .i64 0, .int .i64 0, .int .i64 0]) rfl rfl (by simp [Value.oneCell']) ?_; intro wq bq hgq; replace H := Lib.hid (H.out.setBlk 1 rfl hgq bq); (try simp only [List.set_cons_zero, List.set_cons_succ, List.cons_append, List.nil_append, List.eraseIdx_cons_zero, List.eraseIdx_cons_succ, List.setIfInBounds_toArray, World.size_alloc, selR, List.getD_cons_zero, List.getD_cons_succ] at H); clear hgq bq)))
                        refine bodyPost_ret (results_blk rfl rowCt rfl (H.out.blk 1 rfl) rfl) rfl ?_
                        rw [HO3.out]
                        exact catPost2_nil H.out.to
                    · rw [show ((2 : Nat) : Int) = 2 from rfl]
                      have hu := egrow_i64 (v := v) (hI.out.2.2.2.2.1) (hI.out.2.2.2.2.2)
                      have HG := Lib.hid (fun w => egrow_any P2 Q2 v w (hI.out.2.2.2.2.1) (hI.out.2.2.2.2.2) HV.out)
                      have HU : Hid (cupd ⟨⟨ds.map Dm.con, ms⟩, fa, P0, Q0, P1, Q1, P2, Q2⟩ 2 v = (⟨⟨ds.map Dm.con, ms⟩, fa, P0, Q0, P1, Q1, (egrow P2 Q2 v).1.1, (egrow P2 Q2 v).1.2⟩, (egrow P2 Q2 v).2)) := rfl
                      generalize egrow P2 Q2 v = G at *
                      obtain ⟨⟨u1, u2⟩, ok⟩ := G
                      simp only at HG HU hu
                      go_wp2_with ((with_reducible show wpList _ _ _ (⟨some 65, _, _, _, _, _⟩ :: _) _ _); (refine wpList_load_row_at rfl rowTt (.tmp 64) rfl z (7) rfl #[.int .i64 P2, .int .i64 Q2] rfl ((H.out.blk 2 rfl).part 7 _ rfl) ?_))
                      refine (HG.out _).mono ?_; rintro e w6 ⟨rfl, hb6⟩
                      replace H := Lib.hid (H.out.bel hb6); (try simp only [List.set_cons_zero, List.set_cons_succ, List.cons_append, List.nil_append, List.eraseIdx_cons_zero, List.eraseIdx_cons_succ, List.setIfInBounds_toArray, World.size_alloc, selR, List.getD_cons_zero, List.getD_cons_succ] at H)
                      clear hb6 HG
                      cases ok with
                      | true =>
                        have HR2 : Hid (crow C1 0 ys = crow ⟨⟨ds.map Dm.con, ms⟩, fa, P0, Q0, P1, Q1, u1, u2⟩ (2 + 1) (ys.drop (2 + 1))) := by
                          show _ = _
                          rw [HRI.out, drop_get HYV.out, crow_step (by rw [HU.out]), HU.out]
                        have hI2 : Hid (I64 P0 ∧ I64 Q0 ∧ I64 P1 ∧ I64 Q1 ∧ I64 u1 ∧ I64 u2) := ⟨hI.out.1, hI.out.2.1, hI.out.2.2.1, hI.out.2.2.2.1, hu.1, hu.2⟩
                        clear HRI HU
                        go_wp2_with ((with_reducible show wpList _ _ _ (⟨_, .store _ (.tmp 71) _, _, _, _, _⟩ :: _) _ _); refine wpList_store_at rfl rowTt (.tmp 71) (.tmp 68) rfl z 7 rfl (H.out.blk 2 rfl) #[.int .i64 u1, .int .i64 u2] rfl (by simp) rfl (by simp [Value.oneCell']) ?_; intro wq bq hgq; replace bq : Blk wq z 30 #[.slice B m d, .slice MB mm md, .int .i64 fa, .int .i64 P0, .int .i64 Q0, .int .i64 P1, .int .i64 Q1, .int .i64 u1, .int .i64 u2] := bq; replace H := Lib.hid (H.out.setBlk 2 rfl hgq bq); (try simp only [List.set_cons_zero, List.set_cons_succ, List.cons_append, List.nil_append, List.eraseIdx_cons_zero, List.eraseIdx_cons_succ, List.setIfInBounds_toArray, World.size_alloc, selR, List.getD_cons_zero, List.getD_cons_succ] at H); clear hgq bq)
                        go_roundg (mn - (2 + 1))
                        case rel => exact ⟨2 + 1, P0, Q0, P1, Q1, u1, u2, true, rfl, by omega, rfl, rfl, H, HR2, hI2⟩
                        case measure => rw [Hgj.out]; omega
                      | false =>
                        have HO3 : Hid (O = (CC.nil, 12)) := by
                          show _ = _
                          refine (HOR.out (CC.nil, 12) (HRR0.out.trans ?_)).symm.trans (cfin_bad (by decide))
                          rw [drop_get HYK.out]
                          refine crows_over HYL.out ?_
                          rw [HRI.out, drop_get HYV.out]
                          exact crow_none (by rw [HU.out])
                        go_wp2_with (first | ((with_reducible show wpList _ _ _ (⟨_, .store _ (.tmp 71) _, _, _, _, _⟩ :: _) _ _); refine wpList_store_at rfl rowTt (.tmp 71) (.tmp 68) rfl z 7 rfl (H.out.blk 2 rfl) #[.int .i64 u1, .int .i64 u2] rfl (by simp) rfl (by simp [Value.oneCell']) ?_; intro wq bq hgq; replace bq : Blk wq z 30 #[.slice B m d, .slice MB mm md, .int .i64 fa, .int .i64 P0, .int .i64 Q0, .int .i64 P1, .int .i64 Q1, .int .i64 u1, .int .i64 u2] := bq; replace H := Lib.hid (H.out.setBlk 2 rfl hgq bq); (try simp only [List.set_cons_zero, List.set_cons_succ, List.cons_append, List.nil_append, List.eraseIdx_cons_zero, List.eraseIdx_cons_succ, List.setIfInBounds_toArray, World.size_alloc, selR, List.getD_cons_zero, List.getD_cons_succ] at H); clear hgq bq) | ((with_reducible show wpList _ _ _ (⟨_, .store _ (.tmp 4) _, _, _, _, _⟩ :: _) _ _); (refine wpList_store_blk rfl rowCt (.tmp 4) (.tmp 74) rfl _ rfl (H.out.blk 1 rfl) rfl (#[.slice none 0 0, .slice none 0 0, .int .i64 0, .int .i64 0, .int .i64 0, .int .i64 0, .int .i64 0, .int .i64 0, .int .i64 0]) rfl rfl (by simp [Value.oneCell']) ?_; intro wq bq hgq; replace H := Lib.hid (H.out.setBlk 1 rfl hgq bq); (try simp only [List.set_cons_zero, List.set_cons_succ, List.cons_append, List.nil_append, List.eraseIdx_cons_zero, List.eraseIdx_cons_succ, List.setIfInBounds_toArray, World.size_alloc, selR, List.getD_cons_zero, List.getD_cons_succ] at H); clear hgq bq)))
                        refine bodyPost_ret (results_blk rfl rowCt rfl (H.out.blk 1 rfl) rfl) rfl ?_
                        rw [HO3.out]
                        exact catPost2_nil H.out.to
                  · obtain rfl : j = mn := by omega
                    have HRR2 : Hid (crows j ⟨⟨ds.map Dm.con, ms⟩, fa, p0, q0, p1, q1, p2, q2⟩ (rs.map (·.l)) = crows j ⟨⟨ds.map Dm.con, ms⟩, fa, P0, Q0, P1, Q1, P2, Q2⟩ ((rs.map (·.l)).drop (k + 1))) := by
                      show _ = _
                      rw [HRR0.out, drop_get HYK.out]
                      refine crows_ok (HYL.out) ?_
                      rw [HRI.out, List.drop_of_length_le (by have := HYL.out; omega)]
                      rfl
                    clear HRR0 HRI
                    go_wp2_with fail
                    go_roundg (rn - (k + 1))
                    case rel => exact ⟨k + 1, P0, Q0, P1, Q1, P2, Q2, ob, rfl, by omega, rfl, by go_num, H, HRR2, hI⟩
                    case measure => rw [Hgk.out]; omega
              · have e1 : (((yn : Nat) : Int) != mn) = true := by simp; omega
                have HO3 : Hid (O = (CC.nil, 2)) := by
                  show _ = _
                  refine (HOR.out (CC.nil, 2) (HRR.out.trans ?_)).symm.trans (cfin_bad (by decide))
                  rw [drop_get HYK.out]
                  exact crows_bad (by have := HYL.out; omega)
                clear hyn
                go_wp2_with ((with_reducible show wpList _ _ _ (⟨_, .store _ (.tmp 4) _, _, _, _, _⟩ :: _) _ _); (refine wpList_store_blk rfl rowCt (.tmp 4) (.tmp 52) rfl _ rfl (H.out.blk 1 rfl) rfl (#[.slice none 0 0, .slice none 0 0, .int .i64 0, .int .i64 0, .int .i64 0, .int .i64 0, .int .i64 0, .int .i64 0, .int .i64 0]) rfl rfl (by simp [Value.oneCell']) ?_; intro wq bq hgq; replace H := Lib.hid (H.out.setBlk 1 rfl hgq bq); (try simp only [List.set_cons_zero, List.set_cons_succ, List.cons_append, List.nil_append, List.eraseIdx_cons_zero, List.eraseIdx_cons_succ, List.setIfInBounds_toArray, World.size_alloc, selR, List.getD_cons_zero, List.getD_cons_succ] at H); clear hgq bq))
                refine bodyPost_ret (results_blk rfl rowCt rfl (H.out.blk 1 rfl) rfl) rfl ?_
                rw [HO3.out]
                exact catPost2_nil H.out.to
            · obtain rfl : k = rn := by omega
              have HO3 : Hid (O = (⟨⟨ds.map Dm.con, ms⟩, fa + k, P0, Q0, P1, Q1, P2, Q2⟩, 0)) := by
                show _ = _
                refine (HOR.out (⟨⟨ds.map Dm.con, ms⟩, fa, P0, Q0, P1, Q1, P2, Q2⟩, 0) (HRR.out.trans ?_)).symm.trans ?_
                · rw [List.drop_of_length_le (by rw [List.length_map, hrl.out]; omega)]
                  rfl
                · rfl
              clear HRR
              have cz2 := (H.out.blk 2 rfl).cell 2; simp only [List.getElem?_toArray, List.getElem?_cons_zero, List.getElem?_cons_succ] at cz2; have fz2 := (H.out.blk 2 rfl).frozen 2
              go_wp2_with (first | ((with_reducible show wpList _ _ _ (⟨some 83, _, _, _, _, _⟩ :: _) _ _); replace H := Lib.hid (H.out.setCell 2 rfl 2 (.int .i64 (fa + k))); (try simp only [List.set_cons_zero, List.set_cons_succ, List.cons_append, List.nil_append, List.eraseIdx_cons_zero, List.eraseIdx_cons_succ, List.setIfInBounds_toArray, World.size_alloc, selR, List.getD_cons_zero, List.getD_cons_succ] at H); clear cz2 fz2; refine wpList_load_blk rfl rowCt (.tmp 7) rfl _ rfl (H.out.blk 2 rfl) rfl ?_) | ((with_reducible show wpList _ _ _ (⟨_, .store _ (.tmp 4) _, _, _, _, _⟩ :: _) _ _); (refine wpList_store_blk rfl rowCt (.tmp 4) (.tmp 83) rfl _ rfl (H.out.blk 1 rfl) rfl (#[.slice B m d, .slice MB mm md, .int .i64 (fa + k), .int .i64 P0, .int .i64 Q0, .int .i64 P1, .int .i64 Q1, .int .i64 P2, .int .i64 Q2]) rfl rfl (by simp [Value.oneCell']) ?_; intro wq bq hgq; replace H := Lib.hid (H.out.setBlk 1 rfl hgq bq); (try simp only [List.set_cons_zero, List.set_cons_succ, List.cons_append, List.nil_append, List.eraseIdx_cons_zero, List.eraseIdx_cons_succ, List.setIfInBounds_toArray, World.size_alloc, selR, List.getD_cons_zero, List.getD_cons_succ] at H); clear hgq bq)))
              refine bodyPost_ret (results_blk rfl rowCt rfl (H.out.blk 1 rfl) rfl) rfl ?_
              rw [HO3.out]
              exact ⟨⟨⟨⟨B, m, d, es⟩, ⟨MB, mm, md, mt⟩⟩, fa + k, P0, Q0, P1, Q1, P2, Q2⟩, rfl, congrArg (fun s => (⟨s, fa + k, P0, Q0, P1, Q1, P2, Q2⟩ : CC)) HDC.out, ⟨(H.out.at_ 3 rfl).rd, by show _ ≤ fa + (k : Int) ∧ fa + (k : Int) ≤ _; omega, hI.out.1, hI.out.2.1, hI.out.2.2.1, hI.out.2.2.2.1, hI.out.2.2.2.2.1, hI.out.2.2.2.2.2⟩, small_of_own (H.out.at_ 3 rfl), H.out.to, H.out.get 3 rfl, H.out.new 3 rfl⟩
        · go_simp
          replace H := Lib.hid (H.out.alloc #[.slice none 0 0, .slice none 0 0, .int .i64 0, .int .i64 0, .int .i64 0, .int .i64 0, .int .i64 0, .int .i64 0, .int .i64 0] 30); (try simp only [List.set_cons_zero, List.set_cons_succ, List.cons_append, List.nil_append, List.eraseIdx_cons_zero, List.eraseIdx_cons_succ, List.setIfInBounds_toArray, World.size_alloc, selR, List.getD_cons_zero, List.getD_cons_succ] at H)
          refine hKK.out _ _ (by exact ⟨(H.out.blk 0 rfl).cell 0, (H.out.blk 0 rfl).cell 1, (H.out.blk 0 rfl).cell 2, (H.out.blk 0 rfl).cell 3, (H.out.blk 0 rfl).cell 4, (H.out.blk 0 rfl).cell 5, (H.out.blk 0 rfl).cell 6, (H.out.blk 0 rfl).cell 7, (H.out.blk 0 rfl).cell 8⟩) (fun hHeld => ?_)
          clear hKK KK
          try simp only [Act.put, List.setIfInBounds_toArray, List.set_cons_zero, List.set_cons_succ]
          refine wpAnyH_ready (rs := [7]) (by kernel_rfl) (by simp) ?_
          refine (AllReadyH.cons (get_os (get_os (get_os (get_os (get_os (get_os (get_os (get_o0)))))))) (fun KK hKK => ?_) AllReadyH.nil)
          go_simp
          refine hKK.out _ _ (by exact ⟨(H.out.blk 0 rfl).cell 0, (H.out.blk 0 rfl).cell 1, (H.out.blk 0 rfl).cell 2, (H.out.blk 0 rfl).cell 3, (H.out.blk 0 rfl).cell 4, (H.out.blk 0 rfl).cell 5, (H.out.blk 0 rfl).cell 6, (H.out.blk 0 rfl).cell 7, (H.out.blk 0 rfl).cell 8⟩) (fun hHeld => ?_)
          clear hKK KK
          try simp only [Act.put, List.setIfInBounds_toArray, List.set_cons_zero, List.set_cons_succ]
          refine wpAnyH_ready (rs := [9]) (by kernel_rfl) (by simp) ?_
          refine (AllReadyH.cons (get_os (get_os (get_os (get_os (get_os (get_os (get_os (get_os (get_os (get_o0)))))))))) (fun KK hKK => ?_) AllReadyH.nil)
          generalize w3.heap.size = z at *
          generalize World.alloc w3 _ = w4 at *
          refine step_store_blk rfl rowCt (.tmp 7) (.tmp 33) rfl _ rfl (H.out.blk 3 rfl) rfl (#[.slice B m d, .slice MB mm md, .int .i64 fa, .int .i64 p0, .int .i64 q0, .int .i64 p1, .int .i64 q1, .int .i64 p2, .int .i64 q2]) rfl rfl (by simp [Value.oneCell']) ?_
          intro wq bq hgq
          replace H := Lib.hid (H.out.setBlk 3 rfl hgq bq); (try simp only [List.set_cons_zero, List.set_cons_succ, List.cons_append, List.nil_append, List.eraseIdx_cons_zero, List.eraseIdx_cons_succ, List.setIfInBounds_toArray, World.size_alloc, selR, List.getD_cons_zero, List.getD_cons_succ] at H)
          clear hgq bq
          refine hKK.out _ _ (by exact ⟨(H.out.blk 0 rfl).cell 0, (H.out.blk 0 rfl).cell 1, (H.out.blk 0 rfl).cell 2, (H.out.blk 0 rfl).cell 3, (H.out.blk 0 rfl).cell 4, (H.out.blk 0 rfl).cell 5, (H.out.blk 0 rfl).cell 6, (H.out.blk 0 rfl).cell 7, (H.out.blk 0 rfl).cell 8⟩) (fun hHeld => ?_)
          clear hKK KK
          try simp only [Act.put, List.setIfInBounds_toArray, List.set_cons_zero, List.set_cons_succ]
          refine wpAnyH_done (by kernel_rfl) ?_ _
          clear hHeld
          replace H := Lib.hid (H.out.sel [0, 1, 3, 2] (by decide) (by simp)); (try simp only [List.set_cons_zero, List.set_cons_succ, List.cons_append, List.nil_append, List.eraseIdx_cons_zero, List.eraseIdx_cons_succ, List.setIfInBounds_toArray, World.size_alloc, selR, List.getD_cons_zero, List.getD_cons_succ] at H)
          go_wp2_with fail
          have HOR : Hid (∀ o, crows mn ⟨⟨ds.map Dm.con, ms⟩, fa, p0, q0, p1, q1, p2, q2⟩ (rs.map (·.l)) = o → cfin rn o = O) := fun o ho => by rw [HO4.out, ho]
          have HRR : Hid (crows mn ⟨⟨ds.map Dm.con, ms⟩, fa, p0, q0, p1, q1, p2, q2⟩ (rs.map (·.l)) = crows mn ⟨⟨ds.map Dm.con, ms⟩, fa, p0, q0, p1, q1, p2, q2⟩ ((rs.map (·.l)).drop 0)) := rfl
          clear HO4
          go_loopg [8, 36] rn (fun gg s8 i wr => ∃ (k : Nat) (P0 Q0 P1 Q1 P2 Q2 : Int) (ob : Bool), gg = rn - k ∧ k ≤ rn ∧ s8 = .bool ob ∧ i = .int .i64 k ∧ Hid (SL No w wr [rBlk x 30 #[.slice A n c, .slice MA mn mc, .int .i64 fa, .int .i64 p0, .int .i64 q0, .int .i64 p1, .int .i64 q1, .int .i64 p2, .int .i64 q2], rBlk y 30 #[.slice none 0 0, .slice none 0 0, .int .i64 0, .int .i64 0, .int .i64 0, .int .i64 0, .int .i64 0, .int .i64 0, .int .i64 0], rBlk z 30 #[.slice B m d, .slice MB mm md, .int .i64 fa, .int .i64 P0, .int .i64 Q0, .int .i64 P1, .int .i64 Q1, .int .i64 P2, .int .i64 Q2], rSch ⟨⟨B, m, d, es⟩, ⟨MB, mm, md, mt⟩⟩]) ∧ Hid (crows mn ⟨⟨ds.map Dm.con, ms⟩, fa, p0, q0, p1, q1, p2, q2⟩ (rs.map (·.l)) = crows mn ⟨⟨ds.map Dm.con, ms⟩, fa, P0, Q0, P1, Q1, P2, Q2⟩ ((rs.map (·.l)).drop k)) ∧ Hid (I64 P0 ∧ I64 Q0 ∧ I64 P1 ∧ I64 Q1 ∧ I64 P2 ∧ I64 Q2))
          case atStart => exact ⟨0, p0, q0, p1, q1, p2, q2, true, rfl, by omega, rfl, rfl, H, HRR, HI0⟩
          case round =>
            clear H HRR HI0
            obtain ⟨k, P0, Q0, P1, Q1, P2, Q2, ob, hgk, hk, rfl, rfl, H, HRR, hI⟩ := hrel
            have Hgk := Lib.hid hgk
            clear hgk
            by_cases hlt : k < rn
            · obtain ⟨bb, oo, yr, hA, hyk, hyok, q1'⟩ := (HRW.out.mono H.out.to).slRow (k := k) hlt
              simp only at hA
              subst hA
              have HYK : Hid ((rs.map (·.l))[k]? = some yr.l) := by show _ = _; rw [List.getElem?_map, hyk]; rfl
              have HYR := Lib.hid (fun w' (hb : Bel w w') => (HRA.out yr (List.mem_of_getElem? hyk) w' hb))
              have HYL : Hid (yr.l.length = yr.n) := hyok.rds.len
              have y63 := hyok.rds.n63
              have i0 : (0 : Int) ≤ k := by omega
              have i1 : (k : Int) < rn := by omega
              clear hyk hyok
              obtain ⟨YA, yn, yc, ys⟩ := yr
              simp only at *
              have cm0 := (H.out.blk 0 rfl).cell 1; simp only [List.getElem?_toArray, List.getElem?_cons_zero, List.getElem?_cons_succ] at cm0
              by_cases hyn : yn = mn
              · obtain rfl : mn = yn := hyn.symm
                have e1 : (((mn : Nat) : Int) != mn) = false := by simp
                have e2 : decide ((3 : Int) < mn) = false := by simp <;> omega
                go_wp2_with fail
                clear cm0 e1 e2 q1'
                have HRI : Hid (crow ⟨⟨ds.map Dm.con, ms⟩, fa, P0, Q0, P1, Q1, P2, Q2⟩ 0 ys = crow ⟨⟨ds.map Dm.con, ms⟩, fa, P0, Q0, P1, Q1, P2, Q2⟩ 0 (ys.drop 0)) := rfl
                have hI0 := hI
                have HRR0 := HRR
                clear hI HRR
                generalize hC1 : (⟨⟨ds.map Dm.con, ms⟩, fa, P0, Q0, P1, Q1, P2, Q2⟩ : CC) = C1 at HRR0 HRI
                have HC1 := Lib.hid hC1
                clear hC1
                replace HRI : Hid (crow C1 0 ys = crow ⟨⟨ds.map Dm.con, ms⟩, fa, P0, Q0, P1, Q1, P2, Q2⟩ 0 (ys.drop 0)) := by show _ = _; rw [HC1.out]; exact HRI.out
                go_loopg [8, 55] mn (fun gg s8 i wr => ∃ (j : Nat) (P0 Q0 P1 Q1 P2 Q2 : Int) (ob : Bool), gg = mn - j ∧ j ≤ mn ∧ s8 = .bool ob ∧ i = .int .i64 j ∧ Hid (SL No w wr [rBlk x 30 #[.slice A n c, .slice MA mn mc, .int .i64 fa, .int .i64 p0, .int .i64 q0, .int .i64 p1, .int .i64 q1, .int .i64 p2, .int .i64 q2], rBlk y 30 #[.slice none 0 0, .slice none 0 0, .int .i64 0, .int .i64 0, .int .i64 0, .int .i64 0, .int .i64 0, .int .i64 0, .int .i64 0], rBlk z 30 #[.slice B m d, .slice MB mm md, .int .i64 fa, .int .i64 P0, .int .i64 Q0, .int .i64 P1, .int .i64 Q1, .int .i64 P2, .int .i64 Q2], rSch ⟨⟨B, m, d, es⟩, ⟨MB, mm, md, mt⟩⟩]) ∧ Hid (crow C1 0 ys = crow ⟨⟨ds.map Dm.con, ms⟩, fa, P0, Q0, P1, Q1, P2, Q2⟩ j (ys.drop j)) ∧ Hid (I64 P0 ∧ I64 Q0 ∧ I64 P1 ∧ I64 Q1 ∧ I64 P2 ∧ I64 Q2))
                case atStart => exact ⟨0, P0, Q0, P1, Q1, P2, Q2, ob, rfl, by omega, rfl, rfl, H, HRI, hI0⟩
                case round =>
                  clear H HRI hI0 HC1
                  obtain ⟨j, P0, Q0, P1, Q1, P2, Q2, ob, hgj, hj, rfl, rfl, H, HRI, hI⟩ := hrel
                  have Hgj := Lib.hid hgj
                  clear hgj
                  by_cases hjlt : j < mn
                  · obtain ⟨b2, o2, v, hA, hyv, hv, q2'⟩ := (HYR.out _ H.out.to).intAt (k := j) hjlt
                    simp only at hA
                    subst hA
                    have HYV := Lib.hid hyv
                    have HV := Lib.hid hv
                    clear hyv hv
                    have j0 : (0 : Int) ≤ j := by omega
                    have j1 : (j : Int) < mn := by omega
                    go_upto_region 16 with fail
                    clear q2'
                    obtain rfl | rfl | rfl : j = 0 ∨ j = 1 ∨ j = 2 := by omega
                    · rw [show ((0 : Nat) : Int) = 0 from rfl]
                      have hu := egrow_i64 (v := v) (hI.out.1) (hI.out.2.1)
                      have HG := Lib.hid (fun w => egrow_any P0 Q0 v w (hI.out.1) (hI.out.2.1) HV.out)
                      have HU : Hid (cupd ⟨⟨ds.map Dm.con, ms⟩, fa, P0, Q0, P1, Q1, P2, Q2⟩ 0 v = (⟨⟨ds.map Dm.con, ms⟩, fa, (egrow P0 Q0 v).1.1, (egrow P0 Q0 v).1.2, P1, Q1, P2, Q2⟩, (egrow P0 Q0 v).2)) := rfl
                      generalize egrow P0 Q0 v = G at *
                      obtain ⟨⟨u1, u2⟩, ok⟩ := G
                      simp only at HG HU hu
                      go_wp2_with ((with_reducible show wpList _ _ _ (⟨some 65, _, _, _, _, _⟩ :: _) _ _); (refine wpList_load_row_at rfl rowTt (.tmp 64) rfl z (3) rfl #[.int .i64 P0, .int .i64 Q0] rfl ((H.out.blk 2 rfl).part 3 _ rfl) ?_))
                      refine (HG.out _).mono ?_; rintro e w6 ⟨rfl, hb6⟩
                      replace H := Lib.hid (H.out.bel hb6); (try simp only [List.set_cons_zero, List.set_cons_succ, List.cons_append, List.nil_append, List.eraseIdx_cons_zero, List.eraseIdx_cons_succ, List.setIfInBounds_toArray, World.size_alloc, selR, List.getD_cons_zero, List.getD_cons_succ] at H)
                      clear hb6 HG
                      cases ok with
                      | true =>
                        have HR2 : Hid (crow C1 0 ys = crow ⟨⟨ds.map Dm.con, ms⟩, fa, u1, u2, P1, Q1, P2, Q2⟩ (0 + 1) (ys.drop (0 + 1))) := by
                          show _ = _
                          rw [HRI.out, drop_get HYV.out, crow_step (by rw [HU.out]), HU.out]
                        have hI2 : Hid (I64 u1 ∧ I64 u2 ∧ I64 P1 ∧ I64 Q1 ∧ I64 P2 ∧ I64 Q2) := ⟨hu.1, hu.2, hI.out.2.2.1, hI.out.2.2.2.1, hI.out.2.2.2.2.1, hI.out.2.2.2.2.2⟩
                        clear HRI HU
                        go_wp2_with ((with_reducible show wpList _ _ _ (⟨_, .store _ (.tmp 71) _, _, _, _, _⟩ :: _) _ _); refine wpList_store_at rfl rowTt (.tmp 71) (.tmp 68) rfl z 3 rfl (H.out.blk 2 rfl) #[.int .i64 u1, .int .i64 u2] rfl (by simp) rfl (by simp [Value.oneCell']) ?_; intro wq bq hgq; replace bq : Blk wq z 30 #[.slice B m d, .slice MB mm md, .int .i64 fa, .int .i64 u1, .int .i64 u2, .int .i64 P1, .int .i64 Q1, .int .i64 P2, .int .i64 Q2] := bq; replace H := Lib.hid (H.out.setBlk 2 rfl hgq bq); (try simp only [List.set_cons_zero, List.set_cons_succ, List.cons_append, List.nil_append, List.eraseIdx_cons_zero, List.eraseIdx_cons_succ, List.setIfInBounds_toArray, World.size_alloc, selR, List.getD_cons_zero, List.getD_cons_succ] at H); clear hgq bq)
                        go_roundg (mn - (0 + 1))
                        case rel => exact ⟨0 + 1, u1, u2, P1, Q1, P2, Q2, true, rfl, by omega, rfl, rfl, H, HR2, hI2⟩
                        case measure => rw [Hgj.out]; omega
                      | false =>
                        have HO3 : Hid (O = (CC.nil, 12)) := by
                          show _ = _
                          refine (HOR.out (CC.nil, 12) (HRR0.out.trans ?_)).symm.trans (cfin_bad (by decide))
                          rw [drop_get HYK.out]
                          refine crows_over HYL.out ?_
                          rw [HRI.out, drop_get HYV.out]
                          exact crow_none (by rw [HU.out])
                        go_wp2_with (first | ((with_reducible show wpList _ _ _ (⟨_, .store _ (.tmp 71) _, _, _, _, _⟩ :: _) _ _); refine wpList_store_at rfl rowTt (.tmp 71) (.tmp 68) rfl z 3 rfl (H.out.blk 2 rfl) #[.int .i64 u1, .int .i64 u2] rfl (by simp) rfl (by simp [Value.oneCell']) ?_; intro wq bq hgq; replace bq : Blk wq z 30 #[.slice B m d, .slice MB mm md, .int .i64 fa, .int .i64 u1, .int .i64 u2, .int .i64 P1, .int .i64 Q1, .int .i64 P2, .int .i64 Q2] := bq; replace H := Lib.hid (H.out.setBlk 2 rfl hgq bq); (try simp only [List.set_cons_zero, List.set_cons_succ, List.cons_append, List.nil_append, List.eraseIdx_cons_zero, List.eraseIdx_cons_succ, List.setIfInBounds_toArray, World.size_alloc, selR, List.getD_cons_zero, List.getD_cons_succ] at H); clear hgq bq) | ((with_reducible show wpList _ _ _ (⟨_, .store _ (.tmp 4) _, _, _, _, _⟩ :: _) _ _); (refine wpList_store_blk rfl rowCt (.tmp 4) (.tmp 74) rfl _ rfl (H.out.blk 1 rfl) rfl (#[.slice none 0 0, .slice none 0 0, .int .i64 0, .int .i64 0, .int .i64 0, .int .i64 0, .int .i64 0, .int .i64 0, .int .i64 0]) rfl rfl (by simp [Value.oneCell']) ?_; intro wq bq hgq; replace H := Lib.hid (H.out.setBlk 1 rfl hgq bq); (try simp only [List.set_cons_zero, List.set_cons_succ, List.cons_append, List.nil_append, List.eraseIdx_cons_zero, List.eraseIdx_cons_succ, List.setIfInBounds_toArray, World.size_alloc, selR, List.getD_cons_zero, List.getD_cons_succ] at H); clear hgq bq)))
                        refine bodyPost_ret (results_blk rfl rowCt rfl (H.out.blk 1 rfl) rfl) rfl ?_
                        rw [HO3.out]
                        exact catPost2_nil H.out.to
                    · rw [show ((1 : Nat) : Int) = 1 from rfl]
                      have hu := egrow_i64 (v := v) (hI.out.2.2.1) (hI.out.2.2.2.1)
                      have HG := Lib.hid (fun w => egrow_any P1 Q1 v w (hI.out.2.2.1) (hI.out.2.2.2.1) HV.out)
                      have HU : Hid (cupd ⟨⟨ds.map Dm.con, ms⟩, fa, P0, Q0, P1, Q1, P2, Q2⟩ 1 v = (⟨⟨ds.map Dm.con, ms⟩, fa, P0, Q0, (egrow P1 Q1 v).1.1, (egrow P1 Q1 v).1.2, P2, Q2⟩, (egrow P1 Q1 v).2)) := rfl
                      generalize egrow P1 Q1 v = G at *
                      obtain ⟨⟨u1, u2⟩, ok⟩ := G
                      simp only at HG HU hu
                      go_wp2_with ((with_reducible show wpList _ _ _ (⟨some 65, _, _, _, _, _⟩ :: _) _ _); (refine wpList_load_row_at rfl rowTt (.tmp 64) rfl z (5) rfl #[.int .i64 P1, .int .i64 Q1] rfl ((H.out.blk 2 rfl).part 5 _ rfl) ?_))
                      refine (HG.out _).mono ?_; rintro e w6 ⟨rfl, hb6⟩
                      replace H := Lib.hid (H.out.bel hb6); (try simp only [List.set_cons_zero, List.set_cons_succ, List.cons_append, List.nil_append, List.eraseIdx_cons_zero, List.eraseIdx_cons_succ, List.setIfInBounds_toArray, World.size_alloc, selR, List.getD_cons_zero, List.getD_cons_succ] at H)
                      clear hb6 HG
                      cases ok with
                      | true =>
                        have HR2 : Hid (crow C1 0 ys = crow ⟨⟨ds.map Dm.con, ms⟩, fa, P0, Q0, u1, u2, P2, Q2⟩ (1 + 1) (ys.drop (1 + 1))) := by
                          show _ = _
                          rw [HRI.out, drop_get HYV.out, crow_step (by rw [HU.out]), HU.out]
                        have hI2 : Hid (I64 P0 ∧ I64 Q0 ∧ I64 u1 ∧ I64 u2 ∧ I64 P2 ∧ I64 Q2) := ⟨hI.out.1, hI.out.2.1, hu.1, hu.2, hI.out.2.2.2.2.1, hI.out.2.2.2.2.2⟩
                        clear HRI HU
                        go_wp2_with ((with_reducible show wpList _ _ _ (⟨_, .store _ (.tmp 71) _, _, _, _, _⟩ :: _) _ _); refine wpList_store_at rfl rowTt (.tmp 71) (.tmp 68) rfl z 5 rfl (H.out.blk 2 rfl) #[.int .i64 u1, .int .i64 u2] rfl (by simp) rfl (by simp [Value.oneCell']) ?_; intro wq bq hgq; replace bq : Blk wq z 30 #[.slice B m d, .slice MB mm md, .int .i64 fa, .int .i64 P0, .int .i64 Q0, .int .i64 u1, .int .i64 u2, .int .i64 P2, .int .i64 Q2] := bq; replace H := Lib.hid (H.out.setBlk 2 rfl hgq bq); (try simp only [List.set_cons_zero, List.set_cons_succ, List.cons_append, List.nil_append, List.eraseIdx_cons_zero, List.eraseIdx_cons_succ, List.setIfInBounds_toArray, World.size_alloc, selR, List.getD_cons_zero, List.getD_cons_succ] at H); clear hgq bq)
                        go_roundg (mn - (1 + 1))
                        case rel => exact ⟨1 + 1, P0, Q0, u1, u2, P2, Q2, true, rfl, by omega, rfl, rfl, H, HR2, hI2⟩
                        case measure => rw [Hgj.out]; omega
                      | false =>
                        have HO3 : Hid (O = (CC.nil, 12)) := by
                          show _ = _
                          refine (HOR.out (CC.nil, 12) (HRR0.out.trans ?_)).symm.trans (cfin_bad (by decide))
                          rw [drop_get HYK.out]
                          refine crows_over HYL.out ?_
                          rw [HRI.out, drop_get HYV.out]
                          exact crow_none (by rw [HU.out])
                        go_wp2_with (first | ((with_reducible show wpList _ _ _ (⟨_, .store _ (.tmp 71) _, _, _, _, _⟩ :: _) _ _); refine wpList_store_at rfl rowTt (.tmp 71) (.tmp 68) rfl z 5 rfl (H.out.blk 2 rfl) #[.int .i64 u1, .int .i64 u2] rfl (by simp) rfl (by simp [Value.oneCell']) ?_; intro wq bq hgq; replace bq : Blk wq z 30 #[.slice B m d, .slice MB mm md, .int .i64 fa, .int .i64 P0, .int .i64 Q0, .int .i64 u1, .int .i64 u2, .int .i64 P2, .int .i64 Q2] := bq; replace H := Lib.hid (H.out.setBlk 2 rfl hgq bq); (try simp only [List.set_cons_zero, List.set_cons_succ, List.cons_append, List.nil_append, List.eraseIdx_cons_zero, List.eraseIdx_cons_succ, List.setIfInBounds_toArray, World.size_alloc, selR, List.getD_cons_zero, List.getD_cons_succ] at H); clear hgq bq) | ((with_reducible show wpList _ _ _ (⟨_, .store _ (.tmp 4) _, _, _, _, _⟩ :: _) _ _); (refine wpList_store_blk rfl rowCt (.tmp 4) (.tmp 74) rfl _ rfl (H.out.blk 1 rfl) rfl (#[.slice none 0 0, .slice none 0 0, .int .i64 0, .int .i64 0, .int .i64 0, .int .i64 0, .int .i64 0, .int .i64 0, .int .i64 0]) rfl rfl (by simp [Value.oneCell']) ?_; intro wq bq hgq; replace H := Lib.hid (H.out.setBlk 1 rfl hgq bq); (try simp only [List.set_cons_zero, List.set_cons_succ, List.cons_append, List.nil_append, List.eraseIdx_cons_zero, List.eraseIdx_cons_succ, List.setIfInBounds_toArray, World.size_alloc, selR, List.getD_cons_zero, List.getD_cons_succ] at H); clear hgq bq)))
                        refine bodyPost_ret (results_blk rfl rowCt rfl (H.out.blk 1 rfl) rfl) rfl ?_
                        rw [HO3.out]
                        exact catPost2_nil H.out.to
                    · rw [show ((2 : Nat) : Int) = 2 from rfl]
                      have hu := egrow_i64 (v := v) (hI.out.2.2.2.2.1) (hI.out.2.2.2.2.2)
                      have HG := Lib.hid (fun w => egrow_any P2 Q2 v w (hI.out.2.2.2.2.1) (hI.out.2.2.2.2.2) HV.out)
                      have HU : Hid (cupd ⟨⟨ds.map Dm.con, ms⟩, fa, P0, Q0, P1, Q1, P2, Q2⟩ 2 v = (⟨⟨ds.map Dm.con, ms⟩, fa, P0, Q0, P1, Q1, (egrow P2 Q2 v).1.1, (egrow P2 Q2 v).1.2⟩, (egrow P2 Q2 v).2)) := rfl
                      generalize egrow P2 Q2 v = G at *
                      obtain ⟨⟨u1, u2⟩, ok⟩ := G
                      simp only at HG HU hu
                      go_wp2_with ((with_reducible show wpList _ _ _ (⟨some 65, _, _, _, _, _⟩ :: _) _ _); (refine wpList_load_row_at rfl rowTt (.tmp 64) rfl z (7) rfl #[.int .i64 P2, .int .i64 Q2] rfl ((H.out.blk 2 rfl).part 7 _ rfl) ?_))
                      refine (HG.out _).mono ?_; rintro e w6 ⟨rfl, hb6⟩
                      replace H := Lib.hid (H.out.bel hb6); (try simp only [List.set_cons_zero, List.set_cons_succ, List.cons_append, List.nil_append, List.eraseIdx_cons_zero, List.eraseIdx_cons_succ, List.setIfInBounds_toArray, World.size_alloc, selR, List.getD_cons_zero, List.getD_cons_succ] at H)
                      clear hb6 HG
                      cases ok with
                      | true =>
                        have HR2 : Hid (crow C1 0 ys = crow ⟨⟨ds.map Dm.con, ms⟩, fa, P0, Q0, P1, Q1, u1, u2⟩ (2 + 1) (ys.drop (2 + 1))) := by
                          show _ = _
                          rw [HRI.out, drop_get HYV.out, crow_step (by rw [HU.out]), HU.out]
                        have hI2 : Hid (I64 P0 ∧ I64 Q0 ∧ I64 P1 ∧ I64 Q1 ∧ I64 u1 ∧ I64 u2) := ⟨hI.out.1, hI.out.2.1, hI.out.2.2.1, hI.out.2.2.2.1, hu.1, hu.2⟩
                        clear HRI HU
                        go_wp2_with ((with_reducible show wpList _ _ _ (⟨_, .store _ (.tmp 71) _, _, _, _, _⟩ :: _) _ _); refine wpList_store_at rfl rowTt (.tmp 71) (.tmp 68) rfl z 7 rfl (H.out.blk 2 rfl) #[.int .i64 u1, .int .i64 u2] rfl (by simp) rfl (by simp [Value.oneCell']) ?_; intro wq bq hgq; replace bq : Blk wq z 30 #[.slice B m d, .slice MB mm md, .int .i64 fa, .int .i64 P0, .int .i64 Q0, .int .i64 P1, .int .i64 Q1, .int .i64 u1, .int .i64 u2] := bq; replace H := Lib.hid (H.out.setBlk 2 rfl hgq bq); (try simp only [List.set_cons_zero, List.set_cons_succ, List.cons_append, List.nil_append, List.eraseIdx_cons_zero, List.eraseIdx_cons_succ, List.setIfInBounds_toArray, World.size_alloc, selR, List.getD_cons_zero, List.getD_cons_succ] at H); clear hgq bq)
                        go_roundg (mn - (2 + 1))
                        case rel => exact ⟨2 + 1, P0, Q0, P1, Q1, u1, u2, true, rfl, by omega, rfl, rfl, H, HR2, hI2⟩
                        case measure => rw [Hgj.out]; omega
                      | false =>
                        have HO3 : Hid (O = (CC.nil, 12)) := by
                          show _ = _
                          refine (HOR.out (CC.nil, 12) (HRR0.out.trans ?_)).symm.trans (cfin_bad (by decide))
                          rw [drop_get HYK.out]
                          refine crows_over HYL.out ?_
                          rw [HRI.out, drop_get HYV.out]
                          exact crow_none (by rw [HU.out])
                        go_wp2_with (first | ((with_reducible show wpList _ _ _ (⟨_, .store _ (.tmp 71) _, _, _, _, _⟩ :: _) _ _); refine wpList_store_at rfl rowTt (.tmp 71) (.tmp 68) rfl z 7 rfl (H.out.blk 2 rfl) #[.int .i64 u1, .int .i64 u2] rfl (by simp) rfl (by simp [Value.oneCell']) ?_; intro wq bq hgq; replace bq : Blk wq z 30 #[.slice B m d, .slice MB mm md, .int .i64 fa, .int .i64 P0, .int .i64 Q0, .int .i64 P1, .int .i64 Q1, .int .i64 u1, .int .i64 u2] := bq; replace H := Lib.hid (H.out.setBlk 2 rfl hgq bq); (try simp only [List.set_cons_zero, List.set_cons_succ, List.cons_append, List.nil_append, List.eraseIdx_cons_zero, List.eraseIdx_cons_succ, List.setIfInBounds_toArray, World.size_alloc, selR, List.getD_cons_zero, List.getD_cons_succ] at H); clear hgq bq) | ((with_reducible show wpList _ _ _ (⟨_, .store _ (.tmp 4) _, _, _, _, _⟩ :: _) _ _); (refine wpList_store_blk rfl rowCt (.tmp 4) (.tmp 74) rfl _ rfl (H.out.blk 1 rfl) rfl (#[.slice none 0 0, .slice none 0 0, .int .i64 0, .int .i64 0, .int .i64 0, .int .i64 0, .int .i64 0, .int .i64 0, .int .i64 0]) rfl rfl (by simp [Value.oneCell']) ?_; intro wq bq hgq; replace H := Lib.hid (H.out.setBlk 1 rfl hgq bq); (try simp only [List.set_cons_zero, List.set_cons_succ, List.cons_append, List.nil_append, List.eraseIdx_cons_zero, List.eraseIdx_cons_succ, List.setIfInBounds_toArray, World.size_alloc, selR, List.getD_cons_zero, List.getD_cons_succ] at H); clear hgq bq)))
                        refine bodyPost_ret (results_blk rfl rowCt rfl (H.out.blk 1 rfl) rfl) rfl ?_
                        rw [HO3.out]
                        exact catPost2_nil H.out.to
                  · obtain rfl : j = mn := by omega
                    have HRR2 : Hid (crows j ⟨⟨ds.map Dm.con, ms⟩, fa, p0, q0, p1, q1, p2, q2⟩ (rs.map (·.l)) = crows j ⟨⟨ds.map Dm.con, ms⟩, fa, P0, Q0, P1, Q1, P2, Q2⟩ ((rs.map (·.l)).drop (k + 1))) := by
                      show _ = _
                      rw [HRR0.out, drop_get HYK.out]
                      refine crows_ok (HYL.out) ?_
                      rw [HRI.out, List.drop_of_length_le (by have := HYL.out; omega)]
                      rfl
                    clear HRR0 HRI
                    go_wp2_with fail
                    go_roundg (rn - (k + 1))
                    case rel => exact ⟨k + 1, P0, Q0, P1, Q1, P2, Q2, ob, rfl, by omega, rfl, by go_num, H, HRR2, hI⟩
                    case measure => rw [Hgk.out]; omega
              · have e1 : (((yn : Nat) : Int) != mn) = true := by simp; omega
                have HO3 : Hid (O = (CC.nil, 2)) := by
                  show _ = _
                  refine (HOR.out (CC.nil, 2) (HRR.out.trans ?_)).symm.trans (cfin_bad (by decide))
                  rw [drop_get HYK.out]
                  exact crows_bad (by have := HYL.out; omega)
                clear hyn
                go_wp2_with ((with_reducible show wpList _ _ _ (⟨_, .store _ (.tmp 4) _, _, _, _, _⟩ :: _) _ _); (refine wpList_store_blk rfl rowCt (.tmp 4) (.tmp 52) rfl _ rfl (H.out.blk 1 rfl) rfl (#[.slice none 0 0, .slice none 0 0, .int .i64 0, .int .i64 0, .int .i64 0, .int .i64 0, .int .i64 0, .int .i64 0, .int .i64 0]) rfl rfl (by simp [Value.oneCell']) ?_; intro wq bq hgq; replace H := Lib.hid (H.out.setBlk 1 rfl hgq bq); (try simp only [List.set_cons_zero, List.set_cons_succ, List.cons_append, List.nil_append, List.eraseIdx_cons_zero, List.eraseIdx_cons_succ, List.setIfInBounds_toArray, World.size_alloc, selR, List.getD_cons_zero, List.getD_cons_succ] at H); clear hgq bq))
                refine bodyPost_ret (results_blk rfl rowCt rfl (H.out.blk 1 rfl) rfl) rfl ?_
                rw [HO3.out]
                exact catPost2_nil H.out.to
            · obtain rfl : k = rn := by omega
              have HO3 : Hid (O = (⟨⟨ds.map Dm.con, ms⟩, fa + k, P0, Q0, P1, Q1, P2, Q2⟩, 0)) := by
                show _ = _
                refine (HOR.out (⟨⟨ds.map Dm.con, ms⟩, fa, P0, Q0, P1, Q1, P2, Q2⟩, 0) (HRR.out.trans ?_)).symm.trans ?_
                · rw [List.drop_of_length_le (by rw [List.length_map, hrl.out]; omega)]
                  rfl
                · rfl
              clear HRR
              have cz2 := (H.out.blk 2 rfl).cell 2; simp only [List.getElem?_toArray, List.getElem?_cons_zero, List.getElem?_cons_succ] at cz2; have fz2 := (H.out.blk 2 rfl).frozen 2
              go_wp2_with (first | ((with_reducible show wpList _ _ _ (⟨some 83, _, _, _, _, _⟩ :: _) _ _); replace H := Lib.hid (H.out.setCell 2 rfl 2 (.int .i64 (fa + k))); (try simp only [List.set_cons_zero, List.set_cons_succ, List.cons_append, List.nil_append, List.eraseIdx_cons_zero, List.eraseIdx_cons_succ, List.setIfInBounds_toArray, World.size_alloc, selR, List.getD_cons_zero, List.getD_cons_succ] at H); clear cz2 fz2; refine wpList_load_blk rfl rowCt (.tmp 7) rfl _ rfl (H.out.blk 2 rfl) rfl ?_) | ((with_reducible show wpList _ _ _ (⟨_, .store _ (.tmp 4) _, _, _, _, _⟩ :: _) _ _); (refine wpList_store_blk rfl rowCt (.tmp 4) (.tmp 83) rfl _ rfl (H.out.blk 1 rfl) rfl (#[.slice B m d, .slice MB mm md, .int .i64 (fa + k), .int .i64 P0, .int .i64 Q0, .int .i64 P1, .int .i64 Q1, .int .i64 P2, .int .i64 Q2]) rfl rfl (by simp [Value.oneCell']) ?_; intro wq bq hgq; replace H := Lib.hid (H.out.setBlk 1 rfl hgq bq); (try simp only [List.set_cons_zero, List.set_cons_succ, List.cons_append, List.nil_append, List.eraseIdx_cons_zero, List.eraseIdx_cons_succ, List.setIfInBounds_toArray, World.size_alloc, selR, List.getD_cons_zero, List.getD_cons_succ] at H); clear hgq bq)))
              refine bodyPost_ret (results_blk rfl rowCt rfl (H.out.blk 1 rfl) rfl) rfl ?_
              rw [HO3.out]
              exact ⟨⟨⟨⟨B, m, d, es⟩, ⟨MB, mm, md, mt⟩⟩, fa + k, P0, Q0, P1, Q1, P2, Q2⟩, rfl, congrArg (fun s => (⟨s, fa + k, P0, Q0, P1, Q1, P2, Q2⟩ : CC)) HDC.out, ⟨(H.out.at_ 3 rfl).rd, by show _ ≤ fa + (k : Int) ∧ fa + (k : Int) ≤ _; omega, hI.out.1, hI.out.2.1, hI.out.2.2.1, hI.out.2.2.2.1, hI.out.2.2.2.2.1, hI.out.2.2.2.2.2⟩, small_of_own (H.out.at_ 3 rfl), H.out.to, H.out.get 3 rfl, H.out.new 3 rfl⟩
      · go_simp
        replace H := Lib.hid (H.out.alloc #[.slice none 0 0, .slice none 0 0, .int .i64 0, .int .i64 0, .int .i64 0, .int .i64 0, .int .i64 0, .int .i64 0, .int .i64 0] 30); (try simp only [List.set_cons_zero, List.set_cons_succ, List.cons_append, List.nil_append, List.eraseIdx_cons_zero, List.eraseIdx_cons_succ, List.setIfInBounds_toArray, World.size_alloc, selR, List.getD_cons_zero, List.getD_cons_succ] at H)
        refine hKK.out _ _ (by exact ⟨(H.out.blk 0 rfl).cell 0, (H.out.blk 0 rfl).cell 1, (H.out.blk 0 rfl).cell 2, (H.out.blk 0 rfl).cell 3, (H.out.blk 0 rfl).cell 4, (H.out.blk 0 rfl).cell 5, (H.out.blk 0 rfl).cell 6, (H.out.blk 0 rfl).cell 7, (H.out.blk 0 rfl).cell 8⟩) (fun hHeld => ?_)
        clear hKK KK
        try simp only [Act.put, List.setIfInBounds_toArray, List.set_cons_zero, List.set_cons_succ]
        refine wpAnyH_ready (rs := [2]) (by kernel_rfl) (by simp) ?_
        refine (AllReadyH.cons (get_os (get_os (get_o0))) (fun KK hKK => ?_) AllReadyH.nil)
        go_simp
        refine (HK.out _ H.out.to).mono ?_; rintro e w3 ⟨D, rfl, hD, hb3, hN⟩
        replace H := Lib.hid (H.out.add hb3 _ hN.1 hN.2); (try simp only [List.set_cons_zero, List.set_cons_succ, List.cons_append, List.nil_append, List.eraseIdx_cons_zero, List.eraseIdx_cons_succ, List.setIfInBounds_toArray, World.size_alloc, selR, List.getD_cons_zero, List.getD_cons_succ] at H)
        have HDC := Lib.hid hD
        clear hN hD hb3
        obtain ⟨⟨B, m, d, es⟩, ⟨MB, mm, md, mt⟩⟩ := D
        simp only [Sch.cs, Sch.con] at *
        have hbd : ∀ w : World, (Instr.build 30 #[(0, .agg #[.slice B m d, .slice MB mm md]), (1, .int .i64 fa), (2, .agg #[.int .i64 p0, .int .i64 q0, .int .i64 p1, .int .i64 q1, .int .i64 p2, .int .i64 q2])]).run Try.prog w = .ok (.agg #[.slice B m d, .slice MB mm md, .int .i64 fa, .int .i64 p0, .int .i64 q0, .int .i64 p1, .int .i64 q1, .int .i64 p2, .int .i64 q2]) w := fun _ => by kernel_rfl
        refine hKK.out _ _ (by exact ⟨(H.out.blk 0 rfl).cell 0, (H.out.blk 0 rfl).cell 1, (H.out.blk 0 rfl).cell 2, (H.out.blk 0 rfl).cell 3, (H.out.blk 0 rfl).cell 4, (H.out.blk 0 rfl).cell 5, (H.out.blk 0 rfl).cell 6, (H.out.blk 0 rfl).cell 7, (H.out.blk 0 rfl).cell 8⟩) (fun hHeld => ?_)
        clear hKK KK
        try simp only [Act.put, List.setIfInBounds_toArray, List.set_cons_zero, List.set_cons_succ]
        refine wpAnyH_ready (rs := [7]) (by kernel_rfl) (by simp) ?_
        refine (AllReadyH.cons (get_os (get_os (get_os (get_os (get_os (get_os (get_os (get_o0)))))))) (fun KK hKK => ?_) AllReadyH.nil)
        go_simp
        refine hKK.out _ _ (by exact ⟨(H.out.blk 0 rfl).cell 0, (H.out.blk 0 rfl).cell 1, (H.out.blk 0 rfl).cell 2, (H.out.blk 0 rfl).cell 3, (H.out.blk 0 rfl).cell 4, (H.out.blk 0 rfl).cell 5, (H.out.blk 0 rfl).cell 6, (H.out.blk 0 rfl).cell 7, (H.out.blk 0 rfl).cell 8⟩) (fun hHeld => ?_)
        clear hKK KK
        try simp only [Act.put, List.setIfInBounds_toArray, List.set_cons_zero, List.set_cons_succ]
        refine wpAnyH_ready (rs := [9]) (by kernel_rfl) (by simp) ?_
        refine (AllReadyH.cons (get_os (get_os (get_os (get_os (get_os (get_os (get_os (get_os (get_os (get_o0)))))))))) (fun KK hKK => ?_) AllReadyH.nil)
        have hdz : w2.drew.heap.size = w2.heap.size := rfl
        rw [hdz] at H
        clear hdz
        generalize w2.heap.size = z at *
        refine step_store_blk rfl rowCt (.tmp 7) (.tmp 33) rfl _ rfl (H.out.blk 2 rfl) rfl (#[.slice B m d, .slice MB mm md, .int .i64 fa, .int .i64 p0, .int .i64 q0, .int .i64 p1, .int .i64 q1, .int .i64 p2, .int .i64 q2]) rfl rfl (by simp [Value.oneCell']) ?_
        intro wq bq hgq
        replace H := Lib.hid (H.out.setBlk 2 rfl hgq bq); (try simp only [List.set_cons_zero, List.set_cons_succ, List.cons_append, List.nil_append, List.eraseIdx_cons_zero, List.eraseIdx_cons_succ, List.setIfInBounds_toArray, World.size_alloc, selR, List.getD_cons_zero, List.getD_cons_succ] at H)
        clear hgq bq
        refine hKK.out _ _ (by exact ⟨(H.out.blk 0 rfl).cell 0, (H.out.blk 0 rfl).cell 1, (H.out.blk 0 rfl).cell 2, (H.out.blk 0 rfl).cell 3, (H.out.blk 0 rfl).cell 4, (H.out.blk 0 rfl).cell 5, (H.out.blk 0 rfl).cell 6, (H.out.blk 0 rfl).cell 7, (H.out.blk 0 rfl).cell 8⟩) (fun hHeld => ?_)
        clear hKK KK
        try simp only [Act.put, List.setIfInBounds_toArray, List.set_cons_zero, List.set_cons_succ]
        refine wpAnyH_done (by kernel_rfl) ?_ _
        clear hHeld
        skip
        go_wp2_with fail
        have HOR : Hid (∀ o, crows mn ⟨⟨ds.map Dm.con, ms⟩, fa, p0, q0, p1, q1, p2, q2⟩ (rs.map (·.l)) = o → cfin rn o = O) := fun o ho => by rw [HO4.out, ho]
        have HRR : Hid (crows mn ⟨⟨ds.map Dm.con, ms⟩, fa, p0, q0, p1, q1, p2, q2⟩ (rs.map (·.l)) = crows mn ⟨⟨ds.map Dm.con, ms⟩, fa, p0, q0, p1, q1, p2, q2⟩ ((rs.map (·.l)).drop 0)) := rfl
        clear HO4
        go_loopg [8, 36] rn (fun gg s8 i wr => ∃ (k : Nat) (P0 Q0 P1 Q1 P2 Q2 : Int) (ob : Bool), gg = rn - k ∧ k ≤ rn ∧ s8 = .bool ob ∧ i = .int .i64 k ∧ Hid (SL No w wr [rBlk x 30 #[.slice A n c, .slice MA mn mc, .int .i64 fa, .int .i64 p0, .int .i64 q0, .int .i64 p1, .int .i64 q1, .int .i64 p2, .int .i64 q2], rBlk y 30 #[.slice none 0 0, .slice none 0 0, .int .i64 0, .int .i64 0, .int .i64 0, .int .i64 0, .int .i64 0, .int .i64 0, .int .i64 0], rBlk z 30 #[.slice B m d, .slice MB mm md, .int .i64 fa, .int .i64 P0, .int .i64 Q0, .int .i64 P1, .int .i64 Q1, .int .i64 P2, .int .i64 Q2], rSch ⟨⟨B, m, d, es⟩, ⟨MB, mm, md, mt⟩⟩]) ∧ Hid (crows mn ⟨⟨ds.map Dm.con, ms⟩, fa, p0, q0, p1, q1, p2, q2⟩ (rs.map (·.l)) = crows mn ⟨⟨ds.map Dm.con, ms⟩, fa, P0, Q0, P1, Q1, P2, Q2⟩ ((rs.map (·.l)).drop k)) ∧ Hid (I64 P0 ∧ I64 Q0 ∧ I64 P1 ∧ I64 Q1 ∧ I64 P2 ∧ I64 Q2))
        case atStart => exact ⟨0, p0, q0, p1, q1, p2, q2, true, rfl, by omega, rfl, rfl, H, HRR, HI0⟩
        case round =>
          clear H HRR HI0
          obtain ⟨k, P0, Q0, P1, Q1, P2, Q2, ob, hgk, hk, rfl, rfl, H, HRR, hI⟩ := hrel
          have Hgk := Lib.hid hgk
          clear hgk
          by_cases hlt : k < rn
          · obtain ⟨bb, oo, yr, hA, hyk, hyok, q1'⟩ := (HRW.out.mono H.out.to).slRow (k := k) hlt
            simp only at hA
            subst hA
            have HYK : Hid ((rs.map (·.l))[k]? = some yr.l) := by show _ = _; rw [List.getElem?_map, hyk]; rfl
            have HYR := Lib.hid (fun w' (hb : Bel w w') => (HRA.out yr (List.mem_of_getElem? hyk) w' hb))
            have HYL : Hid (yr.l.length = yr.n) := hyok.rds.len
            have y63 := hyok.rds.n63
            have i0 : (0 : Int) ≤ k := by omega
            have i1 : (k : Int) < rn := by omega
            clear hyk hyok
            obtain ⟨YA, yn, yc, ys⟩ := yr
            simp only at *
            have cm0 := (H.out.blk 0 rfl).cell 1; simp only [List.getElem?_toArray, List.getElem?_cons_zero, List.getElem?_cons_succ] at cm0
            by_cases hyn : yn = mn
            · obtain rfl : mn = yn := hyn.symm
              have e1 : (((mn : Nat) : Int) != mn) = false := by simp
              have e2 : decide ((3 : Int) < mn) = false := by simp <;> omega
              go_wp2_with fail
              clear cm0 e1 e2 q1'
              have HRI : Hid (crow ⟨⟨ds.map Dm.con, ms⟩, fa, P0, Q0, P1, Q1, P2, Q2⟩ 0 ys = crow ⟨⟨ds.map Dm.con, ms⟩, fa, P0, Q0, P1, Q1, P2, Q2⟩ 0 (ys.drop 0)) := rfl
              have hI0 := hI
              have HRR0 := HRR
              clear hI HRR
              generalize hC1 : (⟨⟨ds.map Dm.con, ms⟩, fa, P0, Q0, P1, Q1, P2, Q2⟩ : CC) = C1 at HRR0 HRI
              have HC1 := Lib.hid hC1
              clear hC1
              replace HRI : Hid (crow C1 0 ys = crow ⟨⟨ds.map Dm.con, ms⟩, fa, P0, Q0, P1, Q1, P2, Q2⟩ 0 (ys.drop 0)) := by show _ = _; rw [HC1.out]; exact HRI.out
              go_loopg [8, 55] mn (fun gg s8 i wr => ∃ (j : Nat) (P0 Q0 P1 Q1 P2 Q2 : Int) (ob : Bool), gg = mn - j ∧ j ≤ mn ∧ s8 = .bool ob ∧ i = .int .i64 j ∧ Hid (SL No w wr [rBlk x 30 #[.slice A n c, .slice MA mn mc, .int .i64 fa, .int .i64 p0, .int .i64 q0, .int .i64 p1, .int .i64 q1, .int .i64 p2, .int .i64 q2], rBlk y 30 #[.slice none 0 0, .slice none 0 0, .int .i64 0, .int .i64 0, .int .i64 0, .int .i64 0, .int .i64 0, .int .i64 0, .int .i64 0], rBlk z 30 #[.slice B m d, .slice MB mm md, .int .i64 fa, .int .i64 P0, .int .i64 Q0, .int .i64 P1, .int .i64 Q1, .int .i64 P2, .int .i64 Q2], rSch ⟨⟨B, m, d, es⟩, ⟨MB, mm, md, mt⟩⟩]) ∧ Hid (crow C1 0 ys = crow ⟨⟨ds.map Dm.con, ms⟩, fa, P0, Q0, P1, Q1, P2, Q2⟩ j (ys.drop j)) ∧ Hid (I64 P0 ∧ I64 Q0 ∧ I64 P1 ∧ I64 Q1 ∧ I64 P2 ∧ I64 Q2))
              case atStart => exact ⟨0, P0, Q0, P1, Q1, P2, Q2, ob, rfl, by omega, rfl, rfl, H, HRI, hI0⟩
              case round =>
                clear H HRI hI0 HC1
                obtain ⟨j, P0, Q0, P1, Q1, P2, Q2, ob, hgj, hj, rfl, rfl, H, HRI, hI⟩ := hrel
                have Hgj := Lib.hid hgj
                clear hgj
                by_cases hjlt : j < mn
                · obtain ⟨b2, o2, v, hA, hyv, hv, q2'⟩ := (HYR.out _ H.out.to).intAt (k := j) hjlt
                  simp only at hA
                  subst hA
                  have HYV := Lib.hid hyv
                  have HV := Lib.hid hv
                  clear hyv hv
                  have j0 : (0 : Int) ≤ j := by omega
                  have j1 : (j : Int) < mn := by omega
                  go_upto_region 16 with fail
                  clear q2'
                  obtain rfl | rfl | rfl : j = 0 ∨ j = 1 ∨ j = 2 := by omega
                  · rw [show ((0 : Nat) : Int) = 0 from rfl]
                    have hu := egrow_i64 (v := v) (hI.out.1) (hI.out.2.1)
                    have HG := Lib.hid (fun w => egrow_any P0 Q0 v w (hI.out.1) (hI.out.2.1) HV.out)
                    have HU : Hid (cupd ⟨⟨ds.map Dm.con, ms⟩, fa, P0, Q0, P1, Q1, P2, Q2⟩ 0 v = (⟨⟨ds.map Dm.con, ms⟩, fa, (egrow P0 Q0 v).1.1, (egrow P0 Q0 v).1.2, P1, Q1, P2, Q2⟩, (egrow P0 Q0 v).2)) := rfl
                    generalize egrow P0 Q0 v = G at *
                    obtain ⟨⟨u1, u2⟩, ok⟩ := G
                    simp only at HG HU hu
                    go_wp2_with ((with_reducible show wpList _ _ _ (⟨some 65, _, _, _, _, _⟩ :: _) _ _); (refine wpList_load_row_at rfl rowTt (.tmp 64) rfl z (3) rfl #[.int .i64 P0, .int .i64 Q0] rfl ((H.out.blk 2 rfl).part 3 _ rfl) ?_))
                    refine (HG.out _).mono ?_; rintro e w6 ⟨rfl, hb6⟩
                    replace H := Lib.hid (H.out.bel hb6); (try simp only [List.set_cons_zero, List.set_cons_succ, List.cons_append, List.nil_append, List.eraseIdx_cons_zero, List.eraseIdx_cons_succ, List.setIfInBounds_toArray, World.size_alloc, selR, List.getD_cons_zero, List.getD_cons_succ] at H)
                    clear hb6 HG
                    cases ok with
                    | true =>
                      have HR2 : Hid (crow C1 0 ys = crow ⟨⟨ds.map Dm.con, ms⟩, fa, u1, u2, P1, Q1, P2, Q2⟩ (0 + 1) (ys.drop (0 + 1))) := by
                        show _ = _
                        rw [HRI.out, drop_get HYV.out, crow_step (by rw [HU.out]), HU.out]
                      have hI2 : Hid (I64 u1 ∧ I64 u2 ∧ I64 P1 ∧ I64 Q1 ∧ I64 P2 ∧ I64 Q2) := ⟨hu.1, hu.2, hI.out.2.2.1, hI.out.2.2.2.1, hI.out.2.2.2.2.1, hI.out.2.2.2.2.2⟩
                      clear HRI HU
                      go_wp2_with ((with_reducible show wpList _ _ _ (⟨_, .store _ (.tmp 71) _, _, _, _, _⟩ :: _) _ _); refine wpList_store_at rfl rowTt (.tmp 71) (.tmp 68) rfl z 3 rfl (H.out.blk 2 rfl) #[.int .i64 u1, .int .i64 u2] rfl (by simp) rfl (by simp [Value.oneCell']) ?_; intro wq bq hgq; replace bq : Blk wq z 30 #[.slice B m d, .slice MB mm md, .int .i64 fa, .int .i64 u1, .int .i64 u2, .int .i64 P1, .int .i64 Q1, .int .i64 P2, .int .i64 Q2] := bq; replace H := Lib.hid (H.out.setBlk 2 rfl hgq bq); (try simp only [List.set_cons_zero, List.set_cons_succ, List.cons_append, List.nil_append, List.eraseIdx_cons_zero, List.eraseIdx_cons_succ, List.setIfInBounds_toArray, World.size_alloc, selR, List.getD_cons_zero, List.getD_cons_succ] at H); clear hgq bq)
                      go_roundg (mn - (0 + 1))
                      case rel => exact ⟨0 + 1, u1, u2, P1, Q1, P2, Q2, true, rfl, by omega, rfl, rfl, H, HR2, hI2⟩
                      case measure => rw [Hgj.out]; omega
                    | false =>
                      have HO3 : Hid (O = (CC.nil, 12)) := by
                        show _ = _
                        refine (HOR.out (CC.nil, 12) (HRR0.out.trans ?_)).symm.trans (cfin_bad (by decide))
                        rw [drop_get HYK.out]
                        refine crows_over HYL.out ?_
                        rw [HRI.out, drop_get HYV.out]
                        exact crow_none (by rw [HU.out])
                      go_wp2_with (first | ((with_reducible show wpList _ _ _ (⟨_, .store _ (.tmp 71) _, _, _, _, _⟩ :: _) _ _); refine wpList_store_at rfl rowTt (.tmp 71) (.tmp 68) rfl z 3 rfl (H.out.blk 2 rfl) #[.int .i64 u1, .int .i64 u2] rfl (by simp) rfl (by simp [Value.oneCell']) ?_; intro wq bq hgq; replace bq : Blk wq z 30 #[.slice B m d, .slice MB mm md, .int .i64 fa, .int .i64 u1, .int .i64 u2, .int .i64 P1, .int .i64 Q1, .int .i64 P2, .int .i64 Q2] := bq; replace H := Lib.hid (H.out.setBlk 2 rfl hgq bq); (try simp only [List.set_cons_zero, List.set_cons_succ, List.cons_append, List.nil_append, List.eraseIdx_cons_zero, List.eraseIdx_cons_succ, List.setIfInBounds_toArray, World.size_alloc, selR, List.getD_cons_zero, List.getD_cons_succ] at H); clear hgq bq) | ((with_reducible show wpList _ _ _ (⟨_, .store _ (.tmp 4) _, _, _, _, _⟩ :: _) _ _); (refine wpList_store_blk rfl rowCt (.tmp 4) (.tmp 74) rfl _ rfl (H.out.blk 1 rfl) rfl (#[.slice none 0 0, .slice none 0 0, .int .i64 0, .int .i64 0, .int .i64 0, .int .i64 0, .int .i64 0, .int .i64 0, .int .i64 0]) rfl rfl (by simp [Value.oneCell']) ?_; intro wq bq hgq; replace H := Lib.hid (H.out.setBlk 1 rfl hgq bq); (try simp only [List.set_cons_zero, List.set_cons_succ, List.cons_append, List.nil_append, List.eraseIdx_cons_zero, List.eraseIdx_cons_succ, List.setIfInBounds_toArray, World.size_alloc, selR, List.getD_cons_zero, List.getD_cons_succ] at H); clear hgq bq)))
                      refine bodyPost_ret (results_blk rfl rowCt rfl (H.out.blk 1 rfl) rfl) rfl ?_
                      rw [HO3.out]
                      exact catPost2_nil H.out.to
                  · rw [show ((1 : Nat) : Int) = 1 from rfl]
                    have hu := egrow_i64 (v := v) (hI.out.2.2.1) (hI.out.2.2.2.1)
                    have HG := Lib.hid (fun w => egrow_any P1 Q1 v w (hI.out.2.2.1) (hI.out.2.2.2.1) HV.out)
                    have HU : Hid (cupd ⟨⟨ds.map Dm.con, ms⟩, fa, P0, Q0, P1, Q1, P2, Q2⟩ 1 v = (⟨⟨ds.map Dm.con, ms⟩, fa, P0, Q0, (egrow P1 Q1 v).1.1, (egrow P1 Q1 v).1.2, P2, Q2⟩, (egrow P1 Q1 v).2)) := rfl
                    generalize egrow P1 Q1 v = G at *
                    obtain ⟨⟨u1, u2⟩, ok⟩ := G
                    simp only at HG HU hu
                    go_wp2_with ((with_reducible show wpList _ _ _ (⟨some 65, _, _, _, _, _⟩ :: _) _ _); (refine wpList_load_row_at rfl rowTt (.tmp 64) rfl z (5) rfl #[.int .i64 P1, .int .i64 Q1] rfl ((H.out.blk 2 rfl).part 5 _ rfl) ?_))
                    refine (HG.out _).mono ?_; rintro e w6 ⟨rfl, hb6⟩
                    replace H := Lib.hid (H.out.bel hb6); (try simp only [List.set_cons_zero, List.set_cons_succ, List.cons_append, List.nil_append, List.eraseIdx_cons_zero, List.eraseIdx_cons_succ, List.setIfInBounds_toArray, World.size_alloc, selR, List.getD_cons_zero, List.getD_cons_succ] at H)
                    clear hb6 HG
                    cases ok with
                    | true =>
                      have HR2 : Hid (crow C1 0 ys = crow ⟨⟨ds.map Dm.con, ms⟩, fa, P0, Q0, u1, u2, P2, Q2⟩ (1 + 1) (ys.drop (1 + 1))) := by
                        show _ = _
                        rw [HRI.out, drop_get HYV.out, crow_step (by rw [HU.out]), HU.out]
                      have hI2 : Hid (I64 P0 ∧ I64 Q0 ∧ I64 u1 ∧ I64 u2 ∧ I64 P2 ∧ I64 Q2) := ⟨hI.out.1, hI.out.2.1, hu.1, hu.2, hI.out.2.2.2.2.1, hI.out.2.2.2.2.2⟩
                      clear HRI HU
                      go_wp2_with ((with_reducible show wpList _ _ _ (⟨_, .store _ (.tmp 71) _, _, _, _, _⟩ :: _) _ _); refine wpList_store_at rfl rowTt (.tmp 71) (.tmp 68) rfl z 5 rfl (H.out.blk 2 rfl) #[.int .i64 u1, .int .i64 u2] rfl (by simp) rfl (by simp [Value.oneCell']) ?_; intro wq bq hgq; replace bq : Blk wq z 30 #[.slice B m d, .slice MB mm md, .int .i64 fa, .int .i64 P0, .int .i64 Q0, .int .i64 u1, .int .i64 u2, .int .i64 P2, .int .i64 Q2] := bq; replace H := Lib.hid (H.out.setBlk 2 rfl hgq bq); (try simp only [List.set_cons_zero, List.set_cons_succ, List.cons_append, List.nil_append, List.eraseIdx_cons_zero, List.eraseIdx_cons_succ, List.setIfInBounds_toArray, World.size_alloc, selR, List.getD_cons_zero, List.getD_cons_succ] at H); clear hgq bq)
                      go_roundg (mn - (1 + 1))
                      case rel => exact ⟨1 + 1, P0, Q0, u1, u2, P2, Q2, true, rfl, by omega, rfl, rfl, H, HR2, hI2⟩
                      case measure => rw [Hgj.out]; omega
                    | false =>
                      have HO3 : Hid (O = (CC.nil, 12)) := by
                        show _ = _
                        refine (HOR.out (CC.nil, 12) (HRR0.out.trans ?_)).symm.trans (cfin_bad (by decide))
                        rw [drop_get HYK.out]
                        refine crows_over HYL.out ?_
                        rw [HRI.out, drop_get HYV.out]
                        exact crow_none (by rw [HU.out])
                      go_wp2_with (first | ((with_reducible show wpList _ _ _ (⟨_, .store _ (.tmp 71) _, _, _, _, _⟩ :: _) _ _); refine wpList_store_at rfl rowTt (.tmp 71) (.tmp 68) rfl z 5 rfl (H.out.blk 2 rfl) #[.int .i64 u1, .int .i64 u2] rfl (by simp) rfl (by simp [Value.oneCell']) ?_; intro wq bq hgq; replace bq : Blk wq z 30 #[.slice B m d, .slice MB mm md, .int .i64 fa, .int .i64 P0, .int .i64 Q0, .int .i64 u1, .int .i64 u2, .int .i64 P2, .int .i64 Q2] := bq; replace H := Lib.hid (H.out.setBlk 2 rfl hgq bq); (try simp only [List.set_cons_zero, List.set_cons_succ, List.cons_append, List.nil_append, List.eraseIdx_cons_zero, List.eraseIdx_cons_succ, List.setIfInBounds_toArray, World.size_alloc, selR, List.getD_cons_zero, List.getD_cons_succ] at H); clear hgq bq) | ((with_reducible show wpList _ _ _ (⟨_, .store _ (.tmp 4) _, _, _, _, _⟩ :: _) _ _); (refine wpList_store_blk rfl rowCt (.tmp 4) (.tmp 74) rfl _ rfl (H.out.blk 1 rfl) rfl (#[.slice none 0 0, .slice none 0 0, .int .i64 0, .int .i64 0, .int .i64 0, .int .i64 0, .int .i64 0, .int .i64 0, .int .i64 0]) rfl rfl (by simp [Value.oneCell']) ?_; intro wq bq hgq; replace H := Lib.hid (H.out.setBlk 1 rfl hgq bq); (try simp only [List.set_cons_zero, List.set_cons_succ, List.cons_append, List.nil_append, List.eraseIdx_cons_zero, List.eraseIdx_cons_succ, List.setIfInBounds_toArray, World.size_alloc, selR, List.getD_cons_zero, List.getD_cons_succ] at H); clear hgq bq)))
                      refine bodyPost_ret (results_blk rfl rowCt rfl (H.out.blk 1 rfl) rfl) rfl ?_
                      rw [HO3.out]
                      exact catPost2_nil H.out.to
                  · rw [show ((2 : Nat) : Int) = 2 from rfl]
                    have hu := egrow_i64 (v := v) (hI.out.2.2.2.2.1) (hI.out.2.2.2.2.2)
                    have HG := Lib.hid (fun w => egrow_any P2 Q2 v w (hI.out.2.2.2.2.1) (hI.out.2.2.2.2.2) HV.out)
                    have HU : Hid (cupd ⟨⟨ds.map Dm.con, ms⟩, fa, P0, Q0, P1, Q1, P2, Q2⟩ 2 v = (⟨⟨ds.map Dm.con, ms⟩, fa, P0, Q0, P1, Q1, (egrow P2 Q2 v).1.1, (egrow P2 Q2 v).1.2⟩, (egrow P2 Q2 v).2)) := rfl
                    generalize egrow P2 Q2 v = G at *
                    obtain ⟨⟨u1, u2⟩, ok⟩ := G
                    simp only at HG HU hu
                    go_wp2_with ((with_reducible show wpList _ _ _ (⟨some 65, _, _, _, _, _⟩ :: _) _ _); (refine wpList_load_row_at rfl rowTt (.tmp 64) rfl z (7) rfl #[.int .i64 P2, .int .i64 Q2] rfl ((H.out.blk 2 rfl).part 7 _ rfl) ?_))
                    refine (HG.out _).mono ?_; rintro e w6 ⟨rfl, hb6⟩
                    replace H := Lib.hid (H.out.bel hb6); (try simp only [List.set_cons_zero, List.set_cons_succ, List.cons_append, List.nil_append, List.eraseIdx_cons_zero, List.eraseIdx_cons_succ, List.setIfInBounds_toArray, World.size_alloc, selR, List.getD_cons_zero, List.getD_cons_succ] at H)
                    clear hb6 HG
                    cases ok with
                    | true =>
                      have HR2 : Hid (crow C1 0 ys = crow ⟨⟨ds.map Dm.con, ms⟩, fa, P0, Q0, P1, Q1, u1, u2⟩ (2 + 1) (ys.drop (2 + 1))) := by
                        show _ = _
                        rw [HRI.out, drop_get HYV.out, crow_step (by rw [HU.out]), HU.out]
                      have hI2 : Hid (I64 P0 ∧ I64 Q0 ∧ I64 P1 ∧ I64 Q1 ∧ I64 u1 ∧ I64 u2) := ⟨hI.out.1, hI.out.2.1, hI.out.2.2.1, hI.out.2.2.2.1, hu.1, hu.2⟩
                      clear HRI HU
                      go_wp2_with ((with_reducible show wpList _ _ _ (⟨_, .store _ (.tmp 71) _, _, _, _, _⟩ :: _) _ _); refine wpList_store_at rfl rowTt (.tmp 71) (.tmp 68) rfl z 7 rfl (H.out.blk 2 rfl) #[.int .i64 u1, .int .i64 u2] rfl (by simp) rfl (by simp [Value.oneCell']) ?_; intro wq bq hgq; replace bq : Blk wq z 30 #[.slice B m d, .slice MB mm md, .int .i64 fa, .int .i64 P0, .int .i64 Q0, .int .i64 P1, .int .i64 Q1, .int .i64 u1, .int .i64 u2] := bq; replace H := Lib.hid (H.out.setBlk 2 rfl hgq bq); (try simp only [List.set_cons_zero, List.set_cons_succ, List.cons_append, List.nil_append, List.eraseIdx_cons_zero, List.eraseIdx_cons_succ, List.setIfInBounds_toArray, World.size_alloc, selR, List.getD_cons_zero, List.getD_cons_succ] at H); clear hgq bq)
                      go_roundg (mn - (2 + 1))
                      case rel => exact ⟨2 + 1, P0, Q0, P1, Q1, u1, u2, true, rfl, by omega, rfl, rfl, H, HR2, hI2⟩
                      case measure => rw [Hgj.out]; omega
                    | false =>
                      have HO3 : Hid (O = (CC.nil, 12)) := by
                        show _ = _
                        refine (HOR.out (CC.nil, 12) (HRR0.out.trans ?_)).symm.trans (cfin_bad (by decide))
                        rw [drop_get HYK.out]
                        refine crows_over HYL.out ?_
                        rw [HRI.out, drop_get HYV.out]
                        exact crow_none (by rw [HU.out])
                      go_wp2_with (first | ((with_reducible show wpList _ _ _ (⟨_, .store _ (.tmp 71) _, _, _, _, _⟩ :: _) _ _); refine wpList_store_at rfl rowTt (.tmp 71) (.tmp 68) rfl z 7 rfl (H.out.blk 2 rfl) #[.int .i64 u1, .int .i64 u2] rfl (by simp) rfl (by simp [Value.oneCell']) ?_; intro wq bq hgq; replace bq : Blk wq z 30 #[.slice B m d, .slice MB mm md, .int .i64 fa, .int .i64 P0, .int .i64 Q0, .int .i64 P1, .int .i64 Q1, .int .i64 u1, .int .i64 u2] := bq; replace H := Lib.hid (H.out.setBlk 2 rfl hgq bq); (try simp only [List.set_cons_zero, List.set_cons_succ, List.cons_append, List.nil_append, List.eraseIdx_cons_zero, List.eraseIdx_cons_succ, List.setIfInBounds_toArray, World.size_alloc, selR, List.getD_cons_zero, List.getD_cons_succ] at H); clear hgq bq) | ((with_reducible show wpList _ _ _ (⟨_, .store _ (.tmp 4) _, _, _, _, _⟩ :: _) _ _); (refine wpList_store_blk rfl rowCt (.tmp 4) (.tmp 74) rfl _ rfl (H.out.blk 1 rfl) rfl (#[.slice none 0 0, .slice none 0 0, .int .i64 0, .int .i64 0, .int .i64 0, .int .i64 0, .int .i64 0, .int .i64 0, .int .i64 0]) rfl rfl (by simp [Value.oneCell']) ?_; intro wq bq hgq; replace H := Lib.hid (H.out.setBlk 1 rfl hgq bq); (try simp only [List.set_cons_zero, List.set_cons_succ, List.cons_append, List.nil_append, List.eraseIdx_cons_zero, List.eraseIdx_cons_succ, List.setIfInBounds_toArray, World.size_alloc, selR, List.getD_cons_zero, List.getD_cons_succ] at H); clear hgq bq)))
                      refine bodyPost_ret (results_blk rfl rowCt rfl (H.out.blk 1 rfl) rfl) rfl ?_
                      rw [HO3.out]
                      exact catPost2_nil H.out.to
                · obtain rfl : j = mn := by omega
                  have HRR2 : Hid (crows j ⟨⟨ds.map Dm.con, ms⟩, fa, p0, q0, p1, q1, p2, q2⟩ (rs.map (·.l)) = crows j ⟨⟨ds.map Dm.con, ms⟩, fa, P0, Q0, P1, Q1, P2, Q2⟩ ((rs.map (·.l)).drop (k + 1))) := by
                    show _ = _
                    rw [HRR0.out, drop_get HYK.out]
                    refine crows_ok (HYL.out) ?_
                    rw [HRI.out, List.drop_of_length_le (by have := HYL.out; omega)]
                    rfl
                  clear HRR0 HRI
                  go_wp2_with fail
                  go_roundg (rn - (k + 1))
                  case rel => exact ⟨k + 1, P0, Q0, P1, Q1, P2, Q2, ob, rfl, by omega, rfl, by go_num, H, HRR2, hI⟩
                  case measure => rw [Hgk.out]; omega
            · have e1 : (((yn : Nat) : Int) != mn) = true := by simp; omega
              have HO3 : Hid (O = (CC.nil, 2)) := by
                show _ = _
                refine (HOR.out (CC.nil, 2) (HRR.out.trans ?_)).symm.trans (cfin_bad (by decide))
                rw [drop_get HYK.out]
                exact crows_bad (by have := HYL.out; omega)
              clear hyn
              go_wp2_with ((with_reducible show wpList _ _ _ (⟨_, .store _ (.tmp 4) _, _, _, _, _⟩ :: _) _ _); (refine wpList_store_blk rfl rowCt (.tmp 4) (.tmp 52) rfl _ rfl (H.out.blk 1 rfl) rfl (#[.slice none 0 0, .slice none 0 0, .int .i64 0, .int .i64 0, .int .i64 0, .int .i64 0, .int .i64 0, .int .i64 0, .int .i64 0]) rfl rfl (by simp [Value.oneCell']) ?_; intro wq bq hgq; replace H := Lib.hid (H.out.setBlk 1 rfl hgq bq); (try simp only [List.set_cons_zero, List.set_cons_succ, List.cons_append, List.nil_append, List.eraseIdx_cons_zero, List.eraseIdx_cons_succ, List.setIfInBounds_toArray, World.size_alloc, selR, List.getD_cons_zero, List.getD_cons_succ] at H); clear hgq bq))
              refine bodyPost_ret (results_blk rfl rowCt rfl (H.out.blk 1 rfl) rfl) rfl ?_
              rw [HO3.out]
              exact catPost2_nil H.out.to
          · obtain rfl : k = rn := by omega
            have HO3 : Hid (O = (⟨⟨ds.map Dm.con, ms⟩, fa + k, P0, Q0, P1, Q1, P2, Q2⟩, 0)) := by
              show _ = _
              refine (HOR.out (⟨⟨ds.map Dm.con, ms⟩, fa, P0, Q0, P1, Q1, P2, Q2⟩, 0) (HRR.out.trans ?_)).symm.trans ?_
              · rw [List.drop_of_length_le (by rw [List.length_map, hrl.out]; omega)]
                rfl
              · rfl
            clear HRR
            have cz2 := (H.out.blk 2 rfl).cell 2; simp only [List.getElem?_toArray, List.getElem?_cons_zero, List.getElem?_cons_succ] at cz2; have fz2 := (H.out.blk 2 rfl).frozen 2
            go_wp2_with (first | ((with_reducible show wpList _ _ _ (⟨some 83, _, _, _, _, _⟩ :: _) _ _); replace H := Lib.hid (H.out.setCell 2 rfl 2 (.int .i64 (fa + k))); (try simp only [List.set_cons_zero, List.set_cons_succ, List.cons_append, List.nil_append, List.eraseIdx_cons_zero, List.eraseIdx_cons_succ, List.setIfInBounds_toArray, World.size_alloc, selR, List.getD_cons_zero, List.getD_cons_succ] at H); clear cz2 fz2; refine wpList_load_blk rfl rowCt (.tmp 7) rfl _ rfl (H.out.blk 2 rfl) rfl ?_) | ((with_reducible show wpList _ _ _ (⟨_, .store _ (.tmp 4) _, _, _, _, _⟩ :: _) _ _); (refine wpList_store_blk rfl rowCt (.tmp 4) (.tmp 83) rfl _ rfl (H.out.blk 1 rfl) rfl (#[.slice B m d, .slice MB mm md, .int .i64 (fa + k), .int .i64 P0, .int .i64 Q0, .int .i64 P1, .int .i64 Q1, .int .i64 P2, .int .i64 Q2]) rfl rfl (by simp [Value.oneCell']) ?_; intro wq bq hgq; replace H := Lib.hid (H.out.setBlk 1 rfl hgq bq); (try simp only [List.set_cons_zero, List.set_cons_succ, List.cons_append, List.nil_append, List.eraseIdx_cons_zero, List.eraseIdx_cons_succ, List.setIfInBounds_toArray, World.size_alloc, selR, List.getD_cons_zero, List.getD_cons_succ] at H); clear hgq bq)))
            refine bodyPost_ret (results_blk rfl rowCt rfl (H.out.blk 1 rfl) rfl) rfl ?_
            rw [HO3.out]
            exact ⟨⟨⟨⟨B, m, d, es⟩, ⟨MB, mm, md, mt⟩⟩, fa + k, P0, Q0, P1, Q1, P2, Q2⟩, rfl, congrArg (fun s => (⟨s, fa + k, P0, Q0, P1, Q1, P2, Q2⟩ : CC)) HDC.out, ⟨(H.out.at_ 3 rfl).rd, by show _ ≤ fa + (k : Int) ∧ fa + (k : Int) ≤ _; omega, hI.out.1, hI.out.2.1, hI.out.2.2.1, hI.out.2.2.2.1, hI.out.2.2.2.2.1, hI.out.2.2.2.2.2⟩, small_of_own (H.out.at_ 3 rfl), H.out.to, H.out.get 3 rfl, H.out.new 3 rfl⟩
  · have HO2 : Hid (O = (CC.nil, catErr ⟨⟨ds.map Dm.con, ms⟩, fa, p0, q0, p1, q1, p2, q2⟩)) := by have h := HO.out; unfold catGrow at h; rw [if_pos hE] at h; exact h.symm
    have dE : (catErr ⟨⟨ds.map Dm.con, ms⟩, fa, p0, q0, p1, q1, p2, q2⟩ == 0) = false := by simpa using hE
    generalize catErr ⟨⟨ds.map Dm.con, ms⟩, fa, p0, q0, p1, q1, p2, q2⟩ = E at *
    clear hE HO HK
    go_wp2_with ((with_reducible show wpList _ _ _ (⟨_, .store _ (.tmp 4) _, _, _, _, _⟩ :: _) _ _); (refine wpList_store_blk rfl rowCt (.tmp 4) (.tmp 17) rfl _ rfl (H.out.blk 1 rfl) rfl (#[.slice none 0 0, .slice none 0 0, .int .i64 0, .int .i64 0, .int .i64 0, .int .i64 0, .int .i64 0, .int .i64 0, .int .i64 0]) rfl rfl (by simp [Value.oneCell']) ?_; intro wq bq hgq; replace H := Lib.hid (H.out.setBlk 1 rfl hgq bq); (try simp only [List.set_cons_zero, List.set_cons_succ, List.cons_append, List.nil_append, List.eraseIdx_cons_zero, List.eraseIdx_cons_succ, List.setIfInBounds_toArray, World.size_alloc, selR, List.getD_cons_zero, List.getD_cons_succ] at H); clear hgq bq))
    refine bodyPost_ret (results_blk rfl rowCt rfl (H.out.blk 1 rfl) rfl) rfl ?_
    rw [HO2.out]
    exact catPost2_nil H.out.to
theorem catgrow_any (s : Ct) (r : Row (Row Int)) (w : World) (hs : s.rd w) (hm : SmS s.sc) (hr : r.rd w) (hrn : r.n ≤ 1000000) :
    Calls Try.prog 76 #[.agg s.cs, .slice r.A r.n r.c] w (CatPost (catGrow s.con (r.l.map (·.l))) w) := by
  refine (catgrow2_any s r w hs hm hr hrn).mono ?_
  rintro e w' ⟨D, h1, h2, h3, h4, h5, _⟩
  exact ⟨D, h1, h2, h3, h4, h5⟩
/-- The numbers of a catalog. -/
def Ct.ints (s : Ct) : Prop := I64 s.fa ∧ I64 s.p0 ∧ I64 s.q0 ∧ I64 s.p1 ∧ I64 s.q1 ∧ I64 s.p2 ∧ I64 s.q2
theorem Ct.rd.ints {s : Ct} {w : World} (h : s.rd w) : s.ints := ⟨h.fa, h.p0, h.q0, h.p1, h.q1, h.p2, h.q2⟩
theorem Ct.ints.rd {s : Ct} {w : World} (h : s.ints) (ho : SchOwn s.sc w) : s.rd w := ⟨ho.rd, h.1, h.2.1, h.2.2.1, h.2.2.2.1, h.2.2.2.2.1, h.2.2.2.2.2.1, h.2.2.2.2.2.2⟩

end Go.Proofs.Ytnekknemjhlgdaa

namespace Go.Proofs.Ytnekknemjhlgdaa
open Go.RowKit
set_option linter.unusedVariables false
set_option linter.unusedSimpArgs false


/-- What is read is laid in a block of the reading function's own. -/
def Rcat (w0 : World) (s : List UInt8) (B g z : Nat) (o : PR CC) (k : Int) (w' : World) : Prop :=
  k = endErr o ∧ ∃ (D : Ct) (q : List UInt8), SL No w0 w' (rAll B s q [rBlk g 30 D.cs, rBlk z 30 #[.slice none 0 0, .slice none 0 0, .int .i64 0, .int .i64 0, .int .i64 0, .int .i64 0, .int .i64 0, .int .i64 0, .int .i64 0], rSch D.sc]) ∧ (∀ d r, o = .ok (d, r) → D.con = d) ∧ D.ints
theorem pcat_err {k : Int} {l : List UInt8} (h : pcat l = .error k) : k ≠ 0 := by
  unfold pcat at h
  split at h
  · rename_i h1; injection h with h; subst h; exact psch_err h1
  · rename_i s l1 h1
    unfold pcat1 at h
    split at h
    · rename_i h2; injection h with h; subst h; have := pnum_err h2; omega
    · rename_i fa l2 h2
      unfold pcat2 at h
      split at h
      · rename_i h3
        injection h with h
        subst h
        refine pmany_err (p := ptot) (fun l k h => ?_) h3
        unfold ptot at h
        split at h
        · rename_i h4; injection h with h; subst h; have := k_pint_err h4; omega
        · split at h
          · rename_i h4; injection h with h; subst h; have := k_pint_err h4; omega
          · cases h
      · unfold pcatC at h
        split at h
        · cases h
        · rename_i hE; injection h with h; subst h; exact hE

set_option maxRecDepth 100000 in
set_option maxHeartbeats 4000000 in
theorem cattake1_any (w0 : World) (B g z : Nat) (s : List UInt8) (w : World) (h : SL No w0 w (rAll B s s [rBlk g 30 #[.slice none 0 0, .slice none 0 0, .int .i64 0, .int .i64 0, .int .i64 0, .int .i64 0, .int .i64 0, .int .i64 0, .int .i64 0], rBlk z 30 #[.slice none 0 0, .slice none 0 0, .int .i64 0, .int .i64 0, .int .i64 0, .int .i64 0, .int .i64 0, .int .i64 0, .int .i64 0]])) :
    Calls Try.prog 87 #[.pointer (some ⟨B + 1, 0, none⟩), .pointer (some ⟨g, 0, none⟩)] w (AllPost B s (Rcat w0 s B g z (pcat s))) := by
  have HT := Lib.hid (schread_any (B + 1) s s w (h.rdr 0 rfl))
  have H := Lib.hid h
  clear h
  go_enter Try.func87, Try.ntmps87
  go_wp2_with fail
  cases ho : psch s with
  | error k =>
    have HE : Hid (pcat s = .error k) := by show _ = _; unfold pcat; rw [ho]
    rw [ho] at HT
    refine HT.out.mono ?_; rintro e w1 ⟨rfl, hg, l1, hr⟩
    replace H := Lib.hid ((H.out.readAll hg hr).add (Bel.refl _) _ (holds_sch_nil w1) sch_nil_new); (try simp only [List.set_cons_zero, List.set_cons_succ, List.cons_append, List.nil_append, List.eraseIdx_cons_zero, List.eraseIdx_cons_succ, List.setIfInBounds_toArray, World.size_alloc, selR, List.getD_cons_zero, List.getD_cons_succ] at H)
    clear ho hg hr HT
    go_wp2_with fail
    refine ⟨rfl, ?_⟩
    exact SL.err H.out ⟨by rw [HE.out]; rfl, Ct.nil, l1, H.out, (fun _ _ h => by rw [HE.out] at h; cases h), ⟨i64_zero, i64_zero, i64_zero, i64_zero, i64_zero, i64_zero, i64_zero⟩⟩
  | ok q =>
    obtain ⟨sc, l1⟩ := q
    have HE1 : Hid (pcat s = pcat1 sc (pnum 4000 l1)) := by show _ = _; unfold pcat; rw [ho]
    have hsc := (psch_back ho).1
    rw [ho] at HT
    refine HT.out.mono ?_; rintro e w1 ⟨D, rfl, hDc, hg, hr, hnew⟩
    replace H := Lib.hid (H.out.readAllAdd hg hr (rSch D) hnew.1 hnew.2); (try simp only [List.set_cons_zero, List.set_cons_succ, List.cons_append, List.nil_append, List.eraseIdx_cons_zero, List.eraseIdx_cons_succ, List.setIfInBounds_toArray, World.size_alloc, selR, List.getD_cons_zero, List.getD_cons_succ] at H)
    have HDc := Lib.hid hDc
    have hml : Hid (D.ms.l.length = D.ms.n) := hnew.1.now.rd.ms.len
    clear ho hg hr hnew hDc HT
    obtain ⟨⟨B', m', d', es⟩, ⟨MB, mn, md, ms⟩⟩ := D
    simp only [Sch.cs, Sch.con] at *
    have hmn : Hid (sc.ms.length = mn) := by show _ = _; rw [← HDc.out]; exact hml.out
    have hm3 : mn ≤ 3 := by have := hmn.out; have := (schErr_zero hsc).2.2.2.2.1; omega
    clear hml hsc
    go_wp2_with ((with_reducible show wpList _ _ _ (⟨_, .store _ (.tmp 7) _, _, _, _, _⟩ :: _) _ _); refine wpList_store_at rfl rowSch (.tmp 7) (.tmp 6) rfl g 0 rfl (H.out.blk 3 rfl) #[.slice B' m' d', .slice MB mn md] rfl (by simp) rfl (by simp [Value.oneCell']) ?_; intro wq bq hgq; replace bq : Blk wq g 30 #[.slice B' m' d', .slice MB mn md, .int .i64 0, .int .i64 0, .int .i64 0, .int .i64 0, .int .i64 0, .int .i64 0, .int .i64 0] := bq; replace H := Lib.hid (H.out.setBlk 3 rfl hgq bq); (try simp only [List.set_cons_zero, List.set_cons_succ, List.cons_append, List.nil_append, List.eraseIdx_cons_zero, List.eraseIdx_cons_succ, List.setIfInBounds_toArray, World.size_alloc, selR, List.getD_cons_zero, List.getD_cons_succ] at H); clear hgq bq)
    have HN := Lib.hid (num_any (B + 1) s l1 4000 _ (H.out.rdr 0 rfl) (by omega) (by omega))
    cases hx : pnum 4000 l1 with
    | error k =>
      have HE : Hid (pcat s = .error k) := by show _ = _; rw [HE1.out, hx]; rfl
      rw [hx] at HN
      refine HN.out.mono ?_; rintro e w3 ⟨rfl, hg3, l3, hr3⟩
      replace H := Lib.hid (H.out.setRdr 0 rfl hg3 hr3); (try simp only [List.set_cons_zero, List.set_cons_succ, List.cons_append, List.nil_append, List.eraseIdx_cons_zero, List.eraseIdx_cons_succ, List.setIfInBounds_toArray, World.size_alloc, selR, List.getD_cons_zero, List.getD_cons_succ] at H)
      clear hx hg3 hr3 HN
      go_wp2_with fail
      refine ⟨rfl, ?_⟩
      exact SL.err H.out ⟨by rw [HE.out]; rfl, ⟨⟨⟨B', m', d', es⟩, ⟨MB, mn, md, ms⟩⟩, 0, 0, 0, 0, 0, 0, 0⟩, l3, H.out, (fun _ _ h => by rw [HE.out] at h; cases h), ⟨i64_zero, i64_zero, i64_zero, i64_zero, i64_zero, i64_zero, i64_zero⟩⟩
    | ok q =>
      obtain ⟨fa, l2⟩ := q
      have hfa := (pnum_ok hx).2.1
      have HE2 : Hid (pcat s = pcat2 sc fa (pmany ptot mn [] l2)) := by show _ = _; rw [HE1.out, hx, ← hmn.out]; rfl
      rw [hx] at HN
      refine HN.out.mono ?_; rintro e w3 ⟨rfl, hg3, hr3⟩
      replace H := Lib.hid (H.out.setRdr 0 rfl hg3 hr3); (try simp only [List.set_cons_zero, List.set_cons_succ, List.cons_append, List.nil_append, List.eraseIdx_cons_zero, List.eraseIdx_cons_succ, List.setIfInBounds_toArray, World.size_alloc, selR, List.getD_cons_zero, List.getD_cons_succ] at H)
      clear hx hg3 hr3 HN HE1
      have cf := (H.out.blk 3 rfl).cell 2; simp only [List.getElem?_toArray, List.getElem?_cons_zero, List.getElem?_cons_succ] at cf; have ff := (H.out.blk 3 rfl).frozen 2
      have cm := (H.out.blk 3 rfl).cell 1; simp only [List.getElem?_toArray, List.getElem?_cons_zero, List.getElem?_cons_succ] at cm
      have ifa : I64 (fa : Int) := by unfold I64; omega
      go_wp2_with fail
      replace H := Lib.hid (H.out.setCell 3 rfl 2 (.int .i64 (fa : Nat))); (try simp only [List.set_cons_zero, List.set_cons_succ, List.cons_append, List.nil_append, List.eraseIdx_cons_zero, List.eraseIdx_cons_succ, List.setIfInBounds_toArray, World.size_alloc, selR, List.getD_cons_zero, List.getD_cons_succ] at H)
      clear cf ff cm
      have HP0 : Hid (pmany ptot mn [] l2 = pmany ptot (mn - 0) [] l2) := rfl
      have HI0 : Hid (Ct.ints ⟨⟨⟨B', m', d', es⟩, ⟨MB, mn, md, ms⟩⟩, fa, (([] : List (Int × Int)).getD 0 (0, 0)).1, (([] : List (Int × Int)).getD 0 (0, 0)).2, (([] : List (Int × Int)).getD 1 (0, 0)).1, (([] : List (Int × Int)).getD 1 (0, 0)).2, (([] : List (Int × Int)).getD 2 (0, 0)).1, (([] : List (Int × Int)).getD 2 (0, 0)).2⟩) := ⟨ifa, i64_zero, i64_zero, i64_zero, i64_zero, i64_zero, i64_zero⟩
      go_loopg [15] mn (fun gg i wr => ∃ (k : Nat) (ts : List (Int × Int)) (l' : List UInt8), gg = mn - k ∧ k ≤ mn ∧ i = .int .i64 k ∧ Hid (ts.length = k) ∧ Hid (SL No w0 wr (rAll B s l' [rBlk g 30 #[.slice B' m' d', .slice MB mn md, .int .i64 (fa : Nat), .int .i64 (ts.getD 0 (0, 0)).1, .int .i64 (ts.getD 0 (0, 0)).2, .int .i64 (ts.getD 1 (0, 0)).1, .int .i64 (ts.getD 1 (0, 0)).2, .int .i64 (ts.getD 2 (0, 0)).1, .int .i64 (ts.getD 2 (0, 0)).2], rBlk z 30 #[.slice none 0 0, .slice none 0 0, .int .i64 0, .int .i64 0, .int .i64 0, .int .i64 0, .int .i64 0, .int .i64 0, .int .i64 0], rSch ⟨⟨B', m', d', es⟩, ⟨MB, mn, md, ms⟩⟩])) ∧ Hid (pmany ptot mn [] l2 = pmany ptot (mn - k) ts l') ∧ Hid (Ct.ints ⟨⟨⟨B', m', d', es⟩, ⟨MB, mn, md, ms⟩⟩, fa, (ts.getD 0 (0, 0)).1, (ts.getD 0 (0, 0)).2, (ts.getD 1 (0, 0)).1, (ts.getD 1 (0, 0)).2, (ts.getD 2 (0, 0)).1, (ts.getD 2 (0, 0)).2⟩))
      case atStart => exact ⟨0, [], l2, rfl, by omega, rfl, rfl, H, HP0, HI0⟩
      case round =>
        clear H HP0 HI0
        obtain ⟨k, ts, l', hgk, hk, rfl, hts, H, HP, HI⟩ := hrel
        have Hgk := Lib.hid hgk
        clear hgk
        by_cases hlt : k < mn
        · have j1 : (k : Int) < mn := by omega
          obtain rfl | rfl | rfl : k = 0 ∨ k = 1 ∨ k = 2 := by omega
          · obtain rfl : ts = [] := List.eq_nil_of_length_eq_zero hts.out
            rw [show ((0 : Nat) : Int) = 0 from rfl] at j1 ⊢
            have HA := Lib.hid (fun w (hR : Rdr w (B + 1) s l') => int_any (B + 1) s l' w hR)
            rw [pmany_step (show 0 < mn by omega)] at HP
            cases ha : pint l' with
            | error k1 =>
              rw [ha] at HA
              have HE : Hid (pcat s = .error k1) := by show _ = _; rw [HE2.out, HP.out]; unfold ptot; rw [ha]; rfl
              clear ha HP
              go_wp2_with fail
              refine (HA.out _ (H.out.rdr 0 rfl)).mono ?_; rintro e w5 ⟨rfl, hg5, l5, hr5⟩
              replace H := Lib.hid (H.out.setRdr 0 rfl hg5 hr5); (try simp only [List.set_cons_zero, List.set_cons_succ, List.cons_append, List.nil_append, List.eraseIdx_cons_zero, List.eraseIdx_cons_succ, List.setIfInBounds_toArray, World.size_alloc, selR, List.getD_cons_zero, List.getD_cons_succ] at H)
              clear hg5 hr5 HA
              replace HE2 := HE
              go_wp2_with fail
              refine ⟨rfl, ?_⟩
              exact SL.err H.out ⟨by rw [HE.out]; rfl, ⟨⟨⟨B', m', d', es⟩, ⟨MB, mn, md, ms⟩⟩, fa, ([].getD 0 (0, 0)).1, ([].getD 0 (0, 0)).2, ([].getD 1 (0, 0)).1, ([].getD 1 (0, 0)).2, ([].getD 2 (0, 0)).1, ([].getD 2 (0, 0)).2⟩, l5, H.out, (fun _ _ h => by rw [HE.out] at h; cases h), HI.out⟩
            | ok q =>
              obtain ⟨a, l5⟩ := q
              have ia := (k_pint_back ha).2
              rw [ha] at HA
              go_wp2_with fail
              refine (HA.out _ (H.out.rdr 0 rfl)).mono ?_; rintro e w5 ⟨rfl, hg5, hr5⟩
              replace H := Lib.hid (H.out.setRdr 0 rfl hg5 hr5); (try simp only [List.set_cons_zero, List.set_cons_succ, List.cons_append, List.nil_append, List.eraseIdx_cons_zero, List.eraseIdx_cons_succ, List.setIfInBounds_toArray, World.size_alloc, selR, List.getD_cons_zero, List.getD_cons_succ] at H)
              clear hg5 hr5 HA
              have HA := Lib.hid (fun w (hR : Rdr w (B + 1) s l5) => int_any (B + 1) s l5 w hR)
              cases hb : pint l5 with
              | error k1 =>
                rw [hb] at HA
                have HE : Hid (pcat s = .error k1) := by show _ = _; rw [HE2.out, HP.out]; unfold ptot; rw [ha]; simp only; rw [hb]; rfl
                clear ha hb HP
                go_wp2_with fail
                refine (HA.out _ (H.out.rdr 0 rfl)).mono ?_; rintro e w6 ⟨rfl, hg6, l6, hr6⟩
                replace H := Lib.hid (H.out.setRdr 0 rfl hg6 hr6); (try simp only [List.set_cons_zero, List.set_cons_succ, List.cons_append, List.nil_append, List.eraseIdx_cons_zero, List.eraseIdx_cons_succ, List.setIfInBounds_toArray, World.size_alloc, selR, List.getD_cons_zero, List.getD_cons_succ] at H)
                clear hg6 hr6 HA
                go_wp2_with fail
                refine ⟨rfl, ?_⟩
                exact SL.err H.out ⟨by rw [HE.out]; rfl, ⟨⟨⟨B', m', d', es⟩, ⟨MB, mn, md, ms⟩⟩, fa, ([].getD 0 (0, 0)).1, ([].getD 0 (0, 0)).2, ([].getD 1 (0, 0)).1, ([].getD 1 (0, 0)).2, ([].getD 2 (0, 0)).1, ([].getD 2 (0, 0)).2⟩, l6, H.out, (fun _ _ h => by rw [HE.out] at h; cases h), HI.out⟩
              | ok q =>
                obtain ⟨b, l6⟩ := q
                have ib := (k_pint_back hb).2
                rw [hb] at HA
                have HP2 : Hid (pmany ptot mn [] l2 = pmany ptot (mn - (0 + 1)) [(a, b)] l6) := by show _ = _; rw [HP.out]; unfold ptot; rw [ha]; simp only; rw [hb]; rfl
                have HI2 : Hid (Ct.ints ⟨⟨⟨B', m', d', es⟩, ⟨MB, mn, md, ms⟩⟩, fa, ([(a, b)].getD 0 (0, 0)).1, ([(a, b)].getD 0 (0, 0)).2, ([(a, b)].getD 1 (0, 0)).1, ([(a, b)].getD 1 (0, 0)).2, ([(a, b)].getD 2 (0, 0)).1, ([(a, b)].getD 2 (0, 0)).2⟩) := ⟨HI.out.1, ia, ib, HI.out.2.2.2.1, HI.out.2.2.2.2.1, HI.out.2.2.2.2.2.1, HI.out.2.2.2.2.2.2⟩
                clear ha hb HP
                go_wp2_with fail
                refine (HA.out _ (H.out.rdr 0 rfl)).mono ?_; rintro e w6 ⟨rfl, hg6, hr6⟩
                replace H := Lib.hid (H.out.setRdr 0 rfl hg6 hr6); (try simp only [List.set_cons_zero, List.set_cons_succ, List.cons_append, List.nil_append, List.eraseIdx_cons_zero, List.eraseIdx_cons_succ, List.setIfInBounds_toArray, World.size_alloc, selR, List.getD_cons_zero, List.getD_cons_succ] at H)
                clear hg6 hr6 HA
                go_wp2_with ((with_reducible show wpList _ _ _ (⟨_, .store _ (.tmp 25) _, _, _, _, _⟩ :: _) _ _); refine wpList_store_at rfl rowTt (.tmp 25) (.tmp 23) rfl g 3 rfl (H.out.blk 3 rfl) #[.int .i64 a, .int .i64 b] rfl (by simp) rfl (by simp [Value.oneCell']) ?_; intro wq bq hgq; replace bq : Blk wq g 30 #[.slice B' m' d', .slice MB mn md, .int .i64 (fa : Nat), .int .i64 ([(a, b)].getD 0 (0, 0)).1, .int .i64 ([(a, b)].getD 0 (0, 0)).2, .int .i64 ([(a, b)].getD 1 (0, 0)).1, .int .i64 ([(a, b)].getD 1 (0, 0)).2, .int .i64 ([(a, b)].getD 2 (0, 0)).1, .int .i64 ([(a, b)].getD 2 (0, 0)).2] := bq; replace H := Lib.hid (H.out.setBlk 3 rfl hgq bq); (try simp only [List.set_cons_zero, List.set_cons_succ, List.cons_append, List.nil_append, List.eraseIdx_cons_zero, List.eraseIdx_cons_succ, List.setIfInBounds_toArray, World.size_alloc, selR, List.getD_cons_zero, List.getD_cons_succ] at H); clear hgq bq)
                go_roundg (mn - (0 + 1))
                case rel => exact ⟨0 + 1, [(a, b)], l6, rfl, by omega, rfl, rfl, H, HP2, HI2⟩
                case measure => rw [Hgk.out]; omega
          · obtain ⟨t0, rfl⟩ : ∃ t0, ts = [t0] := by match ts, hts.out with | [x], _ => exact ⟨x, rfl⟩
            rw [show ((1 : Nat) : Int) = 1 from rfl] at j1 ⊢
            have HA := Lib.hid (fun w (hR : Rdr w (B + 1) s l') => int_any (B + 1) s l' w hR)
            rw [pmany_step (show 1 < mn by omega)] at HP
            cases ha : pint l' with
            | error k1 =>
              rw [ha] at HA
              have HE : Hid (pcat s = .error k1) := by show _ = _; rw [HE2.out, HP.out]; unfold ptot; rw [ha]; rfl
              clear ha HP
              go_wp2_with fail
              refine (HA.out _ (H.out.rdr 0 rfl)).mono ?_; rintro e w5 ⟨rfl, hg5, l5, hr5⟩
              replace H := Lib.hid (H.out.setRdr 0 rfl hg5 hr5); (try simp only [List.set_cons_zero, List.set_cons_succ, List.cons_append, List.nil_append, List.eraseIdx_cons_zero, List.eraseIdx_cons_succ, List.setIfInBounds_toArray, World.size_alloc, selR, List.getD_cons_zero, List.getD_cons_succ] at H)
              clear hg5 hr5 HA
              replace HE2 := HE
              go_wp2_with fail
              refine ⟨rfl, ?_⟩
              exact SL.err H.out ⟨by rw [HE.out]; rfl, ⟨⟨⟨B', m', d', es⟩, ⟨MB, mn, md, ms⟩⟩, fa, ([t0].getD 0 (0, 0)).1, ([t0].getD 0 (0, 0)).2, ([t0].getD 1 (0, 0)).1, ([t0].getD 1 (0, 0)).2, ([t0].getD 2 (0, 0)).1, ([t0].getD 2 (0, 0)).2⟩, l5, H.out, (fun _ _ h => by rw [HE.out] at h; cases h), HI.out⟩
            | ok q =>
              obtain ⟨a, l5⟩ := q
              have ia := (k_pint_back ha).2
              rw [ha] at HA
              go_wp2_with fail
              refine (HA.out _ (H.out.rdr 0 rfl)).mono ?_; rintro e w5 ⟨rfl, hg5, hr5⟩
              replace H := Lib.hid (H.out.setRdr 0 rfl hg5 hr5); (try simp only [List.set_cons_zero, List.set_cons_succ, List.cons_append, List.nil_append, List.eraseIdx_cons_zero, List.eraseIdx_cons_succ, List.setIfInBounds_toArray, World.size_alloc, selR, List.getD_cons_zero, List.getD_cons_succ] at H)
              clear hg5 hr5 HA
              have HA := Lib.hid (fun w (hR : Rdr w (B + 1) s l5) => int_any (B + 1) s l5 w hR)
              cases hb : pint l5 with
              | error k1 =>
                rw [hb] at HA
                have HE : Hid (pcat s = .error k1) := by show _ = _; rw [HE2.out, HP.out]; unfold ptot; rw [ha]; simp only; rw [hb]; rfl
                clear ha hb HP
                go_wp2_with fail
                refine (HA.out _ (H.out.rdr 0 rfl)).mono ?_; rintro e w6 ⟨rfl, hg6, l6, hr6⟩
                replace H := Lib.hid (H.out.setRdr 0 rfl hg6 hr6); (try simp only [List.set_cons_zero, List.set_cons_succ, List.cons_append, List.nil_append, List.eraseIdx_cons_zero, List.eraseIdx_cons_succ, List.setIfInBounds_toArray, World.size_alloc, selR, List.getD_cons_zero, List.getD_cons_succ] at H)
                clear hg6 hr6 HA
                go_wp2_with fail
                refine ⟨rfl, ?_⟩
                exact SL.err H.out ⟨by rw [HE.out]; rfl, ⟨⟨⟨B', m', d', es⟩, ⟨MB, mn, md, ms⟩⟩, fa, ([t0].getD 0 (0, 0)).1, ([t0].getD 0 (0, 0)).2, ([t0].getD 1 (0, 0)).1, ([t0].getD 1 (0, 0)).2, ([t0].getD 2 (0, 0)).1, ([t0].getD 2 (0, 0)).2⟩, l6, H.out, (fun _ _ h => by rw [HE.out] at h; cases h), HI.out⟩
              | ok q =>
                obtain ⟨b, l6⟩ := q
                have ib := (k_pint_back hb).2
                rw [hb] at HA
                have HP2 : Hid (pmany ptot mn [] l2 = pmany ptot (mn - (1 + 1)) [t0, (a, b)] l6) := by show _ = _; rw [HP.out]; unfold ptot; rw [ha]; simp only; rw [hb]; rfl
                have HI2 : Hid (Ct.ints ⟨⟨⟨B', m', d', es⟩, ⟨MB, mn, md, ms⟩⟩, fa, ([t0, (a, b)].getD 0 (0, 0)).1, ([t0, (a, b)].getD 0 (0, 0)).2, ([t0, (a, b)].getD 1 (0, 0)).1, ([t0, (a, b)].getD 1 (0, 0)).2, ([t0, (a, b)].getD 2 (0, 0)).1, ([t0, (a, b)].getD 2 (0, 0)).2⟩) := ⟨HI.out.1, HI.out.2.1, HI.out.2.2.1, ia, ib, HI.out.2.2.2.2.2.1, HI.out.2.2.2.2.2.2⟩
                clear ha hb HP
                go_wp2_with fail
                refine (HA.out _ (H.out.rdr 0 rfl)).mono ?_; rintro e w6 ⟨rfl, hg6, hr6⟩
                replace H := Lib.hid (H.out.setRdr 0 rfl hg6 hr6); (try simp only [List.set_cons_zero, List.set_cons_succ, List.cons_append, List.nil_append, List.eraseIdx_cons_zero, List.eraseIdx_cons_succ, List.setIfInBounds_toArray, World.size_alloc, selR, List.getD_cons_zero, List.getD_cons_succ] at H)
                clear hg6 hr6 HA
                go_wp2_with ((with_reducible show wpList _ _ _ (⟨_, .store _ (.tmp 25) _, _, _, _, _⟩ :: _) _ _); refine wpList_store_at rfl rowTt (.tmp 25) (.tmp 23) rfl g 5 rfl (H.out.blk 3 rfl) #[.int .i64 a, .int .i64 b] rfl (by simp) rfl (by simp [Value.oneCell']) ?_; intro wq bq hgq; replace bq : Blk wq g 30 #[.slice B' m' d', .slice MB mn md, .int .i64 (fa : Nat), .int .i64 ([t0, (a, b)].getD 0 (0, 0)).1, .int .i64 ([t0, (a, b)].getD 0 (0, 0)).2, .int .i64 ([t0, (a, b)].getD 1 (0, 0)).1, .int .i64 ([t0, (a, b)].getD 1 (0, 0)).2, .int .i64 ([t0, (a, b)].getD 2 (0, 0)).1, .int .i64 ([t0, (a, b)].getD 2 (0, 0)).2] := bq; replace H := Lib.hid (H.out.setBlk 3 rfl hgq bq); (try simp only [List.set_cons_zero, List.set_cons_succ, List.cons_append, List.nil_append, List.eraseIdx_cons_zero, List.eraseIdx_cons_succ, List.setIfInBounds_toArray, World.size_alloc, selR, List.getD_cons_zero, List.getD_cons_succ] at H); clear hgq bq)
                go_roundg (mn - (1 + 1))
                case rel => exact ⟨1 + 1, [t0, (a, b)], l6, rfl, by omega, rfl, rfl, H, HP2, HI2⟩
                case measure => rw [Hgk.out]; omega
          · obtain ⟨t0, t1, rfl⟩ : ∃ t0 t1, ts = [t0, t1] := by match ts, hts.out with | [x, y], _ => exact ⟨x, y, rfl⟩
            rw [show ((2 : Nat) : Int) = 2 from rfl] at j1 ⊢
            have HA := Lib.hid (fun w (hR : Rdr w (B + 1) s l') => int_any (B + 1) s l' w hR)
            rw [pmany_step (show 2 < mn by omega)] at HP
            cases ha : pint l' with
            | error k1 =>
              rw [ha] at HA
              have HE : Hid (pcat s = .error k1) := by show _ = _; rw [HE2.out, HP.out]; unfold ptot; rw [ha]; rfl
              clear ha HP
              go_wp2_with fail
              refine (HA.out _ (H.out.rdr 0 rfl)).mono ?_; rintro e w5 ⟨rfl, hg5, l5, hr5⟩
              replace H := Lib.hid (H.out.setRdr 0 rfl hg5 hr5); (try simp only [List.set_cons_zero, List.set_cons_succ, List.cons_append, List.nil_append, List.eraseIdx_cons_zero, List.eraseIdx_cons_succ, List.setIfInBounds_toArray, World.size_alloc, selR, List.getD_cons_zero, List.getD_cons_succ] at H)
              clear hg5 hr5 HA
              replace HE2 := HE
              go_wp2_with fail
              refine ⟨rfl, ?_⟩
              exact SL.err H.out ⟨by rw [HE.out]; rfl, ⟨⟨⟨B', m', d', es⟩, ⟨MB, mn, md, ms⟩⟩, fa, ([t0, t1].getD 0 (0, 0)).1, ([t0, t1].getD 0 (0, 0)).2, ([t0, t1].getD 1 (0, 0)).1, ([t0, t1].getD 1 (0, 0)).2, ([t0, t1].getD 2 (0, 0)).1, ([t0, t1].getD 2 (0, 0)).2⟩, l5, H.out, (fun _ _ h => by rw [HE.out] at h; cases h), HI.out⟩
            | ok q =>
              obtain ⟨a, l5⟩ := q
              have ia := (k_pint_back ha).2
              rw [ha] at HA
              go_wp2_with fail
              refine (HA.out _ (H.out.rdr 0 rfl)).mono ?_; rintro e w5 ⟨rfl, hg5, hr5⟩
              replace H := Lib.hid (H.out.setRdr 0 rfl hg5 hr5); (try simp only [List.set_cons_zero, List.set_cons_succ, List.cons_append, List.nil_append, List.eraseIdx_cons_zero, List.eraseIdx_cons_succ, List.setIfInBounds_toArray, World.size_alloc, selR, List.getD_cons_zero, List.getD_cons_succ] at H)
              clear hg5 hr5 HA
              have HA := Lib.hid (fun w (hR : Rdr w (B + 1) s l5) => int_any (B + 1) s l5 w hR)
              cases hb : pint l5 with
              | error k1 =>
                rw [hb] at HA
                have HE : Hid (pcat s = .error k1) := by show _ = _; rw [HE2.out, HP.out]; unfold ptot; rw [ha]; simp only; rw [hb]; rfl
                clear ha hb HP
                go_wp2_with fail
                refine (HA.out _ (H.out.rdr 0 rfl)).mono ?_; rintro e w6 ⟨rfl, hg6, l6, hr6⟩
                replace H := Lib.hid (H.out.setRdr 0 rfl hg6 hr6); (try simp only [List.set_cons_zero, List.set_cons_succ, List.cons_append, List.nil_append, List.eraseIdx_cons_zero, List.eraseIdx_cons_succ, List.setIfInBounds_toArray, World.size_alloc, selR, List.getD_cons_zero, List.getD_cons_succ] at H)
                clear hg6 hr6 HA
                go_wp2_with fail
                refine ⟨rfl, ?_⟩
                exact SL.err H.out ⟨by rw [HE.out]; rfl, ⟨⟨⟨B', m', d', es⟩, ⟨MB, mn, md, ms⟩⟩, fa, ([t0, t1].getD 0 (0, 0)).1, ([t0, t1].getD 0 (0, 0)).2, ([t0, t1].getD 1 (0, 0)).1, ([t0, t1].getD 1 (0, 0)).2, ([t0, t1].getD 2 (0, 0)).1, ([t0, t1].getD 2 (0, 0)).2⟩, l6, H.out, (fun _ _ h => by rw [HE.out] at h; cases h), HI.out⟩
              | ok q =>
                obtain ⟨b, l6⟩ := q
                have ib := (k_pint_back hb).2
                rw [hb] at HA
                have HP2 : Hid (pmany ptot mn [] l2 = pmany ptot (mn - (2 + 1)) [t0, t1, (a, b)] l6) := by show _ = _; rw [HP.out]; unfold ptot; rw [ha]; simp only; rw [hb]; rfl
                have HI2 : Hid (Ct.ints ⟨⟨⟨B', m', d', es⟩, ⟨MB, mn, md, ms⟩⟩, fa, ([t0, t1, (a, b)].getD 0 (0, 0)).1, ([t0, t1, (a, b)].getD 0 (0, 0)).2, ([t0, t1, (a, b)].getD 1 (0, 0)).1, ([t0, t1, (a, b)].getD 1 (0, 0)).2, ([t0, t1, (a, b)].getD 2 (0, 0)).1, ([t0, t1, (a, b)].getD 2 (0, 0)).2⟩) := ⟨HI.out.1, HI.out.2.1, HI.out.2.2.1, HI.out.2.2.2.1, HI.out.2.2.2.2.1, ia, ib⟩
                clear ha hb HP
                go_wp2_with fail
                refine (HA.out _ (H.out.rdr 0 rfl)).mono ?_; rintro e w6 ⟨rfl, hg6, hr6⟩
                replace H := Lib.hid (H.out.setRdr 0 rfl hg6 hr6); (try simp only [List.set_cons_zero, List.set_cons_succ, List.cons_append, List.nil_append, List.eraseIdx_cons_zero, List.eraseIdx_cons_succ, List.setIfInBounds_toArray, World.size_alloc, selR, List.getD_cons_zero, List.getD_cons_succ] at H)
                clear hg6 hr6 HA
                go_wp2_with ((with_reducible show wpList _ _ _ (⟨_, .store _ (.tmp 25) _, _, _, _, _⟩ :: _) _ _); refine wpList_store_at rfl rowTt (.tmp 25) (.tmp 23) rfl g 7 rfl (H.out.blk 3 rfl) #[.int .i64 a, .int .i64 b] rfl (by simp) rfl (by simp [Value.oneCell']) ?_; intro wq bq hgq; replace bq : Blk wq g 30 #[.slice B' m' d', .slice MB mn md, .int .i64 (fa : Nat), .int .i64 ([t0, t1, (a, b)].getD 0 (0, 0)).1, .int .i64 ([t0, t1, (a, b)].getD 0 (0, 0)).2, .int .i64 ([t0, t1, (a, b)].getD 1 (0, 0)).1, .int .i64 ([t0, t1, (a, b)].getD 1 (0, 0)).2, .int .i64 ([t0, t1, (a, b)].getD 2 (0, 0)).1, .int .i64 ([t0, t1, (a, b)].getD 2 (0, 0)).2] := bq; replace H := Lib.hid (H.out.setBlk 3 rfl hgq bq); (try simp only [List.set_cons_zero, List.set_cons_succ, List.cons_append, List.nil_append, List.eraseIdx_cons_zero, List.eraseIdx_cons_succ, List.setIfInBounds_toArray, World.size_alloc, selR, List.getD_cons_zero, List.getD_cons_succ] at H); clear hgq bq)
                go_roundg (mn - (2 + 1))
                case rel => exact ⟨2 + 1, [t0, t1, (a, b)], l6, rfl, by omega, rfl, rfl, H, HP2, HI2⟩
                case measure => rw [Hgk.out]; omega
        · obtain rfl : k = mn := by omega
          have HE3 : Hid (pcat s = pcatC (mkCC sc fa ts) l') := by show _ = _; rw [HE2.out, HP.out, Nat.sub_self]; rfl
          clear HP HE2
          have HCK := Lib.hid (fun w' h => catcheck_any ⟨⟨⟨B', m', d', es⟩, ⟨MB, k, md, ms⟩⟩, fa, (ts.getD 0 (0, 0)).1, (ts.getD 0 (0, 0)).2, (ts.getD 1 (0, 0)).1, (ts.getD 1 (0, 0)).2, (ts.getD 2 (0, 0)).1, (ts.getD 2 (0, 0)).2⟩ w' h)
          rw [show Ct.con ⟨⟨⟨B', m', d', es⟩, ⟨MB, k, md, ms⟩⟩, fa, (ts.getD 0 (0, 0)).1, (ts.getD 0 (0, 0)).2, (ts.getD 1 (0, 0)).1, (ts.getD 1 (0, 0)).2, (ts.getD 2 (0, 0)).1, (ts.getD 2 (0, 0)).2⟩ = mkCC sc fa ts from by rw [← HDc.out]; rfl] at HCK
          generalize hmk : mkCC sc fa ts = M at HCK HE3
          have HM := Lib.hid hmk
          clear hmk
          go_wp2_with ((with_reducible show wpList _ _ _ (⟨some 27, _, _, _, _, _⟩ :: _) _ _); (refine wpList_load_blk rfl rowCt (.tmp 1) rfl _ rfl (H.out.blk 3 rfl) rfl ?_))
          refine (HCK.out _ (HI.out.rd (H.out.at_ 5 rfl)) (small_of_own (H.out.at_ 5 rfl))).mono ?_; rintro e w5 ⟨rfl, hb5⟩
          replace H := Lib.hid (H.out.bel hb5); (try simp only [List.set_cons_zero, List.set_cons_succ, List.cons_append, List.nil_append, List.eraseIdx_cons_zero, List.eraseIdx_cons_succ, List.setIfInBounds_toArray, World.size_alloc, selR, List.getD_cons_zero, List.getD_cons_succ] at H)
          clear hb5 HCK
          by_cases hE0 : catErr M = 0
          · have HE : Hid (pcat s = .ok (M, l')) := by show _ = _; rw [HE3.out]; unfold pcatC; rw [if_pos hE0]
            rw [hE0]
            clear hE0 HE3
            go_wp2_with fail
            refine (want_yes (B + 1) s l' 0 _ (H.out.rdr 0 rfl)).mono ?_; rintro e w6 ⟨rfl, rfl⟩
            go_wp2_with fail
            go_end0
            exact SL.ok H.out ⟨by rw [HE.out]; rfl, ⟨⟨⟨B', m', d', es⟩, ⟨MB, k, md, ms⟩⟩, fa, (ts.getD 0 (0, 0)).1, (ts.getD 0 (0, 0)).2, (ts.getD 1 (0, 0)).1, (ts.getD 1 (0, 0)).2, (ts.getD 2 (0, 0)).1, (ts.getD 2 (0, 0)).2⟩, l', H.out, (fun d r h => by rw [HE.out] at h; injection h with h; injection h with h _; rw [← h, ← HM.out, ← HDc.out]; rfl), HI.out⟩
          · have HE : Hid (pcat s = .error (catErr M)) := by show _ = _; rw [HE3.out]; unfold pcatC; rw [if_neg hE0]
            have HW : Hid (wantErr (catErr M) = catErr M) := by show _ = _; unfold wantErr; rw [if_neg hE0]
            have dE : (catErr M == 0) = false := by simpa using hE0
            generalize catErr M = E at *
            clear HE3
            go_wp2_with fail
            refine (want_no (B + 1) s l' E _ (H.out.rdr 0 rfl)).mono ?_; rintro e w6 ⟨rfl, rfl⟩
            rw [HW.out]
            go_wp2_with fail
            refine ⟨rfl, ?_⟩
            exact SL.err H.out ⟨by rw [HE.out]; rfl, ⟨⟨⟨B', m', d', es⟩, ⟨MB, k, md, ms⟩⟩, fa, (ts.getD 0 (0, 0)).1, (ts.getD 0 (0, 0)).2, (ts.getD 1 (0, 0)).1, (ts.getD 1 (0, 0)).2, (ts.getD 2 (0, 0)).1, (ts.getD 2 (0, 0)).2⟩, l', H.out, (fun _ _ h => by rw [HE.out] at h; cases h), HI.out⟩

end Go.Proofs.Ytnekknemjhlgdaa

namespace Go.Proofs.Ytnekknemjhlgdaa
open Go.RowKit
set_option linter.unusedVariables false
set_option linter.unusedSimpArgs false


set_option maxRecDepth 100000 in
set_option maxHeartbeats 1000000 in
theorem cattake_any (s : List UInt8) (w : World) (hs : s.length ≤ 1000001) :
    Calls Try.prog 23 #[.string ⟨s.toArray⟩] w (CatPost (cattake s) w) := by
  have hmf : ∀ (fn : Fn) (first cap : Array Value) (w : World), (Instr.makeFunc fn first cap).run Try.prog w = .ok (.func fn first cap) w := fun _ _ _ _ => rfl
  have H := Lib.hid (((SL.start No w).alloc #[.slice none 0 0, .slice none 0 0, .int .i64 0, .int .i64 0, .int .i64 0, .int .i64 0, .int .i64 0, .int .i64 0, .int .i64 0] 30).alloc #[.slice none 0 0, .slice none 0 0, .int .i64 0, .int .i64 0, .int .i64 0, .int .i64 0, .int .i64 0, .int .i64 0, .int .i64 0] 30)
  (try simp only [List.set_cons_zero, List.set_cons_succ, List.cons_append, List.nil_append, List.eraseIdx_cons_zero, List.eraseIdx_cons_succ, List.setIfInBounds_toArray, World.size_alloc, selR, List.getD_cons_zero, List.getD_cons_succ] at H)
  go_enter Try.func23, Try.ntmps23
  go_wp2_with fail
  replace H := Lib.hid (H.out.sel [1, 0] (by decide) (by simp)); (try simp only [List.set_cons_zero, List.set_cons_succ, List.cons_append, List.nil_append, List.eraseIdx_cons_zero, List.eraseIdx_cons_succ, List.setIfInBounds_toArray, World.size_alloc, selR, List.getD_cons_zero, List.getD_cons_succ] at H)
  generalize hzg : w.heap.size + 1 = g at *
  clear hzg
  generalize w.heap.size = z at *
  generalize (w.alloc (.cells #[.slice none 0 0, .slice none 0 0, .int .i64 0, .int .i64 0, .int .i64 0, .int .i64 0, .int .i64 0, .int .i64 0, .int .i64 0] 30)).alloc (.cells #[.slice none 0 0, .slice none 0 0, .int .i64 0, .int .i64 0, .int .i64 0, .int .i64 0, .int .i64 0, .int .i64 0, .int .i64 0] 30) = W at *
  refine (all_any 87 #[.pointer (some ⟨g, 0, none⟩)] s W hs (Rcat w s W.heap.size g z (pcat s)) (cf_any Try.func87 (by kernel_rfl) (by kernel_rfl)) (fun w4 h1 h2 h3 h4 h5 => cattake1_any w W.heap.size g z s w4 (H.out.begin h1 h3 h4 h5))).mono ?_
  rintro e w5 ⟨k, w4, rfl, ⟨hk, D, q, hS, hD, hI⟩, hbut, _⟩
  replace H := Lib.hid (hS.ended hbut); (try simp only [List.set_cons_zero, List.set_cons_succ, List.cons_append, List.nil_append, List.eraseIdx_cons_zero, List.eraseIdx_cons_succ, List.setIfInBounds_toArray, World.size_alloc, selR, List.getD_cons_zero, List.getD_cons_succ] at H)
  clear hS hbut
  generalize W.heap.size = B at *
  cases hT : pcat s with
  | error k' =>
    have HT : Hid (cattake s = (CC.nil, k')) := by show _ = _; unfold cattake; rw [hT]
    have hk' := pcat_err hT
    rw [hT] at hk
    have hk2 : k = k' := hk
    subst hk2
    have dk : (k == 0) = false := by simpa using hk'
    have dk2 : (k != 0) = true := by simpa using hk'
    clear hT hk hk' hD
    go_wp2_with ((with_reducible show wpList _ _ _ (⟨_, .store _ (.tmp 2) _, _, _, _, _⟩ :: _) _ _); (refine wpList_store_blk rfl rowCt (.tmp 2) (.tmp 11) rfl _ rfl (H.out.blk 1 rfl) rfl (#[.slice none 0 0, .slice none 0 0, .int .i64 0, .int .i64 0, .int .i64 0, .int .i64 0, .int .i64 0, .int .i64 0, .int .i64 0]) rfl rfl (by simp [Value.oneCell']) ?_; intro wq bq hgq; replace H := Lib.hid (H.out.setBlk 1 rfl hgq bq); (try simp only [List.set_cons_zero, List.set_cons_succ, List.cons_append, List.nil_append, List.eraseIdx_cons_zero, List.eraseIdx_cons_succ, List.setIfInBounds_toArray, World.size_alloc, selR, List.getD_cons_zero, List.getD_cons_succ] at H); clear hgq bq))
    refine bodyPost_ret (results_blk rfl rowCt rfl (H.out.blk 1 rfl) rfl) rfl ?_
    rw [HT.out]
    exact catPost_nil H.out.to
  | ok q =>
    obtain ⟨t, l⟩ := q
    rw [hT] at hk
    obtain rfl := hD _ _ hT
    by_cases hl : l = []
    · have HT : Hid (cattake s = (D.con, 0)) := by show _ = _; unfold cattake; rw [hT]; simp [hl]
      have hk2 : k = 0 := by rw [hk]; show (if l = [] then (0 : Int) else 3) = 0; rw [if_pos hl]
      subst hk2
      have HI := Lib.hid hI
      clear hT hk hl hD hI
      go_wp2_with (first | ((with_reducible show wpList _ _ _ (⟨some 13, _, _, _, _, _⟩ :: _) _ _); (refine wpList_load_blk rfl rowCt (.tmp 4) rfl _ rfl (H.out.blk 0 rfl) rfl ?_)) | ((with_reducible show wpList _ _ _ (⟨_, .store _ (.tmp 2) _, _, _, _, _⟩ :: _) _ _); (refine wpList_store_blk rfl rowCt (.tmp 2) (.tmp 13) rfl _ rfl (H.out.blk 1 rfl) rfl (D.cs) rfl rfl (ct_one D) ?_; intro wq bq hgq; replace H := Lib.hid (H.out.setBlk 1 rfl hgq bq); (try simp only [List.set_cons_zero, List.set_cons_succ, List.cons_append, List.nil_append, List.eraseIdx_cons_zero, List.eraseIdx_cons_succ, List.setIfInBounds_toArray, World.size_alloc, selR, List.getD_cons_zero, List.getD_cons_succ] at H); clear hgq bq)))
      refine bodyPost_ret (results_blk rfl rowCt rfl (H.out.blk 1 rfl) rfl) rfl ?_
      rw [HT.out]
      exact ⟨D, rfl, rfl, HI.out.rd (H.out.at_ 2 rfl), small_of_own (H.out.at_ 2 rfl), H.out.to⟩
    · have HT : Hid (cattake s = (CC.nil, 3)) := by show _ = _; unfold cattake; rw [hT]; simp [hl]
      have hk2 : k = 3 := by rw [hk]; show (if l = [] then (0 : Int) else 3) = 3; rw [if_neg hl]
      subst hk2
      clear hT hk hl hD
      go_wp2_with ((with_reducible show wpList _ _ _ (⟨_, .store _ (.tmp 2) _, _, _, _, _⟩ :: _) _ _); (refine wpList_store_blk rfl rowCt (.tmp 2) (.tmp 11) rfl _ rfl (H.out.blk 1 rfl) rfl (#[.slice none 0 0, .slice none 0 0, .int .i64 0, .int .i64 0, .int .i64 0, .int .i64 0, .int .i64 0, .int .i64 0, .int .i64 0]) rfl rfl (by simp [Value.oneCell']) ?_; intro wq bq hgq; replace H := Lib.hid (H.out.setBlk 1 rfl hgq bq); (try simp only [List.set_cons_zero, List.set_cons_succ, List.cons_append, List.nil_append, List.eraseIdx_cons_zero, List.eraseIdx_cons_succ, List.setIfInBounds_toArray, World.size_alloc, selR, List.getD_cons_zero, List.getD_cons_succ] at H); clear hgq bq))
      refine bodyPost_ret (results_blk rfl rowCt rfl (H.out.blk 1 rfl) rfl) rfl ?_
      rw [HT.out]
      exact catPost_nil H.out.to

end Go.Proofs.Ytnekknemjhlgdaa

namespace Go.Proofs.Ytnekknemjhlgdaa
open Go.RowKit
set_option linter.unusedVariables false
set_option linter.unusedSimpArgs false


/-- The second number of a total. -/
def ptotB (a : Int) (l : List UInt8) : PR (Int × Int) := match pint l with
  | .error k => .error k
  | .ok (b, l2) => .ok ((a, b), l2)
theorem nxt_tot {s : List UInt8} {t k t1 k1 t2 k2 a b : Int} (h : Nxt s pint t k t1 k1 a) (h2 : Nxt s pint t1 k1 t2 k2 b) : Nxt s ptot t k t2 k2 (a, b) :=
  h.bind (q := ptotB a) (h2.image (fun l e h => by unfold ptotB; rw [h]) (fun l l' h => by unfold ptotB; rw [h])) (fun l e h => by unfold ptot; rw [h]) (fun l l' h => by unfold ptot ptotB; rw [h]; rfl)
/-- The totals behind the number of facts. -/
def oTots (m : Nat) (o : PR Nat) : PR (List (Int × Int)) := match o with
  | .error e => .error e
  | .ok (_, r) => pmany ptot m [] r
theorem LInv.startT {s : List UInt8} {o : PR Nat} {t k : Int} {m fa : Nat} (h : SRes s o t k fa) : LInv s (oTots m o) ptot m 0 [] t k := by
  rcases h with ⟨h1, h2⟩ | ⟨h1, tn, h3, h4, h2⟩
  · exact .inl ⟨h1, by unfold oTots; rw [h2]⟩
  · exact .inr ⟨h1, tn, h3, h4, by unfold oTots; rw [h2]; rfl⟩
theorem pcat1_of {sc : SC} {o : PR Nat} {s : List UInt8} {t k : Int} {fa : Nat} (h : SRes s o t k fa) : pcat1 sc o = pcat2 sc fa (oTots sc.ms.length o) := by
  rcases h with ⟨_, h2⟩ | ⟨_, tn, _, _, h2⟩
  · rw [h2]; rfl
  · rw [h2]; rfl

end Go.Proofs.Ytnekknemjhlgdaa

namespace Go.Proofs.Ytnekknemjhlgdaa
open Go.RowKit
set_option linter.unusedVariables false
set_option linter.unusedSimpArgs false


set_option maxRecDepth 100000 in
set_option maxHeartbeats 4000000 in
theorem rcattake_any (s : List UInt8) (w : World) (hs : s.length ≤ 1000001) :
    Calls Try.prog 25 #[.string ⟨s.toArray⟩] w (CatPost (cattake s) w) := by
  have H := Lib.hid (((SL.start No w).alloc #[.slice none 0 0, .slice none 0 0, .int .i64 0, .int .i64 0, .int .i64 0, .int .i64 0, .int .i64 0, .int .i64 0, .int .i64 0] 30).alloc #[.slice none 0 0, .slice none 0 0, .int .i64 0, .int .i64 0, .int .i64 0, .int .i64 0, .int .i64 0, .int .i64 0, .int .i64 0] 30)
  (try simp only [List.set_cons_zero, List.set_cons_succ, List.cons_append, List.nil_append, List.eraseIdx_cons_zero, List.eraseIdx_cons_succ, List.setIfInBounds_toArray, World.size_alloc, selR, List.getD_cons_zero, List.getD_cons_succ] at H)
  go_enter Try.func25, Try.ntmps25
  go_upto_region 2 with fail
  generalize w.heap.size + 1 = g at *
  generalize w.heap.size = y at *
  generalize World.alloc (World.alloc _ _) _ = w1 at *
  go_wp2_with fail
  refine (rschread_any s 0 _ hs (Nat.zero_le _)).mono ?_; rintro e w3 ⟨t, k, D, rfl, hb3, hS, hN⟩
  by_cases hk : k = 0
  · subst hk
    obtain ⟨tn, rfl, htn, hps⟩ : ∃ tn : Nat, t = tn ∧ tn ≤ s.length ∧ psch s = .ok (D.con, s.drop tn) := by
      rcases hS.out with ⟨h, _⟩ | ⟨_, tn, h1, h2, h3⟩
      · exact absurd rfl h
      · exact ⟨tn, h1, h2, h3⟩
    have hN2 := hN rfl
    replace H := Lib.hid (H.out.add hb3 _ hN2.1 hN2.2); (try simp only [List.set_cons_zero, List.set_cons_succ, List.cons_append, List.nil_append, List.eraseIdx_cons_zero, List.eraseIdx_cons_succ, List.setIfInBounds_toArray, World.size_alloc, selR, List.getD_cons_zero, List.getD_cons_succ] at H)
    have hml : Hid (D.ms.l.length = D.ms.n) := hN2.1.now.rd.ms.len
    have HE1 : Hid (pcat s = pcat1 D.con (pnum 4000 (s.drop tn))) := by show _ = _; unfold pcat; rw [hps]
    have hsc := (psch_back hps).1
    clear hb3 hS hN hN2 hps
    obtain ⟨⟨B', m', d', es⟩, ⟨MB, mn, md, ms⟩⟩ := D
    simp only [Sch.cs, Sch.con] at *
    have hm3 : mn ≤ 3 := by have h : ms.length ≤ 3 := (schErr_zero hsc).2.2.2.2.1; have := hml.out; omega
    clear hsc
    have HNN := Lib.hid (fun w => rnumN_any s tn 0 4000 (Or.inr ⟨rfl, tn, rfl, htn⟩) hs (by omega) (by omega) w)
    go_wp2_with (first | ((with_reducible show wpList _ _ _ (⟨_, .store _ (.tmp 5) _, _, _, _, _⟩ :: _) _ _); (replace H := Lib.hid ((H.out.alloc (scs [] 0 0) 161).alloc #[.slice none 0 0, .slice none 0 0] 25); (try simp only [List.set_cons_zero, List.set_cons_succ, List.cons_append, List.nil_append, List.eraseIdx_cons_zero, List.eraseIdx_cons_succ, List.setIfInBounds_toArray, World.size_alloc, selR, List.getD_cons_zero, List.getD_cons_succ] at H); refine wpList_store_blk rfl rowScn (.tmp 5) (.tmp 16) rfl _ rfl (H.out.blk 3 rfl) rfl (scs s tn 0) rfl rfl (scs_one _ _ _) ?_; intro wq bq hgq; replace H := Lib.hid (H.out.setBlk 3 rfl hgq bq); (try simp only [List.set_cons_zero, List.set_cons_succ, List.cons_append, List.nil_append, List.eraseIdx_cons_zero, List.eraseIdx_cons_succ, List.setIfInBounds_toArray, World.size_alloc, selR, List.getD_cons_zero, List.getD_cons_succ] at H); clear hgq bq)) | ((with_reducible show wpList _ _ _ (⟨_, .store _ (.tmp 6) _, _, _, _, _⟩ :: _) _ _); (refine wpList_store_blk rfl rowSch (.tmp 6) (.tmp 17) rfl _ rfl (H.out.blk 4 rfl) rfl (#[.slice B' m' d', .slice MB mn md]) rfl rfl (by simp [Value.oneCell']) ?_; intro wq bq hgq; replace H := Lib.hid (H.out.setBlk 4 rfl hgq bq); (try simp only [List.set_cons_zero, List.set_cons_succ, List.cons_append, List.nil_append, List.eraseIdx_cons_zero, List.eraseIdx_cons_succ, List.setIfInBounds_toArray, World.size_alloc, selR, List.getD_cons_zero, List.getD_cons_succ] at H); clear hgq bq)) | ((with_reducible show wpList _ _ _ (⟨some 18, _, _, _, _, _⟩ :: _) _ _); (refine wpList_load_blk rfl rowSch (.tmp 6) rfl _ rfl (H.out.blk 4 rfl) rfl ?_)) | ((with_reducible show wpList _ _ _ (⟨_, .store _ (.tmp 19) _, _, _, _, _⟩ :: _) _ _); refine wpList_store_at rfl rowSch (.tmp 19) (.tmp 18) rfl g 0 rfl (H.out.blk 1 rfl) #[.slice B' m' d', .slice MB mn md] rfl (by simp) rfl (by simp [Value.oneCell']) ?_; intro wq bq hgq; replace bq : Blk wq g 30 #[.slice B' m' d', .slice MB mn md, .int .i64 0, .int .i64 0, .int .i64 0, .int .i64 0, .int .i64 0, .int .i64 0, .int .i64 0] := bq; replace H := Lib.hid (H.out.setBlk 1 rfl hgq bq); (try simp only [List.set_cons_zero, List.set_cons_succ, List.cons_append, List.nil_append, List.eraseIdx_cons_zero, List.eraseIdx_cons_succ, List.setIfInBounds_toArray, World.size_alloc, selR, List.getD_cons_zero, List.getD_cons_succ] at H); clear hgq bq) | ((with_reducible show wpList _ _ _ (⟨some 21, _, _, _, _, _⟩ :: _) _ _); (refine wpList_load_blk rfl rowScn (.tmp 5) rfl _ rfl (H.out.blk 3 rfl) rfl ?_)))
    refine (HNN.out _).mono ?_; rintro e w5 ⟨t1, k1, fa, rfl, hb5, hfa, hNx⟩
    replace H := Lib.hid (H.out.bel hb5); (try simp only [List.set_cons_zero, List.set_cons_succ, List.cons_append, List.nil_append, List.eraseIdx_cons_zero, List.eraseIdx_cons_succ, List.setIfInBounds_toArray, World.size_alloc, selR, List.getD_cons_zero, List.getD_cons_succ] at H)
    have hSR : Hid (SRes s (pnum 4000 (s.drop tn)) t1 k1 fa) := by
      rcases hNx.out with ⟨h, _⟩ | ⟨_, tm, h1, _, h3⟩
      · exact absurd rfl h
      · obtain rfl : tm = tn := by omega
        exact h3
    have HE2 : Hid (pcat s = pcat2 ⟨es.map Dm.con, ms⟩ fa (oTots mn (pnum 4000 (s.drop tn)))) := by show _ = _; rw [HE1.out, pcat1_of hSR.out, ← hml.out]
    have HL : Hid (LInv s (oTots mn (pnum 4000 (s.drop tn))) ptot mn 0 [] t1 k1) := LInv.startT hSR.out
    clear hb5 HNN hNx hSR HE1
    generalize oTots mn (pnum 4000 (s.drop tn)) = oo at *
    go_upto_region 5 with ((with_reducible show wpList _ _ _ (⟨_, .store _ (.tmp 5) _, _, _, _, _⟩ :: _) _ _); (refine wpList_store_blk rfl rowScn (.tmp 5) (.tmp 23) rfl _ rfl (H.out.blk 3 rfl) rfl (scs s t1 k1) rfl rfl (scs_one _ _ _) ?_; intro wq bq hgq; replace H := Lib.hid (H.out.setBlk 3 rfl hgq bq); (try simp only [List.set_cons_zero, List.set_cons_succ, List.cons_append, List.nil_append, List.eraseIdx_cons_zero, List.eraseIdx_cons_succ, List.setIfInBounds_toArray, World.size_alloc, selR, List.getD_cons_zero, List.getD_cons_succ] at H); clear hgq bq; have cf := (H.out.blk 1 rfl).cell 2; simp only [List.getElem?_toArray, List.getElem?_cons_zero, List.getElem?_cons_succ] at cf; have ff := (H.out.blk 1 rfl).frozen 2))
    (try simp only [Act.put, List.setIfInBounds_toArray, List.set_cons_zero, List.set_cons_succ])
    replace H := Lib.hid (H.out.setCell 1 rfl 2 (.int .i64 (fa : Nat))); (try simp only [List.set_cons_zero, List.set_cons_succ, List.cons_append, List.nil_append, List.eraseIdx_cons_zero, List.eraseIdx_cons_succ, List.setIfInBounds_toArray, World.size_alloc, selR, List.getD_cons_zero, List.getD_cons_succ] at H)
    clear cf ff
    generalize World.setCell _ _ _ = w6 at *
    generalize w3.heap.size + 1 = z2 at *
    generalize w3.heap.size = z1 at *
    have ifa : I64 (fa : Int) := by unfold I64; omega
    have HI0 : Hid (Ct.ints ⟨⟨⟨B', m', d', es⟩, ⟨MB, mn, md, ms⟩⟩, fa, (([] : List (Int × Int)).getD 0 (0, 0)).1, (([] : List (Int × Int)).getD 0 (0, 0)).2, (([] : List (Int × Int)).getD 1 (0, 0)).1, (([] : List (Int × Int)).getD 1 (0, 0)).2, (([] : List (Int × Int)).getD 2 (0, 0)).1, (([] : List (Int × Int)).getD 2 (0, 0)).2⟩) := ⟨ifa, i64_zero, i64_zero, i64_zero, i64_zero, i64_zero, i64_zero⟩
    go_wp2_with fail
    go_loopg [7] mn (fun gg i wr => ∃ (k : Nat) (ts : List (Int × Int)) (t kk : Int), gg = mn - k ∧ k ≤ mn ∧ i = .int .i64 k ∧ Hid (ts.length = k) ∧ Hid (SL No w wr [rBlk y 30 #[.slice none 0 0, .slice none 0 0, .int .i64 0, .int .i64 0, .int .i64 0, .int .i64 0, .int .i64 0, .int .i64 0, .int .i64 0], rBlk g 30 #[.slice B' m' d', .slice MB mn md, .int .i64 (fa : Nat), .int .i64 (ts.getD 0 (0, 0)).1, .int .i64 (ts.getD 0 (0, 0)).2, .int .i64 (ts.getD 1 (0, 0)).1, .int .i64 (ts.getD 1 (0, 0)).2, .int .i64 (ts.getD 2 (0, 0)).1, .int .i64 (ts.getD 2 (0, 0)).2], rSch ⟨⟨B', m', d', es⟩, ⟨MB, mn, md, ms⟩⟩, rBlk z1 161 (scs s t kk), rBlk z2 25 #[.slice B' m' d', .slice MB mn md]]) ∧ Hid (LInv s oo ptot mn k ts t kk) ∧ Hid (Ct.ints ⟨⟨⟨B', m', d', es⟩, ⟨MB, mn, md, ms⟩⟩, fa, (ts.getD 0 (0, 0)).1, (ts.getD 0 (0, 0)).2, (ts.getD 1 (0, 0)).1, (ts.getD 1 (0, 0)).2, (ts.getD 2 (0, 0)).1, (ts.getD 2 (0, 0)).2⟩))
    case atStart => exact ⟨0, [], t1, k1, rfl, by omega, rfl, rfl, H, HL, HI0⟩
    case round =>
      clear H HL HI0
      obtain ⟨k, ts, t, kk, hgk, hk, rfl, hts, H, HL, HI⟩ := hrel
      have Hgk := Lib.hid hgk
      clear hgk
      have ce := (H.out.blk 3 rfl).cell 2; simp only [List.getElem?_toArray, List.getElem?_cons_zero, List.getElem?_cons_succ] at ce
      have cm := (H.out.blk 4 rfl).cell 1; simp only [List.getElem?_toArray, List.getElem?_cons_zero, List.getElem?_cons_succ] at cm
      by_cases hkk : kk = 0
      · subst hkk
        by_cases hlt : k < mn
        · have j1 : (k : Int) < mn := by omega
          obtain rfl | rfl | rfl : k = 0 ∨ k = 1 ∨ k = 2 := by omega
          · obtain rfl : ts = [] := List.eq_nil_of_length_eq_zero hts.out
            rw [show ((0 : Nat) : Int) = 0 from rfl] at j1 ⊢
            obtain ⟨tn, rfl, htn, _⟩ := HL.out.good
            have HA := Lib.hid (fun w => rintN_any s tn 0 (Or.inr ⟨rfl, tn, rfl, htn⟩) hs w)
            go_wp2_with ((with_reducible show wpList _ _ _ (⟨some 39, _, _, _, _, _⟩ :: _) _ _); (refine wpList_load_blk rfl rowScn (.tmp 5) rfl _ rfl (H.out.blk 3 rfl) rfl ?_))
            refine (HA.out _).mono ?_; rintro e w7 ⟨ta, ka, a, rfl, hb7, ia, hna⟩
            replace H := Lib.hid (H.out.bel hb7); (try simp only [List.set_cons_zero, List.set_cons_succ, List.cons_append, List.nil_append, List.eraseIdx_cons_zero, List.eraseIdx_cons_succ, List.setIfInBounds_toArray, World.size_alloc, selR, List.getD_cons_zero, List.getD_cons_succ] at H)
            clear hb7 HA ce cm
            have HA := Lib.hid (fun w => rintN_any s ta ka hna.out.st hs w)
            go_upto_region 9 with ((with_reducible show wpList _ _ _ (⟨_, .store _ (.tmp 8) _, _, _, _, _⟩ :: _) _ _); (refine wpList_store_new rfl rowScn (.tmp 8) (.tmp 41) rfl rfl rfl (scs s ta ka) rfl rfl (scs_one _ _ _) ?_; replace H := Lib.hid (H.out.alloc (scs s ta ka) 161); (try simp only [List.set_cons_zero, List.set_cons_succ, List.cons_append, List.nil_append, List.eraseIdx_cons_zero, List.eraseIdx_cons_succ, List.setIfInBounds_toArray, World.size_alloc, selR, List.getD_cons_zero, List.getD_cons_succ] at H)))
            (try simp only [Act.put, List.setIfInBounds_toArray, List.set_cons_zero, List.set_cons_succ])
            generalize w7.heap.size = z3 at *
            generalize World.alloc w7 _ = w8 at *
            go_wp2_with ((with_reducible show wpList _ _ _ (⟨some 44, _, _, _, _, _⟩ :: _) _ _); (refine wpList_load_blk rfl rowScn (.tmp 8) rfl _ rfl (H.out.blk 5 rfl) rfl ?_))
            refine (HA.out _).mono ?_; rintro e w9 ⟨tb, kb, b, rfl, hb9, ib, hnb⟩
            replace H := Lib.hid (H.out.bel hb9); (try simp only [List.set_cons_zero, List.set_cons_succ, List.cons_append, List.nil_append, List.eraseIdx_cons_zero, List.eraseIdx_cons_succ, List.setIfInBounds_toArray, World.size_alloc, selR, List.getD_cons_zero, List.getD_cons_succ] at H)
            have HLN : Hid (LInv s oo ptot mn (0 + 1) [(a, b)] tb kb) := HL.out.next hlt (nxt_tot hna.out hnb.out)
            have HI2 : Hid (Ct.ints ⟨⟨⟨B', m', d', es⟩, ⟨MB, mn, md, ms⟩⟩, fa, ([(a, b)].getD 0 (0, 0)).1, ([(a, b)].getD 0 (0, 0)).2, ([(a, b)].getD 1 (0, 0)).1, ([(a, b)].getD 1 (0, 0)).2, ([(a, b)].getD 2 (0, 0)).1, ([(a, b)].getD 2 (0, 0)).2⟩) := ⟨HI.out.1, ia, ib, HI.out.2.2.2.1, HI.out.2.2.2.2.1, HI.out.2.2.2.2.2.1, HI.out.2.2.2.2.2.2⟩
            clear hb9 HA hna hnb HL
            go_wp2_with (first | ((with_reducible show wpList _ _ _ (⟨_, .store _ (.tmp 8) _, _, _, _, _⟩ :: _) _ _); (refine wpList_store_blk rfl rowScn (.tmp 8) (.tmp 46) rfl _ rfl (H.out.blk 5 rfl) rfl (scs s tb kb) rfl rfl (scs_one _ _ _) ?_; intro wq bq hgq; replace H := Lib.hid (H.out.setBlk 5 rfl hgq bq); (try simp only [List.set_cons_zero, List.set_cons_succ, List.cons_append, List.nil_append, List.eraseIdx_cons_zero, List.eraseIdx_cons_succ, List.setIfInBounds_toArray, World.size_alloc, selR, List.getD_cons_zero, List.getD_cons_succ] at H); clear hgq bq)) | ((with_reducible show wpList _ _ _ (⟨some 48, _, _, _, _, _⟩ :: _) _ _); (refine wpList_load_blk rfl rowScn (.tmp 8) rfl _ rfl (H.out.blk 5 rfl) rfl ?_)) | ((with_reducible show wpList _ _ _ (⟨_, .store _ (.tmp 5) _, _, _, _, _⟩ :: _) _ _); (refine wpList_store_blk rfl rowScn (.tmp 5) (.tmp 48) rfl _ rfl (H.out.blk 3 rfl) rfl (scs s tb kb) rfl rfl (scs_one _ _ _) ?_; intro wq bq hgq; replace H := Lib.hid (H.out.setBlk 3 rfl hgq bq); (try simp only [List.set_cons_zero, List.set_cons_succ, List.cons_append, List.nil_append, List.eraseIdx_cons_zero, List.eraseIdx_cons_succ, List.setIfInBounds_toArray, World.size_alloc, selR, List.getD_cons_zero, List.getD_cons_succ] at H); clear hgq bq)) | ((with_reducible show wpList _ _ _ (⟨_, .store _ (.tmp 54) _, _, _, _, _⟩ :: _) _ _); refine wpList_store_at rfl rowTt (.tmp 54) (.tmp 52) rfl g 3 rfl (H.out.blk 1 rfl) #[.int .i64 a, .int .i64 b] rfl (by simp) rfl (by simp [Value.oneCell']) ?_; intro wq bq hgq; replace bq : Blk wq g 30 #[.slice B' m' d', .slice MB mn md, .int .i64 (fa : Nat), .int .i64 ([(a, b)].getD 0 (0, 0)).1, .int .i64 ([(a, b)].getD 0 (0, 0)).2, .int .i64 ([(a, b)].getD 1 (0, 0)).1, .int .i64 ([(a, b)].getD 1 (0, 0)).2, .int .i64 ([(a, b)].getD 2 (0, 0)).1, .int .i64 ([(a, b)].getD 2 (0, 0)).2] := bq; replace H := Lib.hid (H.out.setBlk 1 rfl hgq bq); (try simp only [List.set_cons_zero, List.set_cons_succ, List.cons_append, List.nil_append, List.eraseIdx_cons_zero, List.eraseIdx_cons_succ, List.setIfInBounds_toArray, World.size_alloc, selR, List.getD_cons_zero, List.getD_cons_succ] at H); clear hgq bq))
            replace H := Lib.hid (H.out.sel [0, 1, 2, 3, 4] (by decide) (by simp)); (try simp only [List.set_cons_zero, List.set_cons_succ, List.cons_append, List.nil_append, List.eraseIdx_cons_zero, List.eraseIdx_cons_succ, List.setIfInBounds_toArray, World.size_alloc, selR, List.getD_cons_zero, List.getD_cons_succ] at H)
            go_roundg (mn - (0 + 1))
            case rel => exact ⟨0 + 1, [(a, b)], tb, kb, rfl, by omega, rfl, rfl, H, HLN, HI2⟩
            case measure => rw [Hgk.out]; omega
          · obtain ⟨t0, rfl⟩ : ∃ t0, ts = [t0] := by match ts, hts.out with | [x], _ => exact ⟨x, rfl⟩
            rw [show ((1 : Nat) : Int) = 1 from rfl] at j1 ⊢
            obtain ⟨tn, rfl, htn, _⟩ := HL.out.good
            have HA := Lib.hid (fun w => rintN_any s tn 0 (Or.inr ⟨rfl, tn, rfl, htn⟩) hs w)
            go_wp2_with ((with_reducible show wpList _ _ _ (⟨some 39, _, _, _, _, _⟩ :: _) _ _); (refine wpList_load_blk rfl rowScn (.tmp 5) rfl _ rfl (H.out.blk 3 rfl) rfl ?_))
            refine (HA.out _).mono ?_; rintro e w7 ⟨ta, ka, a, rfl, hb7, ia, hna⟩
            replace H := Lib.hid (H.out.bel hb7); (try simp only [List.set_cons_zero, List.set_cons_succ, List.cons_append, List.nil_append, List.eraseIdx_cons_zero, List.eraseIdx_cons_succ, List.setIfInBounds_toArray, World.size_alloc, selR, List.getD_cons_zero, List.getD_cons_succ] at H)
            clear hb7 HA ce cm
            have HA := Lib.hid (fun w => rintN_any s ta ka hna.out.st hs w)
            go_upto_region 9 with ((with_reducible show wpList _ _ _ (⟨_, .store _ (.tmp 8) _, _, _, _, _⟩ :: _) _ _); (refine wpList_store_new rfl rowScn (.tmp 8) (.tmp 41) rfl rfl rfl (scs s ta ka) rfl rfl (scs_one _ _ _) ?_; replace H := Lib.hid (H.out.alloc (scs s ta ka) 161); (try simp only [List.set_cons_zero, List.set_cons_succ, List.cons_append, List.nil_append, List.eraseIdx_cons_zero, List.eraseIdx_cons_succ, List.setIfInBounds_toArray, World.size_alloc, selR, List.getD_cons_zero, List.getD_cons_succ] at H)))
            (try simp only [Act.put, List.setIfInBounds_toArray, List.set_cons_zero, List.set_cons_succ])
            generalize w7.heap.size = z3 at *
            generalize World.alloc w7 _ = w8 at *
            go_wp2_with ((with_reducible show wpList _ _ _ (⟨some 44, _, _, _, _, _⟩ :: _) _ _); (refine wpList_load_blk rfl rowScn (.tmp 8) rfl _ rfl (H.out.blk 5 rfl) rfl ?_))
            refine (HA.out _).mono ?_; rintro e w9 ⟨tb, kb, b, rfl, hb9, ib, hnb⟩
            replace H := Lib.hid (H.out.bel hb9); (try simp only [List.set_cons_zero, List.set_cons_succ, List.cons_append, List.nil_append, List.eraseIdx_cons_zero, List.eraseIdx_cons_succ, List.setIfInBounds_toArray, World.size_alloc, selR, List.getD_cons_zero, List.getD_cons_succ] at H)
            have HLN : Hid (LInv s oo ptot mn (1 + 1) [t0, (a, b)] tb kb) := HL.out.next hlt (nxt_tot hna.out hnb.out)
            have HI2 : Hid (Ct.ints ⟨⟨⟨B', m', d', es⟩, ⟨MB, mn, md, ms⟩⟩, fa, ([t0, (a, b)].getD 0 (0, 0)).1, ([t0, (a, b)].getD 0 (0, 0)).2, ([t0, (a, b)].getD 1 (0, 0)).1, ([t0, (a, b)].getD 1 (0, 0)).2, ([t0, (a, b)].getD 2 (0, 0)).1, ([t0, (a, b)].getD 2 (0, 0)).2⟩) := ⟨HI.out.1, HI.out.2.1, HI.out.2.2.1, ia, ib, HI.out.2.2.2.2.2.1, HI.out.2.2.2.2.2.2⟩
            clear hb9 HA hna hnb HL
            go_wp2_with (first | ((with_reducible show wpList _ _ _ (⟨_, .store _ (.tmp 8) _, _, _, _, _⟩ :: _) _ _); (refine wpList_store_blk rfl rowScn (.tmp 8) (.tmp 46) rfl _ rfl (H.out.blk 5 rfl) rfl (scs s tb kb) rfl rfl (scs_one _ _ _) ?_; intro wq bq hgq; replace H := Lib.hid (H.out.setBlk 5 rfl hgq bq); (try simp only [List.set_cons_zero, List.set_cons_succ, List.cons_append, List.nil_append, List.eraseIdx_cons_zero, List.eraseIdx_cons_succ, List.setIfInBounds_toArray, World.size_alloc, selR, List.getD_cons_zero, List.getD_cons_succ] at H); clear hgq bq)) | ((with_reducible show wpList _ _ _ (⟨some 48, _, _, _, _, _⟩ :: _) _ _); (refine wpList_load_blk rfl rowScn (.tmp 8) rfl _ rfl (H.out.blk 5 rfl) rfl ?_)) | ((with_reducible show wpList _ _ _ (⟨_, .store _ (.tmp 5) _, _, _, _, _⟩ :: _) _ _); (refine wpList_store_blk rfl rowScn (.tmp 5) (.tmp 48) rfl _ rfl (H.out.blk 3 rfl) rfl (scs s tb kb) rfl rfl (scs_one _ _ _) ?_; intro wq bq hgq; replace H := Lib.hid (H.out.setBlk 3 rfl hgq bq); (try simp only [List.set_cons_zero, List.set_cons_succ, List.cons_append, List.nil_append, List.eraseIdx_cons_zero, List.eraseIdx_cons_succ, List.setIfInBounds_toArray, World.size_alloc, selR, List.getD_cons_zero, List.getD_cons_succ] at H); clear hgq bq)) | ((with_reducible show wpList _ _ _ (⟨_, .store _ (.tmp 54) _, _, _, _, _⟩ :: _) _ _); refine wpList_store_at rfl rowTt (.tmp 54) (.tmp 52) rfl g 5 rfl (H.out.blk 1 rfl) #[.int .i64 a, .int .i64 b] rfl (by simp) rfl (by simp [Value.oneCell']) ?_; intro wq bq hgq; replace bq : Blk wq g 30 #[.slice B' m' d', .slice MB mn md, .int .i64 (fa : Nat), .int .i64 ([t0, (a, b)].getD 0 (0, 0)).1, .int .i64 ([t0, (a, b)].getD 0 (0, 0)).2, .int .i64 ([t0, (a, b)].getD 1 (0, 0)).1, .int .i64 ([t0, (a, b)].getD 1 (0, 0)).2, .int .i64 ([t0, (a, b)].getD 2 (0, 0)).1, .int .i64 ([t0, (a, b)].getD 2 (0, 0)).2] := bq; replace H := Lib.hid (H.out.setBlk 1 rfl hgq bq); (try simp only [List.set_cons_zero, List.set_cons_succ, List.cons_append, List.nil_append, List.eraseIdx_cons_zero, List.eraseIdx_cons_succ, List.setIfInBounds_toArray, World.size_alloc, selR, List.getD_cons_zero, List.getD_cons_succ] at H); clear hgq bq))
            replace H := Lib.hid (H.out.sel [0, 1, 2, 3, 4] (by decide) (by simp)); (try simp only [List.set_cons_zero, List.set_cons_succ, List.cons_append, List.nil_append, List.eraseIdx_cons_zero, List.eraseIdx_cons_succ, List.setIfInBounds_toArray, World.size_alloc, selR, List.getD_cons_zero, List.getD_cons_succ] at H)
            go_roundg (mn - (1 + 1))
            case rel => exact ⟨1 + 1, [t0, (a, b)], tb, kb, rfl, by omega, rfl, rfl, H, HLN, HI2⟩
            case measure => rw [Hgk.out]; omega
          · obtain ⟨t0, t1, rfl⟩ : ∃ t0 t1, ts = [t0, t1] := by match ts, hts.out with | [x, y], _ => exact ⟨x, y, rfl⟩
            rw [show ((2 : Nat) : Int) = 2 from rfl] at j1 ⊢
            obtain ⟨tn, rfl, htn, _⟩ := HL.out.good
            have HA := Lib.hid (fun w => rintN_any s tn 0 (Or.inr ⟨rfl, tn, rfl, htn⟩) hs w)
            go_wp2_with ((with_reducible show wpList _ _ _ (⟨some 39, _, _, _, _, _⟩ :: _) _ _); (refine wpList_load_blk rfl rowScn (.tmp 5) rfl _ rfl (H.out.blk 3 rfl) rfl ?_))
            refine (HA.out _).mono ?_; rintro e w7 ⟨ta, ka, a, rfl, hb7, ia, hna⟩
            replace H := Lib.hid (H.out.bel hb7); (try simp only [List.set_cons_zero, List.set_cons_succ, List.cons_append, List.nil_append, List.eraseIdx_cons_zero, List.eraseIdx_cons_succ, List.setIfInBounds_toArray, World.size_alloc, selR, List.getD_cons_zero, List.getD_cons_succ] at H)
            clear hb7 HA ce cm
            have HA := Lib.hid (fun w => rintN_any s ta ka hna.out.st hs w)
            go_upto_region 9 with ((with_reducible show wpList _ _ _ (⟨_, .store _ (.tmp 8) _, _, _, _, _⟩ :: _) _ _); (refine wpList_store_new rfl rowScn (.tmp 8) (.tmp 41) rfl rfl rfl (scs s ta ka) rfl rfl (scs_one _ _ _) ?_; replace H := Lib.hid (H.out.alloc (scs s ta ka) 161); (try simp only [List.set_cons_zero, List.set_cons_succ, List.cons_append, List.nil_append, List.eraseIdx_cons_zero, List.eraseIdx_cons_succ, List.setIfInBounds_toArray, World.size_alloc, selR, List.getD_cons_zero, List.getD_cons_succ] at H)))
            (try simp only [Act.put, List.setIfInBounds_toArray, List.set_cons_zero, List.set_cons_succ])
            generalize w7.heap.size = z3 at *
            generalize World.alloc w7 _ = w8 at *
            go_wp2_with ((with_reducible show wpList _ _ _ (⟨some 44, _, _, _, _, _⟩ :: _) _ _); (refine wpList_load_blk rfl rowScn (.tmp 8) rfl _ rfl (H.out.blk 5 rfl) rfl ?_))
            refine (HA.out _).mono ?_; rintro e w9 ⟨tb, kb, b, rfl, hb9, ib, hnb⟩
            replace H := Lib.hid (H.out.bel hb9); (try simp only [List.set_cons_zero, List.set_cons_succ, List.cons_append, List.nil_append, List.eraseIdx_cons_zero, List.eraseIdx_cons_succ, List.setIfInBounds_toArray, World.size_alloc, selR, List.getD_cons_zero, List.getD_cons_succ] at H)
            have HLN : Hid (LInv s oo ptot mn (2 + 1) [t0, t1, (a, b)] tb kb) := HL.out.next hlt (nxt_tot hna.out hnb.out)
            have HI2 : Hid (Ct.ints ⟨⟨⟨B', m', d', es⟩, ⟨MB, mn, md, ms⟩⟩, fa, ([t0, t1, (a, b)].getD 0 (0, 0)).1, ([t0, t1, (a, b)].getD 0 (0, 0)).2, ([t0, t1, (a, b)].getD 1 (0, 0)).1, ([t0, t1, (a, b)].getD 1 (0, 0)).2, ([t0, t1, (a, b)].getD 2 (0, 0)).1, ([t0, t1, (a, b)].getD 2 (0, 0)).2⟩) := ⟨HI.out.1, HI.out.2.1, HI.out.2.2.1, HI.out.2.2.2.1, HI.out.2.2.2.2.1, ia, ib⟩
            clear hb9 HA hna hnb HL
            go_wp2_with (first | ((with_reducible show wpList _ _ _ (⟨_, .store _ (.tmp 8) _, _, _, _, _⟩ :: _) _ _); (refine wpList_store_blk rfl rowScn (.tmp 8) (.tmp 46) rfl _ rfl (H.out.blk 5 rfl) rfl (scs s tb kb) rfl rfl (scs_one _ _ _) ?_; intro wq bq hgq; replace H := Lib.hid (H.out.setBlk 5 rfl hgq bq); (try simp only [List.set_cons_zero, List.set_cons_succ, List.cons_append, List.nil_append, List.eraseIdx_cons_zero, List.eraseIdx_cons_succ, List.setIfInBounds_toArray, World.size_alloc, selR, List.getD_cons_zero, List.getD_cons_succ] at H); clear hgq bq)) | ((with_reducible show wpList _ _ _ (⟨some 48, _, _, _, _, _⟩ :: _) _ _); (refine wpList_load_blk rfl rowScn (.tmp 8) rfl _ rfl (H.out.blk 5 rfl) rfl ?_)) | ((with_reducible show wpList _ _ _ (⟨_, .store _ (.tmp 5) _, _, _, _, _⟩ :: _) _ _); (refine wpList_store_blk rfl rowScn (.tmp 5) (.tmp 48) rfl _ rfl (H.out.blk 3 rfl) rfl (scs s tb kb) rfl rfl (scs_one _ _ _) ?_; intro wq bq hgq; replace H := Lib.hid (H.out.setBlk 3 rfl hgq bq); (try simp only [List.set_cons_zero, List.set_cons_succ, List.cons_append, List.nil_append, List.eraseIdx_cons_zero, List.eraseIdx_cons_succ, List.setIfInBounds_toArray, World.size_alloc, selR, List.getD_cons_zero, List.getD_cons_succ] at H); clear hgq bq)) | ((with_reducible show wpList _ _ _ (⟨_, .store _ (.tmp 54) _, _, _, _, _⟩ :: _) _ _); refine wpList_store_at rfl rowTt (.tmp 54) (.tmp 52) rfl g 7 rfl (H.out.blk 1 rfl) #[.int .i64 a, .int .i64 b] rfl (by simp) rfl (by simp [Value.oneCell']) ?_; intro wq bq hgq; replace bq : Blk wq g 30 #[.slice B' m' d', .slice MB mn md, .int .i64 (fa : Nat), .int .i64 ([t0, t1, (a, b)].getD 0 (0, 0)).1, .int .i64 ([t0, t1, (a, b)].getD 0 (0, 0)).2, .int .i64 ([t0, t1, (a, b)].getD 1 (0, 0)).1, .int .i64 ([t0, t1, (a, b)].getD 1 (0, 0)).2, .int .i64 ([t0, t1, (a, b)].getD 2 (0, 0)).1, .int .i64 ([t0, t1, (a, b)].getD 2 (0, 0)).2] := bq; replace H := Lib.hid (H.out.setBlk 1 rfl hgq bq); (try simp only [List.set_cons_zero, List.set_cons_succ, List.cons_append, List.nil_append, List.eraseIdx_cons_zero, List.eraseIdx_cons_succ, List.setIfInBounds_toArray, World.size_alloc, selR, List.getD_cons_zero, List.getD_cons_succ] at H); clear hgq bq))
            replace H := Lib.hid (H.out.sel [0, 1, 2, 3, 4] (by decide) (by simp)); (try simp only [List.set_cons_zero, List.set_cons_succ, List.cons_append, List.nil_append, List.eraseIdx_cons_zero, List.eraseIdx_cons_succ, List.setIfInBounds_toArray, World.size_alloc, selR, List.getD_cons_zero, List.getD_cons_succ] at H)
            go_roundg (mn - (2 + 1))
            case rel => exact ⟨2 + 1, [t0, t1, (a, b)], tb, kb, rfl, by omega, rfl, rfl, H, HLN, HI2⟩
            case measure => rw [Hgk.out]; omega
        · obtain rfl : k = mn := by omega
          obtain ⟨tn, rfl, htn, hoo⟩ : ∃ tn : Nat, t = tn ∧ tn ≤ s.length ∧ oo = .ok (ts, s.drop tn) := by
            rcases HL.out.done (.inr (Nat.le_refl _)) with ⟨h, _⟩ | ⟨_, tn, h1, h2, h3⟩
            · exact absurd rfl h
            · exact ⟨tn, h1, h2, h3⟩
          have HE3 : Hid (pcat s = pcatC (mkCC ⟨es.map Dm.con, ms⟩ fa ts) (s.drop tn)) := by show _ = _; rw [HE2.out, hoo]; rfl
          have HWR := Lib.hid (fun w' h => catwrong_any ⟨⟨⟨B', m', d', es⟩, ⟨MB, k, md, ms⟩⟩, fa, (ts.getD 0 (0, 0)).1, (ts.getD 0 (0, 0)).2, (ts.getD 1 (0, 0)).1, (ts.getD 1 (0, 0)).2, (ts.getD 2 (0, 0)).1, (ts.getD 2 (0, 0)).2⟩ w' h)
          clear HL HE2 hoo
          rw [show Ct.con ⟨⟨⟨B', m', d', es⟩, ⟨MB, k, md, ms⟩⟩, fa, (ts.getD 0 (0, 0)).1, (ts.getD 0 (0, 0)).2, (ts.getD 1 (0, 0)).1, (ts.getD 1 (0, 0)).2, (ts.getD 2 (0, 0)).1, (ts.getD 2 (0, 0)).2⟩ = mkCC ⟨es.map Dm.con, ms⟩ fa ts from rfl] at HWR
          have HMK : Hid (Ct.con ⟨⟨⟨B', m', d', es⟩, ⟨MB, k, md, ms⟩⟩, fa, (ts.getD 0 (0, 0)).1, (ts.getD 0 (0, 0)).2, (ts.getD 1 (0, 0)).1, (ts.getD 1 (0, 0)).2, (ts.getD 2 (0, 0)).1, (ts.getD 2 (0, 0)).2⟩ = mkCC ⟨es.map Dm.con, ms⟩ fa ts) := rfl
          generalize mkCC ⟨es.map Dm.con, ms⟩ fa ts = M at *
          go_wp2_with ((with_reducible show wpList _ _ _ (⟨some 58, _, _, _, _, _⟩ :: _) _ _); (refine wpList_load_blk rfl rowCt (.tmp 4) rfl _ rfl (H.out.blk 1 rfl) rfl ?_))
          refine (HWR.out _ (HI.out.rd (H.out.at_ 2 rfl)) (small_of_own (H.out.at_ 2 rfl))).mono ?_; rintro e w7 ⟨rfl, hb7⟩
          replace H := Lib.hid (H.out.bel hb7); (try simp only [List.set_cons_zero, List.set_cons_succ, List.cons_append, List.nil_append, List.eraseIdx_cons_zero, List.eraseIdx_cons_succ, List.setIfInBounds_toArray, World.size_alloc, selR, List.getD_cons_zero, List.getD_cons_succ] at H)
          clear hb7 HWR ce cm
          have HT : Hid (cattake s = if endOf s tn (catErr M) = 0 then (M, 0) else (CC.nil, endOf s tn (catErr M))) := by
            show _ = _
            unfold cattake
            rw [HE3.out]
            unfold pcatC endOf
            by_cases h : catErr M = 0
            · simp only [h, if_true, ne_eq, not_true_eq_false, if_false]
              by_cases h2 : tn = s.length
              · simp [h2]
              · have h3 : ¬ s.drop tn = [] := by rw [List.drop_eq_nil_iff]; omega
                have h4 : ¬ ((tn : Int) = (s.length : Int)) := by omega
                simp only [h3, h4, if_false]
                rfl
            · simp [h]
          clear HE3
          generalize catErr M = E at *
          have cq := (H.out.blk 3 rfl).cell 2; simp only [List.getElem?_toArray, List.getElem?_cons_zero, List.getElem?_cons_succ] at cq; have fq := (H.out.blk 3 rfl).frozen 2
          go_wp2_with ((with_reducible show wpList _ _ _ (⟨some 61, _, _, _, _, _⟩ :: _) _ _); replace H := Lib.hid (H.out.setCell 3 rfl 2 (.int .i64 E)); (try simp only [List.set_cons_zero, List.set_cons_succ, List.cons_append, List.nil_append, List.eraseIdx_cons_zero, List.eraseIdx_cons_succ, List.setIfInBounds_toArray, World.size_alloc, selR, List.getD_cons_zero, List.getD_cons_succ] at H); clear cq fq; refine wpList_load_blk rfl rowScn (.tmp 5) rfl _ rfl (H.out.blk 3 rfl) rfl ?_)
          refine (rend_any s tn E _).mono ?_; rintro e w8 ⟨rfl, hb8⟩
          replace H := Lib.hid (H.out.bel hb8); (try simp only [List.set_cons_zero, List.set_cons_succ, List.cons_append, List.nil_append, List.eraseIdx_cons_zero, List.eraseIdx_cons_succ, List.setIfInBounds_toArray, World.size_alloc, selR, List.getD_cons_zero, List.getD_cons_succ] at H)
          clear hb8
          by_cases hK : endOf s tn E = 0
          · rw [hK] at HT ⊢
            have HT2 : Hid (cattake s = (M, 0)) := HT.out
            clear HT hK
            go_wp2_with (first | ((with_reducible show wpList _ _ _ (⟨some 67, _, _, _, _, _⟩ :: _) _ _); (refine wpList_load_blk rfl rowCt (.tmp 4) rfl _ rfl (H.out.blk 1 rfl) rfl ?_)) | ((with_reducible show wpList _ _ _ (⟨_, .store _ (.tmp 2) _, _, _, _, _⟩ :: _) _ _); (refine wpList_store_blk rfl rowCt (.tmp 2) (.tmp 67) rfl _ rfl (H.out.blk 0 rfl) rfl (#[.slice B' m' d', .slice MB k md, .int .i64 (fa : Nat), .int .i64 (ts.getD 0 (0, 0)).1, .int .i64 (ts.getD 0 (0, 0)).2, .int .i64 (ts.getD 1 (0, 0)).1, .int .i64 (ts.getD 1 (0, 0)).2, .int .i64 (ts.getD 2 (0, 0)).1, .int .i64 (ts.getD 2 (0, 0)).2]) rfl rfl (by simp [Value.oneCell']) ?_; intro wq bq hgq; replace H := Lib.hid (H.out.setBlk 0 rfl hgq bq); (try simp only [List.set_cons_zero, List.set_cons_succ, List.cons_append, List.nil_append, List.eraseIdx_cons_zero, List.eraseIdx_cons_succ, List.setIfInBounds_toArray, World.size_alloc, selR, List.getD_cons_zero, List.getD_cons_succ] at H); clear hgq bq)))
            refine bodyPost_ret (results_blk rfl rowCt rfl (H.out.blk 0 rfl) rfl) rfl ?_
            rw [HT2.out]
            exact ⟨⟨⟨⟨B', m', d', es⟩, ⟨MB, k, md, ms⟩⟩, fa, (ts.getD 0 (0, 0)).1, (ts.getD 0 (0, 0)).2, (ts.getD 1 (0, 0)).1, (ts.getD 1 (0, 0)).2, (ts.getD 2 (0, 0)).1, (ts.getD 2 (0, 0)).2⟩, rfl, HMK.out, HI.out.rd (H.out.at_ 2 rfl), small_of_own (H.out.at_ 2 rfl), H.out.to⟩
          · have HT2 : Hid (cattake s = (CC.nil, endOf s tn E)) := by show _ = _; rw [HT.out, if_neg hK]
            generalize endOf s tn E = K at *
            have dk : (K == 0) = false := by simpa using hK
            have dk2 : (K != 0) = true := by simpa using hK
            clear HT
            go_wp2_with ((with_reducible show wpList _ _ _ (⟨_, .store _ (.tmp 2) _, _, _, _, _⟩ :: _) _ _); (refine wpList_store_blk rfl rowCt (.tmp 2) (.tmp 65) rfl _ rfl (H.out.blk 0 rfl) rfl (#[.slice none 0 0, .slice none 0 0, .int .i64 0, .int .i64 0, .int .i64 0, .int .i64 0, .int .i64 0, .int .i64 0, .int .i64 0]) rfl rfl (by simp [Value.oneCell']) ?_; intro wq bq hgq; replace H := Lib.hid (H.out.setBlk 0 rfl hgq bq); (try simp only [List.set_cons_zero, List.set_cons_succ, List.cons_append, List.nil_append, List.eraseIdx_cons_zero, List.eraseIdx_cons_succ, List.setIfInBounds_toArray, World.size_alloc, selR, List.getD_cons_zero, List.getD_cons_succ] at H); clear hgq bq))
            refine bodyPost_ret (results_blk rfl rowCt rfl (H.out.blk 0 rfl) rfl) rfl ?_
            rw [HT2.out]
            exact catPost_nil H.out.to
      · have HT : Hid (cattake s = (CC.nil, kk)) := by
          show _ = _
          unfold cattake
          rw [HE2.out, HL.out.bad hkk]
          rfl
        have dk : (kk == 0) = false := by simpa using hkk
        have dk2 : (kk != 0) = true := by simpa using hkk
        have HEnd : Hid (endOf s t kk = kk) := by show _ = _; unfold endOf; rw [if_pos hkk]
        clear HL HE2
        go_wp2_with ((with_reducible show wpList _ _ _ (⟨some 61, _, _, _, _, _⟩ :: _) _ _); (refine wpList_load_blk rfl rowScn (.tmp 5) rfl _ rfl (H.out.blk 3 rfl) rfl ?_))
        refine (rend_any s t kk _).mono ?_; rintro e w7 ⟨rfl, hb7⟩
        replace H := Lib.hid (H.out.bel hb7); (try simp only [List.set_cons_zero, List.set_cons_succ, List.cons_append, List.nil_append, List.eraseIdx_cons_zero, List.eraseIdx_cons_succ, List.setIfInBounds_toArray, World.size_alloc, selR, List.getD_cons_zero, List.getD_cons_succ] at H)
        rw [HEnd.out]
        clear hb7 ce cm
        go_wp2_with ((with_reducible show wpList _ _ _ (⟨_, .store _ (.tmp 2) _, _, _, _, _⟩ :: _) _ _); (refine wpList_store_blk rfl rowCt (.tmp 2) (.tmp 65) rfl _ rfl (H.out.blk 0 rfl) rfl (#[.slice none 0 0, .slice none 0 0, .int .i64 0, .int .i64 0, .int .i64 0, .int .i64 0, .int .i64 0, .int .i64 0, .int .i64 0]) rfl rfl (by simp [Value.oneCell']) ?_; intro wq bq hgq; replace H := Lib.hid (H.out.setBlk 0 rfl hgq bq); (try simp only [List.set_cons_zero, List.set_cons_succ, List.cons_append, List.nil_append, List.eraseIdx_cons_zero, List.eraseIdx_cons_succ, List.setIfInBounds_toArray, World.size_alloc, selR, List.getD_cons_zero, List.getD_cons_succ] at H); clear hgq bq))
        refine bodyPost_ret (results_blk rfl rowCt rfl (H.out.blk 0 rfl) rfl) rfl ?_
        rw [HT.out]
        exact catPost_nil H.out.to
  · have HT : Hid (cattake s = (CC.nil, k)) := by
      have h2 : psch s = .error k := by rcases hS.out with ⟨_, h⟩ | ⟨h, _⟩; exact h; exact absurd h hk
      show _ = _
      unfold cattake pcat
      rw [h2]
    replace H := Lib.hid (H.out.bel hb3); (try simp only [List.set_cons_zero, List.set_cons_succ, List.cons_append, List.nil_append, List.eraseIdx_cons_zero, List.eraseIdx_cons_succ, List.setIfInBounds_toArray, World.size_alloc, selR, List.getD_cons_zero, List.getD_cons_succ] at H)
    clear hb3 hS hN
    obtain ⟨⟨B', m', d', es⟩, ⟨MB, mn, md, ms⟩⟩ := D
    simp only [Sch.cs] at *
    have dk : (k == 0) = false := by simpa using hk
    have dk2 : (k != 0) = true := by simpa using hk
    have HEnd : Hid (endOf s t k = k) := by show _ = _; unfold endOf; rw [if_pos hk]
    have HNB := Lib.hid (fun w => rnum_bad s t k 4000 hk w)
    go_wp2_with (first | ((with_reducible show wpList _ _ _ (⟨_, .store _ (.tmp 5) _, _, _, _, _⟩ :: _) _ _); (replace H := Lib.hid ((H.out.alloc (scs [] 0 0) 161).alloc #[.slice none 0 0, .slice none 0 0] 25); (try simp only [List.set_cons_zero, List.set_cons_succ, List.cons_append, List.nil_append, List.eraseIdx_cons_zero, List.eraseIdx_cons_succ, List.setIfInBounds_toArray, World.size_alloc, selR, List.getD_cons_zero, List.getD_cons_succ] at H); refine wpList_store_blk rfl rowScn (.tmp 5) (.tmp 16) rfl _ rfl (H.out.blk 2 rfl) rfl (scs s t k) rfl rfl (scs_one _ _ _) ?_; intro wq bq hgq; replace H := Lib.hid (H.out.setBlk 2 rfl hgq bq); (try simp only [List.set_cons_zero, List.set_cons_succ, List.cons_append, List.nil_append, List.eraseIdx_cons_zero, List.eraseIdx_cons_succ, List.setIfInBounds_toArray, World.size_alloc, selR, List.getD_cons_zero, List.getD_cons_succ] at H); clear hgq bq)) | ((with_reducible show wpList _ _ _ (⟨_, .store _ (.tmp 6) _, _, _, _, _⟩ :: _) _ _); (refine wpList_store_blk rfl rowSch (.tmp 6) (.tmp 17) rfl _ rfl (H.out.blk 3 rfl) rfl (#[.slice B' m' d', .slice MB mn md]) rfl rfl (by simp [Value.oneCell']) ?_; intro wq bq hgq; replace H := Lib.hid (H.out.setBlk 3 rfl hgq bq); (try simp only [List.set_cons_zero, List.set_cons_succ, List.cons_append, List.nil_append, List.eraseIdx_cons_zero, List.eraseIdx_cons_succ, List.setIfInBounds_toArray, World.size_alloc, selR, List.getD_cons_zero, List.getD_cons_succ] at H); clear hgq bq)) | ((with_reducible show wpList _ _ _ (⟨some 18, _, _, _, _, _⟩ :: _) _ _); (refine wpList_load_blk rfl rowSch (.tmp 6) rfl _ rfl (H.out.blk 3 rfl) rfl ?_)) | ((with_reducible show wpList _ _ _ (⟨_, .store _ (.tmp 19) _, _, _, _, _⟩ :: _) _ _); refine wpList_store_at rfl rowSch (.tmp 19) (.tmp 18) rfl g 0 rfl (H.out.blk 1 rfl) #[.slice B' m' d', .slice MB mn md] rfl (by simp) rfl (by simp [Value.oneCell']) ?_; intro wq bq hgq; replace bq : Blk wq g 30 #[.slice B' m' d', .slice MB mn md, .int .i64 0, .int .i64 0, .int .i64 0, .int .i64 0, .int .i64 0, .int .i64 0, .int .i64 0] := bq; replace H := Lib.hid (H.out.setBlk 1 rfl hgq bq); (try simp only [List.set_cons_zero, List.set_cons_succ, List.cons_append, List.nil_append, List.eraseIdx_cons_zero, List.eraseIdx_cons_succ, List.setIfInBounds_toArray, World.size_alloc, selR, List.getD_cons_zero, List.getD_cons_succ] at H); clear hgq bq) | ((with_reducible show wpList _ _ _ (⟨some 21, _, _, _, _, _⟩ :: _) _ _); (refine wpList_load_blk rfl rowScn (.tmp 5) rfl _ rfl (H.out.blk 2 rfl) rfl ?_)))
    refine (HNB.out _).mono ?_; rintro e w5 ⟨rfl, hb5⟩
    replace H := Lib.hid (H.out.bel hb5); (try simp only [List.set_cons_zero, List.set_cons_succ, List.cons_append, List.nil_append, List.eraseIdx_cons_zero, List.eraseIdx_cons_succ, List.setIfInBounds_toArray, World.size_alloc, selR, List.getD_cons_zero, List.getD_cons_succ] at H)
    clear hb5 HNB
    go_upto_region 5 with ((with_reducible show wpList _ _ _ (⟨_, .store _ (.tmp 5) _, _, _, _, _⟩ :: _) _ _); (refine wpList_store_blk rfl rowScn (.tmp 5) (.tmp 23) rfl _ rfl (H.out.blk 2 rfl) rfl (scs s t k) rfl rfl (scs_one _ _ _) ?_; intro wq bq hgq; replace H := Lib.hid (H.out.setBlk 2 rfl hgq bq); (try simp only [List.set_cons_zero, List.set_cons_succ, List.cons_append, List.nil_append, List.eraseIdx_cons_zero, List.eraseIdx_cons_succ, List.setIfInBounds_toArray, World.size_alloc, selR, List.getD_cons_zero, List.getD_cons_succ] at H); clear hgq bq; have cf := (H.out.blk 1 rfl).cell 2; simp only [List.getElem?_toArray, List.getElem?_cons_zero, List.getElem?_cons_succ] at cf; have ff := (H.out.blk 1 rfl).frozen 2))
    (try simp only [Act.put, List.setIfInBounds_toArray, List.set_cons_zero, List.set_cons_succ])
    replace H := Lib.hid (H.out.setCell 1 rfl 2 (.int .i64 0)); (try simp only [List.set_cons_zero, List.set_cons_succ, List.cons_append, List.nil_append, List.eraseIdx_cons_zero, List.eraseIdx_cons_succ, List.setIfInBounds_toArray, World.size_alloc, selR, List.getD_cons_zero, List.getD_cons_succ] at H)
    clear cf ff
    generalize World.setCell _ _ _ = w6 at *
    generalize w3.heap.size + 1 = z2 at *
    generalize w3.heap.size = z1 at *
    go_wp2_with fail
    go_loopg [7] 1 (fun gg i wr => gg = 1 ∧ i = .int .i64 0 ∧ Hid (SL No w wr [rBlk y 30 #[.slice none 0 0, .slice none 0 0, .int .i64 0, .int .i64 0, .int .i64 0, .int .i64 0, .int .i64 0, .int .i64 0, .int .i64 0], rBlk g 30 #[.slice B' m' d', .slice MB mn md, .int .i64 0, .int .i64 0, .int .i64 0, .int .i64 0, .int .i64 0, .int .i64 0, .int .i64 0], rBlk z1 161 (scs s t k), rBlk z2 25 #[.slice B' m' d', .slice MB mn md]]))
    case atStart => exact ⟨rfl, rfl, H⟩
    case round =>
      clear H
      obtain ⟨hgk, rfl, H⟩ := hrel
      clear hgk
      have ce := (H.out.blk 2 rfl).cell 2; simp only [List.getElem?_toArray, List.getElem?_cons_zero, List.getElem?_cons_succ] at ce
      go_wp2_with ((with_reducible show wpList _ _ _ (⟨some 61, _, _, _, _, _⟩ :: _) _ _); (refine wpList_load_blk rfl rowScn (.tmp 5) rfl _ rfl (H.out.blk 2 rfl) rfl ?_))
      refine (rend_any s t k _).mono ?_; rintro e w7 ⟨rfl, hb7⟩
      replace H := Lib.hid (H.out.bel hb7); (try simp only [List.set_cons_zero, List.set_cons_succ, List.cons_append, List.nil_append, List.eraseIdx_cons_zero, List.eraseIdx_cons_succ, List.setIfInBounds_toArray, World.size_alloc, selR, List.getD_cons_zero, List.getD_cons_succ] at H)
      rw [HEnd.out]
      clear hb7 ce
      go_wp2_with ((with_reducible show wpList _ _ _ (⟨_, .store _ (.tmp 2) _, _, _, _, _⟩ :: _) _ _); (refine wpList_store_blk rfl rowCt (.tmp 2) (.tmp 65) rfl _ rfl (H.out.blk 0 rfl) rfl (#[.slice none 0 0, .slice none 0 0, .int .i64 0, .int .i64 0, .int .i64 0, .int .i64 0, .int .i64 0, .int .i64 0, .int .i64 0]) rfl rfl (by simp [Value.oneCell']) ?_; intro wq bq hgq; replace H := Lib.hid (H.out.setBlk 0 rfl hgq bq); (try simp only [List.set_cons_zero, List.set_cons_succ, List.cons_append, List.nil_append, List.eraseIdx_cons_zero, List.eraseIdx_cons_succ, List.setIfInBounds_toArray, World.size_alloc, selR, List.getD_cons_zero, List.getD_cons_succ] at H); clear hgq bq))
      refine bodyPost_ret (results_blk rfl rowCt rfl (H.out.blk 0 rfl) rfl) rfl ?_
      rw [HT.out]
      exact catPost_nil H.out.to

end Go.Proofs.Ytnekknemjhlgdaa

namespace Go.Proofs.Ytnekknemjhlgdaa
open Go.RowKit Go.ChangeShapes Go.WideShapes Go.Deep
set_option linter.unusedVariables false
set_option linter.unusedSimpArgs false


theorem sms_few {s : Sch} (h : FewS s) : SmS s := ⟨by have := h.1; omega, by have := h.2.1; omega, fun d hd => ⟨by have := (h.2.2 d hd).1; omega, fun t ht => by have := (h.2.2 d hd).2 t ht; omega⟩⟩
theorem sameK_self (a : CC) : sameK a a = true := (sameK_iff a a).2 rfl
theorem opens_i64sq : Opens Try.prog 85 (Row Int) := opens_row (α := Int) Try.underlying85 (by kernel_rfl) (by kernel_rfl) (opens_i64 Try.underlying2)
abbrev exSC : SC := ⟨[exDC], [[109]]⟩
set_option maxRecDepth 100000 in
set_option maxHeartbeats 1000000 in
theorem some18_any (w : World) : Calls Try.prog 75 #[] w fun e w' => ∃ D : Sch, e = .returned (.agg D.cs) ∧ D.con = exSC ∧ D.rd w' ∧ SmS D ∧ Bel w w' := by
  have H := Lib.hid ((((((SL.start No w).alloc #[.slice none 0 0, .slice none 0 0] 25).alloc #[.string ⟨#[97]⟩] 9).alloc #[.string ⟨#[116]⟩, .slice (some ⟨w.heap.size + 1, 0, none⟩) 1 1, .slice none 0 0] 140).alloc #[.string ⟨#[100]⟩, .slice (some ⟨w.heap.size + 1 + 1, 0, none⟩) 1 1] 64).alloc #[.string ⟨#[109]⟩] 9)
  (try simp only [List.set_cons_zero, List.set_cons_succ, List.cons_append, List.nil_append, List.eraseIdx_cons_zero, List.eraseIdx_cons_succ, List.setIfInBounds_toArray, World.size_alloc, selR, List.getD_cons_zero, List.getD_cons_succ] at H)
  go_enter Try.func75, Try.ntmps75
  go_wp2_with ((with_reducible show wpList _ _ _ (⟨_, .store _ (.tmp 0) _, _, _, _, _⟩ :: _) _ _); (refine wpList_store_blk rfl rowSch (.tmp 0) (.tmp 7) rfl _ rfl (H.out.blk 0 rfl) rfl (#[.slice (some ⟨w.heap.size + 1 + 1 + 1, 0, none⟩) 1 1, .slice (some ⟨w.heap.size + 1 + 1 + 1 + 1, 0, none⟩) 1 1]) rfl rfl (by simp [Value.oneCell']) ?_; intro wq bq hgq; replace H := Lib.hid (H.out.setBlk 0 rfl hgq bq); (try simp only [List.set_cons_zero, List.set_cons_succ, List.cons_append, List.nil_append, List.eraseIdx_cons_zero, List.eraseIdx_cons_succ, List.setIfInBounds_toArray, World.size_alloc, selR, List.getD_cons_zero, List.getD_cons_succ] at H); clear hgq bq))
  refine bodyPost_ret (results_blk1 rfl rowSch rfl (H.out.blk 0 rfl) rfl) rfl ?_
  refine ⟨_, rfl, rfl, ex_sch H.out 1 2 3 4 rfl rfl rfl rfl, ⟨by show (1 : Nat) ≤ _; omega, by show (1 : Nat) ≤ _; omega, fun d hd => ?_⟩, H.out.to⟩
  simp at hd
  subst hd
  exact ⟨by show (1 : Nat) ≤ _; omega, fun t ht => by simp at ht; subst ht; show (0 : Nat) ≤ _; omega⟩

abbrev exRow (g1 g2 : Nat) : Row (Row Int) := ⟨some ⟨g2, 0, none⟩, 1, 1, [⟨some ⟨g1, 0, none⟩, 1, 1, [5]⟩]⟩
theorem exRow_rd {S : Nat → Prop} {w0 w : World} {l : List Res} (H : SL S w0 w l) (i j : Nat) {g1 g2 : Nat} (h1 : l[i]? = some (rBlk g1 2 #[.int .i64 5])) (h2 : l[j]? = some (rBlk g2 85 #[.slice (some ⟨g1, 0, none⟩) 1 1])) : (exRow g1 g2).rd w := by
  refine ⟨reads_of_block (m := 1) (H.blk j h2) rfl, fun y hy => ?_, by show (1 : Nat) ≤ _; omega⟩
  rw [List.mem_singleton] at hy
  subst hy
  refine ⟨reads_of_block (m := 1) (H.blk i h1) rfl, fun v hv => ?_, Nat.le_refl _, by unfold maxLen; simp, by show 1 * 8 ≤ _; omega⟩
  rw [List.mem_singleton] at hv
  subst hv
  show I64 5
  unfold I64
  omega
theorem catNew_ex : catNew exSC = (⟨exSC, 0, 0, 0, 0, 0, 0, 0⟩, 0) := by unfold catNew; rw [show schErr exSC = 0 from exErr]; rfl
theorem catGrow_ex : catGrow ⟨exSC, 0, 0, 0, 0, 0, 0, 0⟩ [[5]] = (⟨exSC, 1, 5, 0, 0, 0, 0, 0⟩, 0) := by
  have h : catErr ⟨exSC, 0, 0, 0, 0, 0, 0, 0⟩ = 0 := by unfold catErr; rw [show schErr exSC = 0 from exErr]; decide
  unfold catGrow
  rw [if_neg (by simp [h]), if_neg (by decide)]
  rfl
set_option maxRecDepth 100000 in
set_option maxHeartbeats 1000000 in
theorem awake18_any (w : World) : Calls Try.prog 16 #[] w fun e w' => e = .returned (.bool true) ∧ Bel w w' := by
  have H := Lib.hid (SL.start No w)
  go_enter Try.func16, Try.ntmps16
  go_wp2_with fail
  refine (some18_any _).mono ?_; rintro e w1 ⟨D, rfl, hDc, hDr, hDs, hb1⟩
  have HN := Lib.hid (catnew_any D w1 hDr hDs)
  rw [hDc, catNew_ex] at HN
  replace H := Lib.hid (H.out.bel hb1); (try simp only [List.set_cons_zero, List.set_cons_succ, List.cons_append, List.nil_append, List.eraseIdx_cons_zero, List.eraseIdx_cons_succ, List.setIfInBounds_toArray, World.size_alloc, selR, List.getD_cons_zero, List.getD_cons_succ] at H)
  clear hb1 hDc hDr hDs
  obtain ⟨⟨B, m, d, es⟩, ⟨MB, mm, md, mt⟩⟩ := D
  simp only [Sch.cs] at *
  go_wp2_with fail
  refine HN.out.mono ?_; rintro e w2 ⟨C, rfl, hCc, hCr, hCs, hb2⟩
  replace H := Lib.hid (H.out.bel hb2); (try simp only [List.set_cons_zero, List.set_cons_succ, List.cons_append, List.nil_append, List.eraseIdx_cons_zero, List.eraseIdx_cons_succ, List.setIfInBounds_toArray, World.size_alloc, selR, List.getD_cons_zero, List.getD_cons_succ] at H)
  clear hb2 HN
  have HG := Lib.hid (fun w' (hb : Bel w2 w') (r : Row (Row Int)) (hr : r.rd w') (hn : r.n ≤ 1000000) => catgrow_any C r w' (hCr.mono hb) hCs hr hn)
  rw [hCc] at HG
  clear hCc hCr hCs
  obtain ⟨⟨⟨A, n, c, ds⟩, ⟨MA, mn, mc, ms⟩⟩, fa, p0, q0, p1, q1, p2, q2⟩ := C
  simp only [Ct.cs, Sch.cs] at *
  replace H := Lib.hid (H.out.bel (Bel.refl w2)); (try simp only [List.set_cons_zero, List.set_cons_succ, List.cons_append, List.nil_append, List.eraseIdx_cons_zero, List.eraseIdx_cons_succ, List.setIfInBounds_toArray, World.size_alloc, selR, List.getD_cons_zero, List.getD_cons_succ] at H)
  go_upto_region 2 with ((with_reducible show wpList _ _ _ (⟨_, .store _ (.tmp 1) _, _, _, _, _⟩ :: _) _ _); (refine wpList_store_new rfl rowCt (.tmp 1) (.tmp 8) rfl rfl rfl (#[.slice A n c, .slice MA mn mc, .int .i64 fa, .int .i64 p0, .int .i64 q0, .int .i64 p1, .int .i64 q1, .int .i64 p2, .int .i64 q2]) rfl rfl (by simp [Value.oneCell']) ?_; replace H := Lib.hid (H.out.alloc (#[.slice A n c, .slice MA mn mc, .int .i64 fa, .int .i64 p0, .int .i64 q0, .int .i64 p1, .int .i64 q1, .int .i64 p2, .int .i64 q2]) 30); (try simp only [List.set_cons_zero, List.set_cons_succ, List.cons_append, List.nil_append, List.eraseIdx_cons_zero, List.eraseIdx_cons_succ, List.setIfInBounds_toArray, World.size_alloc, selR, List.getD_cons_zero, List.getD_cons_succ] at H)))
  (try simp only [Act.put, List.setIfInBounds_toArray, List.set_cons_zero, List.set_cons_succ])
  have HB2 := Lib.hid ((Bel.refl w2).alloc (.cells #[.slice A n c, .slice MA mn mc, .int .i64 fa, .int .i64 p0, .int .i64 q0, .int .i64 p1, .int .i64 q1, .int .i64 p2, .int .i64 q2] 30))
  generalize w2.heap.size = g0 at *
  generalize World.alloc w2 _ = w3 at *
  have HB3 := Lib.hid ((HB2.out.alloc (.cells #[.int .i64 5] 2)).alloc (.cells #[.slice (some ⟨w3.heap.size, 0, none⟩) 1 1] 85))
  go_wp2_with ((with_reducible show wpList _ _ _ (⟨some 11, _, _, _, _, _⟩ :: _) _ _); refine wpList_load_blk rfl rowCt (.tmp 1) rfl _ rfl (H.out.blk 0 rfl) rfl ?_; replace H := Lib.hid ((H.out.alloc #[.int .i64 5] 2).alloc #[.slice (some ⟨w3.heap.size, 0, none⟩) 1 1] 85); (try simp only [List.set_cons_zero, List.set_cons_succ, List.cons_append, List.nil_append, List.eraseIdx_cons_zero, List.eraseIdx_cons_succ, List.setIfInBounds_toArray, World.size_alloc, selR, List.getD_cons_zero, List.getD_cons_succ] at H))
  generalize w3.heap.size + 1 = g2 at *
  generalize w3.heap.size = g1 at *
  generalize World.alloc (World.alloc _ _) _ = w4 at *
  replace HG := Lib.hid (HG.out w4 HB3.out (exRow g1 g2) (exRow_rd H.out 1 2 rfl rfl) (by show (1 : Nat) ≤ _; omega))
  rw [show catGrow _ ((exRow g1 g2).l.map (·.l)) = _ from catGrow_ex] at HG
  refine HG.out.mono ?_; rintro e w5 ⟨E, rfl, hEc, hEr, hEs, hb5⟩
  replace H := Lib.hid (H.out.bel hb5); (try simp only [List.set_cons_zero, List.set_cons_succ, List.cons_append, List.nil_append, List.eraseIdx_cons_zero, List.eraseIdx_cons_succ, List.setIfInBounds_toArray, World.size_alloc, selR, List.getD_cons_zero, List.getD_cons_succ] at H)
  clear hb5 HG HB2 HB3
  obtain ⟨⟨⟨B', m', d', es'⟩, ⟨MB', mm', md', mt'⟩⟩, fa', a0, b0, a1, b1, a2, b2⟩ := E
  simp only [Ct.cs, Sch.cs, Ct.con, Sch.con, CC.mk.injEq] at *
  obtain ⟨_, rfl, rfl, rfl, rfl, rfl, rfl, rfl⟩ := hEc
  clear hEr hEs
  go_upto_region 3 with ((with_reducible show wpList _ _ _ (⟨_, .store _ (.tmp 3) _, _, _, _, _⟩ :: _) _ _); (refine wpList_store_new rfl rowCt (.tmp 3) (.tmp 15) rfl rfl rfl (#[.slice B' m' d', .slice MB' mm' md', .int .i64 1, .int .i64 5, .int .i64 0, .int .i64 0, .int .i64 0, .int .i64 0, .int .i64 0]) rfl rfl (by simp [Value.oneCell']) ?_; replace H := Lib.hid (H.out.alloc (#[.slice B' m' d', .slice MB' mm' md', .int .i64 1, .int .i64 5, .int .i64 0, .int .i64 0, .int .i64 0, .int .i64 0, .int .i64 0]) 30); (try simp only [List.set_cons_zero, List.set_cons_succ, List.cons_append, List.nil_append, List.eraseIdx_cons_zero, List.eraseIdx_cons_succ, List.setIfInBounds_toArray, World.size_alloc, selR, List.getD_cons_zero, List.getD_cons_succ] at H)))
  (try simp only [Act.put, List.setIfInBounds_toArray, List.set_cons_zero, List.set_cons_succ])
  generalize w5.heap.size = g3 at *
  generalize World.alloc w5 _ = w6 at *
  have c2 := (H.out.blk 3 rfl).cell 2; simp only [List.getElem?_toArray, List.getElem?_cons_zero, List.getElem?_cons_succ] at c2
  have c3 := (H.out.blk 3 rfl).cell 3; simp only [List.getElem?_toArray, List.getElem?_cons_zero, List.getElem?_cons_succ] at c3
  have c4 := (H.out.blk 3 rfl).cell 4; simp only [List.getElem?_toArray, List.getElem?_cons_zero, List.getElem?_cons_succ] at c4
  go_wp2
  go_ret
  exact ⟨rfl, H.out.to⟩

end Go.Proofs.Ytnekknemjhlgdaa
