/- The document's Same, All and Few of nodes. -/
import Derived.Test.YtlclllkjnhgbjaaBu
namespace Go.Proofs.Ytlclllkjnhgbjaa
open Go.RowKit
set_option linter.unusedVariables false
set_option linter.unusedSimpArgs false


set_option maxRecDepth 100000 in
theorem guard_cl : Try.prog.eqGuardType Try.prog.depth 32 = false := by kernel_rfl
set_option maxRecDepth 100000 in
set_option maxHeartbeats 1000000 in
theorem neqs_cl (c : Cl) (W : World) : (binOp .neq 32 (.agg c.cs) (.agg c.cs)).run Try.prog W = .ok (.bool false) W := by
  obtain ⟨i0, hi0, hz0, hz1, hz2⟩ := info_parts info_part
  unfold Cl.cs
  go_simp
  rw [run_equalIn_array W 9997 _ _ Try.underlying28 hi0, cells_part]
  simp only [show List.range 3 = [0, 1, 2] from rfl, Op.eqItems]
  go_simp
set_option maxRecDepth 100000 in
set_option maxHeartbeats 4000000 in
theorem rsame24_any (a b : Nd) (w : World) (ha : a.rd w) (hb : b.rd w) (he : a.con = b.con) :
    Calls Try.prog 17 #[.agg a.cs, .agg b.cs] w fun e w' => e = .returned (.bool true) ∧ Bel w w' := by
  have HA := Lib.hid (fun w' (h : Bel w w') => ha.ls.mono h)
  have HB := Lib.hid (fun w' (h : Bel w w') => hb.ls.mono h)
  have hla : a.ls.l.length = a.ls.n := ha.ls.len
  have hlb : b.ls.l.length = b.ls.n := hb.ls.len
  have n63 := ha.ls.n63
  have hE : a.ls.l.map Row.l = b.ls.l.map Row.l := congrArg NC.ls he
  have hD : a.dim = b.dim := congrArg NC.dim he
  have hAL : a.all = b.all := congrArg NC.all he
  have hnn : a.ls.n = b.ls.n := by have h := congrArg List.length hE; rw [List.length_map, List.length_map] at h; omega
  have HE := Lib.hid hE
  have H := Lib.hid (((SL.start No w).alloc a.cs 34).alloc b.cs 34)
  (try simp only [List.set_cons_zero, List.set_cons_succ, List.cons_append, List.nil_append, List.eraseIdx_cons_zero, List.eraseIdx_cons_succ, List.setIfInBounds_toArray, World.size_alloc, selR, List.getD_cons_zero, List.getD_cons_succ] at H)
  obtain ⟨dim, ⟨A, n, c, ps⟩, all⟩ := a
  obtain ⟨dim2, ⟨B, m, d, qs⟩, all2⟩ := b
  simp only at *
  subst hnn hD hAL
  have hq1 : ((n : Int) != n) = false := by simp
  have hq2 : (dim != dim) = false := by simp
  have HCA : Hid ((Nd.mk dim ⟨A, n, c, ps⟩ all).cs = (Nd.mk dim ⟨A, n, c, ps⟩ all).cs) := rfl
  clear ha hb he hla hlb hE
  go_enter Try.func17, Try.ntmps17
  go_upto_region 1 with fail
  generalize w.heap.size + 1 = y at *
  generalize w.heap.size = x at *
  generalize World.alloc (World.alloc _ _) _ = w0 at *
  have c0 : w0.cell? ⟨x, 0, none⟩ = some (.int .i64 dim) := (H.out.blk 0 rfl).cell 0
  have c1 : w0.cell? ⟨x, 1, none⟩ = some (.slice A n c) := (H.out.blk 0 rfl).cell 1
  have e0 : w0.cell? ⟨y, 0, none⟩ = some (.int .i64 dim) := (H.out.blk 1 rfl).cell 0
  have e1 : w0.cell? ⟨y, 1, none⟩ = some (.slice B n d) := (H.out.blk 1 rfl).cell 1
  have HALx : Hid (w0.rangeAt x 2 all.cs.toList) := fun j v hv => by
    have := (H.out.blk 0 rfl).range (j + 2) v (by rw [nd_all]; exact hv)
    rw [show 0 + (j + 2) = 2 + j by omega] at this
    exact this
  have HALy : Hid (w0.rangeAt y 2 all.cs.toList) := fun j v hv => by
    have := (H.out.blk 1 rfl).range (j + 2) v (by rw [nd_all]; exact hv)
    rw [show 0 + (j + 2) = 2 + j by omega] at this
    exact this
  go_upto_region 4 with (first | ((with_reducible show wpList _ _ _ (⟨some 14, _, _, _, _, _⟩ :: _) _ _); refine wpList_load_rowG (by first | rfl | go_simp) rowCl (.tmp 13) (by rfl) x 2 (by rfl) all.cs rfl HALx.out ?_) | ((with_reducible show wpList _ _ _ (⟨some 16, _, _, _, _, _⟩ :: _) _ _); refine wpList_load_rowG (by first | rfl | go_simp) rowCl (.tmp 15) (by rfl) y 2 (by rfl) all.cs rfl HALy.out ?_) | ((with_reducible show wpList _ _ _ (⟨some 17, _, _, _, _, _⟩ :: _) _ _); (refine wpList_cmp_row (by first | rfl | go_simp) .neq 32 32 (.tmp 14) (.tmp 16) (by rfl) (by rfl) (by rfl) guard_cl (neqs_cl all _) ?_)))
  clear c0 c1 e0 e1 HALx HALy hq1 hq2
  go_loopg [31] n (fun gg s31 wr => ∃ (k : Nat), gg = n - k ∧ k ≤ n ∧ s31 = .int .i64 k ∧ Hid (SL No w wr [rBlk x 34 (Nd.mk dim ⟨A, n, c, ps⟩ all).cs, rBlk y 34 (Nd.mk dim ⟨B, n, d, qs⟩ all).cs]))
  case atStart => exact ⟨0, rfl, by omega, rfl, H⟩
  case round =>
    clear H
    obtain ⟨k, hgk, hk, rfl, H⟩ := hrel
    obtain ⟨W0, hW0⟩ : ∃ W0, W0 = wr := ⟨_, rfl⟩
    subst hW0
    have Hgk := Lib.hid hgk
    clear hgk
    by_cases hlt : k < n
    · obtain ⟨b1, o1, p, hA, hpk, hpr, hrg1⟩ := (HA.out _ H.out.to).clsAt (k := k) hlt
      simp only at hA
      subst hA
      obtain ⟨b2, o2, q, hB, hqk, hqr, hrg2⟩ := (HB.out _ H.out.to).clsAt (k := k) hlt
      simp only at hB
      subst hB
      have hc : p.l = q.l := by
        have h1 : (ps.map Row.l)[k]? = some p.l := by rw [List.getElem?_map, hpk]; rfl
        have h2 : (qs.map Row.l)[k]? = some q.l := by rw [List.getElem?_map, hqk]; rfl
        rw [HE.out, h2] at h1
        injection h1 with h1
        exact h1.symm
      have g1 : p.l.length = p.n := hpr.len
      have g2 : q.l.length = q.n := hqr.len
      have p63 := rdCls hpr
      have HX := Lib.hid (fun w' (h : Bel W0 w') => hpr.rds.mono h)
      have HY := Lib.hid (fun w' (h : Bel W0 w') => hqr.rds.mono h)
      have HC1 := Lib.hid (fun w' (h : Bel W0 w') => (h.cell (p := ⟨b1, o1 + k, none⟩) (World.block_lt_of_cell? _ _ hrg1)).trans hrg1)
      have HC2 := Lib.hid (fun w' (h : Bel W0 w') => (h.cell (p := ⟨b2, o2 + k, none⟩) (World.block_lt_of_cell? _ _ hrg2)).trans hrg2)
      have i0 : (0 : Int) ≤ k := by omega
      have i1 : (k : Int) < n := by omega
      have HB0 : Hid (Bel W0 W0) := Bel.refl _
      clear hpk hqk hpr hqr hrg1 hrg2
      obtain ⟨A3, n3, c3, xs⟩ := p
      obtain ⟨A4, n4, c4, ys⟩ := q
      simp only at *
      subst hc
      obtain rfl : n3 = n4 := by omega
      clear g1 g2
      have z1 : ((n3 : Int) != n3) = false := by simp
      have c1 : W0.cell? ⟨x, 1, none⟩ = some (.slice (some ⟨b1, o1, none⟩) n c) := (H.out.blk 0 rfl).cell 1
      have e1 : W0.cell? ⟨y, 1, none⟩ = some (.slice (some ⟨b2, o2, none⟩) n d) := (H.out.blk 1 rfl).cell 1
      have r1 := HC1.out W0 (Bel.refl _)
      have r2 := HC2.out W0 (Bel.refl _)
      go_upto_region 6 with fail
      have f_c1 := fun u : Over W0 => Over.cell c1 u
      have f_e1 := fun u : Over W0 => Over.cell e1 u
      have f_r1 := fun u : Over W0 => Over.cell r1 u
      have f_r2 := fun u : Over W0 => Over.cell r2 u
      refine wp_region_over (by kernel_rfl) (by kernel_rfl) ?_
      (try simp only [Act.put, List.setIfInBounds_toArray, List.set_cons_zero, List.set_cons_succ])
      repeat (go_big_quiet_step (fail))
      refine wpQuiet_nil ?_
      rintro w5 ⟨⟨_, hw5⟩, rfl⟩
      (try dsimp only)
      replace H := Lib.hid (H.out.bel hw5); (try simp only [List.set_cons_zero, List.set_cons_succ, List.cons_append, List.nil_append, List.eraseIdx_cons_zero, List.eraseIdx_cons_succ, List.setIfInBounds_toArray, World.size_alloc, selR, List.getD_cons_zero, List.getD_cons_succ] at H)
      clear f_c1 f_e1 f_r1 f_r2 c1 e1 r1 r2
      replace HB0 := Lib.hid (HB0.out.trans hw5)
      clear hw5
      have c1 : w5.cell? ⟨x, 1, none⟩ = some (.slice (some ⟨b1, o1, none⟩) n c) := (H.out.blk 0 rfl).cell 1
      have r1 := HC1.out w5 HB0.out
      go_upto_region 9 with fail
      clear z1 c1 r1
      go_loopg [53] n3 (fun gg s53 wx => ∃ (j : Nat), gg = n3 - j ∧ j ≤ n3 ∧ s53 = .int .i64 j ∧ Hid (Bel W0 wx) ∧ Hid (SL No w wx [rBlk x 34 (Nd.mk dim ⟨some ⟨b1, o1, none⟩, n, c, ps⟩ all).cs, rBlk y 34 (Nd.mk dim ⟨some ⟨b2, o2, none⟩, n, d, qs⟩ all).cs]))
      case atStart => exact ⟨0, rfl, by omega, rfl, HB0, H⟩
      case round =>
        clear H HB0
        obtain ⟨j, hgj, hj, rfl, HB0, H⟩ := hrel
        have Hgj := Lib.hid hgj
        clear hgj
        by_cases hjlt : j < n3
        · obtain ⟨b4, o4, t, hA4, hb4, htk, _, hr4⟩ := (HX.out _ HB0.out).clAt (k := j) hjlt
          obtain ⟨b5, o5, t2, hA5, hb5, htk2, _, hr5⟩ := (HY.out _ HB0.out).clAt (k := j) hjlt
          simp only at hA4 hA5 htk htk2
          rw [htk] at htk2
          injection htk2 with htk2
          subst htk2
          have HR4 := Lib.hid hr4
          have HR5 := Lib.hid hr5
          have j0 : (0 : Int) ≤ j := by omega
          have j1 : (j : Int) < n3 := by omega
          have c1 : wr.cell? ⟨x, 1, none⟩ = some (.slice (some ⟨b1, o1, none⟩) n c) := (H.out.blk 0 rfl).cell 1
          have e1 : wr.cell? ⟨y, 1, none⟩ = some (.slice (some ⟨b2, o2, none⟩) n d) := (H.out.blk 1 rfl).cell 1
          have r1 := HC1.out _ HB0.out
          have r2 := HC2.out _ HB0.out
          rw [hA4] at r1
          rw [hA5] at r2
          clear htk hr4 hr5 hA4 hA5
          go_upto_region 11 with fail
          have f_c1 := fun u : Over wr => Over.cell c1 u
          have f_e1 := fun u : Over wr => Over.cell e1 u
          have f_r1 := fun u : Over wr => Over.cell r1 u
          have f_r2 := fun u : Over wr => Over.cell r2 u
          refine wp_region_over (by kernel_rfl) (by kernel_rfl) ?_
          (try simp only [Act.put, List.setIfInBounds_toArray, List.set_cons_zero, List.set_cons_succ])
          repeat (first
            | ((with_reducible show wpQuiet _ _ _ _ (⟨some 63, _, _, _, _, _⟩ :: _) _); refine wpQuiet_load_row (by first | rfl | go_simp) rowCl (.tmp 62) rfl b4 (o4 + j * 12) rfl t.cs rfl hb4 HR4.out ?_; simp only [Act.put, List.setIfInBounds_toArray, List.set_cons_zero, List.set_cons_succ])
            | ((with_reducible show wpQuiet _ _ _ _ (⟨some 71, _, _, _, _, _⟩ :: _) _); refine wpQuiet_load_row (by first | rfl | go_simp) rowCl (.tmp 70) rfl b5 (o5 + j * 12) rfl t.cs rfl hb5 HR5.out ?_; simp only [Act.put, List.setIfInBounds_toArray, List.set_cons_zero, List.set_cons_succ])
            | ((with_reducible show wpQuiet _ _ _ _ (⟨some 72, _, _, _, _, _⟩ :: _) _); refine wpQuiet_cmp_row rfl .neq 32 32 (.tmp 63) (.tmp 71) rfl rfl rfl guard_cl (fun w => neqs_cl t w) ?_; simp only [Act.put, List.setIfInBounds_toArray, List.set_cons_zero, List.set_cons_succ])
            | go_big_quiet_step (fail))
          refine wpQuiet_nil ?_
          rintro w5 ⟨⟨_, hw5⟩, rfl⟩
          (try dsimp only)
          replace H := Lib.hid (H.out.bel hw5); (try simp only [List.set_cons_zero, List.set_cons_succ, List.cons_append, List.nil_append, List.eraseIdx_cons_zero, List.eraseIdx_cons_succ, List.setIfInBounds_toArray, World.size_alloc, selR, List.getD_cons_zero, List.getD_cons_succ] at H)
          clear f_c1 f_e1 f_r1 f_r2 c1 e1 r1 r2
          replace HB0 := Lib.hid (HB0.out.trans hw5)
          clear hw5 HR4 HR5 hb4 hb5
          go_wp2_with fail
          go_roundg (n3 - (j + 1))
          case rel => exact ⟨j + 1, rfl, by omega, by go_num, HB0, H⟩
          case measure => rw [Hgj.out]; omega
        · go_wp2_with fail
          go_roundg (n - (k + 1))
          case rel => exact ⟨k + 1, rfl, by omega, by go_num, H⟩
          case measure => rw [Hgk.out]; omega
    · go_wp2
      go_ret
      exact ⟨rfl, H.out.to⟩
set_option maxRecDepth 100000 in
set_option maxHeartbeats 2000000 in
theorem rall24_any (a b : Row Nd) (w : World) (ha : a.rd w) (hb : b.rd w) (he : a.l.map Nd.con = b.l.map Nd.con) :
    Calls Try.prog 31 #[.slice a.A a.n a.c, .slice b.A b.n b.c] w fun e w' => e = .returned (.bool true) ∧ Bel w w' := by
  have HA := Lib.hid (fun w' (h : Bel w w') => ha.mono h)
  have HB := Lib.hid (fun w' (h : Bel w w') => hb.mono h)
  have hla : a.l.length = a.n := ha.len
  have hlb : b.l.length = b.n := hb.len
  have n63 := ha.n63
  have hnn : a.n = b.n := by have h := congrArg List.length he; rw [List.length_map, List.length_map] at h; omega
  have HE := Lib.hid he
  have H := Lib.hid (SL.start No w)
  obtain ⟨A, n, c, ps⟩ := a
  obtain ⟨B, m, d, qs⟩ := b
  simp only at *
  subst hnn
  have hq1 : ((n : Int) != n) = false := by simp
  clear ha hb he hla hlb
  go_enter Try.func31, Try.ntmps31
  go_upto_region 4 with fail
  clear hq1
  go_loopg [13] n (fun gg s13 wr => ∃ (k : Nat), gg = n - k ∧ k ≤ n ∧ s13 = .int .i64 k ∧ Hid (SL No w wr []))
  case atStart => exact ⟨0, rfl, by omega, rfl, H⟩
  case round =>
    clear H
    obtain ⟨k, hgk, hk, rfl, H⟩ := hrel
    have Hgk := Lib.hid hgk
    clear hgk
    by_cases hlt : k < n
    · obtain ⟨b1, o1, p, hA, hb1, hpk, hpr, hrg1⟩ := (HA.out _ H.out.to).ndAt (k := k) hlt
      simp only at hA
      obtain ⟨b2, o2, q, hB, hb2, hqk, hqr, hrg2⟩ := (HB.out _ H.out.to).ndAt (k := k) hlt
      simp only at hB
      have hc : p.con = q.con := by
        have h1 : (ps.map Nd.con)[k]? = some p.con := by rw [List.getElem?_map, hpk]; rfl
        have h2 : (qs.map Nd.con)[k]? = some q.con := by rw [List.getElem?_map, hqk]; rfl
        rw [HE.out, h2] at h1
        injection h1 with h1
        exact h1.symm
      have HSM := Lib.hid (fun w' (h : Bel wr w') => rsame24_any p q w' (hpr.mono h) (hqr.mono h) hc)
      have HR1 := Lib.hid hrg1
      have HR2 := Lib.hid hrg2
      have i0 : (0 : Int) ≤ k := by omega
      have i1 : (k : Int) < n := by omega
      have HAA := Lib.hid hA
      have HBB := Lib.hid hB
      rw [hA, hB]
      clear hpk hqk hpr hqr hrg1 hrg2 hc hA hB
      go_upto_region 6 with fail
      refine wp_region_over (by kernel_rfl) (by kernel_rfl) ?_
      (try simp only [Act.put, List.setIfInBounds_toArray, List.set_cons_zero, List.set_cons_succ])
      repeat (first
        | ((with_reducible show wpQuiet _ _ _ _ (⟨some 19, _, _, _, _, _⟩ :: _) _); refine wpQuiet_load_row (by first | rfl | go_simp) rowNd (.tmp 18) rfl b1 (o1 + k * 14) rfl p.cs rfl hb1 HR1.out ?_; simp only [Act.put, List.setIfInBounds_toArray, List.set_cons_zero, List.set_cons_succ])
        | ((with_reducible show wpQuiet _ _ _ _ (⟨some 23, _, _, _, _, _⟩ :: _) _); refine wpQuiet_load_row (by first | rfl | go_simp) rowNd (.tmp 22) rfl b2 (o2 + k * 14) rfl q.cs rfl hb2 HR2.out ?_; simp only [Act.put, List.setIfInBounds_toArray, List.set_cons_zero, List.set_cons_succ])
        | go_big_quiet_step (((go_at_call 17; rename_i u; exact calls_over (HSM.out _ u.bel)))))
      refine wpQuiet_nil ?_
      rintro w5 ⟨⟨_, hw5⟩, rfl⟩
      (try dsimp only)
      replace H := Lib.hid (H.out.bel hw5); (try simp only [List.set_cons_zero, List.set_cons_succ, List.cons_append, List.nil_append, List.eraseIdx_cons_zero, List.eraseIdx_cons_succ, List.setIfInBounds_toArray, World.size_alloc, selR, List.getD_cons_zero, List.getD_cons_succ] at H)
      skip
      clear HSM HR1 HR2 hb1 hb2
      go_wp2_with fail
      rw [← HAA.out, ← HBB.out]
      go_roundg (n - (k + 1))
      case rel => exact ⟨k + 1, rfl, by omega, by go_num, H⟩
      case measure => rw [Hgk.out]; omega
    · go_wp2
      go_ret
      exact ⟨rfl, H.out.to⟩
/-- What Few lets through. -/
def FewN (l : Row Nd) (most : Int) : Prop := (l.n : Int) ≤ most ∧ ∀ n ∈ l.l, n.ls.n ≤ 10 ∧ ∀ y ∈ n.ls.l, y.n ≤ 2000
theorem flat_leB : ∀ (l : List (Row Cl)), (∀ y ∈ l, y.l.length ≤ 2000) → (l.map Row.l).flatten.length ≤ 2000 * l.length
  | [], _ => by simp
  | y :: l, h => by
    rw [List.map_cons, List.flatten_cons, List.length_append, List.length_cons]
    have h1 := h y (List.mem_cons_self ..)
    have h2 := flat_leB l fun z hz => h z (List.mem_cons_of_mem _ hz)
    omega
theorem FewN.sm {l : Row Nd} {most : Int} (h : FewN l most) {w : World} (hl : l.rd w) : ∀ n ∈ l.l, SmN n := fun n hn => by
  obtain ⟨h1, h2⟩ := h.2 n hn
  have hr : n.rd w := hl.all n hn
  have hln : n.ls.l.length = n.ls.n := hr.ls.len
  have h3 := flat_leB n.ls.l (fun y hy => by have := h2 y hy; have h4 : y.l.length = y.n := (hr.ls.all y hy).len; omega)
  exact ⟨by omega, fun y hy => by have := h2 y hy; omega, by rw [hln] at h3; omega⟩
end Go.Proofs.Ytlclllkjnhgbjaa
