/- The walk of the law DimWay. -/
import Derived.Test.YtnjpoamebkehbaaDimA
import Derived.Test.YtnjpoamebkehbaaDimX
import Derived.Test.YtnjpoamebkehbaaDimZ
namespace Go.Proofs.Ytnjpoamebkehbaa
open Go.RowKit
set_option linter.unusedVariables false
set_option linter.unusedSimpArgs false

set_option maxRecDepth 100000 in
set_option maxHeartbeats 2000000 in
theorem walk_dimWay (w : World) (d : Dm) (hd : d.rd w) (f : Int) (wf : (Lit.int .i64 f).wf = true) (b : Int) (wb : (Lit.int .i64 b).wf = true) (t : Int) (wt : (Lit.int .i64 t).wf = true) (i : Int) (wi : (Lit.int .i64 i).wf = true) :
    Calls Try.prog 3 #[.agg d.cs, .int .i64 f, .int .i64 b, .int .i64 t, .int .i64 i] w fun e w' => e = .returned (.bool true) ∧ Bel w w' := by
  have hf : I64 f := bounds_i64 wf
  have hbb : I64 b := bounds_i64 wb
  have ht : I64 t := bounds_i64 wt
  have hi : I64 i := bounds_i64 wi
  clear wf wb wt wi
  have HF := Lib.hid (fun w' (hb : Bel w w') => dmfew_any d w' (hd.mono hb))
  have HR := Lib.hid (fun (hn : d.tr.n ≤ 1000000) w' (hb : Bel w w') => dmwrong_any d w' (hd.mono hb) hn)
  have HL := Lib.hid (fun (hn : d.tr.n ≤ 1000000) (x y z : Int) (hx : I64 x) (hy : I64 y) (hz : I64 z) w' (hb : Bel w w') => lift_any d x y z w' (hd.mono hb) hx hy hz hn)
  have HDr := Lib.hid (fun (hn : d.tr.n ≤ 1000000) (hs : ∀ T ∈ d.tr.l, T.ts.n ≤ 100000) (hm : (mapOf (d.tr.l.map Tir.con) f t).length ≤ 100000) (z : Int) (hz : I64 z) w' (hb : Bel w w') => dmdrill_any d f t z w' (hd.mono hb) hf ht hz hn hs hm)
  have H := Lib.hid ((SL.start No w).alloc d.cs 24)
  (try simp only [List.set_cons_zero, List.set_cons_succ, List.cons_append, List.nil_append, List.eraseIdx_cons_zero, List.eraseIdx_cons_succ, List.setIfInBounds_toArray, World.size_alloc, selR, List.getD_cons_zero, List.getD_cons_succ] at H)
  have hlen : Hid (d.tr.l.length = d.tr.n) := hd.tr.len
  have HD := Lib.hid hd.tr
  have hnm := hd.nm
  have n63 := hd.tr.n63
  obtain ⟨nm, ⟨A, n, c, trs⟩⟩ := d
  simp only [Dm.cs, Dm.con] at *
  clear hd
  obtain ⟨f0, f1⟩ := hf
  obtain ⟨b0, b1⟩ := hbb
  obtain ⟨t0, t1⟩ := ht
  obtain ⟨i0, i1⟩ := hi
  go_enter Try.func3, Try.ntmps3
  go_wp2_with fail
  generalize w.heap.size = x at *
  generalize w.alloc (.cells #[.string ⟨nm.toArray⟩, .slice A n c] 24) = w1 at *
  refine (HF.out _ H.out.to).mono ?_; rintro e w2 ⟨fb, rfl, hfew, hb2⟩
  replace H := Lib.hid (H.out.bel hb2); (try simp only [List.set_cons_zero, List.set_cons_succ, List.cons_append, List.nil_append, List.eraseIdx_cons_zero, List.eraseIdx_cons_succ, List.setIfInBounds_toArray, World.size_alloc, selR, List.getD_cons_zero, List.getD_cons_succ] at H)
  clear hb2 HF
  cases fb with
  | false =>
    clear hfew
    go_wp2_with fail
    refine (awake16_any _).mono ?_; rintro e w9 ⟨rfl, hb9⟩
    go_wp2
    go_ret
    exact ⟨rfl, H.out.to.trans hb9⟩
  | true =>
    obtain ⟨hn6, hts⟩ := hfew rfl
    have HTS := Lib.hid hts
    clear hfew hts
    go_wp2_with ((with_reducible show wpList _ _ _ (⟨some 19, _, _, _, _, _⟩ :: _) _ _); refine wpList_load_blkG (by first | rfl | go_simp) rowDm (.tmp 5) (by rfl) _ (by rfl) (H.out.blk 0 rfl) rfl ?_)
    refine (HR.out (by omega) _ H.out.to).mono ?_; rintro e w3 ⟨rfl, hb3⟩
    replace H := Lib.hid (H.out.bel hb3); (try simp only [List.set_cons_zero, List.set_cons_succ, List.cons_append, List.nil_append, List.eraseIdx_cons_zero, List.eraseIdx_cons_succ, List.setIfInBounds_toArray, World.size_alloc, selR, List.getD_cons_zero, List.getD_cons_succ] at H)
    clear hb3 HR
    by_cases hE : dimErr ⟨nm, trs.map Tir.con⟩ = 0
    · have hok : AllOk (trs.map Tir.con) := dimFrom_ok (dimErr_zero hE).2.2.2
      have HOK := Lib.hid hok
      rw [hE]
      clear hE hok
      have c0 := (H.out.blk 0 rfl).cell 1; simp only [List.getElem?_toArray, List.getElem?_cons_zero, List.getElem?_cons_succ] at c0
      by_cases g1 : 0 ≤ f ∧ f ≤ b ∧ b ≤ t ∧ t < n
      · obtain ⟨g1, g2, g3, g4⟩ := g1
        obtain ⟨f, rfl⟩ : ∃ k : Nat, f = k := ⟨f.toNat, by omega⟩
        obtain ⟨b, rfl⟩ : ∃ k : Nat, b = k := ⟨b.toNat, by omega⟩
        obtain ⟨t, rfl⟩ : ∃ k : Nat, t = k := ⟨t.toNat, by omega⟩
        have a1 : decide (((f : Nat) : Int) < 0) = false := by simp <;> omega
        have a2 : decide (b < f) = false := by simp <;> omega
        have a3 : decide (t < b) = false := by simp <;> omega
        have a4 : decide (n ≤ t) = false := by simp <;> omega
        have hfn : f < n := by omega
        have htn : t < n := by omega
        have y1 : ((f : Nat) : Int) < n := by omega
        have y2 : ((t : Nat) : Int) < n := by omega
        have y3 : (0 : Int) ≤ f := by omega
        have y4 : (0 : Int) ≤ t := by omega
        obtain ⟨bb, oo, T, hA, hbb2, hT0, hTr, hrg⟩ := (HD.out.mono H.out.to).tirAt (k := f) hfn
        simp only at hA
        subst hA
        have hTl : T.ts.l.length = T.ts.n := hTr.ts.len
        have hTn := HTS.out T (List.mem_of_getElem? hT0)
        have hSf : sizeAt (trs.map Tir.con) f = T.ts.n := by rw [sizeAt_tir hT0]; exact hTl
        have HSf := Lib.hid hSf
        have q1 := hrg 1 _ rfl
        generalize T.ts.n = m at *
        clear hTl hSf hT0 hTr hrg
        by_cases g5 : 0 ≤ i ∧ i < m
        · obtain ⟨g5, g6⟩ := g5
          obtain ⟨i, rfl⟩ : ∃ k : Nat, i = k := ⟨i.toNat, by omega⟩
          have a5 : decide (((i : Nat) : Int) < 0) = false := by simp <;> omega
          have a6 : decide (m ≤ i) = false := by simp <;> omega
          have htl2 : t < (trs.map Tir.con).length := by rw [List.length_map]; have := hlen.out; (try simp only at this); omega
          have hif : i < sizeAt (trs.map Tir.con) f := by rw [HSf.out]; omega
          obtain ⟨l0, l1⟩ := (lift_within HOK.out (f := f) (t := t) (i := i) (by omega) htl2 hif).2
          obtain ⟨k0, k1⟩ := (lift_within HOK.out (f := f) (t := b) (i := i) (by omega) (by omega) hif).2
          have HWay := Lib.hid (lift_way HOK.out (f := f) (b := b) (t := t) (i := i) (by omega) (by omega) htl2 hif)
          have HML := Lib.hid (mapOf_len (trs := trs.map Tir.con) (f := f) (t := t) (by omega) htl2)
          have HSome := Lib.hid (fun (k : Nat) (hk : k < sizeAt (trs.map Tir.con) t) => drill_some HOK.out (f := f) (t := t) (by omega) htl2 hk)
          have HSum := Lib.hid (drill_sum HOK.out (f := f) (t := t) (by omega) htl2)
          have HL1 := Lib.hid (HL.out (by omega) f t i (by unfold I64; omega) (by unfold I64; omega) (by unfold I64; omega))
          have HL2 := Lib.hid (HL.out (by omega) f b i (by unfold I64; omega) (by unfold I64; omega) (by unfold I64; omega))
          have HLo := Lib.hid (HL.out (by omega))
          obtain ⟨b4, o4, V, hA, hbb4, hV0, hVr, hrg4⟩ := (HD.out.mono H.out.to).tirAt (k := t) htn
          injection hA with hA
          injection hA with hA1 hA2
          subst hA1 hA2
          have hVl : V.ts.l.length = V.ts.n := hVr.ts.len
          have hVn := HTS.out V (List.mem_of_getElem? hV0)
          have hSt : sizeAt (trs.map Tir.con) t = V.ts.n := by rw [sizeAt_tir hV0]; exact hVl
          have hSb : sizeAt (trs.map Tir.con) b ≤ 220 := by
            obtain ⟨_, _, B, _, _, hB0, hBr, _⟩ := (HD.out.mono H.out.to).tirAt (k := b) (show b < n by omega)
            rw [sizeAt_tir hB0, show B.ts.l.length = B.ts.n from hBr.ts.len]
            exact (HTS.out B (List.mem_of_getElem? hB0)).1
          have p1 := hrg4 1 _ rfl
          rw [hSt] at l1
          rw [hSt] at HSome HSum
          generalize V.ts.n = m2 at *
          obtain ⟨v1, hv1⟩ : ∃ v1, v1 = liftOf (trs.map Tir.con) f b i := ⟨_, rfl⟩
          obtain ⟨v2, hv2⟩ : ∃ v2, v2 = liftOf (trs.map Tir.con) f t i := ⟨_, rfl⟩
          rw [← hv1, ← hv2] at HWay
          rw [← hv1] at k0 k1 HL2
          rw [← hv2] at l0 l1 HL1
          have HV1 := Lib.hid hv1
          clear hv1 hv2
          clear hSt hV0 hVr hrg4 hVl htl2 hif HL
          go_wp2_with ((with_reducible show wpList _ _ _ (⟨some 60, _, _, _, _, _⟩ :: _) _ _); (refine wpList_load_blk rfl rowDm (.tmp 5) rfl _ rfl (H.out.blk 0 rfl) rfl ?_))
          refine (HL1.out _ H.out.to).mono ?_; rintro e w4 ⟨rfl, hb4⟩
          replace H := Lib.hid (H.out.bel hb4); (try simp only [List.set_cons_zero, List.set_cons_succ, List.cons_append, List.nil_append, List.eraseIdx_cons_zero, List.eraseIdx_cons_succ, List.setIfInBounds_toArray, World.size_alloc, selR, List.getD_cons_zero, List.getD_cons_succ] at H)
          have p2 := (hb4.cell hbb4).trans p1
          have q2 := (hb4.cell hbb2).trans q1
          have hbb5 := Nat.lt_of_lt_of_le hbb4 hb4.size
          clear hb4 p1 q1 c0 HL1
          have c0 := (H.out.blk 0 rfl).cell 1; simp only [List.getElem?_toArray, List.getElem?_cons_zero, List.getElem?_cons_succ] at c0
          have z1 : decide (v2 < 0) = false := by simp <;> omega
          have z2 : decide ((m2 : Int) ≤ v2) = false := by simp <;> omega
          go_upto_region 4 with fail
          have e0 := fun u : Over w4 => Over.cell c0 u
          have e1 := fun u : Over w4 => Over.cell p2 u
          have hV1 := HV1.out.symm
          have hWay := HWay.out
          refine wp_region_over (by kernel_rfl) (by kernel_rfl) ?_
          repeat (first
            | ((with_reducible show wpQuiet _ _ _ _ (⟨some 79, _, _, _, _, _⟩ :: _) _); refine wpQuiet_load_row (by first | rfl | go_simp) rowDm (.tmp 5) (by rfl) x 0 (by rfl) #[.string ⟨nm.toArray⟩, .slice (some ⟨bb, oo, none⟩) n c] rfl (H.out.blk 0 rfl).lt (H.out.blk 0 rfl).range ?_; simp only [Act.put, List.setIfInBounds_toArray, List.set_cons_zero, List.set_cons_succ])
            | ((with_reducible show wpQuiet _ _ _ _ (⟨some 82, _, _, _, _, _⟩ :: _) _); refine wpQuiet_load_row (by first | rfl | go_simp) rowDm (.tmp 5) (by rfl) x 0 (by rfl) #[.string ⟨nm.toArray⟩, .slice (some ⟨bb, oo, none⟩) n c] rfl (H.out.blk 0 rfl).lt (H.out.blk 0 rfl).range ?_; simp only [Act.put, List.setIfInBounds_toArray, List.set_cons_zero, List.set_cons_succ])
            | go_big_quiet_step ((go_at_call 18; rename_i u; exact calls_over (HLo.out _ _ _ (by unfold I64; omega) (by unfold I64; omega) (by unfold I64; omega) _ (H.out.to.trans u.bel)))))
          refine wpQuiet_nil ?_
          rintro _ ⟨⟨w5, hw5⟩, rfl⟩
          replace H := Lib.hid (H.out.bel hw5); (try simp only [List.set_cons_zero, List.set_cons_succ, List.cons_append, List.nil_append, List.eraseIdx_cons_zero, List.eraseIdx_cons_succ, List.setIfInBounds_toArray, World.size_alloc, selR, List.getD_cons_zero, List.getD_cons_succ] at H)
          have p3 := (hw5.cell hbb5).trans p2
          clear hw5 e0 e1 p2 q2 hV1 hWay c0
          have c0 := (H.out.blk 0 rfl).cell 1; simp only [List.getElem?_toArray, List.getElem?_cons_zero, List.getElem?_cons_succ] at c0
          go_wp2_with fail
          clear c0 p3
          have HSm0 : Hid ((0 : Int) = (sumTo (fun k => (drillOf (trs.map Tir.con) f t k).length) 0 : Nat)) := rfl
          go_loopg [12, 98] m2 (fun gg s12 s98 wr => ∃ (k sm : Nat), gg = m2 - k ∧ k ≤ m2 ∧ s98 = .int .i64 k ∧ s12 = .int .i64 sm ∧ sm ≤ 100000 * k ∧ Hid ((sm : Int) = (sumTo (fun k => (drillOf (trs.map Tir.con) f t k).length) k : Nat)) ∧ Hid (SL No w wr [rBlk x 24 #[.string ⟨nm.toArray⟩, .slice (some ⟨bb, oo, none⟩) n c]]))
          case atStart => exact ⟨0, 0, rfl, by omega, rfl, rfl, by omega, HSm0, H⟩
          case round =>
            clear H HSm0
            obtain ⟨k, sm, hgk, hk, rfl, rfl, hsm, HSm, H⟩ := hrel
            have Hgk := Lib.hid hgk
            clear hgk
            by_cases hlt : k < m2
            · have hsome := HSome.out k hlt
              have hmax : (drillOf (trs.map Tir.con) f t k).length ≤ 220 := by
                rw [drill_len]
                have h1 := List.count_le_length (a := (k : Int)) (l := mapOf (trs.map Tir.con) f t)
                have h2 := HML.out
                have h3 := HSf.out
                omega
              have HSm1 : Hid (((sm + (drillOf (trs.map Tir.con) f t k).length : Nat) : Int) = (sumTo (fun k => (drillOf (trs.map Tir.con) f t k).length) (k + 1) : Nat)) := by show _ = _; rw [sumTo]; have := HSm.out; omega
              go_wp2_with ((with_reducible show wpList _ _ _ (⟨some 101, _, _, _, _, _⟩ :: _) _ _); (refine wpList_load_blk rfl rowDm (.tmp 5) rfl _ rfl (H.out.blk 0 rfl) rfl ?_))
              refine (HDr.out (by omega) (fun T hT => by have := (HTS.out T hT).1; omega) (by have h2 := HML.out; have h3 := HSf.out; omega) k (by unfold I64; omega) _ H.out.to).mono ?_; rintro e w6 ⟨B, cc, rfl, hb6, _⟩
              replace H := Lib.hid (H.out.bel hb6); (try simp only [List.set_cons_zero, List.set_cons_succ, List.cons_append, List.nil_append, List.eraseIdx_cons_zero, List.eraseIdx_cons_succ, List.setIfInBounds_toArray, World.size_alloc, selR, List.getD_cons_zero, List.getD_cons_succ] at H)
              clear hb6
              generalize (drillOf (trs.map Tir.con) f t k).length = dl at *
              have z3 : ((dl : Int) == 0) = false := by simp; omega
              have z4 : (dl == 0) = false := by simp; omega
              clear HSm
              go_wp2
              go_roundg (m2 - (k + 1))
              case rel => exact ⟨k + 1, sm + dl, rfl, by omega, by go_num, by go_num, by omega, HSm1, H⟩
              case measure => rw [Hgk.out]; omega
            · have hEq : sm = m := by have h1 := HSm.out; have h2 := HSum.out; have h3 := HSf.out; rw [show k = m2 by omega, h2] at h1; omega
              subst hEq
              obtain ⟨b7, o7, T7, hA, hbb7, hT7, hTr7, hrg7⟩ := (HD.out.mono H.out.to).tirAt (k := f) hfn
              injection hA with hA
              injection hA with hA1 hA2
              subst hA1 hA2
              have q7 := hrg7 1 _ rfl
              have hT8 : T7.ts.n = sm := by rw [← HSf.out, sizeAt_tir hT7]; exact hTr7.ts.len.symm
              rw [hT8] at q7
              clear hT8 hT7 hTr7 hrg7 hbb7
              have c0 := (H.out.blk 0 rfl).cell 1; simp only [List.getElem?_toArray, List.getElem?_cons_zero, List.getElem?_cons_succ] at c0
              have z5 : ((sm : Int) == sm) = true := by simp
              go_wp2_with fail
              refine (awake16_any _).mono ?_; rintro e w9 ⟨rfl, hb9⟩
              go_wp2
              go_ret
              exact ⟨rfl, H.out.to.trans hb9⟩
        · rcases (show i < 0 ∨ (0 ≤ i ∧ m ≤ i) by omega) with g | ⟨g, g'⟩
          · have a5 : decide (i < 0) = true := by simp <;> omega
            go_wp2_with fail
            refine (awake16_any _).mono ?_; rintro e w9 ⟨rfl, hb9⟩
            go_wp2
            go_ret
            exact ⟨rfl, H.out.to.trans hb9⟩
          · have a5 : decide (i < 0) = false := by simp <;> omega
            have a6 : decide ((m : Int) ≤ i) = true := by simp <;> omega
            go_wp2_with fail
            refine (awake16_any _).mono ?_; rintro e w9 ⟨rfl, hb9⟩
            go_wp2
            go_ret
            exact ⟨rfl, H.out.to.trans hb9⟩
      · rcases (show f < 0 ∨ (0 ≤ f ∧ b < f) ∨ (0 ≤ f ∧ f ≤ b ∧ t < b) ∨ (0 ≤ f ∧ f ≤ b ∧ b ≤ t ∧ n ≤ t) by omega) with g | ⟨g, g'⟩ | ⟨g, g', g''⟩ | ⟨g, g', g'', g3⟩
        · have a1 : decide (f < 0) = true := by simp <;> omega
          go_wp2_with fail
          refine (awake16_any _).mono ?_; rintro e w9 ⟨rfl, hb9⟩
          go_wp2
          go_ret
          exact ⟨rfl, H.out.to.trans hb9⟩
        · have a1 : decide (f < 0) = false := by simp <;> omega
          have a2 : decide (b < f) = true := by simp <;> omega
          go_wp2_with fail
          refine (awake16_any _).mono ?_; rintro e w9 ⟨rfl, hb9⟩
          go_wp2
          go_ret
          exact ⟨rfl, H.out.to.trans hb9⟩
        · have a1 : decide (f < 0) = false := by simp <;> omega
          have a2 : decide (b < f) = false := by simp <;> omega
          have a3 : decide (t < b) = true := by simp <;> omega
          go_wp2_with fail
          refine (awake16_any _).mono ?_; rintro e w9 ⟨rfl, hb9⟩
          go_wp2
          go_ret
          exact ⟨rfl, H.out.to.trans hb9⟩
        · have a1 : decide (f < 0) = false := by simp <;> omega
          have a2 : decide (b < f) = false := by simp <;> omega
          have a3 : decide (t < b) = false := by simp <;> omega
          have a4 : decide ((n : Int) ≤ t) = true := by simp <;> omega
          go_wp2_with fail
          refine (awake16_any _).mono ?_; rintro e w9 ⟨rfl, hb9⟩
          go_wp2
          go_ret
          exact ⟨rfl, H.out.to.trans hb9⟩
    · generalize dimErr ⟨nm, trs.map Tir.con⟩ = E at *
      have z1 : (E != 0) = true := by simpa using hE
      have z2 : (E == 0) = false := by simpa using hE
      go_wp2_with fail
      refine (awake16_any _).mono ?_; rintro e w9 ⟨rfl, hb9⟩
      go_wp2
      go_ret
      exact ⟨rfl, H.out.to.trans hb9⟩

end Go.Proofs.Ytnjpoamebkehbaa
