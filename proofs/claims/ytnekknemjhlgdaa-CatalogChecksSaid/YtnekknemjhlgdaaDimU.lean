/- dim.Has, dim.Lift, dim.Map, dim.Drill, dim.Sizes; the chapter's example (law 16). -/
import Derived.Test.YtnekknemjhlgdaaDimQ
import Derived.Test.YtnekknemjhlgdaaDimW
import Derived.Test.YtnekknemjhlgdaaBf
namespace Go.Proofs.Ytnekknemjhlgdaa
open Go.RowKit
set_option linter.unusedVariables false
set_option linter.unusedSimpArgs false

set_option maxRecDepth 100000 in
theorem has_any (d : Dm) (k : Int) (w : World) (hd : d.rd w) :
    Calls Try.prog 159 #[.agg d.cs, .int .i64 k] w fun e w' => e = .returned (.bool (decide (0 ≤ k ∧ k < d.tr.n))) ∧ Bel w w' := by
  have hW := (Bel.refl w).alloc (.cells d.cs 64)
  have h63 := hd.tr.n63
  obtain ⟨nm, ⟨A, n, c, trs⟩⟩ := d
  simp only [Dm.cs] at *
  have HW := Lib.hid hW
  clear hW hd
  by_cases h0 : 0 ≤ k
  · have d0 : decide ((0 : Int) ≤ k) = true := by simpa using h0
    by_cases h1 : k < n
    · have d1 : decide (k < (n : Int)) = true := by simpa using h1
      have dd : decide (0 ≤ k ∧ k < (n : Int)) = true := by simp; omega
      go_enter Try.func159, Try.ntmps159
      go_wp2
      go_ret
      try rw [dd]
      exact ⟨rfl, HW.out⟩
    · have d1 : decide (k < (n : Int)) = false := by simp; omega
      have dd : decide (0 ≤ k ∧ k < (n : Int)) = false := by simp; omega
      go_enter Try.func159, Try.ntmps159
      go_wp2
      go_ret
      try rw [dd]
      exact ⟨rfl, HW.out⟩
  · have d0 : decide ((0 : Int) ≤ k) = false := by simp; omega
    have dd : decide (0 ≤ k ∧ k < (n : Int)) = false := by simp; omega
    go_enter Try.func159, Try.ntmps159
    go_wp2
    go_ret
    try rw [dd]
    exact ⟨rfl, HW.out⟩

theorem sizeAt_tir {trs : List Tir} {k : Nat} {t : Tir} (h : trs[k]? = some t) : sizeAt (trs.map Tir.con) k = t.ts.l.length := by
  unfold sizeAt
  rw [List.getElem?_map, h]
  rfl

set_option maxRecDepth 100000 in
set_option maxHeartbeats 1000000 in
theorem lift_any (d : Dm) (f t i : Int) (w : World) (hd : d.rd w) (hf : I64 f) (ht : I64 t) (hi : I64 i) (hn : d.tr.n ≤ 1000000) :
    Calls Try.prog 209 #[.agg d.cs, .int .i64 f, .int .i64 t, .int .i64 i] w fun e w' => e = .returned (.int .i64 (liftOf (d.tr.l.map Tir.con) f t i)) ∧ Bel w w' := by
  have HH := Lib.hid (fun k w' (hb : Bel w w') => has_any d k w' (hd.mono hb))
  have hW := (Bel.refl w).alloc (.cells d.cs 64)
  have q0 := Lib.hid (Blk.new w 64 d.cs)
  have hlen : Hid (d.tr.l.length = d.tr.n) := hd.tr.len
  have HD := Lib.hid (hd.mono hW).tr
  obtain ⟨nm, ⟨A, n, c, trs⟩⟩ := d
  simp only [Dm.cs] at *
  have HW := Lib.hid hW
  have hml : (trs.map Tir.con).length = n := by rw [List.length_map]; exact hlen.out
  clear hW hd
  obtain ⟨f0, f1⟩ := hf
  obtain ⟨t0, t1⟩ := ht
  by_cases hF : 0 ≤ f ∧ f < n
  · have dF : decide (0 ≤ f ∧ f < (n : Int)) = true := by simp; omega
    by_cases hT : 0 ≤ t ∧ t < n
    · have dT : decide (0 ≤ t ∧ t < (n : Int)) = true := by simp; omega
      by_cases hFT : t < f
      · have HE : Hid (liftOf (trs.map Tir.con) f t i = -1) := by show _ = _; unfold liftOf; rw [if_neg (by omega)]
        have d1 : decide (t < f) = true := by simpa using hFT
        clear hml
        go_enter Try.func209, Try.ntmps209
        go_wp2_with fail
        refine (HH.out f _ HW.out).mono ?_; rintro e w1 ⟨rfl, hb1⟩
        rw [dF]
        have b1 := q0.out.bel hb1
        go_wp2_with ((with_reducible show wpList _ _ _ (⟨some 15, _, _, _, _, _⟩ :: _) _ _); refine wpList_load_blkG (by first | rfl | go_simp) rowDm (.tmp 4) (by rfl) w.heap.size (by rfl) b1 rfl ?_)
        refine (HH.out t _ (HW.out.trans hb1)).mono ?_; rintro e w2 ⟨rfl, hb2⟩
        rw [dT]
        go_wp2
        go_ret
        rw [HE.out]
        exact ⟨rfl, (HW.out.trans hb1).trans hb2⟩
      · have d1 : decide (t < f) = false := by simp; omega
        obtain ⟨f, rfl⟩ : ∃ k : Nat, f = k := ⟨f.toNat, by omega⟩
        obtain ⟨t, rfl⟩ : ∃ k : Nat, t = k := ⟨t.toNat, by omega⟩
        have d1n : decide (t < f) = false := by simp; omega
        have d1m : (t < f) = False := by simp; omega
        by_cases hi0 : i < 0
        · have HE : Hid (liftOf (trs.map Tir.con) f t i = -1) := by show _ = _; unfold liftOf; rw [if_neg (by omega)]
          have d2 : decide (i < 0) = true := by simpa using hi0
          clear hml
          go_enter Try.func209, Try.ntmps209
          go_wp2_with fail
          refine (HH.out f _ HW.out).mono ?_; rintro e w1 ⟨rfl, hb1⟩
          rw [dF]
          have b1 := q0.out.bel hb1
          go_wp2_with ((with_reducible show wpList _ _ _ (⟨some 15, _, _, _, _, _⟩ :: _) _ _); refine wpList_load_blkG (by first | rfl | go_simp) rowDm (.tmp 4) (by rfl) w.heap.size (by rfl) b1 rfl ?_)
          refine (HH.out t _ (HW.out.trans hb1)).mono ?_; rintro e w2 ⟨rfl, hb2⟩
          rw [dT]
          go_wp2
          go_ret
          rw [HE.out]
          exact ⟨rfl, (HW.out.trans hb1).trans hb2⟩
        · have d2 : decide (i < 0) = false := by simp; omega
          have hfn : f < n := by omega
          obtain ⟨bb, oo, T, hA, hbb, hT0, hTr, hrg⟩ := HD.out.tirAt (k := f) hfn
          simp only at hA
          subst hA
          have hsz : sizeAt (trs.map Tir.con) f = T.ts.n := by rw [sizeAt_tir hT0]; exact hTr.ts.len
          have hc0 := hrg 1 _ rfl
          by_cases hiN : i < T.ts.n
          · have d3 : decide ((T.ts.n : Int) ≤ i) = false := by simp; omega
            have HE : Hid (liftOf (trs.map Tir.con) f t i = max (liftN ((trs.map Tir.con).drop f) (t - f) i) (-1)) := by
              show _ = _
              unfold liftOf
              rw [if_pos ⟨by omega, by omega, by omega, by omega, by rw [Int.toNat_natCast, hsz]; exact hiN⟩, Int.toNat_natCast]
              rw [show ((t : Int) - f).toNat = t - f by omega]
            have HL0 : Hid (liftN ((trs.map Tir.con).drop f) (t - f) i = liftN ((trs.map Tir.con).drop f) (t - f) i) := rfl
            have hft : f ≤ t := by omega
            have htn : t < n := by omega
            clear hml hsz hT0 hTr hrg
            go_enter Try.func209, Try.ntmps209
            go_wp2_with fail
            refine (HH.out f _ HW.out).mono ?_; rintro e w1 ⟨rfl, hb1⟩
            rw [dF]
            have b1 := q0.out.bel hb1
            go_wp2_with ((with_reducible show wpList _ _ _ (⟨some 15, _, _, _, _, _⟩ :: _) _ _); refine wpList_load_blkG (by first | rfl | go_simp) rowDm (.tmp 4) (by rfl) w.heap.size (by rfl) b1 rfl ?_)
            refine (HH.out t _ (HW.out.trans hb1)).mono ?_; rintro e w2 ⟨rfl, hb2⟩
            rw [dT]
            have B2 := Lib.hid ((HW.out.trans hb1).trans hb2)
            have Q2 := Lib.hid (b1.bel hb2)
            have c2 := ((hb1.trans hb2).cell hbb).trans hc0
            have D2 := Lib.hid ((HD.out.mono hb1).mono hb2)
            have g2 := Q2.out.cell 1
            simp only [List.getElem?_toArray, List.getElem?_cons_zero, List.getElem?_cons_succ] at g2
            have i2 : (0 : Int) ≤ f := by omega
            have i3 : (f : Int) < n := by omega
            go_wp2_with fail
            have L0 : Hid (liftN ((trs.map Tir.con).drop f) (t - f) i = liftN ((trs.map Tir.con).drop f) (t - f) i) := rfl
            clear c2 hc0 g2 d1 d2 d3 dF dT q0 HW HD HL0
            go_loopg [3, 9] (t - f) (fun gg s3 s9 wr => ∃ (k : Nat) (j : Int), gg = t - k ∧ f ≤ k ∧ k ≤ t ∧ s3 = .int .i64 j ∧ s9 = .int .i64 k ∧ I64 j ∧ Hid (Bel w wr) ∧ Hid (Blk wr w.heap.size 64 #[.string ⟨nm.toArray⟩, .slice (some ⟨bb, oo, none⟩) n c]) ∧ Hid (Row.rd wr ⟨some ⟨bb, oo, none⟩, n, c, trs⟩) ∧ Hid (liftN ((trs.map Tir.con).drop f) (t - f) i = liftN ((trs.map Tir.con).drop k) (t - k) j))
            case atStart => exact ⟨f, i, rfl, by omega, by omega, rfl, rfl, hi, B2, Q2, D2, L0⟩
            case round =>
              clear B2 Q2 D2 L0
              obtain ⟨k, j, hgk, hk0, hk, rfl, rfl, hj, hB, hQ, hD, hL⟩ := hrel
              have Hgk := Lib.hid hgk
              clear hgk
              have g2 := hQ.out.cell 1
              simp only [List.getElem?_toArray, List.getElem?_cons_zero, List.getElem?_cons_succ] at g2
              by_cases hlt : k < t
              · have e1 : decide ((k : Int) < t) = true := by simp; omega
                by_cases hj0 : 0 ≤ j
                · have e2 : decide ((0 : Int) ≤ j) = true := by simpa using hj0
                  obtain ⟨b2, o2, U, hA2, hb2, hU, hUr, hrg⟩ := hD.out.tirAt (k := k) (show k < n by omega)
                  simp only [Option.some.injEq, Addr.mk.injEq] at hA2
                  obtain ⟨rfl, rfl, _⟩ := hA2
                  have hUc : (trs.map Tir.con)[k]? = some U.con := by rw [List.getElem?_map, hU]; rfl
                  have HN : Hid (liftN ((trs.map Tir.con).drop f) (t - f) i = liftN ((trs.map Tir.con).drop (k + 1)) (t - (k + 1)) (overOf U.up.l j)) := by
                    show _ = _
                    rw [hL.out, show t - k = (t - (k + 1)) + 1 by omega, liftN_drop hUc hj0]
                  have i2 : (0 : Int) ≤ k := by omega
                  have i3 : (k : Int) < n := by omega
                  have ho : I64 (overOf U.up.l j) := by
                    unfold overOf
                    split
                    · unfold I64; omega
                    · cases hz : U.up.l[j.toNat]? with
                      | none => unfold I64; simp
                      | some z => exact hUr.up.all z (List.mem_of_getElem? hz)
                  have HRG := Lib.hid hrg
                  have HO := Lib.hid (over_any U j wr hUr hj)
                  have wk : IntKind.i64.wrap ((k : Int) + 1) = (k : Int) + 1 := IntWalk.i64_in _ (by omega)
                  clear hL hU hUr hrg hUc hb2
                  go_wp2_with ((with_reducible show wpList _ _ _ (⟨some 54, _, _, _, _, _⟩ :: _) _ _); refine wpList_load_row_at rfl rowTir (.tmp 53) rfl bb (oo + k * 3) rfl U.cs rfl HRG.out ?_)
                  refine HO.out.mono ?_; rintro e w3 ⟨rfl, hb3⟩
                  go_wp2_with fail
                  go_roundg (t - (k + 1))
                  case rel => exact ⟨k + 1, overOf U.up.l j, rfl, by omega, by omega, rfl, by go_num, ho, hB.out.trans hb3, hQ.out.bel hb3, hD.out.mono hb3, HN⟩
                  case measure => rw [Hgk.out]; omega
                · have e2 : decide ((0 : Int) ≤ j) = false := by simp; omega
                  have HN : Hid (liftOf (trs.map Tir.con) f t i = max j (-1)) := by show _ = _; rw [HE.out, hL.out, liftN_neg (by omega)]
                  clear hL HE
                  go_wp2
                  go_ret
                  rw [HN.out]
                  exact ⟨rfl, hB.out⟩
              · have e1 : decide ((k : Int) < t) = false := by simp; omega
                have HN : Hid (liftOf (trs.map Tir.con) f t i = max j (-1)) := by show _ = _; rw [HE.out, hL.out, show t - k = 0 by omega, liftN_zero]
                clear hL HE
                go_wp2
                go_ret
                rw [HN.out]
                exact ⟨rfl, hB.out⟩
          · have d3 : decide ((T.ts.n : Int) ≤ i) = true := by simp; omega
            have HE : Hid (liftOf (trs.map Tir.con) f t i = -1) := by
              show _ = _
              unfold liftOf
              rw [if_neg]
              rw [Int.toNat_natCast, hsz]
              omega
            clear hml hsz hT0 hTr hrg
            go_enter Try.func209, Try.ntmps209
            go_wp2_with fail
            refine (HH.out f _ HW.out).mono ?_; rintro e w1 ⟨rfl, hb1⟩
            rw [dF]
            have b1 := q0.out.bel hb1
            go_wp2_with ((with_reducible show wpList _ _ _ (⟨some 15, _, _, _, _, _⟩ :: _) _ _); refine wpList_load_blkG (by first | rfl | go_simp) rowDm (.tmp 4) (by rfl) w.heap.size (by rfl) b1 rfl ?_)
            refine (HH.out t _ (HW.out.trans hb1)).mono ?_; rintro e w2 ⟨rfl, hb2⟩
            rw [dT]
            have B2 := Lib.hid ((HW.out.trans hb1).trans hb2)
            have Q2 := Lib.hid (b1.bel hb2)
            have c2 := ((hb1.trans hb2).cell hbb).trans hc0
            have g2 := Q2.out.cell 1
            simp only [List.getElem?_toArray, List.getElem?_cons_zero, List.getElem?_cons_succ] at g2
            have i2 : (0 : Int) ≤ f := by omega
            have i3 : (f : Int) < n := by omega
            go_wp2
            go_ret
            rw [HE.out]
            exact ⟨rfl, B2.out⟩
    · have dT : decide (0 ≤ t ∧ t < (n : Int)) = false := by simp; omega
      have HE : Hid (liftOf (trs.map Tir.con) f t i = -1) := by show _ = _; unfold liftOf; rw [if_neg (by omega)]
      clear hml
      go_enter Try.func209, Try.ntmps209
      go_wp2_with fail
      refine (HH.out f _ HW.out).mono ?_; rintro e w1 ⟨rfl, hb1⟩
      rw [dF]
      have b1 := q0.out.bel hb1
      go_wp2_with ((with_reducible show wpList _ _ _ (⟨some 15, _, _, _, _, _⟩ :: _) _ _); refine wpList_load_blkG (by first | rfl | go_simp) rowDm (.tmp 4) (by rfl) w.heap.size (by rfl) b1 rfl ?_)
      refine (HH.out t _ (HW.out.trans hb1)).mono ?_; rintro e w2 ⟨rfl, hb2⟩
      rw [dT]
      go_wp2
      go_ret
      rw [HE.out]
      exact ⟨rfl, (HW.out.trans hb1).trans hb2⟩
  · have dF : decide (0 ≤ f ∧ f < (n : Int)) = false := by simp; omega
    have HE : Hid (liftOf (trs.map Tir.con) f t i = -1) := by show _ = _; unfold liftOf; rw [if_neg (by omega)]
    clear hml
    go_enter Try.func209, Try.ntmps209
    go_wp2_with fail
    refine (HH.out f _ HW.out).mono ?_; rintro e w1 ⟨rfl, hb1⟩
    rw [dF]
    go_wp2
    go_ret
    rw [HE.out]
    exact ⟨rfl, HW.out.trans hb1⟩

end Go.Proofs.Ytnekknemjhlgdaa
