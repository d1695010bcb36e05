/- The walk of the law TierChecks. -/
import Derived.Test.YtnjpoamebkehbaaBf
namespace Go.Proofs.Ytnjpoamebkehbaa
open Go.RowKit
set_option linter.unusedVariables false
set_option linter.unusedSimpArgs false

theorem trtake_put {t : TC} {above : Int} (ha : above ≤ 9223372036854775807) (h : tierErr t above = 0) : trtake above (tierPut t) = (t, 0) := by
  unfold trtake
  have := ptier_put ha h []
  rw [List.append_nil] at this
  rw [this]
  simp
theorem upPut_len (up : List Int) : (upPut up).length ≤ 9 * up.length := by
  unfold upPut
  induction up with
  | nil => simp
  | cons x r ih =>
    rw [List.flatMap_cons, List.length_append, List.length_cons]
    have := nput_le9 x.toNat
    omega
theorem tierPut_len {t : TC} {above : Int} (h : tierErr t above = 0) : (tierPut t).length ≤ 10000 := by
  obtain ⟨e1, _, e3, e4, _⟩ := tierErr_zero h
  have e5 := tierErr_up h
  have e6 := isName_len e1
  have e7 := tput_len e4
  have e8 := upPut_len t.up
  have e9 := nput_le9 t.nm.length
  unfold tierPut ptext
  simp only [List.length_append]
  omega

set_option maxRecDepth 100000 in
set_option maxHeartbeats 1000000 in
theorem walk_tierChecks (w : World) (t : Tir) (ht : t.rd w) (above : Int) (wa : (Lit.int .i64 above).wf = true) :
    Calls Try.prog 4 #[.agg t.cs, .int .i64 above] w fun e w' => e = .returned (.bool true) ∧ Bel w w' := by
  have ha : I64 above := bounds_i64 wa
  have HF := Lib.hid (fun w' (hb : Bel w w') => trfew_any t w' (ht.mono hb))
  have HP := Lib.hid (fun (hn : t.up.n ≤ 100000) w' (hb : Bel w w') => trput_any t above w' (ht.mono hb) hn ha)
  have HR := Lib.hid (fun w' (hb : Bel w w') => trwrong_any t above w' (ht.mono hb) ha)
  have HC := Lib.hid (fun (hn : t.up.n ≤ 100000) w' (hb : Bel w w') => trcheck_any t above w' (ht.mono hb) hn ha)
  have HW := Lib.hid ((Bel.refl w).alloc (.cells t.cs 30))
  have Q0 := Lib.hid (Blk.new w 30 t.cs)
  have hcs : t.cs = #[.string ⟨t.nm.toArray⟩, .slice t.ts.A t.ts.n t.ts.c, .slice t.up.A t.up.n t.up.c] := rfl
  by_cases hE : tierErr t.con above = 0
  · have hV : tierPutV t.con above = (tierPut t.con, 0) := by unfold tierPutV; rw [if_pos hE]
    have hl := tierPut_len hE
    have HT := Lib.hid (fun w => trtake_any (tierPut t.con) above w ha (by omega))
    rw [trtake_put ha.2 hE] at HT
    have HRP := Lib.hid (fun w' (hb : Bel w w') => rtrput_any t above w' (ht.mono hb) hE)
    have HS := Lib.hid (fun (T : Tir) w' (hT : T.rd w') (hb : Bel w w') => trsame_any T t w' hT (ht.mono hb))
    rw [hV] at HP
    rw [hE] at HR HC
    have HCS := Lib.hid hcs
    clear hE hV hcs ht wa hl
    go_enter Try.func4, Try.ntmps4
    rw [← HCS.out] at *
    go_wp2_with (first | ((with_reducible show wpList _ _ _ (⟨some 10, _, _, _, _, _⟩ :: _) _ _); refine wpList_load_blkG (by first | rfl | go_simp) rowTir (.tmp 2) (by rfl) w.heap.size (by rfl) Q0.out rfl ?_))
    refine (HF.out _ HW.out).mono ?_; rintro e w1 ⟨b, rfl, hfew, hb1⟩
    have Q1 := Lib.hid (Q0.out.bel hb1)
    have B1 := Lib.hid (HW.out.trans hb1)
    clear hb1 Q0 HW HF
    cases b with
    | false =>
      clear hfew
      go_wp2_with fail
      refine (awake15_any _).mono ?_; rintro e w2 ⟨rfl, hb2⟩
      go_wp2
      go_ret
      exact ⟨rfl, B1.out.trans hb2⟩
    | true =>
      obtain ⟨hn1, hn2⟩ := hfew rfl
      clear hfew
      go_wp2_with (first | ((with_reducible show wpList _ _ _ (⟨some 15, _, _, _, _, _⟩ :: _) _ _); refine wpList_load_blkG (by first | rfl | go_simp) rowTir (.tmp 2) (by rfl) w.heap.size (by rfl) Q1.out rfl ?_))
      refine (HP.out (by omega) _ B1.out).mono ?_; rintro e w2 ⟨rfl, hb2⟩
      have Q2 := Lib.hid (Q1.out.bel hb2)
      have B2 := Lib.hid (B1.out.trans hb2)
      clear hb2 Q1 B1
      go_wp2_with (first | ((with_reducible show wpList _ _ _ (⟨some 20, _, _, _, _, _⟩ :: _) _ _); refine wpList_load_blkG (by first | rfl | go_simp) rowTir (.tmp 2) (by rfl) w.heap.size (by rfl) Q2.out rfl ?_))
      refine (HR.out _ B2.out).mono ?_; rintro e w3 ⟨rfl, hb3⟩
      have Q3 := Lib.hid (Q2.out.bel hb3)
      have B3 := Lib.hid (B2.out.trans hb3)
      clear hb3 Q2 B2
      go_wp2_with (first | ((with_reducible show wpList _ _ _ (⟨some 27, _, _, _, _, _⟩ :: _) _ _); refine wpList_load_blkG (by first | rfl | go_simp) rowTir (.tmp 2) (by rfl) w.heap.size (by rfl) Q3.out rfl ?_))
      refine (HC.out (by omega) _ B3.out).mono ?_; rintro e w4 ⟨rfl, hb4⟩
      have Q4 := Lib.hid (Q3.out.bel hb4)
      have B4 := Lib.hid (B3.out.trans hb4)
      clear hb4 Q3 B3
      go_wp2_with fail
      refine (HT.out _).mono ?_; rintro e w5 ⟨T, rfl, hTc, hTr, _, hb5⟩
      have HTc := Lib.hid hTc
      have HTr := Lib.hid (hTr.mono ((Bel.refl _).alloc (.cells T.cs 30)))
      have Q5 := Lib.hid ((Q4.out.bel hb5).alloc (.cells T.cs 30))
      have B5 := Lib.hid ((B4.out.trans hb5).alloc (.cells T.cs 30))
      have X5 := Lib.hid (Blk.new w5 30 T.cs)
      clear hTc hTr hb5 Q4 B4
      go_wp2_with (first | ((with_reducible show wpList _ _ _ (⟨_, .store _ (.tmp 8) _, _, _, _, _⟩ :: _) _ _); refine wpList_store_new rfl rowTir (.tmp 8) (.tmp 44) rfl rfl rfl T.cs rfl rfl (tir_one T) ?_) | ((with_reducible show wpList _ _ _ (⟨some 47, _, _, _, _, _⟩ :: _) _ _); refine wpList_load_blkG (by first | rfl | go_simp) rowTir (.tmp 2) (by rfl) w.heap.size (by rfl) Q5.out rfl ?_))
      refine (HRP.out _ B5.out).mono ?_; rintro e w6 ⟨rfl, hb6⟩
      have Q6 := Lib.hid (Q5.out.bel hb6)
      have X6 := Lib.hid (X5.out.bel hb6)
      have B6 := Lib.hid (B5.out.trans hb6)
      have R6 := Lib.hid (HTr.out.mono hb6)
      clear hb6 Q5 X5 B5 HTr
      go_wp2_with (first | ((with_reducible show wpList _ _ _ (⟨some 51, _, _, _, _, _⟩ :: _) _ _); refine wpList_load_blkG (by first | rfl | go_simp) rowTir (.tmp 8) (by rfl) w5.heap.size (by rfl) X6.out rfl ?_) | ((with_reducible show wpList _ _ _ (⟨some 52, _, _, _, _, _⟩ :: _) _ _); refine wpList_load_blkG (by first | rfl | go_simp) rowTir (.tmp 2) (by rfl) w.heap.size (by rfl) Q6.out rfl ?_))
      refine (HS.out T _ R6.out B6.out).mono ?_; rintro e w7 ⟨rfl, hb7⟩
      rw [HTc.out, sameC_self]
      go_wp2_with fail
      refine (awake15_any _).mono ?_; rintro e w8 ⟨rfl, hb8⟩
      go_wp2
      go_ret
      exact ⟨rfl, (B6.out.trans hb7).trans hb8⟩
  · have hV : tierPutV t.con above = ([], tierErr t.con above) := by unfold tierPutV; rw [if_neg hE]
    have dE : (tierErr t.con above == 0) = false := by simpa using hE
    have dE2 : (tierErr t.con above != 0) = true := by simpa using hE
    rw [hV] at HP
    generalize tierErr t.con above = E at *
    have HCS := Lib.hid hcs
    clear hE hV hcs ht wa
    go_enter Try.func4, Try.ntmps4
    rw [← HCS.out] at *
    go_wp2_with (first | ((with_reducible show wpList _ _ _ (⟨some 10, _, _, _, _, _⟩ :: _) _ _); refine wpList_load_blkG (by first | rfl | go_simp) rowTir (.tmp 2) (by rfl) w.heap.size (by rfl) Q0.out rfl ?_))
    refine (HF.out _ HW.out).mono ?_; rintro e w1 ⟨b, rfl, hfew, hb1⟩
    have Q1 := Lib.hid (Q0.out.bel hb1)
    have B1 := Lib.hid (HW.out.trans hb1)
    clear hb1 Q0 HW HF
    cases b with
    | false =>
      clear hfew
      go_wp2_with fail
      refine (awake15_any _).mono ?_; rintro e w2 ⟨rfl, hb2⟩
      go_wp2
      go_ret
      exact ⟨rfl, B1.out.trans hb2⟩
    | true =>
      obtain ⟨hn1, hn2⟩ := hfew rfl
      clear hfew
      go_wp2_with (first | ((with_reducible show wpList _ _ _ (⟨some 15, _, _, _, _, _⟩ :: _) _ _); refine wpList_load_blkG (by first | rfl | go_simp) rowTir (.tmp 2) (by rfl) w.heap.size (by rfl) Q1.out rfl ?_))
      refine (HP.out (by omega) _ B1.out).mono ?_; rintro e w2 ⟨rfl, hb2⟩
      have Q2 := Lib.hid (Q1.out.bel hb2)
      have B2 := Lib.hid (B1.out.trans hb2)
      clear hb2 Q1 B1
      go_wp2_with (first | ((with_reducible show wpList _ _ _ (⟨some 20, _, _, _, _, _⟩ :: _) _ _); refine wpList_load_blkG (by first | rfl | go_simp) rowTir (.tmp 2) (by rfl) w.heap.size (by rfl) Q2.out rfl ?_))
      refine (HR.out _ B2.out).mono ?_; rintro e w3 ⟨rfl, hb3⟩
      have Q3 := Lib.hid (Q2.out.bel hb3)
      have B3 := Lib.hid (B2.out.trans hb3)
      clear hb3 Q2 B2
      go_wp2_with (first | ((with_reducible show wpList _ _ _ (⟨some 27, _, _, _, _, _⟩ :: _) _ _); refine wpList_load_blkG (by first | rfl | go_simp) rowTir (.tmp 2) (by rfl) w.heap.size (by rfl) Q3.out rfl ?_))
      refine (HC.out (by omega) _ B3.out).mono ?_; rintro e w4 ⟨rfl, hb4⟩
      have Q4 := Lib.hid (Q3.out.bel hb4)
      have B4 := Lib.hid (B3.out.trans hb4)
      clear hb4 Q3 B3
      go_wp2_with fail
      refine (awake15_any _).mono ?_; rintro e w8 ⟨rfl, hb8⟩
      go_wp2
      go_ret
      exact ⟨rfl, B4.out.trans hb8⟩

end Go.Proofs.Ytnjpoamebkehbaa
