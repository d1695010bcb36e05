/- The walk of the law BatchPuts. -/
import Derived.Test.YtnjpoamebkehbaaBi
import Derived.Test.YtnjpoamebkehbaaBatchTakesW
import Derived.Test.YtnjpoamebkehbaaBatV
import Derived.Test.YtnjpoamebkehbaaFactF
namespace Go.Proofs.Ytnjpoamebkehbaa
open Go.RowKit
set_option linter.unusedVariables false
set_option linter.unusedSimpArgs false

set_option maxRecDepth 100000 in
set_option maxHeartbeats 1000000 in
theorem batfacts_no (s : Sch) (x : Row Rw) (w : World) (hs : s.rd w) (hx : x.rd w) (hn : s.dm.n ≤ 1000000) (hm : s.ms.n ≤ 1000000) (hd : ∀ d ∈ s.dm.l, d.tr.n ≤ 1000000 ∧ ∀ t ∈ d.tr.l, t.up.n ≤ 100000) (hE : batErr s.con (x.l.map Rw.con) ≠ 0) :
    Calls Try.prog 61 #[.agg s.cs, .slice x.A x.n x.c] w fun e w' => e = .returned (.tuple #[.slice none 0 0, .int .i64 (batErr s.con (x.l.map Rw.con))]) ∧ Bel w w' := by
  have HC := Lib.hid (fun w' (hb : Bel w w') => batcheck_any s x w' (hs.mono hb) (hx.mono hb) hn hm hd)
  have H := Lib.hid ((SL.start No w).alloc s.cs 70)
  (try simp only [List.set_cons_zero, List.set_cons_succ, List.cons_append, List.nil_append, List.eraseIdx_cons_zero, List.eraseIdx_cons_succ, List.setIfInBounds_toArray, World.size_alloc, selR, List.getD_cons_zero, List.getD_cons_succ] at H)
  have hcs : s.cs = #[.slice s.dm.A s.dm.n s.dm.c, .slice s.ms.A s.ms.n s.ms.c] := rfl
  have HCS := Lib.hid hcs
  clear hs hx hd hcs
  generalize batErr s.con (x.l.map Rw.con) = E at *
  have dE : (E == 0) = false := by simpa using hE
  have dE2 : (E != 0) = true := by simpa using hE
  clear hE
  go_enter Try.func61, Try.ntmps61
  rw [← HCS.out] at *
  go_wp2_with ((with_reducible show wpList _ _ _ (⟨some 14, _, _, _, _, _⟩ :: _) _ _); (refine wpList_load_blk rfl rowSch (.tmp 2) rfl _ rfl (H.out.blk 0 rfl) rfl ?_))
  refine (HC.out _ H.out.to).mono ?_; rintro e w1 ⟨rfl, hb1⟩
  replace H := Lib.hid (H.out.bel hb1); (try simp only [List.set_cons_zero, List.set_cons_succ, List.cons_append, List.nil_append, List.eraseIdx_cons_zero, List.eraseIdx_cons_succ, List.setIfInBounds_toArray, World.size_alloc, selR, List.getD_cons_zero, List.getD_cons_succ] at H)
  clear hb1 HC
  go_wp2
  go_ret2
  exact ⟨rfl, H.out.to⟩

set_option maxRecDepth 100000 in
set_option maxHeartbeats 600000 in
theorem walk_batchPuts (w : World) (d : Sch) (hd : d.rd w) (x : Row Rw) (hx : x.rd w) :
    Calls Try.prog 12 #[.agg d.cs, x.v] w fun e w' => e = .returned (.bool true) ∧ Bel w w' := by
  have HF := Lib.hid (fun w' (hb : Bel w w') => schfew_any d w' (hd.mono hb))
  have HF2 := Lib.hid (fun w' (hb : Bel w w') => rwfew_any x w' (hx.mono hb))
  have HP := Lib.hid (fun (hf : FewS d) w' (hb : Bel w w') => batput_any d x w' (hd.mono hb) (hx.mono hb) (FewS.hn hf) (FewS.hm hf) (FewS.hd hf))
  have HW := Lib.hid (fun (hf : FewS d) w' (hb : Bel w w') => rbwrong_any d x w' (hd.mono hb) (hx.mono hb) (FewS.hn hf) (FewS.hm hf) (FewS.hd hf))
  have HC := Lib.hid (fun (hf : FewS d) w' (hb : Bel w w') => batcheck_any d x w' (hd.mono hb) (hx.mono hb) (FewS.hn hf) (FewS.hm hf) (FewS.hd hf))
  have H := Lib.hid ((SL.start No w).alloc d.cs 70)
  (try simp only [List.set_cons_zero, List.set_cons_succ, List.cons_append, List.nil_append, List.eraseIdx_cons_zero, List.eraseIdx_cons_succ, List.setIfInBounds_toArray, World.size_alloc, selR, List.getD_cons_zero, List.getD_cons_succ] at H)
  simp only [Row.v] at *
  have hcs : d.cs = #[.slice d.dm.A d.dm.n d.dm.c, .slice d.ms.A d.ms.n d.ms.c] := rfl
  by_cases hE : batErr d.con (x.l.map Rw.con) = 0
  · have hv : ∀ r ∈ x.l.map Rw.con, ∀ v ∈ r.vs, I64 v := fun r hr v hv => by
      obtain ⟨r', hr', rfl⟩ := List.mem_map.1 hr
      exact (hx.all r' hr').vs.all v hv
    have hV : batPutV d.con (x.l.map Rw.con) = (batPut (x.l.map Rw.con), 0) := by unfold batPutV; rw [if_pos hE]
    have hl := batPut_len hE
    have hT := battake_of_put hE hv
    have HT := Lib.hid (fun (hf : FewS d) w' (hb : Bel w w') => battake_any d (batPut (x.l.map Rw.con)) w' (hd.mono hb) (by omega) (FewS.hn hf) (FewS.hm hf) (FewS.hd hf))
    rw [hT] at HT
    have HFA := Lib.hid (fun (hf : FewS d) w' (hb : Bel w w') => batfacts_any d x w' (hd.mono hb) (hx.mono hb) (FewS.hn hf) (FewS.hm hf) (FewS.hd hf) hE)
    have HFR := Lib.hid (fun (hf : FewS d) w' (hb : Bel w w') => rbatfacts_any d x w' (hd.mono hb) (hx.mono hb) (FewS.hn hf) (FewS.hm hf) (FewS.hd hf) hE)
    have HRP := Lib.hid (fun w' (hb : Bel w w') => rbatput_any d.con x w' (hx.mono hb) hE)
    have HS := Lib.hid (fun (Y : Row Rw) w' (hY : Y.rd w') (hb : Bel w w') (he : Y.l.map Rw.con = x.l.map Rw.con) => bsame_any Y x w' hY (hx.mono hb) he)
    rw [hV] at HP
    rw [hE] at HW HC
    have HCS := Lib.hid hcs
    generalize batPut (x.l.map Rw.con) = P at *
    clear hE hv hV hl hT hcs hd hx
    go_enter Try.func12, Try.ntmps12
    rw [← HCS.out] at *
    go_wp2_with ((with_reducible show wpList _ _ _ (⟨some 12, _, _, _, _, _⟩ :: _) _ _); refine wpList_load_blkG (by first | rfl | go_simp) rowSch (.tmp 2) (by rfl) _ (by rfl) (H.out.blk 0 rfl) rfl ?_)
    refine (HF.out _ H.out.to).mono ?_; rintro e w1 ⟨b, rfl, hfew, hb1⟩
    replace H := Lib.hid (H.out.bel hb1); (try simp only [List.set_cons_zero, List.set_cons_succ, List.cons_append, List.nil_append, List.eraseIdx_cons_zero, List.eraseIdx_cons_succ, List.setIfInBounds_toArray, World.size_alloc, selR, List.getD_cons_zero, List.getD_cons_succ] at H)
    clear hb1 HF
    cases b with
    | false =>
      clear hfew
      go_wp2_with fail
      refine (awake20_any _).mono ?_; rintro e w9 ⟨rfl, hb9⟩
      go_wp2
      go_ret
      exact ⟨rfl, H.out.to.trans hb9⟩
    | true =>
      have hf := hfew rfl
      clear hfew
      go_wp2_with fail
      refine (HF2.out _ H.out.to).mono ?_; rintro e w2 ⟨b, rfl, hfew, hb2⟩
      replace H := Lib.hid (H.out.bel hb2); (try simp only [List.set_cons_zero, List.set_cons_succ, List.cons_append, List.nil_append, List.eraseIdx_cons_zero, List.eraseIdx_cons_succ, List.setIfInBounds_toArray, World.size_alloc, selR, List.getD_cons_zero, List.getD_cons_succ] at H)
      clear hb2 HF2 hfew
      cases b with
      | false =>
        go_wp2_with fail
        refine (awake20_any _).mono ?_; rintro e w9 ⟨rfl, hb9⟩
        go_wp2
        go_ret
        exact ⟨rfl, H.out.to.trans hb9⟩
      | true =>
        go_wp2_with ((with_reducible show wpList _ _ _ (⟨some 22, _, _, _, _, _⟩ :: _) _ _); refine wpList_load_blkG (by first | rfl | go_simp) rowSch (.tmp 2) (by rfl) _ (by rfl) (H.out.blk 0 rfl) rfl ?_)
        refine (HP.out hf _ H.out.to).mono ?_; rintro e w3 ⟨rfl, hb3⟩
        replace H := Lib.hid (H.out.bel hb3); (try simp only [List.set_cons_zero, List.set_cons_succ, List.cons_append, List.nil_append, List.eraseIdx_cons_zero, List.eraseIdx_cons_succ, List.setIfInBounds_toArray, World.size_alloc, selR, List.getD_cons_zero, List.getD_cons_succ] at H)
        clear hb3
        dsimp only
        go_wp2_with ((with_reducible show wpList _ _ _ (⟨some 28, _, _, _, _, _⟩ :: _) _ _); refine wpList_load_blkG (by first | rfl | go_simp) rowSch (.tmp 2) (by rfl) _ (by rfl) (H.out.blk 0 rfl) rfl ?_)
        refine (HFA.out hf _ H.out.to).mono ?_; rintro e w4 ⟨X, rfl, hXn, hXl, hb4, hXw⟩; clear hXn
        replace H := Lib.hid (H.out.add hb4 (rFac X) hXw.1 hXw.2); (try simp only [List.set_cons_zero, List.set_cons_succ, List.cons_append, List.nil_append, List.eraseIdx_cons_zero, List.eraseIdx_cons_succ, List.setIfInBounds_toArray, World.size_alloc, selR, List.getD_cons_zero, List.getD_cons_succ] at H)
        have HXl := Lib.hid hXl
        clear hb4 hXw hXl HFA HP
        go_wp2_with ((with_reducible show wpList _ _ _ (⟨some 33, _, _, _, _, _⟩ :: _) _ _); refine wpList_load_blkG (by first | rfl | go_simp) rowSch (.tmp 2) (by rfl) _ (by rfl) (H.out.blk 0 rfl) rfl ?_)
        refine (HW.out hf _ H.out.to).mono ?_; rintro e w5 ⟨rfl, hb5⟩
        replace H := Lib.hid (H.out.bel hb5); (try simp only [List.set_cons_zero, List.set_cons_succ, List.cons_append, List.nil_append, List.eraseIdx_cons_zero, List.eraseIdx_cons_succ, List.setIfInBounds_toArray, World.size_alloc, selR, List.getD_cons_zero, List.getD_cons_succ] at H)
        clear hb5
        go_wp2_with ((with_reducible show wpList _ _ _ (⟨some 45, _, _, _, _, _⟩ :: _) _ _); refine wpList_load_blkG (by first | rfl | go_simp) rowSch (.tmp 2) (by rfl) _ (by rfl) (H.out.blk 0 rfl) rfl ?_)
        refine (HC.out hf _ H.out.to).mono ?_; rintro e w6 ⟨rfl, hb6⟩
        replace H := Lib.hid (H.out.bel hb6); (try simp only [List.set_cons_zero, List.set_cons_succ, List.cons_append, List.nil_append, List.eraseIdx_cons_zero, List.eraseIdx_cons_succ, List.setIfInBounds_toArray, World.size_alloc, selR, List.getD_cons_zero, List.getD_cons_succ] at H)
        clear hb6
        go_wp2_with ((with_reducible show wpList _ _ _ (⟨some 64, _, _, _, _, _⟩ :: _) _ _); refine wpList_load_blkG (by first | rfl | go_simp) rowSch (.tmp 2) (by rfl) _ (by rfl) (H.out.blk 0 rfl) rfl ?_)
        refine (HT.out hf _ H.out.to).mono ?_; rintro e w7 ⟨Y, rfl, hYc, hb7, hYw⟩
        replace H := Lib.hid (H.out.add hb7 (rBat Y) hYw.1 hYw.2); (try simp only [List.set_cons_zero, List.set_cons_succ, List.cons_append, List.nil_append, List.eraseIdx_cons_zero, List.eraseIdx_cons_succ, List.setIfInBounds_toArray, World.size_alloc, selR, List.getD_cons_zero, List.getD_cons_succ] at H)
        have HYc := Lib.hid hYc
        dsimp only
        clear hb7 hYw hYc HT HW HC
        go_wp2_with fail
        refine (HRP.out _ H.out.to).mono ?_; rintro e w8 ⟨rfl, hb8⟩
        replace H := Lib.hid (H.out.bel hb8); (try simp only [List.set_cons_zero, List.set_cons_succ, List.cons_append, List.nil_append, List.eraseIdx_cons_zero, List.eraseIdx_cons_succ, List.setIfInBounds_toArray, World.size_alloc, selR, List.getD_cons_zero, List.getD_cons_succ] at H)
        clear hb8
        have q8 : (P == P) = true := by simp
        go_wp2_with fail
        refine (HS.out Y _ (H.out.at_ 2 rfl).1 H.out.to HYc.out).mono ?_; rintro e w10 ⟨rfl, hb10⟩
        replace H := Lib.hid (H.out.bel hb10); (try simp only [List.set_cons_zero, List.set_cons_succ, List.cons_append, List.nil_append, List.eraseIdx_cons_zero, List.eraseIdx_cons_succ, List.setIfInBounds_toArray, World.size_alloc, selR, List.getD_cons_zero, List.getD_cons_succ] at H)
        clear hb10 HS HRP
        go_wp2_with ((with_reducible show wpList _ _ _ (⟨some 84, _, _, _, _, _⟩ :: _) _ _); refine wpList_load_blkG (by first | rfl | go_simp) rowSch (.tmp 2) (by rfl) _ (by rfl) (H.out.blk 0 rfl) rfl ?_)
        refine (HFR.out hf _ H.out.to).mono ?_; rintro e w11 ⟨Z, rfl, hZn, hZl, hb11, hZw⟩; clear hZn
        replace H := Lib.hid (H.out.add hb11 (rFac Z) hZw.1 hZw.2); (try simp only [List.set_cons_zero, List.set_cons_succ, List.cons_append, List.nil_append, List.eraseIdx_cons_zero, List.eraseIdx_cons_succ, List.setIfInBounds_toArray, World.size_alloc, selR, List.getD_cons_zero, List.getD_cons_succ] at H)
        have hsame : sameF X.l Z.l = true := by
          unfold sameF cons
          rw [HXl.out, hZl]
          simp
        clear hb11 hZw HFR hZl
        go_wp2_with fail
        have hx1 : X.ok _ ∧ X.n ≤ 300 := H.out.at_ 1 rfl
        have hz1 : Z.ok _ ∧ Z.n ≤ 300 := H.out.at_ 3 rfl
        have hss := same_any X Z _ hx1.1 hz1.1 (by omega) (by omega)
        rw [hsame] at hss
        simp only [Row.v] at hss
        clear hx1 hz1 HXl HYc
        refine hss.mono ?_; rintro e w12 ⟨rfl, hb12⟩
        replace H := Lib.hid (H.out.bel hb12); (try simp only [List.set_cons_zero, List.set_cons_succ, List.cons_append, List.nil_append, List.eraseIdx_cons_zero, List.eraseIdx_cons_succ, List.setIfInBounds_toArray, World.size_alloc, selR, List.getD_cons_zero, List.getD_cons_succ] at H)
        clear hb12 hss
        go_wp2_with fail
        refine (awake20_any _).mono ?_; rintro e w9 ⟨rfl, hb9⟩
        go_wp2
        go_ret
        exact ⟨rfl, H.out.to.trans hb9⟩
  · have hV : batPutV d.con (x.l.map Rw.con) = ([], batErr d.con (x.l.map Rw.con)) := by unfold batPutV; rw [if_neg hE]
    have HFA := Lib.hid (fun (hf : FewS d) w' (hb : Bel w w') => batfacts_no d x w' (hd.mono hb) (hx.mono hb) (FewS.hn hf) (FewS.hm hf) (FewS.hd hf) hE)
    rw [hV] at HP
    generalize batErr d.con (x.l.map Rw.con) = E at *
    have HCS := Lib.hid hcs
    have z1 : (E != 0) = true := by simpa using hE
    have z2 : (E == 0) = false := by simpa using hE
    have z3 : (E != E) = false := by simp
    clear hE hV hcs hd hx
    go_enter Try.func12, Try.ntmps12
    rw [← HCS.out] at *
    go_wp2_with ((with_reducible show wpList _ _ _ (⟨some 12, _, _, _, _, _⟩ :: _) _ _); refine wpList_load_blkG (by first | rfl | go_simp) rowSch (.tmp 2) (by rfl) _ (by rfl) (H.out.blk 0 rfl) rfl ?_)
    refine (HF.out _ H.out.to).mono ?_; rintro e w1 ⟨b, rfl, hfew, hb1⟩
    replace H := Lib.hid (H.out.bel hb1); (try simp only [List.set_cons_zero, List.set_cons_succ, List.cons_append, List.nil_append, List.eraseIdx_cons_zero, List.eraseIdx_cons_succ, List.setIfInBounds_toArray, World.size_alloc, selR, List.getD_cons_zero, List.getD_cons_succ] at H)
    clear hb1 HF
    cases b with
    | false =>
      clear hfew
      go_wp2_with fail
      refine (awake20_any _).mono ?_; rintro e w9 ⟨rfl, hb9⟩
      go_wp2
      go_ret
      exact ⟨rfl, H.out.to.trans hb9⟩
    | true =>
      have hf := hfew rfl
      clear hfew
      go_wp2_with fail
      refine (HF2.out _ H.out.to).mono ?_; rintro e w2 ⟨b, rfl, hfew, hb2⟩
      replace H := Lib.hid (H.out.bel hb2); (try simp only [List.set_cons_zero, List.set_cons_succ, List.cons_append, List.nil_append, List.eraseIdx_cons_zero, List.eraseIdx_cons_succ, List.setIfInBounds_toArray, World.size_alloc, selR, List.getD_cons_zero, List.getD_cons_succ] at H)
      clear hb2 HF2 hfew
      cases b with
      | false =>
        go_wp2_with fail
        refine (awake20_any _).mono ?_; rintro e w9 ⟨rfl, hb9⟩
        go_wp2
        go_ret
        exact ⟨rfl, H.out.to.trans hb9⟩
      | true =>
        go_wp2_with ((with_reducible show wpList _ _ _ (⟨some 22, _, _, _, _, _⟩ :: _) _ _); refine wpList_load_blkG (by first | rfl | go_simp) rowSch (.tmp 2) (by rfl) _ (by rfl) (H.out.blk 0 rfl) rfl ?_)
        refine (HP.out hf _ H.out.to).mono ?_; rintro e w3 ⟨rfl, hb3⟩
        replace H := Lib.hid (H.out.bel hb3); (try simp only [List.set_cons_zero, List.set_cons_succ, List.cons_append, List.nil_append, List.eraseIdx_cons_zero, List.eraseIdx_cons_succ, List.setIfInBounds_toArray, World.size_alloc, selR, List.getD_cons_zero, List.getD_cons_succ] at H)
        clear hb3
        dsimp only
        go_wp2_with ((with_reducible show wpList _ _ _ (⟨some 28, _, _, _, _, _⟩ :: _) _ _); refine wpList_load_blkG (by first | rfl | go_simp) rowSch (.tmp 2) (by rfl) _ (by rfl) (H.out.blk 0 rfl) rfl ?_)
        refine (HFA.out hf _ H.out.to).mono ?_; rintro e w4 ⟨rfl, hb4⟩
        replace H := Lib.hid (H.out.bel hb4); (try simp only [List.set_cons_zero, List.set_cons_succ, List.cons_append, List.nil_append, List.eraseIdx_cons_zero, List.eraseIdx_cons_succ, List.setIfInBounds_toArray, World.size_alloc, selR, List.getD_cons_zero, List.getD_cons_succ] at H)
        clear hb4
        go_wp2_with ((with_reducible show wpList _ _ _ (⟨some 33, _, _, _, _, _⟩ :: _) _ _); refine wpList_load_blkG (by first | rfl | go_simp) rowSch (.tmp 2) (by rfl) _ (by rfl) (H.out.blk 0 rfl) rfl ?_)
        refine (HW.out hf _ H.out.to).mono ?_; rintro e w5 ⟨rfl, hb5⟩
        replace H := Lib.hid (H.out.bel hb5); (try simp only [List.set_cons_zero, List.set_cons_succ, List.cons_append, List.nil_append, List.eraseIdx_cons_zero, List.eraseIdx_cons_succ, List.setIfInBounds_toArray, World.size_alloc, selR, List.getD_cons_zero, List.getD_cons_succ] at H)
        clear hb5
        go_wp2_with ((with_reducible show wpList _ _ _ (⟨some 45, _, _, _, _, _⟩ :: _) _ _); refine wpList_load_blkG (by first | rfl | go_simp) rowSch (.tmp 2) (by rfl) _ (by rfl) (H.out.blk 0 rfl) rfl ?_)
        refine (HC.out hf _ H.out.to).mono ?_; rintro e w6 ⟨rfl, hb6⟩
        replace H := Lib.hid (H.out.bel hb6); (try simp only [List.set_cons_zero, List.set_cons_succ, List.cons_append, List.nil_append, List.eraseIdx_cons_zero, List.eraseIdx_cons_succ, List.setIfInBounds_toArray, World.size_alloc, selR, List.getD_cons_zero, List.getD_cons_succ] at H)
        clear hb6
        go_wp2_with fail
        refine (awake20_any _).mono ?_; rintro e w9 ⟨rfl, hb9⟩
        go_wp2
        go_ret
        exact ⟨rfl, H.out.to.trans hb9⟩

end Go.Proofs.Ytnjpoamebkehbaa
