/- The walk of the law AggPuts. -/
import Derived.Test.YtllgcehgdpgnnaaAggV
import Derived.Test.YtllgcehgdpgnnaaAgEq
namespace Go.Proofs.Ytllgcehgdpgnnaa
open Go.RowKit
set_option linter.unusedVariables false
set_option linter.unusedSimpArgs false

theorem atake_agPut {m : Int} {a : Ag} (ha : a.ok) (h : mayAg m a = true) : atake m (agPut m.toNat a) = (a, 0) := by
  unfold atake
  have := pag_agPut ha h []
  rw [List.append_nil] at this
  rw [this]
  simp
theorem putsFrom_len (a : Ag) : ∀ n k, (putsFrom a k n).length ≤ 27 * n := by
  intro n
  induction n with
  | zero => intro k; simp [putsFrom]
  | succ n ih =>
    intro k
    rw [putsFrom, List.length_append]
    have := ih (k + 1)
    have : (prtPut a.c (a.prt k)).length ≤ 27 := by
      unfold prtPut
      have := nput_le9 (nfold (a.prt k).s)
      have := nput_le9 (nfold (a.prt k).mn)
      have := nput_le9 (nfold (a.prt k).mx)
      split <;> simp only [List.length_append, List.length_nil] <;> omega
    omega
theorem agPut_len (m : Nat) (a : Ag) : (agPut m a).length ≤ 9 + 27 * m := by
  unfold agPut
  rw [List.length_append]
  have := nput_le9 (nfold a.c)
  have := putsFrom_len a m 0
  omega

set_option maxRecDepth 100000 in
set_option maxHeartbeats 1000000 in
theorem walk_aggPuts (w : World) (m : Int) (wm : (Lit.int .i64 m).wf = true) (a : Ag) (ha : a.ok) :
    Calls Try.prog 11 #[.int .i64 m, .agg a.cs] w fun e w' => e = .returned (.bool true) ∧ Bel w w' := by
  have hm : I64 m := bounds_i64 wm
  have HP := Lib.hid (fun w => aput_any a m w ha hm)
  have HM := Lib.hid (fun w => rmay_any a m w hm)
  have ea : a.cs = #[.int .i64 a.c, .int .i64 a.p.s, .int .i64 a.p.mn, .int .i64 a.p.mx, .int .i64 a.q.s, .int .i64 a.q.mn, .int .i64 a.q.mx, .int .i64 a.r.s, .int .i64 a.r.mn, .int .i64 a.r.mx] := rfl
  have b0 := Blk.new w 92 a.cs
  have hW := (Bel.refl w).alloc (.cells a.cs 92)
  cases hA : mayAg m a with
  | false =>
    have hV : agPutV m a = ([], 2) := by unfold agPutV; rw [hA]; rfl
    rw [hV] at HP
    rw [hA] at HM
    clear hA hV wm hm
    rw [ea]
    go_enter Try.func11, Try.ntmps11
    rw [← ea] at *
    have HW := Lib.hid hW
    have B0 := Lib.hid b0
    clear hW b0 ea
    go_wp2_with (first | ((with_reducible show wpList _ _ _ (⟨some 11, _, _, _, _, _⟩ :: _) _ _); refine wpList_load_blk rfl rowAg (.tmp 3) (by rfl) w.heap.size (by rfl) B0.out rfl ?_))
    refine (HP.out _).mono ?_; rintro e w1 ⟨rfl, hb1⟩
    have b1 := B0.out.bel hb1
    go_wp2_with (first | ((with_reducible show wpList _ _ _ (⟨some 16, _, _, _, _, _⟩ :: _) _ _); refine wpList_load_blk rfl rowAg (.tmp 3) (by rfl) w.heap.size (by rfl) b1 rfl ?_))
    refine (HM.out _).mono ?_; rintro e w2 ⟨rfl, hb2⟩
    go_wp2_with fail
    refine (awake06_any _).mono ?_; rintro e w3 ⟨rfl, hb3⟩
    go_wp2
    go_ret
    exact ⟨rfl, ((HW.out.trans hb1).trans hb2).trans hb3⟩
  | true =>
    have hV : agPutV m a = (agPut m.toNat a, 0) := by unfold agPutV; rw [hA]; rfl
    have HT := Lib.hid (fun w => atake_any (agPut m.toNat a) m w hm (by have := agPut_len m.toNat a; have := mayAg_parts hA; omega))
    rw [atake_agPut ha hA] at HT
    have HR := Lib.hid (fun w => raput_any a m w ha hm hA)
    rw [hV] at HP
    rw [hA] at HM
    clear hA hV wm hm
    rw [ea]
    go_enter Try.func11, Try.ntmps11
    rw [← ea] at *
    have HW := Lib.hid hW
    have B0 := Lib.hid b0
    clear hW b0 ea
    go_wp2_with (first | ((with_reducible show wpList _ _ _ (⟨some 11, _, _, _, _, _⟩ :: _) _ _); refine wpList_load_blk rfl rowAg (.tmp 3) (by rfl) w.heap.size (by rfl) B0.out rfl ?_))
    refine (HP.out _).mono ?_; rintro e w1 ⟨rfl, hb1⟩
    have b1 := B0.out.bel hb1
    go_wp2_with (first | ((with_reducible show wpList _ _ _ (⟨some 16, _, _, _, _, _⟩ :: _) _ _); refine wpList_load_blk rfl rowAg (.tmp 3) (by rfl) w.heap.size (by rfl) b1 rfl ?_))
    refine (HM.out _).mono ?_; rintro e w2 ⟨rfl, hb2⟩
    have b2 := Lib.hid (b1.bel hb2)
    have HB2 := Lib.hid ((HW.out.trans hb1).trans hb2)
    clear b1 hb1 hb2 HM HP HW B0
    go_wp2_with fail
    refine (HT.out _).mono ?_; rintro e w3 ⟨rfl, hb3⟩
    have HB3 := Lib.hid ((HB2.out.trans hb3).alloc (.cells a.cs 92))
    have b3 := Lib.hid ((b2.out.bel hb3).alloc (.cells a.cs 92))
    have c3 := Lib.hid (Blk.new w3 92 a.cs)
    clear hb3 b2 HB2
    go_wp2_with (first | ((with_reducible show wpList _ _ _ (⟨_, .store _ (.tmp 7) _, _, _, _, _⟩ :: _) _ _); refine wpList_store_new rfl rowAg (.tmp 7) (.tmp 32) rfl rfl rfl a.cs rfl rfl (ag_one _) ?_) | ((with_reducible show wpList _ _ _ (⟨some 36, _, _, _, _, _⟩ :: _) _ _); refine wpList_load_blk rfl rowAg (.tmp 3) (by rfl) w.heap.size (by rfl) b3.out rfl ?_))
    refine (HR.out _).mono ?_; rintro e w4 ⟨rfl, hb4⟩
    have b4 := b3.out.bel hb4
    have c4 := c3.out.bel hb4
    go_wp2_with (first | ((with_reducible show wpList _ _ _ (⟨some 44, _, _, _, _, _⟩ :: _) _ _); refine wpList_load_blkG (by first | rfl | go_simp) rowAg (.tmp 3) (by rfl) w.heap.size (by rfl) b4 rfl ?_) | ((with_reducible show wpList _ _ _ (⟨some 45, _, _, _, _, _⟩ :: _) _ _); refine wpList_load_blkG (by first | rfl | go_simp) rowAg (.tmp 7) (by rfl) w3.heap.size (by rfl) c4 rfl ?_) | ((with_reducible show wpList _ _ _ (⟨some 46, _, _, _, _, _⟩ :: _) _ _); refine wpList_cmp_row (by first | rfl | go_simp) .eql 92 92 (.tmp 44) (.tmp 45) (by rfl) (by rfl) (by rfl) guard_ag (eql_ag a _) ?_))
    refine (awake06_any _).mono ?_; rintro e w5 ⟨rfl, hb5⟩
    go_wp2
    go_ret
    exact ⟨rfl, (HB3.out.trans hb4).trans hb5⟩

end Go.Proofs.Ytllgcehgdpgnnaa
