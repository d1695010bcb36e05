/- node.list. -/
import Derived.Test.YtlclllkjnhgbjaaNodA
namespace Go.Proofs.Ytlclllkjnhgbjaa
open Go.RowKit
set_option linter.unusedVariables false
set_option linter.unusedSimpArgs false


theorem cellAt_some {nd : Nat} {ms dim size : Int} {l : List Cl} {i : Nat} {c : Cl} (h : l[i]? = some c) : cellAt nd ms dim size l i = if c.key < 0 ∨ size ≤ c.key then 13 else if 0 < i ∧ c.key ≤ ((l[i - 1]?).getD .nil).key then 4 else if cellOk nd ms dim c = false then 2 else 0 := by unfold cellAt; rw [h]
set_option maxRecDepth 100000 in
set_option maxHeartbeats 4000000 in
theorem nlist_any (s : Shp) (d size : Int) (x : Row Cl) (w : World) (hs : s.rd w) (hd : I64 d) (hz : I64 size) (hx : x.rd w) :
    Calls Try.prog 66 #[.agg s.cs, .int .i64 d, .int .i64 size, .slice x.A x.n x.c] w fun e w' => e = .returned (.int .i64 (listErr s.sz.n s.ms d size x.l)) ∧ Bel w w' := by
  have HC := Lib.hid (fun (c : Cl) w' (hb : Bel w w') (hc : c.ok) => ncell_any s d c w' (hs.mono hb) hd hc)
  have H := Lib.hid ((SL.start No w).alloc s.cs 24)
  (try simp only [List.set_cons_zero, List.set_cons_succ, List.cons_append, List.nil_append, List.eraseIdx_cons_zero, List.eraseIdx_cons_succ, List.setIfInBounds_toArray, World.size_alloc, selR, List.getD_cons_zero, List.getD_cons_succ] at H)
  have HX := Lib.hid (fun w' (hb : Bel w w') => hx.mono hb)
  have hlen : Hid (x.l.length = x.n) := hx.len
  have n63 := hx.n63
  have z64 := hz
  unfold I64 at z64
  have hcs : s.cs = #[.slice s.sz.A s.sz.n s.sz.c, .int .i64 s.ms] := rfl
  have HCS := Lib.hid hcs
  clear hcs hs hx hz
  obtain ⟨A, n, c, l⟩ := x
  simp only at hlen n63 HX ⊢
  obtain ⟨E, hE⟩ : ∃ E, E = listErr s.sz.n s.ms d size l := ⟨_, rfl⟩
  rw [← hE]
  by_cases hn0 : n = 0
  · have HV : Hid (E = 2) := by show _ = _; rw [hE]; unfold listErr; rw [if_pos (by rw [hlen.out]; exact hn0)]
    clear hE
    subst hn0
    go_enter Try.func66, Try.ntmps66
    (try rw [← HCS.out] at *)
    go_wp2_with fail
    go_ret
    rw [HV.out]
    exact ⟨rfl, H.out.to⟩
  have HE : Hid (E = firstErr (cellAt s.sz.n s.ms d size l) (n - 0) 0) := by show _ = _; rw [hE]; unfold listErr; rw [if_neg (by rw [hlen.out]; exact hn0), hlen.out, Nat.sub_zero]
  have z0 : ((n : Int) == 0) = false := by simp; omega
  clear hE hn0
  go_enter Try.func66, Try.ntmps66
  (try rw [← HCS.out] at *)
  go_upto_region 4 with fail
  generalize w.heap.size = x at *
  generalize World.alloc w _ = w1 at *
  clear z0
  go_loopg [16] n (fun gg s16 wr => ∃ (k : Nat), gg = n - k ∧ k ≤ n ∧ s16 = .int .i64 k ∧ Hid (E = firstErr (cellAt s.sz.n s.ms d size l) (n - k) k) ∧ Hid (SL No w wr [rBlk x 24 s.cs]))
  case atStart => exact ⟨0, rfl, by omega, rfl, HE, H⟩
  case round =>
    clear H HE
    obtain ⟨k, hgk, hk, rfl, HE, H⟩ := hrel
    have Hgk := Lib.hid hgk
    clear hgk
    by_cases hlt : k < n
    · obtain ⟨bb, oo, q, hA, hbb, hq, hqok, hqr⟩ := (HX.out _ H.out.to).clAt (k := k) hlt
      simp only at hA
      subst hA
      have HAT := Lib.hid (cellAt_some (nd := s.sz.n) (ms := s.ms) (dim := d) (size := size) hq)
      have HR := Lib.hid hqr
      have HQ := Lib.hid hqok
      have k0 : (0 : Int) ≤ k := by omega
      have k1 : (k : Int) < n := by omega
      have HPV : Hid (0 < k → ∃ p : Cl, l[k - 1]? = some p ∧ ∀ w', Bel w w' → w'.cell? ⟨bb, oo + (k - 1) * 12, none⟩ = some (.int .i64 p.key)) := fun h0 => by
        obtain ⟨p, hp⟩ : ∃ p, l[k - 1]? = some p := ⟨_, List.getElem?_eq_getElem (by rw [hlen.out]; omega)⟩
        refine ⟨p, hp, fun w' hb => ?_⟩
        obtain ⟨b2, o2, p2, hA2, _, hp2, _, hr2⟩ := (HX.out w' hb).clAt (k := k - 1) (by show k - 1 < n; omega)
        rw [hp] at hp2
        injection hp2 with hp2
        subst hp2
        injection hA2 with hA2
        injection hA2 with e1 e2
        subst e1 e2
        exact hr2 0 _ rfl
      clear hq hqok hqr
      go_upto_region 6 with (first | ((with_reducible show wpList _ _ _ (⟨some 20, _, _, _, _, _⟩ :: _) _ _); (refine wpList_load_row_at rfl rowCl (.tmp 19) rfl bb (oo + k * 12) rfl q.cs rfl HR.out ?_)) | ((with_reducible show wpList _ _ _ (⟨_, .store _ (.tmp 10) _, _, _, _, _⟩ :: _) _ _); (refine wpList_store_new rfl rowCl (.tmp 10) (.tmp 20) rfl rfl rfl (q.cs) rfl rfl (cl_one q) ?_; replace H := Lib.hid (H.out.alloc (q.cs) 32); (try simp only [List.set_cons_zero, List.set_cons_succ, List.cons_append, List.nil_append, List.eraseIdx_cons_zero, List.eraseIdx_cons_succ, List.setIfInBounds_toArray, World.size_alloc, selR, List.getD_cons_zero, List.getD_cons_succ] at H))))
      (try simp only [Act.put, List.setIfInBounds_toArray, List.set_cons_zero, List.set_cons_succ])
      clear HR hbb
      generalize wr.heap.size = y at *
      generalize World.alloc wr _ = w2 at *
      have cq : w2.cell? ⟨y, 0, none⟩ = some (.int .i64 q.key) := (H.out.blk 1 rfl).cell 0
      by_cases hb1 : q.key < 0
      · have HV : Hid (E = 13) := by show _ = _; rw [HE.out]; exact firstErr_hit hlt (by rw [HAT.out, if_pos (.inl hb1)]) (by decide)
        have d1 : decide (q.key < 0) = true := by simpa using hb1
        clear HE HAT hb1
        go_wp2_with fail
        go_ret
        rw [HV.out]
        exact ⟨rfl, H.out.to⟩
      have d1 : decide (q.key < 0) = false := by simpa using hb1
      by_cases hb2 : size ≤ q.key
      · have HV : Hid (E = 13) := by show _ = _; rw [HE.out]; exact firstErr_hit hlt (by rw [HAT.out, if_pos (.inr hb2)]) (by decide)
        have d2 : decide (size ≤ q.key) = true := by simpa using hb2
        clear HE HAT hb1 hb2
        go_wp2_with fail
        go_ret
        rw [HV.out]
        exact ⟨rfl, H.out.to⟩
      have d2 : decide (size ≤ q.key) = false := by simp <;> omega
      have HAT2 : Hid (cellAt s.sz.n s.ms d size l k = if 0 < k ∧ q.key ≤ ((l[k - 1]?).getD .nil).key then 4 else if cellOk s.sz.n s.ms d q = false then 2 else 0) := by show _ = _; rw [HAT.out, if_neg (by omega)]
      clear HAT hb1 hb2
      go_upto_region 8 with fail
      clear d1 d2
      go_cut [31] (fun s31 wx => ∃ bv : Bool, s31 = .bool bv ∧ Hid (cellAt s.sz.n s.ms d size l k = if bv = true then 4 else if cellOk s.sz.n s.ms d q = false then 2 else 0) ∧ Hid (SL No w wx [rBlk x 24 s.cs, rBlk y 32 q.cs]))
      case first =>
        by_cases hk0 : 0 < k
        · obtain ⟨p, hp, hpc⟩ := HPV.out hk0
          have HAT3 : Hid (cellAt s.sz.n s.ms d size l k = if decide (q.key ≤ p.key) = true then 4 else if cellOk s.sz.n s.ms d q = false then 2 else 0) := by
            show _ = _
            rw [HAT2.out, hp]
            simp [hk0]
          have cp := hpc _ H.out.to
          obtain ⟨j, rfl⟩ : ∃ j, k = j + 1 := ⟨k - 1, by omega⟩
          rw [show j + 1 - 1 = j from rfl] at cp
          have e2 : (((j + 1 : Nat) : Int)) - 1 = j := by omega
          have m0 : (0 : Int) ≤ j := by omega
          have m1 : (j : Int) < n := by omega
          have e1 : decide ((0 : Int) < ((j + 1 : Nat) : Int)) = true := by simp <;> omega
          clear hp hpc HPV HAT2 hk0
          have f_cq := fun u : Over w2 => Over.cell cq u
          have f_cp := fun u : Over w2 => Over.cell cp u
          refine wp_region_over (by kernel_rfl) (by kernel_rfl) ?_
          (try simp only [Act.put, List.setIfInBounds_toArray, List.set_cons_zero, List.set_cons_succ])
          repeat (go_big_quiet_step (fail))
          refine wpQuiet_nil ?_
          rintro w5 ⟨⟨_, hw5⟩, rfl⟩
          (try dsimp only)
          replace H := Lib.hid (H.out.bel hw5); (try simp only [List.set_cons_zero, List.set_cons_succ, List.cons_append, List.nil_append, List.eraseIdx_cons_zero, List.eraseIdx_cons_succ, List.setIfInBounds_toArray, World.size_alloc, selR, List.getD_cons_zero, List.getD_cons_succ] at H)
          clear f_cq f_cp cq cp
          go_wp2_with fail
          go_meet
          exact ⟨_, rfl, HAT3, H⟩
        · obtain rfl : k = 0 := by omega
          have HAT3 : Hid (cellAt s.sz.n s.ms d size l 0 = if (false : Bool) = true then 4 else if cellOk s.sz.n s.ms d q = false then 2 else 0) := by
            show _ = _
            rw [HAT2.out]
            simp
          clear HAT2 HPV
          have f_cq := fun u : Over w2 => Over.cell cq u
          refine wp_region_over (by kernel_rfl) (by kernel_rfl) ?_
          (try simp only [Act.put, List.setIfInBounds_toArray, List.set_cons_zero, List.set_cons_succ])
          repeat (go_big_quiet_step (fail))
          refine wpQuiet_nil ?_
          rintro w5 ⟨⟨_, hw5⟩, rfl⟩
          (try dsimp only)
          replace H := Lib.hid (H.out.bel hw5); (try simp only [List.set_cons_zero, List.set_cons_succ, List.cons_append, List.nil_append, List.eraseIdx_cons_zero, List.eraseIdx_cons_succ, List.setIfInBounds_toArray, World.size_alloc, selR, List.getD_cons_zero, List.getD_cons_succ] at H)
          clear f_cq cq
          go_wp2_with fail
          go_meet
          exact ⟨_, rfl, HAT3, H⟩
      case rest =>
        clear H cq HAT2 HPV
        obtain ⟨bv, rfl, HAT, H⟩ := hcut
        cases bv with
        | true =>
          have HV : Hid (E = 4) := by show _ = _; rw [HE.out]; exact firstErr_hit hlt (by rw [HAT.out, if_pos rfl]) (by decide)
          clear HE HAT
          go_wp2_with fail
          go_ret
          rw [HV.out]
          exact ⟨rfl, H.out.to⟩
        | false =>
          go_wp2_with (first | ((with_reducible show wpList _ _ _ (⟨some 46, _, _, _, _, _⟩ :: _) _ _); (refine wpList_load_blk rfl rowShp2 (.tmp 4) rfl _ rfl (H.out.blk 0 rfl) rfl ?_)) | ((with_reducible show wpList _ _ _ (⟨some 48, _, _, _, _, _⟩ :: _) _ _); (refine wpList_load_blk rfl rowCl (.tmp 10) rfl _ rfl (H.out.blk 1 rfl) rfl ?_)))
          refine (HC.out q _ H.out.to HQ.out).mono ?_; rintro e w3 ⟨rfl, hb3⟩
          replace H := Lib.hid (H.out.bel hb3); (try simp only [List.set_cons_zero, List.set_cons_succ, List.cons_append, List.nil_append, List.eraseIdx_cons_zero, List.eraseIdx_cons_succ, List.setIfInBounds_toArray, World.size_alloc, selR, List.getD_cons_zero, List.getD_cons_succ] at H)
          clear hb3
          cases hck : cellOk s.sz.n s.ms d q with
          | false =>
            have HV : Hid (E = 2) := by show _ = _; rw [HE.out]; exact firstErr_hit hlt (by rw [HAT.out, if_neg (by simp), if_pos hck]) (by decide)
            clear HE HAT hck
            go_wp2_with fail
            go_ret
            rw [HV.out]
            exact ⟨rfl, H.out.to⟩
          | true =>
            have HE2 : Hid (E = firstErr (cellAt s.sz.n s.ms d size l) (n - (k + 1)) (k + 1)) := by show _ = _; rw [HE.out]; exact firstErr_next hlt (by rw [HAT.out, if_neg (by simp), if_neg (by rw [hck]; simp)])
            clear HE HAT hck
            replace H := Lib.hid (H.out.sel [0] (by decide) (by simp))
            (try simp only [List.set_cons_zero, List.set_cons_succ, List.cons_append, List.nil_append, List.eraseIdx_cons_zero, List.eraseIdx_cons_succ, List.setIfInBounds_toArray, World.size_alloc, selR, List.getD_cons_zero, List.getD_cons_succ] at H)
            go_wp2_with fail
            go_roundg (n - (k + 1))
            case rel => exact ⟨k + 1, rfl, by omega, by go_num, HE2, H⟩
            case measure => rw [Hgk.out]; omega
    · obtain rfl : k = n := by omega
      have HV : Hid (E = 0) := by show _ = _; rw [HE.out, Nat.sub_self]; rfl
      clear HE
      go_wp2_with fail
      go_ret
      rw [HV.out]
      exact ⟨rfl, H.out.to⟩

end Go.Proofs.Ytlclllkjnhgbjaa
