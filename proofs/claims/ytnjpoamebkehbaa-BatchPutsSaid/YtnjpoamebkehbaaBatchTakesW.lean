/- The document's Same of batches; the walk of the law BatchTakes. -/
import Derived.Test.YtnjpoamebkehbaaBatS
import Derived.Test.YtnjpoamebkehbaaBatA
import Derived.Test.YtnjpoamebkehbaaSchemaChecksW
namespace Go.Proofs.Ytnjpoamebkehbaa
open Go.RowKit
set_option linter.unusedVariables false
set_option linter.unusedSimpArgs false

theorem Row.rd.rwIn {w : World} {x : Row Rw} (h : x.rd w) {k : Nat} (hk : k < x.n) : ∃ b o r, x.A = some ⟨b, o, none⟩ ∧ x.l[k]? = some r ∧ ∀ w', Bel w w' → r.rd w' ∧ w'.cell? ⟨b, o + k * 2, none⟩ = some (.slice r.ts.A r.ts.n r.ts.c) ∧ w'.cell? ⟨b, o + k * 2 + 1, none⟩ = some (.slice r.vs.A r.vs.n r.vs.c) := by
  obtain ⟨b, o, r, hA, _, hrk, _, _⟩ := h.rwAt hk
  refine ⟨b, o, r, hA, hrk, fun w' hb => ?_⟩
  obtain ⟨b2, o2, r2, hA2, _, hrk2, hrr, hrg⟩ := (h.mono hb).rwAt hk
  rw [hA] at hA2
  injection hA2 with hA2
  injection hA2 with e1 e2 _
  subst e1 e2
  rw [hrk] at hrk2
  injection hrk2 with e
  subst e
  exact ⟨hrr, by have := hrg 0 _ rfl; simpa using this, hrg 1 _ rfl⟩
set_option maxRecDepth 100000 in
set_option maxHeartbeats 4000000 in
theorem bsame_any (x y : Row Rw) (w : World) (hx : x.rd w) (hy : y.rd w) (he : x.l.map Rw.con = y.l.map Rw.con) :
    Calls Try.prog 59 #[.slice x.A x.n x.c, .slice y.A y.n y.c] w fun e w' => e = .returned (.bool true) ∧ Bel w w' := by
  have hlx : x.l.length = x.n := hx.len
  have hly : y.l.length = y.n := hy.len
  have hxy : x.n = y.n := by rw [← hlx, ← hly]; have := congrArg List.length he; simpa using this
  have HRX := Lib.hid hx
  have HRY := Lib.hid hy
  have HE := Lib.hid he
  have n63 := hx.n63
  have HB : Hid (Bel w w) := Bel.refl _
  obtain ⟨A, n, c, rows⟩ := x
  obtain ⟨B, m, d, rows2⟩ := y
  simp only at *
  subst hxy
  clear hx hy he hlx hly
  have e0 : ((n : Int) != n) = false := by simp
  go_enter Try.func59, Try.ntmps59
  go_wp2_with fail
  clear e0
  go_loopg [15] n (fun gg s15 wr => ∃ (k : Nat), gg = n - k ∧ k ≤ n ∧ s15 = .int .i64 k ∧ Hid (Bel w wr))
  case atStart => exact ⟨0, rfl, by omega, rfl, HB⟩
  case round =>
    clear HB
    obtain ⟨k, hgk, hk, rfl, HB⟩ := hrel
    have Hgk := Lib.hid hgk
    clear hgk
    by_cases hlt : k < n
    · obtain ⟨bb, oo, r, hA, hrk, hX⟩ := HRX.out.rwIn (k := k) hlt
      obtain ⟨b2, o2, r2, hB, hrk2, hY⟩ := HRY.out.rwIn (k := k) hlt
      simp only at hA hB hrk hrk2
      have hcc : r.con = r2.con := by
        have h1 := congrArg (fun l => l[k]?) HE.out
        simp only [List.getElem?_map, hrk, hrk2, Option.map_some] at h1
        injection h1 with h1
      have hc1 : r.ts.l = r2.ts.l := congrArg RC.ts hcc
      have hc2 : r.vs.l = r2.vs.l := congrArg RC.vs hcc
      have g1 : r.ts.l.length = r.ts.n := (hX _ (Bel.refl _)).1.ts.len
      have g2 : r.vs.l.length = r.vs.n := (hX _ (Bel.refl _)).1.vs.len
      have g3 : r2.ts.l.length = r2.ts.n := (hY _ (Bel.refl _)).1.ts.len
      have g4 : r2.vs.l.length = r2.vs.n := (hY _ (Bel.refl _)).1.vs.len
      have g5 : r.ts.n = r2.ts.n := by rw [← g1, ← g3, hc1]
      have g6 : r.vs.n = r2.vs.n := by rw [← g2, ← g4, hc2]
      have n3b := (hX _ (Bel.refl _)).1.ts.n63
      have n4b := (hX _ (Bel.refl _)).1.vs.n63
      subst hA hB
      clear g1 g2 g3 g4 hcc hrk hrk2
      have HX := Lib.hid hX
      have HY := Lib.hid hY
      clear hX hY
      obtain ⟨⟨A3, n3, c3, ts⟩, ⟨A4, n4, c4, vs⟩⟩ := r
      obtain ⟨⟨A5, n5, c5, ts2⟩, ⟨A6, n6, c6, vs2⟩⟩ := r2
      simp only at *
      subst hc1 hc2 g5 g6
      obtain ⟨R1, q0, q1⟩ := HX.out _ HB.out
      obtain ⟨R2, p0, p1⟩ := HY.out _ HB.out
      have i0 : (0 : Int) ≤ k := by omega
      have i1 : (k : Int) < n := by omega
      have e3 : ((n3 : Int) != n3) = false := by simp
      have e4 : ((n4 : Int) != n4) = false := by simp
      clear R1 R2
      go_wp2_with fail
      go_quiet (fail)
      rename_i nq
      go_wp2_with fail
      replace HB := Lib.hid (HB.out.drewN nq)
      generalize wr.drewN nq = w6 at *
      clear q0 q1 p0 p1 e3 e4
      go_loopg [52] n3 (fun gg sj wx => ∃ (j : Nat), gg = n3 - j ∧ j ≤ n3 ∧ sj = .int .i64 j ∧ Hid (Bel w wx))
      case atStart => exact ⟨0, rfl, by omega, rfl, HB⟩
      case round =>
        clear HB
        obtain ⟨j, hgj, hj, rfl, HB⟩ := hrel
        have Hgj := Lib.hid hgj
        clear hgj
        by_cases hjlt : j < n3
        · obtain ⟨R1, q0, q1⟩ := HX.out _ HB.out
          obtain ⟨R2, p0, p1⟩ := HY.out _ HB.out
          obtain ⟨b4, o4, t, hA4, htk, htl, u0⟩ := R1.ts.textAt (k := j) hjlt
          obtain ⟨b5, o5, t2, hA5, htk2, htl2, u1⟩ := R2.ts.textAt (k := j) hjlt
          simp only at hA4 hA5 htk htk2
          rw [htk] at htk2
          injection htk2 with htk2
          subst htk2 hA4 hA5
          have i0 : (0 : Int) ≤ k := by omega
          have i1 : (k : Int) < n := by omega
          have j0 : (0 : Int) ≤ j := by omega
          have j1 : (j : Int) < n3 := by omega
          have q8 : (t == t) = true := by simp
          have q9 : (t != t) = false := by simp
          clear R1 R2 htk
          go_wp2_with fail
          go_quiet (fail)
          rename_i nq
          go_wp2_with fail
          replace HB := Lib.hid (HB.out.drewN nq)
          generalize wr.drewN nq = w6 at *
          clear q0 q1 p0 p1 u0 u1
          go_roundg (n3 - (j + 1))
          case rel => exact ⟨j + 1, rfl, by omega, by go_num, HB⟩
          case measure => rw [Hgj.out]; omega
        · obtain ⟨R1, q0, q1⟩ := HX.out _ HB.out
          have i0 : (0 : Int) ≤ k := by omega
          have i1 : (k : Int) < n := by omega
          clear R1
          go_wp2_with fail
          clear q0 q1
          go_loopg [79] n4 (fun gg sj wx => ∃ (j : Nat), gg = n4 - j ∧ j ≤ n4 ∧ sj = .int .i64 j ∧ Hid (Bel w wx))
          case atStart => exact ⟨0, rfl, by omega, rfl, HB⟩
          case round =>
            clear HB
            obtain ⟨j, hgj, hj, rfl, HB⟩ := hrel
            have Hgj := Lib.hid hgj
            clear hgj
            by_cases hjlt : j < n4
            · obtain ⟨R1, q0, q1⟩ := HX.out _ HB.out
              obtain ⟨R2, p0, p1⟩ := HY.out _ HB.out
              obtain ⟨b4, o4, t, hA4, htk, htl, u0⟩ := R1.vs.intAt (k := j) hjlt
              obtain ⟨b5, o5, t2, hA5, htk2, htl2, u1⟩ := R2.vs.intAt (k := j) hjlt
              simp only at hA4 hA5 htk htk2
              rw [htk] at htk2
              injection htk2 with htk2
              subst htk2 hA4 hA5
              have i0 : (0 : Int) ≤ k := by omega
              have i1 : (k : Int) < n := by omega
              have j0 : (0 : Int) ≤ j := by omega
              have j1 : (j : Int) < n4 := by omega
              have q8 : (t == t) = true := by simp
              have q9 : (t != t) = false := by simp
              clear R1 R2 htk
              go_wp2_with fail
              go_quiet (fail)
              rename_i nq
              go_wp2_with fail
              replace HB := Lib.hid (HB.out.drewN nq)
              generalize wr.drewN nq = w6 at *
              clear q0 q1 p0 p1 u0 u1
              go_roundg (n4 - (j + 1))
              case rel => exact ⟨j + 1, rfl, by omega, by go_num, HB⟩
              case measure => rw [Hgj.out]; omega
            · go_wp2_with fail
              go_roundg (n - (k + 1))
              case rel => exact ⟨k + 1, rfl, by omega, by go_num, HB⟩
              case measure => rw [Hgk.out]; omega
    · go_wp2
      go_ret
      exact ⟨rfl, HB.out⟩
theorem battake_put {sc : SC} {s : List UInt8} (h : (battake sc s).2 = 0) : batPutV sc (battake sc s).1 = (s, 0) := by
  unfold battake at h ⊢
  split at h
  · rename_i h1; exact absurd h h1
  · rename_i h1
    rw [if_neg h1]
    cases hp : prws sc.dims.length sc.ms.length s with
    | error k => rw [hp] at h; exact absurd h (prws_err hp)
    | ok q =>
      obtain ⟨rows, r⟩ := q
      rw [hp] at h
      simp only at h ⊢
      split at h
      · rename_i h2
        rw [if_pos h2]
        split at h
        · rename_i h3
          rw [if_pos h3]
          unfold batPutV
          simp only
          rw [if_pos h3]
          have := prws_back hp
          rw [h2, List.append_nil] at this
          rw [← this]
        · rename_i h3; exact absurd h h3
      · cases h

set_option maxRecDepth 100000 in
set_option maxHeartbeats 2000000 in
theorem walkl_batchTakes (w : World) (d : Sch) (hd : d.rd w) (s : List UInt8) (hs : s.length ≤ 9223372036854775807) :
    Calls Try.prog 11 #[.agg d.cs, .string ⟨s.toArray⟩] w fun e w' => e = .returned (.bool true) ∧ Bel w w' := by
  have HF := Lib.hid (fun w' (hb : Bel w w') => schfew_any d w' (hd.mono hb))
  have HK := Lib.hid (fun (hf : FewS d) (h3 : s.length ≤ 3000) w' (hb : Bel w w') => battake_any d s w' (hd.mono hb) (by omega) (FewS.hn hf) (FewS.hm hf) (FewS.hd hf))
  have HR := Lib.hid (fun (hf : FewS d) (h3 : s.length ≤ 3000) w' (hb : Bel w w') => rbattake_any d s w' (hd.mono hb) (by omega) (FewS.hn hf) (FewS.hm hf) (FewS.hd hf))
  have HP := Lib.hid (fun (hf : FewS d) (X : Row Rw) w' (hX : X.rd w') (hb : Bel w w') => batput_any d X w' (hd.mono hb) hX (FewS.hn hf) (FewS.hm hf) (FewS.hd hf))
  have HV := Lib.hid (fun h => battake_put (sc := d.con) (s := s) h)
  have H := Lib.hid ((SL.start No w).alloc d.cs 70)
  (try simp only [List.set_cons_zero, List.set_cons_succ, List.cons_append, List.nil_append, List.eraseIdx_cons_zero, List.eraseIdx_cons_succ, List.setIfInBounds_toArray, World.size_alloc, selR, List.getD_cons_zero, List.getD_cons_succ] at H)
  have hcs : d.cs = #[.slice d.dm.A d.dm.n d.dm.c, .slice d.ms.A d.ms.n d.ms.c] := rfl
  have HCS := Lib.hid hcs
  clear hcs hd
  obtain ⟨rt, hrt⟩ : ∃ rt, rt = battake d.con s := ⟨_, rfl⟩
  rw [← hrt] at HK HR HV
  clear hrt
  go_enter Try.func11, Try.ntmps11
  rw [← HCS.out] at *
  go_wp2_with ((with_reducible show wpList _ _ _ (⟨some 11, _, _, _, _, _⟩ :: _) _ _); (refine wpList_load_blk rfl rowSch (.tmp 2) rfl _ rfl (H.out.blk 0 rfl) rfl ?_))
  refine (HF.out _ H.out.to).mono ?_; rintro e w1 ⟨b, rfl, hfew, hb1⟩
  replace H := Lib.hid (H.out.bel hb1); (try simp only [List.set_cons_zero, List.set_cons_succ, List.cons_append, List.nil_append, List.eraseIdx_cons_zero, List.eraseIdx_cons_succ, List.setIfInBounds_toArray, World.size_alloc, selR, List.getD_cons_zero, List.getD_cons_succ] at H)
  clear hb1 HF
  cases b with
  | false =>
    clear hfew
    go_wp2_with fail
    refine (awake20_any _).mono ?_; rintro e w2 ⟨rfl, hb2⟩
    go_wp2
    go_ret
    exact ⟨rfl, H.out.to.trans hb2⟩
  | true =>
    have hf := hfew rfl
    clear hfew
    by_cases h3 : s.length ≤ 3000
    · have d3 : decide ((3000 : Int) < s.length) = false := by simp <;> omega
      have d4 : decide (3000 < s.length) = false := by simp <;> omega
      go_wp2_with ((with_reducible show wpList _ _ _ (⟨some 21, _, _, _, _, _⟩ :: _) _ _); (refine wpList_load_blk rfl rowSch (.tmp 2) rfl _ rfl (H.out.blk 0 rfl) rfl ?_))
      refine (HK.out hf h3 _ H.out.to).mono ?_; rintro e w2 ⟨X, rfl, hXc, hb2, hXn⟩
      replace H := Lib.hid (H.out.add hb2 (rBat X) hXn.1 hXn.2); (try simp only [List.set_cons_zero, List.set_cons_succ, List.cons_append, List.nil_append, List.eraseIdx_cons_zero, List.eraseIdx_cons_succ, List.setIfInBounds_toArray, World.size_alloc, selR, List.getD_cons_zero, List.getD_cons_succ] at H)
      have HXc := Lib.hid hXc
      clear hb2 hXn hXc HK
      go_wp2_with ((with_reducible show wpList _ _ _ (⟨some 27, _, _, _, _, _⟩ :: _) _ _); (refine wpList_load_blk rfl rowSch (.tmp 2) rfl _ rfl (H.out.blk 0 rfl) rfl ?_))
      refine (HR.out hf h3 _ H.out.to).mono ?_; rintro e w3 ⟨U, rfl, hUc, hb3, hUn⟩
      replace H := Lib.hid (H.out.add hb3 (rBat U) hUn.1 hUn.2); (try simp only [List.set_cons_zero, List.set_cons_succ, List.cons_append, List.nil_append, List.eraseIdx_cons_zero, List.eraseIdx_cons_succ, List.setIfInBounds_toArray, World.size_alloc, selR, List.getD_cons_zero, List.getD_cons_succ] at H)
      have HUc := Lib.hid hUc
      clear hb3 hUn hUc HR
      dsimp only
      go_wp2_with fail
      refine (bsame_any X U _ (H.out.at_ 1 rfl).1 (H.out.at_ 2 rfl).1 (by rw [HXc.out, HUc.out])).mono ?_; rintro e w4 ⟨rfl, hb4⟩
      replace H := Lib.hid (H.out.bel hb4); (try simp only [List.set_cons_zero, List.set_cons_succ, List.cons_append, List.nil_append, List.eraseIdx_cons_zero, List.eraseIdx_cons_succ, List.setIfInBounds_toArray, World.size_alloc, selR, List.getD_cons_zero, List.getD_cons_succ] at H)
      clear hb4
      by_cases hE : rt.2 = 0
      · have hv := HV.out hE
        rw [← HXc.out] at hv
        have HPX := Lib.hid (HP.out hf X)
        rw [hv] at HPX
        clear HV HP hv HXc HUc
        obtain ⟨r1, r2⟩ := rt
        simp only at hE
        subst hE
        go_wp2_with ((with_reducible show wpList _ _ _ (⟨some 45, _, _, _, _, _⟩ :: _) _ _); (refine wpList_load_blk rfl rowSch (.tmp 2) rfl _ rfl (H.out.blk 0 rfl) rfl ?_))
        refine (HPX.out _ (H.out.at_ 1 rfl).1 H.out.to).mono ?_; rintro e w5 ⟨rfl, hb5⟩
        replace H := Lib.hid (H.out.bel hb5); (try simp only [List.set_cons_zero, List.set_cons_succ, List.cons_append, List.nil_append, List.eraseIdx_cons_zero, List.eraseIdx_cons_succ, List.setIfInBounds_toArray, World.size_alloc, selR, List.getD_cons_zero, List.getD_cons_succ] at H)
        clear hb5 HPX
        dsimp only
        have q8 : (s == s) = true := by simp
        go_wp2_with fail
        refine (awake20_any _).mono ?_; rintro e w6 ⟨rfl, hb6⟩
        go_wp2
        go_ret
        exact ⟨rfl, H.out.to.trans hb6⟩
      · obtain ⟨r1, r2⟩ := rt
        simp only at hE
        have z1 : (r2 != 0) = true := by simpa using hE
        have z2 : (r2 == 0) = false := by simpa using hE
        have z3 : (r2 != r2) = false := by simp
        clear hE HV
        dsimp only
        go_wp2_with fail
        refine (awake20_any _).mono ?_; rintro e w6 ⟨rfl, hb6⟩
        go_wp2
        go_ret
        exact ⟨rfl, H.out.to.trans hb6⟩
    · have d3 : decide ((3000 : Int) < s.length) = true := by simp <;> omega
      have d4 : decide (3000 < s.length) = true := by simp <;> omega
      go_wp2_with fail
      refine (awake20_any _).mono ?_; rintro e w2 ⟨rfl, hb2⟩
      go_wp2
      go_ret
      exact ⟨rfl, H.out.to.trans hb2⟩
theorem walk_batchTakes (w : World) (d : Sch) (hd : d.rd w) (b : ByteArray) (hb : b.size ≤ 9223372036854775807) :
    Calls Try.prog 11 #[.agg d.cs, .string b] w fun e w' => e = .returned (.bool true) ∧ Bel w w' := by
  obtain ⟨⟨l⟩⟩ := b
  exact walkl_batchTakes w d hd l (by simpa [ByteArray.size] using hb)

end Go.Proofs.Ytnjpoamebkehbaa
