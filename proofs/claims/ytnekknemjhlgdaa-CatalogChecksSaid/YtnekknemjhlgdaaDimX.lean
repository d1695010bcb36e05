/- The document's Wrong of dimensions. -/
import Derived.Test.YtnekknemjhlgdaaDimW
namespace Go.Proofs.Ytnekknemjhlgdaa
open Go.RowKit
set_option linter.unusedVariables false
set_option linter.unusedSimpArgs false

theorem above_i64 {w : World} {trs : List Tir} (h : ∀ t ∈ trs, t.rd w) (k : Nat) : I64 (aboveOf ((trs.map Tir.con).drop k)) := by
  unfold I64
  cases hdr : (trs.map Tir.con).drop k with
  | nil => simp [aboveOf]
  | cons u r =>
    have hm : u ∈ (trs.map Tir.con) := List.mem_of_mem_drop (i := k) (by rw [hdr]; exact List.mem_cons_self ..)
    obtain ⟨v, hv, rfl⟩ := List.mem_map.1 hm
    have h1 := h v hv
    have h2 : v.ts.l.length = v.ts.n := Row.rd.len (Tir.rd.ts h1)
    have h3 := (Tir.rd.ts h1).n63
    simp only [aboveOf]
    omega

set_option maxRecDepth 100000 in
set_option maxHeartbeats 2000000 in
theorem dmwrong_any (d : Dm) (w : World) (hd : d.rd w) (hn : d.tr.n ≤ 1000000) :
    Calls Try.prog 79 #[.agg d.cs] w fun e w' => e = .returned (.int .i64 (dimErr d.con)) ∧ Bel w w' := by
  have HAB := Lib.hid (fun k (hk : k < d.tr.n) w' (hb : Bel w w') => rdabove_any d k w' (hd.mono hb) hk hn)
  have hW := (Bel.refl w).alloc (.cells d.cs 64)
  have hlen : Hid (d.tr.l.length = d.tr.n) := hd.tr.len
  have hnm := hd.nm
  have HD := Lib.hid hd.tr
  obtain ⟨nm, ⟨A, n, c, trs⟩⟩ := d
  simp only [Dm.cs, Dm.con] at *
  have HW := Lib.hid hW
  clear hW hd
  cases hN : isName nm with
  | false =>
    have HE : Hid (dimErr ⟨nm, trs.map Tir.con⟩ = 2) := by show _ = _; unfold dimErr; simp [hN]
    go_enter Try.func79, Try.ntmps79
    go_wp2_with fail
    refine (rname_any nm _ (by omega)).mono ?_; rintro e w1 ⟨rfl, rfl⟩
    rw [hN]
    go_wp2
    go_ret
    rw [HE.out]
    exact ⟨rfl, HW.out⟩
  | true =>
    by_cases hl : 1 ≤ n ∧ n ≤ 4
    · obtain ⟨hl1, hl2⟩ := hl
      have d1 : decide ((n : Int) < 1) = false := by simp; omega
      have d2 : decide ((4 : Int) < n) = false := by simp; omega
      have HE0 : Hid (dimErr ⟨nm, trs.map Tir.con⟩ = dimFrom ((trs.map Tir.nm).take 0) ((trs.map Tir.con).drop 0)) := by
        show _ = _
        unfold dimErr
        simp only [hN, if_true, List.length_map]
        rw [if_neg (by have := hlen.out; omega)]
        rfl
      have Q0 := Lib.hid (Blk.new w 64 #[.string ⟨nm.toArray⟩, .slice A n c])
      go_enter Try.func79, Try.ntmps79
      go_wp2_with fail
      refine (rname_any nm _ (by omega)).mono ?_; rintro e w1 ⟨rfl, rfl⟩
      rw [hN]
      go_wp2_with fail
      clear d1 d2
      go_loopg [23] n (fun gg i wr => ∃ k : Nat, gg = n - k ∧ k ≤ n ∧ i = .int .i64 k ∧ Hid (Bel w wr) ∧ Hid (Blk wr w.heap.size 64 #[.string ⟨nm.toArray⟩, .slice A n c]) ∧ Hid (dimErr ⟨nm, trs.map Tir.con⟩ = dimFrom ((trs.map Tir.nm).take k) ((trs.map Tir.con).drop k)))
      case atStart => exact ⟨0, rfl, by omega, rfl, HW, Q0, HE0⟩
      case round =>
        clear HW Q0 HE0
        obtain ⟨k, hgk, hk, rfl, hB, hQ, hE⟩ := hrel
        have Hgk := Lib.hid hgk
        clear hgk
        by_cases hlt : k < n
        · obtain ⟨bb, oo, t, hA, hbb, ht, htr, hrg⟩ := (HD.out.mono hB.out).tirAt (k := k) hlt
          simp only at hA
          subst hA
          have HRG := Lib.hid hrg
          have HTR := Lib.hid htr
          have htc : (trs.map Tir.con)[k]? = some t.con := by rw [List.getElem?_map, ht]; rfl
          have htn : (trs.map Tir.nm)[k]? = some t.nm := by rw [List.getElem?_map, ht]; rfl
          have HS := Lib.hid (dimFrom_drop (seen := (trs.map Tir.nm).take k) htc)
          have HTN := Lib.hid htn
          have HTK : Hid ((trs.map Tir.nm).take (k + 1) = (trs.map Tir.nm).take k ++ [t.nm]) := by
            show _ = _
            obtain ⟨hk', he⟩ := List.getElem?_eq_some_iff.1 htn
            rw [List.take_succ_eq_append_getElem hk', he]
          have hab := above_i64 HD.out.all (k + 1)
          have i0 : (0 : Int) ≤ k := by omega
          have i1 : (k : Int) < n := by omega
          have hq1 := hQ.out.cell 1
          simp only [List.getElem?_toArray, List.getElem?_cons_zero, List.getElem?_cons_succ] at hq1
          clear ht hrg htr htc htn
          go_wp2_with fail
          generalize hAB : aboveOf ((trs.map Tir.con).drop (k + 1)) = ab at *
          have HAB1 : Hid (∀ w', Bel w w' → Calls Try.prog 135 #[.agg #[.string ⟨nm.toArray⟩, .slice (some ⟨bb, oo, none⟩) n c], .int .i64 k] w' fun e w'' => e = .returned (.int .i64 ab) ∧ Bel w' w'') := by
            intro w' hb
            have := HAB.out k hlt w' hb
            rw [hAB] at this
            exact this
          have HABE := Lib.hid hAB
          clear hAB
          have f1 := fun u : Over wr => Over.cell hq1 u
          refine wp_region_over (by kernel_rfl) (by kernel_rfl) ?_
          repeat (first
            | ((with_reducible show wpQuiet _ _ _ _ (⟨some 30, _, _, _, _, _⟩ :: _) _); refine wpQuiet_load_row rfl rowTir (.tmp 29) rfl bb (oo + k * 3) rfl t.cs rfl hbb HRG.out ?_; simp only [Act.put, List.setIfInBounds_toArray, List.set_cons_zero, List.set_cons_succ])
            | ((with_reducible show wpQuiet _ _ _ _ (⟨some 31, _, _, _, _, _⟩ :: _) _); refine wpQuiet_load_row rfl rowDm (.tmp 1) rfl w.heap.size 0 rfl #[.string ⟨nm.toArray⟩, .slice (some ⟨bb, oo, none⟩) n c] rfl hQ.out.lt hQ.out.range ?_; simp only [Act.put, List.setIfInBounds_toArray, List.set_cons_zero, List.set_cons_succ])
            | go_big_quiet_step ((first | (go_at_call 135; rename_i u; exact calls_over (HAB1.out _ (hB.out.trans u.bel))) | (go_at_call 134; rename_i u; exact calls_over (trwrong_any t ab _ (HTR.out.mono u.bel) hab)))))
          refine wpQuiet_nil ?_
          rintro w4 ⟨⟨_, hw4⟩, rfl⟩
          have Q4 := Lib.hid (hQ.out.bel hw4)
          have B4 := Lib.hid (hB.out.trans hw4)
          have HB4 := Lib.hid hw4
          try dsimp only
          clear hw4 f1 hq1
          by_cases hE0 : tierErr t.con ab = 0
          · rw [hE0]
            have HNo0 : Hid (∀ i, i < 0 → (trs.map Tir.nm)[i]? ≠ some t.nm) := fun i hi => absurd hi (by omega)
            have hw4z := Q4.out.lt
            have HS2 : Hid (dimErr ⟨nm, trs.map Tir.con⟩ = if t.nm ∈ (trs.map Tir.nm).take k then 11 else dimFrom ((trs.map Tir.nm).take (k + 1)) ((trs.map Tir.con).drop (k + 1))) := by show _ = _; rw [hE.out, HS.out, if_neg (by omega), HTK.out]
            have hnB : Hid (Bel w4 w4) := Bel.refl _
            clear hE HS hE0
            go_wp2_with fail
            go_loopg [5] k (fun gg i wx => ∃ j : Nat, gg = k - j ∧ j ≤ k ∧ i = .int .i64 j ∧ Hid (Bel w4 wx) ∧ Hid (∀ i, i < j → (trs.map Tir.nm)[i]? ≠ some t.nm))
            case atStart => exact ⟨0, rfl, by omega, rfl, hnB, HNo0⟩
            case round =>
              clear HNo0 hnB
              obtain ⟨j, hgj, hj, rfl, hBj, hNo⟩ := hrel
              have Hgj := Lib.hid hgj
              clear hgj
              by_cases hjk : j < k
              · obtain ⟨bb', oo', t', hA', hbb', ht', htr', hrg'⟩ := ((HD.out.mono B4.out).mono hBj.out).tirAt (k := j) (by show j < n; omega)
                simp only at hA'
                obtain ⟨rfl, rfl⟩ : bb = bb' ∧ oo = oo' := by injection hA' with h; injection h with h1 h2; exact ⟨h1, h2⟩
                have cj := hrg' 0 _ rfl
                have ck0 := HRG.out 0 _ rfl
                have ck := (hBj.out.cell (p := ⟨bb, oo + k * 3 + 0, none⟩) (by have := HB4.out.size; show bb < _; omega)).trans ((HB4.out.cell (p := ⟨bb, oo + k * 3 + 0, none⟩) hbb).trans ck0)
                have hq1 := (Q4.out.bel hBj.out).cell 1
                simp only [List.getElem?_toArray, List.getElem?_cons_zero, List.getElem?_cons_succ] at hq1
                simp only [Nat.add_zero] at cj ck
                have htn' : (trs.map Tir.nm)[j]? = some t'.nm := by rw [List.getElem?_map, ht']; rfl
                have HTN' := Lib.hid htn'
                have j0 : (0 : Int) ≤ j := by omega
                have j1 : (j : Int) < n := by omega
                clear ht' hrg' hA' htr' hbb' htn' ck0
                cases heq : (t'.nm == t.nm) with
                | true =>
                  have HN : Hid (dimErr ⟨nm, trs.map Tir.con⟩ = 11) := by
                    show _ = _
                    rw [HS2.out, if_pos]
                    rw [List.mem_iff_getElem?]
                    exact ⟨j, by rw [List.getElem?_take_of_lt hjk, HTN'.out]; simpa using heq⟩
                  clear HS2
                  go_wp2_with fail
                  go_quiet (fail)
                  go_wp2
                  go_ret
                  rw [HN.out]
                  exact ⟨rfl, (B4.out.trans hBj.out).drewN _⟩
                | false =>
                  have HN : Hid (∀ i, i < j + 1 → (trs.map Tir.nm)[i]? ≠ some t.nm) := by
                    intro i hi
                    rcases (show i < j ∨ i = j by omega) with h | h
                    · exact hNo.out i h
                    · rw [h, HTN'.out]
                      intro e
                      injection e with e
                      rw [e] at heq
                      simp at heq
                  go_wp2_with fail
                  go_quiet (fail)
                  go_wp2
                  go_roundg (k - (j + 1))
                  case rel => exact ⟨j + 1, rfl, by omega, by go_num, hBj.out.drewN _, HN⟩
                  case measure => rw [Hgj.out]; omega
              · have HN : Hid (dimErr ⟨nm, trs.map Tir.con⟩ = dimFrom ((trs.map Tir.nm).take (k + 1)) ((trs.map Tir.con).drop (k + 1))) := by
                  show _ = _
                  rw [HS2.out, if_neg]
                  rw [List.mem_iff_getElem?]
                  rintro ⟨i, hi⟩
                  by_cases hik : i < k
                  · rw [List.getElem?_take_of_lt hik] at hi
                    exact hNo.out i (by omega) hi
                  · rw [List.getElem?_eq_none (by simp; omega)] at hi
                    cases hi
                clear HS2
                go_wp2_with fail
                go_roundg (n - (k + 1))
                case rel => exact ⟨k + 1, rfl, by omega, by go_num, B4.out.trans hBj.out, Q4.out.bel hBj.out, HN⟩
                case measure => rw [Hgk.out]; omega
          · have HN : Hid (dimErr ⟨nm, trs.map Tir.con⟩ = tierErr t.con ab) := by show _ = _; rw [hE.out, HS.out, if_pos hE0]
            have dE : (tierErr t.con ab != 0) = true := by simpa using hE0
            have dE2 : (tierErr t.con ab == 0) = false := by simpa using hE0
            clear hE HS hE0
            go_wp2
            go_ret
            rw [HN.out]
            exact ⟨rfl, B4.out⟩
        · have HN : Hid (dimErr ⟨nm, trs.map Tir.con⟩ = 0) := by show _ = _; rw [hE.out, List.drop_of_length_le (by have := hlen.out; simp; omega)]; rfl
          clear hE
          go_wp2
          go_ret
          rw [HN.out]
          exact ⟨rfl, hB.out⟩
    · have HE : Hid (dimErr ⟨nm, trs.map Tir.con⟩ = 5) := by
        show _ = _
        unfold dimErr
        simp only [hN, if_true, List.length_map]
        rw [if_pos (by have := hlen.out; omega)]
      rcases (show n < 1 ∨ (1 ≤ n ∧ 4 < n) by omega) with h | ⟨h, h'⟩
      all_goals
        first | (have d1 : decide ((n : Int) < 1) = true := by simp; omega) | (have d1 : decide ((n : Int) < 1) = false := by simp; omega)
        first | (have d2 : decide ((4 : Int) < n) = true := by simp; omega) | (have d2 : decide ((4 : Int) < n) = false := by simp; omega)
        clear hl
        go_enter Try.func79, Try.ntmps79
        go_wp2_with fail
        refine (rname_any nm _ (by omega)).mono ?_; rintro e w1 ⟨rfl, rfl⟩
        rw [hN]
        go_wp2
        go_ret
        rw [HE.out]
        exact ⟨rfl, HW.out⟩

end Go.Proofs.Ytnekknemjhlgdaa
