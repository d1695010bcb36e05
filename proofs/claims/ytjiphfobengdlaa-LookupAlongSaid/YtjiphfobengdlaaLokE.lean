/- Do keys rise? (law 27) -/
import Derived.Test.YtjiphfobengdlaaLokC
import Derived.Test.YtjiphfobengdlaaAreN
namespace Go.Proofs.Ytjiphfobengdlaa
open Go.RowKit
set_option linter.unusedVariables false
set_option linter.unusedSimpArgs false


def AllRise (l : Row Nd) : Prop := ∀ n ∈ l.l, ∀ y ∈ n.ls.l, RiseL y.l
set_option maxRecDepth 100000 in
set_option maxHeartbeats 4000000 in
theorem rises_any (l : Row Nd) (w : World) (hl : l.rd w) : Calls Try.prog 34 #[.slice l.A l.n l.c] w (FewPost (AllRise l) w) := by
  have HL := Lib.hid (fun w' (h : Bel w w') => hl.mono h)
  have hll : Hid (l.l.length = l.n) := hl.len
  have n63 := hl.n63
  have H := Lib.hid (SL.start No w)
  obtain ⟨A, n, c, ns⟩ := l
  simp only at *
  clear hl
  go_enter Try.func34, Try.ntmps34
  go_upto_region 2 with fail
  have HA : Hid (∀ j t, j < 0 → ns[j]? = some t → ∀ y ∈ t.ls.l, RiseL y.l) := fun j t hj => absurd hj (by omega)
  go_loopg [10] n (fun gg s10 wr => ∃ (k : Nat), gg = n - k ∧ k ≤ n ∧ s10 = .int .i64 k ∧ Hid (∀ j t, j < k → ns[j]? = some t → ∀ y ∈ t.ls.l, RiseL y.l) ∧ Hid (SL No w wr []))
  case atStart => exact ⟨0, rfl, by omega, rfl, HA, H⟩
  case round =>
    clear H HA
    obtain ⟨k, hgk, hk, rfl, HA, H⟩ := hrel
    have Hgk := Lib.hid hgk
    clear hgk
    by_cases hlt : k < n
    · obtain ⟨bl, ol, t, hAl, hbl, htk, htr, hrg⟩ := (HL.out _ H.out.to).ndAt (k := k) hlt
      simp only at hAl htk
      have HTK := Lib.hid htk
      have htm := List.mem_of_getElem? htk
      have HT := Lib.hid (fun w' (hb : Bel w w') => ((HL.out w' hb).all t htm : t.rd w').ls)
      have htl : Hid (t.ls.l.length = t.ls.n) := htr.ls.len
      have t63 := htr.ls.n63
      have HRG := Lib.hid hrg
      have k0 : (0 : Int) ≤ k := by omega
      have k1 : (k : Int) < n := by omega
      have HAL := Lib.hid hAl
      rw [hAl]
      clear htk htr hrg hAl htm
      go_upto_region 4 with (first | ((with_reducible show wpList _ _ _ (⟨some 13, _, _, _, _, _⟩ :: _) _ _); (refine wpList_load_row_at rfl rowNd (.tmp 12) rfl bl (ol + k * 14) rfl t.cs rfl HRG.out ?_)) | ((with_reducible show wpList _ _ _ (⟨_, .store _ (.tmp 4) _, _, _, _, _⟩ :: _) _ _); (refine wpList_store_new rfl rowNd (.tmp 4) (.tmp 13) rfl rfl rfl (t.cs) rfl rfl (nd_one t) ?_; replace H := Lib.hid (H.out.alloc (t.cs) 44); (try simp only [List.set_cons_zero, List.set_cons_succ, List.cons_append, List.nil_append, List.eraseIdx_cons_zero, List.eraseIdx_cons_succ, List.setIfInBounds_toArray, World.size_alloc, selR, List.getD_cons_zero, List.getD_cons_succ] at H))))
      (try simp only [Act.put, List.setIfInBounds_toArray, List.set_cons_zero, List.set_cons_succ])
      clear HRG hbl
      generalize wr.heap.size = u at *
      generalize World.alloc wr _ = w2 at *
      have cl : w2.cell? ⟨u, 1, none⟩ = some (.slice t.ls.A t.ls.n t.ls.c) := (H.out.blk 0 rfl).cell 1
      have HY : Hid (∀ j y, j < 0 → t.ls.l[j]? = some y → RiseL y.l) := fun j y hj => absurd hj (by omega)
      go_upto_region 5 with fail
      clear cl
      go_loopg [17] t.ls.n (fun gg s17 wx => ∃ (j : Nat), gg = t.ls.n - j ∧ j ≤ t.ls.n ∧ s17 = .int .i64 j ∧ Hid (∀ i y, i < j → t.ls.l[i]? = some y → RiseL y.l) ∧ Hid (SL No w wx [rBlk u 44 t.cs]))
      case atStart => exact ⟨0, rfl, by omega, rfl, HY, H⟩
      case round =>
        clear H HY
        obtain ⟨j, hgj, hj, rfl, HY, H⟩ := hrel
        have Hgj := Lib.hid hgj
        clear hgj
        by_cases hjl : j < t.ls.n
        · obtain ⟨b4, o4, y, hA4, hyk, hyok, hr4⟩ := (HT.out _ H.out.to).clsAt (k := j) hjl
          have y63 := rdCls hyok
          have HYK := Lib.hid hyk
          have hym := List.mem_of_getElem? hyk
          have HYR := Lib.hid (fun w' (hb : Bel w w') => ((HT.out w' hb).all y hym).rds)
          have hyl : Hid (y.l.length = y.n) := hyok.rds.len
          have j0 : (0 : Int) ≤ j := by omega
          have j1 : (j : Int) < t.ls.n := by omega
          have HA4 := Lib.hid hA4
          rw [hA4]
          clear hyk hyok hA4 hym
          go_upto_region 8 with fail
          clear hr4
          have HZ : Hid (∀ i a b, i + 1 < 1 → y.l[i]? = some a → y.l[i + 1]? = some b → a.key < b.key) := fun i a b h => absurd h (by omega)
          go_loopg [7] (y.n) (fun gg s7 wx => ∃ (i : Nat), gg = y.n - (i - 1) ∧ (i ≤ y.n ∨ i = 1) ∧ 1 ≤ i ∧ s7 = .int .i64 i ∧ Hid (∀ m a b, m + 1 < i → y.l[m]? = some a → y.l[m + 1]? = some b → a.key < b.key) ∧ Hid (SL No w wx [rBlk u 44 t.cs]))
          case atStart => exact ⟨1, rfl, by omega, by omega, rfl, HZ, H⟩
          case round =>
            clear H HZ
            obtain ⟨i, hgi, hi, hi1, rfl, HZ, H⟩ := hrel
            have Hgi := Lib.hid hgi
            clear hgi
            by_cases hil : i < y.n
            · obtain ⟨q, rfl⟩ : ∃ q, i = q + 1 := ⟨i - 1, by omega⟩
              obtain ⟨b5, o5, c1, hA5, hb5, hc1, hk1, hr5⟩ := (HYR.out _ H.out.to).clAt (k := q) (by omega)
              obtain ⟨b6, o6, c2, hA6, hb6, hc2, hk2, hr6⟩ := (HYR.out _ H.out.to).clAt (k := q + 1) hil
              rw [hA5] at hA6
              injection hA6 with hA6
              injection hA6 with e1 e2
              subst e1 e2
              have x1 : wr.cell? ⟨b5, o5 + q * 12, none⟩ = some (.int .i64 c1.key) := hr5 0 _ rfl
              have x2 : wr.cell? ⟨b5, o5 + (q + 1) * 12, none⟩ = some (.int .i64 c2.key) := hr6 0 _ rfl
              have hk1 := hk1.key
              have hk2 := hk2.key
              unfold I64 at hk1 hk2
              have HC1 := Lib.hid hc1
              have HC2 := Lib.hid hc2
              have e2 : (((q + 1 : Nat) : Int)) - 1 = q := by omega
              have e3 : (q : Int) + 1 - 1 = q := by omega
              have q0 : (0 : Int) ≤ q := by omega
              have q1 : (q : Int) < y.n := by omega
              have q2 : ((q + 1 : Nat) : Int) < y.n := by omega
              have q3 : decide (((q + 1 : Nat) : Int) < (y.n : Int)) = true := by simp <;> omega
              have q4 : decide (q + 1 < y.n) = true := by simp <;> omega
              have q5 : decide ((q : Int) + 1 < (y.n : Int)) = true := by simp <;> omega
              have HA5 := Lib.hid hA5
              rw [hA5]
              clear hc1 hc2 hr5 hr6 hb5 hb6 hA5
              go_upto_region 10 with fail
              by_cases hle : c2.key ≤ c1.key
              · have d1 : decide (c2.key ≤ c1.key) = true := by simpa using hle
                clear hle
                have f_x1 := fun u : Over wr => Over.cell x1 u
                have f_x2 := fun u : Over wr => Over.cell x2 u
                refine wp_region_over (by kernel_rfl) (by kernel_rfl) ?_
                (try simp only [Act.put, List.setIfInBounds_toArray, List.set_cons_zero, List.set_cons_succ])
                repeat (go_big_quiet_step (fail))
                refine wpQuiet_nil ?_
                rintro w5 ⟨⟨_, hw5⟩, rfl⟩
                (try dsimp only)
                replace H := Lib.hid (H.out.bel hw5); (try simp only [List.set_cons_zero, List.set_cons_succ, List.cons_append, List.nil_append, List.eraseIdx_cons_zero, List.eraseIdx_cons_succ, List.setIfInBounds_toArray, World.size_alloc, selR, List.getD_cons_zero, List.getD_cons_succ] at H)
                clear f_x1 f_x2 x1 x2
                go_wp2_with fail
                go_ret
                exact ⟨false, rfl, (fun h => by cases h), H.out.to⟩
              · have d1 : decide (c2.key ≤ c1.key) = false := by simpa using hle
                have HZ2 : Hid (∀ m a b, m + 1 < q + 1 + 1 → y.l[m]? = some a → y.l[m + 1]? = some b → a.key < b.key) := fun m a b hm ha hb => by
                  rcases (show m + 1 < q + 1 ∨ m = q by omega) with h | h
                  · exact HZ.out m a b h ha hb
                  · subst h
                    rw [HC1.out] at ha
                    rw [HC2.out] at hb
                    injection ha with ha
                    injection hb with hb
                    subst ha hb
                    omega
                clear hle HZ
                have f_x1 := fun u : Over wr => Over.cell x1 u
                have f_x2 := fun u : Over wr => Over.cell x2 u
                refine wp_region_over (by kernel_rfl) (by kernel_rfl) ?_
                (try simp only [Act.put, List.setIfInBounds_toArray, List.set_cons_zero, List.set_cons_succ])
                repeat (go_big_quiet_step (fail))
                refine wpQuiet_nil ?_
                rintro w5 ⟨⟨_, hw5⟩, rfl⟩
                (try dsimp only)
                replace H := Lib.hid (H.out.bel hw5); (try simp only [List.set_cons_zero, List.set_cons_succ, List.cons_append, List.nil_append, List.eraseIdx_cons_zero, List.eraseIdx_cons_succ, List.setIfInBounds_toArray, World.size_alloc, selR, List.getD_cons_zero, List.getD_cons_succ] at H)
                clear f_x1 f_x2 x1 x2
                go_wp2_with fail
                rw [← HA5.out]
                clear d1 q3 q4 q5 e2 e3
                go_roundg (y.n - (q + 1 + 1 - 1))
                case rel => exact ⟨q + 1 + 1, rfl, by omega, by omega, by go_num, HZ2, H⟩
                case measure => rw [Hgi.out]; omega
            · have d1 : decide ((i : Int) < (y.n : Int)) = false := by simp <;> omega
              have d1n : decide (i < y.n) = false := by simp <;> omega
              have HY2 : Hid (∀ m z, m < j + 1 → t.ls.l[m]? = some z → RiseL z.l) := fun m z hm hz => by
                rcases (show m < j ∨ m = j by omega) with h | h
                · exact HY.out m z h hz
                · subst h
                  rw [HYK.out] at hz
                  injection hz with hz
                  subst hz
                  refine rise_adj fun p a b ha hb => HZ.out p a b ?_ ha hb
                  have h3 := (List.getElem?_eq_some_iff.1 hb).1
                  rw [hyl.out] at h3
                  omega
              clear HZ HY
              go_wp2_with fail
              rw [← HA4.out]
              clear d1 d1n
              go_roundg (t.ls.n - (j + 1))
              case rel => exact ⟨j + 1, rfl, by omega, by go_num, HY2, H⟩
              case measure => rw [Hgj.out]; omega
        · obtain rfl : j = t.ls.n := by omega
          have HA2 : Hid (∀ m u, m < k + 1 → ns[m]? = some u → ∀ y ∈ u.ls.l, RiseL y.l) := fun m v hm hv => by
            rcases (show m < k ∨ m = k by omega) with h | h
            · exact HA.out m v h hv
            · subst h
              rw [HTK.out] at hv
              injection hv with hv
              subst hv
              intro y hy
              obtain ⟨p, hp⟩ := List.mem_iff_getElem?.1 hy
              exact HY.out p y (by have := (List.getElem?_eq_some_iff.1 hp).1; rw [htl.out] at this; exact this) hp
          replace H := Lib.hid (H.out.sel [] (by decide) (by simp)); (try simp only [List.set_cons_zero, List.set_cons_succ, List.cons_append, List.nil_append, List.eraseIdx_cons_zero, List.eraseIdx_cons_succ, List.setIfInBounds_toArray, World.size_alloc, selR, List.getD_cons_zero, List.getD_cons_succ] at H)
          clear HY HA
          go_wp2_with fail
          rw [← HAL.out]
          go_roundg (n - (k + 1))
          case rel => exact ⟨k + 1, rfl, by omega, by go_num, HA2, H⟩
          case measure => rw [Hgk.out]; omega
    · obtain rfl : k = n := by omega
      have HV : Hid (AllRise ⟨A, k, c, ns⟩) := fun t ht => by
        obtain ⟨p, hp⟩ := List.mem_iff_getElem?.1 ht
        exact HA.out p t (by have := (List.getElem?_eq_some_iff.1 hp).1; rw [hll.out] at this; exact this) hp
      clear HA
      go_wp2_with fail
      go_ret
      exact ⟨true, rfl, (fun _ => HV.out), H.out.to⟩

end Go.Proofs.Ytjiphfobengdlaa
