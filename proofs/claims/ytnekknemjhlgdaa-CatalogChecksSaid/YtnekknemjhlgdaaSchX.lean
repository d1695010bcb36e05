/- The document's Wrong of schemas. -/
import Derived.Test.YtnekknemjhlgdaaSchW
import Derived.Test.YtnekknemjhlgdaaDimX
namespace Go.Proofs.Ytnekknemjhlgdaa
open Go.RowKit
set_option linter.unusedVariables false
set_option linter.unusedSimpArgs false

/-- None of the first of these. -/
def NoIn (names : List (List UInt8)) (j : Nat) (x : List UInt8) : Prop := ∀ i, i < j → names[i]? ≠ some x
theorem NoIn.zero {names : List (List UInt8)} {x : List UInt8} : NoIn names 0 x := fun i hi => absurd hi (by omega)
theorem NoIn.step {names : List (List UInt8)} {j : Nat} {x y : List UInt8} (h : NoIn names j x) (hy : names[j]? = some y) (hne : (y == x) = false) : NoIn names (j + 1) x := by
  intro i hi
  rcases (show i < j ∨ i = j by omega) with h' | h'
  · exact h i h'
  · rw [h', hy]
    intro e
    injection e with e
    rw [e] at hne
    simp at hne
theorem NoIn.all {names : List (List UInt8)} {k : Nat} {x : List UInt8} (h : NoIn names k x) : x ∉ names.take k := by
  rw [List.mem_iff_getElem?]
  rintro ⟨i, hi⟩
  by_cases hik : i < k
  · rw [List.getElem?_take_of_lt hik] at hi
    exact h i hik hi
  · rw [List.getElem?_eq_none (by simp; omega)] at hi
    cases hi
theorem in_take {names : List (List UInt8)} {j k : Nat} {x y : List UInt8} (hjk : j < k) (hy : names[j]? = some y) (he : (y == x) = true) : x ∈ names.take k := by
  rw [List.mem_iff_getElem?]
  exact ⟨j, by rw [List.getElem?_take_of_lt hjk, hy]; simpa using he⟩

set_option maxRecDepth 100000 in
set_option maxHeartbeats 2000000 in
theorem schwrong_any (s : Sch) (w : World) (hs : s.rd w) (hn : s.dm.n ≤ 1000000) (hm : s.ms.n ≤ 1000000) (hd : ∀ d ∈ s.dm.l, d.tr.n ≤ 1000000) :
    Calls Try.prog 18 #[.agg s.cs] w fun e w' => e = .returned (.int .i64 (schErr s.con)) ∧ Bel w w' := by
  have hlen : Hid (s.dm.l.length = s.dm.n) := hs.dm.len
  have hlen2 : Hid (s.ms.l.length = s.ms.n) := hs.ms.len
  have HD := Lib.hid hs.dm
  have HMs := Lib.hid hs.ms
  have HDD := Lib.hid hd
  have H := Lib.hid ((SL.start No w).alloc s.cs 25)
  (try simp only [List.set_cons_zero, List.set_cons_succ, List.cons_append, List.nil_append, List.eraseIdx_cons_zero, List.eraseIdx_cons_succ, List.setIfInBounds_toArray, World.size_alloc, selR, List.getD_cons_zero, List.getD_cons_succ] at H)
  obtain ⟨⟨A, n, c, ds⟩, ⟨A2, n2, c2, ms⟩⟩ := s
  simp only [Sch.cs, Sch.con] at *
  clear hs hd
  by_cases hl : 1 ≤ n ∧ n ≤ 16
  · obtain ⟨hl1, hl2⟩ := hl
    have d1 : decide ((n : Int) < 1) = false := by simp <;> omega
    have d2 : decide ((16 : Int) < n) = false := by simp <;> omega
    have HE0 : Hid (schErr ⟨ds.map Dm.con, ms⟩ = if dimsFrom [] (ds.map Dm.con) ≠ 0 then dimsFrom [] (ds.map Dm.con) else measErr ms) := by show _ = _; unfold schErr; simp only [List.length_map]; rw [if_neg (by have := hlen.out; omega)]
    have HE : Hid (dimsFrom [] (ds.map Dm.con) = dimsFrom ((ds.map Dm.nm).take 0) ((ds.map Dm.con).drop 0)) := rfl
    go_enter Try.func18, Try.ntmps18
    have c0 := (H.out.blk 0 rfl).cell 0; simp only [List.getElem?_toArray, List.getElem?_cons_zero, List.getElem?_cons_succ] at c0
    go_wp2_with fail
    clear c0
    generalize w.heap.size = x at *
    clear d1 d2
    go_loopg [21] n (fun gg i wr => ∃ k : Nat, gg = n - k ∧ k ≤ n ∧ i = .int .i64 k ∧ Hid (SL No w wr [rBlk x 25 #[.slice A n c, .slice A2 n2 c2]]) ∧ Hid (dimsFrom [] (ds.map Dm.con) = dimsFrom ((ds.map Dm.nm).take k) ((ds.map Dm.con).drop k)))
    case atStart => exact ⟨0, rfl, by omega, rfl, H, HE⟩
    case round =>
      clear H HE
      obtain ⟨k, hgk, hk, rfl, H, HE⟩ := hrel
      have Hgk := Lib.hid hgk
      clear hgk
      by_cases hlt : k < n
      · obtain ⟨bb, oo, d, hA, hbb, hdk, hdr, hrg⟩ := (HD.out.mono H.out.to).dmAt (k := k) hlt
        simp only at hA
        subst hA
        have hdc : (ds.map Dm.con)[k]? = some d.con := by rw [List.getElem?_map, hdk]; rfl
        have hdn : (ds.map Dm.nm)[k]? = some d.nm := by rw [List.getElem?_map, hdk]; rfl
        have HSt := Lib.hid (dimsFrom_drop (seen := (ds.map Dm.nm).take k) hdc)
        have HTK := Lib.hid (take_snoc_get hdn)
        have hu1 := HDD.out d (List.mem_of_getElem? hdk)
        have HR := Lib.hid hrg
        have HDK := Lib.hid hdk
        have i0 : (0 : Int) ≤ k := by omega
        have i1 : (k : Int) < n := by omega
        have c0 := (H.out.blk 0 rfl).cell 0; simp only [List.getElem?_toArray, List.getElem?_cons_zero, List.getElem?_cons_succ] at c0
        clear hdk hrg hdc hdn hbb
        go_wp2_with ((with_reducible show wpList _ _ _ (⟨some 28, _, _, _, _, _⟩ :: _) _ _); (refine wpList_load_row_at rfl rowDm (.tmp 27) rfl bb (oo + k * 2) rfl d.cs rfl HR.out ?_))
        refine (dmwrong_any d _ hdr hu1).mono ?_; rintro e w1 ⟨rfl, hb1⟩
        replace H := Lib.hid (H.out.bel hb1); (try simp only [List.set_cons_zero, List.set_cons_succ, List.cons_append, List.nil_append, List.eraseIdx_cons_zero, List.eraseIdx_cons_succ, List.setIfInBounds_toArray, World.size_alloc, selR, List.getD_cons_zero, List.getD_cons_succ] at H)
        clear hb1 hdr c0 HR
        by_cases hE0 : dimErr d.con = 0
        · rw [hE0]
          have HNo : Hid (NoIn (ds.map Dm.nm) 0 d.nm) := NoIn.zero
          have HS2 : Hid (dimsFrom [] (ds.map Dm.con) = if d.nm ∈ (ds.map Dm.nm).take k then 11 else dimsFrom ((ds.map Dm.nm).take (k + 1)) ((ds.map Dm.con).drop (k + 1))) := by show _ = _; rw [HE.out, HSt.out, if_neg (by omega), HTK.out]
          clear HE HSt hE0
          go_wp2_with fail
          go_loopg [5] k (fun gg i wx => ∃ j : Nat, gg = k - j ∧ j ≤ k ∧ i = .int .i64 j ∧ Hid (SL No w wx [rBlk x 25 #[.slice (some ⟨bb, oo, none⟩) n c, .slice A2 n2 c2]]) ∧ Hid (NoIn (ds.map Dm.nm) j d.nm))
          case atStart => exact ⟨0, rfl, by omega, rfl, H, HNo⟩
          case round =>
            clear HNo H
            obtain ⟨j, hgj, hj, rfl, H, HNo⟩ := hrel
            have Hgj := Lib.hid hgj
            clear hgj
            by_cases hjk : j < k
            · obtain ⟨bb', oo', d', hA', hbb', hd', hdr', hrg'⟩ := (HD.out.mono H.out.to).dmAt (k := j) (by show j < n; omega)
              injection hA' with hA'
              injection hA' with hA1 hA2
              subst hA1 hA2
              have cj := hrg' 0 _ rfl
              obtain ⟨bb', oo', d2, hA', hbb2, hd2, hdr2, hrg2⟩ := (HD.out.mono H.out.to).dmAt (k := k) hlt
              injection hA' with hA'
              injection hA' with hA1 hA2
              subst hA1 hA2
              rw [HDK.out] at hd2
              injection hd2 with hd2
              subst hd2
              have ck := hrg2 0 _ rfl
              have c0 := (H.out.blk 0 rfl).cell 0; simp only [List.getElem?_toArray, List.getElem?_cons_zero, List.getElem?_cons_succ] at c0
              simp only [Nat.add_zero] at cj ck
              have HTN' : Hid ((ds.map Dm.nm)[j]? = some d'.nm) := by show _ = _; rw [List.getElem?_map, hd']; rfl
              have j0 : (0 : Int) ≤ j := by omega
              have j1 : (j : Int) < n := by omega
              clear hd' hrg' hdr' hbb' hbb2 hdr2 hrg2
              cases heq : (d'.nm == d.nm) with
              | true =>
                have HN : Hid (schErr ⟨ds.map Dm.con, ms⟩ = 11) := by
                  show _ = _
                  have h1 : dimsFrom [] (ds.map Dm.con) = 11 := by rw [HS2.out, if_pos (in_take hjk HTN'.out heq)]
                  rw [HE0.out, h1]
                  rfl
                clear HS2 HE0
                go_wp2_with fail
                go_quiet (fail)
                go_wp2
                go_ret
                rw [HN.out]
                exact ⟨rfl, (H.out.drewN _).to⟩
              | false =>
                have HN := Lib.hid (HNo.out.step HTN'.out heq)
                go_wp2_with fail
                go_quiet (fail)
                go_wp2
                go_roundg (k - (j + 1))
                case rel => exact ⟨j + 1, rfl, by omega, by go_num, H.out.drewN _, HN⟩
                case measure => rw [Hgj.out]; omega
            · have HN : Hid (dimsFrom [] (ds.map Dm.con) = dimsFrom ((ds.map Dm.nm).take (k + 1)) ((ds.map Dm.con).drop (k + 1))) := by
                show _ = _
                obtain rfl : j = k := by omega
                rw [HS2.out, if_neg HNo.out.all]
              clear HS2
              go_wp2_with fail
              go_roundg (n - (k + 1))
              case rel => exact ⟨k + 1, rfl, by omega, by go_num, H, HN⟩
              case measure => rw [Hgk.out]; omega
        · have HN : Hid (schErr ⟨ds.map Dm.con, ms⟩ = dimErr d.con) := by
            show _ = _
            have h1 : dimsFrom [] (ds.map Dm.con) = dimErr d.con := by rw [HE.out, HSt.out, if_pos hE0]
            rw [HE0.out, h1, if_pos hE0]
          have dE : (dimErr d.con != 0) = true := by simpa using hE0
          have dE2 : (dimErr d.con == 0) = false := by simpa using hE0
          clear HE HE0 HSt hE0
          go_wp2
          go_ret
          rw [HN.out]
          exact ⟨rfl, H.out.to⟩
      · have HN1 : Hid (schErr ⟨ds.map Dm.con, ms⟩ = measErr ms) := by
          show _ = _
          have h1 : dimsFrom [] (ds.map Dm.con) = 0 := by rw [HE.out, List.drop_of_length_le (by have := hlen.out; simp; omega)]; rfl
          rw [HE0.out, h1]
          rfl
        clear HE HE0
        have c1 := (H.out.blk 0 rfl).cell 1; simp only [List.getElem?_toArray, List.getElem?_cons_zero, List.getElem?_cons_succ] at c1
        by_cases hl : 1 ≤ n2 ∧ n2 ≤ 3
        · obtain ⟨hl3, hl4⟩ := hl
          have d1 : decide ((n2 : Int) < 1) = false := by simp <;> omega
          have d2 : decide ((3 : Int) < n2) = false := by simp <;> omega
          have HM : Hid (schErr ⟨ds.map Dm.con, ms⟩ = measFrom (ms.take 0) (ms.drop 0)) := by show _ = _; rw [HN1.out]; unfold measErr; rw [if_neg (by have := hlen2.out; omega)]; rfl
          clear HN1
          go_wp2_with fail
          clear c1 d1 d2
          go_loopg [65] n2 (fun gg i wr => ∃ k : Nat, gg = n2 - k ∧ k ≤ n2 ∧ i = .int .i64 k ∧ Hid (SL No w wr [rBlk x 25 #[.slice A n c, .slice A2 n2 c2]]) ∧ Hid (schErr ⟨ds.map Dm.con, ms⟩ = measFrom (ms.take k) (ms.drop k)))
          case atStart => exact ⟨0, rfl, by omega, rfl, H, HM⟩
          case round =>
            clear H HM
            obtain ⟨k2, hgk, hk2, rfl, H, HM⟩ := hrel
            have Hgk := Lib.hid hgk
            clear hgk
            by_cases hlt2 : k2 < n2
            · obtain ⟨bb, oo, m, hA, hmk, hml, hc⟩ := (HMs.out.mono H.out.to).textAt (k := k2) hlt2
              simp only at hA
              subst hA
              have HSt := Lib.hid (measFrom_drop (seen := ms.take k2) hmk)
              have HTK := Lib.hid (take_snoc_get hmk)
              have HMK := Lib.hid hmk
              have i0 : (0 : Int) ≤ k2 := by omega
              have i1 : (k2 : Int) < n2 := by omega
              have c1 := (H.out.blk 0 rfl).cell 1; simp only [List.getElem?_toArray, List.getElem?_cons_zero, List.getElem?_cons_succ] at c1
              clear hmk
              go_wp2_with fail
              refine (rname_any m _ (by omega)).mono ?_; rintro e w1 ⟨rfl, rfl⟩
              clear c1 hc
              cases hN : isName m with
              | false =>
                have HN : Hid (schErr ⟨ds.map Dm.con, ms⟩ = 2) := by show _ = _; rw [HM.out, HSt.out, hN]; rfl
                clear HM HSt
                go_wp2
                go_ret
                rw [HN.out]
                exact ⟨rfl, H.out.to⟩
              | true =>
                have HNo : Hid (NoIn ms 0 m) := NoIn.zero
                have HS2 : Hid (schErr ⟨ds.map Dm.con, ms⟩ = if m ∈ ms.take k2 then 11 else measFrom (ms.take (k2 + 1)) (ms.drop (k2 + 1))) := by show _ = _; rw [HM.out, HSt.out, if_pos hN, HTK.out]
                clear HM HSt hN
                go_wp2_with fail
                go_loopg [7] k2 (fun gg i wx => ∃ j : Nat, gg = k2 - j ∧ j ≤ k2 ∧ i = .int .i64 j ∧ Hid (SL No w wx [rBlk x 25 #[.slice A n c, .slice (some ⟨bb, oo, none⟩) n2 c2]]) ∧ Hid (NoIn ms j m))
                case atStart => exact ⟨0, rfl, by omega, rfl, H, HNo⟩
                case round =>
                  clear HNo H
                  obtain ⟨j, hgj, hj, rfl, H, HNo⟩ := hrel
                  have Hgj := Lib.hid hgj
                  clear hgj
                  by_cases hjk : j < k2
                  · obtain ⟨bb', oo', m', hA', hmj, hml', cj⟩ := (HMs.out.mono H.out.to).textAt (k := j) (by show j < n2; omega)
                    injection hA' with hA'
                    injection hA' with hA1 hA2
                    subst hA1 hA2
                    obtain ⟨bb', oo', m2, hA', hmk, hml2, ck⟩ := (HMs.out.mono H.out.to).textAt (k := k2) hlt2
                    injection hA' with hA'
                    injection hA' with hA1 hA2
                    subst hA1 hA2
                    rw [HMK.out] at hmk
                    injection hmk with hmk
                    subst hmk
                    have c1 := (H.out.blk 0 rfl).cell 1; simp only [List.getElem?_toArray, List.getElem?_cons_zero, List.getElem?_cons_succ] at c1
                    have HTN' := Lib.hid hmj
                    have j0 : (0 : Int) ≤ j := by omega
                    have j1 : (j : Int) < n2 := by omega
                    clear hmj
                    cases heq : (m' == m) with
                    | true =>
                      have HN : Hid (schErr ⟨ds.map Dm.con, ms⟩ = 11) := by show _ = _; rw [HS2.out, if_pos (in_take hjk HTN'.out heq)]
                      clear HS2
                      go_wp2_with fail
                      go_quiet (fail)
                      go_wp2
                      go_ret
                      rw [HN.out]
                      exact ⟨rfl, (H.out.drewN _).to⟩
                    | false =>
                      have HN := Lib.hid (HNo.out.step HTN'.out heq)
                      go_wp2_with fail
                      go_quiet (fail)
                      go_wp2
                      go_roundg (k2 - (j + 1))
                      case rel => exact ⟨j + 1, rfl, by omega, by go_num, H.out.drewN _, HN⟩
                      case measure => rw [Hgj.out]; omega
                  · have HN : Hid (schErr ⟨ds.map Dm.con, ms⟩ = measFrom (ms.take (k2 + 1)) (ms.drop (k2 + 1))) := by
                      show _ = _
                      obtain rfl : j = k2 := by omega
                      rw [HS2.out, if_neg HNo.out.all]
                    clear HS2
                    go_wp2_with fail
                    go_roundg (n2 - (k2 + 1))
                    case rel => exact ⟨k2 + 1, rfl, by omega, by go_num, H, HN⟩
                    case measure => rw [Hgk.out]; omega
            · have HN : Hid (schErr ⟨ds.map Dm.con, ms⟩ = 0) := by show _ = _; rw [HM.out, List.drop_of_length_le (by have := hlen2.out; omega)]; rfl
              clear HM
              go_wp2
              go_ret
              rw [HN.out]
              exact ⟨rfl, H.out.to⟩
        · have HE : Hid (schErr ⟨ds.map Dm.con, ms⟩ = 5) := by show _ = _; rw [HN1.out]; unfold measErr; rw [if_pos (by have := hlen2.out; omega)]
          clear HN1
          rcases (show n2 < 1 ∨ (1 ≤ n2 ∧ 3 < n2) by omega) with h | ⟨h, h'⟩
          · have d1 : decide ((n2 : Int) < 1) = true := by simp <;> omega
            go_wp2
            go_ret
            rw [HE.out]
            exact ⟨rfl, H.out.to⟩
          · have d1 : decide ((n2 : Int) < 1) = false := by simp <;> omega
            have d2 : decide ((3 : Int) < n2) = true := by simp <;> omega
            go_wp2
            go_ret
            rw [HE.out]
            exact ⟨rfl, H.out.to⟩
  · have HE : Hid (schErr ⟨ds.map Dm.con, ms⟩ = 5) := by show _ = _; unfold schErr; simp only [List.length_map]; rw [if_pos (by have := hlen.out; omega)]
    have c0 := (H.out.blk 0 rfl).cell 0; simp only [List.getElem?_toArray, List.getElem?_cons_zero, List.getElem?_cons_succ] at c0
    rcases (show n < 1 ∨ (1 ≤ n ∧ 16 < n) by omega) with h | ⟨h, h'⟩
    · have d1 : decide ((n : Int) < 1) = true := by simp <;> omega
      go_enter Try.func18, Try.ntmps18
      go_wp2
      go_ret
      rw [HE.out]
      exact ⟨rfl, H.out.to⟩
    · have d1 : decide ((n : Int) < 1) = false := by simp <;> omega
      have d2 : decide ((16 : Int) < n) = true := by simp <;> omega
      go_enter Try.func18, Try.ntmps18
      go_wp2
      go_ret
      rw [HE.out]
      exact ⟨rfl, H.out.to⟩

end Go.Proofs.Ytnekknemjhlgdaa
