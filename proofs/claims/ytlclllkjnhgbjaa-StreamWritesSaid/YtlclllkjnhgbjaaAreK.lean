/- The document's May and Each; the law's same. -/
import Derived.Test.YtlclllkjnhgbjaaBu
import Derived.Test.YtlclllkjnhgbjaaBf
namespace Go.Proofs.Ytlclllkjnhgbjaa
open Go.RowKit
set_option linter.unusedVariables false
set_option linter.unusedSimpArgs false

set_option maxRecDepth 100000 in
set_option maxHeartbeats 4000000 in
theorem rmay24_any (s : Shp) (w : World) (hs : s.rd w) :
    Calls Try.prog 9 #[.agg s.cs] w fun e w' => e = .returned (.bool (shapeOk s.con s.ms)) ∧ Bel w w' := by
  have HSZ := Lib.hid (fun w' (hb : Bel w w') => hs.sz.mono hb)
  have hl1 : Hid (s.sz.l.length = s.sz.n) := hs.sz.len
  have n63 := hs.sz.n63
  have m64 := hs.ms
  unfold I64 at m64
  have H := Lib.hid ((SL.start No w).alloc s.cs 24)
  (try simp only [List.set_cons_zero, List.set_cons_succ, List.cons_append, List.nil_append, List.eraseIdx_cons_zero, List.eraseIdx_cons_succ, List.setIfInBounds_toArray, World.size_alloc, selR, List.getD_cons_zero, List.getD_cons_succ] at H)
  obtain ⟨⟨A, n, c, X⟩, ms⟩ := s
  simp only [Shp.cs, Shp.con] at *
  clear hs
  obtain ⟨E, hE⟩ : ∃ E, E = shapeOk (X.map Row.l) ms := ⟨_, rfl⟩
  rw [← hE]
  have HE := Lib.hid hE
  clear hE
  by_cases h1 : n < 1
  · have HV : Hid (E = false) := by show _ = _; rw [HE.out]; exact shape_no (by rw [List.length_map, hl1.out]; omega)
    have d1 : decide ((n : Int) < 1) = true := by simp <;> omega
    have d1n : decide (n < 1) = true := by simp <;> omega
    clear HE h1
    go_enter Try.func9, Try.ntmps9
    go_wp2_with fail
    go_ret
    (try rw [HV.out])
    exact ⟨rfl, H.out.to⟩
  have d1 : decide ((n : Int) < 1) = false := by simp <;> omega
  have d1n : decide (n < 1) = false := by simp <;> omega
  by_cases h2 : 16 < n
  · have HV : Hid (E = false) := by show _ = _; rw [HE.out]; exact shape_no (by rw [List.length_map, hl1.out]; omega)
    have d2 : decide ((16 : Int) < (n : Int)) = true := by simp <;> omega
    have d2n : decide (16 < n) = true := by simp <;> omega
    clear HE h2
    go_enter Try.func9, Try.ntmps9
    go_wp2_with fail
    go_ret
    (try rw [HV.out])
    exact ⟨rfl, H.out.to⟩
  have d2 : decide ((16 : Int) < (n : Int)) = false := by simp <;> omega
  have d2n : decide (16 < n) = false := by simp <;> omega
  by_cases h3 : ms < 1
  · have HV : Hid (E = false) := by show _ = _; rw [HE.out]; exact shape_no (by rw [List.length_map, hl1.out]; omega)
    have d3 : decide (ms < 1) = true := by simp <;> omega
    clear HE h3
    go_enter Try.func9, Try.ntmps9
    go_wp2_with fail
    go_ret
    (try rw [HV.out])
    exact ⟨rfl, H.out.to⟩
  have d3 : decide (ms < 1) = false := by simp <;> omega
  by_cases h4 : 3 < ms
  · have HV : Hid (E = false) := by show _ = _; rw [HE.out]; exact shape_no (by rw [List.length_map, hl1.out]; omega)
    have d4 : decide (3 < ms) = true := by simp <;> omega
    clear HE h4
    go_enter Try.func9, Try.ntmps9
    go_wp2_with fail
    go_ret
    (try rw [HV.out])
    exact ⟨rfl, H.out.to⟩
  have d4 : decide (3 < ms) = false := by simp <;> omega
  go_enter Try.func9, Try.ntmps9
  go_upto_region 4 with fail
  generalize w.heap.size = x at *
  generalize World.alloc _ _ = w1 at *
  clear d1 d1n d2 d2n d3 d4
  have HA : Hid (∀ i y, i < 0 → X[i]? = some y → tierShape y.l = true) := fun i t hi => absurd hi (by omega)
  go_loopg [29] n (fun gg s30 wr => ∃ (k : Nat), gg = n - k ∧ k ≤ n ∧ s30 = .int .i64 k ∧ Hid (∀ i y, i < k → X[i]? = some y → tierShape y.l = true) ∧ Hid (SL No w wr [rBlk x 24 #[.slice A n c, .int .i64 ms]]))
  case atStart => exact ⟨0, rfl, by omega, rfl, HA, H⟩
  case round =>
    clear H HA
    obtain ⟨k, hgk, hk, rfl, HA, H⟩ := hrel
    have Hgk := Lib.hid hgk
    clear hgk
    by_cases hlt : k < n
    · obtain ⟨bb, oo, y, hA, hyk, hyr, q1⟩ := (HSZ.out _ H.out.to).slAt (k := k) hlt
      simp only at hA
      subst hA
      have HYL : Hid (y.l.length = y.n) := hyr.len
      have HYR := Lib.hid (fun w' (hb : Bel wr w') => hyr.rds.mono hb)
      have HBAD : Hid (tierShape y.l = false → E = false) := fun h => by rw [HE.out]; exact shape_at (List.mem_map.2 ⟨y, List.mem_of_getElem? hyk, rfl⟩) h
      have HNX : Hid (tierShape y.l = true → ∀ i y, i < k + 1 → X[i]? = some y → tierShape y.l = true) := by
        intro h i d' hi hid
        rcases (show i < k ∨ i = k by omega) with h' | h'
        · exact HA.out i d' h' hid
        · subst h'
          rw [hyk] at hid
          injection hid with hid
          subst hid
          exact h
      have y63 := hyr.rds.n63
      have i0 : (0 : Int) ≤ k := by omega
      have i1 : (k : Int) < n := by omega
      clear hyk hyr HA
      by_cases g1 : y.n < 1
      · have HV : Hid (E = false) := HBAD.out (tier_len (by rw [HYL.out]; omega))
        have d1 : decide ((y.n : Int) < 1) = true := by simp <;> omega
        have d1n : decide (y.n < 1) = true := by simp <;> omega
        clear HE g1 HBAD HNX
        go_wp2_with fail
        go_ret
        (try rw [HV.out])
        exact ⟨rfl, H.out.to⟩
      have d1 : decide ((y.n : Int) < 1) = false := by simp <;> omega
      have d1n : decide (y.n < 1) = false := by simp <;> omega
      by_cases g2 : 4 < y.n
      · have HV : Hid (E = false) := HBAD.out (tier_len (by rw [HYL.out]; omega))
        have d2 : decide ((4 : Int) < (y.n : Int)) = true := by simp <;> omega
        have d2n : decide (4 < y.n) = true := by simp <;> omega
        clear HE g2 HBAD HNX
        go_wp2_with fail
        go_ret
        (try rw [HV.out])
        exact ⟨rfl, H.out.to⟩
      have d2 : decide ((4 : Int) < (y.n : Int)) = false := by simp <;> omega
      have d2n : decide (4 < y.n) = false := by simp <;> omega
      obtain ⟨bz, oz, _, hAz, _, _, _⟩ := (HYR.out _ (Bel.refl _)).intAt (k := 0) (by omega)
      rw [hAz] at q1
      have HAZ := Lib.hid hAz
      clear hAz
      go_upto_region 9 with fail
      clear d1 d1n d2 d2n q1
      have HOK : Hid (∀ i, i < 0 → tierAt y.l i = true) := fun i hi => absurd hi (by omega)
      obtain ⟨W0, hW0⟩ : ∃ W0, W0 = wr := ⟨_, rfl⟩
      subst hW0
      have HW : Hid (Bel W0 W0) := Bel.refl _
      go_loopg [43] y.n (fun gg s44 wr => ∃ (i : Nat), gg = y.n - i ∧ i ≤ y.n ∧ s44 = .int .i64 i ∧ Hid (∀ j, j < i → tierAt y.l j = true) ∧ Hid (SL No w wr [rBlk x 24 #[.slice (some ⟨bb, oo, none⟩) n c, .int .i64 ms]]) ∧ Hid (Bel W0 wr))
      case atStart => exact ⟨0, rfl, by omega, rfl, HOK, H, HW⟩
      case round =>
        clear HOK H HW
        obtain ⟨i, hgi, hi, rfl, HOK, H, HW⟩ := hrel
        have Hgi := Lib.hid hgi
        clear hgi
        by_cases hli : i < y.n
        · obtain ⟨b2, o2, v, hA2, hvk, hv64, hvc⟩ := (HYR.out _ HW.out).intAt (k := i) hli
          rw [HAZ.out] at hA2
          injection hA2 with hA2
          injection hA2 with e1 e2
          subst e1 e2
          have v64 := hv64
          unfold I64 at v64
          have HAT := Lib.hid (tierAt_some hvk)
          have HB1 : Hid (tierAt y.l i = false → E = false) := fun h => HBAD.out (tier_at (by rw [HYL.out]; exact hli) h)
          have HN1 : Hid (tierAt y.l i = true → ∀ j, j < i + 1 → tierAt y.l j = true) := fun h j hj => by
            rcases (show j < i ∨ j = i by omega) with h' | h'
            · exact HOK.out j h'
            · subst h'
              exact h
          have j0 : (0 : Int) ≤ i := by omega
          have j1 : (i : Int) < y.n := by omega
          clear hvk hv64 HOK
          by_cases g1 : v < 1
          · have HV : Hid (E = false) := HB1.out (by rw [HAT.out]; simp; omega)
            have d1 : decide (v < 1) = true := by simp <;> omega
            clear HE g1 HB1 HN1 HAT HBAD HNX
            go_upto_region 11 with fail
            have f_hvc := fun u : Over wr => Over.cell hvc u
            refine wp_region_over (by kernel_rfl) (by kernel_rfl) ?_
            (try simp only [Act.put, List.setIfInBounds_toArray, List.set_cons_zero, List.set_cons_succ])
            repeat (go_big_quiet_step (fail))
            refine wpQuiet_nil ?_
            rintro w5 ⟨⟨_, hw5⟩, rfl⟩
            (try dsimp only)
            replace H := Lib.hid (H.out.bel hw5); (try simp only [List.set_cons_zero, List.set_cons_succ, List.cons_append, List.nil_append, List.eraseIdx_cons_zero, List.eraseIdx_cons_succ, List.setIfInBounds_toArray, World.size_alloc, selR, List.getD_cons_zero, List.getD_cons_succ] at H)
            clear f_hvc hvc
            replace HW := Lib.hid (HW.out.trans hw5)
            clear hw5
            go_wp2_with fail
            go_ret
            (try rw [HV.out])
            exact ⟨rfl, H.out.to⟩
          have d1 : decide (v < 1) = false := by simp <;> omega
          by_cases g2 : 200 < v
          · have HV : Hid (E = false) := HB1.out (by rw [HAT.out]; simp; omega)
            have d2 : decide (200 < v) = true := by simp <;> omega
            clear HE g2 HB1 HN1 HAT HBAD HNX
            go_upto_region 11 with fail
            have f_hvc := fun u : Over wr => Over.cell hvc u
            refine wp_region_over (by kernel_rfl) (by kernel_rfl) ?_
            (try simp only [Act.put, List.setIfInBounds_toArray, List.set_cons_zero, List.set_cons_succ])
            repeat (go_big_quiet_step (fail))
            refine wpQuiet_nil ?_
            rintro w5 ⟨⟨_, hw5⟩, rfl⟩
            (try dsimp only)
            replace H := Lib.hid (H.out.bel hw5); (try simp only [List.set_cons_zero, List.set_cons_succ, List.cons_append, List.nil_append, List.eraseIdx_cons_zero, List.eraseIdx_cons_succ, List.setIfInBounds_toArray, World.size_alloc, selR, List.getD_cons_zero, List.getD_cons_succ] at H)
            clear f_hvc hvc
            replace HW := Lib.hid (HW.out.trans hw5)
            clear hw5
            go_wp2_with fail
            go_ret
            (try rw [HV.out])
            exact ⟨rfl, H.out.to⟩
          have d2 : decide (200 < v) = false := by simp <;> omega
          by_cases hi0 : i = 0
          · subst hi0
            have HOK2 : Hid (∀ j, j < 0 + 1 → tierAt y.l j = true) := HN1.out (by rw [HAT.out]; simp; omega)
            clear HB1 HN1 HAT g1 g2
            rw [Nat.add_zero] at hvc
            go_upto_region 11 with fail
            have f_hvc := fun u : Over wr => Over.cell hvc u
            refine wp_region_over (by kernel_rfl) (by kernel_rfl) ?_
            (try simp only [Act.put, List.setIfInBounds_toArray, List.set_cons_zero, List.set_cons_succ])
            repeat (go_big_quiet_step (fail))
            refine wpQuiet_nil ?_
            rintro w5 ⟨⟨_, hw5⟩, rfl⟩
            (try dsimp only)
            replace H := Lib.hid (H.out.bel hw5); (try simp only [List.set_cons_zero, List.set_cons_succ, List.cons_append, List.nil_append, List.eraseIdx_cons_zero, List.eraseIdx_cons_succ, List.setIfInBounds_toArray, World.size_alloc, selR, List.getD_cons_zero, List.getD_cons_succ] at H)
            clear f_hvc hvc
            replace HW := Lib.hid (HW.out.trans hw5)
            clear hw5
            go_wp2_with fail
            go_roundg (y.n - (0 + 1))
            case rel => exact ⟨0 + 1, rfl, by omega, by go_num, HOK2, H, HW⟩
            case measure => rw [Hgi.out]; omega
          · obtain ⟨j, rfl⟩ : ∃ j, i = j + 1 := ⟨i - 1, by omega⟩
            obtain ⟨b2, o2, p, hA2, hpk, hp64, hpc⟩ := (HYR.out _ HW.out).intAt (k := j) (by omega)
            rw [HAZ.out] at hA2
            injection hA2 with hA2
            injection hA2 with e1 e2
            subst e1 e2
            have HAT2 : Hid (tierAt y.l (j + 1) = (decide (1 ≤ v) && decide (v ≤ 200) && decide (v ≤ p))) := by
              show _ = _
              rw [HAT.out, show j + 1 - 1 = j from rfl, hpk]
              simp
            have e1 : (((j + 1 : Nat) : Int)) - 1 = j := by omega
            have m0 : (0 : Int) ≤ j := by omega
            have m1 : (j : Int) < y.n := by omega
            have e2 : decide ((0 : Int) < ((j + 1 : Nat) : Int)) = true := by simp <;> omega
            clear hpk hp64 HAT
            by_cases g3 : p < v
            · have HV : Hid (E = false) := HB1.out (by rw [HAT2.out]; simp; omega)
              have d3 : decide (p < v) = true := by simp <;> omega
              clear HE g3 HB1 HN1 HAT2 HBAD HNX
              go_upto_region 11 with fail
              have f_hvc := fun u : Over wr => Over.cell hvc u
              have f_hpc := fun u : Over wr => Over.cell hpc u
              refine wp_region_over (by kernel_rfl) (by kernel_rfl) ?_
              (try simp only [Act.put, List.setIfInBounds_toArray, List.set_cons_zero, List.set_cons_succ])
              repeat (go_big_quiet_step (fail))
              refine wpQuiet_nil ?_
              rintro w5 ⟨⟨_, hw5⟩, rfl⟩
              (try dsimp only)
              replace H := Lib.hid (H.out.bel hw5); (try simp only [List.set_cons_zero, List.set_cons_succ, List.cons_append, List.nil_append, List.eraseIdx_cons_zero, List.eraseIdx_cons_succ, List.setIfInBounds_toArray, World.size_alloc, selR, List.getD_cons_zero, List.getD_cons_succ] at H)
              clear f_hvc f_hpc hvc hpc
              replace HW := Lib.hid (HW.out.trans hw5)
              clear hw5
              go_wp2_with fail
              go_ret
              (try rw [HV.out])
              exact ⟨rfl, H.out.to⟩
            · have HOK2 : Hid (∀ i, i < j + 1 + 1 → tierAt y.l i = true) := HN1.out (by rw [HAT2.out]; simp; omega)
              have d3 : decide (p < v) = false := by simp <;> omega
              clear HB1 HN1 HAT2 g1 g2 g3
              go_upto_region 11 with fail
              have f_hvc := fun u : Over wr => Over.cell hvc u
              have f_hpc := fun u : Over wr => Over.cell hpc u
              refine wp_region_over (by kernel_rfl) (by kernel_rfl) ?_
              (try simp only [Act.put, List.setIfInBounds_toArray, List.set_cons_zero, List.set_cons_succ])
              repeat (go_big_quiet_step (fail))
              refine wpQuiet_nil ?_
              rintro w5 ⟨⟨_, hw5⟩, rfl⟩
              (try dsimp only)
              replace H := Lib.hid (H.out.bel hw5); (try simp only [List.set_cons_zero, List.set_cons_succ, List.cons_append, List.nil_append, List.eraseIdx_cons_zero, List.eraseIdx_cons_succ, List.setIfInBounds_toArray, World.size_alloc, selR, List.getD_cons_zero, List.getD_cons_succ] at H)
              clear f_hvc f_hpc hvc hpc
              replace HW := Lib.hid (HW.out.trans hw5)
              clear hw5
              go_wp2_with fail
              go_roundg (y.n - (j + 1 + 1))
              case rel => exact ⟨j + 1 + 1, rfl, by omega, by go_num, HOK2, H, HW⟩
              case measure => rw [Hgi.out]; omega
        · obtain rfl : i = y.n := by omega
          have HN2 := Lib.hid (HNX.out (tier_yes (by rw [HYL.out]; omega) (by rw [HYL.out]; omega) (by rw [HYL.out]; exact HOK.out)))
          clear HNX HOK
          go_wp2_with fail
          go_roundg (n - (k + 1))
          case rel => exact ⟨k + 1, rfl, by omega, by go_num, HN2, H⟩
          case measure => rw [Hgk.out]; omega
    · obtain rfl : k = n := by omega
      have HV : Hid (E = true) := by
        show _ = _
        rw [HE.out]
        refine shape_yes (by rw [List.length_map, hl1.out]; omega) (by rw [List.length_map, hl1.out]; omega) (by omega) (by omega) fun l hl => ?_
        obtain ⟨y, hy, rfl⟩ := List.mem_map.1 hl
        obtain ⟨i, hi⟩ := List.mem_iff_getElem?.1 hy
        exact HA.out i y (by have := (List.getElem?_eq_some_iff.1 hi).1; rw [hl1.out] at this; exact this) hi
      clear HE HA
      go_wp2_with fail
      go_ret
      (try rw [HV.out])
      exact ⟨rfl, H.out.to⟩

set_option maxRecDepth 100000 in
set_option maxHeartbeats 2000000 in
theorem reach_any (n : Nd) (w : World) (hn : n.rd w) (ht : (n.ls.l.map Row.l).flatten.length ≤ 999999) :
    Calls Try.prog 15 #[.agg n.cs] w fun e w' => ∃ (A : Option Addr) (c : Nat), e = .returned (.slice A (eachN n.con).length c) ∧ Bel w w' ∧ w'.ownsRow w.heap.size 32 12 (.slice A (eachN n.con).length c) (eachN n.con).length ((eachN n.con).flatMap Cel.cells) := by
  have HX := Lib.hid (fun w' (hb : Bel w w') => hn.ls.mono hb)
  have hll : Hid (n.ls.l.length = n.ls.n) := hn.ls.len
  have n63 := hn.ls.n63
  have HT := Lib.hid ht
  have H := Lib.hid (((SL.start No w).alloc n.cs 34).addNil 32 12)
  (try simp only [List.set_cons_zero, List.set_cons_succ, List.cons_append, List.nil_append, List.eraseIdx_cons_zero, List.eraseIdx_cons_succ, List.setIfInBounds_toArray, World.size_alloc, selR, List.getD_cons_zero, List.getD_cons_succ] at H)
  have HS0 : Hid (0 = ((n.ls.l.map Row.l).take (0)).flatten.length) := rfl
  obtain ⟨T, hT⟩ : ∃ T, T = (n.ls.l.map Row.l).flatten.length := ⟨_, rfl⟩
  have he1 : (eachN n.con).length = T + 1 := by unfold eachN; rw [List.length_append, hT]; rfl
  have he2 : ((eachN n.con).flatMap Cel.cells : List Value) = (n.ls.l.map Row.l).flatten.flatMap Cel.cells ++ n.all.cs.toList := by unfold eachN; rw [List.flatMap_append]; simp [Cel.cells]
  rw [he1, he2]
  have HTT := Lib.hid hT
  have htm : T ≤ 999999 := by rw [hT]; exact ht
  clear hn ht he1 he2 hT
  go_enter Try.func15, Try.ntmps15
  go_upto_region 2 with fail
  generalize w.heap.size = x at *
  generalize World.alloc w _ = w1 at *
  have cl : w1.cell? ⟨x, 1, none⟩ = some (.slice n.ls.A n.ls.n n.ls.c) := (H.out.blk 0 rfl).cell 1
  go_upto_region 3 with fail
  clear cl
  go_loopg [3, 9] n.ls.n (fun gg s3 s9 wr => ∃ (k m : Nat) (B : Option Addr) (d : Nat), gg = n.ls.n - k ∧ k ≤ n.ls.n ∧ s3 = .slice B m d ∧ s9 = .int .i64 k ∧ Hid (m = ((n.ls.l.map Row.l).take (k)).flatten.length) ∧ Hid (SL No w wr [rBlk x 34 n.cs, rRow 32 12 (.slice B m d) m (((n.ls.l.map Row.l).take (k)).flatten.flatMap Cel.cells)]))
  case atStart => exact ⟨0, 0, none, 0, rfl, by omega, rfl, rfl, HS0, H⟩
  case round =>
    clear H HS0
    obtain ⟨k, m, B, d, hgk, hk, rfl, rfl, HM, H⟩ := hrel
    have Hgk := Lib.hid hgk
    clear hgk
    by_cases hlt : k < n.ls.n
    · obtain ⟨bl, ol, v, hAl, hvk, hvok, hvc⟩ := (HX.out _ H.out.to).clsAt (k := k) hlt
      have hvl : v.l.length = v.n := hvok.rds.len
      have hnx := flat_nextG (L := n.ls.l.map Row.l) (k := k) (l := v.l) (by rw [List.getElem?_map, hvk]; rfl)
      have hle := flat_leG (n.ls.l.map Row.l) (k + 1)
      have HM2 : Hid (m + v.n = ((n.ls.l.map Row.l).take (k + 1)).flatten.length) := by show _ = _; rw [hnx, List.length_append, ← HM.out, hvl]
      have hm2 : m + v.n ≤ 1000000 := by have := HM2.out; have := HT.out; omega
      have HFM : Hid ((((n.ls.l.map Row.l).take (k + 1)).flatten.flatMap Cel.cells : List Value) = ((n.ls.l.map Row.l).take (k)).flatten.flatMap Cel.cells ++ v.l.flatMap Cel.cells) := by show _ = _; rw [hnx, List.flatMap_append]
      have HRR := Lib.hid hvok.rds.r
      have k0 : (0 : Int) ≤ k := by omega
      have k1 : (k : Int) < n.ls.n := by omega
      have HAL := Lib.hid hAl
      rw [hAl]
      clear hvk hvok hvl hnx hle hAl HM
      go_wp2_with ((with_reducible show wpList _ _ _ (⟨some 15, _, _, _, _, _⟩ :: _) _ _); (refine wpList_append0 rfl (.tmp 13) (.tmp 14) _ rfl E_cl 0 (Nat.zero_le _) _ m _ rfl (H.out.row 1 rfl) v.A v.n v.c (v.l.flatMap Cel.cells) rfl (HRR.out) (cls_one v.l) (by unfold maxLen; omega) (by omega) ?_; intro vq wq howq hgq hatq; replace H := Lib.hid (H.out.setRow 1 rfl hgq howq hatq); (try simp only [List.set_cons_zero, List.set_cons_succ, List.cons_append, List.nil_append, List.eraseIdx_cons_zero, List.eraseIdx_cons_succ, List.setIfInBounds_toArray, World.size_alloc, selR, List.getD_cons_zero, List.getD_cons_succ] at H); clear howq hgq hatq; obtain ⟨A2, c2, rfl, _⟩ := own_slice (H.out.row 1 rfl)))
      rw [← HAL.out]
      rw [← HFM.out] at H
      go_roundg (n.ls.n - (k + 1))
      case rel => exact ⟨k + 1, m + v.n, A2, c2, rfl, by omega, by rfl, by go_num, HM2, H⟩
      case measure => rw [Hgk.out]; omega
    · obtain rfl : k = n.ls.n := by omega
      have hT : (n.ls.l.map Row.l).take n.ls.n = n.ls.l.map Row.l := List.take_of_length_le (by rw [List.length_map, hll.out]; exact Nat.le_refl _)
      rw [hT] at H HM
      have hMT : m = T := HM.out.trans HTT.out.symm
      subst hMT
      clear hT HM
      have HAL : Hid (wr.rangeAt x 2 n.all.cs.toList) := fun j v hv => by
        have := (H.out.blk 0 rfl).range (j + 2) v (by rw [nd_all]; exact hv)
        rw [show 0 + (j + 2) = 2 + j by omega] at this
        exact this
      go_wp2_with (first | ((with_reducible show wpList _ _ _ (⟨some 19, _, _, _, _, _⟩ :: _) _ _); (refine wpList_load_row_at rfl rowCl (.tmp 18) rfl x (2) rfl n.all.cs rfl HAL.out ?_)) | ((with_reducible show wpList _ _ _ (⟨some 20, _, _, _, _, _⟩ :: _) _ _); (refine wpList_buildSlice1 rfl E_cl (.tmp 19) rfl (n.all.cs) rfl rfl (by omega) ?_; replace H := Lib.hid (H.out.addRow ((Bel.refl _).alloc _) (own_made _ 32 (n.all.cs) _ rfl)); (try simp only [List.set_cons_zero, List.set_cons_succ, List.cons_append, List.nil_append, List.eraseIdx_cons_zero, List.eraseIdx_cons_succ, List.setIfInBounds_toArray, World.size_alloc, selR, List.getD_cons_zero, List.getD_cons_succ] at H))) | ((with_reducible show wpList _ _ _ (⟨some 21, _, _, _, _, _⟩ :: _) _ _); (refine wpList_append0 rfl (.tmp 17) (.tmp 20) _ rfl E_cl 0 (Nat.zero_le _) _ m _ rfl (H.out.row 1 rfl) _ 1 1 _ rfl (Rd.of_own (H.out.row 2 rfl)) (by simp [Value.oneCell']) (by unfold maxLen; omega) (by omega) ?_; intro vq wq howq hgq hatq; replace H := Lib.hid (H.out.setRow 1 rfl hgq howq hatq); (try simp only [List.set_cons_zero, List.set_cons_succ, List.cons_append, List.nil_append, List.eraseIdx_cons_zero, List.eraseIdx_cons_succ, List.setIfInBounds_toArray, World.size_alloc, selR, List.getD_cons_zero, List.getD_cons_succ] at H); clear howq hgq hatq; obtain ⟨A2, c2, rfl, _⟩ := own_slice (H.out.row 1 rfl))))
      go_ret
      exact ⟨A2, c2, rfl, H.out.to, H.out.rowB 1 rfl⟩

end Go.Proofs.Ytlclllkjnhgbjaa
