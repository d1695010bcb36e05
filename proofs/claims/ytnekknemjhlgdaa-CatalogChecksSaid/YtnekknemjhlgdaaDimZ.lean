/- Two dimensions are the same; a dimension is small. -/
import Derived.Test.YtnekknemjhlgdaaDimX
namespace Go.Proofs.Ytnekknemjhlgdaa
open Go.RowKit
set_option linter.unusedVariables false
set_option linter.unusedSimpArgs false

def sameD (a b : DC) : Bool := (a.nm == b.nm) && (a.trs == b.trs)
theorem sameD_self (a : DC) : sameD a a = true := by unfold sameD; simp
theorem tcsEq_step {xs ys : List TC} {k : Nat} {a b : TC} (ha : xs[k]? = some a) (hb : ys[k]? = some b) : (xs.drop k == ys.drop k) = (sameC a b && (xs.drop (k + 1) == ys.drop (k + 1))) := by
  obtain ⟨h1, rfl⟩ := List.getElem?_eq_some_iff.1 ha
  obtain ⟨h2, rfl⟩ := List.getElem?_eq_some_iff.1 hb
  rw [List.drop_eq_getElem_cons h1, List.drop_eq_getElem_cons h2, sameC_iff]
  rfl

set_option maxRecDepth 100000 in
set_option maxHeartbeats 2000000 in
theorem dmsame_any (d s : Dm) (w : World) (hd : d.rd w) (hs : s.rd w) :
    Calls Try.prog 136 #[.agg d.cs, .agg s.cs] w fun e w' => e = .returned (.bool (sameD d.con s.con)) ∧ Bel w w' := by
  have hW := ((Bel.refl w).alloc (.cells d.cs 64)).alloc (.cells s.cs 64)
  have q1 := (Blk.new w 64 d.cs).alloc (.cells s.cs 64)
  have q2 := Blk.new (w.alloc (.cells d.cs 64)) 64 s.cs
  rw [World.size_alloc] at q2
  have tl1 : Hid (d.tr.l.length = d.tr.n) := hd.tr.len
  have sl1 : Hid (s.tr.l.length = s.tr.n) := hs.tr.len
  have n1 := hd.tr.n63
  have HD := Lib.hid hd.tr
  have HS := Lib.hid hs.tr
  obtain ⟨nm, ⟨A, n, c, trs⟩⟩ := d
  obtain ⟨nm', ⟨A', n', c', trs'⟩⟩ := s
  simp only [Dm.cs, Dm.con] at *
  have HW := Lib.hid hW
  have x0 := q1.cell 0
  have x1 := q1.cell 1
  have y0 := q2.cell 0
  have y1 := q2.cell 1
  simp only [List.getElem?_toArray, List.getElem?_cons_zero, List.getElem?_cons_succ] at x0 x1 y0 y1
  clear hd hs hW
  by_cases hnm : nm = nm'
  · subst hnm
    by_cases hl : n = n'
    · subst hl
      have HS0 : Hid (sameD ⟨nm, trs.map Tir.con⟩ ⟨nm, trs'.map Tir.con⟩ = ((trs.map Tir.con).drop 0 == (trs'.map Tir.con).drop 0)) := by show _ = _; unfold sameD; simp
      go_enter Try.func136, Try.ntmps136
      go_wp2_with fail
      generalize (w.alloc (.cells #[.string ⟨nm.toArray⟩, .slice A n c] 64)).alloc (.cells #[.string ⟨nm.toArray⟩, .slice A' n c'] 64) = W at *
      clear q1 q2
      go_loopg [23] n (fun gg i wr => ∃ k : Nat, gg = n - k ∧ k ≤ n ∧ i = .int .i64 k ∧ Hid (Bel W wr) ∧ Hid (sameD ⟨nm, trs.map Tir.con⟩ ⟨nm, trs'.map Tir.con⟩ = ((trs.map Tir.con).drop k == (trs'.map Tir.con).drop k)))
      case atStart => exact ⟨0, rfl, by omega, rfl, Bel.refl _, HS0⟩
      case round =>
        clear HS0
        obtain ⟨k, hgk, hk, rfl, hB, hF⟩ := hrel
        have Hgk := Lib.hid hgk
        clear hgk
        have x1' := (hB.out.cell (World.block_lt_of_cell? _ _ x1)).trans x1
        have y1' := (hB.out.cell (World.block_lt_of_cell? _ _ y1)).trans y1
        have hBW := HW.out.trans hB.out
        by_cases hlt : k < n
        · obtain ⟨ba, oa, a, hA, hba, hak, har, hra⟩ := (HD.out.mono hBW).tirAt (k := k) hlt
          obtain ⟨bb, ob, b, hA', hbb, hbk, hbr, hrb⟩ := (HS.out.mono hBW).tirAt (k := k) hlt
          simp only at hA hA'
          subst hA
          subst hA'
          have RA := Lib.hid hra
          have RB := Lib.hid hrb
          have HA := Lib.hid har
          have HBr := Lib.hid hbr
          have HSt := Lib.hid (tcsEq_step (xs := trs.map Tir.con) (ys := trs'.map Tir.con) (k := k) (a := a.con) (b := b.con) (by rw [List.getElem?_map, hak]; rfl) (by rw [List.getElem?_map, hbk]; rfl))
          have i0 : (0 : Int) ≤ k := by omega
          have i1 : (k : Int) < n := by omega
          have HBW := Lib.hid hBW
          clear hak hbk hra hrb har hbr hBW
          go_wp2_with fail
          have f1 := fun u : Over wr => Over.cell x1' u
          have f2 := fun u : Over wr => Over.cell y1' u
          refine wp_region_over (by kernel_rfl) (by kernel_rfl) ?_
          repeat (first
            | ((with_reducible show wpQuiet _ _ _ _ (⟨some 30, _, _, _, _, _⟩ :: _) _); refine wpQuiet_load_row rfl rowTir (.tmp 29) rfl ba (oa + k * 3) rfl a.cs rfl hba RA.out ?_; simp only [Act.put, List.setIfInBounds_toArray, List.set_cons_zero, List.set_cons_succ])
            | ((with_reducible show wpQuiet _ _ _ _ (⟨some 35, _, _, _, _, _⟩ :: _) _); refine wpQuiet_load_row rfl rowTir (.tmp 34) rfl bb (ob + k * 3) rfl b.cs rfl hbb RB.out ?_; simp only [Act.put, List.setIfInBounds_toArray, List.set_cons_zero, List.set_cons_succ])
            | go_big_quiet_step ((go_at_call 187; rename_i u; exact calls_over (trsame_any a b _ (HA.out.mono u.bel) (HBr.out.mono u.bel)))))
          refine wpQuiet_nil ?_
          rintro w4 ⟨⟨_, hw4⟩, rfl⟩
          have B4 := Lib.hid (hB.out.trans hw4)
          have BW4 := Lib.hid (HBW.out.trans hw4)
          try dsimp only
          clear hw4 f1 f2 x1' y1'
          cases hab : sameC a.con b.con with
          | true =>
            have HR : Hid (sameD ⟨nm, trs.map Tir.con⟩ ⟨nm, trs'.map Tir.con⟩ = ((trs.map Tir.con).drop (k + 1) == (trs'.map Tir.con).drop (k + 1))) := by show _ = _; rw [hF.out, HSt.out, hab]; rfl
            clear hF HSt
            go_wp2
            go_roundg (n - (k + 1))
            case rel => exact ⟨k + 1, rfl, by omega, by go_num, B4, HR⟩
            case measure => rw [Hgk.out]; omega
          | false =>
            have HR : Hid (sameD ⟨nm, trs.map Tir.con⟩ ⟨nm, trs'.map Tir.con⟩ = false) := by show _ = _; rw [hF.out, HSt.out, hab]; rfl
            clear hF HSt
            go_wp2
            go_ret
            rw [HR.out]
            exact ⟨rfl, BW4.out⟩
        · have HR : Hid (sameD ⟨nm, trs.map Tir.con⟩ ⟨nm, trs'.map Tir.con⟩ = true) := by
            show _ = _
            rw [hF.out, List.drop_of_length_le (by have := tl1.out; simp; omega), List.drop_of_length_le (by have := sl1.out; simp; omega)]
            rfl
          clear hF
          go_wp2
          go_ret
          rw [HR.out]
          exact ⟨rfl, hBW⟩
    · have HR : Hid (sameD ⟨nm, trs.map Tir.con⟩ ⟨nm, trs'.map Tir.con⟩ = false) := by
        show _ = _
        unfold sameD
        rw [beq_len (xs := trs.map Tir.con) (ys := trs'.map Tir.con) (by have := tl1.out; have := sl1.out; simp; omega)]
        simp
      have d1 : ((n : Int) != (n' : Int)) = true := by simp; omega
      have d2 : ((n : Int) == (n' : Int)) = false := by simp; omega
      clear q1 q2
      go_enter Try.func136, Try.ntmps136
      go_wp2
      go_ret
      rw [HR.out]
      exact ⟨rfl, HW.out⟩
  · have HR : Hid (sameD ⟨nm, trs.map Tir.con⟩ ⟨nm', trs'.map Tir.con⟩ = false) := by show _ = _; unfold sameD; simp [hnm]
    have d1 : (nm == nm') = false := by simpa using hnm
    clear q1 q2 hnm
    go_enter Try.func136, Try.ntmps136
    go_wp2
    go_ret
    rw [HR.out]
    exact ⟨rfl, HW.out⟩

set_option maxRecDepth 100000 in
set_option maxHeartbeats 1000000 in
theorem dmfew_any (d : Dm) (w : World) (hd : d.rd w) :
    Calls Try.prog 74 #[.agg d.cs] w fun e w' => ∃ b : Bool, e = .returned (.bool b) ∧ (b = true → d.tr.n ≤ 6 ∧ ∀ t ∈ d.tr.l, t.ts.n ≤ 220 ∧ t.up.n ≤ 220) ∧ Bel w w' := by
  have hW := (Bel.refl w).alloc (.cells d.cs 64)
  have q0 := Blk.new w 64 d.cs
  have hlen : Hid (d.tr.l.length = d.tr.n) := hd.tr.len
  have n1 := hd.tr.n63
  have hnm := hd.nm
  have HD := Lib.hid hd.tr
  obtain ⟨nm, ⟨A, n, c, trs⟩⟩ := d
  simp only [Dm.cs] at *
  have HW := Lib.hid hW
  have x1 := q0.cell 1
  simp only [List.getElem?_toArray, List.getElem?_cons_zero, List.getElem?_cons_succ] at x1
  have Q0 := Lib.hid q0
  clear hd hW q0
  go_enter Try.func74, Try.ntmps74
  go_wp2_with fail
  generalize w.alloc (.cells #[.string ⟨nm.toArray⟩, .slice A n c] 64) = W at *
  have H0 : Hid (∀ i t, i < 0 → trs[i]? = some t → t.ts.n ≤ 220 ∧ t.up.n ≤ 220) := fun i t hi => absurd hi (by omega)
  go_loopg [3] 8 (fun gg i wr => ∃ k : Nat, gg = 8 - k ∧ k ≤ 7 ∧ k ≤ n ∧ i = .int .i64 k ∧ Hid (Bel W wr) ∧ Hid (∀ i t, i < k → trs[i]? = some t → t.ts.n ≤ 220 ∧ t.up.n ≤ 220))
  case atStart => exact ⟨0, rfl, by omega, by omega, rfl, Bel.refl _, H0⟩
  case round =>
    clear H0
    obtain ⟨k, hgk, hk7, hkn, rfl, hB, hA⟩ := hrel
    have Hgk := Lib.hid hgk
    clear hgk
    have x1' := (hB.out.cell (World.block_lt_of_cell? _ _ x1)).trans x1
    have Q1 := Lib.hid (Q0.out.bel hB.out)
    have x0' := Q1.out.cell 0
    simp only [List.getElem?_toArray, List.getElem?_cons_zero, List.getElem?_cons_succ] at x0'
    have HBW := Lib.hid (HW.out.trans hB.out)
    by_cases hlt : k < n ∧ k ≤ 6
    · obtain ⟨h1, h2⟩ := hlt
      obtain ⟨ba, oa, a, hAA, hba, hak, har, hra⟩ := (HD.out.mono HBW.out).tirAt (k := k) h1
      simp only at hAA
      subst hAA
      have RA := Lib.hid hra
      have HAk := Lib.hid hak
      have i0 : (0 : Int) ≤ k := by omega
      have i1 : (k : Int) < n := by omega
      have e1 : decide ((k : Int) ≤ 6) = true := by simp; omega
      clear hak hra
      go_wp2_with ((with_reducible show wpList _ _ _ (⟨some 19, _, _, _, _, _⟩ :: _) _ _); refine wpList_load_row_at rfl rowTir (.tmp 18) rfl ba (oa + k * 3) rfl a.cs rfl RA.out ?_)
      refine (trfew_any a _ har).mono ?_; rintro e w3 ⟨b, rfl, hfew, hb3⟩
      have B3 := Lib.hid (hB.out.trans hb3)
      have BW3 := Lib.hid (HBW.out.trans hb3)
      clear hb3
      cases b with
      | false =>
        clear hfew
        go_wp2
        go_ret
        exact ⟨false, rfl, (fun h => by cases h), BW3.out⟩
      | true =>
        have HN : Hid (∀ i t, i < k + 1 → trs[i]? = some t → t.ts.n ≤ 220 ∧ t.up.n ≤ 220) := by
          intro i t hi hit
          rcases (show i < k ∨ i = k by omega) with h | h
          · exact hA.out i t h hit
          · subst h
            rw [HAk.out] at hit
            injection hit with hit
            subst hit
            exact hfew rfl
        clear hfew
        go_wp2
        go_roundg (8 - (k + 1))
        case rel => exact ⟨k + 1, rfl, by omega, by omega, by go_num, B3, HN⟩
        case measure => rw [Hgk.out]; omega
    · have e0 : (decide ((k : Int) < n) = false ∧ decide (k < n) = false ∧ ¬ k < n) ∨ (decide ((k : Int) < n) = true ∧ decide (k < n) = true ∧ k < n ∧ decide ((k : Int) ≤ 6) = false) := by
        by_cases h : k < n
        · right
          refine ⟨by simp; omega, by simp; omega, h, by simp; omega⟩
        · left
          refine ⟨by simp; omega, by simp; omega, h⟩
      clear hlt
      have HALL : Hid (n ≤ 6 → k = n ∨ k < n → ¬ k < n → ∀ t ∈ trs, t.ts.n ≤ 220 ∧ t.up.n ≤ 220) := by
        intro h6 _ hkn2 t ht
        obtain ⟨i, hi⟩ := List.mem_iff_getElem?.1 ht
        have hil : i < trs.length := (List.getElem?_eq_some_iff.1 hi).1
        exact hA.out i t (by have := hlen.out; omega) hi
      rcases e0 with ⟨e0, e0', e0''⟩ | ⟨e0, e0', e0'', e1⟩
      · by_cases h1 : n ≤ 6
        · have f1 : decide ((n : Int) ≤ 6) = true := by simp; omega
          go_wp2
          go_ret
          exact ⟨_, rfl, fun _ => ⟨h1, HALL.out h1 (by omega) e0''⟩, HBW.out⟩
        · have f1 : decide ((n : Int) ≤ 6) = false := by simp; omega
          go_wp2
          go_ret
          exact ⟨false, rfl, (fun h => by cases h), HBW.out⟩
      · have f1 : decide ((n : Int) ≤ 6) = false := by simp; simp at e1; omega
        go_wp2
        go_ret
        exact ⟨false, rfl, (fun h => by cases h), HBW.out⟩

end Go.Proofs.Ytnekknemjhlgdaa
