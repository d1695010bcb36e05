/- The document's Few, with the sum that it bounds. -/
import Derived.Test.YtlclllkjnhgbjaaAreN
namespace Go.Proofs.Ytlclllkjnhgbjaa
open Go.RowKit
set_option linter.unusedVariables false
set_option linter.unusedSimpArgs false

/-- Few, with the sum that it bounds. -/
def ncs (t : Nd) : Nat := (t.ls.l.map fun y => min y.n 10000).sum
def FewT (l : Row Nd) (most : Int) : Prop := FewN l most ∧ (l.l.map ncs).sum ≤ 2000
theorem sum_take {α : Type} {l : List α} {k : Nat} {t : α} (f : α → Nat) (h : l[k]? = some t) : ((l.take (k + 1)).map f).sum = ((l.take k).map f).sum + f t := by
  rw [List.take_add_one, h, List.map_append, List.sum_append]
  simp
set_option maxRecDepth 100000 in
set_option maxHeartbeats 2000000 in
theorem few24s_any (l : Row Nd) (most : Nat) (w : World) (hl : l.rd w) (hm : most ≤ 1000000) :
    Calls Try.prog 10 #[.slice l.A l.n l.c, .int .i64 most] w (FewPost (FewT l most) w) := by
  have HL := Lib.hid (fun w' (h : Bel w w') => hl.mono h)
  have hll : Hid (l.l.length = l.n) := hl.len
  have n63 := hl.n63
  have H := Lib.hid (SL.start No w)
  obtain ⟨A, n, c, ns⟩ := l
  simp only at *
  clear hl
  go_enter Try.func10, Try.ntmps10
  go_upto_region 3 with fail
  have HSA : Hid (((ns.take 0).map ncs).sum = 0) := rfl
  have HA : Hid (∀ j t, j < 0 → ns[j]? = some t → t.ls.n ≤ 10 ∧ ∀ y ∈ t.ls.l, min y.n 10000 ≤ 0) := fun j t hj => absurd hj (by omega)
  go_loopg [5, 6] n (fun gg s5 s6 wr => ∃ (k a : Nat), gg = n - k ∧ k ≤ n ∧ k ≤ most + 1 ∧ s5 = .int .i64 a ∧ s6 = .int .i64 k ∧ a ≤ k * 110000 ∧ Hid (SL No w wr []) ∧ Hid (∀ j t, j < k → ns[j]? = some t → t.ls.n ≤ 10 ∧ ∀ y ∈ t.ls.l, min y.n 10000 ≤ a) ∧ Hid (((ns.take k).map ncs).sum = a))
  case atStart => exact ⟨0, 0, rfl, by omega, by omega, rfl, rfl, by omega, H, HA, HSA⟩
  case round =>
    clear H HA HSA
    obtain ⟨k, a, hgk, hk, hkm, rfl, rfl, hak, H, HA, HSA⟩ := hrel
    have Hgk := Lib.hid hgk
    clear hgk
    by_cases hlt : k < n ∧ k ≤ most
    · obtain ⟨h1, h2⟩ := hlt
      have e1 : decide ((k : Int) ≤ (most : Int)) = true := by simp <;> omega
      have e1n : decide (k ≤ most) = true := by simp <;> omega
      have e2 : decide ((k : Int) < (n : Int)) = true := by simp <;> omega
      have e2n : decide (k < n) = true := by simp <;> omega
      obtain ⟨bl, ol, t, hAl, hbl, htk, htr, hrg⟩ := (HL.out _ H.out.to).ndAt (k := k) h1
      simp only at hAl
      have ct : wr.cell? ⟨bl, ol + k * 14 + 1, none⟩ = some (.slice t.ls.A t.ls.n t.ls.c) := hrg 1 _ rfl
      have HCT := Lib.hid (fun w' (h : Bel wr w') => (h.cell (p := ⟨bl, ol + k * 14 + 1, none⟩) (World.block_lt_of_cell? _ _ ct)).trans ct)
      have HT := Lib.hid (fun w' (h : Bel wr w') => htr.ls.mono h)
      have htl : Hid (t.ls.l.length = t.ls.n) := htr.ls.len
      have t63 := htr.ls.n63
      have HTK := Lib.hid htk
      have HAL := Lib.hid hAl
      have i0 : (0 : Int) ≤ k := by omega
      have i1 : (k : Int) < n := by omega
      clear hbl htk htr hrg ct
      rw [hAl]
      clear hAl
      go_upto_region 6 with fail
      obtain ⟨W0, hW0⟩ : ∃ W0, W0 = wr := ⟨_, rfl⟩
      subst hW0
      have HB0 : Hid (Bel W0 W0) := Bel.refl _
      have HSY : Hid (a + ((t.ls.l.take 0).map fun y => min y.n 10000).sum = a) := rfl
      have HY : Hid (∀ j y, j < 0 → t.ls.l[j]? = some y → min y.n 10000 ≤ a) := fun j y hj => absurd hj (by omega)
      clear e1 e1n e2 e2n
      go_loopg [5, 7] t.ls.n (fun gg s5 s7 wx => ∃ (j z : Nat), gg = t.ls.n - j ∧ j ≤ t.ls.n ∧ j ≤ 11 ∧ s5 = .int .i64 z ∧ s7 = .int .i64 j ∧ z ≤ k * 110000 + j * 10000 ∧ a ≤ z ∧ Hid (Bel W0 wx) ∧ Hid (SL No w wx []) ∧ Hid (∀ i y, i < j → t.ls.l[i]? = some y → min y.n 10000 ≤ z) ∧ Hid (a + ((t.ls.l.take j).map fun y => min y.n 10000).sum = z))
      case atStart => exact ⟨0, a, rfl, by omega, by omega, rfl, rfl, Nat.le_trans hak (Nat.le_add_right _ _), Nat.le_refl _, HB0, H, HY, HSY⟩
      case round =>
        clear H HB0 HY HSY
        obtain ⟨j, z, hgj, hj, hj11, rfl, rfl, hz, haz, HB0, H, HY, HSY⟩ := hrel
        have Hgj := Lib.hid hgj
        clear hgj
        have ct := HCT.out _ HB0.out
        by_cases hjlt : j < t.ls.n ∧ j ≤ 10
        · obtain ⟨g1, g2⟩ := hjlt
          have d1 : decide ((j : Int) ≤ 10) = true := by simp <;> omega
          have d2 : decide ((j : Int) < (t.ls.n : Int)) = true := by simp <;> omega
          have d2n : decide (j < t.ls.n) = true := by simp <;> omega
          obtain ⟨b4, o4, y, hA4, hyk, hyok, hr4⟩ := (HT.out _ HB0.out).clsAt (k := j) g1
          have y63 := rdCls hyok
          have HYK := Lib.hid hyk
          have j0 : (0 : Int) ≤ j := by omega
          have j1 : (j : Int) < t.ls.n := by omega
          rw [hA4] at ct
          have hmin : ∃ q : Nat, (min (y.n : Int) 10000) = q ∧ q ≤ 10000 ∧ min y.n 10000 = q := ⟨min y.n 10000, by omega, by omega, rfl⟩
          obtain ⟨qq, hq, hq2, hq3⟩ := hmin
          have HQ := Lib.hid hq
          have HY2 : Hid (∀ i y, i < j + 1 → t.ls.l[i]? = some y → min y.n 10000 ≤ z + qq) := fun i y' hi hy => by
            rcases (show i < j ∨ i = j by omega) with h | h
            · have := HY.out i y' h hy; omega
            · subst h
              rw [HYK.out] at hy
              injection hy with hy
              subst hy
              omega
          have HSY2 : Hid (a + ((t.ls.l.take (j + 1)).map fun y => min y.n 10000).sum = z + qq) := by
            show _ = _
            rw [sum_take _ hyk, ← Nat.add_assoc, HSY.out, hq3]
          clear hyk hyok hq hq3 HY HSY
          go_wp2
          rw [HQ.out]
          clear d1 d2 d2n
          go_roundg (t.ls.n - (j + 1))
          case rel => exact ⟨j + 1, z + qq, rfl, by omega, by omega, by go_num, by go_num, by omega, by omega, HB0, H, HY2, HSY2⟩
          case measure => rw [Hgj.out]; omega
        · by_cases g0 : t.ls.n ≤ 10
          · obtain rfl : j = t.ls.n := by omega
            have d0 : decide ((t.ls.n : Int) < (t.ls.n : Int)) = false := by simp
            have d1 : decide ((10 : Int) < (t.ls.n : Int)) = false := by simp <;> omega
            have d1n : decide (10 < t.ls.n) = false := by simp <;> omega
            have HN : Hid (∀ i u, i < k + 1 → ns[i]? = some u → u.ls.n ≤ 10 ∧ ∀ y ∈ u.ls.l, min y.n 10000 ≤ z) := fun i u hi hu => by
              rcases (show i < k ∨ i = k by omega) with h | h
              · have h3 := HA.out i u h hu
                exact ⟨h3.1, fun y hy => by have := h3.2 y hy; omega⟩
              · subst h
                rw [HTK.out] at hu
                injection hu with hu
                subst hu
                refine ⟨g0, fun y hy => ?_⟩
                obtain ⟨q, hq⟩ := List.mem_iff_getElem?.1 hy
                exact HY.out q y (by have := (List.getElem?_eq_some_iff.1 hq).1; rw [htl.out] at this; exact this) hq
            have HSA2 : Hid (((ns.take (k + 1)).map ncs).sum = z) := by
              show _ = _
              rw [sum_take _ HTK.out, HSA.out]
              have h5 := HSY.out
              rw [List.take_of_length_le (by rw [htl.out]; exact Nat.le_refl _)] at h5
              exact h5
            clear HY HA hjlt HSY HSA
            go_wp2_with fail
            rw [← HAL.out]
            clear d0 d1 d1n ct
            go_roundg (n - (k + 1))
            case rel => exact ⟨k + 1, z, rfl, by omega, by omega, rfl, by go_num, by omega, H, HN, HSA2⟩
            case measure => rw [Hgk.out]; omega
          · have hj11' : j = 11 ∨ j = t.ls.n := by omega
            have d0 : (decide ((j : Int) < (t.ls.n : Int)) = false ∧ decide (j < t.ls.n) = false) ∨ (decide ((j : Int) < (t.ls.n : Int)) = true ∧ decide (j < t.ls.n) = true ∧ decide ((j : Int) ≤ 10) = false) := by
              by_cases h : j < t.ls.n
              · right
                refine ⟨by simp <;> omega, by simp <;> omega, by simp <;> omega⟩
              · left
                refine ⟨by simp <;> omega, by simp <;> omega⟩
            have d1 : decide ((10 : Int) < (t.ls.n : Int)) = true := by simp <;> omega
            have d1n : decide (10 < t.ls.n) = true := by simp <;> omega
            clear HY HA HSY HSA hjlt hj11' g0
            rcases d0 with ⟨d2, d3⟩ | ⟨d2, d3, d4⟩
            · go_wp2_with fail
              go_ret
              exact ⟨false, rfl, (fun h => by cases h), H.out.to⟩
            · go_wp2_with fail
              go_ret
              exact ⟨false, rfl, (fun h => by cases h), H.out.to⟩
    · have d0 : (decide ((k : Int) < (n : Int)) = false ∧ decide (k < n) = false) ∨ (decide ((k : Int) < (n : Int)) = true ∧ decide (k < n) = true ∧ decide ((k : Int) ≤ (most : Int)) = false ∧ decide (k ≤ most) = false) := by
        by_cases h : k < n
        · right
          refine ⟨by simp <;> omega, by simp <;> omega, by simp <;> omega, by simp <;> omega⟩
        · left
          refine ⟨by simp <;> omega, by simp <;> omega⟩
      have HV : Hid (n ≤ most → a ≤ 2000 → FewT ⟨A, n, c, ns⟩ most) := fun h1 h2 => by
        obtain rfl : k = n := by omega
        refine ⟨⟨by simp only; omega, fun t ht => ?_⟩, ?_⟩
        rotate_left
        · have h5 := HSA.out
          rw [List.take_of_length_le (by rw [hll.out]; exact Nat.le_refl _)] at h5
          show (ns.map ncs).sum ≤ 2000
          omega
        obtain ⟨q, hq⟩ := List.mem_iff_getElem?.1 ht
        have h3 := HA.out q t (by have := (List.getElem?_eq_some_iff.1 hq).1; rw [hll.out] at this; exact this) hq
        exact ⟨h3.1, fun y hy => by have := h3.2 y hy; omega⟩
      clear HA HSA hlt
      by_cases g1 : n ≤ most
      · have f1 : decide ((n : Int) ≤ (most : Int)) = true := by simp <;> omega
        have f1n : decide (n ≤ most) = true := by simp <;> omega
        have HV2 := Lib.hid (HV.out g1)
        by_cases g2 : a ≤ 2000
        · have f2 : decide ((a : Int) ≤ 2000) = true := by simp <;> omega
          have HV3 := Lib.hid (HV2.out g2)
          clear HV HV2 g1 g2
          rcases d0 with ⟨d2, d3⟩ | ⟨d2, d3, d4, d5⟩
          · go_wp2_with fail
            go_ret
            exact ⟨true, rfl, (fun _ => HV3.out), H.out.to⟩
          · go_wp2_with fail
            go_ret
            exact ⟨true, rfl, (fun _ => HV3.out), H.out.to⟩
        · have f2 : decide ((a : Int) ≤ 2000) = false := by simp <;> omega
          clear HV HV2 g1 g2
          rcases d0 with ⟨d2, d3⟩ | ⟨d2, d3, d4, d5⟩
          · go_wp2_with fail
            go_ret
            exact ⟨false, rfl, (fun h => by cases h), H.out.to⟩
          · go_wp2_with fail
            go_ret
            exact ⟨false, rfl, (fun h => by cases h), H.out.to⟩
      · have f1 : decide ((n : Int) ≤ (most : Int)) = false := by simp <;> omega
        have f1n : decide (n ≤ most) = false := by simp <;> omega
        clear HV g1
        rcases d0 with ⟨d2, d3⟩ | ⟨d2, d3, d4, d5⟩
        · go_wp2_with fail
          go_ret
          exact ⟨false, rfl, (fun h => by cases h), H.out.to⟩
        · go_wp2_with fail
          go_ret
          exact ⟨false, rfl, (fun h => by cases h), H.out.to⟩

end Go.Proofs.Ytlclllkjnhgbjaa
