/- The document's filter. -/
import Derived.Test.YtelnhhbefdfeoaaAskM
import Derived.Test.YtelnhhbefdfeoaaAskW
namespace Go.Proofs.Ytelnhhbefdfeoaa
open Go.RowKit
set_option linter.unusedVariables false
set_option linter.unusedSimpArgs false

set_option maxRecDepth 100000 in
set_option maxHeartbeats 1000000 in
theorem rfilter_any (d : Dm) (p : Pk) (w : World) (hd : d.rd w) (hp : p.rd w) (hs : p.set.n ≤ 100000) :
    Calls Try.prog 45 #[.agg d.cs, .agg p.cs] w fun e w' => e = .returned (.int .i64 (filtErr d.con p.con)) ∧ Bel w w' := by
  have HP := Lib.hid hp.set
  have HD := Lib.hid hd.tr
  have hl : Hid (d.tr.l.length = d.tr.n) := hd.tr.len
  have hsl : Hid (p.set.l.length = p.set.n) := hp.set.len
  have n63 := hd.tr.n63
  have s63 := hp.set.n63
  have l63 := hp.lo
  have h63 := hp.hi
  have H := Lib.hid (((SL.start No w).alloc d.cs 66).alloc p.cs 59)
  (try simp only [List.set_cons_zero, List.set_cons_succ, List.cons_append, List.nil_append, List.eraseIdx_cons_zero, List.eraseIdx_cons_succ, List.setIfInBounds_toArray, World.size_alloc, selR, List.getD_cons_zero, List.getD_cons_succ] at H)
  obtain ⟨pf, pt, lo, hi, ⟨A, n, c, set⟩, g, pb⟩ := p
  obtain ⟨nm, ⟨A2, n2, cp2, trs⟩⟩ := d
  simp only [Pk.cs, Pk.con, Dm.cs, Dm.con] at *
  clear hp hd
  have c0 := (H.out.blk 1 rfl).cell 0; simp only [List.getElem?_toArray, List.getElem?_cons_zero, List.getElem?_cons_succ] at c0
  have c1 := (H.out.blk 1 rfl).cell 1; simp only [List.getElem?_toArray, List.getElem?_cons_zero, List.getElem?_cons_succ] at c1
  have c2 := (H.out.blk 1 rfl).cell 2; simp only [List.getElem?_toArray, List.getElem?_cons_zero, List.getElem?_cons_succ] at c2
  have c3 := (H.out.blk 1 rfl).cell 3; simp only [List.getElem?_toArray, List.getElem?_cons_zero, List.getElem?_cons_succ] at c3
  have c4 := (H.out.blk 1 rfl).cell 4; simp only [List.getElem?_toArray, List.getElem?_cons_zero, List.getElem?_cons_succ] at c4
  have c5 := (H.out.blk 0 rfl).cell 1; simp only [List.getElem?_toArray, List.getElem?_cons_zero, List.getElem?_cons_succ] at c5
  by_cases h0 : pf = 0
  · subst h0
    by_cases ht : pt = 0
    · subst ht
      cases lo with
      | cons a r =>
        have HE : Hid (filtErr ⟨nm, trs.map Tir.con⟩ ⟨0, 0, a :: r, hi, set, g, pb⟩ = 2) := by show _ = _; unfold filtErr; rw [if_pos rfl, if_neg (by simp)]
        go_enter Try.func45, Try.ntmps45
        go_wp2
        go_ret
        rw [HE.out]
        exact ⟨rfl, H.out.to⟩
      | nil =>
        cases hi with
        | cons a r =>
          have HE : Hid (filtErr ⟨nm, trs.map Tir.con⟩ ⟨0, 0, [], a :: r, set, g, pb⟩ = 2) := by show _ = _; unfold filtErr; rw [if_pos rfl, if_neg (by simp)]
          go_enter Try.func45, Try.ntmps45
          go_wp2
          go_ret
          rw [HE.out]
          exact ⟨rfl, H.out.to⟩
        | nil =>
          by_cases hn : n = 0
          · have HE : Hid (filtErr ⟨nm, trs.map Tir.con⟩ ⟨0, 0, [], [], set, g, pb⟩ = 0) := by show _ = _; unfold filtErr; rw [if_pos rfl, if_pos ⟨rfl, rfl, rfl, by have := hsl.out; simp only; omega⟩]
            subst hn
            go_enter Try.func45, Try.ntmps45
            go_wp2
            go_ret
            rw [HE.out]
            exact ⟨rfl, H.out.to⟩
          · have HE : Hid (filtErr ⟨nm, trs.map Tir.con⟩ ⟨0, 0, [], [], set, g, pb⟩ = 2) := by show _ = _; unfold filtErr; rw [if_pos rfl, if_neg (fun h => hn (by have := hsl.out; have := h.2.2.2; simp only at this; omega))]
            have d1 : decide ((0 : Int) < (n : Int)) = true := by simp <;> omega
            go_enter Try.func45, Try.ntmps45
            go_wp2
            go_ret
            rw [HE.out]
            exact ⟨rfl, H.out.to⟩
    · have z1 : (pt == 0) = false := by simpa using ht
      have z2 : (pt != 0) = true := by simpa using ht
      have HE : Hid (filtErr ⟨nm, trs.map Tir.con⟩ ⟨0, pt, lo, hi, set, g, pb⟩ = 2) := by show _ = _; unfold filtErr; rw [if_pos rfl, if_neg (fun h => ht h.1)]
      go_enter Try.func45, Try.ntmps45
      go_wp2
      go_ret
      rw [HE.out]
      exact ⟨rfl, H.out.to⟩
  · have z0 : (pf == 0) = false := by simpa using h0
    by_cases h12 : pf = 1 ∨ pf = 2
    · have HE0 : Hid (filtErr ⟨nm, trs.map Tir.con⟩ ⟨pf, pt, lo, hi, set, g, pb⟩ = if 0 ≤ pt then (match (trs.map Tir.con)[pt.toNat]? with | none => 2 | some tr => if pf = 1 then betErr ⟨pf, pt, lo, hi, set, g, pb⟩ else amgErr tr.ts ⟨pf, pt, lo, hi, set, g, pb⟩) else 2) := by
        show _ = _; unfold filtErr; rw [if_neg h0, if_pos h12]; rfl
      by_cases hp0 : pt < 0
      · have d1 : decide (pt < 0) = true := by simpa using hp0
        have HE : Hid (filtErr ⟨nm, trs.map Tir.con⟩ ⟨pf, pt, lo, hi, set, g, pb⟩ = 2) := by show _ = _; rw [HE0.out, if_neg (by omega)]
        clear HE0
        rcases h12 with h1 | h1
        · subst h1
          go_enter Try.func45, Try.ntmps45
          go_wp2
          go_ret
          rw [HE.out]
          exact ⟨rfl, H.out.to⟩
        · subst h1
          go_enter Try.func45, Try.ntmps45
          go_wp2
          go_ret
          rw [HE.out]
          exact ⟨rfl, H.out.to⟩
      · have d1 : decide (pt < 0) = false := by simpa using hp0
        by_cases hpn : pt < n2
        · have d2 : decide ((n2 : Int) ≤ pt) = false := by simp <;> omega
          obtain ⟨t, rfl⟩ : ∃ k : Nat, pt = k := ⟨pt.toNat, by omega⟩
          have htn : t < n2 := by omega
          obtain ⟨bb, oo, T, hA, hbb, hTk, hTr, hrg⟩ := (HD.out.mono H.out.to).tirAt (k := t) htn
          simp only at hA
          subst hA
          have hTc : (trs.map Tir.con)[t]? = some T.con := by rw [List.getElem?_map, hTk]; rfl
          have HE1 : Hid (filtErr ⟨nm, trs.map Tir.con⟩ ⟨pf, t, lo, hi, set, g, pb⟩ = if pf = 1 then betErr ⟨pf, t, lo, hi, set, g, pb⟩ else amgErr T.ts.l ⟨pf, t, lo, hi, set, g, pb⟩) := by
            show _ = _; rw [HE0.out, if_pos (by omega), Int.toNat_natCast, hTc]
          have i0 : (0 : Int) ≤ t := by omega
          have i1 : (t : Int) < n2 := by omega
          have HTr := Lib.hid hTr.ts
          have hq := hrg 1 _ rfl
          clear HE0 hTk hrg hTc hTr hbb
          rcases h12 with h1 | h1
          · subst h1
            have HE2 : Hid (filtErr ⟨nm, trs.map Tir.con⟩ ⟨1, t, lo, hi, set, g, pb⟩ = betErr ⟨1, t, lo, hi, set, g, pb⟩) := by show _ = _; rw [HE1.out, if_pos rfl]
            clear HE1 hq
            by_cases hn : n = 0
            · have hs0 : ¬ 0 < set.length := by have := hsl.out; omega
              subst hn
              by_cases h1 : 16 < lo.length
              · have e1 : decide ((16 : Int) < (lo.length : Int)) = true := by simp <;> omega
                have HE : Hid (filtErr ⟨nm, trs.map Tir.con⟩ ⟨1, t, lo, hi, set, g, pb⟩ = 5) := by show _ = _; rw [HE2.out]; unfold betErr; rw [if_neg hs0, if_pos (.inl h1)]
                go_enter Try.func45, Try.ntmps45
                go_wp2
                go_ret
                rw [HE.out]
                exact ⟨rfl, H.out.to⟩
              · have e1 : decide ((16 : Int) < (lo.length : Int)) = false := by simp <;> omega
                by_cases h2 : 16 < hi.length
                · have e2 : decide ((16 : Int) < (hi.length : Int)) = true := by simp <;> omega
                  have HE : Hid (filtErr ⟨nm, trs.map Tir.con⟩ ⟨1, t, lo, hi, set, g, pb⟩ = 5) := by show _ = _; rw [HE2.out]; unfold betErr; rw [if_neg hs0, if_pos (.inr h2)]
                  go_enter Try.func45, Try.ntmps45
                  go_wp2
                  go_ret
                  rw [HE.out]
                  exact ⟨rfl, H.out.to⟩
                · have e2 : decide ((16 : Int) < (hi.length : Int)) = false := by simp <;> omega
                  have HE : Hid (filtErr ⟨nm, trs.map Tir.con⟩ ⟨1, t, lo, hi, set, g, pb⟩ = 0) := by show _ = _; rw [HE2.out]; unfold betErr; rw [if_neg hs0, if_neg (by simp only; omega)]
                  go_enter Try.func45, Try.ntmps45
                  go_wp2
                  go_ret
                  rw [HE.out]
                  exact ⟨rfl, H.out.to⟩
            · have e1 : decide ((0 : Int) < (n : Int)) = true := by simp <;> omega
              have HE : Hid (filtErr ⟨nm, trs.map Tir.con⟩ ⟨1, t, lo, hi, set, g, pb⟩ = 2) := by show _ = _; rw [HE2.out]; unfold betErr; rw [if_pos (by have := hsl.out; simp only; omega)]
              go_enter Try.func45, Try.ntmps45
              go_wp2
              go_ret
              rw [HE.out]
              exact ⟨rfl, H.out.to⟩
          · subst h1
            have HE2 : Hid (filtErr ⟨nm, trs.map Tir.con⟩ ⟨2, t, lo, hi, set, g, pb⟩ = amgErr T.ts.l ⟨2, t, lo, hi, set, g, pb⟩) := by show _ = _; rw [HE1.out, if_neg (by omega)]
            clear HE1
            cases lo with
            | cons a r =>
              have HE : Hid (filtErr ⟨nm, trs.map Tir.con⟩ ⟨2, t, a :: r, hi, set, g, pb⟩ = 2) := by show _ = _; rw [HE2.out]; unfold amgErr; rw [if_neg (by simp)]
              go_enter Try.func45, Try.ntmps45
              go_wp2
              go_ret
              rw [HE.out]
              exact ⟨rfl, H.out.to⟩
            | nil =>
              cases hi with
              | cons a r =>
                have HE : Hid (filtErr ⟨nm, trs.map Tir.con⟩ ⟨2, t, [], a :: r, set, g, pb⟩ = 2) := by show _ = _; rw [HE2.out]; unfold amgErr; rw [if_neg (by simp)]
                go_enter Try.func45, Try.ntmps45
                go_wp2
                go_ret
                rw [HE.out]
                exact ⟨rfl, H.out.to⟩
              | nil =>
                have HE3 : Hid (filtErr ⟨nm, trs.map Tir.con⟩ ⟨2, t, [], [], set, g, pb⟩ = if rowErr set ≠ 0 then rowErr set else memErr T.ts.l (set.drop 0)) := by show _ = _; rw [HE2.out]; unfold amgErr; rw [if_pos ⟨rfl, rfl⟩]; rfl
                clear HE2
                go_enter Try.func45, Try.ntmps45
                go_wp2_with fail
                refine (rtrow_any A n c set _ (HP.out.mono H.out.to).texts (HP.out.mono H.out.to).txok hs).mono ?_; rintro e w1 ⟨rfl, hb1⟩
                have hq1 := (hb1.cell (World.block_lt_of_cell? _ _ hq)).trans hq
                replace H := Lib.hid (H.out.bel hb1); (try simp only [List.set_cons_zero, List.set_cons_succ, List.cons_append, List.nil_append, List.eraseIdx_cons_zero, List.eraseIdx_cons_succ, List.setIfInBounds_toArray, World.size_alloc, selR, List.getD_cons_zero, List.getD_cons_succ] at H)
                replace HTr := Lib.hid (HTr.out.mono hb1)
                clear c0 c1 c2 c3 c4 c5 hb1 hq
                have c4 := (H.out.blk 1 rfl).cell 4; simp only [List.getElem?_toArray, List.getElem?_cons_zero, List.getElem?_cons_succ] at c4
                by_cases hE : rowErr set = 0
                · have HE1 : Hid (filtErr ⟨nm, trs.map Tir.con⟩ ⟨2, t, [], [], set, g, pb⟩ = memErr T.ts.l (set.drop 0)) := by show _ = _; rw [HE3.out, if_neg (by omega)]
                  rw [hE]
                  clear HE3 hE
                  go_wp2_with fail
                  have hbl := World.block_lt_of_cell? _ _ hq1
                  clear c4
                  generalize w.heap.size + 1 = y at *
                  generalize w.heap.size = x at *
                  have HB1 : Hid (Bel w1 w1) := Bel.refl _
                  go_loopg [85] n (fun gg i wr => ∃ k : Nat, gg = n - k ∧ k ≤ n ∧ i = .int .i64 k ∧ Hid (Bel w1 wr) ∧ Hid (SL No w wr [rBlk x 66 #[.string ⟨nm.toArray⟩, .slice (some ⟨bb, oo, none⟩) n2 cp2], rBlk y 59 #[.int .i64 2, .int .i64 t, .string ⟨#[]⟩, .string ⟨#[]⟩, .slice A n c, .bool g, .int .i64 pb]]) ∧ Hid (filtErr ⟨nm, trs.map Tir.con⟩ ⟨2, t, [], [], set, g, pb⟩ = memErr T.ts.l (set.drop k)))
                  case atStart => exact ⟨0, rfl, by omega, rfl, HB1, H, HE1⟩
                  case round =>
                    clear H HE1 HB1
                    obtain ⟨k, hgk, hk, rfl, HB, H, HE⟩ := hrel
                    have Hgk := Lib.hid hgk
                    clear hgk
                    by_cases hlt : k < n
                    · obtain ⟨b3, o3, s, hA, hsk, hsl2, q1⟩ := (HP.out.mono H.out.to).textAt (k := k) hlt
                      simp only at hA
                      subst hA
                      have HSt := Lib.hid (memErr_drop (tr := T.ts.l) hsk)
                      have j0 : (0 : Int) ≤ k := by omega
                      have j1 : (k : Int) < n := by omega
                      have c1 := (H.out.blk 1 rfl).cell 1; simp only [List.getElem?_toArray, List.getElem?_cons_zero, List.getElem?_cons_succ] at c1
                      have c5 := (H.out.blk 0 rfl).cell 1; simp only [List.getElem?_toArray, List.getElem?_cons_zero, List.getElem?_cons_succ] at c5
                      have q2 := (HB.out.cell hbl).trans hq1
                      clear hsk
                      go_wp2_with fail
                      refine (rat_any T.ts s _ (HTr.out.mono HB.out)).mono ?_; rintro e w2 ⟨rfl, rfl⟩
                      clear c1 c5 q1 q2
                      cases hP : posOf s T.ts.l with
                      | none =>
                        have HN : Hid (filtErr ⟨nm, trs.map Tir.con⟩ ⟨2, t, [], [], set, g, pb⟩ = 13) := by show _ = _; rw [HE.out, HSt.out, hP]
                        have hAt : atOf s T.ts.l = -1 := by unfold atOf; rw [hP]
                        rw [hAt]
                        clear HE HSt hP hAt
                        go_wp2
                        go_ret
                        rw [HN.out]
                        exact ⟨rfl, H.out.to⟩
                      | some p =>
                        have HN : Hid (filtErr ⟨nm, trs.map Tir.con⟩ ⟨2, t, [], [], set, g, pb⟩ = memErr T.ts.l (set.drop (k + 1))) := by show _ = _; rw [HE.out, HSt.out, hP]
                        have hAt : atOf s T.ts.l = (p : Int) := by unfold atOf; rw [hP]
                        have z1 : decide ((p : Int) < 0) = false := by simp <;> omega
                        rw [hAt]
                        clear HE HSt hP hAt
                        go_wp2
                        go_roundg (n - (k + 1))
                        case rel => exact ⟨k + 1, rfl, by omega, by go_num, HB, H, HN⟩
                        case measure => rw [Hgk.out]; omega
                    · have HN : Hid (filtErr ⟨nm, trs.map Tir.con⟩ ⟨2, t, [], [], set, g, pb⟩ = 0) := by show _ = _; rw [HE.out, List.drop_of_length_le (by have := hsl.out; omega)]; rfl
                      clear HE
                      go_wp2
                      go_ret
                      rw [HN.out]
                      exact ⟨rfl, H.out.to⟩
                · have HE1 : Hid (filtErr ⟨nm, trs.map Tir.con⟩ ⟨2, t, [], [], set, g, pb⟩ = rowErr set) := by show _ = _; rw [HE3.out, if_pos hE]
                  have z1 : (rowErr set != 0) = true := by simpa using hE
                  have z2 : (rowErr set == 0) = false := by simpa using hE
                  clear HE3 hE
                  go_wp2
                  go_ret
                  rw [HE1.out]
                  exact ⟨rfl, H.out.to⟩
        · have d2 : decide ((n2 : Int) ≤ pt) = true := by simp <;> omega
          have HE : Hid (filtErr ⟨nm, trs.map Tir.con⟩ ⟨pf, pt, lo, hi, set, g, pb⟩ = 2) := by
            show _ = _; rw [HE0.out, if_pos (by omega), List.getElem?_eq_none (by have := hl.out; simp only [List.length_map] at this ⊢; omega)]
          clear HE0
          rcases h12 with h1 | h1
          · subst h1
            go_enter Try.func45, Try.ntmps45
            go_wp2
            go_ret
            rw [HE.out]
            exact ⟨rfl, H.out.to⟩
          · subst h1
            go_enter Try.func45, Try.ntmps45
            go_wp2
            go_ret
            rw [HE.out]
            exact ⟨rfl, H.out.to⟩
    · have z1 : (pf == 1) = false := by simp <;> omega
      have z2 : (pf == 2) = false := by simp <;> omega
      have z3 : (pf != 1) = true := by simp <;> omega
      have z4 : (pf != 2) = true := by simp <;> omega
      have HE : Hid (filtErr ⟨nm, trs.map Tir.con⟩ ⟨pf, pt, lo, hi, set, g, pb⟩ = 2) := by show _ = _; unfold filtErr; rw [if_neg h0, if_neg h12]
      go_enter Try.func45, Try.ntmps45
      go_wp2
      go_ret
      rw [HE.out]
      exact ⟨rfl, H.out.to⟩

end Go.Proofs.Ytelnhhbefdfeoaa
