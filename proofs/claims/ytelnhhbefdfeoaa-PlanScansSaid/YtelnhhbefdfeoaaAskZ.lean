/- Queries in the document: Same (of two that are), Few. -/
import Derived.Test.YtelnhhbefdfeoaaAskT
namespace Go.Proofs.Ytelnhhbefdfeoaa
open Go.RowKit
set_option linter.unusedVariables false
set_option linter.unusedSimpArgs false

/-- What Few lets through. -/
def FewQ (q : Qr) : Prop := q.ps.n ≤ 20 ∧ ∀ p ∈ q.ps.l, p.set.n ≤ 250
theorem FewQ.set {q : Qr} (h : FewQ q) : ∀ p ∈ q.ps.l, p.set.n ≤ 100000 := fun p hp => by have := h.2 p hp; omega
set_option maxRecDepth 100000 in
set_option maxHeartbeats 2000000 in
theorem askfew_any (q : Qr) (w : World) (hq : q.rd w) :
    Calls Try.prog 22 #[.agg q.cs] w (FewPost (FewQ q) w) := by
  have HQ := Lib.hid (show q.ps.rd w from hq)
  have hl1 : Hid (q.ps.l.length = q.ps.n) := Row.rd.len hq
  have n63 : q.ps.n ≤ 9223372036854775807 := hq.n63
  have H := Lib.hid ((SL.start No w).alloc q.cs 52)
  (try simp only [List.set_cons_zero, List.set_cons_succ, List.cons_append, List.nil_append, List.eraseIdx_cons_zero, List.eraseIdx_cons_succ, List.setIfInBounds_toArray, World.size_alloc, selR, List.getD_cons_zero, List.getD_cons_succ] at H)
  obtain ⟨⟨A, n, c, ps⟩⟩ := q
  simp only [Qr.cs] at *
  clear hq
  go_enter Try.func22, Try.ntmps22
  go_wp2_with fail
  generalize w.heap.size = x at *
  generalize World.alloc w _ = w1 at *
  have HA : Hid (∀ i p, i < 0 → ps[i]? = some p → p.set.n ≤ 250) := fun i t hi => absurd hi (by omega)
  go_loopg [3, 4] 22 (fun gg s3 s4 wr => ∃ (k sm : Nat), gg = 22 - k ∧ k ≤ 21 ∧ k ≤ n ∧ s4 = .int .i64 k ∧ s3 = .int .i64 sm ∧ sm ≤ 254000 * k ∧ Hid (SL No w wr [rBlk x 52 #[.slice A n c]]) ∧ Hid (∀ i p, i < k → ps[i]? = some p → p.set.n ≤ 250))
  case atStart => exact ⟨0, 0, rfl, by omega, by omega, rfl, rfl, by omega, H, HA⟩
  case round =>
    clear H HA
    obtain ⟨k, sm, hgk, hk21, hkn, rfl, rfl, hsm, H, HA⟩ := hrel
    obtain ⟨W0, hW0⟩ : ∃ W0, W0 = wr := ⟨_, rfl⟩
    subst hW0
    have Hgk := Lib.hid hgk
    clear hgk
    have cc0 := (H.out.blk 0 rfl).cell 0; simp only [List.getElem?_toArray, List.getElem?_cons_zero, List.getElem?_cons_succ] at cc0
    by_cases hlt : k < n ∧ k ≤ 20
    · obtain ⟨h1, h2⟩ := hlt
      have e1 : decide ((k : Int) ≤ 20) = true := by simp <;> omega
      obtain ⟨bb, oo, p, hA, hbb, hpk, hpr, hrg⟩ := (HQ.out.mono H.out.to).pkAt (k := k) h1
      simp only at hA
      subst hA
      have HPK := Lib.hid hpk
      have s63 := hpr.set.n63
      have HX := Lib.hid (fun w' (hb : Bel W0 w') => hpr.set.mono hb)
      have HC := Lib.hid (fun w' (hb : Bel W0 w') (o : Nat) v (h : p.cs.toList[o]? = some v) => (hb.cell hbb).trans (hrg o v h))
      have i0 : (0 : Int) ≤ k := by omega
      have i1 : (k : Int) < n := by omega
      clear hpk hpr hrg
      obtain ⟨pf, pt, lo, hi, ⟨A3, n3, c3, set⟩, g, pb⟩ := p
      simp only [Pk.cs] at *
      have r2 := HC.out W0 (Bel.refl _) 2 _ rfl
      have r3 := HC.out W0 (Bel.refl _) 3 _ rfl
      obtain ⟨q1, hq1, hq12⟩ : ∃ q : Nat, (min (lo.length : Int) 1000) = q ∧ q ≤ 1000 := ⟨min lo.length 1000, by omega, by omega⟩
      obtain ⟨q2, hq2, hq22⟩ : ∃ q : Nat, (min (hi.length : Int) 1000) = q ∧ q ≤ 1000 := ⟨min hi.length 1000, by omega, by omega⟩
      go_upto_region 5 with fail
      have f_cc0 := fun u : Over W0 => Over.cell cc0 u
      have f_r2 := fun u : Over W0 => Over.cell r2 u
      have f_r3 := fun u : Over W0 => Over.cell r3 u
      refine wp_region_over (by kernel_rfl) (by kernel_rfl) ?_
      (try simp only [Act.put, List.setIfInBounds_toArray, List.set_cons_zero, List.set_cons_succ])
      repeat (go_big_quiet_step (fail))
      refine wpQuiet_nil ?_
      rintro w5 ⟨⟨_, hw5⟩, rfl⟩
      (try dsimp only)
      replace H := Lib.hid (H.out.bel hw5); (try simp only [List.set_cons_zero, List.set_cons_succ, List.cons_append, List.nil_append, List.eraseIdx_cons_zero, List.eraseIdx_cons_succ, List.setIfInBounds_toArray, World.size_alloc, selR, List.getD_cons_zero, List.getD_cons_succ] at H)
      clear f_cc0 f_r2 f_r3 cc0 r2 r3

      have HB0 := Lib.hid hw5
      clear hw5
      have cc0 := (H.out.blk 0 rfl).cell 0; simp only [List.getElem?_toArray, List.getElem?_cons_zero, List.getElem?_cons_succ] at cc0
      have r4 := HC.out w5 HB0.out 4 _ rfl
      obtain ⟨sm2, hsm2, hs3⟩ : ∃ sm2 : Nat, (sm2 : Int) = sm + q1 + q2 ∧ sm2 ≤ 254000 * k + 2000 := ⟨sm + q1 + q2, by omega, by omega⟩
      go_wp2_with fail
      clear cc0 r4 e1
      go_loopg [3, 5] 252 (fun gg s3 s5 wx => ∃ (j s2 : Nat), gg = 252 - j ∧ j ≤ 251 ∧ j ≤ n3 ∧ s5 = .int .i64 j ∧ s3 = .int .i64 s2 ∧ s2 ≤ 254000 * k + 2000 + 1001 * j ∧ Hid (Bel W0 wx) ∧ Hid (SL No w wx [rBlk x 52 #[.slice (some ⟨bb, oo, none⟩) n c]]))
      case atStart => exact ⟨0, sm2, rfl, by omega, by omega, rfl, by rw [hsm2], by omega, HB0, H⟩
      case round =>
        clear H HB0 hsm2 hs3 sm2
        obtain ⟨j, s2, hgj, hj251, hjn, rfl, rfl, hs2, HB0, H⟩ := hrel
        have Hgj := Lib.hid hgj
        clear hgj
        have cc0 := (H.out.blk 0 rfl).cell 0; simp only [List.getElem?_toArray, List.getElem?_cons_zero, List.getElem?_cons_succ] at cc0
        have r4 := HC.out wr HB0.out 4 _ rfl
        by_cases hjl : j < n3 ∧ j ≤ 250
        · obtain ⟨g1, g2⟩ := hjl
          have y1 : decide ((j : Int) ≤ 250) = true := by simp <;> omega
          obtain ⟨b4, o4, t, hA4, htk, htl, u0⟩ := (HX.out _ HB0.out).textAt (k := j) g1
          simp only at hA4
          subst hA4
          have j0 : (0 : Int) ≤ j := by omega
          have j1 : (j : Int) < n3 := by omega
          obtain ⟨q3, hq3, hq32⟩ : ∃ q : Nat, (min (t.length : Int) 1000) = q ∧ q ≤ 1000 := ⟨min t.length 1000, by omega, by omega⟩
          clear htk
          go_wp2
          clear cc0 r4 u0
          go_roundg (252 - (j + 1))
          case rel => exact ⟨j + 1, s2 + q3 + 1, rfl, by omega, by omega, by go_num, by go_num, by omega, HB0, H⟩
          case measure => rw [Hgj.out]; omega
        · have f0 : (decide ((j : Int) < n3) = false ∧ decide (j < n3) = false ∧ ¬ j < n3) ∨ (decide ((j : Int) < n3) = true ∧ decide (j < n3) = true ∧ j < n3 ∧ decide ((j : Int) ≤ 250) = false) := by
            by_cases h : j < n3
            · right
              refine ⟨by simp <;> omega, by simp <;> omega, h, by simp <;> omega⟩
            · left
              refine ⟨by simp <;> omega, by simp <;> omega, h⟩
          by_cases h250 : n3 ≤ 250
          · have d1 : decide ((250 : Int) < n3) = false := by simp <;> omega
            have HN : Hid (∀ i p, i < k + 1 → ps[i]? = some p → p.set.n ≤ 250) := by
              intro i d' hi hid
              rcases (show i < k ∨ i = k by omega) with h | h
              · exact HA.out i d' h hid
              · subst h
                rw [HPK.out] at hid
                injection hid with hid
                subst hid
                exact h250
            clear HA hjl
            rcases f0 with ⟨f1, f2, f3⟩ | ⟨f1, f2, f3, f4⟩
            · go_wp2_with fail
              go_roundg (22 - (k + 1))
              case rel => exact ⟨k + 1, s2, rfl, by omega, by omega, by go_num, rfl, by omega, H, HN⟩
              case measure => rw [Hgk.out]; omega
            · exfalso
              have := of_decide_eq_false f4
              omega
          · have d1 : decide ((250 : Int) < n3) = true := by simp <;> omega
            clear HA hjl
            rcases f0 with ⟨f1, f2, f3⟩ | ⟨f1, f2, f3, f4⟩
            all_goals
              go_wp2
              go_ret
              exact ⟨false, rfl, (fun h => by cases h), H.out.to⟩
    · have e0 : (decide ((k : Int) < n) = false ∧ decide (k < n) = false ∧ ¬ k < n) ∨ (decide ((k : Int) < n) = true ∧ decide (k < n) = true ∧ k < n ∧ decide ((k : Int) ≤ 20) = false) := by
        by_cases h : k < n
        · right
          refine ⟨by simp <;> omega, by simp <;> omega, h, by simp <;> omega⟩
        · left
          refine ⟨by simp <;> omega, by simp <;> omega, h⟩
      clear hlt
      have HALL : Hid (n ≤ 20 → ∀ p ∈ ps, p.set.n ≤ 250) := by
        intro h20 d hd
        obtain ⟨i, hi⟩ := List.mem_iff_getElem?.1 hd
        have hil : i < ps.length := (List.getElem?_eq_some_iff.1 hi).1
        refine HA.out i d ?_ hi
        have := hl1.out
        rcases e0 with ⟨_, _, h⟩ | ⟨_, _, h, h'⟩
        · omega
        · simp at h'; omega
      clear HA
      by_cases h20 : n ≤ 20
      · have d1 : decide ((n : Int) ≤ 20) = true := by simp <;> omega
        have HX := Lib.hid (HALL.out h20)
        have hFew : Hid (FewQ ⟨⟨A, n, c, ps⟩⟩) := ⟨h20, HX.out⟩
        rcases e0 with ⟨e1, e2, e3⟩ | ⟨e1, e2, e3, e4⟩
        all_goals
          go_wp2
          go_ret
          exact ⟨_, rfl, fun _ => hFew.out, H.out.to⟩
      · have d1 : decide ((n : Int) ≤ 20) = false := by simp <;> omega
        rcases e0 with ⟨e1, e2, e3⟩ | ⟨e1, e2, e3, e4⟩
        all_goals
          go_wp2
          go_ret
          exact ⟨false, rfl, (fun h => by cases h), H.out.to⟩

end Go.Proofs.Ytelnhhbefdfeoaa
