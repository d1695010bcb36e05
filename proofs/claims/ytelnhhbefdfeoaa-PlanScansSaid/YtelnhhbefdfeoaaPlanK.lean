/- The document's Lets; plan.Width. -/
import Derived.Test.YtelnhhbefdfeoaaPlanJ
namespace Go.Proofs.Ytelnhhbefdfeoaa
open Go.RowKit
set_option linter.unusedVariables false
set_option linter.unusedSimpArgs false


theorem leq_not (a b : List UInt8) : (Op.bytesLess a b || a == b) = !Op.bytesLess b a := by
  cases h : Op.bytesLess a b with
  | true =>
    cases h2 : Op.bytesLess b a with
    | true => have := less_trans h h2; rw [less_irr] at this; cases this
    | false => rfl
  | false =>
    by_cases e : a = b
    · subst e
      rw [less_irr]
      simp
    · rw [less_total h e]
      simp [e]
set_option maxRecDepth 100000 in
set_option maxHeartbeats 2000000 in
theorem rlets_any (D : Dm) (p : Pk) (M k : Nat) (T : Tir) (u : List UInt8) (w : World) (hD : D.rd w) (hp : p.rd w) (hT : D.tr.l[M]? = some T) (hu : T.ts.l[k]? = some u) (hM : p.f ≠ 0 → p.t = M) (hf : p.f = 0 ∨ p.f = 1 ∨ p.f = 2) :
    Calls Try.prog 46 #[.agg D.cs, .agg p.cs, .int .i64 k] w fun e w' => e = .returned (.bool (letsT p.con u)) ∧ Bel w w' := by
  have H := Lib.hid (((SL.start No w).alloc D.cs 66).alloc p.cs 59)
  (try simp only [List.set_cons_zero, List.set_cons_succ, List.cons_append, List.nil_append, List.eraseIdx_cons_zero, List.eraseIdx_cons_succ, List.setIfInBounds_toArray, World.size_alloc, selR, List.getD_cons_zero, List.getD_cons_succ] at H)
  have hTr := hD.tr.all T (List.mem_of_getElem? hT)
  have hMn : M < D.tr.n := by have := (List.getElem?_eq_some_iff.1 hT).1; rw [hD.tr.len] at this; exact this
  have hkn : k < T.ts.n := by have := (List.getElem?_eq_some_iff.1 hu).1; rw [hTr.ts.len] at this; exact this
  obtain ⟨bt, ot, T', hA, hbt, hT', _, hrg⟩ := hD.tr.tirAt (k := M) hMn
  obtain rfl : T = T' := by rw [hT] at hT'; injection hT'
  obtain ⟨bu, ou, u', hA2, hu', hul, hcu⟩ := hTr.ts.textAt (k := k) hkn
  obtain rfl : u = u' := by rw [hu] at hu'; injection hu'
  have hrc := ((((Bel.refl w).alloc (.cells D.cs 66)).alloc (.cells p.cs 59)).cell (p := ⟨bt, ot + M * 3 + 1, none⟩) hbt).trans (hrg 1 (.slice T.ts.A T.ts.n T.ts.c) rfl)
  have hcu := ((((Bel.refl w).alloc (.cells D.cs 66)).alloc (.cells p.cs 59)).cell (p := ⟨bu, ou + k, none⟩) (World.block_lt_of_cell? _ _ hcu)).trans hcu
  have HAT := Lib.hid (fun w' (hb : Bel w w') => rat_any p.set u w' (hp.set.mono hb))
  have i0 : (0 : Int) ≤ M := by omega
  have i1 : (M : Int) < D.tr.n := by omega
  have i2 : (0 : Int) ≤ k := by omega
  have i3 : (k : Int) < T.ts.n := by omega
  have t63 := hTr.ts.n63
  have hl0 : p.f = 0 → letsT p.con u = true := fun hf => by unfold letsT; rw [if_pos (show p.con.f = 0 from hf)]
  have hl1 : p.f = 1 → letsT p.con u = within p.lo p.hi u := fun hf => by unfold letsT; rw [if_neg (show ¬ p.con.f = 0 by rw [show p.con.f = p.f from rfl, hf]; decide), if_pos (show p.con.f = 1 from hf)]
  have hl2 : p.f = 2 → letsT p.con u = decide (0 ≤ atOf u p.set.l) := fun hf => by unfold letsT; rw [if_neg (show ¬ p.con.f = 0 by rw [show p.con.f = p.f from rfl, hf]; decide), if_neg (show ¬ p.con.f = 1 by rw [show p.con.f = p.f from rfl, hf]; decide), atOf_some]
  rw [hA2] at hrc
  generalize letsT p.con u = R at *
  clear hD hp hT hT' hTr hrg hMn hkn hu hu' hA2 hbt
  obtain ⟨tnm, ⟨TA, tn, tc, ts⟩, tup⟩ := T
  obtain ⟨pf, pt, lo, hi, ⟨A, n, c, set⟩, g, pb⟩ := p
  obtain ⟨nm, ⟨A2, n2, cp2, trs⟩⟩ := D
  simp only [Pk.cs, Dm.cs] at *
  subst hA
  rcases hf with rfl | rfl | rfl
  · have HR := Lib.hid (hl0 rfl)
    clear hl0 hl1 hl2 hrc hcu
    go_enter Try.func46, Try.ntmps46
    go_upto_region 1 with fail
    generalize w.heap.size + 1 = y at *
    generalize w.heap.size = x at *
    generalize World.alloc (World.alloc _ _) _ = w1 at *
    have c0 := (H.out.blk 1 rfl).cell 0
    simp only [List.getElem?_toArray, List.getElem?_cons_zero, List.getElem?_cons_succ] at c0
    go_wp2
    go_ret
    rw [HR.out]
    exact ⟨rfl, H.out.to⟩
  · have HR := Lib.hid (hl1 rfl)
    have hm := hM (by decide)
    subst hm
    clear hl0 hl1 hl2 hM
    go_enter Try.func46, Try.ntmps46
    go_upto_region 1 with fail
    generalize w.heap.size + 1 = y at *
    generalize w.heap.size = x at *
    generalize World.alloc (World.alloc _ _) _ = w1 at *
    have c0 := (H.out.blk 1 rfl).cell 0
    have c1 := (H.out.blk 1 rfl).cell 1
    have c2 := (H.out.blk 1 rfl).cell 2
    have c3 := (H.out.blk 1 rfl).cell 3
    have cd := (H.out.blk 0 rfl).cell 1
    simp only [List.getElem?_toArray, List.getElem?_cons_zero, List.getElem?_cons_succ] at c0 c1 c2 c3 cd
    unfold within at HR
    cases h1 : Op.bytesLess u lo with
    | true =>
      have q1 : (Op.bytesLess lo u || lo == u) = false := by rw [leq_not, h1]; rfl
      rw [h1] at HR
      clear h1
      go_wp2
      go_ret
      rw [HR.out]
      exact ⟨rfl, H.out.to⟩
    | false =>
      have q1 : (Op.bytesLess lo u || lo == u) = true := by rw [leq_not, h1]; rfl
      rw [h1] at HR
      clear h1
      have q2 : (Op.bytesLess u hi || u == hi) = !Op.bytesLess hi u := leq_not _ _
      generalize Op.bytesLess hi u = z at *
      go_wp2
      go_ret
      rw [HR.out]
      exact ⟨by cases z <;> rfl, H.out.to⟩
  · have HR := Lib.hid (hl2 rfl)
    have hm := hM (by decide)
    subst hm
    clear hl0 hl1 hl2 hM
    go_enter Try.func46, Try.ntmps46
    go_upto_region 1 with fail
    generalize w.heap.size + 1 = y at *
    generalize w.heap.size = x at *
    generalize World.alloc (World.alloc _ _) _ = w1 at *
    have c0 := (H.out.blk 1 rfl).cell 0
    have c1 := (H.out.blk 1 rfl).cell 1
    have c4 := (H.out.blk 1 rfl).cell 4
    have cd := (H.out.blk 0 rfl).cell 1
    simp only [List.getElem?_toArray, List.getElem?_cons_zero, List.getElem?_cons_succ] at c0 c1 c4 cd
    go_wp2_with fail
    refine (HAT.out _ H.out.to).mono ?_; rintro e w2 ⟨rfl, rfl⟩
    generalize atOf u set = z at *
    go_wp2
    go_ret
    rw [HR.out]
    exact ⟨by simp, H.out.to⟩
def widthOf (ps : List PC) : Nat := (ps.filter (fun p => p.g)).length
theorem widthOf_yes {ps : List PC} {k : Nat} {p : PC} (h : ps[k]? = some p) (hg : p.g = true) : widthOf (ps.take (k + 1)) = widthOf (ps.take k) + 1 := by
  unfold widthOf
  rw [List.take_add_one, h, List.filter_append]
  simp [hg]
theorem widthOf_no {ps : List PC} {k : Nat} {p : PC} (h : ps[k]? = some p) (hg : p.g = false) : widthOf (ps.take (k + 1)) = widthOf (ps.take k) := by
  unfold widthOf
  rw [List.take_add_one, h, List.filter_append]
  simp [hg]
set_option maxRecDepth 100000 in
set_option maxHeartbeats 2000000 in
theorem width_any (q : Qr) (w : World) (hq : q.rd w) :
    Calls Try.prog 30 #[.agg q.cs] w fun e w' => e = .returned (.int .i64 (widthOf q.con)) ∧ Bel w w' := by
  have H := Lib.hid ((SL.start No w).alloc q.cs 52)
  (try simp only [List.set_cons_zero, List.set_cons_succ, List.cons_append, List.nil_append, List.eraseIdx_cons_zero, List.eraseIdx_cons_succ, List.setIfInBounds_toArray, World.size_alloc, selR, List.getD_cons_zero, List.getD_cons_succ] at H)
  have HQ := Lib.hid (fun w' (hb : Bel w w') => (show q.ps.rd w from hq).mono hb)
  have hlen : Hid (q.ps.l.length = q.ps.n) := Row.rd.len hq
  have n63 : q.ps.n ≤ 9223372036854775807 := hq.n63
  obtain ⟨⟨A, n, c, ps⟩⟩ := q
  simp only [Qr.cs, Qr.con] at *
  clear hq
  go_enter Try.func30, Try.ntmps30
  go_upto_region 1 with fail
  generalize w.heap.size = x at *
  generalize World.alloc w _ = w1 at *
  have cd := (H.out.blk 0 rfl).cell 0
  simp only [List.getElem?_toArray, List.getElem?_cons_zero, List.getElem?_cons_succ] at cd
  have HW : Hid (widthOf ((ps.map Pk.con).take 0) = 0) := rfl
  go_wp2_with fail
  clear cd
  go_loopg [3, 9] n (fun gg s3 s9 wr => ∃ (k m : Nat), gg = n - k ∧ k ≤ n ∧ m ≤ k ∧ s3 = .int .i64 m ∧ s9 = .int .i64 k ∧ Hid (widthOf ((ps.map Pk.con).take k) = m) ∧ Hid (SL No w wr []))
  case atStart => exact ⟨0, 0, rfl, by omega, by omega, rfl, rfl, HW, by have h := Lib.hid (H.out.less 0); exact h⟩
  case round =>
    clear H HW
    obtain ⟨k, m, hgk, hk, hm, rfl, rfl, HW, H⟩ := hrel
    have Hgk := Lib.hid hgk
    clear hgk
    by_cases hlt : k < n
    · obtain ⟨bb, oo, p, hA, hbb, hp, hpr, hrg⟩ := (HQ.out _ H.out.to).pkAt (k := k) hlt
      simp only at hA
      subst hA
      have hpc : (ps.map Pk.con)[k]? = some p.con := by rw [List.getElem?_map, hp]; rfl
      have HY := Lib.hid (fun h => widthOf_yes hpc h)
      have HN := Lib.hid (fun h => widthOf_no hpc h)
      have HR := Lib.hid hrg
      have i0 : (0 : Int) ≤ k := by omega
      have i1 : (k : Int) < n := by omega
      clear hp hpr hrg hpc
      obtain ⟨pf, pt, lo, hi, ⟨A3, n3, c3, set⟩, g, pb⟩ := p
      simp only [Pk.cs, Pk.con] at *
      go_upto_region 5 with (first | ((with_reducible show wpList _ _ _ (⟨some 12, _, _, _, _, _⟩ :: _) _ _); (refine wpList_load_row_at rfl rowPk (.tmp 11) rfl bb (oo + k * 7) rfl (Pk.mk pf pt lo hi ⟨A3, n3, c3, set⟩ g pb).cs rfl HR.out ?_)) | ((with_reducible show wpList _ _ _ (⟨_, .store _ (.tmp 5) _, _, _, _, _⟩ :: _) _ _); (refine wpList_store_new rfl rowPk (.tmp 5) (.tmp 12) rfl rfl rfl ((Pk.mk pf pt lo hi ⟨A3, n3, c3, set⟩ g pb).cs) rfl rfl (pk_one _) ?_; replace H := Lib.hid (H.out.alloc ((Pk.mk pf pt lo hi ⟨A3, n3, c3, set⟩ g pb).cs) 59); (try simp only [List.set_cons_zero, List.set_cons_succ, List.cons_append, List.nil_append, List.eraseIdx_cons_zero, List.eraseIdx_cons_succ, List.setIfInBounds_toArray, World.size_alloc, selR, List.getD_cons_zero, List.getD_cons_succ] at H))))
      (try simp only [Act.put, List.setIfInBounds_toArray, List.set_cons_zero, List.set_cons_succ])
      clear HR hbb
      generalize wr.heap.size = y at *
      generalize World.alloc wr _ = w2 at *
      have c5 : w2.cell? ⟨y, 5, none⟩ = some (.bool g) := (H.out.blk 0 rfl).cell 5
      replace H := Lib.hid (H.out.less 0)
      (try simp only [List.set_cons_zero, List.set_cons_succ, List.cons_append, List.nil_append, List.eraseIdx_cons_zero, List.eraseIdx_cons_succ, List.setIfInBounds_toArray, World.size_alloc, selR, List.getD_cons_zero, List.getD_cons_succ] at H)
      cases g with
      | true =>
        have HW2 : Hid (widthOf ((ps.map Pk.con).take (k + 1)) = m + 1) := by show _ = _; rw [HY.out rfl, HW.out]
        clear HW HY HN
        go_wp2_with fail
        go_roundg (n - (k + 1))
        case rel => exact ⟨k + 1, m + 1, rfl, by omega, by omega, by go_num, by go_num, HW2, H⟩
        case measure => rw [Hgk.out]; omega
      | false =>
        have HW2 : Hid (widthOf ((ps.map Pk.con).take (k + 1)) = m) := by show _ = _; rw [HN.out rfl, HW.out]
        clear HW HY HN
        go_wp2_with fail
        go_roundg (n - (k + 1))
        case rel => exact ⟨k + 1, m, rfl, by omega, by omega, rfl, by go_num, HW2, H⟩
        case measure => rw [Hgk.out]; omega
    · obtain rfl : k = n := by omega
      have HE : Hid (widthOf (ps.map Pk.con) = m) := by
        show _ = _
        have h := HW.out
        rw [List.take_of_length_le (by rw [List.length_map, hlen.out]; exact Nat.le_refl _)] at h
        exact h
      go_wp2
      go_ret
      rw [HE.out]
      exact ⟨rfl, H.out.to⟩

end Go.Proofs.Ytelnhhbefdfeoaa
