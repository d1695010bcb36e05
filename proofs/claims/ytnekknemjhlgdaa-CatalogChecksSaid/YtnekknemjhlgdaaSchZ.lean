/- The document's Same and Few of schemas. -/
import Derived.Test.YtnekknemjhlgdaaSchW
import Derived.Test.YtnekknemjhlgdaaDimZ
namespace Go.Proofs.Ytnekknemjhlgdaa
open Go.RowKit
set_option linter.unusedVariables false
set_option linter.unusedSimpArgs false

theorem sameD_eq (a b : DC) : sameD a b = (a == b) := by
  obtain ⟨n1, t1⟩ := a
  obtain ⟨n2, t2⟩ := b
  unfold sameD
  rw [Bool.eq_iff_iff]
  simp
theorem eq_step {α : Type} [BEq α] {xs ys : List α} {k : Nat} {a b : α} (ha : xs[k]? = some a) (hb : ys[k]? = some b) : (xs.drop k == ys.drop k) = ((a == b) && (xs.drop (k + 1) == ys.drop (k + 1))) := by
  obtain ⟨h1, rfl⟩ := List.getElem?_eq_some_iff.1 ha
  obtain ⟨h2, rfl⟩ := List.getElem?_eq_some_iff.1 hb
  rw [List.drop_eq_getElem_cons h1, List.drop_eq_getElem_cons h2]
  rfl
def sameS (a b : SC) : Bool := (a.dims == b.dims) && (a.ms == b.ms)
theorem sameS_self (a : SC) : sameS a a = true := by unfold sameS; simp
theorem len_ne {α : Type} [BEq α] [LawfulBEq α] {xs ys : List α} (h : xs.length ≠ ys.length) : (xs == ys) = false := by
  rw [beq_eq_false_iff_ne]
  intro e
  exact h (by rw [e])

set_option maxRecDepth 100000 in
set_option maxHeartbeats 2000000 in
theorem schsame_any (s t : Sch) (w : World) (hs : s.rd w) (ht : t.rd w) :
    Calls Try.prog 81 #[.agg s.cs, .agg t.cs] w fun e w' => e = .returned (.bool (sameS s.con t.con)) ∧ Bel w w' := by
  have hl1 : Hid (s.dm.l.length = s.dm.n) := hs.dm.len
  have hl2 : Hid (s.ms.l.length = s.ms.n) := hs.ms.len
  have hl3 : Hid (t.dm.l.length = t.dm.n) := ht.dm.len
  have hl4 : Hid (t.ms.l.length = t.ms.n) := ht.ms.len
  have HD := Lib.hid hs.dm
  have HM := Lib.hid hs.ms
  have HE := Lib.hid ht.dm
  have HO := Lib.hid ht.ms
  have n63 := hs.dm.n63
  have m63 := hs.ms.n63
  have H := Lib.hid (((SL.start No w).alloc s.cs 25).alloc t.cs 25)
  (try simp only [List.set_cons_zero, List.set_cons_succ, List.cons_append, List.nil_append, List.eraseIdx_cons_zero, List.eraseIdx_cons_succ, List.setIfInBounds_toArray, World.size_alloc, selR, List.getD_cons_zero, List.getD_cons_succ] at H)
  obtain ⟨⟨A, n, c, ds⟩, ⟨A2, n2, c2, ms⟩⟩ := s
  obtain ⟨⟨B, m, d, es⟩, ⟨B2, m2, d2, os⟩⟩ := t
  simp only [Sch.cs, Sch.con] at *
  clear hs ht
  go_enter Try.func81, Try.ntmps81
  have cc0 := (H.out.blk 0 rfl).cell 0; simp only [List.getElem?_toArray, List.getElem?_cons_zero, List.getElem?_cons_succ] at cc0
  have cc1 := (H.out.blk 1 rfl).cell 0; simp only [List.getElem?_toArray, List.getElem?_cons_zero, List.getElem?_cons_succ] at cc1
  have cc2 := (H.out.blk 0 rfl).cell 1; simp only [List.getElem?_toArray, List.getElem?_cons_zero, List.getElem?_cons_succ] at cc2
  have cc3 := (H.out.blk 1 rfl).cell 1; simp only [List.getElem?_toArray, List.getElem?_cons_zero, List.getElem?_cons_succ] at cc3
  by_cases h1 : n = m
  · subst h1
    by_cases h2 : n2 = m2
    · subst h2
      go_wp2_with fail
      clear cc0 cc1 cc2 cc3
      generalize w.heap.size + 1 = y at *
      generalize w.heap.size = x at *
      have HN : Hid (sameS ⟨ds.map Dm.con, ms⟩ ⟨es.map Dm.con, os⟩ = (((ds.map Dm.con).drop 0 == (es.map Dm.con).drop 0) && (ms == os))) := rfl
      go_loopg [26] n (fun gg i wr => ∃ k : Nat, gg = n - k ∧ k ≤ n ∧ i = .int .i64 k ∧ Hid (SL No w wr [rBlk x 25 #[.slice A n c, .slice A2 n2 c2], rBlk y 25 #[.slice B n d, .slice B2 n2 d2]]) ∧ Hid (sameS ⟨ds.map Dm.con, ms⟩ ⟨es.map Dm.con, os⟩ = (((ds.map Dm.con).drop k == (es.map Dm.con).drop k) && (ms == os))))
      case atStart => exact ⟨0, rfl, by omega, rfl, H, HN⟩
      case round =>
        clear H HN
        obtain ⟨k, hgk, hk, rfl, H, HN⟩ := hrel
        have Hgk := Lib.hid hgk
        clear hgk
        by_cases hlt : k < n
        · obtain ⟨b1, o1, p, hA, hb1, hpk, hpr, hrg1⟩ := (HD.out.mono H.out.to).dmAt (k := k) hlt
          simp only at hA
          subst hA
          obtain ⟨b2, o2, q, hB, hb2, hqk, hqr, hrg2⟩ := (HE.out.mono H.out.to).dmAt (k := k) hlt
          simp only at hB
          subst hB
          have hpc : (ds.map Dm.con)[k]? = some p.con := by rw [List.getElem?_map, hpk]; rfl
          have hqc : (es.map Dm.con)[k]? = some q.con := by rw [List.getElem?_map, hqk]; rfl
          have HSt := Lib.hid (eq_step hpc hqc)
          have HR1 := Lib.hid hrg1
          have HR2 := Lib.hid hrg2
          have HPR := Lib.hid hpr
          have HQR := Lib.hid hqr
          have i0 : (0 : Int) ≤ k := by omega
          have i1 : (k : Int) < n := by omega
          have cc0 := (H.out.blk 0 rfl).cell 0; simp only [List.getElem?_toArray, List.getElem?_cons_zero, List.getElem?_cons_succ] at cc0
          have cc1 := (H.out.blk 1 rfl).cell 0; simp only [List.getElem?_toArray, List.getElem?_cons_zero, List.getElem?_cons_succ] at cc1
          clear hpk hqk hrg1 hrg2 hpc hqc hpr hqr
          go_upto_region 6 with fail
          have f0 := fun u : Over wr => Over.cell cc0 u
          have f1 := fun u : Over wr => Over.cell cc1 u
          refine wp_region_over (by kernel_rfl) (by kernel_rfl) ?_
          repeat (first
            | ((with_reducible show wpQuiet _ _ _ _ (⟨some 33, _, _, _, _, _⟩ :: _) _); refine wpQuiet_load_row rfl rowDm (.tmp 32) rfl b1 (o1 + k * 2) rfl p.cs rfl hb1 HR1.out ?_; simp only [Act.put, List.setIfInBounds_toArray, List.set_cons_zero, List.set_cons_succ])
            | ((with_reducible show wpQuiet _ _ _ _ (⟨some 38, _, _, _, _, _⟩ :: _) _); refine wpQuiet_load_row rfl rowDm (.tmp 37) rfl b2 (o2 + k * 2) rfl q.cs rfl hb2 HR2.out ?_; simp only [Act.put, List.setIfInBounds_toArray, List.set_cons_zero, List.set_cons_succ])
            | go_big_quiet_step ((go_at_call 136; rename_i u; exact calls_over (dmsame_any p q _ (HPR.out.mono u.bel) (HQR.out.mono u.bel)))))
          refine wpQuiet_nil ?_
          rintro _ ⟨⟨w5, hw5⟩, rfl⟩
          replace H := Lib.hid (H.out.bel hw5); (try simp only [List.set_cons_zero, List.set_cons_succ, List.cons_append, List.nil_append, List.eraseIdx_cons_zero, List.eraseIdx_cons_succ, List.setIfInBounds_toArray, World.size_alloc, selR, List.getD_cons_zero, List.getD_cons_succ] at H)
          clear hw5 f0 f1 cc0 cc1
          cases heq : sameD p.con q.con with
          | false =>
            have HR : Hid (sameS ⟨ds.map Dm.con, ms⟩ ⟨es.map Dm.con, os⟩ = false) := by show _ = _; rw [HN.out, HSt.out, ← sameD_eq, heq]; rfl
            go_wp2
            go_ret
            rw [HR.out]
            exact ⟨rfl, H.out.to⟩
          | true =>
            have HNN : Hid (sameS ⟨ds.map Dm.con, ms⟩ ⟨es.map Dm.con, os⟩ = (((ds.map Dm.con).drop (k + 1) == (es.map Dm.con).drop (k + 1)) && (ms == os))) := by show _ = _; rw [HN.out, HSt.out, ← sameD_eq, heq, Bool.true_and]
            clear HN HSt
            go_wp2
            go_roundg (n - (k + 1))
            case rel => exact ⟨k + 1, rfl, by omega, by go_num, H, HNN⟩
            case measure => rw [Hgk.out]; omega
        · have HN1 : Hid (sameS ⟨ds.map Dm.con, ms⟩ ⟨es.map Dm.con, os⟩ = (ms.drop 0 == os.drop 0)) := by
            show _ = _
            rw [HN.out, List.drop_of_length_le (by have := hl1.out; simp; omega), List.drop_of_length_le (by have := hl3.out; simp; omega)]
            rfl
          have cc4 := (H.out.blk 0 rfl).cell 1; simp only [List.getElem?_toArray, List.getElem?_cons_zero, List.getElem?_cons_succ] at cc4
          clear HN
          go_wp2_with fail
          clear cc4
          go_loopg [45] n2 (fun gg i wr => ∃ k : Nat, gg = n2 - k ∧ k ≤ n2 ∧ i = .int .i64 k ∧ Hid (SL No w wr [rBlk x 25 #[.slice A n c, .slice A2 n2 c2], rBlk y 25 #[.slice B n d, .slice B2 n2 d2]]) ∧ Hid (sameS ⟨ds.map Dm.con, ms⟩ ⟨es.map Dm.con, os⟩ = (ms.drop k == os.drop k)))
          case atStart => exact ⟨0, rfl, by omega, rfl, H, HN1⟩
          case round =>
            clear H HN1
            obtain ⟨j, hgj, hj, rfl, H, HN⟩ := hrel
            have Hgj := Lib.hid hgj
            clear hgj
            by_cases hlt2 : j < n2
            · obtain ⟨b1, o1, p, hA, hpk, hpl, e1⟩ := (HM.out.mono H.out.to).textAt (k := j) hlt2
              simp only at hA
              subst hA
              obtain ⟨b2, o2, q, hB, hqk, hql, e2⟩ := (HO.out.mono H.out.to).textAt (k := j) hlt2
              simp only at hB
              subst hB
              have HSt := Lib.hid (eq_step (xs := ms) (ys := os) hpk hqk)
              have i0 : (0 : Int) ≤ j := by omega
              have i1 : (j : Int) < n2 := by omega
              have cc2 := (H.out.blk 0 rfl).cell 1; simp only [List.getElem?_toArray, List.getElem?_cons_zero, List.getElem?_cons_succ] at cc2
              have cc3 := (H.out.blk 1 rfl).cell 1; simp only [List.getElem?_toArray, List.getElem?_cons_zero, List.getElem?_cons_succ] at cc3
              clear hpk hqk
              cases heq : (p == q) with
              | false =>
                have HR : Hid (sameS ⟨ds.map Dm.con, ms⟩ ⟨es.map Dm.con, os⟩ = false) := by show _ = _; rw [HN.out, HSt.out, heq]; rfl
                have hne : (p != q) = true := by rw [bne, heq]; rfl
                go_wp2_with fail
                go_quiet (fail)
                go_wp2
                go_ret
                rw [HR.out]
                exact ⟨rfl, (H.out.drewN _).to⟩
              | true =>
                have HNN : Hid (sameS ⟨ds.map Dm.con, ms⟩ ⟨es.map Dm.con, os⟩ = (ms.drop (j + 1) == os.drop (j + 1))) := by show _ = _; rw [HN.out, HSt.out, heq, Bool.true_and]
                have hne : (p != q) = false := by rw [bne, heq]; rfl
                clear HN HSt
                go_wp2_with fail
                go_quiet (fail)
                go_wp2
                go_roundg (n2 - (j + 1))
                case rel => exact ⟨j + 1, rfl, by omega, by go_num, H.out.drewN _, HNN⟩
                case measure => rw [Hgj.out]; omega
            · have HR : Hid (sameS ⟨ds.map Dm.con, ms⟩ ⟨es.map Dm.con, os⟩ = true) := by
                show _ = _
                rw [HN.out, List.drop_of_length_le (by have := hl2.out; omega), List.drop_of_length_le (by have := hl4.out; omega)]
                rfl
              clear HN
              go_wp2
              go_ret
              rw [HR.out]
              exact ⟨rfl, H.out.to⟩
    · have HR : Hid (sameS ⟨ds.map Dm.con, ms⟩ ⟨es.map Dm.con, os⟩ = false) := by show _ = _; unfold sameS; rw [show (ms == os) = false from len_ne (xs := ms) (ys := os) (by have := hl2.out; have := hl4.out; omega), Bool.and_false]
      have g1 : ((n2 : Int) != (m2 : Int)) = true := by simp <;> omega
      have g2 : (n2 != m2) = true := by simp <;> omega
      go_wp2
      go_ret
      rw [HR.out]
      exact ⟨rfl, H.out.to⟩
  · have HR : Hid (sameS ⟨ds.map Dm.con, ms⟩ ⟨es.map Dm.con, os⟩ = false) := by show _ = _; unfold sameS; rw [show (ds.map Dm.con == es.map Dm.con) = false from len_ne (by have := hl1.out; have := hl3.out; simp; omega), Bool.false_and]
    have g1 : ((n : Int) != (m : Int)) = true := by simp <;> omega
    have g2 : (n != m) = true := by simp <;> omega
    go_wp2
    go_ret
    rw [HR.out]
    exact ⟨rfl, H.out.to⟩

def FewS (s : Sch) : Prop := s.dm.n ≤ 20 ∧ s.ms.n ≤ 5 ∧ ∀ d ∈ s.dm.l, d.tr.n ≤ 6 ∧ ∀ t ∈ d.tr.l, t.ts.n ≤ 220 ∧ t.up.n ≤ 220
set_option maxRecDepth 100000 in
set_option maxHeartbeats 2000000 in
theorem schfew_any (s : Sch) (w : World) (hs : s.rd w) :
    Calls Try.prog 15 #[.agg s.cs] w (FewPost (FewS s) w) := by
  have hl1 : Hid (s.dm.l.length = s.dm.n) := hs.dm.len
  have hl2 : Hid (s.ms.l.length = s.ms.n) := hs.ms.len
  have HD := Lib.hid hs.dm
  have HM := Lib.hid hs.ms
  have n63 := hs.dm.n63
  have m63 := hs.ms.n63
  have H := Lib.hid ((SL.start No w).alloc s.cs 25)
  (try simp only [List.set_cons_zero, List.set_cons_succ, List.cons_append, List.nil_append, List.eraseIdx_cons_zero, List.eraseIdx_cons_succ, List.setIfInBounds_toArray, World.size_alloc, selR, List.getD_cons_zero, List.getD_cons_succ] at H)
  obtain ⟨⟨A, n, c, ds⟩, ⟨A2, n2, c2, ms⟩⟩ := s
  simp only [Sch.cs] at *
  clear hs
  go_enter Try.func15, Try.ntmps15
  go_wp2_with fail
  generalize w.heap.size = x at *
  generalize w.alloc (.cells #[.slice A n c, .slice A2 n2 c2] 25) = w1 at *
  have HA : Hid (∀ i d, i < 0 → ds[i]? = some d → d.tr.n ≤ 6 ∧ ∀ t ∈ d.tr.l, t.ts.n ≤ 220 ∧ t.up.n ≤ 220) := fun i t hi => absurd hi (by omega)
  go_loopg [3, 4] 22 (fun gg s3 s4 wr => ∃ (k sm : Nat), gg = 22 - k ∧ k ≤ 21 ∧ k ≤ n ∧ s4 = .int .i64 k ∧ s3 = .int .i64 sm ∧ sm ≤ 1320 * k ∧ Hid (SL No w wr [rBlk x 25 #[.slice A n c, .slice A2 n2 c2]]) ∧ Hid (∀ i d, i < k → ds[i]? = some d → d.tr.n ≤ 6 ∧ ∀ t ∈ d.tr.l, t.ts.n ≤ 220 ∧ t.up.n ≤ 220))
  case atStart => exact ⟨0, 0, rfl, by omega, by omega, rfl, rfl, by omega, H, HA⟩
  case round =>
    clear H HA
    obtain ⟨k, sm, hgk, hk21, hkn, rfl, rfl, hsm, H, HA⟩ := hrel
    have Hgk := Lib.hid hgk
    clear hgk
    have cc0 := (H.out.blk 0 rfl).cell 0; simp only [List.getElem?_toArray, List.getElem?_cons_zero, List.getElem?_cons_succ] at cc0
    by_cases hlt : k < n ∧ k ≤ 20
    · obtain ⟨h1, h2⟩ := hlt
      have e1 : decide ((k : Int) ≤ 20) = true := by simp <;> omega
      obtain ⟨bb, oo, d, hA, hbb, hdk, hdr, hrg⟩ := (HD.out.mono H.out.to).dmAt (k := k) h1
      simp only at hA
      subst hA
      have HR := Lib.hid hrg
      have HDK := Lib.hid hdk
      have HDR := Lib.hid hdr
      have i0 : (0 : Int) ≤ k := by omega
      have i1 : (k : Int) < n := by omega
      clear hdk hrg hdr
      go_wp2_with ((with_reducible show wpList _ _ _ (⟨some 24, _, _, _, _, _⟩ :: _) _ _); (refine wpList_load_row_at rfl rowDm (.tmp 23) rfl bb (oo + k * 2) rfl d.cs rfl HR.out ?_))
      refine (dmfew_any d _ HDR.out).mono ?_; rintro e w3 ⟨b, rfl, hfew, hb3⟩
      replace H := Lib.hid (H.out.bel hb3); (try simp only [List.set_cons_zero, List.set_cons_succ, List.cons_append, List.nil_append, List.eraseIdx_cons_zero, List.eraseIdx_cons_succ, List.setIfInBounds_toArray, World.size_alloc, selR, List.getD_cons_zero, List.getD_cons_succ] at H)
      have HDR3 := Lib.hid (HDR.out.mono hb3)
      have q1 := (hb3.cell hbb).trans (HR.out 1 _ rfl)
      clear hb3 cc0 HR HDR
      cases b with
      | false =>
        clear hfew
        go_wp2
        go_ret
        exact ⟨false, rfl, (fun h => by cases h), H.out.to⟩
      | true =>
        obtain ⟨f6, f220⟩ := hfew rfl
        have HF := Lib.hid f220
        have HN : Hid (∀ i d, i < k + 1 → ds[i]? = some d → d.tr.n ≤ 6 ∧ ∀ t ∈ d.tr.l, t.ts.n ≤ 220 ∧ t.up.n ≤ 220) := by
          intro i d' hi hid
          rcases (show i < k ∨ i = k by omega) with h | h
          · exact HA.out i d' h hid
          · subst h
            rw [HDK.out] at hid
            injection hid with hid
            subst hid
            exact ⟨f6, f220⟩
        clear hfew f220 HA
        have cc0 := (H.out.blk 0 rfl).cell 0; simp only [List.getElem?_toArray, List.getElem?_cons_zero, List.getElem?_cons_succ] at cc0
        have hdl : Hid (d.tr.l.length = d.tr.n) := HDR3.out.tr.len
        have HTR := Lib.hid HDR3.out.tr
        obtain ⟨dnm, ⟨D, dn, dc, trs⟩⟩ := d
        simp only [Dm.cs] at *
        go_wp2_with fail
        clear cc0 q1
        go_loopg [3, 34] dn (fun gg s3 s34 wx => ∃ (j s2 : Nat), gg = dn - j ∧ j ≤ dn ∧ s34 = .int .i64 j ∧ s3 = .int .i64 s2 ∧ s2 ≤ 1320 * k + 220 * j ∧ Hid (SL No w wx [rBlk x 25 #[.slice (some ⟨bb, oo, none⟩) n c, .slice A2 n2 c2]]) ∧ Hid (Bel w3 wx))
        case atStart => exact ⟨0, sm, rfl, by omega, rfl, rfl, by omega, H, Bel.refl _⟩
        case round =>
          clear H
          obtain ⟨j, s2, hgj, hj, rfl, rfl, hs2, H, HB⟩ := hrel
          have Hgj := Lib.hid hgj
          clear hgj
          by_cases hjlt : j < dn
          · obtain ⟨b4, o4, t, hA4, hbb4, htk, htr, hrg4⟩ := (HTR.out.mono HB.out).tirAt (k := j) hjlt
            simp only at hA4
            subst hA4
            have ht220 := (HF.out t (List.mem_of_getElem? htk)).1
            have HR4 := Lib.hid hrg4
            have hnm4 := htr.nm
            have j0 : (0 : Int) ≤ j := by omega
            have j1 : (j : Int) < dn := by omega
            clear htk htr hrg4 hbb4
            go_wp2_with (first | ((with_reducible show wpList _ _ _ (⟨some 37, _, _, _, _, _⟩ :: _) _ _); (refine wpList_load_row_at rfl rowTir (.tmp 36) rfl b4 (o4 + j * 3) rfl t.cs rfl HR4.out ?_)) | ((with_reducible show wpList _ _ _ (⟨_, .store _ (.tmp 6) _, _, _, _, _⟩ :: _) _ _); (refine wpList_store_new rfl rowTir (.tmp 6) (.tmp 37) rfl rfl rfl (t.cs) rfl rfl (tir_one t) ?_; replace H := Lib.hid (H.out.alloc (t.cs) 140); (try simp only [List.set_cons_zero, List.set_cons_succ, List.cons_append, List.nil_append, List.eraseIdx_cons_zero, List.eraseIdx_cons_succ, List.setIfInBounds_toArray, World.size_alloc, selR, List.getD_cons_zero, List.getD_cons_succ] at H); replace HB := Lib.hid (HB.out.alloc (.cells t.cs 140)); have cc1 := (H.out.blk 1 rfl).cell 1; simp only [List.getElem?_toArray, List.getElem?_cons_zero, List.getElem?_cons_succ] at cc1)))
            replace H := Lib.hid (H.out.sel [0] (by decide) (by simp)); (try simp only [List.set_cons_zero, List.set_cons_succ, List.cons_append, List.nil_append, List.eraseIdx_cons_zero, List.eraseIdx_cons_succ, List.setIfInBounds_toArray, World.size_alloc, selR, List.getD_cons_zero, List.getD_cons_succ] at H)
            clear cc1
            go_roundg (dn - (j + 1))
            case rel => exact ⟨j + 1, s2 + t.ts.n, rfl, by omega, by go_num, by go_num, by omega, H, HB⟩
            case measure => rw [Hgj.out]; omega
          · go_wp2_with fail
            go_roundg (22 - (k + 1))
            case rel => exact ⟨k + 1, s2, rfl, by omega, by omega, by go_num, rfl, by omega, H, HN⟩
            case measure => rw [Hgk.out]; omega
    · have e0 : (decide ((k : Int) < n) = false ∧ decide (k < n) = false ∧ ¬ k < n) ∨ (decide ((k : Int) < n) = true ∧ decide (k < n) = true ∧ k < n ∧ decide ((k : Int) ≤ 20) = false) := by
        by_cases h : k < n
        · right
          refine ⟨by simp <;> omega, by simp <;> omega, h, by simp <;> omega⟩
        · left
          refine ⟨by simp <;> omega, by simp <;> omega, h⟩
      clear hlt
      have HALL : Hid (n ≤ 20 → ∀ d ∈ ds, d.tr.n ≤ 6 ∧ ∀ t ∈ d.tr.l, t.ts.n ≤ 220 ∧ t.up.n ≤ 220) := by
        intro h20 d hd
        obtain ⟨i, hi⟩ := List.mem_iff_getElem?.1 hd
        have hil : i < ds.length := (List.getElem?_eq_some_iff.1 hi).1
        refine HA.out i d ?_ hi
        have := hl1.out
        rcases e0 with ⟨_, _, h⟩ | ⟨_, _, h, h'⟩
        · omega
        · simp at h'; omega
      clear HA
      rcases e0 with ⟨e1, e2, e3⟩ | ⟨e1, e2, e3, e4⟩
      all_goals
        go_wp2_with fail
        clear cc0
        go_loopg [7, 8] 7 (fun gg s7 s8 wr => ∃ (j s2 : Nat), gg = 7 - j ∧ j ≤ 6 ∧ j ≤ n2 ∧ s8 = .int .i64 j ∧ s7 = .int .i64 s2 ∧ s2 ≤ 1000 * j ∧ Hid (SL No w wr [rBlk x 25 #[.slice A n c, .slice A2 n2 c2]]))
        case atStart => exact ⟨0, 0, rfl, by omega, by omega, rfl, rfl, by omega, H⟩
        case round =>
          clear H
          obtain ⟨j, s2, hgj, hj6, hjn, rfl, rfl, hs2, H⟩ := hrel
          have Hgj := Lib.hid hgj
          clear hgj
          have cc1 := (H.out.blk 0 rfl).cell 1; simp only [List.getElem?_toArray, List.getElem?_cons_zero, List.getElem?_cons_succ] at cc1
          have cc0 := (H.out.blk 0 rfl).cell 0; simp only [List.getElem?_toArray, List.getElem?_cons_zero, List.getElem?_cons_succ] at cc0
          by_cases hjl : j < n2 ∧ j ≤ 5
          · obtain ⟨g1, g2⟩ := hjl
            have y1 : decide ((j : Int) ≤ 5) = true := by simp <;> omega
            obtain ⟨bb, oo, m, hA, hmk, hml, hc⟩ := (HM.out.mono H.out.to).textAt (k := j) g1
            simp only at hA
            subst hA
            have i0 : (0 : Int) ≤ j := by omega
            have i1 : (j : Int) < n2 := by omega
            have hmin : ∃ q : Nat, (min (m.length : Int) 1000) = q ∧ q ≤ 1000 := ⟨min m.length 1000, by omega, by omega⟩
            obtain ⟨q, hq, hq2⟩ := hmin
            have HQ := Lib.hid hq
            clear hmk hq
            go_wp2
            rw [HQ.out]
            go_roundg (7 - (j + 1))
            case rel => exact ⟨j + 1, s2 + q, rfl, by omega, by omega, by go_num, by go_num, by omega, H⟩
            case measure => rw [Hgj.out]; omega
          · have y0 : (decide ((j : Int) < n2) = false ∧ decide (j < n2) = false ∧ ¬ j < n2) ∨ (decide ((j : Int) < n2) = true ∧ decide (j < n2) = true ∧ j < n2 ∧ decide ((j : Int) ≤ 5) = false) := by
              by_cases h : j < n2
              · right
                refine ⟨by simp <;> omega, by simp <;> omega, h, by simp <;> omega⟩
              · left
                refine ⟨by simp <;> omega, by simp <;> omega, h⟩
            clear hjl
            rcases y0 with ⟨y1, y2, y3⟩ | ⟨y1, y2, y3, y4⟩
            all_goals
              by_cases z1 : n ≤ 20
              · by_cases z2 : n2 ≤ 5
                · have z3 : decide ((n : Int) ≤ 20) = true := by simp <;> omega
                  have z4 : decide ((n2 : Int) ≤ 5) = true := by simp <;> omega
                  go_wp2
                  all_goals
                    go_ret
                    exact ⟨_, rfl, fun _ => ⟨z1, z2, HALL.out z1⟩, H.out.to⟩
                · have z3 : decide ((n : Int) ≤ 20) = true := by simp <;> omega
                  have z4 : decide ((n2 : Int) ≤ 5) = false := by simp <;> omega
                  go_wp2
                  go_ret
                  exact ⟨false, rfl, (fun h => by cases h), H.out.to⟩
              · have z3 : decide ((n : Int) ≤ 20) = false := by simp <;> omega
                go_wp2
                go_ret
                exact ⟨false, rfl, (fun h => by cases h), H.out.to⟩

end Go.Proofs.Ytnekknemjhlgdaa
