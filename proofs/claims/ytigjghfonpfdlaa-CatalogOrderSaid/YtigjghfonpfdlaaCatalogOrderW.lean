/- The law CatalogOrder: its walk. -/
import Derived.Test.YtigjghfonpfdlaaCatR
namespace Go.Proofs.Ytigjghfonpfdlaa
open Go.RowKit
set_option linter.unusedVariables false
set_option linter.unusedSimpArgs false


set_option maxRecDepth 100000 in
set_option maxHeartbeats 8000000 in
theorem walk_catalogOrder (w : World) (s : Ct) (hs : s.rd w) (t : Ct) (ht : t.rd w) (r : Row (Row Int)) (hr : r.ok w) (cut : Int) (hcut : I64 cut) :
    Calls Try.prog 7 #[.agg s.cs, .agg t.cs, .slice r.A r.n r.c, .int .i64 cut] w fun e w' => e = .returned (.bool true) ∧ Bel w w' := by
  have HF1 := Lib.hid (fun w' (hb : Bel w w') => schfew_any s.sc w' (hs.sc.mono hb))
  have HF2 := Lib.hid (fun w' (hb : Bel w w') => schfew_any t.sc w' (ht.sc.mono hb))
  have HL := Lib.hid (fun w' (hb : Bel w w') => few18_any r w' (hr.rds.mono hb))
  have HW := Lib.hid (fun w' (hb : Bel w w') h1 => catwrong_any s w' (hs.mono hb) h1)
  have HW2 := Lib.hid (fun w' (hb : Bel w w') (h1 : SmS t.sc) => schwrong_any t.sc w' (ht.sc.mono hb) h1.1 h1.2.1 (fun d hd => (h1.2.2 d hd).1))
  have HSS := Lib.hid (fun w' (hb : Bel w w') => schsame_any s.sc t.sc w' (hs.sc.mono hb) (ht.sc.mono hb))
  have HCS := Lib.hid (fun w' (hb : Bel w w') h1 h2 => catsameS_any s t w' (hs.mono hb) (ht.mono hb) h1 h2)
  have HG := Lib.hid (fun (X : Row (Row Int)) w' (hb : Bel w w') h1 (hX : X.rd w') hn => catgrow2_any s X w' (hs.mono hb) h1 hX hn)
  have HR := Lib.hid hr
  have HRA : Hid (∀ y ∈ r.l, ∀ w', Bel w w' → y.ok w') := fun y hy w' hb => Cel.mono hb (hr.all y hy)
  have hrl : Hid (r.l.length = r.n) := hr.rds.len
  have hrc := hr.le
  have HCUT := Lib.hid (fun (j k : Nat) (h1 : j ≤ k) (h2 : k ≤ r.n) w' (hb : Bel w w') => cut_rd (j := j) (k := k) (hr.rds.mono hb) hr.le h1 h2)
  have HSL1' := Lib.hid (slice_from r)
  have HSL2' := Lib.hid (slice_upto r)
  have HOK : Hid (okC s.con) := ⟨hs.p0, hs.q0, hs.p1, hs.q1, hs.p2, hs.q2⟩
  have HRL1 : Hid (∀ j, ((r.cut j r.n).l.map (·.l)) = (r.l.map (·.l)).drop j) := fun j => by
    show (((r.l.drop j).take (r.n - j)).map _) = _
    rw [List.take_of_length_le (by rw [List.length_drop, hrl.out]; omega), List.map_drop]
  have HRL2 : Hid (∀ j, ((r.cut 0 j).l.map (·.l)) = (r.l.map (·.l)).take j) := fun j => by
    show (((r.l.drop 0).take (j - 0)).map _) = _
    rw [List.drop_zero, Nat.sub_zero, List.map_take]
  have H := Lib.hid (((SL.start No w).alloc s.cs 40).alloc t.cs 40)
  (try simp only [List.set_cons_zero, List.set_cons_succ, List.cons_append, List.nil_append, List.eraseIdx_cons_zero, List.eraseIdx_cons_succ, List.setIfInBounds_toArray, World.size_alloc, selR, List.getD_cons_zero, List.getD_cons_succ] at H)
  generalize hCs : s.con = C at *
  have HCs := Lib.hid hCs
  clear hCs
  generalize hSs : s.sc.con = Cs at *
  have HSs : Hid (C.sc = Cs) := by rw [← HCs.out]; exact hSs
  clear hSs
  generalize t.sc.con = Ts at *
  generalize hLs : r.l.map (·.l) = L at *
  have HLs := Lib.hid hLs
  clear hLs
  obtain ⟨c0, c1⟩ := hcut
  obtain ⟨⟨⟨A, n, c, ds⟩, ⟨MA, mn, mc, ms⟩⟩, fa, p0, q0, p1, q1, p2, q2⟩ := s
  obtain ⟨⟨⟨B, m, d, es⟩, ⟨MB, mm, md, mt⟩⟩, fb, a0, b0, a1, b1, a2, b2⟩ := t
  simp only [Ct.cs, Sch.cs] at *
  clear hs ht hr HCs
  obtain ⟨RA, rn, rc, rs⟩ := r
  simp only at *
  go_enter Try.func7, Try.ntmps7
  go_upto_region 1 with fail
  generalize w.heap.size + 1 = y at *
  generalize w.heap.size = x at *
  generalize World.alloc (World.alloc _ _) _ = w1 at *
  go_wp2_with ((with_reducible show wpList _ _ _ (⟨some 19, _, _, _, _, _⟩ :: _) _ _); (refine wpList_load_row_at rfl rowSch (.tmp 18) rfl x (0) rfl #[.slice A n c, .slice MA mn mc] rfl ((H.out.blk 0 rfl).part 0 _ rfl) ?_))
  refine (HF1.out _ H.out.to).mono ?_; rintro e w2 ⟨bf, rfl, hfew, hb2⟩
  replace H := Lib.hid (H.out.bel hb2); (try simp only [List.set_cons_zero, List.set_cons_succ, List.cons_append, List.nil_append, List.eraseIdx_cons_zero, List.eraseIdx_cons_succ, List.setIfInBounds_toArray, World.size_alloc, selR, List.getD_cons_zero, List.getD_cons_succ] at H)
  clear hb2 HF1
  cases bf with
  | false =>
    clear hfew
    go_wp2_with fail
    refine (awake18_any _).mono ?_; rintro e w8 ⟨rfl, hb8⟩
    replace H := Lib.hid (H.out.bel hb8); (try simp only [List.set_cons_zero, List.set_cons_succ, List.cons_append, List.nil_append, List.eraseIdx_cons_zero, List.eraseIdx_cons_succ, List.setIfInBounds_toArray, World.size_alloc, selR, List.getD_cons_zero, List.getD_cons_succ] at H)
    clear hb8
    go_wp2
    go_ret
    exact ⟨rfl, H.out.to⟩
  | true =>
    have HSM := Lib.hid (sms_few (hfew rfl))
    clear hfew
    go_wp2_with ((with_reducible show wpList _ _ _ (⟨some 24, _, _, _, _, _⟩ :: _) _ _); refine wpList_load_partG (by first | rfl | go_simp) rowSch (.tmp 23) (by rfl) y 0 (by rfl) #[.slice B m d, .slice MB mm md] rfl ((H.out.blk 1 rfl).part 0 _ rfl) ?_)
    refine (HF2.out _ H.out.to).mono ?_; rintro e w3 ⟨bf, rfl, hfew, hb3⟩
    replace H := Lib.hid (H.out.bel hb3); (try simp only [List.set_cons_zero, List.set_cons_succ, List.cons_append, List.nil_append, List.eraseIdx_cons_zero, List.eraseIdx_cons_succ, List.setIfInBounds_toArray, World.size_alloc, selR, List.getD_cons_zero, List.getD_cons_succ] at H)
    clear hb3 HF2
    cases bf with
    | false =>
      clear hfew
      go_wp2_with fail
      refine (awake18_any _).mono ?_; rintro e w8 ⟨rfl, hb8⟩
      replace H := Lib.hid (H.out.bel hb8); (try simp only [List.set_cons_zero, List.set_cons_succ, List.cons_append, List.nil_append, List.eraseIdx_cons_zero, List.eraseIdx_cons_succ, List.setIfInBounds_toArray, World.size_alloc, selR, List.getD_cons_zero, List.getD_cons_succ] at H)
      clear hb8
      go_wp2
      go_ret
      exact ⟨rfl, H.out.to⟩
    | true =>
      have HSN := Lib.hid (sms_few (hfew rfl))
      clear hfew
      go_wp2_with fail
      refine (HL.out _ H.out.to).mono ?_; rintro e w4 ⟨bf, rfl, hfew, hb4⟩
      replace H := Lib.hid (H.out.bel hb4); (try simp only [List.set_cons_zero, List.set_cons_succ, List.cons_append, List.nil_append, List.eraseIdx_cons_zero, List.eraseIdx_cons_succ, List.setIfInBounds_toArray, World.size_alloc, selR, List.getD_cons_zero, List.getD_cons_succ] at H)
      clear hb4 HL
      cases bf with
      | false =>
        clear hfew
        go_wp2_with fail
        refine (awake18_any _).mono ?_; rintro e w8 ⟨rfl, hb8⟩
        replace H := Lib.hid (H.out.bel hb8); (try simp only [List.set_cons_zero, List.set_cons_succ, List.cons_append, List.nil_append, List.eraseIdx_cons_zero, List.eraseIdx_cons_succ, List.setIfInBounds_toArray, World.size_alloc, selR, List.getD_cons_zero, List.getD_cons_succ] at H)
        clear hb8
        go_wp2
        go_ret
        exact ⟨rfl, H.out.to⟩
      | true =>
        have hrn := hfew rfl
        clear hfew
        go_wp2_with ((with_reducible show wpList _ _ _ (⟨some 34, _, _, _, _, _⟩ :: _) _ _); refine wpList_load_blkG (by first | rfl | go_simp) rowCt (.tmp 4) (by rfl) _ (by rfl) (H.out.blk 0 rfl) rfl ?_)
        refine (HW.out _ H.out.to HSM.out).mono ?_; rintro e w5 ⟨rfl, hb5⟩
        replace H := Lib.hid (H.out.bel hb5); (try simp only [List.set_cons_zero, List.set_cons_succ, List.cons_append, List.nil_append, List.eraseIdx_cons_zero, List.eraseIdx_cons_succ, List.setIfInBounds_toArray, World.size_alloc, selR, List.getD_cons_zero, List.getD_cons_succ] at H)
        clear hb5 HW
        by_cases hE : catErr C = 0
        · rw [hE]
          have HE := Lib.hid hE
          clear hE
          by_cases hc0 : cut < 0
          · have e0 : decide (cut < 0) = true := decide_eq_true hc0
            go_wp2_with fail
            refine (awake18_any _).mono ?_; rintro e w8 ⟨rfl, hb8⟩
            replace H := Lib.hid (H.out.bel hb8); (try simp only [List.set_cons_zero, List.set_cons_succ, List.cons_append, List.nil_append, List.eraseIdx_cons_zero, List.eraseIdx_cons_succ, List.setIfInBounds_toArray, World.size_alloc, selR, List.getD_cons_zero, List.getD_cons_succ] at H)
            clear hb8
            go_wp2
            go_ret
            exact ⟨rfl, H.out.to⟩
          · obtain ⟨j, rfl⟩ : ∃ j : Nat, cut = j := ⟨cut.toNat, by omega⟩
            have e0 : decide ((j : Int) < 0) = false := decide_eq_false hc0
            by_cases hjn : j ≤ rn
            · have e1 : decide ((rn : Int) < j) = false := decide_eq_false (by omega)
              have HSL1 := Lib.hid (HSL1'.out j hjn)
              have HSL2 := Lib.hid (HSL2'.out j (by omega))
              clear HSL1' HSL2' c0 c1 hc0
              have hs0 : schErr Cs = 0 := by rw [← HSs.out]; exact (catErr_zero HE.out).1
              go_wp2_with ((with_reducible show wpList _ _ _ (⟨some 50, _, _, _, _, _⟩ :: _) _ _); (refine wpList_load_row_at rfl rowSch (.tmp 49) rfl y (0) rfl #[.slice B m d, .slice MB mm md] rfl ((H.out.blk 1 rfl).part 0 _ rfl) ?_))
              refine (HW2.out _ H.out.to HSN.out).mono ?_; rintro e w6 ⟨rfl, hb6⟩
              replace H := Lib.hid (H.out.bel hb6); (try simp only [List.set_cons_zero, List.set_cons_succ, List.cons_append, List.nil_append, List.eraseIdx_cons_zero, List.eraseIdx_cons_succ, List.setIfInBounds_toArray, World.size_alloc, selR, List.getD_cons_zero, List.getD_cons_succ] at H)
              clear hb6 HW2 e0 e1
              have HSame : Hid (sameCat Cs Ts = (decide (schErr Ts = 0) && sameS Cs Ts)) := by show _ = _; unfold sameCat; rw [hs0]; simp
              clear hs0
              by_cases hT : schErr Ts = 0
              · have HB : Hid (sameCat Cs Ts = sameS Cs Ts) := by show _ = _; rw [HSame.out, hT]; simp
                rw [hT]
                clear hT HSame
                go_wp2_with (first | ((with_reducible show wpList _ _ _ (⟨some 55, _, _, _, _, _⟩ :: _) _ _); refine wpList_load_partG (by first | rfl | go_simp) rowSch (.tmp 54) (by rfl) x 0 (by rfl) #[.slice A n c, .slice MA mn mc] rfl ((H.out.blk 0 rfl).part 0 _ rfl) ?_) | ((with_reducible show wpList _ _ _ (⟨some 57, _, _, _, _, _⟩ :: _) _ _); refine wpList_load_partG (by first | rfl | go_simp) rowSch (.tmp 56) (by rfl) y 0 (by rfl) #[.slice B m d, .slice MB mm md] rfl ((H.out.blk 1 rfl).part 0 _ rfl) ?_))
                refine (HSS.out _ H.out.to).mono ?_; rintro e w7 ⟨rfl, hb7⟩
                replace H := Lib.hid (H.out.bel hb7); (try simp only [List.set_cons_zero, List.set_cons_succ, List.cons_append, List.nil_append, List.eraseIdx_cons_zero, List.eraseIdx_cons_succ, List.setIfInBounds_toArray, World.size_alloc, selR, List.getD_cons_zero, List.getD_cons_succ] at H)
                clear hb7 HSS
                generalize sameS Cs Ts = bb at *
                rw [HB.out] at HCS
                have ebb : (bb != bb) = false := by simp
                go_wp2_with (first | ((with_reducible show wpList _ _ _ (⟨some 60, _, _, _, _, _⟩ :: _) _ _); (refine wpList_load_blk rfl rowCt (.tmp 4) rfl _ rfl (H.out.blk 0 rfl) rfl ?_)) | ((with_reducible show wpList _ _ _ (⟨some 61, _, _, _, _, _⟩ :: _) _ _); (refine wpList_load_blk rfl rowCt (.tmp 5) rfl _ rfl (H.out.blk 1 rfl) rfl ?_)))
                refine (HCS.out _ H.out.to HSM.out HSN.out).mono ?_; rintro e w8 ⟨rfl, hb8⟩
                replace H := Lib.hid (H.out.bel hb8); (try simp only [List.set_cons_zero, List.set_cons_succ, List.cons_append, List.nil_append, List.eraseIdx_cons_zero, List.eraseIdx_cons_succ, List.setIfInBounds_toArray, World.size_alloc, selR, List.getD_cons_zero, List.getD_cons_succ] at H)
                clear hb8 HCS HSN HB
                go_wp2_with fail
                clear ebb
                replace H := Lib.hid (H.out.addNil 64 1); (try simp only [List.set_cons_zero, List.set_cons_succ, List.cons_append, List.nil_append, List.eraseIdx_cons_zero, List.eraseIdx_cons_succ, List.setIfInBounds_toArray, World.size_alloc, selR, List.getD_cons_zero, List.getD_cons_succ] at H)
                have HG' := Lib.hid (fun X w' hb hX hn => HG.out X w' hb HSM.out hX hn)
                clear HG HSM
                go_loopg [10, 67] rn (fun gg v i wr => ∃ (k : Nat) (E : Option Addr) (ce : Nat), gg = rn - k ∧ k ≤ rn ∧ v = .slice E k ce ∧ i = .int .i64 k ∧ Hid (SL No w wr [rBlk x 40 #[.slice A n c, .slice MA mn mc, .int .i64 fa, .int .i64 p0, .int .i64 q0, .int .i64 p1, .int .i64 q1, .int .i64 p2, .int .i64 q2], rBlk y 40 #[.slice B m d, .slice MB mm md, .int .i64 fb, .int .i64 a0, .int .i64 b0, .int .i64 a1, .int .i64 b1, .int .i64 a2, .int .i64 b2], rRow 64 1 (.slice E k ce) k ((rs.reverse.take k).map Row.v)]))
                case atStart => exact ⟨0, none, 0, rfl, by omega, rfl, rfl, H⟩
                case round =>
                  clear H
                  obtain ⟨k, E, ce, hgk, hk, rfl, rfl, H⟩ := hrel
                  have Hgk := Lib.hid hgk
                  clear hgk
                  by_cases hlt : k < rn
                  · obtain ⟨i, hi⟩ : ∃ i : Nat, i + k + 1 = rn := ⟨rn - k - 1, by omega⟩
                    have hi2 : (rn : Int) - 1 - k = i := by omega
                    obtain ⟨bx, ox, yr, hA, hyk, hyok, q1⟩ := (HR.out.rds.mono H.out.to).slRow (k := i) (by show i < rn; omega)
                    simp only at hA
                    subst hA
                    have HREV : Hid ((rs.reverse.take (k + 1)).map Row.v = (rs.reverse.take k).map Row.v ++ [yr.v]) := by
                      have h5 : rs.reverse[k]? = some yr := by
                        rw [List.getElem?_reverse (by rw [hrl.out]; exact hlt), hrl.out, show rn - 1 - k = i by omega]
                        exact hyk
                      show _ = _
                      rw [take_snoc_get h5, List.map_append]
                      rfl
                    have y63 := hyok.rds.n63
                    have i0 : (0 : Int) ≤ i := by omega
                    have i1 : (i : Int) < rn := by omega
                    clear hyk hyok
                    obtain ⟨YA, yn, yc, ys⟩ := yr
                    simp only at *
                    go_wp2_with ((with_reducible show wpList _ _ _ (⟨some 80, _, _, _, _, _⟩ :: _) _ _); (replace H := Lib.hid (H.out.alloc #[(.slice YA yn yc)] 64); (try simp only [List.set_cons_zero, List.set_cons_succ, List.cons_append, List.nil_append, List.eraseIdx_cons_zero, List.eraseIdx_cons_succ, List.setIfInBounds_toArray, World.size_alloc, selR, List.getD_cons_zero, List.getD_cons_succ] at H); refine wpList_append0 rfl (.tmp 70) (.tmp 79) _ rfl E_i64s 0 (Nat.zero_le _) _ k _ rfl (H.out.row 2 rfl) _ 1 1 [(.slice YA yn yc)] rfl (reads_of_block (H.out.blk 3 rfl) rfl) (by simp [Value.oneCell']) (by unfold maxLen; omega) (by omega) ?_; intro vq wq howq hgq hatq; replace H := Lib.hid (H.out.setRow 2 rfl hgq howq hatq); (try simp only [List.set_cons_zero, List.set_cons_succ, List.cons_append, List.nil_append, List.eraseIdx_cons_zero, List.eraseIdx_cons_succ, List.setIfInBounds_toArray, World.size_alloc, selR, List.getD_cons_zero, List.getD_cons_succ] at H); clear howq hgq hatq; obtain ⟨E2, ce2, rfl, _⟩ := own_slice (H.out.row 2 rfl)))
                    replace H := Lib.hid (H.out.sel [0, 1, 2] (by decide) (by simp)); (try simp only [List.set_cons_zero, List.set_cons_succ, List.cons_append, List.nil_append, List.eraseIdx_cons_zero, List.eraseIdx_cons_succ, List.setIfInBounds_toArray, World.size_alloc, selR, List.getD_cons_zero, List.getD_cons_succ] at H)
                    clear q1 hi2
                    go_wp2_with fail
                    go_roundg (rn - (k + 1))
                    case rel => exact ⟨k + 1, E2, ce2, rfl, by omega, rfl, by go_num, by rw [HREV.out]; exact H⟩
                    case measure => rw [Hgk.out]; omega
                  · obtain rfl : k = rn := by omega
                    have hback : Hid (rs.reverse.take k = rs.reverse) := List.take_of_length_le (by rw [List.length_reverse, hrl.out]; omega)
                    rw [hback.out] at H
                    clear hback
                    have HBK := Lib.hid (fun w' (hb : Bel w w') (hr : w'.ownsRow 0 64 1 (.slice E k ce) k (rs.reverse.map Row.v)) => (show (⟨E, k, ce, rs.reverse⟩ : Row (Row Int)).rd w' from ⟨by have := Rd.of_own hr; rw [flat_rows]; exact this, fun y hy => HRA.out y (List.mem_reverse.1 hy) w' hb, by show k ≤ _; omega⟩))
                    obtain ⟨⟨o1, k1⟩, ho1⟩ : ∃ o, o = catGrow C L := ⟨_, rfl⟩
                    obtain ⟨⟨o2, k2⟩, ho2⟩ : ∃ o, o = catGrow C L.reverse := ⟨_, rfl⟩
                    obtain ⟨⟨o3, k3⟩, ho3⟩ : ∃ o, o = catGrow C (L.drop j) := ⟨_, rfl⟩
                    obtain ⟨⟨o4, k4⟩, ho4⟩ : ∃ o, o = catGrow o3 (L.take j) := ⟨_, rfl⟩
                    have HP : Hid ((k1 = 0 ↔ k2 = 0) ∧ (k1 = 0 → o2 = o1)) := by
                      have h := catGrow_perm HE.out HOK.out (l := L) (l' := L.reverse) (List.reverse_perm L).symm
                      rw [← ho1, ← ho2] at h
                      exact ⟨h.1, fun h0 => (congrArg Prod.fst (h.2 h0)).symm⟩
                    have HQ : Hid ((k1 = 0 ↔ k3 = 0 ∧ k4 = 0) ∧ (k1 = 0 → o4 = o1)) := by
                      have h := catGrow_two HE.out HOK.out (L.take j) (L.drop j)
                      rw [List.take_append_drop, ← ho1, ← ho3] at h
                      have e4 : catGrow (o3, k3).1 (L.take j) = (o4, k4) := ho4.symm
                      rw [e4] at h
                      exact ⟨h.1, fun h0 => congrArg Prod.fst (h.2 h0)⟩
                    have HG1 : Hid (∀ w', Bel w w' → Calls Try.prog 20 #[.agg #[.slice A n c, .slice MA mn mc, .int .i64 fa, .int .i64 p0, .int .i64 q0, .int .i64 p1, .int .i64 q1, .int .i64 p2, .int .i64 q2], .slice RA k rc] w' (CatPost2 (o1, k1) w')) := fun w' hb => by
                      have h := HG'.out ⟨RA, k, rc, rs⟩ w' hb (HR.out.rds.mono hb) (by show k ≤ _; omega)
                      rw [show catGrow C ((⟨RA, k, rc, rs⟩ : Row (Row Int)).l.map (·.l)) = (o1, k1) from by rw [ho1, ← HLs.out]] at h
                      exact h
                    have HG2 : Hid (∀ w', Bel w w' → w'.ownsRow 0 64 1 (.slice E k ce) k (rs.reverse.map Row.v) → Calls Try.prog 20 #[.agg #[.slice A n c, .slice MA mn mc, .int .i64 fa, .int .i64 p0, .int .i64 q0, .int .i64 p1, .int .i64 q1, .int .i64 p2, .int .i64 q2], .slice E k ce] w' (CatPost2 (o2, k2) w')) := fun w' hb hX => by
                      have h := HG'.out ⟨E, k, ce, rs.reverse⟩ w' hb (HBK.out w' hb hX) (by show k ≤ _; omega)
                      rw [show catGrow C ((⟨E, k, ce, rs.reverse⟩ : Row (Row Int)).l.map (·.l)) = (o2, k2) from by rw [ho2, ← HLs.out, ← List.map_reverse]] at h
                      exact h
                    have HG3 := HCUT.out j k hjn (Nat.le_refl _)
                    have HG4 := HCUT.out 0 j (Nat.zero_le _) hjn
                    have hR1 := HRL1.out j
                    have hR2 := HRL2.out j
                    clear HCUT HRL1 HRL2 HBK
                    have hz1 : ((⟨RA, k, rc, rs⟩ : Row (Row Int)).cut j k).n ≤ 1000000 := by show k - j ≤ _; omega
                    have hz2 : ((⟨RA, k, rc, rs⟩ : Row (Row Int)).cut 0 j).n ≤ 1000000 := by show j - 0 ≤ _; omega
                    generalize (⟨RA, k, rc, rs⟩ : Row (Row Int)).cut j k = R1 at *
                    generalize (⟨RA, k, rc, rs⟩ : Row (Row Int)).cut 0 j = R2 at *
                    obtain ⟨RA1, ra1, ca1, la1⟩ := R1
                    obtain ⟨RB1, rb1, cb1, lb1⟩ := R2
                    simp only at *
                    replace HG3 : Hid (∀ w', Bel w w' → Calls Try.prog 20 #[.agg #[.slice A n c, .slice MA mn mc, .int .i64 fa, .int .i64 p0, .int .i64 q0, .int .i64 p1, .int .i64 q1, .int .i64 p2, .int .i64 q2], .slice RA1 ra1 ca1] w' (CatPost2 (o3, k3) w')) := fun w' hb => by
                      have h := HG'.out ⟨RA1, ra1, ca1, la1⟩ w' hb (HG3 w' hb) hz1
                      rw [show catGrow C ((⟨RA1, ra1, ca1, la1⟩ : Row (Row Int)).l.map (·.l)) = (o3, k3) from by rw [ho3, ← hR1]] at h
                      exact h
                    replace HG4 : Hid (∀ (Z : Ct) w', Bel w w' → Z.rd w' → SmS Z.sc → Z.con = o3 → Calls Try.prog 20 #[.agg Z.cs, .slice RB1 rb1 cb1] w' (CatPost2 (o4, k4) w')) := fun Z w' hb hZ hs hc => by
                      have h := catgrow2_any Z ⟨RB1, rb1, cb1, lb1⟩ w' hZ hs (HG4 w' hb) hz2
                      rw [show catGrow Z.con ((⟨RB1, rb1, cb1, lb1⟩ : Row (Row Int)).l.map (·.l)) = (o4, k4) from by rw [hc, ho4, ← hR2]] at h
                      exact h
                    clear hz1 hz2 hR1 hR2 ho1 ho2 ho3 ho4 HG' HR HRA hrl HLs
                    go_wp2_with ((with_reducible show wpList _ _ _ (⟨some 83, _, _, _, _, _⟩ :: _) _ _); (refine wpList_load_blk rfl rowCt (.tmp 4) rfl _ rfl (H.out.blk 0 rfl) rfl ?_))
                    refine (HG1.out _ H.out.to).mono ?_; rintro e w9 ⟨X, rfl, hC, hR, hS, hb9, hN⟩
                    replace H := Lib.hid (H.out.add hb9 _ hN.1 hN.2); (try simp only [List.set_cons_zero, List.set_cons_succ, List.cons_append, List.nil_append, List.eraseIdx_cons_zero, List.eraseIdx_cons_succ, List.setIfInBounds_toArray, World.size_alloc, selR, List.getD_cons_zero, List.getD_cons_succ] at H)
                    have HC1 := Lib.hid hC
                    have HI1 := Lib.hid hR.ints
                    have HS1 := Lib.hid hS
                    have HR1 := Lib.hid hR
                    clear hC hR hS hb9 hN
                    obtain ⟨⟨⟨A1, n1, c1, l1⟩, ⟨M1, m1, d1, k1'⟩⟩, f1, p10, q10, p11, q11, p12, q12⟩ := X
                    simp only [Ct.cs, Sch.cs] at *
                    clear HG1
                    go_upto_region 13 with ((with_reducible show wpList _ _ _ (⟨_, .store _ (.tmp 12) _, _, _, _, _⟩ :: _) _ _); (refine wpList_store_new rfl rowCt (.tmp 12) (.tmp 86) rfl rfl rfl (#[.slice A1 n1 c1, .slice M1 m1 d1, .int .i64 f1, .int .i64 p10, .int .i64 q10, .int .i64 p11, .int .i64 q11, .int .i64 p12, .int .i64 q12]) rfl rfl (by simp [Value.oneCell']) ?_; replace H := Lib.hid (H.out.alloc (#[.slice A1 n1 c1, .slice M1 m1 d1, .int .i64 f1, .int .i64 p10, .int .i64 q10, .int .i64 p11, .int .i64 q11, .int .i64 p12, .int .i64 q12]) 40); (try simp only [List.set_cons_zero, List.set_cons_succ, List.cons_append, List.nil_append, List.eraseIdx_cons_zero, List.eraseIdx_cons_succ, List.setIfInBounds_toArray, World.size_alloc, selR, List.getD_cons_zero, List.getD_cons_succ] at H)))
                    (try simp only [Act.put, List.setIfInBounds_toArray, List.set_cons_zero, List.set_cons_succ])
                    generalize w9.heap.size = z1 at *
                    generalize World.alloc w9 _ = w10 at *
                    go_wp2_with ((with_reducible show wpList _ _ _ (⟨some 89, _, _, _, _, _⟩ :: _) _ _); (refine wpList_load_blk rfl rowCt (.tmp 4) rfl _ rfl (H.out.blk 0 rfl) rfl ?_))
                    refine (HG2.out _ H.out.to (own_zero (H.out.row 2 rfl))).mono ?_; rintro e w11 ⟨Y, rfl, hC, hR, hS, hb11, hN⟩
                    replace H := Lib.hid (H.out.add hb11 _ hN.1 hN.2); (try simp only [List.set_cons_zero, List.set_cons_succ, List.cons_append, List.nil_append, List.eraseIdx_cons_zero, List.eraseIdx_cons_succ, List.setIfInBounds_toArray, World.size_alloc, selR, List.getD_cons_zero, List.getD_cons_succ] at H)
                    have HC2 := Lib.hid hC
                    have HI2 := Lib.hid hR.ints
                    have HS2 := Lib.hid hS
                    have HR2 := Lib.hid hR
                    clear hC hR hS hb11 hN
                    obtain ⟨⟨⟨A2, n2, c2, l2⟩, ⟨M2, m2, d2, k2'⟩⟩, f2, p20, q20, p21, q21, p22, q22⟩ := Y
                    simp only [Ct.cs, Sch.cs] at *
                    clear HG2
                    go_upto_region 14 with ((with_reducible show wpList _ _ _ (⟨_, .store _ (.tmp 14) _, _, _, _, _⟩ :: _) _ _); (refine wpList_store_new rfl rowCt (.tmp 14) (.tmp 92) rfl rfl rfl (#[.slice A2 n2 c2, .slice M2 m2 d2, .int .i64 f2, .int .i64 p20, .int .i64 q20, .int .i64 p21, .int .i64 q21, .int .i64 p22, .int .i64 q22]) rfl rfl (by simp [Value.oneCell']) ?_; replace H := Lib.hid (H.out.alloc (#[.slice A2 n2 c2, .slice M2 m2 d2, .int .i64 f2, .int .i64 p20, .int .i64 q20, .int .i64 p21, .int .i64 q21, .int .i64 p22, .int .i64 q22]) 40); (try simp only [List.set_cons_zero, List.set_cons_succ, List.cons_append, List.nil_append, List.eraseIdx_cons_zero, List.eraseIdx_cons_succ, List.setIfInBounds_toArray, World.size_alloc, selR, List.getD_cons_zero, List.getD_cons_succ] at H)))
                    (try simp only [Act.put, List.setIfInBounds_toArray, List.set_cons_zero, List.set_cons_succ])
                    generalize w11.heap.size = z2 at *
                    generalize World.alloc w11 _ = w6 at *
                    refine wp_region_held_drew (S := fun w => w.cell? ⟨x, 0, none⟩ = some (.slice A n c) ∧ w.cell? ⟨x, 1, none⟩ = some (.slice MA mn mc) ∧ w.cell? ⟨x, 2, none⟩ = some (.int .i64 fa) ∧ w.cell? ⟨x, 3, none⟩ = some (.int .i64 p0) ∧ w.cell? ⟨x, 4, none⟩ = some (.int .i64 q0) ∧ w.cell? ⟨x, 5, none⟩ = some (.int .i64 p1) ∧ w.cell? ⟨x, 6, none⟩ = some (.int .i64 q1) ∧ w.cell? ⟨x, 7, none⟩ = some (.int .i64 p2) ∧ w.cell? ⟨x, 8, none⟩ = some (.int .i64 q2)) (by kernel_rfl) (by exact ⟨(H.out.blk 0 rfl).cell 0, (H.out.blk 0 rfl).cell 1, (H.out.blk 0 rfl).cell 2, (H.out.blk 0 rfl).cell 3, (H.out.blk 0 rfl).cell 4, (H.out.blk 0 rfl).cell 5, (H.out.blk 0 rfl).cell 6, (H.out.blk 0 rfl).cell 7, (H.out.blk 0 rfl).cell 8⟩) (fun hHeld => ?_)
                    replace H := Lib.hid (H.out.drew); (try simp only [List.set_cons_zero, List.set_cons_succ, List.cons_append, List.nil_append, List.eraseIdx_cons_zero, List.eraseIdx_cons_succ, List.setIfInBounds_toArray, World.size_alloc, selR, List.getD_cons_zero, List.getD_cons_succ] at H)
                    refine wpAnyH_take (i := 0) (v := ?vq1_0) (get_o0) (by kernel_rfl) (by kernel_rfl) (by kernel_rfl) (by exact fun _ _ _ h => h) (Or.inl ⟨by rfl, ?hyq1_0⟩) (by assumption) ?_
                    case hyq1_0 => (intro w hSw; (try dsimp only at hSw); go_simp) <;> with_reducible rfl
                    try simp only [Act.put, List.setIfInBounds_toArray, List.set_cons_zero, List.set_cons_succ]
                    refine wpAnyH_take (i := 1) (v := ?vq1_1) (get_os (get_o0)) (by kernel_rfl) (by kernel_rfl) (by kernel_rfl) (by exact fun _ _ _ h => h) (Or.inl ⟨by rfl, ?hyq1_1⟩) (by assumption) ?_
                    case hyq1_1 => (intro w hSw; (try dsimp only at hSw); go_simp) <;> with_reducible rfl
                    try simp only [Act.put, List.setIfInBounds_toArray, List.set_cons_zero, List.set_cons_succ]
                    refine wpAnyH_take (i := 2) (v := ?vq1_2) (get_os (get_os (get_o0))) (by kernel_rfl) (by kernel_rfl) (by kernel_rfl) (by exact fun _ _ _ h => h) (Or.inl ⟨by rfl, ?hyq1_2⟩) (by assumption) ?_
                    case hyq1_2 => (intro w hSw; (try dsimp only at hSw); go_simp) <;> with_reducible rfl
                    try simp only [Act.put, List.setIfInBounds_toArray, List.set_cons_zero, List.set_cons_succ]
                    refine wpAnyH_take (i := 3) (v := .slice RA1 ra1 ca1) (get_os (get_os (get_os (get_o0)))) (by kernel_rfl) (by kernel_rfl) (by kernel_rfl) (by exact fun _ _ _ h => h) (yields_slice (by rfl) (.tmp 96) (some (.tmp 97)) none rfl (fun w => HSL1.out w)) (by assumption) ?_
                    try simp only [Act.put, List.setIfInBounds_toArray, List.set_cons_zero, List.set_cons_succ]
                    refine wpAnyH_ready (rs := [4, 8]) (by kernel_rfl) (by simp) ?_
                    refine (AllReadyH.cons (get_os (get_os (get_os (get_os (get_o0))))) (fun KK hKK => ?_) (AllReadyH.cons (get_os (get_os (get_os (get_os (get_os (get_os (get_os (get_os (get_o0))))))))) (fun KK hKK => ?_) AllReadyH.nil))
                    · go_simp
                      refine (HG3.out _ H.out.to).mono ?_; rintro e w7 ⟨Z, rfl, hC, hR, hS, hb7, hN⟩
                      replace H := Lib.hid (H.out.add hb7 _ hN.1 hN.2); (try simp only [List.set_cons_zero, List.set_cons_succ, List.cons_append, List.nil_append, List.eraseIdx_cons_zero, List.eraseIdx_cons_succ, List.setIfInBounds_toArray, World.size_alloc, selR, List.getD_cons_zero, List.getD_cons_succ] at H)
                      have HC3 := Lib.hid hC
                      have HI3 := Lib.hid hR.ints
                      have HS3 := Lib.hid hS
                      have HR3 := Lib.hid hR
                      clear hC hR hS hb7 hN
                      obtain ⟨⟨⟨A3, n3, c3, l3⟩, ⟨M3, m3, d3, k3'⟩⟩, f3, p30, q30, p31, q31, p32, q32⟩ := Z
                      simp only [Ct.cs, Sch.cs] at *
                      refine hKK.out _ _ (by exact ⟨(H.out.blk 0 rfl).cell 0, (H.out.blk 0 rfl).cell 1, (H.out.blk 0 rfl).cell 2, (H.out.blk 0 rfl).cell 3, (H.out.blk 0 rfl).cell 4, (H.out.blk 0 rfl).cell 5, (H.out.blk 0 rfl).cell 6, (H.out.blk 0 rfl).cell 7, (H.out.blk 0 rfl).cell 8⟩) (fun hHeld => ?_)
                      clear hKK KK
                      try simp only [Act.put, List.setIfInBounds_toArray, List.set_cons_zero, List.set_cons_succ]
                      refine wpAnyH_take (i := 5) (v := ?vq2_) (get_os (get_os (get_os (get_os (get_os (get_o0)))))) (by kernel_rfl) (by kernel_rfl) (by kernel_rfl) (by exact fun _ _ _ h => h) (Or.inl ⟨by rfl, ?hyq2_⟩) (by assumption) ?_
                      case hyq2_ => (intro w hSw; (try dsimp only at hSw); go_simp) <;> with_reducible rfl
                      try simp only [Act.put, List.setIfInBounds_toArray, List.set_cons_zero, List.set_cons_succ]
                      refine wpAnyH_take (i := 6) (v := ?vq3_) (get_os (get_os (get_os (get_os (get_os (get_os (get_o0))))))) (by kernel_rfl) (by kernel_rfl) (by kernel_rfl) (by exact fun _ _ _ h => h) (Or.inl ⟨by rfl, ?hyq3_⟩) (by assumption) ?_
                      case hyq3_ => (intro w hSw; (try dsimp only at hSw); go_simp) <;> with_reducible rfl
                      try simp only [Act.put, List.setIfInBounds_toArray, List.set_cons_zero, List.set_cons_succ]
                      refine wpAnyH_take (i := 7) (v := ?vq4_) (get_os (get_os (get_os (get_os (get_os (get_os (get_os (get_o0)))))))) (by kernel_rfl) (by kernel_rfl) (by kernel_rfl) (by exact fun _ _ _ h => h) (Or.inl ⟨by rfl, ?hyq4_⟩) (by assumption) ?_
                      case hyq4_ => (intro w hSw; (try dsimp only at hSw); go_simp) <;> with_reducible rfl
                      try simp only [Act.put, List.setIfInBounds_toArray, List.set_cons_zero, List.set_cons_succ]
                      refine wpAnyH_ready (rs := [8]) (by kernel_rfl) (by simp) ?_
                      refine (AllReadyH.cons (get_os (get_os (get_os (get_os (get_os (get_os (get_os (get_os (get_o0))))))))) (fun KK hKK => ?_) AllReadyH.nil)
                      go_simp
                      replace H := Lib.hid (H.out.alloc #[.slice none 0 0, .slice none 0 0, .int .i64 0, .int .i64 0, .int .i64 0, .int .i64 0, .int .i64 0, .int .i64 0, .int .i64 0] 40); (try simp only [List.set_cons_zero, List.set_cons_succ, List.cons_append, List.nil_append, List.eraseIdx_cons_zero, List.eraseIdx_cons_succ, List.setIfInBounds_toArray, World.size_alloc, selR, List.getD_cons_zero, List.getD_cons_succ] at H)
                      refine hKK.out _ _ (by exact ⟨(H.out.blk 0 rfl).cell 0, (H.out.blk 0 rfl).cell 1, (H.out.blk 0 rfl).cell 2, (H.out.blk 0 rfl).cell 3, (H.out.blk 0 rfl).cell 4, (H.out.blk 0 rfl).cell 5, (H.out.blk 0 rfl).cell 6, (H.out.blk 0 rfl).cell 7, (H.out.blk 0 rfl).cell 8⟩) (fun hHeld => ?_)
                      clear hKK KK
                      try simp only [Act.put, List.setIfInBounds_toArray, List.set_cons_zero, List.set_cons_succ]
                      refine wpAnyH_ready (rs := [9]) (by kernel_rfl) (by simp) ?_
                      refine (AllReadyH.cons (get_os (get_os (get_os (get_os (get_os (get_os (get_os (get_os (get_os (get_o0)))))))))) (fun KK hKK => ?_) AllReadyH.nil)
                      generalize w7.heap.size = z at *
                      generalize World.alloc w7 _ = w8 at *
                      refine step_store_blk rfl rowCt (.tmp 16) (.tmp 100) rfl _ rfl (H.out.blk 8 rfl) rfl (#[.slice A3 n3 c3, .slice M3 m3 d3, .int .i64 f3, .int .i64 p30, .int .i64 q30, .int .i64 p31, .int .i64 q31, .int .i64 p32, .int .i64 q32]) rfl rfl (by simp [Value.oneCell']) ?_
                      intro wq bq hgq
                      replace H := Lib.hid (H.out.setBlk 8 rfl hgq bq); (try simp only [List.set_cons_zero, List.set_cons_succ, List.cons_append, List.nil_append, List.eraseIdx_cons_zero, List.eraseIdx_cons_succ, List.setIfInBounds_toArray, World.size_alloc, selR, List.getD_cons_zero, List.getD_cons_succ] at H)
                      clear hgq bq
                      replace H := Lib.hid (H.out.sel [0, 1, 2, 3, 4, 5, 6, 8, 7] (by decide) (by simp)); (try simp only [List.set_cons_zero, List.set_cons_succ, List.cons_append, List.nil_append, List.eraseIdx_cons_zero, List.eraseIdx_cons_succ, List.setIfInBounds_toArray, World.size_alloc, selR, List.getD_cons_zero, List.getD_cons_succ] at H)
                      refine hKK.out _ _ (by exact ⟨(H.out.blk 0 rfl).cell 0, (H.out.blk 0 rfl).cell 1, (H.out.blk 0 rfl).cell 2, (H.out.blk 0 rfl).cell 3, (H.out.blk 0 rfl).cell 4, (H.out.blk 0 rfl).cell 5, (H.out.blk 0 rfl).cell 6, (H.out.blk 0 rfl).cell 7, (H.out.blk 0 rfl).cell 8⟩) (fun hHeld => ?_)
                      clear hKK KK
                      try simp only [Act.put, List.setIfInBounds_toArray, List.set_cons_zero, List.set_cons_succ]
                      refine wpAnyH_ready (rs := [10]) (by kernel_rfl) (by simp) ?_
                      refine (AllReadyH.cons (get_ot (get_o0)) (fun KK hKK => ?_) AllReadyH.nil)
                      go_simp
                      refine hKK.out _ _ (by exact ⟨(H.out.blk 0 rfl).cell 0, (H.out.blk 0 rfl).cell 1, (H.out.blk 0 rfl).cell 2, (H.out.blk 0 rfl).cell 3, (H.out.blk 0 rfl).cell 4, (H.out.blk 0 rfl).cell 5, (H.out.blk 0 rfl).cell 6, (H.out.blk 0 rfl).cell 7, (H.out.blk 0 rfl).cell 8⟩) (fun hHeld => ?_)
                      clear hKK KK
                      try simp only [Act.put, List.setIfInBounds_toArray, List.set_cons_zero, List.set_cons_succ]
                      refine wpAnyH_done (by kernel_rfl) ?_ _
                      clear hHeld
                      by_cases h3 : k3 = 0
                      · have e3 : (k3 == 0) = true := by simp [h3]
                        have H3 := Lib.hid h3
                        go_upto_region 16 with fail
                        (try simp only [Act.put, List.setIfInBounds_toArray, List.set_cons_zero, List.set_cons_succ])
                        clear e3
                        replace h3 := H3.out
                        clear H3
                        refine wp_region_held_drew (S := fun w => w.cell? ⟨x, 0, none⟩ = some (.slice A n c) ∧ w.cell? ⟨x, 1, none⟩ = some (.slice MA mn mc) ∧ w.cell? ⟨x, 2, none⟩ = some (.int .i64 fa) ∧ w.cell? ⟨x, 3, none⟩ = some (.int .i64 p0) ∧ w.cell? ⟨x, 4, none⟩ = some (.int .i64 q0) ∧ w.cell? ⟨x, 5, none⟩ = some (.int .i64 p1) ∧ w.cell? ⟨x, 6, none⟩ = some (.int .i64 q1) ∧ w.cell? ⟨x, 7, none⟩ = some (.int .i64 p2) ∧ w.cell? ⟨x, 8, none⟩ = some (.int .i64 q2)) (by kernel_rfl) (by exact ⟨(H.out.blk 0 rfl).cell 0, (H.out.blk 0 rfl).cell 1, (H.out.blk 0 rfl).cell 2, (H.out.blk 0 rfl).cell 3, (H.out.blk 0 rfl).cell 4, (H.out.blk 0 rfl).cell 5, (H.out.blk 0 rfl).cell 6, (H.out.blk 0 rfl).cell 7, (H.out.blk 0 rfl).cell 8⟩) (fun hHeld => ?_)
                        replace H := Lib.hid (H.out.drew); (try simp only [List.set_cons_zero, List.set_cons_succ, List.cons_append, List.nil_append, List.eraseIdx_cons_zero, List.eraseIdx_cons_succ, List.setIfInBounds_toArray, World.size_alloc, selR, List.getD_cons_zero, List.getD_cons_succ] at H)
                        refine wpAnyH_take (i := 1) (v := ?vq5_1) (get_os (get_o0)) (by kernel_rfl) (by kernel_rfl) (by kernel_rfl) (by exact fun _ _ _ h => h) (Or.inl ⟨by rfl, ?hyq5_1⟩) (by assumption) ?_
                        case hyq5_1 => (intro w hSw; (try dsimp only at hSw); go_simp) <;> with_reducible rfl
                        try simp only [Act.put, List.setIfInBounds_toArray, List.set_cons_zero, List.set_cons_succ]
                        refine wpAnyH_take (i := 2) (v := ?vq5_2) (get_os (get_os (get_o0))) (by kernel_rfl) (by kernel_rfl) (by kernel_rfl) (by exact fun _ _ _ h => h) (Or.inl ⟨by rfl, ?hyq5_2⟩) (by assumption) ?_
                        case hyq5_2 => (intro w hSw; (try dsimp only at hSw); go_simp) <;> with_reducible rfl
                        try simp only [Act.put, List.setIfInBounds_toArray, List.set_cons_zero, List.set_cons_succ]
                        refine wpAnyH_take (i := 3) (v := .slice RB1 rb1 cb1) (get_os (get_os (get_os (get_o0)))) (by kernel_rfl) (by kernel_rfl) (by kernel_rfl) (by exact fun _ _ _ h => h) (yields_slice (by rfl) (.tmp 106) none (some (.tmp 107)) rfl (fun w => HSL2.out w)) (by assumption) ?_
                        try simp only [Act.put, List.setIfInBounds_toArray, List.set_cons_zero, List.set_cons_succ]
                        refine wpAnyH_ready (rs := [0]) (by kernel_rfl) (by simp) ?_
                        refine (AllReadyH.cons (get_o0) (fun KK hKK => ?_) AllReadyH.nil)
                        refine step_load_blk rfl rowCt (.tmp 16) rfl _ rfl (H.out.blk 7 rfl) rfl ?_
                        refine hKK.out _ _ (by exact ⟨(H.out.blk 0 rfl).cell 0, (H.out.blk 0 rfl).cell 1, (H.out.blk 0 rfl).cell 2, (H.out.blk 0 rfl).cell 3, (H.out.blk 0 rfl).cell 4, (H.out.blk 0 rfl).cell 5, (H.out.blk 0 rfl).cell 6, (H.out.blk 0 rfl).cell 7, (H.out.blk 0 rfl).cell 8⟩) (fun hHeld => ?_)
                        clear hKK KK
                        try simp only [Act.put, List.setIfInBounds_toArray, List.set_cons_zero, List.set_cons_succ]
                        refine wpAnyH_ready (rs := [4]) (by kernel_rfl) (by simp) ?_
                        refine (AllReadyH.cons (get_os (get_os (get_os (get_os (get_o0))))) (fun KK hKK => ?_) AllReadyH.nil)
                        go_simp
                        refine (HG4.out ⟨⟨⟨A3, n3, c3, l3⟩, ⟨M3, m3, d3, k3'⟩⟩, f3, p30, q30, p31, q31, p32, q32⟩ _ H.out.to (HI3.out.rd (H.out.at_ 8 rfl)) HS3.out HC3.out).mono ?_; rintro e w9 ⟨V, rfl, hC, hR, hS, hb9, hN⟩
                        replace H := Lib.hid (H.out.add hb9 _ hN.1 hN.2); (try simp only [List.set_cons_zero, List.set_cons_succ, List.cons_append, List.nil_append, List.eraseIdx_cons_zero, List.eraseIdx_cons_succ, List.setIfInBounds_toArray, World.size_alloc, selR, List.getD_cons_zero, List.getD_cons_succ] at H)
                        have HC4 := Lib.hid hC
                        have HI4 := Lib.hid hR.ints
                        have HS4 := Lib.hid hS
                        have HR4 := Lib.hid hR
                        clear hC hR hS hb9 hN
                        obtain ⟨⟨⟨A4, n4, c4, l4⟩, ⟨M4, m4, d4, k4'⟩⟩, f4, p40, q40, p41, q41, p42, q42⟩ := V
                        simp only [Ct.cs, Sch.cs] at *
                        refine hKK.out _ _ (by exact ⟨(H.out.blk 0 rfl).cell 0, (H.out.blk 0 rfl).cell 1, (H.out.blk 0 rfl).cell 2, (H.out.blk 0 rfl).cell 3, (H.out.blk 0 rfl).cell 4, (H.out.blk 0 rfl).cell 5, (H.out.blk 0 rfl).cell 6, (H.out.blk 0 rfl).cell 7, (H.out.blk 0 rfl).cell 8⟩) (fun hHeld => ?_)
                        clear hKK KK
                        try simp only [Act.put, List.setIfInBounds_toArray, List.set_cons_zero, List.set_cons_succ]
                        refine wpAnyH_take (i := 5) (v := ?vq6_) (get_os (get_os (get_os (get_os (get_os (get_o0)))))) (by kernel_rfl) (by kernel_rfl) (by kernel_rfl) (by exact fun _ _ _ h => h) (Or.inl ⟨by rfl, ?hyq6_⟩) (by assumption) ?_
                        case hyq6_ => (intro w hSw; (try dsimp only at hSw); go_simp) <;> with_reducible rfl
                        try simp only [Act.put, List.setIfInBounds_toArray, List.set_cons_zero, List.set_cons_succ]
                        refine wpAnyH_take (i := 6) (v := ?vq7_) (get_os (get_os (get_os (get_os (get_os (get_os (get_o0))))))) (by kernel_rfl) (by kernel_rfl) (by kernel_rfl) (by exact fun _ _ _ h => h) (Or.inl ⟨by rfl, ?hyq7_⟩) (by assumption) ?_
                        case hyq7_ => (intro w hSw; (try dsimp only at hSw); go_simp) <;> with_reducible rfl
                        try simp only [Act.put, List.setIfInBounds_toArray, List.set_cons_zero, List.set_cons_succ]
                        refine wpAnyH_take (i := 7) (v := ?vq8_) (get_os (get_os (get_os (get_os (get_os (get_os (get_os (get_o0)))))))) (by kernel_rfl) (by kernel_rfl) (by kernel_rfl) (by exact fun _ _ _ h => h) (Or.inl ⟨by rfl, ?hyq8_⟩) (by assumption) ?_
                        case hyq8_ => (intro w hSw; (try dsimp only at hSw); go_simp) <;> with_reducible rfl
                        try simp only [Act.put, List.setIfInBounds_toArray, List.set_cons_zero, List.set_cons_succ]
                        refine wpAnyH_ready (rs := [8]) (by kernel_rfl) (by simp) ?_
                        refine (AllReadyH.cons (get_os (get_os (get_os (get_os (get_os (get_os (get_os (get_os (get_o0))))))))) (fun KK hKK => ?_) AllReadyH.nil)
                        refine step_store_blk rfl rowCt (.tmp 16) (.tmp 110) rfl _ rfl (H.out.blk 7 rfl) rfl (#[.slice A4 n4 c4, .slice M4 m4 d4, .int .i64 f4, .int .i64 p40, .int .i64 q40, .int .i64 p41, .int .i64 q41, .int .i64 p42, .int .i64 q42]) rfl rfl (by simp [Value.oneCell']) ?_
                        intro wq bq hgq
                        replace H := Lib.hid (H.out.setBlk 7 rfl hgq bq); (try simp only [List.set_cons_zero, List.set_cons_succ, List.cons_append, List.nil_append, List.eraseIdx_cons_zero, List.eraseIdx_cons_succ, List.setIfInBounds_toArray, World.size_alloc, selR, List.getD_cons_zero, List.getD_cons_succ] at H)
                        clear hgq bq
                        refine hKK.out _ _ (by exact ⟨(H.out.blk 0 rfl).cell 0, (H.out.blk 0 rfl).cell 1, (H.out.blk 0 rfl).cell 2, (H.out.blk 0 rfl).cell 3, (H.out.blk 0 rfl).cell 4, (H.out.blk 0 rfl).cell 5, (H.out.blk 0 rfl).cell 6, (H.out.blk 0 rfl).cell 7, (H.out.blk 0 rfl).cell 8⟩) (fun hHeld => ?_)
                        clear hKK KK
                        try simp only [Act.put, List.setIfInBounds_toArray, List.set_cons_zero, List.set_cons_succ]
                        refine wpAnyH_ready (rs := [9]) (by kernel_rfl) (by simp) ?_
                        refine (AllReadyH.cons (get_os (get_os (get_os (get_os (get_os (get_os (get_os (get_os (get_os (get_o0)))))))))) (fun KK hKK => ?_) AllReadyH.nil)
                        go_simp
                        refine hKK.out _ _ (by exact ⟨(H.out.blk 0 rfl).cell 0, (H.out.blk 0 rfl).cell 1, (H.out.blk 0 rfl).cell 2, (H.out.blk 0 rfl).cell 3, (H.out.blk 0 rfl).cell 4, (H.out.blk 0 rfl).cell 5, (H.out.blk 0 rfl).cell 6, (H.out.blk 0 rfl).cell 7, (H.out.blk 0 rfl).cell 8⟩) (fun hHeld => ?_)
                        clear hKK KK
                        try simp only [Act.put, List.setIfInBounds_toArray, List.set_cons_zero, List.set_cons_succ]
                        refine wpAnyH_done (by kernel_rfl) ?_ _
                        clear hHeld
                        by_cases h1 : k1 = 0
                        · have h2 : k2 = 0 := HP.out.1.1 h1
                          have h4 : k4 = 0 := (HQ.out.1.1 h1).2
                          have HE2 : Hid (o2 = o1) := HP.out.2 h1
                          have HE4 : Hid (o4 = o1) := HQ.out.2 h1
                          subst h1
                          subst h2
                          subst h4
                          go_wp2_with (first | ((with_reducible show wpList _ _ _ (⟨some 127, _, _, _, _, _⟩ :: _) _ _); refine wpList_load_blkG (by first | rfl | go_simp) rowCt (.tmp 12) (by rfl) _ (by rfl) (H.out.blk 4 rfl) rfl ?_) | ((with_reducible show wpList _ _ _ (⟨some 128, _, _, _, _, _⟩ :: _) _ _); refine wpList_load_blkG (by first | rfl | go_simp) rowCt (.tmp 14) (by rfl) _ (by rfl) (H.out.blk 6 rfl) rfl ?_))
                          refine ((show sameK (⟨⟨⟨A1, n1, c1, l1⟩, ⟨M1, m1, d1, k1'⟩⟩, f1, p10, q10, p11, q11, p12, q12⟩ : Ct).con (⟨⟨⟨A2, n2, c2, l2⟩, ⟨M2, m2, d2, k2'⟩⟩, f2, p20, q20, p21, q21, p22, q22⟩ : Ct).con = true from by rw [show (⟨⟨⟨A1, n1, c1, l1⟩, ⟨M1, m1, d1, k1'⟩⟩, f1, p10, q10, p11, q11, p12, q12⟩ : Ct).con = o1 from HC1.out, show (⟨⟨⟨A2, n2, c2, l2⟩, ⟨M2, m2, d2, k2'⟩⟩, f2, p20, q20, p21, q21, p22, q22⟩ : Ct).con = o2 from HC2.out, HE2.out]; exact sameK_self _) ▸ catsame_any ⟨⟨⟨A1, n1, c1, l1⟩, ⟨M1, m1, d1, k1'⟩⟩, f1, p10, q10, p11, q11, p12, q12⟩ ⟨⟨⟨A2, n2, c2, l2⟩, ⟨M2, m2, d2, k2'⟩⟩, f2, p20, q20, p21, q21, p22, q22⟩ _ (HI1.out.rd (H.out.at_ 3 rfl)) (HI2.out.rd (H.out.at_ 5 rfl))).mono ?_; rintro e w10 ⟨rfl, hb10⟩
                          replace H := Lib.hid (H.out.bel hb10); (try simp only [List.set_cons_zero, List.set_cons_succ, List.cons_append, List.nil_append, List.eraseIdx_cons_zero, List.eraseIdx_cons_succ, List.setIfInBounds_toArray, World.size_alloc, selR, List.getD_cons_zero, List.getD_cons_succ] at H)
                          clear hb10
                          go_wp2_with (first | ((with_reducible show wpList _ _ _ (⟨some 131, _, _, _, _, _⟩ :: _) _ _); refine wpList_load_blkG (by first | rfl | go_simp) rowCt (.tmp 12) (by rfl) _ (by rfl) (H.out.blk 4 rfl) rfl ?_) | ((with_reducible show wpList _ _ _ (⟨some 132, _, _, _, _, _⟩ :: _) _ _); refine wpList_load_blkG (by first | rfl | go_simp) rowCt (.tmp 16) (by rfl) _ (by rfl) (H.out.blk 7 rfl) rfl ?_))
                          refine ((show sameK (⟨⟨⟨A1, n1, c1, l1⟩, ⟨M1, m1, d1, k1'⟩⟩, f1, p10, q10, p11, q11, p12, q12⟩ : Ct).con (⟨⟨⟨A4, n4, c4, l4⟩, ⟨M4, m4, d4, k4'⟩⟩, f4, p40, q40, p41, q41, p42, q42⟩ : Ct).con = true from by rw [show (⟨⟨⟨A1, n1, c1, l1⟩, ⟨M1, m1, d1, k1'⟩⟩, f1, p10, q10, p11, q11, p12, q12⟩ : Ct).con = o1 from HC1.out, show (⟨⟨⟨A4, n4, c4, l4⟩, ⟨M4, m4, d4, k4'⟩⟩, f4, p40, q40, p41, q41, p42, q42⟩ : Ct).con = o4 from HC4.out, HE4.out]; exact sameK_self _) ▸ catsame_any ⟨⟨⟨A1, n1, c1, l1⟩, ⟨M1, m1, d1, k1'⟩⟩, f1, p10, q10, p11, q11, p12, q12⟩ ⟨⟨⟨A4, n4, c4, l4⟩, ⟨M4, m4, d4, k4'⟩⟩, f4, p40, q40, p41, q41, p42, q42⟩ _ (HI1.out.rd (H.out.at_ 3 rfl)) (HI4.out.rd (H.out.at_ 9 rfl))).mono ?_; rintro e w11 ⟨rfl, hb11⟩
                          replace H := Lib.hid (H.out.bel hb11); (try simp only [List.set_cons_zero, List.set_cons_succ, List.cons_append, List.nil_append, List.eraseIdx_cons_zero, List.eraseIdx_cons_succ, List.setIfInBounds_toArray, World.size_alloc, selR, List.getD_cons_zero, List.getD_cons_succ] at H)
                          clear hb11
                          go_wp2_with fail
                          refine (awake18_any _).mono ?_; rintro e w8 ⟨rfl, hb8⟩
                          replace H := Lib.hid (H.out.bel hb8); (try simp only [List.set_cons_zero, List.set_cons_succ, List.cons_append, List.nil_append, List.eraseIdx_cons_zero, List.eraseIdx_cons_succ, List.setIfInBounds_toArray, World.size_alloc, selR, List.getD_cons_zero, List.getD_cons_succ] at H)
                          clear hb8
                          go_wp2
                          go_ret
                          exact ⟨rfl, H.out.to⟩
                        · have h2 : ¬ k2 = 0 := fun h => h1 (HP.out.1.2 h)
                          have h4 : ¬ k4 = 0 := fun h => h1 (HQ.out.1.2 ⟨h3, h⟩)
                          have e1 : (k1 == 0) = false := by simpa using h1
                          have e2 : (k2 == 0) = false := by simpa using h2
                          have e4 : (k4 == 0) = false := by simpa using h4
                          go_wp2_with fail
                          refine (awake18_any _).mono ?_; rintro e w8 ⟨rfl, hb8⟩
                          replace H := Lib.hid (H.out.bel hb8); (try simp only [List.set_cons_zero, List.set_cons_succ, List.cons_append, List.nil_append, List.eraseIdx_cons_zero, List.eraseIdx_cons_succ, List.setIfInBounds_toArray, World.size_alloc, selR, List.getD_cons_zero, List.getD_cons_succ] at H)
                          clear hb8
                          go_wp2
                          go_ret
                          exact ⟨rfl, H.out.to⟩
                      · have h1 : ¬ k1 = 0 := fun h => h3 (HQ.out.1.1 h).1
                        have h2 : ¬ k2 = 0 := fun h => h1 (HP.out.1.2 h)
                        have e1 : (k1 == 0) = false := by simpa using h1
                        have e2 : (k2 == 0) = false := by simpa using h2
                        have e3 : (k3 == 0) = false := by simpa using h3
                        go_wp2_with fail
                        refine (awake18_any _).mono ?_; rintro e w8 ⟨rfl, hb8⟩
                        replace H := Lib.hid (H.out.bel hb8); (try simp only [List.set_cons_zero, List.set_cons_succ, List.cons_append, List.nil_append, List.eraseIdx_cons_zero, List.eraseIdx_cons_succ, List.setIfInBounds_toArray, World.size_alloc, selR, List.getD_cons_zero, List.getD_cons_succ] at H)
                        clear hb8
                        go_wp2
                        go_ret
                        exact ⟨rfl, H.out.to⟩
                    · go_simp
                      replace H := Lib.hid (H.out.alloc #[.slice none 0 0, .slice none 0 0, .int .i64 0, .int .i64 0, .int .i64 0, .int .i64 0, .int .i64 0, .int .i64 0, .int .i64 0] 40); (try simp only [List.set_cons_zero, List.set_cons_succ, List.cons_append, List.nil_append, List.eraseIdx_cons_zero, List.eraseIdx_cons_succ, List.setIfInBounds_toArray, World.size_alloc, selR, List.getD_cons_zero, List.getD_cons_succ] at H)
                      refine hKK.out _ _ (by exact ⟨(H.out.blk 0 rfl).cell 0, (H.out.blk 0 rfl).cell 1, (H.out.blk 0 rfl).cell 2, (H.out.blk 0 rfl).cell 3, (H.out.blk 0 rfl).cell 4, (H.out.blk 0 rfl).cell 5, (H.out.blk 0 rfl).cell 6, (H.out.blk 0 rfl).cell 7, (H.out.blk 0 rfl).cell 8⟩) (fun hHeld => ?_)
                      clear hKK KK
                      try simp only [Act.put, List.setIfInBounds_toArray, List.set_cons_zero, List.set_cons_succ]
                      refine wpAnyH_ready (rs := [4]) (by kernel_rfl) (by simp) ?_
                      refine (AllReadyH.cons (get_os (get_os (get_os (get_os (get_o0))))) (fun KK hKK => ?_) AllReadyH.nil)
                      go_simp
                      refine (HG3.out _ H.out.to).mono ?_; rintro e w7 ⟨Z, rfl, hC, hR, hS, hb7, hN⟩
                      replace H := Lib.hid (H.out.add hb7 _ hN.1 hN.2); (try simp only [List.set_cons_zero, List.set_cons_succ, List.cons_append, List.nil_append, List.eraseIdx_cons_zero, List.eraseIdx_cons_succ, List.setIfInBounds_toArray, World.size_alloc, selR, List.getD_cons_zero, List.getD_cons_succ] at H)
                      have HC3 := Lib.hid hC
                      have HI3 := Lib.hid hR.ints
                      have HS3 := Lib.hid hS
                      have HR3 := Lib.hid hR
                      clear hC hR hS hb7 hN
                      obtain ⟨⟨⟨A3, n3, c3, l3⟩, ⟨M3, m3, d3, k3'⟩⟩, f3, p30, q30, p31, q31, p32, q32⟩ := Z
                      simp only [Ct.cs, Sch.cs] at *
                      refine hKK.out _ _ (by exact ⟨(H.out.blk 0 rfl).cell 0, (H.out.blk 0 rfl).cell 1, (H.out.blk 0 rfl).cell 2, (H.out.blk 0 rfl).cell 3, (H.out.blk 0 rfl).cell 4, (H.out.blk 0 rfl).cell 5, (H.out.blk 0 rfl).cell 6, (H.out.blk 0 rfl).cell 7, (H.out.blk 0 rfl).cell 8⟩) (fun hHeld => ?_)
                      clear hKK KK
                      try simp only [Act.put, List.setIfInBounds_toArray, List.set_cons_zero, List.set_cons_succ]
                      refine wpAnyH_take (i := 5) (v := ?vq9_) (get_os (get_os (get_os (get_os (get_os (get_o0)))))) (by kernel_rfl) (by kernel_rfl) (by kernel_rfl) (by exact fun _ _ _ h => h) (Or.inl ⟨by rfl, ?hyq9_⟩) (by assumption) ?_
                      case hyq9_ => (intro w hSw; (try dsimp only at hSw); go_simp) <;> with_reducible rfl
                      try simp only [Act.put, List.setIfInBounds_toArray, List.set_cons_zero, List.set_cons_succ]
                      refine wpAnyH_take (i := 6) (v := ?vq10_) (get_os (get_os (get_os (get_os (get_os (get_os (get_o0))))))) (by kernel_rfl) (by kernel_rfl) (by kernel_rfl) (by exact fun _ _ _ h => h) (Or.inl ⟨by rfl, ?hyq10_⟩) (by assumption) ?_
                      case hyq10_ => (intro w hSw; (try dsimp only at hSw); go_simp) <;> with_reducible rfl
                      try simp only [Act.put, List.setIfInBounds_toArray, List.set_cons_zero, List.set_cons_succ]
                      refine wpAnyH_take (i := 7) (v := ?vq11_) (get_os (get_os (get_os (get_os (get_os (get_os (get_os (get_o0)))))))) (by kernel_rfl) (by kernel_rfl) (by kernel_rfl) (by exact fun _ _ _ h => h) (Or.inl ⟨by rfl, ?hyq11_⟩) (by assumption) ?_
                      case hyq11_ => (intro w hSw; (try dsimp only at hSw); go_simp) <;> with_reducible rfl
                      try simp only [Act.put, List.setIfInBounds_toArray, List.set_cons_zero, List.set_cons_succ]
                      refine wpAnyH_ready (rs := [9]) (by kernel_rfl) (by simp) ?_
                      refine (AllReadyH.cons (get_os (get_os (get_os (get_os (get_os (get_os (get_os (get_os (get_os (get_o0)))))))))) (fun KK hKK => ?_) AllReadyH.nil)
                      have hdz : w6.drew.heap.size = w6.heap.size := rfl
                      (try rw [hdz] at H)
                      clear hdz
                      generalize w6.heap.size = z at *
                      refine step_store_blk rfl rowCt (.tmp 16) (.tmp 100) rfl _ rfl (H.out.blk 7 rfl) rfl (#[.slice A3 n3 c3, .slice M3 m3 d3, .int .i64 f3, .int .i64 p30, .int .i64 q30, .int .i64 p31, .int .i64 q31, .int .i64 p32, .int .i64 q32]) rfl rfl (by simp [Value.oneCell']) ?_
                      intro wq bq hgq
                      replace H := Lib.hid (H.out.setBlk 7 rfl hgq bq); (try simp only [List.set_cons_zero, List.set_cons_succ, List.cons_append, List.nil_append, List.eraseIdx_cons_zero, List.eraseIdx_cons_succ, List.setIfInBounds_toArray, World.size_alloc, selR, List.getD_cons_zero, List.getD_cons_succ] at H)
                      clear hgq bq
                      skip
                      refine hKK.out _ _ (by exact ⟨(H.out.blk 0 rfl).cell 0, (H.out.blk 0 rfl).cell 1, (H.out.blk 0 rfl).cell 2, (H.out.blk 0 rfl).cell 3, (H.out.blk 0 rfl).cell 4, (H.out.blk 0 rfl).cell 5, (H.out.blk 0 rfl).cell 6, (H.out.blk 0 rfl).cell 7, (H.out.blk 0 rfl).cell 8⟩) (fun hHeld => ?_)
                      clear hKK KK
                      try simp only [Act.put, List.setIfInBounds_toArray, List.set_cons_zero, List.set_cons_succ]
                      refine wpAnyH_ready (rs := [10]) (by kernel_rfl) (by simp) ?_
                      refine (AllReadyH.cons (get_ot (get_o0)) (fun KK hKK => ?_) AllReadyH.nil)
                      go_simp
                      refine hKK.out _ _ (by exact ⟨(H.out.blk 0 rfl).cell 0, (H.out.blk 0 rfl).cell 1, (H.out.blk 0 rfl).cell 2, (H.out.blk 0 rfl).cell 3, (H.out.blk 0 rfl).cell 4, (H.out.blk 0 rfl).cell 5, (H.out.blk 0 rfl).cell 6, (H.out.blk 0 rfl).cell 7, (H.out.blk 0 rfl).cell 8⟩) (fun hHeld => ?_)
                      clear hKK KK
                      try simp only [Act.put, List.setIfInBounds_toArray, List.set_cons_zero, List.set_cons_succ]
                      refine wpAnyH_done (by kernel_rfl) ?_ _
                      clear hHeld
                      by_cases h3 : k3 = 0
                      · have e3 : (k3 == 0) = true := by simp [h3]
                        have H3 := Lib.hid h3
                        go_upto_region 16 with fail
                        (try simp only [Act.put, List.setIfInBounds_toArray, List.set_cons_zero, List.set_cons_succ])
                        clear e3
                        replace h3 := H3.out
                        clear H3
                        refine wp_region_held_drew (S := fun w => w.cell? ⟨x, 0, none⟩ = some (.slice A n c) ∧ w.cell? ⟨x, 1, none⟩ = some (.slice MA mn mc) ∧ w.cell? ⟨x, 2, none⟩ = some (.int .i64 fa) ∧ w.cell? ⟨x, 3, none⟩ = some (.int .i64 p0) ∧ w.cell? ⟨x, 4, none⟩ = some (.int .i64 q0) ∧ w.cell? ⟨x, 5, none⟩ = some (.int .i64 p1) ∧ w.cell? ⟨x, 6, none⟩ = some (.int .i64 q1) ∧ w.cell? ⟨x, 7, none⟩ = some (.int .i64 p2) ∧ w.cell? ⟨x, 8, none⟩ = some (.int .i64 q2)) (by kernel_rfl) (by exact ⟨(H.out.blk 0 rfl).cell 0, (H.out.blk 0 rfl).cell 1, (H.out.blk 0 rfl).cell 2, (H.out.blk 0 rfl).cell 3, (H.out.blk 0 rfl).cell 4, (H.out.blk 0 rfl).cell 5, (H.out.blk 0 rfl).cell 6, (H.out.blk 0 rfl).cell 7, (H.out.blk 0 rfl).cell 8⟩) (fun hHeld => ?_)
                        replace H := Lib.hid (H.out.drew); (try simp only [List.set_cons_zero, List.set_cons_succ, List.cons_append, List.nil_append, List.eraseIdx_cons_zero, List.eraseIdx_cons_succ, List.setIfInBounds_toArray, World.size_alloc, selR, List.getD_cons_zero, List.getD_cons_succ] at H)
                        refine wpAnyH_take (i := 1) (v := ?vq12_1) (get_os (get_o0)) (by kernel_rfl) (by kernel_rfl) (by kernel_rfl) (by exact fun _ _ _ h => h) (Or.inl ⟨by rfl, ?hyq12_1⟩) (by assumption) ?_
                        case hyq12_1 => (intro w hSw; (try dsimp only at hSw); go_simp) <;> with_reducible rfl
                        try simp only [Act.put, List.setIfInBounds_toArray, List.set_cons_zero, List.set_cons_succ]
                        refine wpAnyH_take (i := 2) (v := ?vq12_2) (get_os (get_os (get_o0))) (by kernel_rfl) (by kernel_rfl) (by kernel_rfl) (by exact fun _ _ _ h => h) (Or.inl ⟨by rfl, ?hyq12_2⟩) (by assumption) ?_
                        case hyq12_2 => (intro w hSw; (try dsimp only at hSw); go_simp) <;> with_reducible rfl
                        try simp only [Act.put, List.setIfInBounds_toArray, List.set_cons_zero, List.set_cons_succ]
                        refine wpAnyH_take (i := 3) (v := .slice RB1 rb1 cb1) (get_os (get_os (get_os (get_o0)))) (by kernel_rfl) (by kernel_rfl) (by kernel_rfl) (by exact fun _ _ _ h => h) (yields_slice (by rfl) (.tmp 106) none (some (.tmp 107)) rfl (fun w => HSL2.out w)) (by assumption) ?_
                        try simp only [Act.put, List.setIfInBounds_toArray, List.set_cons_zero, List.set_cons_succ]
                        refine wpAnyH_ready (rs := [0]) (by kernel_rfl) (by simp) ?_
                        refine (AllReadyH.cons (get_o0) (fun KK hKK => ?_) AllReadyH.nil)
                        refine step_load_blk rfl rowCt (.tmp 16) rfl _ rfl (H.out.blk 7 rfl) rfl ?_
                        refine hKK.out _ _ (by exact ⟨(H.out.blk 0 rfl).cell 0, (H.out.blk 0 rfl).cell 1, (H.out.blk 0 rfl).cell 2, (H.out.blk 0 rfl).cell 3, (H.out.blk 0 rfl).cell 4, (H.out.blk 0 rfl).cell 5, (H.out.blk 0 rfl).cell 6, (H.out.blk 0 rfl).cell 7, (H.out.blk 0 rfl).cell 8⟩) (fun hHeld => ?_)
                        clear hKK KK
                        try simp only [Act.put, List.setIfInBounds_toArray, List.set_cons_zero, List.set_cons_succ]
                        refine wpAnyH_ready (rs := [4]) (by kernel_rfl) (by simp) ?_
                        refine (AllReadyH.cons (get_os (get_os (get_os (get_os (get_o0))))) (fun KK hKK => ?_) AllReadyH.nil)
                        go_simp
                        refine (HG4.out ⟨⟨⟨A3, n3, c3, l3⟩, ⟨M3, m3, d3, k3'⟩⟩, f3, p30, q30, p31, q31, p32, q32⟩ _ H.out.to (HI3.out.rd (H.out.at_ 8 rfl)) HS3.out HC3.out).mono ?_; rintro e w9 ⟨V, rfl, hC, hR, hS, hb9, hN⟩
                        replace H := Lib.hid (H.out.add hb9 _ hN.1 hN.2); (try simp only [List.set_cons_zero, List.set_cons_succ, List.cons_append, List.nil_append, List.eraseIdx_cons_zero, List.eraseIdx_cons_succ, List.setIfInBounds_toArray, World.size_alloc, selR, List.getD_cons_zero, List.getD_cons_succ] at H)
                        have HC4 := Lib.hid hC
                        have HI4 := Lib.hid hR.ints
                        have HS4 := Lib.hid hS
                        have HR4 := Lib.hid hR
                        clear hC hR hS hb9 hN
                        obtain ⟨⟨⟨A4, n4, c4, l4⟩, ⟨M4, m4, d4, k4'⟩⟩, f4, p40, q40, p41, q41, p42, q42⟩ := V
                        simp only [Ct.cs, Sch.cs] at *
                        refine hKK.out _ _ (by exact ⟨(H.out.blk 0 rfl).cell 0, (H.out.blk 0 rfl).cell 1, (H.out.blk 0 rfl).cell 2, (H.out.blk 0 rfl).cell 3, (H.out.blk 0 rfl).cell 4, (H.out.blk 0 rfl).cell 5, (H.out.blk 0 rfl).cell 6, (H.out.blk 0 rfl).cell 7, (H.out.blk 0 rfl).cell 8⟩) (fun hHeld => ?_)
                        clear hKK KK
                        try simp only [Act.put, List.setIfInBounds_toArray, List.set_cons_zero, List.set_cons_succ]
                        refine wpAnyH_take (i := 5) (v := ?vq13_) (get_os (get_os (get_os (get_os (get_os (get_o0)))))) (by kernel_rfl) (by kernel_rfl) (by kernel_rfl) (by exact fun _ _ _ h => h) (Or.inl ⟨by rfl, ?hyq13_⟩) (by assumption) ?_
                        case hyq13_ => (intro w hSw; (try dsimp only at hSw); go_simp) <;> with_reducible rfl
                        try simp only [Act.put, List.setIfInBounds_toArray, List.set_cons_zero, List.set_cons_succ]
                        refine wpAnyH_take (i := 6) (v := ?vq14_) (get_os (get_os (get_os (get_os (get_os (get_os (get_o0))))))) (by kernel_rfl) (by kernel_rfl) (by kernel_rfl) (by exact fun _ _ _ h => h) (Or.inl ⟨by rfl, ?hyq14_⟩) (by assumption) ?_
                        case hyq14_ => (intro w hSw; (try dsimp only at hSw); go_simp) <;> with_reducible rfl
                        try simp only [Act.put, List.setIfInBounds_toArray, List.set_cons_zero, List.set_cons_succ]
                        refine wpAnyH_take (i := 7) (v := ?vq15_) (get_os (get_os (get_os (get_os (get_os (get_os (get_os (get_o0)))))))) (by kernel_rfl) (by kernel_rfl) (by kernel_rfl) (by exact fun _ _ _ h => h) (Or.inl ⟨by rfl, ?hyq15_⟩) (by assumption) ?_
                        case hyq15_ => (intro w hSw; (try dsimp only at hSw); go_simp) <;> with_reducible rfl
                        try simp only [Act.put, List.setIfInBounds_toArray, List.set_cons_zero, List.set_cons_succ]
                        refine wpAnyH_ready (rs := [8]) (by kernel_rfl) (by simp) ?_
                        refine (AllReadyH.cons (get_os (get_os (get_os (get_os (get_os (get_os (get_os (get_os (get_o0))))))))) (fun KK hKK => ?_) AllReadyH.nil)
                        refine step_store_blk rfl rowCt (.tmp 16) (.tmp 110) rfl _ rfl (H.out.blk 7 rfl) rfl (#[.slice A4 n4 c4, .slice M4 m4 d4, .int .i64 f4, .int .i64 p40, .int .i64 q40, .int .i64 p41, .int .i64 q41, .int .i64 p42, .int .i64 q42]) rfl rfl (by simp [Value.oneCell']) ?_
                        intro wq bq hgq
                        replace H := Lib.hid (H.out.setBlk 7 rfl hgq bq); (try simp only [List.set_cons_zero, List.set_cons_succ, List.cons_append, List.nil_append, List.eraseIdx_cons_zero, List.eraseIdx_cons_succ, List.setIfInBounds_toArray, World.size_alloc, selR, List.getD_cons_zero, List.getD_cons_succ] at H)
                        clear hgq bq
                        refine hKK.out _ _ (by exact ⟨(H.out.blk 0 rfl).cell 0, (H.out.blk 0 rfl).cell 1, (H.out.blk 0 rfl).cell 2, (H.out.blk 0 rfl).cell 3, (H.out.blk 0 rfl).cell 4, (H.out.blk 0 rfl).cell 5, (H.out.blk 0 rfl).cell 6, (H.out.blk 0 rfl).cell 7, (H.out.blk 0 rfl).cell 8⟩) (fun hHeld => ?_)
                        clear hKK KK
                        try simp only [Act.put, List.setIfInBounds_toArray, List.set_cons_zero, List.set_cons_succ]
                        refine wpAnyH_ready (rs := [9]) (by kernel_rfl) (by simp) ?_
                        refine (AllReadyH.cons (get_os (get_os (get_os (get_os (get_os (get_os (get_os (get_os (get_os (get_o0)))))))))) (fun KK hKK => ?_) AllReadyH.nil)
                        go_simp
                        refine hKK.out _ _ (by exact ⟨(H.out.blk 0 rfl).cell 0, (H.out.blk 0 rfl).cell 1, (H.out.blk 0 rfl).cell 2, (H.out.blk 0 rfl).cell 3, (H.out.blk 0 rfl).cell 4, (H.out.blk 0 rfl).cell 5, (H.out.blk 0 rfl).cell 6, (H.out.blk 0 rfl).cell 7, (H.out.blk 0 rfl).cell 8⟩) (fun hHeld => ?_)
                        clear hKK KK
                        try simp only [Act.put, List.setIfInBounds_toArray, List.set_cons_zero, List.set_cons_succ]
                        refine wpAnyH_done (by kernel_rfl) ?_ _
                        clear hHeld
                        by_cases h1 : k1 = 0
                        · have h2 : k2 = 0 := HP.out.1.1 h1
                          have h4 : k4 = 0 := (HQ.out.1.1 h1).2
                          have HE2 : Hid (o2 = o1) := HP.out.2 h1
                          have HE4 : Hid (o4 = o1) := HQ.out.2 h1
                          subst h1
                          subst h2
                          subst h4
                          go_wp2_with (first | ((with_reducible show wpList _ _ _ (⟨some 127, _, _, _, _, _⟩ :: _) _ _); refine wpList_load_blkG (by first | rfl | go_simp) rowCt (.tmp 12) (by rfl) _ (by rfl) (H.out.blk 4 rfl) rfl ?_) | ((with_reducible show wpList _ _ _ (⟨some 128, _, _, _, _, _⟩ :: _) _ _); refine wpList_load_blkG (by first | rfl | go_simp) rowCt (.tmp 14) (by rfl) _ (by rfl) (H.out.blk 6 rfl) rfl ?_))
                          refine ((show sameK (⟨⟨⟨A1, n1, c1, l1⟩, ⟨M1, m1, d1, k1'⟩⟩, f1, p10, q10, p11, q11, p12, q12⟩ : Ct).con (⟨⟨⟨A2, n2, c2, l2⟩, ⟨M2, m2, d2, k2'⟩⟩, f2, p20, q20, p21, q21, p22, q22⟩ : Ct).con = true from by rw [show (⟨⟨⟨A1, n1, c1, l1⟩, ⟨M1, m1, d1, k1'⟩⟩, f1, p10, q10, p11, q11, p12, q12⟩ : Ct).con = o1 from HC1.out, show (⟨⟨⟨A2, n2, c2, l2⟩, ⟨M2, m2, d2, k2'⟩⟩, f2, p20, q20, p21, q21, p22, q22⟩ : Ct).con = o2 from HC2.out, HE2.out]; exact sameK_self _) ▸ catsame_any ⟨⟨⟨A1, n1, c1, l1⟩, ⟨M1, m1, d1, k1'⟩⟩, f1, p10, q10, p11, q11, p12, q12⟩ ⟨⟨⟨A2, n2, c2, l2⟩, ⟨M2, m2, d2, k2'⟩⟩, f2, p20, q20, p21, q21, p22, q22⟩ _ (HI1.out.rd (H.out.at_ 3 rfl)) (HI2.out.rd (H.out.at_ 5 rfl))).mono ?_; rintro e w10 ⟨rfl, hb10⟩
                          replace H := Lib.hid (H.out.bel hb10); (try simp only [List.set_cons_zero, List.set_cons_succ, List.cons_append, List.nil_append, List.eraseIdx_cons_zero, List.eraseIdx_cons_succ, List.setIfInBounds_toArray, World.size_alloc, selR, List.getD_cons_zero, List.getD_cons_succ] at H)
                          clear hb10
                          go_wp2_with (first | ((with_reducible show wpList _ _ _ (⟨some 131, _, _, _, _, _⟩ :: _) _ _); refine wpList_load_blkG (by first | rfl | go_simp) rowCt (.tmp 12) (by rfl) _ (by rfl) (H.out.blk 4 rfl) rfl ?_) | ((with_reducible show wpList _ _ _ (⟨some 132, _, _, _, _, _⟩ :: _) _ _); refine wpList_load_blkG (by first | rfl | go_simp) rowCt (.tmp 16) (by rfl) _ (by rfl) (H.out.blk 7 rfl) rfl ?_))
                          refine ((show sameK (⟨⟨⟨A1, n1, c1, l1⟩, ⟨M1, m1, d1, k1'⟩⟩, f1, p10, q10, p11, q11, p12, q12⟩ : Ct).con (⟨⟨⟨A4, n4, c4, l4⟩, ⟨M4, m4, d4, k4'⟩⟩, f4, p40, q40, p41, q41, p42, q42⟩ : Ct).con = true from by rw [show (⟨⟨⟨A1, n1, c1, l1⟩, ⟨M1, m1, d1, k1'⟩⟩, f1, p10, q10, p11, q11, p12, q12⟩ : Ct).con = o1 from HC1.out, show (⟨⟨⟨A4, n4, c4, l4⟩, ⟨M4, m4, d4, k4'⟩⟩, f4, p40, q40, p41, q41, p42, q42⟩ : Ct).con = o4 from HC4.out, HE4.out]; exact sameK_self _) ▸ catsame_any ⟨⟨⟨A1, n1, c1, l1⟩, ⟨M1, m1, d1, k1'⟩⟩, f1, p10, q10, p11, q11, p12, q12⟩ ⟨⟨⟨A4, n4, c4, l4⟩, ⟨M4, m4, d4, k4'⟩⟩, f4, p40, q40, p41, q41, p42, q42⟩ _ (HI1.out.rd (H.out.at_ 3 rfl)) (HI4.out.rd (H.out.at_ 9 rfl))).mono ?_; rintro e w11 ⟨rfl, hb11⟩
                          replace H := Lib.hid (H.out.bel hb11); (try simp only [List.set_cons_zero, List.set_cons_succ, List.cons_append, List.nil_append, List.eraseIdx_cons_zero, List.eraseIdx_cons_succ, List.setIfInBounds_toArray, World.size_alloc, selR, List.getD_cons_zero, List.getD_cons_succ] at H)
                          clear hb11
                          go_wp2_with fail
                          refine (awake18_any _).mono ?_; rintro e w8 ⟨rfl, hb8⟩
                          replace H := Lib.hid (H.out.bel hb8); (try simp only [List.set_cons_zero, List.set_cons_succ, List.cons_append, List.nil_append, List.eraseIdx_cons_zero, List.eraseIdx_cons_succ, List.setIfInBounds_toArray, World.size_alloc, selR, List.getD_cons_zero, List.getD_cons_succ] at H)
                          clear hb8
                          go_wp2
                          go_ret
                          exact ⟨rfl, H.out.to⟩
                        · have h2 : ¬ k2 = 0 := fun h => h1 (HP.out.1.2 h)
                          have h4 : ¬ k4 = 0 := fun h => h1 (HQ.out.1.2 ⟨h3, h⟩)
                          have e1 : (k1 == 0) = false := by simpa using h1
                          have e2 : (k2 == 0) = false := by simpa using h2
                          have e4 : (k4 == 0) = false := by simpa using h4
                          go_wp2_with fail
                          refine (awake18_any _).mono ?_; rintro e w8 ⟨rfl, hb8⟩
                          replace H := Lib.hid (H.out.bel hb8); (try simp only [List.set_cons_zero, List.set_cons_succ, List.cons_append, List.nil_append, List.eraseIdx_cons_zero, List.eraseIdx_cons_succ, List.setIfInBounds_toArray, World.size_alloc, selR, List.getD_cons_zero, List.getD_cons_succ] at H)
                          clear hb8
                          go_wp2
                          go_ret
                          exact ⟨rfl, H.out.to⟩
                      · have h1 : ¬ k1 = 0 := fun h => h3 (HQ.out.1.1 h).1
                        have h2 : ¬ k2 = 0 := fun h => h1 (HP.out.1.2 h)
                        have e1 : (k1 == 0) = false := by simpa using h1
                        have e2 : (k2 == 0) = false := by simpa using h2
                        have e3 : (k3 == 0) = false := by simpa using h3
                        go_wp2_with fail
                        refine (awake18_any _).mono ?_; rintro e w8 ⟨rfl, hb8⟩
                        replace H := Lib.hid (H.out.bel hb8); (try simp only [List.set_cons_zero, List.set_cons_succ, List.cons_append, List.nil_append, List.eraseIdx_cons_zero, List.eraseIdx_cons_succ, List.setIfInBounds_toArray, World.size_alloc, selR, List.getD_cons_zero, List.getD_cons_succ] at H)
                        clear hb8
                        go_wp2
                        go_ret
                        exact ⟨rfl, H.out.to⟩
              · have HB : Hid (sameCat Cs Ts = false) := by show _ = _; rw [HSame.out, decide_eq_false hT]; rfl
                have dT : (schErr Ts == 0) = false := by simpa using hT
                clear HSame HSS
                rw [HB.out] at HCS
                generalize schErr Ts = eT at *
                go_upto_region 4 with fail
                (try simp only [Act.put, List.setIfInBounds_toArray, List.set_cons_zero, List.set_cons_succ])
                clear dT hT
                have ebb : (false != false) = false := by simp
                go_wp2_with (first | ((with_reducible show wpList _ _ _ (⟨some 60, _, _, _, _, _⟩ :: _) _ _); (refine wpList_load_blk rfl rowCt (.tmp 4) rfl _ rfl (H.out.blk 0 rfl) rfl ?_)) | ((with_reducible show wpList _ _ _ (⟨some 61, _, _, _, _, _⟩ :: _) _ _); (refine wpList_load_blk rfl rowCt (.tmp 5) rfl _ rfl (H.out.blk 1 rfl) rfl ?_)))
                refine (HCS.out _ H.out.to HSM.out HSN.out).mono ?_; rintro e w8 ⟨rfl, hb8⟩
                replace H := Lib.hid (H.out.bel hb8); (try simp only [List.set_cons_zero, List.set_cons_succ, List.cons_append, List.nil_append, List.eraseIdx_cons_zero, List.eraseIdx_cons_succ, List.setIfInBounds_toArray, World.size_alloc, selR, List.getD_cons_zero, List.getD_cons_succ] at H)
                clear hb8 HCS HSN HB
                go_wp2_with fail
                clear ebb
                replace H := Lib.hid (H.out.addNil 64 1); (try simp only [List.set_cons_zero, List.set_cons_succ, List.cons_append, List.nil_append, List.eraseIdx_cons_zero, List.eraseIdx_cons_succ, List.setIfInBounds_toArray, World.size_alloc, selR, List.getD_cons_zero, List.getD_cons_succ] at H)
                have HG' := Lib.hid (fun X w' hb hX hn => HG.out X w' hb HSM.out hX hn)
                clear HG HSM
                go_loopg [10, 67] rn (fun gg v i wr => ∃ (k : Nat) (E : Option Addr) (ce : Nat), gg = rn - k ∧ k ≤ rn ∧ v = .slice E k ce ∧ i = .int .i64 k ∧ Hid (SL No w wr [rBlk x 40 #[.slice A n c, .slice MA mn mc, .int .i64 fa, .int .i64 p0, .int .i64 q0, .int .i64 p1, .int .i64 q1, .int .i64 p2, .int .i64 q2], rBlk y 40 #[.slice B m d, .slice MB mm md, .int .i64 fb, .int .i64 a0, .int .i64 b0, .int .i64 a1, .int .i64 b1, .int .i64 a2, .int .i64 b2], rRow 64 1 (.slice E k ce) k ((rs.reverse.take k).map Row.v)]))
                case atStart => exact ⟨0, none, 0, rfl, by omega, rfl, rfl, H⟩
                case round =>
                  clear H
                  obtain ⟨k, E, ce, hgk, hk, rfl, rfl, H⟩ := hrel
                  have Hgk := Lib.hid hgk
                  clear hgk
                  by_cases hlt : k < rn
                  · obtain ⟨i, hi⟩ : ∃ i : Nat, i + k + 1 = rn := ⟨rn - k - 1, by omega⟩
                    have hi2 : (rn : Int) - 1 - k = i := by omega
                    obtain ⟨bx, ox, yr, hA, hyk, hyok, q1⟩ := (HR.out.rds.mono H.out.to).slRow (k := i) (by show i < rn; omega)
                    simp only at hA
                    subst hA
                    have HREV : Hid ((rs.reverse.take (k + 1)).map Row.v = (rs.reverse.take k).map Row.v ++ [yr.v]) := by
                      have h5 : rs.reverse[k]? = some yr := by
                        rw [List.getElem?_reverse (by rw [hrl.out]; exact hlt), hrl.out, show rn - 1 - k = i by omega]
                        exact hyk
                      show _ = _
                      rw [take_snoc_get h5, List.map_append]
                      rfl
                    have y63 := hyok.rds.n63
                    have i0 : (0 : Int) ≤ i := by omega
                    have i1 : (i : Int) < rn := by omega
                    clear hyk hyok
                    obtain ⟨YA, yn, yc, ys⟩ := yr
                    simp only at *
                    go_wp2_with ((with_reducible show wpList _ _ _ (⟨some 80, _, _, _, _, _⟩ :: _) _ _); (replace H := Lib.hid (H.out.alloc #[(.slice YA yn yc)] 64); (try simp only [List.set_cons_zero, List.set_cons_succ, List.cons_append, List.nil_append, List.eraseIdx_cons_zero, List.eraseIdx_cons_succ, List.setIfInBounds_toArray, World.size_alloc, selR, List.getD_cons_zero, List.getD_cons_succ] at H); refine wpList_append0 rfl (.tmp 70) (.tmp 79) _ rfl E_i64s 0 (Nat.zero_le _) _ k _ rfl (H.out.row 2 rfl) _ 1 1 [(.slice YA yn yc)] rfl (reads_of_block (H.out.blk 3 rfl) rfl) (by simp [Value.oneCell']) (by unfold maxLen; omega) (by omega) ?_; intro vq wq howq hgq hatq; replace H := Lib.hid (H.out.setRow 2 rfl hgq howq hatq); (try simp only [List.set_cons_zero, List.set_cons_succ, List.cons_append, List.nil_append, List.eraseIdx_cons_zero, List.eraseIdx_cons_succ, List.setIfInBounds_toArray, World.size_alloc, selR, List.getD_cons_zero, List.getD_cons_succ] at H); clear howq hgq hatq; obtain ⟨E2, ce2, rfl, _⟩ := own_slice (H.out.row 2 rfl)))
                    replace H := Lib.hid (H.out.sel [0, 1, 2] (by decide) (by simp)); (try simp only [List.set_cons_zero, List.set_cons_succ, List.cons_append, List.nil_append, List.eraseIdx_cons_zero, List.eraseIdx_cons_succ, List.setIfInBounds_toArray, World.size_alloc, selR, List.getD_cons_zero, List.getD_cons_succ] at H)
                    clear q1 hi2
                    go_wp2_with fail
                    go_roundg (rn - (k + 1))
                    case rel => exact ⟨k + 1, E2, ce2, rfl, by omega, rfl, by go_num, by rw [HREV.out]; exact H⟩
                    case measure => rw [Hgk.out]; omega
                  · obtain rfl : k = rn := by omega
                    have hback : Hid (rs.reverse.take k = rs.reverse) := List.take_of_length_le (by rw [List.length_reverse, hrl.out]; omega)
                    rw [hback.out] at H
                    clear hback
                    have HBK := Lib.hid (fun w' (hb : Bel w w') (hr : w'.ownsRow 0 64 1 (.slice E k ce) k (rs.reverse.map Row.v)) => (show (⟨E, k, ce, rs.reverse⟩ : Row (Row Int)).rd w' from ⟨by have := Rd.of_own hr; rw [flat_rows]; exact this, fun y hy => HRA.out y (List.mem_reverse.1 hy) w' hb, by show k ≤ _; omega⟩))
                    obtain ⟨⟨o1, k1⟩, ho1⟩ : ∃ o, o = catGrow C L := ⟨_, rfl⟩
                    obtain ⟨⟨o2, k2⟩, ho2⟩ : ∃ o, o = catGrow C L.reverse := ⟨_, rfl⟩
                    obtain ⟨⟨o3, k3⟩, ho3⟩ : ∃ o, o = catGrow C (L.drop j) := ⟨_, rfl⟩
                    obtain ⟨⟨o4, k4⟩, ho4⟩ : ∃ o, o = catGrow o3 (L.take j) := ⟨_, rfl⟩
                    have HP : Hid ((k1 = 0 ↔ k2 = 0) ∧ (k1 = 0 → o2 = o1)) := by
                      have h := catGrow_perm HE.out HOK.out (l := L) (l' := L.reverse) (List.reverse_perm L).symm
                      rw [← ho1, ← ho2] at h
                      exact ⟨h.1, fun h0 => (congrArg Prod.fst (h.2 h0)).symm⟩
                    have HQ : Hid ((k1 = 0 ↔ k3 = 0 ∧ k4 = 0) ∧ (k1 = 0 → o4 = o1)) := by
                      have h := catGrow_two HE.out HOK.out (L.take j) (L.drop j)
                      rw [List.take_append_drop, ← ho1, ← ho3] at h
                      have e4 : catGrow (o3, k3).1 (L.take j) = (o4, k4) := ho4.symm
                      rw [e4] at h
                      exact ⟨h.1, fun h0 => congrArg Prod.fst (h.2 h0)⟩
                    have HG1 : Hid (∀ w', Bel w w' → Calls Try.prog 20 #[.agg #[.slice A n c, .slice MA mn mc, .int .i64 fa, .int .i64 p0, .int .i64 q0, .int .i64 p1, .int .i64 q1, .int .i64 p2, .int .i64 q2], .slice RA k rc] w' (CatPost2 (o1, k1) w')) := fun w' hb => by
                      have h := HG'.out ⟨RA, k, rc, rs⟩ w' hb (HR.out.rds.mono hb) (by show k ≤ _; omega)
                      rw [show catGrow C ((⟨RA, k, rc, rs⟩ : Row (Row Int)).l.map (·.l)) = (o1, k1) from by rw [ho1, ← HLs.out]] at h
                      exact h
                    have HG2 : Hid (∀ w', Bel w w' → w'.ownsRow 0 64 1 (.slice E k ce) k (rs.reverse.map Row.v) → Calls Try.prog 20 #[.agg #[.slice A n c, .slice MA mn mc, .int .i64 fa, .int .i64 p0, .int .i64 q0, .int .i64 p1, .int .i64 q1, .int .i64 p2, .int .i64 q2], .slice E k ce] w' (CatPost2 (o2, k2) w')) := fun w' hb hX => by
                      have h := HG'.out ⟨E, k, ce, rs.reverse⟩ w' hb (HBK.out w' hb hX) (by show k ≤ _; omega)
                      rw [show catGrow C ((⟨E, k, ce, rs.reverse⟩ : Row (Row Int)).l.map (·.l)) = (o2, k2) from by rw [ho2, ← HLs.out, ← List.map_reverse]] at h
                      exact h
                    have HG3 := HCUT.out j k hjn (Nat.le_refl _)
                    have HG4 := HCUT.out 0 j (Nat.zero_le _) hjn
                    have hR1 := HRL1.out j
                    have hR2 := HRL2.out j
                    clear HCUT HRL1 HRL2 HBK
                    have hz1 : ((⟨RA, k, rc, rs⟩ : Row (Row Int)).cut j k).n ≤ 1000000 := by show k - j ≤ _; omega
                    have hz2 : ((⟨RA, k, rc, rs⟩ : Row (Row Int)).cut 0 j).n ≤ 1000000 := by show j - 0 ≤ _; omega
                    generalize (⟨RA, k, rc, rs⟩ : Row (Row Int)).cut j k = R1 at *
                    generalize (⟨RA, k, rc, rs⟩ : Row (Row Int)).cut 0 j = R2 at *
                    obtain ⟨RA1, ra1, ca1, la1⟩ := R1
                    obtain ⟨RB1, rb1, cb1, lb1⟩ := R2
                    simp only at *
                    replace HG3 : Hid (∀ w', Bel w w' → Calls Try.prog 20 #[.agg #[.slice A n c, .slice MA mn mc, .int .i64 fa, .int .i64 p0, .int .i64 q0, .int .i64 p1, .int .i64 q1, .int .i64 p2, .int .i64 q2], .slice RA1 ra1 ca1] w' (CatPost2 (o3, k3) w')) := fun w' hb => by
                      have h := HG'.out ⟨RA1, ra1, ca1, la1⟩ w' hb (HG3 w' hb) hz1
                      rw [show catGrow C ((⟨RA1, ra1, ca1, la1⟩ : Row (Row Int)).l.map (·.l)) = (o3, k3) from by rw [ho3, ← hR1]] at h
                      exact h
                    replace HG4 : Hid (∀ (Z : Ct) w', Bel w w' → Z.rd w' → SmS Z.sc → Z.con = o3 → Calls Try.prog 20 #[.agg Z.cs, .slice RB1 rb1 cb1] w' (CatPost2 (o4, k4) w')) := fun Z w' hb hZ hs hc => by
                      have h := catgrow2_any Z ⟨RB1, rb1, cb1, lb1⟩ w' hZ hs (HG4 w' hb) hz2
                      rw [show catGrow Z.con ((⟨RB1, rb1, cb1, lb1⟩ : Row (Row Int)).l.map (·.l)) = (o4, k4) from by rw [hc, ho4, ← hR2]] at h
                      exact h
                    clear hz1 hz2 hR1 hR2 ho1 ho2 ho3 ho4 HG' HR HRA hrl HLs
                    go_wp2_with ((with_reducible show wpList _ _ _ (⟨some 83, _, _, _, _, _⟩ :: _) _ _); (refine wpList_load_blk rfl rowCt (.tmp 4) rfl _ rfl (H.out.blk 0 rfl) rfl ?_))
                    refine (HG1.out _ H.out.to).mono ?_; rintro e w9 ⟨X, rfl, hC, hR, hS, hb9, hN⟩
                    replace H := Lib.hid (H.out.add hb9 _ hN.1 hN.2); (try simp only [List.set_cons_zero, List.set_cons_succ, List.cons_append, List.nil_append, List.eraseIdx_cons_zero, List.eraseIdx_cons_succ, List.setIfInBounds_toArray, World.size_alloc, selR, List.getD_cons_zero, List.getD_cons_succ] at H)
                    have HC1 := Lib.hid hC
                    have HI1 := Lib.hid hR.ints
                    have HS1 := Lib.hid hS
                    have HR1 := Lib.hid hR
                    clear hC hR hS hb9 hN
                    obtain ⟨⟨⟨A1, n1, c1, l1⟩, ⟨M1, m1, d1, k1'⟩⟩, f1, p10, q10, p11, q11, p12, q12⟩ := X
                    simp only [Ct.cs, Sch.cs] at *
                    clear HG1
                    go_upto_region 13 with ((with_reducible show wpList _ _ _ (⟨_, .store _ (.tmp 12) _, _, _, _, _⟩ :: _) _ _); (refine wpList_store_new rfl rowCt (.tmp 12) (.tmp 86) rfl rfl rfl (#[.slice A1 n1 c1, .slice M1 m1 d1, .int .i64 f1, .int .i64 p10, .int .i64 q10, .int .i64 p11, .int .i64 q11, .int .i64 p12, .int .i64 q12]) rfl rfl (by simp [Value.oneCell']) ?_; replace H := Lib.hid (H.out.alloc (#[.slice A1 n1 c1, .slice M1 m1 d1, .int .i64 f1, .int .i64 p10, .int .i64 q10, .int .i64 p11, .int .i64 q11, .int .i64 p12, .int .i64 q12]) 40); (try simp only [List.set_cons_zero, List.set_cons_succ, List.cons_append, List.nil_append, List.eraseIdx_cons_zero, List.eraseIdx_cons_succ, List.setIfInBounds_toArray, World.size_alloc, selR, List.getD_cons_zero, List.getD_cons_succ] at H)))
                    (try simp only [Act.put, List.setIfInBounds_toArray, List.set_cons_zero, List.set_cons_succ])
                    generalize w9.heap.size = z1 at *
                    generalize World.alloc w9 _ = w10 at *
                    go_wp2_with ((with_reducible show wpList _ _ _ (⟨some 89, _, _, _, _, _⟩ :: _) _ _); (refine wpList_load_blk rfl rowCt (.tmp 4) rfl _ rfl (H.out.blk 0 rfl) rfl ?_))
                    refine (HG2.out _ H.out.to (own_zero (H.out.row 2 rfl))).mono ?_; rintro e w11 ⟨Y, rfl, hC, hR, hS, hb11, hN⟩
                    replace H := Lib.hid (H.out.add hb11 _ hN.1 hN.2); (try simp only [List.set_cons_zero, List.set_cons_succ, List.cons_append, List.nil_append, List.eraseIdx_cons_zero, List.eraseIdx_cons_succ, List.setIfInBounds_toArray, World.size_alloc, selR, List.getD_cons_zero, List.getD_cons_succ] at H)
                    have HC2 := Lib.hid hC
                    have HI2 := Lib.hid hR.ints
                    have HS2 := Lib.hid hS
                    have HR2 := Lib.hid hR
                    clear hC hR hS hb11 hN
                    obtain ⟨⟨⟨A2, n2, c2, l2⟩, ⟨M2, m2, d2, k2'⟩⟩, f2, p20, q20, p21, q21, p22, q22⟩ := Y
                    simp only [Ct.cs, Sch.cs] at *
                    clear HG2
                    go_upto_region 14 with ((with_reducible show wpList _ _ _ (⟨_, .store _ (.tmp 14) _, _, _, _, _⟩ :: _) _ _); (refine wpList_store_new rfl rowCt (.tmp 14) (.tmp 92) rfl rfl rfl (#[.slice A2 n2 c2, .slice M2 m2 d2, .int .i64 f2, .int .i64 p20, .int .i64 q20, .int .i64 p21, .int .i64 q21, .int .i64 p22, .int .i64 q22]) rfl rfl (by simp [Value.oneCell']) ?_; replace H := Lib.hid (H.out.alloc (#[.slice A2 n2 c2, .slice M2 m2 d2, .int .i64 f2, .int .i64 p20, .int .i64 q20, .int .i64 p21, .int .i64 q21, .int .i64 p22, .int .i64 q22]) 40); (try simp only [List.set_cons_zero, List.set_cons_succ, List.cons_append, List.nil_append, List.eraseIdx_cons_zero, List.eraseIdx_cons_succ, List.setIfInBounds_toArray, World.size_alloc, selR, List.getD_cons_zero, List.getD_cons_succ] at H)))
                    (try simp only [Act.put, List.setIfInBounds_toArray, List.set_cons_zero, List.set_cons_succ])
                    generalize w11.heap.size = z2 at *
                    generalize World.alloc w11 _ = w6 at *
                    refine wp_region_held_drew (S := fun w => w.cell? ⟨x, 0, none⟩ = some (.slice A n c) ∧ w.cell? ⟨x, 1, none⟩ = some (.slice MA mn mc) ∧ w.cell? ⟨x, 2, none⟩ = some (.int .i64 fa) ∧ w.cell? ⟨x, 3, none⟩ = some (.int .i64 p0) ∧ w.cell? ⟨x, 4, none⟩ = some (.int .i64 q0) ∧ w.cell? ⟨x, 5, none⟩ = some (.int .i64 p1) ∧ w.cell? ⟨x, 6, none⟩ = some (.int .i64 q1) ∧ w.cell? ⟨x, 7, none⟩ = some (.int .i64 p2) ∧ w.cell? ⟨x, 8, none⟩ = some (.int .i64 q2)) (by kernel_rfl) (by exact ⟨(H.out.blk 0 rfl).cell 0, (H.out.blk 0 rfl).cell 1, (H.out.blk 0 rfl).cell 2, (H.out.blk 0 rfl).cell 3, (H.out.blk 0 rfl).cell 4, (H.out.blk 0 rfl).cell 5, (H.out.blk 0 rfl).cell 6, (H.out.blk 0 rfl).cell 7, (H.out.blk 0 rfl).cell 8⟩) (fun hHeld => ?_)
                    replace H := Lib.hid (H.out.drew); (try simp only [List.set_cons_zero, List.set_cons_succ, List.cons_append, List.nil_append, List.eraseIdx_cons_zero, List.eraseIdx_cons_succ, List.setIfInBounds_toArray, World.size_alloc, selR, List.getD_cons_zero, List.getD_cons_succ] at H)
                    refine wpAnyH_take (i := 0) (v := ?vqb1_0) (get_o0) (by kernel_rfl) (by kernel_rfl) (by kernel_rfl) (by exact fun _ _ _ h => h) (Or.inl ⟨by rfl, ?hyqb1_0⟩) (by assumption) ?_
                    case hyqb1_0 => (intro w hSw; (try dsimp only at hSw); go_simp) <;> with_reducible rfl
                    try simp only [Act.put, List.setIfInBounds_toArray, List.set_cons_zero, List.set_cons_succ]
                    refine wpAnyH_take (i := 1) (v := ?vqb1_1) (get_os (get_o0)) (by kernel_rfl) (by kernel_rfl) (by kernel_rfl) (by exact fun _ _ _ h => h) (Or.inl ⟨by rfl, ?hyqb1_1⟩) (by assumption) ?_
                    case hyqb1_1 => (intro w hSw; (try dsimp only at hSw); go_simp) <;> with_reducible rfl
                    try simp only [Act.put, List.setIfInBounds_toArray, List.set_cons_zero, List.set_cons_succ]
                    refine wpAnyH_take (i := 2) (v := ?vqb1_2) (get_os (get_os (get_o0))) (by kernel_rfl) (by kernel_rfl) (by kernel_rfl) (by exact fun _ _ _ h => h) (Or.inl ⟨by rfl, ?hyqb1_2⟩) (by assumption) ?_
                    case hyqb1_2 => (intro w hSw; (try dsimp only at hSw); go_simp) <;> with_reducible rfl
                    try simp only [Act.put, List.setIfInBounds_toArray, List.set_cons_zero, List.set_cons_succ]
                    refine wpAnyH_take (i := 3) (v := .slice RA1 ra1 ca1) (get_os (get_os (get_os (get_o0)))) (by kernel_rfl) (by kernel_rfl) (by kernel_rfl) (by exact fun _ _ _ h => h) (yields_slice (by rfl) (.tmp 96) (some (.tmp 97)) none rfl (fun w => HSL1.out w)) (by assumption) ?_
                    try simp only [Act.put, List.setIfInBounds_toArray, List.set_cons_zero, List.set_cons_succ]
                    refine wpAnyH_ready (rs := [4, 8]) (by kernel_rfl) (by simp) ?_
                    refine (AllReadyH.cons (get_os (get_os (get_os (get_os (get_o0))))) (fun KK hKK => ?_) (AllReadyH.cons (get_os (get_os (get_os (get_os (get_os (get_os (get_os (get_os (get_o0))))))))) (fun KK hKK => ?_) AllReadyH.nil))
                    · go_simp
                      refine (HG3.out _ H.out.to).mono ?_; rintro e w7 ⟨Z, rfl, hC, hR, hS, hb7, hN⟩
                      replace H := Lib.hid (H.out.add hb7 _ hN.1 hN.2); (try simp only [List.set_cons_zero, List.set_cons_succ, List.cons_append, List.nil_append, List.eraseIdx_cons_zero, List.eraseIdx_cons_succ, List.setIfInBounds_toArray, World.size_alloc, selR, List.getD_cons_zero, List.getD_cons_succ] at H)
                      have HC3 := Lib.hid hC
                      have HI3 := Lib.hid hR.ints
                      have HS3 := Lib.hid hS
                      have HR3 := Lib.hid hR
                      clear hC hR hS hb7 hN
                      obtain ⟨⟨⟨A3, n3, c3, l3⟩, ⟨M3, m3, d3, k3'⟩⟩, f3, p30, q30, p31, q31, p32, q32⟩ := Z
                      simp only [Ct.cs, Sch.cs] at *
                      refine hKK.out _ _ (by exact ⟨(H.out.blk 0 rfl).cell 0, (H.out.blk 0 rfl).cell 1, (H.out.blk 0 rfl).cell 2, (H.out.blk 0 rfl).cell 3, (H.out.blk 0 rfl).cell 4, (H.out.blk 0 rfl).cell 5, (H.out.blk 0 rfl).cell 6, (H.out.blk 0 rfl).cell 7, (H.out.blk 0 rfl).cell 8⟩) (fun hHeld => ?_)
                      clear hKK KK
                      try simp only [Act.put, List.setIfInBounds_toArray, List.set_cons_zero, List.set_cons_succ]
                      refine wpAnyH_take (i := 5) (v := ?vqb2_) (get_os (get_os (get_os (get_os (get_os (get_o0)))))) (by kernel_rfl) (by kernel_rfl) (by kernel_rfl) (by exact fun _ _ _ h => h) (Or.inl ⟨by rfl, ?hyqb2_⟩) (by assumption) ?_
                      case hyqb2_ => (intro w hSw; (try dsimp only at hSw); go_simp) <;> with_reducible rfl
                      try simp only [Act.put, List.setIfInBounds_toArray, List.set_cons_zero, List.set_cons_succ]
                      refine wpAnyH_take (i := 6) (v := ?vqb3_) (get_os (get_os (get_os (get_os (get_os (get_os (get_o0))))))) (by kernel_rfl) (by kernel_rfl) (by kernel_rfl) (by exact fun _ _ _ h => h) (Or.inl ⟨by rfl, ?hyqb3_⟩) (by assumption) ?_
                      case hyqb3_ => (intro w hSw; (try dsimp only at hSw); go_simp) <;> with_reducible rfl
                      try simp only [Act.put, List.setIfInBounds_toArray, List.set_cons_zero, List.set_cons_succ]
                      refine wpAnyH_take (i := 7) (v := ?vqb4_) (get_os (get_os (get_os (get_os (get_os (get_os (get_os (get_o0)))))))) (by kernel_rfl) (by kernel_rfl) (by kernel_rfl) (by exact fun _ _ _ h => h) (Or.inl ⟨by rfl, ?hyqb4_⟩) (by assumption) ?_
                      case hyqb4_ => (intro w hSw; (try dsimp only at hSw); go_simp) <;> with_reducible rfl
                      try simp only [Act.put, List.setIfInBounds_toArray, List.set_cons_zero, List.set_cons_succ]
                      refine wpAnyH_ready (rs := [8]) (by kernel_rfl) (by simp) ?_
                      refine (AllReadyH.cons (get_os (get_os (get_os (get_os (get_os (get_os (get_os (get_os (get_o0))))))))) (fun KK hKK => ?_) AllReadyH.nil)
                      go_simp
                      replace H := Lib.hid (H.out.alloc #[.slice none 0 0, .slice none 0 0, .int .i64 0, .int .i64 0, .int .i64 0, .int .i64 0, .int .i64 0, .int .i64 0, .int .i64 0] 40); (try simp only [List.set_cons_zero, List.set_cons_succ, List.cons_append, List.nil_append, List.eraseIdx_cons_zero, List.eraseIdx_cons_succ, List.setIfInBounds_toArray, World.size_alloc, selR, List.getD_cons_zero, List.getD_cons_succ] at H)
                      refine hKK.out _ _ (by exact ⟨(H.out.blk 0 rfl).cell 0, (H.out.blk 0 rfl).cell 1, (H.out.blk 0 rfl).cell 2, (H.out.blk 0 rfl).cell 3, (H.out.blk 0 rfl).cell 4, (H.out.blk 0 rfl).cell 5, (H.out.blk 0 rfl).cell 6, (H.out.blk 0 rfl).cell 7, (H.out.blk 0 rfl).cell 8⟩) (fun hHeld => ?_)
                      clear hKK KK
                      try simp only [Act.put, List.setIfInBounds_toArray, List.set_cons_zero, List.set_cons_succ]
                      refine wpAnyH_ready (rs := [9]) (by kernel_rfl) (by simp) ?_
                      refine (AllReadyH.cons (get_os (get_os (get_os (get_os (get_os (get_os (get_os (get_os (get_os (get_o0)))))))))) (fun KK hKK => ?_) AllReadyH.nil)
                      generalize w7.heap.size = z at *
                      generalize World.alloc w7 _ = w8 at *
                      refine step_store_blk rfl rowCt (.tmp 16) (.tmp 100) rfl _ rfl (H.out.blk 8 rfl) rfl (#[.slice A3 n3 c3, .slice M3 m3 d3, .int .i64 f3, .int .i64 p30, .int .i64 q30, .int .i64 p31, .int .i64 q31, .int .i64 p32, .int .i64 q32]) rfl rfl (by simp [Value.oneCell']) ?_
                      intro wq bq hgq
                      replace H := Lib.hid (H.out.setBlk 8 rfl hgq bq); (try simp only [List.set_cons_zero, List.set_cons_succ, List.cons_append, List.nil_append, List.eraseIdx_cons_zero, List.eraseIdx_cons_succ, List.setIfInBounds_toArray, World.size_alloc, selR, List.getD_cons_zero, List.getD_cons_succ] at H)
                      clear hgq bq
                      replace H := Lib.hid (H.out.sel [0, 1, 2, 3, 4, 5, 6, 8, 7] (by decide) (by simp)); (try simp only [List.set_cons_zero, List.set_cons_succ, List.cons_append, List.nil_append, List.eraseIdx_cons_zero, List.eraseIdx_cons_succ, List.setIfInBounds_toArray, World.size_alloc, selR, List.getD_cons_zero, List.getD_cons_succ] at H)
                      refine hKK.out _ _ (by exact ⟨(H.out.blk 0 rfl).cell 0, (H.out.blk 0 rfl).cell 1, (H.out.blk 0 rfl).cell 2, (H.out.blk 0 rfl).cell 3, (H.out.blk 0 rfl).cell 4, (H.out.blk 0 rfl).cell 5, (H.out.blk 0 rfl).cell 6, (H.out.blk 0 rfl).cell 7, (H.out.blk 0 rfl).cell 8⟩) (fun hHeld => ?_)
                      clear hKK KK
                      try simp only [Act.put, List.setIfInBounds_toArray, List.set_cons_zero, List.set_cons_succ]
                      refine wpAnyH_ready (rs := [10]) (by kernel_rfl) (by simp) ?_
                      refine (AllReadyH.cons (get_ot (get_o0)) (fun KK hKK => ?_) AllReadyH.nil)
                      go_simp
                      refine hKK.out _ _ (by exact ⟨(H.out.blk 0 rfl).cell 0, (H.out.blk 0 rfl).cell 1, (H.out.blk 0 rfl).cell 2, (H.out.blk 0 rfl).cell 3, (H.out.blk 0 rfl).cell 4, (H.out.blk 0 rfl).cell 5, (H.out.blk 0 rfl).cell 6, (H.out.blk 0 rfl).cell 7, (H.out.blk 0 rfl).cell 8⟩) (fun hHeld => ?_)
                      clear hKK KK
                      try simp only [Act.put, List.setIfInBounds_toArray, List.set_cons_zero, List.set_cons_succ]
                      refine wpAnyH_done (by kernel_rfl) ?_ _
                      clear hHeld
                      by_cases h3 : k3 = 0
                      · have e3 : (k3 == 0) = true := by simp [h3]
                        have H3 := Lib.hid h3
                        go_upto_region 16 with fail
                        (try simp only [Act.put, List.setIfInBounds_toArray, List.set_cons_zero, List.set_cons_succ])
                        clear e3
                        replace h3 := H3.out
                        clear H3
                        refine wp_region_held_drew (S := fun w => w.cell? ⟨x, 0, none⟩ = some (.slice A n c) ∧ w.cell? ⟨x, 1, none⟩ = some (.slice MA mn mc) ∧ w.cell? ⟨x, 2, none⟩ = some (.int .i64 fa) ∧ w.cell? ⟨x, 3, none⟩ = some (.int .i64 p0) ∧ w.cell? ⟨x, 4, none⟩ = some (.int .i64 q0) ∧ w.cell? ⟨x, 5, none⟩ = some (.int .i64 p1) ∧ w.cell? ⟨x, 6, none⟩ = some (.int .i64 q1) ∧ w.cell? ⟨x, 7, none⟩ = some (.int .i64 p2) ∧ w.cell? ⟨x, 8, none⟩ = some (.int .i64 q2)) (by kernel_rfl) (by exact ⟨(H.out.blk 0 rfl).cell 0, (H.out.blk 0 rfl).cell 1, (H.out.blk 0 rfl).cell 2, (H.out.blk 0 rfl).cell 3, (H.out.blk 0 rfl).cell 4, (H.out.blk 0 rfl).cell 5, (H.out.blk 0 rfl).cell 6, (H.out.blk 0 rfl).cell 7, (H.out.blk 0 rfl).cell 8⟩) (fun hHeld => ?_)
                        replace H := Lib.hid (H.out.drew); (try simp only [List.set_cons_zero, List.set_cons_succ, List.cons_append, List.nil_append, List.eraseIdx_cons_zero, List.eraseIdx_cons_succ, List.setIfInBounds_toArray, World.size_alloc, selR, List.getD_cons_zero, List.getD_cons_succ] at H)
                        refine wpAnyH_take (i := 1) (v := ?vqb5_1) (get_os (get_o0)) (by kernel_rfl) (by kernel_rfl) (by kernel_rfl) (by exact fun _ _ _ h => h) (Or.inl ⟨by rfl, ?hyqb5_1⟩) (by assumption) ?_
                        case hyqb5_1 => (intro w hSw; (try dsimp only at hSw); go_simp) <;> with_reducible rfl
                        try simp only [Act.put, List.setIfInBounds_toArray, List.set_cons_zero, List.set_cons_succ]
                        refine wpAnyH_take (i := 2) (v := ?vqb5_2) (get_os (get_os (get_o0))) (by kernel_rfl) (by kernel_rfl) (by kernel_rfl) (by exact fun _ _ _ h => h) (Or.inl ⟨by rfl, ?hyqb5_2⟩) (by assumption) ?_
                        case hyqb5_2 => (intro w hSw; (try dsimp only at hSw); go_simp) <;> with_reducible rfl
                        try simp only [Act.put, List.setIfInBounds_toArray, List.set_cons_zero, List.set_cons_succ]
                        refine wpAnyH_take (i := 3) (v := .slice RB1 rb1 cb1) (get_os (get_os (get_os (get_o0)))) (by kernel_rfl) (by kernel_rfl) (by kernel_rfl) (by exact fun _ _ _ h => h) (yields_slice (by rfl) (.tmp 106) none (some (.tmp 107)) rfl (fun w => HSL2.out w)) (by assumption) ?_
                        try simp only [Act.put, List.setIfInBounds_toArray, List.set_cons_zero, List.set_cons_succ]
                        refine wpAnyH_ready (rs := [0]) (by kernel_rfl) (by simp) ?_
                        refine (AllReadyH.cons (get_o0) (fun KK hKK => ?_) AllReadyH.nil)
                        refine step_load_blk rfl rowCt (.tmp 16) rfl _ rfl (H.out.blk 7 rfl) rfl ?_
                        refine hKK.out _ _ (by exact ⟨(H.out.blk 0 rfl).cell 0, (H.out.blk 0 rfl).cell 1, (H.out.blk 0 rfl).cell 2, (H.out.blk 0 rfl).cell 3, (H.out.blk 0 rfl).cell 4, (H.out.blk 0 rfl).cell 5, (H.out.blk 0 rfl).cell 6, (H.out.blk 0 rfl).cell 7, (H.out.blk 0 rfl).cell 8⟩) (fun hHeld => ?_)
                        clear hKK KK
                        try simp only [Act.put, List.setIfInBounds_toArray, List.set_cons_zero, List.set_cons_succ]
                        refine wpAnyH_ready (rs := [4]) (by kernel_rfl) (by simp) ?_
                        refine (AllReadyH.cons (get_os (get_os (get_os (get_os (get_o0))))) (fun KK hKK => ?_) AllReadyH.nil)
                        go_simp
                        refine (HG4.out ⟨⟨⟨A3, n3, c3, l3⟩, ⟨M3, m3, d3, k3'⟩⟩, f3, p30, q30, p31, q31, p32, q32⟩ _ H.out.to (HI3.out.rd (H.out.at_ 8 rfl)) HS3.out HC3.out).mono ?_; rintro e w9 ⟨V, rfl, hC, hR, hS, hb9, hN⟩
                        replace H := Lib.hid (H.out.add hb9 _ hN.1 hN.2); (try simp only [List.set_cons_zero, List.set_cons_succ, List.cons_append, List.nil_append, List.eraseIdx_cons_zero, List.eraseIdx_cons_succ, List.setIfInBounds_toArray, World.size_alloc, selR, List.getD_cons_zero, List.getD_cons_succ] at H)
                        have HC4 := Lib.hid hC
                        have HI4 := Lib.hid hR.ints
                        have HS4 := Lib.hid hS
                        have HR4 := Lib.hid hR
                        clear hC hR hS hb9 hN
                        obtain ⟨⟨⟨A4, n4, c4, l4⟩, ⟨M4, m4, d4, k4'⟩⟩, f4, p40, q40, p41, q41, p42, q42⟩ := V
                        simp only [Ct.cs, Sch.cs] at *
                        refine hKK.out _ _ (by exact ⟨(H.out.blk 0 rfl).cell 0, (H.out.blk 0 rfl).cell 1, (H.out.blk 0 rfl).cell 2, (H.out.blk 0 rfl).cell 3, (H.out.blk 0 rfl).cell 4, (H.out.blk 0 rfl).cell 5, (H.out.blk 0 rfl).cell 6, (H.out.blk 0 rfl).cell 7, (H.out.blk 0 rfl).cell 8⟩) (fun hHeld => ?_)
                        clear hKK KK
                        try simp only [Act.put, List.setIfInBounds_toArray, List.set_cons_zero, List.set_cons_succ]
                        refine wpAnyH_take (i := 5) (v := ?vqb6_) (get_os (get_os (get_os (get_os (get_os (get_o0)))))) (by kernel_rfl) (by kernel_rfl) (by kernel_rfl) (by exact fun _ _ _ h => h) (Or.inl ⟨by rfl, ?hyqb6_⟩) (by assumption) ?_
                        case hyqb6_ => (intro w hSw; (try dsimp only at hSw); go_simp) <;> with_reducible rfl
                        try simp only [Act.put, List.setIfInBounds_toArray, List.set_cons_zero, List.set_cons_succ]
                        refine wpAnyH_take (i := 6) (v := ?vqb7_) (get_os (get_os (get_os (get_os (get_os (get_os (get_o0))))))) (by kernel_rfl) (by kernel_rfl) (by kernel_rfl) (by exact fun _ _ _ h => h) (Or.inl ⟨by rfl, ?hyqb7_⟩) (by assumption) ?_
                        case hyqb7_ => (intro w hSw; (try dsimp only at hSw); go_simp) <;> with_reducible rfl
                        try simp only [Act.put, List.setIfInBounds_toArray, List.set_cons_zero, List.set_cons_succ]
                        refine wpAnyH_take (i := 7) (v := ?vqb8_) (get_os (get_os (get_os (get_os (get_os (get_os (get_os (get_o0)))))))) (by kernel_rfl) (by kernel_rfl) (by kernel_rfl) (by exact fun _ _ _ h => h) (Or.inl ⟨by rfl, ?hyqb8_⟩) (by assumption) ?_
                        case hyqb8_ => (intro w hSw; (try dsimp only at hSw); go_simp) <;> with_reducible rfl
                        try simp only [Act.put, List.setIfInBounds_toArray, List.set_cons_zero, List.set_cons_succ]
                        refine wpAnyH_ready (rs := [8]) (by kernel_rfl) (by simp) ?_
                        refine (AllReadyH.cons (get_os (get_os (get_os (get_os (get_os (get_os (get_os (get_os (get_o0))))))))) (fun KK hKK => ?_) AllReadyH.nil)
                        refine step_store_blk rfl rowCt (.tmp 16) (.tmp 110) rfl _ rfl (H.out.blk 7 rfl) rfl (#[.slice A4 n4 c4, .slice M4 m4 d4, .int .i64 f4, .int .i64 p40, .int .i64 q40, .int .i64 p41, .int .i64 q41, .int .i64 p42, .int .i64 q42]) rfl rfl (by simp [Value.oneCell']) ?_
                        intro wq bq hgq
                        replace H := Lib.hid (H.out.setBlk 7 rfl hgq bq); (try simp only [List.set_cons_zero, List.set_cons_succ, List.cons_append, List.nil_append, List.eraseIdx_cons_zero, List.eraseIdx_cons_succ, List.setIfInBounds_toArray, World.size_alloc, selR, List.getD_cons_zero, List.getD_cons_succ] at H)
                        clear hgq bq
                        refine hKK.out _ _ (by exact ⟨(H.out.blk 0 rfl).cell 0, (H.out.blk 0 rfl).cell 1, (H.out.blk 0 rfl).cell 2, (H.out.blk 0 rfl).cell 3, (H.out.blk 0 rfl).cell 4, (H.out.blk 0 rfl).cell 5, (H.out.blk 0 rfl).cell 6, (H.out.blk 0 rfl).cell 7, (H.out.blk 0 rfl).cell 8⟩) (fun hHeld => ?_)
                        clear hKK KK
                        try simp only [Act.put, List.setIfInBounds_toArray, List.set_cons_zero, List.set_cons_succ]
                        refine wpAnyH_ready (rs := [9]) (by kernel_rfl) (by simp) ?_
                        refine (AllReadyH.cons (get_os (get_os (get_os (get_os (get_os (get_os (get_os (get_os (get_os (get_o0)))))))))) (fun KK hKK => ?_) AllReadyH.nil)
                        go_simp
                        refine hKK.out _ _ (by exact ⟨(H.out.blk 0 rfl).cell 0, (H.out.blk 0 rfl).cell 1, (H.out.blk 0 rfl).cell 2, (H.out.blk 0 rfl).cell 3, (H.out.blk 0 rfl).cell 4, (H.out.blk 0 rfl).cell 5, (H.out.blk 0 rfl).cell 6, (H.out.blk 0 rfl).cell 7, (H.out.blk 0 rfl).cell 8⟩) (fun hHeld => ?_)
                        clear hKK KK
                        try simp only [Act.put, List.setIfInBounds_toArray, List.set_cons_zero, List.set_cons_succ]
                        refine wpAnyH_done (by kernel_rfl) ?_ _
                        clear hHeld
                        by_cases h1 : k1 = 0
                        · have h2 : k2 = 0 := HP.out.1.1 h1
                          have h4 : k4 = 0 := (HQ.out.1.1 h1).2
                          have HE2 : Hid (o2 = o1) := HP.out.2 h1
                          have HE4 : Hid (o4 = o1) := HQ.out.2 h1
                          subst h1
                          subst h2
                          subst h4
                          go_wp2_with (first | ((with_reducible show wpList _ _ _ (⟨some 127, _, _, _, _, _⟩ :: _) _ _); refine wpList_load_blkG (by first | rfl | go_simp) rowCt (.tmp 12) (by rfl) _ (by rfl) (H.out.blk 4 rfl) rfl ?_) | ((with_reducible show wpList _ _ _ (⟨some 128, _, _, _, _, _⟩ :: _) _ _); refine wpList_load_blkG (by first | rfl | go_simp) rowCt (.tmp 14) (by rfl) _ (by rfl) (H.out.blk 6 rfl) rfl ?_))
                          refine ((show sameK (⟨⟨⟨A1, n1, c1, l1⟩, ⟨M1, m1, d1, k1'⟩⟩, f1, p10, q10, p11, q11, p12, q12⟩ : Ct).con (⟨⟨⟨A2, n2, c2, l2⟩, ⟨M2, m2, d2, k2'⟩⟩, f2, p20, q20, p21, q21, p22, q22⟩ : Ct).con = true from by rw [show (⟨⟨⟨A1, n1, c1, l1⟩, ⟨M1, m1, d1, k1'⟩⟩, f1, p10, q10, p11, q11, p12, q12⟩ : Ct).con = o1 from HC1.out, show (⟨⟨⟨A2, n2, c2, l2⟩, ⟨M2, m2, d2, k2'⟩⟩, f2, p20, q20, p21, q21, p22, q22⟩ : Ct).con = o2 from HC2.out, HE2.out]; exact sameK_self _) ▸ catsame_any ⟨⟨⟨A1, n1, c1, l1⟩, ⟨M1, m1, d1, k1'⟩⟩, f1, p10, q10, p11, q11, p12, q12⟩ ⟨⟨⟨A2, n2, c2, l2⟩, ⟨M2, m2, d2, k2'⟩⟩, f2, p20, q20, p21, q21, p22, q22⟩ _ (HI1.out.rd (H.out.at_ 3 rfl)) (HI2.out.rd (H.out.at_ 5 rfl))).mono ?_; rintro e w10 ⟨rfl, hb10⟩
                          replace H := Lib.hid (H.out.bel hb10); (try simp only [List.set_cons_zero, List.set_cons_succ, List.cons_append, List.nil_append, List.eraseIdx_cons_zero, List.eraseIdx_cons_succ, List.setIfInBounds_toArray, World.size_alloc, selR, List.getD_cons_zero, List.getD_cons_succ] at H)
                          clear hb10
                          go_wp2_with (first | ((with_reducible show wpList _ _ _ (⟨some 131, _, _, _, _, _⟩ :: _) _ _); refine wpList_load_blkG (by first | rfl | go_simp) rowCt (.tmp 12) (by rfl) _ (by rfl) (H.out.blk 4 rfl) rfl ?_) | ((with_reducible show wpList _ _ _ (⟨some 132, _, _, _, _, _⟩ :: _) _ _); refine wpList_load_blkG (by first | rfl | go_simp) rowCt (.tmp 16) (by rfl) _ (by rfl) (H.out.blk 7 rfl) rfl ?_))
                          refine ((show sameK (⟨⟨⟨A1, n1, c1, l1⟩, ⟨M1, m1, d1, k1'⟩⟩, f1, p10, q10, p11, q11, p12, q12⟩ : Ct).con (⟨⟨⟨A4, n4, c4, l4⟩, ⟨M4, m4, d4, k4'⟩⟩, f4, p40, q40, p41, q41, p42, q42⟩ : Ct).con = true from by rw [show (⟨⟨⟨A1, n1, c1, l1⟩, ⟨M1, m1, d1, k1'⟩⟩, f1, p10, q10, p11, q11, p12, q12⟩ : Ct).con = o1 from HC1.out, show (⟨⟨⟨A4, n4, c4, l4⟩, ⟨M4, m4, d4, k4'⟩⟩, f4, p40, q40, p41, q41, p42, q42⟩ : Ct).con = o4 from HC4.out, HE4.out]; exact sameK_self _) ▸ catsame_any ⟨⟨⟨A1, n1, c1, l1⟩, ⟨M1, m1, d1, k1'⟩⟩, f1, p10, q10, p11, q11, p12, q12⟩ ⟨⟨⟨A4, n4, c4, l4⟩, ⟨M4, m4, d4, k4'⟩⟩, f4, p40, q40, p41, q41, p42, q42⟩ _ (HI1.out.rd (H.out.at_ 3 rfl)) (HI4.out.rd (H.out.at_ 9 rfl))).mono ?_; rintro e w11 ⟨rfl, hb11⟩
                          replace H := Lib.hid (H.out.bel hb11); (try simp only [List.set_cons_zero, List.set_cons_succ, List.cons_append, List.nil_append, List.eraseIdx_cons_zero, List.eraseIdx_cons_succ, List.setIfInBounds_toArray, World.size_alloc, selR, List.getD_cons_zero, List.getD_cons_succ] at H)
                          clear hb11
                          go_wp2_with fail
                          refine (awake18_any _).mono ?_; rintro e w8 ⟨rfl, hb8⟩
                          replace H := Lib.hid (H.out.bel hb8); (try simp only [List.set_cons_zero, List.set_cons_succ, List.cons_append, List.nil_append, List.eraseIdx_cons_zero, List.eraseIdx_cons_succ, List.setIfInBounds_toArray, World.size_alloc, selR, List.getD_cons_zero, List.getD_cons_succ] at H)
                          clear hb8
                          go_wp2
                          go_ret
                          exact ⟨rfl, H.out.to⟩
                        · have h2 : ¬ k2 = 0 := fun h => h1 (HP.out.1.2 h)
                          have h4 : ¬ k4 = 0 := fun h => h1 (HQ.out.1.2 ⟨h3, h⟩)
                          have e1 : (k1 == 0) = false := by simpa using h1
                          have e2 : (k2 == 0) = false := by simpa using h2
                          have e4 : (k4 == 0) = false := by simpa using h4
                          go_wp2_with fail
                          refine (awake18_any _).mono ?_; rintro e w8 ⟨rfl, hb8⟩
                          replace H := Lib.hid (H.out.bel hb8); (try simp only [List.set_cons_zero, List.set_cons_succ, List.cons_append, List.nil_append, List.eraseIdx_cons_zero, List.eraseIdx_cons_succ, List.setIfInBounds_toArray, World.size_alloc, selR, List.getD_cons_zero, List.getD_cons_succ] at H)
                          clear hb8
                          go_wp2
                          go_ret
                          exact ⟨rfl, H.out.to⟩
                      · have h1 : ¬ k1 = 0 := fun h => h3 (HQ.out.1.1 h).1
                        have h2 : ¬ k2 = 0 := fun h => h1 (HP.out.1.2 h)
                        have e1 : (k1 == 0) = false := by simpa using h1
                        have e2 : (k2 == 0) = false := by simpa using h2
                        have e3 : (k3 == 0) = false := by simpa using h3
                        go_wp2_with fail
                        refine (awake18_any _).mono ?_; rintro e w8 ⟨rfl, hb8⟩
                        replace H := Lib.hid (H.out.bel hb8); (try simp only [List.set_cons_zero, List.set_cons_succ, List.cons_append, List.nil_append, List.eraseIdx_cons_zero, List.eraseIdx_cons_succ, List.setIfInBounds_toArray, World.size_alloc, selR, List.getD_cons_zero, List.getD_cons_succ] at H)
                        clear hb8
                        go_wp2
                        go_ret
                        exact ⟨rfl, H.out.to⟩
                    · go_simp
                      replace H := Lib.hid (H.out.alloc #[.slice none 0 0, .slice none 0 0, .int .i64 0, .int .i64 0, .int .i64 0, .int .i64 0, .int .i64 0, .int .i64 0, .int .i64 0] 40); (try simp only [List.set_cons_zero, List.set_cons_succ, List.cons_append, List.nil_append, List.eraseIdx_cons_zero, List.eraseIdx_cons_succ, List.setIfInBounds_toArray, World.size_alloc, selR, List.getD_cons_zero, List.getD_cons_succ] at H)
                      refine hKK.out _ _ (by exact ⟨(H.out.blk 0 rfl).cell 0, (H.out.blk 0 rfl).cell 1, (H.out.blk 0 rfl).cell 2, (H.out.blk 0 rfl).cell 3, (H.out.blk 0 rfl).cell 4, (H.out.blk 0 rfl).cell 5, (H.out.blk 0 rfl).cell 6, (H.out.blk 0 rfl).cell 7, (H.out.blk 0 rfl).cell 8⟩) (fun hHeld => ?_)
                      clear hKK KK
                      try simp only [Act.put, List.setIfInBounds_toArray, List.set_cons_zero, List.set_cons_succ]
                      refine wpAnyH_ready (rs := [4]) (by kernel_rfl) (by simp) ?_
                      refine (AllReadyH.cons (get_os (get_os (get_os (get_os (get_o0))))) (fun KK hKK => ?_) AllReadyH.nil)
                      go_simp
                      refine (HG3.out _ H.out.to).mono ?_; rintro e w7 ⟨Z, rfl, hC, hR, hS, hb7, hN⟩
                      replace H := Lib.hid (H.out.add hb7 _ hN.1 hN.2); (try simp only [List.set_cons_zero, List.set_cons_succ, List.cons_append, List.nil_append, List.eraseIdx_cons_zero, List.eraseIdx_cons_succ, List.setIfInBounds_toArray, World.size_alloc, selR, List.getD_cons_zero, List.getD_cons_succ] at H)
                      have HC3 := Lib.hid hC
                      have HI3 := Lib.hid hR.ints
                      have HS3 := Lib.hid hS
                      have HR3 := Lib.hid hR
                      clear hC hR hS hb7 hN
                      obtain ⟨⟨⟨A3, n3, c3, l3⟩, ⟨M3, m3, d3, k3'⟩⟩, f3, p30, q30, p31, q31, p32, q32⟩ := Z
                      simp only [Ct.cs, Sch.cs] at *
                      refine hKK.out _ _ (by exact ⟨(H.out.blk 0 rfl).cell 0, (H.out.blk 0 rfl).cell 1, (H.out.blk 0 rfl).cell 2, (H.out.blk 0 rfl).cell 3, (H.out.blk 0 rfl).cell 4, (H.out.blk 0 rfl).cell 5, (H.out.blk 0 rfl).cell 6, (H.out.blk 0 rfl).cell 7, (H.out.blk 0 rfl).cell 8⟩) (fun hHeld => ?_)
                      clear hKK KK
                      try simp only [Act.put, List.setIfInBounds_toArray, List.set_cons_zero, List.set_cons_succ]
                      refine wpAnyH_take (i := 5) (v := ?vqb9_) (get_os (get_os (get_os (get_os (get_os (get_o0)))))) (by kernel_rfl) (by kernel_rfl) (by kernel_rfl) (by exact fun _ _ _ h => h) (Or.inl ⟨by rfl, ?hyqb9_⟩) (by assumption) ?_
                      case hyqb9_ => (intro w hSw; (try dsimp only at hSw); go_simp) <;> with_reducible rfl
                      try simp only [Act.put, List.setIfInBounds_toArray, List.set_cons_zero, List.set_cons_succ]
                      refine wpAnyH_take (i := 6) (v := ?vqb10_) (get_os (get_os (get_os (get_os (get_os (get_os (get_o0))))))) (by kernel_rfl) (by kernel_rfl) (by kernel_rfl) (by exact fun _ _ _ h => h) (Or.inl ⟨by rfl, ?hyqb10_⟩) (by assumption) ?_
                      case hyqb10_ => (intro w hSw; (try dsimp only at hSw); go_simp) <;> with_reducible rfl
                      try simp only [Act.put, List.setIfInBounds_toArray, List.set_cons_zero, List.set_cons_succ]
                      refine wpAnyH_take (i := 7) (v := ?vqb11_) (get_os (get_os (get_os (get_os (get_os (get_os (get_os (get_o0)))))))) (by kernel_rfl) (by kernel_rfl) (by kernel_rfl) (by exact fun _ _ _ h => h) (Or.inl ⟨by rfl, ?hyqb11_⟩) (by assumption) ?_
                      case hyqb11_ => (intro w hSw; (try dsimp only at hSw); go_simp) <;> with_reducible rfl
                      try simp only [Act.put, List.setIfInBounds_toArray, List.set_cons_zero, List.set_cons_succ]
                      refine wpAnyH_ready (rs := [9]) (by kernel_rfl) (by simp) ?_
                      refine (AllReadyH.cons (get_os (get_os (get_os (get_os (get_os (get_os (get_os (get_os (get_os (get_o0)))))))))) (fun KK hKK => ?_) AllReadyH.nil)
                      have hdz : w6.drew.heap.size = w6.heap.size := rfl
                      (try rw [hdz] at H)
                      clear hdz
                      generalize w6.heap.size = z at *
                      refine step_store_blk rfl rowCt (.tmp 16) (.tmp 100) rfl _ rfl (H.out.blk 7 rfl) rfl (#[.slice A3 n3 c3, .slice M3 m3 d3, .int .i64 f3, .int .i64 p30, .int .i64 q30, .int .i64 p31, .int .i64 q31, .int .i64 p32, .int .i64 q32]) rfl rfl (by simp [Value.oneCell']) ?_
                      intro wq bq hgq
                      replace H := Lib.hid (H.out.setBlk 7 rfl hgq bq); (try simp only [List.set_cons_zero, List.set_cons_succ, List.cons_append, List.nil_append, List.eraseIdx_cons_zero, List.eraseIdx_cons_succ, List.setIfInBounds_toArray, World.size_alloc, selR, List.getD_cons_zero, List.getD_cons_succ] at H)
                      clear hgq bq
                      skip
                      refine hKK.out _ _ (by exact ⟨(H.out.blk 0 rfl).cell 0, (H.out.blk 0 rfl).cell 1, (H.out.blk 0 rfl).cell 2, (H.out.blk 0 rfl).cell 3, (H.out.blk 0 rfl).cell 4, (H.out.blk 0 rfl).cell 5, (H.out.blk 0 rfl).cell 6, (H.out.blk 0 rfl).cell 7, (H.out.blk 0 rfl).cell 8⟩) (fun hHeld => ?_)
                      clear hKK KK
                      try simp only [Act.put, List.setIfInBounds_toArray, List.set_cons_zero, List.set_cons_succ]
                      refine wpAnyH_ready (rs := [10]) (by kernel_rfl) (by simp) ?_
                      refine (AllReadyH.cons (get_ot (get_o0)) (fun KK hKK => ?_) AllReadyH.nil)
                      go_simp
                      refine hKK.out _ _ (by exact ⟨(H.out.blk 0 rfl).cell 0, (H.out.blk 0 rfl).cell 1, (H.out.blk 0 rfl).cell 2, (H.out.blk 0 rfl).cell 3, (H.out.blk 0 rfl).cell 4, (H.out.blk 0 rfl).cell 5, (H.out.blk 0 rfl).cell 6, (H.out.blk 0 rfl).cell 7, (H.out.blk 0 rfl).cell 8⟩) (fun hHeld => ?_)
                      clear hKK KK
                      try simp only [Act.put, List.setIfInBounds_toArray, List.set_cons_zero, List.set_cons_succ]
                      refine wpAnyH_done (by kernel_rfl) ?_ _
                      clear hHeld
                      by_cases h3 : k3 = 0
                      · have e3 : (k3 == 0) = true := by simp [h3]
                        have H3 := Lib.hid h3
                        go_upto_region 16 with fail
                        (try simp only [Act.put, List.setIfInBounds_toArray, List.set_cons_zero, List.set_cons_succ])
                        clear e3
                        replace h3 := H3.out
                        clear H3
                        refine wp_region_held_drew (S := fun w => w.cell? ⟨x, 0, none⟩ = some (.slice A n c) ∧ w.cell? ⟨x, 1, none⟩ = some (.slice MA mn mc) ∧ w.cell? ⟨x, 2, none⟩ = some (.int .i64 fa) ∧ w.cell? ⟨x, 3, none⟩ = some (.int .i64 p0) ∧ w.cell? ⟨x, 4, none⟩ = some (.int .i64 q0) ∧ w.cell? ⟨x, 5, none⟩ = some (.int .i64 p1) ∧ w.cell? ⟨x, 6, none⟩ = some (.int .i64 q1) ∧ w.cell? ⟨x, 7, none⟩ = some (.int .i64 p2) ∧ w.cell? ⟨x, 8, none⟩ = some (.int .i64 q2)) (by kernel_rfl) (by exact ⟨(H.out.blk 0 rfl).cell 0, (H.out.blk 0 rfl).cell 1, (H.out.blk 0 rfl).cell 2, (H.out.blk 0 rfl).cell 3, (H.out.blk 0 rfl).cell 4, (H.out.blk 0 rfl).cell 5, (H.out.blk 0 rfl).cell 6, (H.out.blk 0 rfl).cell 7, (H.out.blk 0 rfl).cell 8⟩) (fun hHeld => ?_)
                        replace H := Lib.hid (H.out.drew); (try simp only [List.set_cons_zero, List.set_cons_succ, List.cons_append, List.nil_append, List.eraseIdx_cons_zero, List.eraseIdx_cons_succ, List.setIfInBounds_toArray, World.size_alloc, selR, List.getD_cons_zero, List.getD_cons_succ] at H)
                        refine wpAnyH_take (i := 1) (v := ?vqb12_1) (get_os (get_o0)) (by kernel_rfl) (by kernel_rfl) (by kernel_rfl) (by exact fun _ _ _ h => h) (Or.inl ⟨by rfl, ?hyqb12_1⟩) (by assumption) ?_
                        case hyqb12_1 => (intro w hSw; (try dsimp only at hSw); go_simp) <;> with_reducible rfl
                        try simp only [Act.put, List.setIfInBounds_toArray, List.set_cons_zero, List.set_cons_succ]
                        refine wpAnyH_take (i := 2) (v := ?vqb12_2) (get_os (get_os (get_o0))) (by kernel_rfl) (by kernel_rfl) (by kernel_rfl) (by exact fun _ _ _ h => h) (Or.inl ⟨by rfl, ?hyqb12_2⟩) (by assumption) ?_
                        case hyqb12_2 => (intro w hSw; (try dsimp only at hSw); go_simp) <;> with_reducible rfl
                        try simp only [Act.put, List.setIfInBounds_toArray, List.set_cons_zero, List.set_cons_succ]
                        refine wpAnyH_take (i := 3) (v := .slice RB1 rb1 cb1) (get_os (get_os (get_os (get_o0)))) (by kernel_rfl) (by kernel_rfl) (by kernel_rfl) (by exact fun _ _ _ h => h) (yields_slice (by rfl) (.tmp 106) none (some (.tmp 107)) rfl (fun w => HSL2.out w)) (by assumption) ?_
                        try simp only [Act.put, List.setIfInBounds_toArray, List.set_cons_zero, List.set_cons_succ]
                        refine wpAnyH_ready (rs := [0]) (by kernel_rfl) (by simp) ?_
                        refine (AllReadyH.cons (get_o0) (fun KK hKK => ?_) AllReadyH.nil)
                        refine step_load_blk rfl rowCt (.tmp 16) rfl _ rfl (H.out.blk 7 rfl) rfl ?_
                        refine hKK.out _ _ (by exact ⟨(H.out.blk 0 rfl).cell 0, (H.out.blk 0 rfl).cell 1, (H.out.blk 0 rfl).cell 2, (H.out.blk 0 rfl).cell 3, (H.out.blk 0 rfl).cell 4, (H.out.blk 0 rfl).cell 5, (H.out.blk 0 rfl).cell 6, (H.out.blk 0 rfl).cell 7, (H.out.blk 0 rfl).cell 8⟩) (fun hHeld => ?_)
                        clear hKK KK
                        try simp only [Act.put, List.setIfInBounds_toArray, List.set_cons_zero, List.set_cons_succ]
                        refine wpAnyH_ready (rs := [4]) (by kernel_rfl) (by simp) ?_
                        refine (AllReadyH.cons (get_os (get_os (get_os (get_os (get_o0))))) (fun KK hKK => ?_) AllReadyH.nil)
                        go_simp
                        refine (HG4.out ⟨⟨⟨A3, n3, c3, l3⟩, ⟨M3, m3, d3, k3'⟩⟩, f3, p30, q30, p31, q31, p32, q32⟩ _ H.out.to (HI3.out.rd (H.out.at_ 8 rfl)) HS3.out HC3.out).mono ?_; rintro e w9 ⟨V, rfl, hC, hR, hS, hb9, hN⟩
                        replace H := Lib.hid (H.out.add hb9 _ hN.1 hN.2); (try simp only [List.set_cons_zero, List.set_cons_succ, List.cons_append, List.nil_append, List.eraseIdx_cons_zero, List.eraseIdx_cons_succ, List.setIfInBounds_toArray, World.size_alloc, selR, List.getD_cons_zero, List.getD_cons_succ] at H)
                        have HC4 := Lib.hid hC
                        have HI4 := Lib.hid hR.ints
                        have HS4 := Lib.hid hS
                        have HR4 := Lib.hid hR
                        clear hC hR hS hb9 hN
                        obtain ⟨⟨⟨A4, n4, c4, l4⟩, ⟨M4, m4, d4, k4'⟩⟩, f4, p40, q40, p41, q41, p42, q42⟩ := V
                        simp only [Ct.cs, Sch.cs] at *
                        refine hKK.out _ _ (by exact ⟨(H.out.blk 0 rfl).cell 0, (H.out.blk 0 rfl).cell 1, (H.out.blk 0 rfl).cell 2, (H.out.blk 0 rfl).cell 3, (H.out.blk 0 rfl).cell 4, (H.out.blk 0 rfl).cell 5, (H.out.blk 0 rfl).cell 6, (H.out.blk 0 rfl).cell 7, (H.out.blk 0 rfl).cell 8⟩) (fun hHeld => ?_)
                        clear hKK KK
                        try simp only [Act.put, List.setIfInBounds_toArray, List.set_cons_zero, List.set_cons_succ]
                        refine wpAnyH_take (i := 5) (v := ?vqb13_) (get_os (get_os (get_os (get_os (get_os (get_o0)))))) (by kernel_rfl) (by kernel_rfl) (by kernel_rfl) (by exact fun _ _ _ h => h) (Or.inl ⟨by rfl, ?hyqb13_⟩) (by assumption) ?_
                        case hyqb13_ => (intro w hSw; (try dsimp only at hSw); go_simp) <;> with_reducible rfl
                        try simp only [Act.put, List.setIfInBounds_toArray, List.set_cons_zero, List.set_cons_succ]
                        refine wpAnyH_take (i := 6) (v := ?vqb14_) (get_os (get_os (get_os (get_os (get_os (get_os (get_o0))))))) (by kernel_rfl) (by kernel_rfl) (by kernel_rfl) (by exact fun _ _ _ h => h) (Or.inl ⟨by rfl, ?hyqb14_⟩) (by assumption) ?_
                        case hyqb14_ => (intro w hSw; (try dsimp only at hSw); go_simp) <;> with_reducible rfl
                        try simp only [Act.put, List.setIfInBounds_toArray, List.set_cons_zero, List.set_cons_succ]
                        refine wpAnyH_take (i := 7) (v := ?vqb15_) (get_os (get_os (get_os (get_os (get_os (get_os (get_os (get_o0)))))))) (by kernel_rfl) (by kernel_rfl) (by kernel_rfl) (by exact fun _ _ _ h => h) (Or.inl ⟨by rfl, ?hyqb15_⟩) (by assumption) ?_
                        case hyqb15_ => (intro w hSw; (try dsimp only at hSw); go_simp) <;> with_reducible rfl
                        try simp only [Act.put, List.setIfInBounds_toArray, List.set_cons_zero, List.set_cons_succ]
                        refine wpAnyH_ready (rs := [8]) (by kernel_rfl) (by simp) ?_
                        refine (AllReadyH.cons (get_os (get_os (get_os (get_os (get_os (get_os (get_os (get_os (get_o0))))))))) (fun KK hKK => ?_) AllReadyH.nil)
                        refine step_store_blk rfl rowCt (.tmp 16) (.tmp 110) rfl _ rfl (H.out.blk 7 rfl) rfl (#[.slice A4 n4 c4, .slice M4 m4 d4, .int .i64 f4, .int .i64 p40, .int .i64 q40, .int .i64 p41, .int .i64 q41, .int .i64 p42, .int .i64 q42]) rfl rfl (by simp [Value.oneCell']) ?_
                        intro wq bq hgq
                        replace H := Lib.hid (H.out.setBlk 7 rfl hgq bq); (try simp only [List.set_cons_zero, List.set_cons_succ, List.cons_append, List.nil_append, List.eraseIdx_cons_zero, List.eraseIdx_cons_succ, List.setIfInBounds_toArray, World.size_alloc, selR, List.getD_cons_zero, List.getD_cons_succ] at H)
                        clear hgq bq
                        refine hKK.out _ _ (by exact ⟨(H.out.blk 0 rfl).cell 0, (H.out.blk 0 rfl).cell 1, (H.out.blk 0 rfl).cell 2, (H.out.blk 0 rfl).cell 3, (H.out.blk 0 rfl).cell 4, (H.out.blk 0 rfl).cell 5, (H.out.blk 0 rfl).cell 6, (H.out.blk 0 rfl).cell 7, (H.out.blk 0 rfl).cell 8⟩) (fun hHeld => ?_)
                        clear hKK KK
                        try simp only [Act.put, List.setIfInBounds_toArray, List.set_cons_zero, List.set_cons_succ]
                        refine wpAnyH_ready (rs := [9]) (by kernel_rfl) (by simp) ?_
                        refine (AllReadyH.cons (get_os (get_os (get_os (get_os (get_os (get_os (get_os (get_os (get_os (get_o0)))))))))) (fun KK hKK => ?_) AllReadyH.nil)
                        go_simp
                        refine hKK.out _ _ (by exact ⟨(H.out.blk 0 rfl).cell 0, (H.out.blk 0 rfl).cell 1, (H.out.blk 0 rfl).cell 2, (H.out.blk 0 rfl).cell 3, (H.out.blk 0 rfl).cell 4, (H.out.blk 0 rfl).cell 5, (H.out.blk 0 rfl).cell 6, (H.out.blk 0 rfl).cell 7, (H.out.blk 0 rfl).cell 8⟩) (fun hHeld => ?_)
                        clear hKK KK
                        try simp only [Act.put, List.setIfInBounds_toArray, List.set_cons_zero, List.set_cons_succ]
                        refine wpAnyH_done (by kernel_rfl) ?_ _
                        clear hHeld
                        by_cases h1 : k1 = 0
                        · have h2 : k2 = 0 := HP.out.1.1 h1
                          have h4 : k4 = 0 := (HQ.out.1.1 h1).2
                          have HE2 : Hid (o2 = o1) := HP.out.2 h1
                          have HE4 : Hid (o4 = o1) := HQ.out.2 h1
                          subst h1
                          subst h2
                          subst h4
                          go_wp2_with (first | ((with_reducible show wpList _ _ _ (⟨some 127, _, _, _, _, _⟩ :: _) _ _); refine wpList_load_blkG (by first | rfl | go_simp) rowCt (.tmp 12) (by rfl) _ (by rfl) (H.out.blk 4 rfl) rfl ?_) | ((with_reducible show wpList _ _ _ (⟨some 128, _, _, _, _, _⟩ :: _) _ _); refine wpList_load_blkG (by first | rfl | go_simp) rowCt (.tmp 14) (by rfl) _ (by rfl) (H.out.blk 6 rfl) rfl ?_))
                          refine ((show sameK (⟨⟨⟨A1, n1, c1, l1⟩, ⟨M1, m1, d1, k1'⟩⟩, f1, p10, q10, p11, q11, p12, q12⟩ : Ct).con (⟨⟨⟨A2, n2, c2, l2⟩, ⟨M2, m2, d2, k2'⟩⟩, f2, p20, q20, p21, q21, p22, q22⟩ : Ct).con = true from by rw [show (⟨⟨⟨A1, n1, c1, l1⟩, ⟨M1, m1, d1, k1'⟩⟩, f1, p10, q10, p11, q11, p12, q12⟩ : Ct).con = o1 from HC1.out, show (⟨⟨⟨A2, n2, c2, l2⟩, ⟨M2, m2, d2, k2'⟩⟩, f2, p20, q20, p21, q21, p22, q22⟩ : Ct).con = o2 from HC2.out, HE2.out]; exact sameK_self _) ▸ catsame_any ⟨⟨⟨A1, n1, c1, l1⟩, ⟨M1, m1, d1, k1'⟩⟩, f1, p10, q10, p11, q11, p12, q12⟩ ⟨⟨⟨A2, n2, c2, l2⟩, ⟨M2, m2, d2, k2'⟩⟩, f2, p20, q20, p21, q21, p22, q22⟩ _ (HI1.out.rd (H.out.at_ 3 rfl)) (HI2.out.rd (H.out.at_ 5 rfl))).mono ?_; rintro e w10 ⟨rfl, hb10⟩
                          replace H := Lib.hid (H.out.bel hb10); (try simp only [List.set_cons_zero, List.set_cons_succ, List.cons_append, List.nil_append, List.eraseIdx_cons_zero, List.eraseIdx_cons_succ, List.setIfInBounds_toArray, World.size_alloc, selR, List.getD_cons_zero, List.getD_cons_succ] at H)
                          clear hb10
                          go_wp2_with (first | ((with_reducible show wpList _ _ _ (⟨some 131, _, _, _, _, _⟩ :: _) _ _); refine wpList_load_blkG (by first | rfl | go_simp) rowCt (.tmp 12) (by rfl) _ (by rfl) (H.out.blk 4 rfl) rfl ?_) | ((with_reducible show wpList _ _ _ (⟨some 132, _, _, _, _, _⟩ :: _) _ _); refine wpList_load_blkG (by first | rfl | go_simp) rowCt (.tmp 16) (by rfl) _ (by rfl) (H.out.blk 7 rfl) rfl ?_))
                          refine ((show sameK (⟨⟨⟨A1, n1, c1, l1⟩, ⟨M1, m1, d1, k1'⟩⟩, f1, p10, q10, p11, q11, p12, q12⟩ : Ct).con (⟨⟨⟨A4, n4, c4, l4⟩, ⟨M4, m4, d4, k4'⟩⟩, f4, p40, q40, p41, q41, p42, q42⟩ : Ct).con = true from by rw [show (⟨⟨⟨A1, n1, c1, l1⟩, ⟨M1, m1, d1, k1'⟩⟩, f1, p10, q10, p11, q11, p12, q12⟩ : Ct).con = o1 from HC1.out, show (⟨⟨⟨A4, n4, c4, l4⟩, ⟨M4, m4, d4, k4'⟩⟩, f4, p40, q40, p41, q41, p42, q42⟩ : Ct).con = o4 from HC4.out, HE4.out]; exact sameK_self _) ▸ catsame_any ⟨⟨⟨A1, n1, c1, l1⟩, ⟨M1, m1, d1, k1'⟩⟩, f1, p10, q10, p11, q11, p12, q12⟩ ⟨⟨⟨A4, n4, c4, l4⟩, ⟨M4, m4, d4, k4'⟩⟩, f4, p40, q40, p41, q41, p42, q42⟩ _ (HI1.out.rd (H.out.at_ 3 rfl)) (HI4.out.rd (H.out.at_ 9 rfl))).mono ?_; rintro e w11 ⟨rfl, hb11⟩
                          replace H := Lib.hid (H.out.bel hb11); (try simp only [List.set_cons_zero, List.set_cons_succ, List.cons_append, List.nil_append, List.eraseIdx_cons_zero, List.eraseIdx_cons_succ, List.setIfInBounds_toArray, World.size_alloc, selR, List.getD_cons_zero, List.getD_cons_succ] at H)
                          clear hb11
                          go_wp2_with fail
                          refine (awake18_any _).mono ?_; rintro e w8 ⟨rfl, hb8⟩
                          replace H := Lib.hid (H.out.bel hb8); (try simp only [List.set_cons_zero, List.set_cons_succ, List.cons_append, List.nil_append, List.eraseIdx_cons_zero, List.eraseIdx_cons_succ, List.setIfInBounds_toArray, World.size_alloc, selR, List.getD_cons_zero, List.getD_cons_succ] at H)
                          clear hb8
                          go_wp2
                          go_ret
                          exact ⟨rfl, H.out.to⟩
                        · have h2 : ¬ k2 = 0 := fun h => h1 (HP.out.1.2 h)
                          have h4 : ¬ k4 = 0 := fun h => h1 (HQ.out.1.2 ⟨h3, h⟩)
                          have e1 : (k1 == 0) = false := by simpa using h1
                          have e2 : (k2 == 0) = false := by simpa using h2
                          have e4 : (k4 == 0) = false := by simpa using h4
                          go_wp2_with fail
                          refine (awake18_any _).mono ?_; rintro e w8 ⟨rfl, hb8⟩
                          replace H := Lib.hid (H.out.bel hb8); (try simp only [List.set_cons_zero, List.set_cons_succ, List.cons_append, List.nil_append, List.eraseIdx_cons_zero, List.eraseIdx_cons_succ, List.setIfInBounds_toArray, World.size_alloc, selR, List.getD_cons_zero, List.getD_cons_succ] at H)
                          clear hb8
                          go_wp2
                          go_ret
                          exact ⟨rfl, H.out.to⟩
                      · have h1 : ¬ k1 = 0 := fun h => h3 (HQ.out.1.1 h).1
                        have h2 : ¬ k2 = 0 := fun h => h1 (HP.out.1.2 h)
                        have e1 : (k1 == 0) = false := by simpa using h1
                        have e2 : (k2 == 0) = false := by simpa using h2
                        have e3 : (k3 == 0) = false := by simpa using h3
                        go_wp2_with fail
                        refine (awake18_any _).mono ?_; rintro e w8 ⟨rfl, hb8⟩
                        replace H := Lib.hid (H.out.bel hb8); (try simp only [List.set_cons_zero, List.set_cons_succ, List.cons_append, List.nil_append, List.eraseIdx_cons_zero, List.eraseIdx_cons_succ, List.setIfInBounds_toArray, World.size_alloc, selR, List.getD_cons_zero, List.getD_cons_succ] at H)
                        clear hb8
                        go_wp2
                        go_ret
                        exact ⟨rfl, H.out.to⟩
            · have e1 : decide ((rn : Int) < j) = true := decide_eq_true (by omega)
              go_wp2_with fail
              refine (awake18_any _).mono ?_; rintro e w8 ⟨rfl, hb8⟩
              replace H := Lib.hid (H.out.bel hb8); (try simp only [List.set_cons_zero, List.set_cons_succ, List.cons_append, List.nil_append, List.eraseIdx_cons_zero, List.eraseIdx_cons_succ, List.setIfInBounds_toArray, World.size_alloc, selR, List.getD_cons_zero, List.getD_cons_succ] at H)
              clear hb8
              go_wp2
              go_ret
              exact ⟨rfl, H.out.to⟩
        · have dE : (catErr C == 0) = false := by simpa using hE
          have dE2 : (catErr C != 0) = true := by simp [hE]
          generalize catErr C = E at *
          go_wp2_with fail
          refine (awake18_any _).mono ?_; rintro e w8 ⟨rfl, hb8⟩
          replace H := Lib.hid (H.out.bel hb8); (try simp only [List.set_cons_zero, List.set_cons_succ, List.cons_append, List.nil_append, List.eraseIdx_cons_zero, List.eraseIdx_cons_succ, List.setIfInBounds_toArray, World.size_alloc, selR, List.getD_cons_zero, List.getD_cons_succ] at H)
          clear hb8
          go_wp2
          go_ret
          exact ⟨rfl, H.out.to⟩

section
open Go.ChangeShapes Go.WideShapes Go.Deep
set_option maxRecDepth 100000 in
theorem open_i64ssk {H : Type} {enc : TypeId × Value → H} {w : World} {base b0 : Nat} {spare : Nat → Bool} {held : Bool} {r : Reach} {v : Value} {d : DataW H} {p : List MemPlace}
    (hv : Value.okWide Try.prog w r b0 41 v) (h : DataW.Trod enc Try.prog w base spare held 41 v d p) (hz : Sized Try.prog 41 d) : ∃ x : Row (Row Int), v = x.v ∧ x.ok w :=
  open_row (α := Row Int) Try.underlying41 (by kernel_rfl) (by kernel_rfl) opens_i64sq hv h hz
theorem walkv_catalogOrder (w : World) (s : Ct) (hs : s.rd w) (t : Ct) (ht : t.rd w) (r : Row (Row Int)) (hr : r.ok w) (cut : Int) (hcut : (Lit.int .i64 cut).wf = true) :
    Calls Try.prog 7 #[.agg s.cs, .agg t.cs, .slice r.A r.n r.c, .int .i64 cut] w fun e w' => e = .returned (.bool true) ∧ Bel w w' :=
  walk_catalogOrder w s hs t ht r hr cut (bounds_i64 hcut)
end

end Go.Proofs.Ytigjghfonpfdlaa
