/- The walk of law 32's CellcodePuts. -/
import Derived.Test.YtlclllkjnhgbjaaCelI
import Derived.Test.YtlclllkjnhgbjaaCelF
import Derived.Test.YtlclllkjnhgbjaaAreK
import Derived.Test.YtlclllkjnhgbjaaAreN
import Derived.Test.YtlclllkjnhgbjaaAskR
import Derived.Test.YtlclllkjnhgbjaaNodD
namespace Go.Proofs.Ytlclllkjnhgbjaa
open Go.RowKit
set_option linter.unusedVariables false
set_option linter.unusedSimpArgs false


set_option maxRecDepth 100000 in
theorem walkl_cellcodePuts (w : World) (s : Shp) (hs : s.rd w) (n : Nd) (hn : n.rd w) (more : List UInt8) (hmr : more.length ≤ 9223372036854775807) :
    Calls Try.prog 3 #[.agg s.cs, .agg n.cs, .string ⟨more.toArray⟩] w fun e w' => e = .returned (.bool true) ∧ Bel w w' := by
  have HSR := Lib.hid (fun w' (hb : Bel w w') => hs.mono hb)
  have HNR := Lib.hid (fun w' (hb : Bel w w') => hn.mono hb)
  have HSMA := Lib.hid (fun w' (hb : Bel w w') => smallS_any s w' (hs.mono hb))
  have HMY := Lib.hid (fun w' (hb : Bel w w') => rmay24_any s w' (hs.mono hb))
  have hsl : s.con.length = s.sz.n := by rw [List.length_map]; exact hs.sz.len
  have n63 := hs.sz.n63
  have nd64 := hn.dim
  unfold I64 at nd64
  have H := Lib.hid (((SL.start No w).alloc s.cs 24).alloc n.cs 34)
  (try simp only [List.set_cons_zero, List.set_cons_succ, List.cons_append, List.nil_append, List.eraseIdx_cons_zero, List.eraseIdx_cons_succ, List.setIfInBounds_toArray, World.size_alloc, selR, List.getD_cons_zero, List.getD_cons_succ] at H)
  have hcs : s.cs = #[.slice s.sz.A s.sz.n s.sz.c, .int .i64 s.ms] := rfl
  have HCS := Lib.hid hcs
  clear hcs hs hn
  go_enter Try.func3, Try.ntmps3
  go_upto_region 1 with fail
  (try rw [← HCS.out] at *)
  generalize w.heap.size + 1 = y at *
  generalize w.heap.size = x at *
  generalize World.alloc (World.alloc _ _) _ = w1 at *
  go_wp2_with ((with_reducible show wpList _ _ _ (⟨some 15, _, _, _, _, _⟩ :: _) _ _); (refine wpList_load_blk rfl rowShp2 (.tmp 3) rfl _ rfl (H.out.blk 0 rfl) rfl ?_))
  refine (HSMA.out _ H.out.to).mono ?_; rintro e w2 ⟨b1, rfl, hb1, hb2⟩
  replace H := Lib.hid (H.out.bel hb2); (try simp only [List.set_cons_zero, List.set_cons_succ, List.cons_append, List.nil_append, List.eraseIdx_cons_zero, List.eraseIdx_cons_succ, List.setIfInBounds_toArray, World.size_alloc, selR, List.getD_cons_zero, List.getD_cons_succ] at H)
  clear hb2 HSMA
  cases b1 with
  | false =>
    go_wp2_with fail
    refine (awake32_any _).mono ?_; rintro e wz ⟨rfl, hbz⟩
    replace H := Lib.hid (H.out.bel hbz)
    go_wp2_with fail
    go_ret
    exact ⟨rfl, H.out.to⟩
  | true =>
  have hsm := hb1 rfl
  have HSM := Lib.hid hsm
  clear hb1 hsm
  go_wp2_with ((with_reducible show wpList _ _ _ (⟨some 19, _, _, _, _, _⟩ :: _) _ _); refine wpList_load_blkG (by first | rfl | go_simp) rowShp2 (.tmp 3) (by rfl) _ (by rfl) (H.out.blk 0 rfl) rfl ?_)
  refine (HMY.out _ H.out.to).mono ?_; rintro e w3 ⟨rfl, hb3⟩
  replace H := Lib.hid (H.out.bel hb3); (try simp only [List.set_cons_zero, List.set_cons_succ, List.cons_append, List.nil_append, List.eraseIdx_cons_zero, List.eraseIdx_cons_succ, List.setIfInBounds_toArray, World.size_alloc, selR, List.getD_cons_zero, List.getD_cons_succ] at H)
  clear hb3 HMY
  cases hok : shapeOk s.con s.ms with
  | false =>
    go_wp2_with fail
    refine (awake32_any _).mono ?_; rintro e wz ⟨rfl, hbz⟩
    replace H := Lib.hid (H.out.bel hbz)
    go_wp2_with fail
    go_ret
    exact ⟨rfl, H.out.to⟩
  | true =>
  have HOKS := Lib.hid hok
  clear hok
  go_wp2_with (first | ((with_reducible show wpList _ _ _ (⟨some 24, _, _, _, _, _⟩ :: _) _ _); refine wpList_load_blkG (by first | rfl | go_simp) rowNd (.tmp 4) (by rfl) _ (by rfl) (H.out.blk 1 rfl) rfl ?_) | ((with_reducible show wpList _ _ _ (⟨some 25, _, _, _, _, _⟩ :: _) _ _); refine wpList_buildSlice1G (by first | rfl | go_simp) E_nd (.tmp 24) rfl n.cs rfl rfl (by omega) ?_; replace H := Lib.hid (H.out.addRow ((Bel.refl _).alloc _) (own_made _ 34 (n.cs) _ rfl)); (try simp only [List.set_cons_zero, List.set_cons_succ, List.cons_append, List.nil_append, List.eraseIdx_cons_zero, List.eraseIdx_cons_succ, List.setIfInBounds_toArray, World.size_alloc, selR, List.getD_cons_zero, List.getD_cons_succ] at H)))
  generalize w3.heap.size = f at *
  generalize World.alloc w3 _ = w4 at *
  have hfl : (Row.mk (some ⟨f, 0, none⟩) 1 1 [n] : Row Nd).rd w4 := ⟨Rd.of_own (size := 14) (e := 34) (show w4.ownsRow 0 34 14 (.slice (some ⟨f, 0, none⟩) 1 1) 1 ([n].flatMap Cel.cells) from H.out.row 2 rfl), fun m hm => by simp only [List.mem_singleton] at hm; subst hm; exact HNR.out _ H.out.to, by show (1 : Nat) ≤ _; omega⟩
  refine (few24_any (Row.mk (some ⟨f, 0, none⟩) 1 1 [n]) 1 w4 hfl (by omega)).mono ?_; rintro e w5 ⟨b2, rfl, hfew, hb5⟩
  replace H := Lib.hid (H.out.bel hb5); (try simp only [List.set_cons_zero, List.set_cons_succ, List.cons_append, List.nil_append, List.eraseIdx_cons_zero, List.eraseIdx_cons_succ, List.setIfInBounds_toArray, World.size_alloc, selR, List.getD_cons_zero, List.getD_cons_succ] at H)
  clear hb5
  cases b2 with
  | false =>
    clear hfl
    go_wp2_with fail
    refine (awake32_any _).mono ?_; rintro e wz ⟨rfl, hbz⟩
    replace H := Lib.hid (H.out.bel hbz)
    go_wp2_with fail
    go_ret
    exact ⟨rfl, H.out.to⟩
  | true =>
  have hsn := (hfew rfl).sm hfl n (List.mem_singleton_self n)
  have HSN := Lib.hid hsn
  clear hfew hfl hsn
  replace H := Lib.hid (H.out.sel [0, 1] (by decide) (by simp)); (try simp only [List.set_cons_zero, List.set_cons_succ, List.cons_append, List.nil_append, List.eraseIdx_cons_zero, List.eraseIdx_cons_succ, List.setIfInBounds_toArray, World.size_alloc, selR, List.getD_cons_zero, List.getD_cons_succ] at H)
  by_cases hm1000 : 1000 < more.length
  · have d1 : decide ((1000 : Int) < (more.length : Int)) = true := by simp <;> omega
    have d1n : decide (1000 < more.length) = true := by simp <;> omega
    clear hm1000
    go_wp2_with fail
    refine (awake32_any _).mono ?_; rintro e wz ⟨rfl, hbz⟩
    replace H := Lib.hid (H.out.bel hbz)
    go_wp2_with fail
    go_ret
    exact ⟨rfl, H.out.to⟩
  have d1 : decide ((1000 : Int) < (more.length : Int)) = false := by simp <;> omega
  have d1n : decide (1000 < more.length) = false := by simp <;> omega
  go_wp2_with (first | ((with_reducible show wpList _ _ _ (⟨some 36, _, _, _, _, _⟩ :: _) _ _); (refine wpList_load_blk rfl rowShp2 (.tmp 3) rfl _ rfl (H.out.blk 0 rfl) rfl ?_)) | ((with_reducible show wpList _ _ _ (⟨some 37, _, _, _, _, _⟩ :: _) _ _); (refine wpList_load_blk rfl rowNd (.tmp 4) rfl _ rfl (H.out.blk 1 rfl) rfl ?_)))
  clear d1 d1n
  have HWR := Lib.hid (fun w' (hb : Bel w w') => rwrong24_any s n w' (HSR.out w' hb) (HNR.out w' hb))
  by_cases hE : nodeErr s.con s.ms n.con ≠ 0
  · refine (cput_bad s n _ (HSR.out _ H.out.to) (HNR.out _ H.out.to) hE).mono ?_; rintro e w6 ⟨rfl, hb6⟩
    replace H := Lib.hid (H.out.bel hb6); (try simp only [List.set_cons_zero, List.set_cons_succ, List.cons_append, List.nil_append, List.eraseIdx_cons_zero, List.eraseIdx_cons_succ, List.setIfInBounds_toArray, World.size_alloc, selR, List.getD_cons_zero, List.getD_cons_succ] at H)
    clear hb6
    generalize nodeErr s.con s.ms n.con = E at *
    have dE : (E != 0) = true := by simpa using hE
    have dE2 : (E == 0) = false := by simpa using hE
    clear hE
    go_wp2_with (first | ((with_reducible show wpList _ _ _ (⟨some 41, _, _, _, _, _⟩ :: _) _ _); (refine wpList_load_blk rfl rowShp2 (.tmp 3) rfl _ rfl (H.out.blk 0 rfl) rfl ?_)) | ((with_reducible show wpList _ _ _ (⟨some 42, _, _, _, _, _⟩ :: _) _ _); (refine wpList_load_blk rfl rowNd (.tmp 4) rfl _ rfl (H.out.blk 1 rfl) rfl ?_)))
    refine (HWR.out _ H.out.to).mono ?_; rintro e w7 ⟨rfl, hb7⟩
    replace H := Lib.hid (H.out.bel hb7); (try simp only [List.set_cons_zero, List.set_cons_succ, List.cons_append, List.nil_append, List.eraseIdx_cons_zero, List.eraseIdx_cons_succ, List.setIfInBounds_toArray, World.size_alloc, selR, List.getD_cons_zero, List.getD_cons_succ] at H)
    clear hb7 HWR
    go_wp2_with fail
    refine (awake32_any _).mono ?_; rintro e wz ⟨rfl, hbz⟩
    replace H := Lib.hid (H.out.bel hbz)
    go_wp2_with fail
    go_ret
    exact ⟨rfl, H.out.to⟩
  have hE0 := Classical.not_not.1 hE
  have hbl := bodyPut_len hE0 HOKS.out
  have hnd2 := (nodeErr_cells hE0).1
  rw [hsl] at hnd2
  have HND2 : Hid (0 ≤ n.dim ∧ n.dim < s.sz.n) := hnd2
  clear hnd2
  rw [hsl] at hbl
  have HCH := Lib.hid (fun hc t => nodeTake_put (xs := s.con) (ms := s.ms) (n := n.con) hE0 HOKS.out ⟨fun l hl c hc => nd_cells (HNR.out _ (Bel.refl _)) c (List.mem_append_left _ (List.mem_flatten.2 ⟨l, hl, hc⟩)), (HNR.out _ (Bel.refl _)).all⟩ hc t)
  rw [hsl] at HCH
  have HRP := Lib.hid (fun w' (hb : Bel w w') => rcput_any s n w' (HSR.out w' hb) (HNR.out w' hb) hE0 (by omega))
  refine (cput_any s n _ (HSR.out _ H.out.to) (HNR.out _ H.out.to) hE0 (by omega)).mono ?_; rintro e w6 ⟨rfl, hb6⟩
  replace H := Lib.hid (H.out.bel hb6); (try simp only [List.set_cons_zero, List.set_cons_succ, List.cons_append, List.nil_append, List.eraseIdx_cons_zero, List.eraseIdx_cons_succ, List.setIfInBounds_toArray, World.size_alloc, selR, List.getD_cons_zero, List.getD_cons_succ] at H)
  rw [hE0] at HWR
  clear hb6 hE hE0
  have hTl : (nodePut s.sz.n s.ms n.con).length ≤ 100020 := by
    show (ptext _).length ≤ _
    rw [ptext_length]
    have := nsize_le (bodyPut s.sz.n s.ms n.con).length
    omega
  generalize nodePut s.sz.n s.ms n.con = T at *
  clear hbl
  go_wp2_with (first | ((with_reducible show wpList _ _ _ (⟨some 41, _, _, _, _, _⟩ :: _) _ _); (refine wpList_load_blk rfl rowShp2 (.tmp 3) rfl _ rfl (H.out.blk 0 rfl) rfl ?_)) | ((with_reducible show wpList _ _ _ (⟨some 42, _, _, _, _, _⟩ :: _) _ _); (refine wpList_load_blk rfl rowNd (.tmp 4) rfl _ rfl (H.out.blk 1 rfl) rfl ?_)))
  refine (HWR.out _ H.out.to).mono ?_; rintro e w7 ⟨rfl, hb7⟩
  replace H := Lib.hid (H.out.bel hb7); (try simp only [List.set_cons_zero, List.set_cons_succ, List.cons_append, List.nil_append, List.eraseIdx_cons_zero, List.eraseIdx_cons_succ, List.setIfInBounds_toArray, World.size_alloc, selR, List.getD_cons_zero, List.getD_cons_succ] at H)
  clear hb7 HWR
  go_wp2_with (first | ((with_reducible show wpList _ _ _ (⟨some 57, _, _, _, _, _⟩ :: _) _ _); (refine wpList_load_blk rfl rowShp2 (.tmp 3) rfl _ rfl (H.out.blk 0 rfl) rfl ?_)) | ((with_reducible show wpList _ _ _ (⟨some 58, _, _, _, _, _⟩ :: _) _ _); (refine wpList_load_blk rfl rowNd (.tmp 4) rfl _ rfl (H.out.blk 1 rfl) rfl ?_)))
  refine (HRP.out _ H.out.to).mono ?_; rintro e w8 ⟨rfl, hb8⟩
  replace H := Lib.hid (H.out.bel hb8); (try simp only [List.set_cons_zero, List.set_cons_succ, List.cons_append, List.nil_append, List.eraseIdx_cons_zero, List.eraseIdx_cons_succ, List.setIfInBounds_toArray, World.size_alloc, selR, List.getD_cons_zero, List.getD_cons_succ] at H)
  clear hb8 HRP
  have cd : w8.cell? ⟨y, 0, none⟩ = some (.int .i64 n.dim) := (H.out.blk 1 rfl).cell 0
  have cz : w8.cell? ⟨x, 0, none⟩ = some (.slice s.sz.A s.sz.n s.sz.c) := (H.out.blk 0 rfl).cell 0
  have HTK0 := Lib.hid (fun (hc : n.dim ≠ (s.sz.n : Int) - 1 → ∀ c ∈ eachN n.con, c.ch ≤ 1048576) w' (hb : Bel w w') => by
    have h := celtake_any s (T ++ more) w' (HSR.out w' hb) (by rw [List.length_append]; omega) HSM.out
    rw [HCH.out hc more] at h
    exact h)
  by_cases hin : n.dim < (s.sz.n : Int) - 1
  · have d1 : decide (n.dim < (s.sz.n : Int) - 1) = true := by simpa using hin
    have HEA := Lib.hid (fun w' (hb : Bel w w') => reach_any n w' (HNR.out w' hb) HSN.out.t)
    have hM : (eachN n.con).length ≤ 1000000 := by have h := HSN.out.t; unfold eachN; rw [List.length_append]; show _ + 1 ≤ _; exact Nat.succ_le_succ h
    have HOK := Lib.hid (nd_cells (HNR.out _ (Bel.refl _)))
    go_wp2_with ((with_reducible show wpList _ _ _ (⟨some 72, _, _, _, _, _⟩ :: _) _ _); (refine wpList_load_blk rfl rowNd (.tmp 4) rfl _ rfl (H.out.blk 1 rfl) rfl ?_))
    clear d1 cd cz
    refine (HEA.out _ H.out.to).mono ?_; rintro e w7 ⟨A, cp, rfl, hb7, ho7⟩
    replace H := Lib.hid (H.out.addRow hb7 ho7); (try simp only [List.set_cons_zero, List.set_cons_succ, List.cons_append, List.nil_append, List.eraseIdx_cons_zero, List.eraseIdx_cons_succ, List.setIfInBounds_toArray, World.size_alloc, selR, List.getD_cons_zero, List.getD_cons_succ] at H)
    clear hb7 ho7 HEA
    obtain ⟨M, hMM⟩ : ∃ M, M = (eachN n.con).length := ⟨_, rfl⟩
    rw [← hMM] at H hM ⊢
    have HMM := Lib.hid hMM
    clear hMM
    have HCR : Hid (∀ w', SL No w w' [rBlk x 24 s.cs, rBlk y 34 n.cs, rRow 32 12 (.slice A M cp) M ((eachN n.con).flatMap Cel.cells)] → (Row.mk A M cp (eachN n.con) : Row Cl).rd w') := fun w' h => Row.ok.rds (own_ok (x := ⟨A, M, cp, eachN n.con⟩) (h.row 2 rfl) HOK.out (by show M * 96 ≤ _; omega))
    go_upto_region 11 with fail
    go_loopg [75] M (fun gg s75 wr => ∃ (k : Nat), gg = M - k ∧ k ≤ M ∧ s75 = .int .i64 k ∧ Hid (∀ (j : Nat) (c : Cl), j < k → (eachN n.con)[j]? = some c → c.ch ≤ 1048576) ∧ Hid (SL No w wr [rBlk x 24 s.cs, rBlk y 34 n.cs, rRow 32 12 (.slice A M cp) M ((eachN n.con).flatMap Cel.cells)]))
    case atStart => exact ⟨0, rfl, by omega, rfl, fun j c hj => by omega, H⟩
    case round =>
      clear H
      obtain ⟨k, hgk, hk, rfl, HI, H⟩ := hrel
      have Hgk := Lib.hid hgk
      clear hgk
      by_cases hlt : k < M
      · obtain ⟨bl, ol, c, hAl, hbl, hck, hcok, hrg⟩ := (HCR.out _ H.out).clAt (k := k) (show k < M from hlt)
        have hch := hcok.ch
        unfold I64 at hch
        simp only at hAl hck
        have HAL := Lib.hid hAl
        have HRG := Lib.hid hrg
        have HCK : Hid ((eachN n.con)[k]? = some c) := hck
        have k0 : (0 : Int) ≤ k := by omega
        have k1 : (k : Int) < M := by omega
        rw [hAl]
        clear hAl hck hrg hcok
        go_upto_region 13 with (first | ((with_reducible show wpList _ _ _ (⟨some 78, _, _, _, _, _⟩ :: _) _ _); (refine wpList_load_row_at rfl rowCl (.tmp 77) rfl bl (ol + k * 12) rfl c.cs rfl HRG.out ?_)) | ((with_reducible show wpList _ _ _ (⟨_, .store _ (.tmp 11) _, _, _, _, _⟩ :: _) _ _); (refine wpList_store_new rfl rowCl (.tmp 11) (.tmp 78) rfl rfl rfl (c.cs) rfl rfl (cl_one c) ?_; replace H := Lib.hid (H.out.alloc (c.cs) 32); (try simp only [List.set_cons_zero, List.set_cons_succ, List.cons_append, List.nil_append, List.eraseIdx_cons_zero, List.eraseIdx_cons_succ, List.setIfInBounds_toArray, World.size_alloc, selR, List.getD_cons_zero, List.getD_cons_succ] at H))))
        (try simp only [Act.put, List.setIfInBounds_toArray, List.set_cons_zero, List.set_cons_succ])
        generalize wr.heap.size = u at *
        generalize World.alloc wr _ = w10 at *
        have cc : w10.cell? ⟨u, 1, none⟩ = some (.int .i64 c.ch) := (H.out.blk 3 rfl).cell 1
        by_cases hbig : 1048576 < c.ch
        · have d1 : decide ((1048576 : Int) < c.ch) = true := by simpa using hbig
          clear hbig
          go_wp2_with fail
          refine (awake32_any _).mono ?_; rintro e wz ⟨rfl, hbz⟩
          replace H := Lib.hid (H.out.bel hbz)
          go_wp2_with fail
          go_ret
          exact ⟨rfl, H.out.to⟩
        · have d1 : decide ((1048576 : Int) < c.ch) = false := by simpa using hbig
          have HI2 : Hid (∀ (j : Nat) (q : Cl), j < k + 1 → (eachN n.con)[j]? = some q → q.ch ≤ 1048576) := fun j q hj hq => by
            by_cases hjk : j = k
            · subst hjk
              have h2 := HCK.out
              rw [hq] at h2
              injection h2 with h2
              rw [h2]; omega
            · exact HI.out j q (by omega) hq
          clear hbig HI
          replace H := Lib.hid (H.out.sel [0, 1, 2] (by decide) (by simp)); (try simp only [List.set_cons_zero, List.set_cons_succ, List.cons_append, List.nil_append, List.eraseIdx_cons_zero, List.eraseIdx_cons_succ, List.setIfInBounds_toArray, World.size_alloc, selR, List.getD_cons_zero, List.getD_cons_succ] at H)
          go_wp2_with fail
          rw [← HAL.out]
          go_roundg (M - (k + 1))
          case rel => exact ⟨k + 1, rfl, by omega, by go_num, HI2, H⟩
          case measure => rw [Hgk.out]; omega
      · obtain rfl : k = M := by omega
        have HTK := Lib.hid (HTK0.out (fun _ c hc => by
          obtain ⟨j, hj, hjc⟩ := List.getElem_of_mem hc
          exact HI.out j c (by rw [HMM.out]; exact hj) (by rw [List.getElem?_eq_getElem hj, hjc])))
        clear HTK0 HI HCH
        go_wp2_with ((with_reducible show wpList _ _ _ (⟨some 85, _, _, _, _, _⟩ :: _) _ _); (refine wpList_load_blk rfl rowShp2 (.tmp 3) rfl _ rfl (H.out.blk 0 rfl) rfl ?_))
        (try rw [str_append])
        refine (HTK.out _ H.out.to).mono ?_; rintro e w9 ⟨D, rfl, hDc, hb9, hnew⟩
        replace H := Lib.hid (H.out.add hb9 (rNd D) hnew.1 hnew.2); (try simp only [List.set_cons_zero, List.set_cons_succ, List.cons_append, List.nil_append, List.eraseIdx_cons_zero, List.eraseIdx_cons_succ, List.setIfInBounds_toArray, World.size_alloc, selR, List.getD_cons_zero, List.getD_cons_succ] at H)
        have HDc := Lib.hid hDc
        clear hDc hb9 hnew HTK
        dsimp only [Option.map, szN, szErr, Option.getD, Option.isSome]
        go_upto_region 17 with ((with_reducible show wpList _ _ _ (⟨_, .store _ (.tmp 12) _, _, _, _, _⟩ :: _) _ _); (refine wpList_store_new rfl rowNd (.tmp 12) (.tmp 90) rfl rfl rfl (D.cs) rfl rfl (nd_one D) ?_; replace H := Lib.hid (H.out.alloc (D.cs) 34); (try simp only [List.set_cons_zero, List.set_cons_succ, List.cons_append, List.nil_append, List.eraseIdx_cons_zero, List.eraseIdx_cons_succ, List.setIfInBounds_toArray, World.size_alloc, selR, List.getD_cons_zero, List.getD_cons_succ] at H)))
        (try simp only [Act.put, List.setIfInBounds_toArray, List.set_cons_zero, List.set_cons_succ])
        generalize w9.heap.size = dd at *
        generalize World.alloc w9 _ = w10 at *
        go_wp2_with (first | ((with_reducible show wpList _ _ _ (⟨some 93, _, _, _, _, _⟩ :: _) _ _); (refine wpList_load_blk rfl rowNd (.tmp 12) rfl _ rfl (H.out.blk 4 rfl) rfl ?_)) | ((with_reducible show wpList _ _ _ (⟨some 94, _, _, _, _, _⟩ :: _) _ _); (refine wpList_load_blk rfl rowNd (.tmp 4) rfl _ rfl (H.out.blk 1 rfl) rfl ?_)))
        refine (rsame24_any D n _ (nd_of_own (H.out.get 3 rfl)) (HNR.out _ H.out.to) HDc.out).mono ?_; rintro e w11 ⟨rfl, hb11⟩
        replace H := Lib.hid (H.out.bel hb11); (try simp only [List.set_cons_zero, List.set_cons_succ, List.cons_append, List.nil_append, List.eraseIdx_cons_zero, List.eraseIdx_cons_succ, List.setIfInBounds_toArray, World.size_alloc, selR, List.getD_cons_zero, List.getD_cons_succ] at H)
        clear hb11
        go_wp2_with fail
        refine (awake32_any _).mono ?_; rintro e wz ⟨rfl, hbz⟩
        replace H := Lib.hid (H.out.bel hbz)
        go_wp2_with fail
        go_ret
        exact ⟨rfl, H.out.to⟩
  · have d1 : decide (n.dim < (s.sz.n : Int) - 1) = false := by simpa using hin
    have HTK := Lib.hid (HTK0.out (fun h => by have := HND2.out; exact absurd (by omega : n.dim = (s.sz.n : Int) - 1) h))
    clear HTK0 HCH
    go_wp2_with ((with_reducible show wpList _ _ _ (⟨some 85, _, _, _, _, _⟩ :: _) _ _); (refine wpList_load_blk rfl rowShp2 (.tmp 3) rfl _ rfl (H.out.blk 0 rfl) rfl ?_))
    (try rw [str_append])
    refine (HTK.out _ H.out.to).mono ?_; rintro e w9 ⟨D, rfl, hDc, hb9, hnew⟩
    replace H := Lib.hid (H.out.add hb9 (rNd D) hnew.1 hnew.2); (try simp only [List.set_cons_zero, List.set_cons_succ, List.cons_append, List.nil_append, List.eraseIdx_cons_zero, List.eraseIdx_cons_succ, List.setIfInBounds_toArray, World.size_alloc, selR, List.getD_cons_zero, List.getD_cons_succ] at H)
    have HDc := Lib.hid hDc
    clear hDc hb9 hnew HTK
    dsimp only [Option.map, szN, szErr, Option.getD, Option.isSome]
    go_upto_region 17 with ((with_reducible show wpList _ _ _ (⟨_, .store _ (.tmp 12) _, _, _, _, _⟩ :: _) _ _); (refine wpList_store_new rfl rowNd (.tmp 12) (.tmp 90) rfl rfl rfl (D.cs) rfl rfl (nd_one D) ?_; replace H := Lib.hid (H.out.alloc (D.cs) 34); (try simp only [List.set_cons_zero, List.set_cons_succ, List.cons_append, List.nil_append, List.eraseIdx_cons_zero, List.eraseIdx_cons_succ, List.setIfInBounds_toArray, World.size_alloc, selR, List.getD_cons_zero, List.getD_cons_succ] at H)))
    (try simp only [Act.put, List.setIfInBounds_toArray, List.set_cons_zero, List.set_cons_succ])
    generalize w9.heap.size = dd at *
    generalize World.alloc w9 _ = w10 at *
    go_wp2_with (first | ((with_reducible show wpList _ _ _ (⟨some 93, _, _, _, _, _⟩ :: _) _ _); (refine wpList_load_blk rfl rowNd (.tmp 12) rfl _ rfl (H.out.blk 3 rfl) rfl ?_)) | ((with_reducible show wpList _ _ _ (⟨some 94, _, _, _, _, _⟩ :: _) _ _); (refine wpList_load_blk rfl rowNd (.tmp 4) rfl _ rfl (H.out.blk 1 rfl) rfl ?_)))
    refine (rsame24_any D n _ (nd_of_own (H.out.get 2 rfl)) (HNR.out _ H.out.to) HDc.out).mono ?_; rintro e w11 ⟨rfl, hb11⟩
    replace H := Lib.hid (H.out.bel hb11); (try simp only [List.set_cons_zero, List.set_cons_succ, List.cons_append, List.nil_append, List.eraseIdx_cons_zero, List.eraseIdx_cons_succ, List.setIfInBounds_toArray, World.size_alloc, selR, List.getD_cons_zero, List.getD_cons_succ] at H)
    clear hb11
    go_wp2_with fail
    refine (awake32_any _).mono ?_; rintro e wz ⟨rfl, hbz⟩
    replace H := Lib.hid (H.out.bel hbz)
    go_wp2_with fail
    go_ret
    exact ⟨rfl, H.out.to⟩

theorem walk_cellcodePuts (w : World) (s : Shp) (hs : s.rd w) (n : Nd) (hn : n.rd w) (b : ByteArray) (hb : b.size ≤ 9223372036854775807) :
    Calls Try.prog 3 #[.agg s.cs, .agg n.cs, .string b] w fun e w' => e = .returned (.bool true) ∧ Bel w w' := by
  obtain ⟨⟨l⟩⟩ := b
  exact walkl_cellcodePuts w s hs n hn l (by simpa [ByteArray.size] using hb)

end Go.Proofs.Ytlclllkjnhgbjaa
