/- Whole. -/
import Derived.Test.YtlclllkjnhgbjaaBu
import Derived.Test.YtlclllkjnhgbjaaPart
import Derived.Test.YtlclllkjnhgbjaaMake
namespace Go.Proofs.Ytlclllkjnhgbjaa
open Go.RowKit
set_option linter.unusedVariables false
set_option linter.unusedSimpArgs false


set_option maxRecDepth 100000 in
set_option maxHeartbeats 1000000 in
theorem iindex_any (x : Row Int) (v : Int) (w : World) (hx : x.rd w) :
    Calls Try.prog 91 #[.slice x.A x.n x.c, .int .i64 v] w fun e w' => e = .returned (.int .i64 (idxI v x.l 0)) ∧ Bel w w' := by
  have hlen : Hid (x.l.length = x.n) := hx.len
  have HX := Lib.hid (fun w' (hb : Bel w w') => hx.mono hb)
  have n63 := hx.n63
  have H := Lib.hid (SL.start No w)
  obtain ⟨A, n, c, l⟩ := x
  simp only at *
  clear hx
  obtain ⟨R, hR⟩ : ∃ R, R = idxI v l 0 := ⟨_, rfl⟩
  rw [← hR]
  have HR : Hid (R = idxI v (l.drop 0) ((0 : Nat) : Int)) := hR
  clear hR
  go_enter Try.func91, Try.ntmps91
  go_wp2_with fail
  go_loopg [8] n (fun gg s8 wr => ∃ i : Nat, gg = n - i ∧ i ≤ n ∧ s8 = .int .i64 i ∧ Hid (SL No w wr []) ∧ Hid (R = idxI v (l.drop i) (i : Int)))
  case atStart => exact ⟨0, rfl, by omega, rfl, H, HR⟩
  case round =>
    clear H HR
    obtain ⟨i, hgk, hi, rfl, H, HR⟩ := hrel
    have Hgk := Lib.hid hgk
    clear hgk
    by_cases hlt : i < n
    · obtain ⟨b, o, t, hA, ht, ht64, hc⟩ := (HX.out _ H.out.to).intAt (k := i) hlt
      simp only at hA ht
      subst hA
      have hdr := drop_consI ht
      have i0 : (0 : Int) ≤ i := by omega
      have i1 : (i : Int) < n := by omega
      by_cases he : v = t
      · have HV : Hid (R = i) := by show _ = _; rw [HR.out, hdr, idxI, if_pos he]
        have d1 : (v == t) = true := by simpa using he
        clear HR hdr ht he
        go_wp2
        go_ret
        rw [HV.out]
        exact ⟨rfl, H.out.to⟩
      · have HV : Hid (R = idxI v (l.drop (i + 1)) ((i + 1 : Nat) : Int)) := by show _ = _; rw [HR.out, hdr, idxI, if_neg he]; rfl
        have d1 : (v == t) = false := by simpa using he
        clear HR hdr ht he
        go_wp2
        go_roundg (n - (i + 1))
        case rel => exact ⟨i + 1, rfl, by omega, by go_num, H, HV⟩
        case measure => rw [Hgk.out]; omega
    · obtain rfl : i = n := by omega
      have HV : Hid (R = -1) := by show _ = _; rw [HR.out, List.drop_of_length_le (by rw [hlen.out]; exact Nat.le_refl _)]; rfl
      clear HR
      go_wp2
      go_ret
      rw [HV.out]
      exact ⟨rfl, H.out.to⟩
set_option maxRecDepth 100000 in
theorem u_intsP : Try.prog.underlying 59 = some (.slice (Try.prog.elem 59)) := by kernel_rfl
set_option maxRecDepth 100000 in
theorem ints_uptoP (g n c : Nat) (j : Int) (h0 : 0 ≤ j) (h1 : j ≤ c) (h2 : 0 < c) (w : World) : (Instr.sliceAt 59 (.slice (some ⟨g, 0, none⟩) n c) none (some (.int .i64 j)) none).run Try.prog w = .ok (.slice (some ⟨g, 0, none⟩) j.toNat c) w := by
  have hz : ∀ w, (sizeOf (Try.prog.elem 59)).run Try.prog w = .ok 1 w := fun _ => by kernel_rfl
  obtain ⟨k, rfl⟩ : ∃ k : Nat, j = k := ⟨j.toNat, by omega⟩
  rw [run_sliceAt_slice (h := u_intsP), run_slice_h (ht := u_intsP) (h0 := by omega) (h2 := by omega), hz]
  have : c ≠ 0 := by omega
  simp [sliced, Addr.add, this]
set_option maxRecDepth 100000 in
theorem i_intP : (Try.prog.info? 3).map (fun i => (i.zero, i.size, i.bytes)) = some (some (.int .i64 0), 1, 8) := by kernel_rfl
theorem made_ints (n : Nat) : (madeCells (Value.cells (.int .i64 0)) (n * 1)).toList = (List.replicate n (0 : Int)).map (Value.int .i64) := by
  rw [← flat_ints]
  exact made_flat (α := Int) _ 0 rfl n
set_option maxRecDepth 100000 in
set_option maxHeartbeats 4000000 in
theorem awhole_any (b : Nat) (x : Arn) (w : World) (ok : x.ok) (ha : ArAt b x w) (hg : GoodN x.shp.con x.ms (x.nd.l.map Nd.con)) (hsm : ∀ n ∈ x.nd.l, (n.ls.l.map Row.l).flatten.length ≤ 999999) :
    Calls Try.prog 53 #[.pointer (some ⟨b, 0, none⟩)] w fun e w' => e = .returned (.bool (wholeC x.sz.n (x.nd.l.map Nd.con))) ∧ Bel w w' := by
  have HA := Lib.hid (fun w' (hb : Bel w w') => ha.mono hb)
  have hxn : x.shp.con.length = x.sz.n := by rw [List.length_map]; exact ha.shp.sz.len
  have HCH := Lib.hid (fun (k : Nat) (n : NC) (hk : (x.nd.l.map Nd.con)[k]? = some n) hd => goodN_ch hg hk hd)
  rw [hxn] at HCH
  have hll : Hid (x.nd.l.length = x.nd.n) := ha.nd.len
  have HSM := Lib.hid hsm
  have hs1 := ok.s1
  have hs16 := ok.s16
  have hnn := ok.nn
  have H := Lib.hid (SL.start No w)
  obtain ⟨R, hR⟩ : ∃ R, R = wholeC x.sz.n (x.nd.l.map Nd.con) := ⟨_, rfl⟩
  rw [← hR]
  have HR := Lib.hid hR
  have HLE : Hid (∀ w', Bel w w' → Calls Try.prog 90 #[.pointer (some ⟨b, 0, none⟩)] w' fun e w2 => e = .returned (.int .i64 (x.nd.n - 1)) ∧ Bel w' w2) := fun w' hb => atop_any b x.sz.A x.nd.A x.sz.n x.sz.c x.nd.n x.nd.c w' hs1 (by omega) (HA.out _ hb).c0 (HA.out _ hb).c2
  clear ha hg hsm hxn hR
  by_cases h0 : x.nd.n = 0
  · have HV : Hid (R = true) := by show _ = _; rw [HR.out, List.eq_nil_of_length_eq_zero (l := x.nd.l.map Nd.con) (by rw [List.length_map, hll.out]; exact h0)]; rfl
    have HC2 : Hid (∀ w', Bel w w' → w'.cell? ⟨b, 2, none⟩ = some (.slice x.nd.A 0 x.nd.c)) := fun w' hb => by have h := (HA.out w' hb).c2; rw [h0] at h; exact h
    clear HR h0
    go_enter Try.func53, Try.ntmps53
    go_wp2_with fail
    refine (there_yes b x.sz.A x.sz.n x.sz.c _ hs1 (HA.out _ H.out.to).c0).mono ?_; rintro e w1 ⟨rfl, hw1⟩
    replace H := Lib.hid (H.out.bel hw1); (try simp only [List.set_cons_zero, List.set_cons_succ, List.cons_append, List.nil_append, List.eraseIdx_cons_zero, List.eraseIdx_cons_succ, List.setIfInBounds_toArray, World.size_alloc, selR, List.getD_cons_zero, List.getD_cons_succ] at H)
    clear hw1
    have c2 := HC2.out _ H.out.to
    go_wp2
    go_ret
    rw [HV.out]
    exact ⟨rfl, H.out.to⟩
  have hpos : 0 < x.nd.n := by omega
  obtain ⟨last, hla, hlg⟩ := getLast_get (l := x.nd.l.map Nd.con) (by intro h; have h2 := congrArg List.length h; rw [List.length_map, hll.out] at h2; exact h0 h2)
  have HRW : Hid (R = (decide (last.dim = 0) && (List.range (x.nd.n - 1)).all (ledTo x.sz.n (x.nd.l.map Nd.con)))) := by show _ = _; rw [HR.out, wholeC_some hlg, List.length_map, hll.out]
  rw [List.length_map, hll.out] at hla
  have HLA := Lib.hid hla
  have z0 : ((x.nd.n : Int) == 0) = false := by simp; omega
  have z0n : (x.nd.n == 0) = false := by simp; omega
  clear HR h0 hla hlg
  go_enter Try.func53, Try.ntmps53
  go_wp2_with fail
  refine (there_yes b x.sz.A x.sz.n x.sz.c _ hs1 (HA.out _ H.out.to).c0).mono ?_; rintro e w1 ⟨rfl, hw1⟩
  replace H := Lib.hid (H.out.bel hw1); (try simp only [List.set_cons_zero, List.set_cons_succ, List.cons_append, List.nil_append, List.eraseIdx_cons_zero, List.eraseIdx_cons_succ, List.setIfInBounds_toArray, World.size_alloc, selR, List.getD_cons_zero, List.getD_cons_succ] at H)
  clear hw1
  have c2 := (HA.out _ H.out.to).c2
  go_upto_region 6 with ((with_reducible show wpList _ _ _ (⟨some 22, _, _, _, _, _⟩ :: _) _ _); refine wpList_makeFull rfl Try.underlying59 i_intP (.tmp 21) (.tmp 21) rfl x.nd.n rfl rfl (by omega) (by omega) (by unfold maxLen; omega) ?_; intro wq hown hg; rw [made_ints] at hown; replace H := Lib.hid (H.out.addRow (bel_of_none hg) hown); (try simp only [List.set_cons_zero, List.set_cons_succ, List.cons_append, List.nil_append, List.eraseIdx_cons_zero, List.eraseIdx_cons_succ, List.setIfInBounds_toArray, World.size_alloc, selR, List.getD_cons_zero, List.getD_cons_succ] at H); clear hown hg)
  generalize w1.heap.size = g at *
  clear c2 z0 z0n
  have c2 := (HA.out _ H.out.to).c2
  obtain ⟨met0, hmet0⟩ : ∃ m, m = List.replicate x.nd.n (0 : Int) := ⟨_, rfl⟩
  rw [← hmet0] at H
  have HI : Hid (met0.length = x.nd.n ∧ ∀ i v, met0[i]? = some v → 0 ≤ v ∧ v ≤ 0 * 1000000 + 0 ∧ (v = 0 ↔ ledSo x.sz.n (x.nd.l.map Nd.con) 0 0 i = false)) := ⟨by rw [hmet0, List.length_replicate], fun i v hv => by
    rw [hmet0, List.getElem?_replicate] at hv
    split at hv
    · injection hv with hv
      subst hv
      refine ⟨Int.le_refl _, by omega, by simp [ledSo_zero]⟩
    · cases hv⟩
  clear hmet0
  go_upto_region 7 with fail
  clear c2
  go_loopg [28] x.nd.n (fun gg s28 wr => ∃ (k : Nat) (met : List Int), gg = x.nd.n - k ∧ k ≤ x.nd.n ∧ s28 = .int .i64 k ∧ Hid (SL No w wr [rRow 3 1 (.slice (some ⟨g, 0, none⟩) x.nd.n x.nd.n) x.nd.n (met.map (Value.int .i64))]) ∧ Hid (met.length = x.nd.n ∧ ∀ i v, met[i]? = some v → 0 ≤ v ∧ v ≤ (k : Int) * 1000000 + 0 ∧ (v = 0 ↔ ledSo x.sz.n (x.nd.l.map Nd.con) k 0 i = false)))
  case atStart => exact ⟨0, met0, rfl, by omega, rfl, H, HI⟩
  case round =>
    clear H HI
    obtain ⟨k, met, hgk, hk, rfl, H, HI⟩ := hrel
    have Hgk := Lib.hid hgk
    clear hgk
    by_cases hlt : k < x.nd.n
    · obtain ⟨bl, ol, n, hAl, hbl, hnk, hnr, hrg⟩ := (HA.out _ H.out.to).nd.ndAt (k := k) hlt
      have hnm := List.mem_of_getElem? hnk
      have hkc : (x.nd.l.map Nd.con)[k]? = some n.con := by rw [List.getElem?_map, hnk]; rfl
      have HKC := Lib.hid hkc
      have HEA := Lib.hid (fun w' (hb : Bel w w') => each_any n w' ((HA.out w' hb).nd.all n hnm) (HSM.out n hnm))
      have HLS := Lib.hid (fun w' (hb : Bel w w') => last_any x.shp n.dim w' (HA.out w' hb).shp hnr.dim)
      have HOK := Lib.hid (nd_cells hnr)
      have HCC := Lib.hid (fun hd => HCH.out k n.con hkc hd)
      have hel : (eachN n.con).length ≤ 1000000 := by have h := HSM.out n hnm; unfold eachN; rw [List.length_append]; show _ + 1 ≤ _; have : n.con.ls = n.ls.l.map Row.l := rfl; rw [this]; omega
      have HRG := Lib.hid hrg
      have k0 : (0 : Int) ≤ k := by omega
      have k1 : (k : Int) < x.nd.n := by omega
      have HAL := Lib.hid hAl
      rw [hAl]
      clear hnk hnr hrg hAl hnm hkc
      go_upto_region 9 with (first | ((with_reducible show wpList _ _ _ (⟨some 31, _, _, _, _, _⟩ :: _) _ _); (refine wpList_load_row_at rfl rowNd (.tmp 30) rfl bl (ol + k * 14) rfl n.cs rfl HRG.out ?_)) | ((with_reducible show wpList _ _ _ (⟨_, .store _ (.tmp 5) _, _, _, _, _⟩ :: _) _ _); (refine wpList_store_new rfl rowNd (.tmp 5) (.tmp 31) rfl rfl rfl (n.cs) rfl rfl (nd_one n) ?_; replace H := Lib.hid (H.out.alloc (n.cs) 34); (try simp only [List.set_cons_zero, List.set_cons_succ, List.cons_append, List.nil_append, List.eraseIdx_cons_zero, List.eraseIdx_cons_succ, List.setIfInBounds_toArray, World.size_alloc, selR, List.getD_cons_zero, List.getD_cons_succ] at H))))
      (try simp only [Act.put, List.setIfInBounds_toArray, List.set_cons_zero, List.set_cons_succ])
      clear HRG hbl
      generalize wr.heap.size = u at *
      generalize World.alloc wr _ = w2 at *
      have cd : w2.cell? ⟨u, 0, none⟩ = some (.int .i64 n.dim) := (H.out.blk 1 rfl).cell 0
      have hAW := HA.out _ H.out.to
      have hbb : b < w2.heap.size := World.block_lt_of_cell? _ _ hAW.c0
      have HR1 : Hid (w2.rangeAt b 0 x.shp.cs.toList) := fun j v hv => by
        match j, hv with
        | 0, hv => injection hv with hv; rw [← hv]; exact hAW.c0
        | 1, hv => injection hv with hv; rw [← hv]; exact hAW.c1
        | j + 2, hv => simp at hv
      clear hAW
      have f_cd := fun u : Over w2 => Over.cell cd u
      refine wp_region_over (by kernel_rfl) (by kernel_rfl) ?_
      (try simp only [Act.put, List.setIfInBounds_toArray, List.set_cons_zero, List.set_cons_succ])
      repeat (first
        | ((with_reducible show wpQuiet _ _ _ _ (⟨some 35, _, _, _, _, _⟩ :: _) _); refine wpQuiet_load_row (by first | rfl | go_simp) rowShp2 (.tmp 34) rfl b (0) rfl x.shp.cs rfl hbb HR1.out ?_; simp only [Act.put, List.setIfInBounds_toArray, List.set_cons_zero, List.set_cons_succ])
        | go_big_quiet_step (((go_at_call 69; rename_i u; exact calls_over (HLS.out _ (H.out.to.trans u.bel))))))
      refine wpQuiet_nil ?_
      rintro w5 ⟨⟨_, hw5⟩, rfl⟩
      (try dsimp only)
      replace H := Lib.hid (H.out.bel hw5); (try simp only [List.set_cons_zero, List.set_cons_succ, List.cons_append, List.nil_append, List.eraseIdx_cons_zero, List.eraseIdx_cons_succ, List.setIfInBounds_toArray, World.size_alloc, selR, List.getD_cons_zero, List.getD_cons_succ] at H)
      clear f_cd cd
      clear hw5 hbb HR1 HLS
      cases hl : (n.dim == (x.sz.n : Int) - 1) with
      | true =>
        have hd : n.dim = (x.sz.n : Int) - 1 := by simpa using hl
        have HI2 : Hid (met.length = x.nd.n ∧ ∀ i v, met[i]? = some v → 0 ≤ v ∧ v ≤ ((k + 1 : Nat) : Int) * 1000000 + 0 ∧ (v = 0 ↔ ledSo x.sz.n (x.nd.l.map Nd.con) (k + 1) 0 i = false)) := ⟨HI.out.1, fun i v hv => by
          have h := HI.out.2 i v hv
          rw [ledSo_last HKC.out (show n.con.dim = _ from hd)]
          exact ⟨h.1, by omega, h.2.2⟩⟩
        clear HI hd HEA HCC HKC hl
        replace H := Lib.hid (H.out.sel [0] (by decide) (by simp)); (try simp only [List.set_cons_zero, List.set_cons_succ, List.cons_append, List.nil_append, List.eraseIdx_cons_zero, List.eraseIdx_cons_succ, List.setIfInBounds_toArray, World.size_alloc, selR, List.getD_cons_zero, List.getD_cons_succ] at H)
        rw [← HAL.out]
        go_wp2_with fail
        go_roundg (x.nd.n - (k + 1))
        case rel => exact ⟨k + 1, met, rfl, by omega, by go_num, H, HI2⟩
        case measure => rw [Hgk.out]; omega
      | false =>
        have hd : n.dim ≠ (x.sz.n : Int) - 1 := by simpa using hl
        have HCC2 := Lib.hid (HCC.out hd)
        have HND := Lib.hid (show n.con.dim ≠ (x.sz.n : Int) - 1 from hd)
        clear HCC hd hl
        go_wp2_with ((with_reducible show wpList _ _ _ (⟨some 39, _, _, _, _, _⟩ :: _) _ _); (refine wpList_load_blk rfl rowNd (.tmp 5) rfl _ rfl (H.out.blk 1 rfl) rfl ?_))
        refine (HEA.out _ H.out.to).mono ?_; rintro e w6 ⟨A, cp, rfl, hb6, ho6⟩
        replace H := Lib.hid (H.out.addRow hb6 ho6); (try simp only [List.set_cons_zero, List.set_cons_succ, List.cons_append, List.nil_append, List.eraseIdx_cons_zero, List.eraseIdx_cons_succ, List.setIfInBounds_toArray, World.size_alloc, selR, List.getD_cons_zero, List.getD_cons_succ] at H)
        clear hb6 ho6 HEA
        obtain ⟨m, hm⟩ : ∃ m, m = (eachN n.con).length := ⟨_, rfl⟩
        rw [← hm] at H hel ⊢
        have HM := Lib.hid hm
        clear hm
        have HCR : Hid (∀ w' (met : List Int), SL No w w' [rRow 3 1 (.slice (some ⟨g, 0, none⟩) x.nd.n x.nd.n) x.nd.n (met.map (Value.int .i64)), rBlk u 34 n.cs, rRow 32 12 (.slice A m cp) m ((eachN n.con).flatMap Cel.cells)] → (Row.mk A m cp (eachN n.con) : Row Cl).rd w') := fun w' met h => Row.ok.rds (own_ok (x := ⟨A, m, cp, eachN n.con⟩) (h.row 2 rfl) HOK.out (by show m * 96 ≤ _; omega))
        go_upto_region 11 with fail
        go_loopg [42] m (fun gg s42 wx => ∃ (j : Nat) (met : List Int), gg = m - j ∧ j ≤ m ∧ s42 = .int .i64 j ∧ Hid (SL No w wx [rRow 3 1 (.slice (some ⟨g, 0, none⟩) x.nd.n x.nd.n) x.nd.n (met.map (Value.int .i64)), rBlk u 34 n.cs, rRow 32 12 (.slice A m cp) m ((eachN n.con).flatMap Cel.cells)]) ∧ Hid (met.length = x.nd.n ∧ ∀ i v, met[i]? = some v → 0 ≤ v ∧ v ≤ (k : Int) * 1000000 + (j : Int) ∧ (v = 0 ↔ ledSo x.sz.n (x.nd.l.map Nd.con) k j i = false)))
        case atStart => exact ⟨0, met, rfl, by omega, rfl, H, HI⟩
        case round =>
          clear H HI
          obtain ⟨j, met, hgj, hj, rfl, H, HI⟩ := hrel
          have Hgj := Lib.hid hgj
          clear hgj
          by_cases hjl : j < m
          · obtain ⟨b4, o4, c, hA4, hb4, hck, hcok, hrg⟩ := (HCR.out _ met H.out).clAt (k := j) hjl
            simp only at hA4 hck
            obtain ⟨q0, qk, _⟩ := HCC2.out c (List.mem_of_getElem? hck)
            obtain ⟨q, hq⟩ : ∃ q : Nat, c.ch = q := ⟨c.ch.toNat, by omega⟩
            have hqn : q < x.nd.n := by omega
            have HLC := Lib.hid (fun i => ledSo_cell (nd := x.sz.n) HKC.out hck i)
            have HRG := Lib.hid hrg
            have j0 : (0 : Int) ≤ j := by omega
            have j1 : (j : Int) < m := by omega
            have HA4 := Lib.hid hA4
            have HQ := Lib.hid hq
            rw [hA4]
            clear hck hcok hrg hA4 q0 qk
            go_upto_region 13 with (first | ((with_reducible show wpList _ _ _ (⟨some 45, _, _, _, _, _⟩ :: _) _ _); (refine wpList_load_row_at rfl rowCl (.tmp 44) rfl b4 (o4 + j * 12) rfl c.cs rfl HRG.out ?_)) | ((with_reducible show wpList _ _ _ (⟨_, .store _ (.tmp 7) _, _, _, _, _⟩ :: _) _ _); (refine wpList_store_new rfl rowCl (.tmp 7) (.tmp 45) rfl rfl rfl (c.cs) rfl rfl (cl_one c) ?_; replace H := Lib.hid (H.out.alloc (c.cs) 32); (try simp only [List.set_cons_zero, List.set_cons_succ, List.cons_append, List.nil_append, List.eraseIdx_cons_zero, List.eraseIdx_cons_succ, List.setIfInBounds_toArray, World.size_alloc, selR, List.getD_cons_zero, List.getD_cons_succ] at H))))
            (try simp only [Act.put, List.setIfInBounds_toArray, List.set_cons_zero, List.set_cons_succ])
            clear HRG hb4
            generalize wr.heap.size = u2 at *
            generalize World.alloc wr _ = w7 at *
            have cc : w7.cell? ⟨u2, 1, none⟩ = some (.int .i64 q) := by rw [← hq]; exact (H.out.blk 3 rfl).cell 1
            clear hq
            obtain ⟨v, hv⟩ : ∃ v, met[q]? = some v := ⟨_, List.getElem?_eq_getElem (by rw [HI.out.1]; exact hqn)⟩
            obtain ⟨v0, v1, v2⟩ := HI.out.2 q v hv
            have ce : w7.cell? ⟨g, q, none⟩ = some (.int .i64 v) := by
              obtain ⟨ad, e, _, hc⟩ := (Rd.of_own (H.out.row 0 rfl)).2 (by omega)
              injection e with e
              subst e
              have := hc q (.int .i64 v) (by rw [List.getElem?_map, hv]; rfl)
              rwa [Addr.add_mid, Nat.zero_add] at this
            obtain ⟨cur, hcur⟩ := own_blk (H.out.row 0 rfl) (b := g) rfl
            have fe := hcur.frozen q
            have q0 : (0 : Int) ≤ q := by omega
            have q1 : (q : Int) < x.nd.n := by omega
            have hvb : v ≤ 140000000000 := by omega
            have HI2 : Hid ((met.set q (v + 1)).length = x.nd.n ∧ ∀ i z, (met.set q (v + 1))[i]? = some z → 0 ≤ z ∧ z ≤ (k : Int) * 1000000 + ((j + 1 : Nat) : Int) ∧ (z = 0 ↔ ledSo x.sz.n (x.nd.l.map Nd.con) k (j + 1) i = false)) := ⟨by rw [List.length_set]; exact HI.out.1, fun i z hz => by
              rw [HLC.out i, decide_eq_true HND.out, Bool.true_and, HQ.out]
              by_cases e : q = i
              · subst e
                rw [List.getElem?_set_self (by rw [HI.out.1]; exact hqn)] at hz
                injection hz with hz
                refine ⟨by omega, by omega, ?_⟩
                simp
                omega
              · rw [List.getElem?_set_ne e] at hz
                obtain ⟨z0, z1, z2⟩ := HI.out.2 i z hz
                refine ⟨z0, by omega, ?_⟩
                rw [z2, decide_eq_false (by omega), Bool.or_false]⟩
            have HSE : Hid (∀ W, SL No w W [rRow 3 1 (.slice (some ⟨g, 0, none⟩) x.nd.n x.nd.n) x.nd.n ((met.map (Value.int .i64)).set q (.int .i64 (v + 1))), rBlk u 34 n.cs, rRow 32 12 (.slice A m cp) m ((eachN n.con).flatMap Cel.cells), rBlk u2 32 c.cs] → SL No w W [rRow 3 1 (.slice (some ⟨g, 0, none⟩) x.nd.n x.nd.n) x.nd.n ((met.set q (v + 1)).map (Value.int .i64)), rBlk u 34 n.cs, rRow 32 12 (.slice A m cp) m ((eachN n.con).flatMap Cel.cells), rBlk u2 32 c.cs]) := fun W h => by rw [List.map_set]; exact h
            clear hcur hv v1 v2 HI HLC HQ
            replace H := Lib.hid (H.out.setElem 0 rfl hqn (.int .i64 (v + 1))); (try simp only [List.set_cons_zero, List.set_cons_succ, List.cons_append, List.nil_append, List.eraseIdx_cons_zero, List.eraseIdx_cons_succ, List.setIfInBounds_toArray, World.size_alloc, selR, List.getD_cons_zero, List.getD_cons_succ] at H)
            replace H := Lib.hid (HSE.out _ H.out)
            clear HSE
            replace H := Lib.hid (H.out.sel [0, 1, 2] (by decide) (by simp)); (try simp only [List.set_cons_zero, List.set_cons_succ, List.cons_append, List.nil_append, List.eraseIdx_cons_zero, List.eraseIdx_cons_succ, List.setIfInBounds_toArray, World.size_alloc, selR, List.getD_cons_zero, List.getD_cons_succ] at H)
            go_wp2_with fail
            rw [← HA4.out]
            go_roundg (m - (j + 1))
            case rel => exact ⟨j + 1, met.set q (v + 1), rfl, by omega, by go_num, H, HI2⟩
            case measure => rw [Hgj.out]; omega
          · obtain rfl : j = m := by omega
            have HI2 : Hid (met.length = x.nd.n ∧ ∀ i v, met[i]? = some v → 0 ≤ v ∧ v ≤ ((k + 1 : Nat) : Int) * 1000000 + 0 ∧ (v = 0 ↔ ledSo x.sz.n (x.nd.l.map Nd.con) (k + 1) 0 i = false)) := ⟨HI.out.1, fun i v hv => by
              have h := HI.out.2 i v hv
              rw [ledSo_next HKC.out, ← HM.out]
              exact ⟨h.1, by omega, h.2.2⟩⟩
            clear HI
            replace H := Lib.hid (H.out.sel [0] (by decide) (by simp)); (try simp only [List.set_cons_zero, List.set_cons_succ, List.cons_append, List.nil_append, List.eraseIdx_cons_zero, List.eraseIdx_cons_succ, List.setIfInBounds_toArray, World.size_alloc, selR, List.getD_cons_zero, List.getD_cons_succ] at H)
            go_wp2_with fail
            rw [← HAL.out]
            go_roundg (x.nd.n - (k + 1))
            case rel => exact ⟨k + 1, met, rfl, by omega, by go_num, H, HI2⟩
            case measure => rw [Hgk.out]; omega
    · obtain rfl : k = x.nd.n := by omega
      obtain ⟨bl, ol, n, hAl, hbl, hnk, hnr, hrg⟩ := (HA.out _ H.out.to).nd.ndAt (k := x.nd.n - 1) (by omega)
      have hlast : n.con = last := by have h := HLA.out; rw [List.getElem?_map, hnk] at h; injection h
      have hld : n.dim = last.dim := congrArg NC.dim hlast
      have cn : wr.cell? ⟨bl, ol + (x.nd.n - 1) * 14, none⟩ = some (.int .i64 n.dim) := hrg 0 _ rfl
      obtain ⟨N1, hN1⟩ : ∃ N1, N1 = x.nd.n - 1 := ⟨_, rfl⟩
      have hNi : (x.nd.n : Int) - 1 = N1 := by omega
      rw [← hN1] at cn
      rw [← hN1] at HRW
      have c2 := (HA.out _ H.out.to).c2
      rw [hAl] at c2
      have hmr : (Row.mk (some ⟨g, 0, none⟩) N1 x.nd.n (met.take N1) : Row Int).rd wr := by
        have h1 := Rd.of_own (H.out.row 0 rfl)
        refine ⟨⟨by rw [cells_len, List.length_take, HI.out.1]; show min N1 x.nd.n * 1 = N1 * 1; rw [Nat.min_eq_left (by omega)], fun hp => ?_⟩, fun z hz => ?_, by show N1 ≤ _; omega⟩
        · obtain ⟨ad, e, h2, h3⟩ := h1.2 (by omega)
          refine ⟨ad, e, h2, fun i v hv => h3 i v ?_⟩
          rw [flat_ints, List.getElem?_map, List.getElem?_take] at hv
          split at hv
          · rw [List.getElem?_map]; exact hv
          · cases hv
        · obtain ⟨i, hi⟩ := List.mem_iff_getElem?.1 (List.mem_of_mem_take hz)
          obtain ⟨z0, z1, _⟩ := HI.out.2 i z hi
          show I64 z
          unfold I64
          omega
      have HIX := Lib.hid (fun w' (hb : Bel wr w') => iindex_any _ 0 w' (hmr.mono hb))
      have hzero : (0 : Int) ∉ met.take N1 ↔ (List.range N1).all (ledTo x.sz.n (x.nd.l.map Nd.con)) = true := by
        rw [List.all_eq_true]
        have hlen : (x.nd.l.map Nd.con).length = x.nd.n := by rw [List.length_map]; exact hll.out
        constructor
        · intro h i hi
          have hi := List.mem_range.1 hi
          obtain ⟨z, hz⟩ : ∃ z, met[i]? = some z := ⟨_, List.getElem?_eq_getElem (by rw [HI.out.1]; omega)⟩
          obtain ⟨_, _, h3⟩ := HI.out.2 i z hz
          have h4 := ledSo_all (nd := x.sz.n) (l := x.nd.l.map Nd.con) i
          rw [hlen] at h4
          rw [← h4]
          cases hb : ledSo x.sz.n (x.nd.l.map Nd.con) x.nd.n 0 i with
          | true => rfl
          | false =>
            exfalso
            have hz0 := h3.2 hb
            subst hz0
            exact h (List.mem_iff_getElem?.2 ⟨i, by rw [List.getElem?_take, if_pos hi]; exact hz⟩)
        · intro h hm
          obtain ⟨i, hi⟩ := List.mem_iff_getElem?.1 hm
          rw [List.getElem?_take] at hi
          split at hi
          · rename_i hlt
            obtain ⟨_, _, h3⟩ := HI.out.2 i 0 hi
            have h4 := ledSo_all (nd := x.sz.n) (l := x.nd.l.map Nd.con) i
            rw [hlen, h3.1 rfl] at h4
            have h5 := h i (List.mem_range.2 hlt)
            rw [← h4] at h5
            cases h5
          · cases hi
      have hneg := idxI_neg (v := 0) (l := met.take N1) (k := 0) (Int.le_refl 0)
      have HTOP := Lib.hid (fun w' (hb : Bel wr w') => HLE.out w' (H.out.to.trans hb))
      rw [hNi] at HTOP
      obtain ⟨IX, hIX⟩ : ∃ IX, IX = idxI 0 (met.take N1) 0 := ⟨_, rfl⟩
      simp only at HIX
      rw [← hIX] at HIX hneg
      have hNn : (0 : Int) ≤ N1 := by omega
      have hNm : (N1 : Int) < x.nd.n := by omega
      have hsl := ints_uptoP g x.nd.n x.nd.n N1 hNn (by omega) hpos
      rw [Int.toNat_natCast] at hsl
      have d64 := hnr.dim
      unfold I64 at d64
      clear hIX hmr hlast hnk hnr hrg hbl hN1 HLE
      have HNI := Lib.hid hNi
      clear hNi
      by_cases hd0 : n.dim = 0
      · have d0 : (n.dim == 0) = true := by simpa using hd0
        by_cases hi : IX < 0
        · have di : decide (IX < 0) = true := by simpa using hi
          have HV : Hid (R = true) := by show _ = _; rw [HRW.out, ← hld, hzero.1 (hneg.1 hi), decide_eq_true hd0]; rfl
          clear HRW hd0 hi hneg hzero hld
          go_upto_region 16 with fail
          have f_c2 := fun u : Over wr => Over.cell c2 u
          have f_cn := fun u : Over wr => Over.cell cn u
          refine wp_region_over (by kernel_rfl) (by kernel_rfl) ?_
          (try simp only [Act.put, List.setIfInBounds_toArray, List.set_cons_zero, List.set_cons_succ])
          repeat (first
            | ((with_reducible show wpQuiet _ _ _ _ (⟨some 69, _, _, _, _, _⟩ :: _) _); refine wpQuiet_slice (by first | rfl | go_simp) (.tmp 66) none (some (.tmp 68)) rfl hsl ?_; simp only [Act.put, List.setIfInBounds_toArray, List.set_cons_zero, List.set_cons_succ])
            | go_big_quiet_step ((first | (go_at_call 90; rename_i u; exact calls_over (HTOP.out _ u.bel)) | (go_at_call 91; rename_i u; exact calls_over (HIX.out _ u.bel))))
            | go_big_quiet_step (fail))
          refine wpQuiet_nil ?_
          rintro w5 ⟨⟨_, hw5⟩, rfl⟩
          (try dsimp only)
          replace H := Lib.hid (H.out.bel hw5); (try simp only [List.set_cons_zero, List.set_cons_succ, List.cons_append, List.nil_append, List.eraseIdx_cons_zero, List.eraseIdx_cons_succ, List.setIfInBounds_toArray, World.size_alloc, selR, List.getD_cons_zero, List.getD_cons_succ] at H)
          clear f_c2 f_cn c2 cn
          go_wp2_with fail
          go_ret
          rw [HV.out]
          exact ⟨rfl, H.out.to⟩
        · have di : decide (IX < 0) = false := by simpa using hi
          have HV : Hid (R = false) := by
            show _ = _
            rw [HRW.out]
            cases hb : (List.range N1).all (ledTo x.sz.n (x.nd.l.map Nd.con)) with
            | true => exact absurd (hneg.2 (hzero.2 hb)) hi
            | false => simp
          clear HRW hd0 hi hneg hzero hld
          go_upto_region 16 with fail
          have f_c2 := fun u : Over wr => Over.cell c2 u
          have f_cn := fun u : Over wr => Over.cell cn u
          refine wp_region_over (by kernel_rfl) (by kernel_rfl) ?_
          (try simp only [Act.put, List.setIfInBounds_toArray, List.set_cons_zero, List.set_cons_succ])
          repeat (first
            | ((with_reducible show wpQuiet _ _ _ _ (⟨some 69, _, _, _, _, _⟩ :: _) _); refine wpQuiet_slice (by first | rfl | go_simp) (.tmp 66) none (some (.tmp 68)) rfl hsl ?_; simp only [Act.put, List.setIfInBounds_toArray, List.set_cons_zero, List.set_cons_succ])
            | go_big_quiet_step ((first | (go_at_call 90; rename_i u; exact calls_over (HTOP.out _ u.bel)) | (go_at_call 91; rename_i u; exact calls_over (HIX.out _ u.bel))))
            | go_big_quiet_step (fail))
          refine wpQuiet_nil ?_
          rintro w5 ⟨⟨_, hw5⟩, rfl⟩
          (try dsimp only)
          replace H := Lib.hid (H.out.bel hw5); (try simp only [List.set_cons_zero, List.set_cons_succ, List.cons_append, List.nil_append, List.eraseIdx_cons_zero, List.eraseIdx_cons_succ, List.setIfInBounds_toArray, World.size_alloc, selR, List.getD_cons_zero, List.getD_cons_succ] at H)
          clear f_c2 f_cn c2 cn
          go_wp2_with fail
          go_ret
          rw [HV.out]
          exact ⟨rfl, H.out.to⟩
      · have d0 : (n.dim == 0) = false := by simpa using hd0
        have HV : Hid (R = false) := by show _ = _; rw [HRW.out, ← hld, decide_eq_false hd0]; rfl
        clear HRW hd0 hneg hzero hld hsl
        go_upto_region 16 with fail
        have f_c2 := fun u : Over wr => Over.cell c2 u
        have f_cn := fun u : Over wr => Over.cell cn u
        refine wp_region_over (by kernel_rfl) (by kernel_rfl) ?_
        (try simp only [Act.put, List.setIfInBounds_toArray, List.set_cons_zero, List.set_cons_succ])
        repeat (first
          | go_big_quiet_step (((go_at_call 90; rename_i u; exact calls_over (HTOP.out _ u.bel))))
          | go_big_quiet_step (fail))
        refine wpQuiet_nil ?_
        rintro w5 ⟨⟨_, hw5⟩, rfl⟩
        (try dsimp only)
        replace H := Lib.hid (H.out.bel hw5); (try simp only [List.set_cons_zero, List.set_cons_succ, List.cons_append, List.nil_append, List.eraseIdx_cons_zero, List.eraseIdx_cons_succ, List.setIfInBounds_toArray, World.size_alloc, selR, List.getD_cons_zero, List.getD_cons_succ] at H)
        clear f_c2 f_cn c2 cn
        go_wp2_with fail
        go_ret
        rw [HV.out]
        exact ⟨rfl, H.out.to⟩

end Go.Proofs.Ytlclllkjnhgbjaa
