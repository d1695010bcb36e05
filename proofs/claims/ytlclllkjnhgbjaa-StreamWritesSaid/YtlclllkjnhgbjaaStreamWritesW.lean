/- The walk of law 34's StreamWrites. -/
import Derived.Test.YtlclllkjnhgbjaaStrQ
import Derived.Test.YtlclllkjnhgbjaaSwr
import Derived.Test.YtlclllkjnhgbjaaSrd
import Derived.Test.YtlclllkjnhgbjaaStrD
import Derived.Test.YtlclllkjnhgbjaaAreU
import Derived.Test.YtlclllkjnhgbjaaAreN
import Derived.Test.YtlclllkjnhgbjaaAreS
import Derived.Test.YtlclllkjnhgbjaaStrZ
namespace Go.Proofs.Ytlclllkjnhgbjaa
open Go.RowKit
set_option linter.unusedVariables false
set_option linter.unusedSimpArgs false


set_option maxRecDepth 100000 in
set_option maxHeartbeats 1500000 in
theorem walk_streamWrites (w : World) (sh : Shp) (hs : sh.rd w) (l : Row Nd) (hl : l.ok w) (most : Int) (wi : (Lit.int .i64 most).wf = true) :
    Calls Try.prog 6 #[.agg sh.cs, .slice l.A l.n l.c, .int .i64 most] w fun e w' => e = .returned (.bool true) ∧ Bel w w' := by
  have h64 : I64 most := bounds_i64 wi
  have HSR := Lib.hid (fun w' (hb : Bel w w') => hs.mono hb)
  have HLR := Lib.hid (fun w' (hb : Bel w w') => hl.rds.mono hb)
  have HSMA := Lib.hid (fun w' (hb : Bel w w') => smallS_any sh w' (hs.mono hb))
  have HFEW := Lib.hid (fun w' (hb : Bel w w') => few24s_any l 15 w' (hl.rds.mono hb) (by omega))
  have hxl : sh.con.length = sh.sz.n := by show (sh.sz.l.map Row.l).length = _; rw [List.length_map]; exact hs.sz.len
  have hll : l.l.length = l.n := hl.len
  have HXL := Lib.hid hxl
  have HLL := Lib.hid hll
  have l63 := hl.rds.n63
  have HLO := Lib.hid (fun w' (hb : Bel w w') => hl.mono hb)
  have HNK := Lib.hid (fun n hn => (hl.rds.all n hn : n.rd w))
  have H := Lib.hid ((SL.start No w).alloc sh.cs 24)
  (try simp only [List.set_cons_zero, List.set_cons_succ, List.cons_append, List.nil_append, List.eraseIdx_cons_zero, List.eraseIdx_cons_succ, List.setIfInBounds_toArray, World.size_alloc, selR, List.getD_cons_zero, List.getD_cons_succ] at H)
  have hcs : sh.cs = #[.slice sh.sz.A sh.sz.n sh.sz.c, .int .i64 sh.ms] := rfl
  have HCS := Lib.hid hcs
  clear hcs hs hl hxl hll
  go_enter Try.func6, Try.ntmps6
  go_upto_region 1 with fail
  (try rw [← HCS.out] at *)
  generalize w.heap.size = x at *
  generalize World.alloc w _ = w1 at *
  go_wp2_with ((with_reducible show wpList _ _ _ (⟨some 16, _, _, _, _, _⟩ :: _) _ _); (refine wpList_load_blk rfl rowShp2 (.tmp 3) rfl _ rfl (H.out.blk 0 rfl) rfl ?_))
  refine (HSMA.out _ H.out.to).mono ?_; rintro e w2 ⟨b1, rfl, hb1, hb2⟩
  replace H := Lib.hid (H.out.bel hb2); (try simp only [List.set_cons_zero, List.set_cons_succ, List.cons_append, List.nil_append, List.eraseIdx_cons_zero, List.eraseIdx_cons_succ, List.setIfInBounds_toArray, World.size_alloc, selR, List.getD_cons_zero, List.getD_cons_succ] at H)
  clear hb2 HSMA
  cases b1 with
  | false =>
    go_wp2_with fail
    refine (awake34_any _).mono ?_; rintro e wz ⟨rfl, hbz⟩
    replace H := Lib.hid (H.out.bel hbz)
    go_wp2_with fail
    go_ret
    exact ⟨rfl, H.out.to⟩
  | true =>
  have hsm := hb1 rfl
  have HSM := Lib.hid hsm
  clear hb1 hsm
  go_wp2_with fail
  refine (HFEW.out _ H.out.to).mono ?_; rintro e w3 ⟨b2, rfl, hf, hb3⟩
  replace H := Lib.hid (H.out.bel hb3); (try simp only [List.set_cons_zero, List.set_cons_succ, List.cons_append, List.nil_append, List.eraseIdx_cons_zero, List.eraseIdx_cons_succ, List.setIfInBounds_toArray, World.size_alloc, selR, List.getD_cons_zero, List.getD_cons_succ] at H)
  clear hb3 HFEW
  cases b2 with
  | false =>
    clear hf
    go_wp2_with fail
    refine (awake34_any _).mono ?_; rintro e wz ⟨rfl, hbz⟩
    replace H := Lib.hid (H.out.bel hbz)
    go_wp2_with fail
    go_ret
    exact ⟨rfl, H.out.to⟩
  | true =>
  have hf1 := hf rfl
  have HF := Lib.hid hf1
  have hsmn := hf1.1.sm (HLR.out w (Bel.refl w))
  have hn15 : l.n ≤ 15 := by have := hf1.1.1; omega
  have HSN := Lib.hid hsmn
  have HLD := Lib.hid (fun w' (hb : Bel w w') => aload_any sh l w' (HSR.out w' hb) (HLR.out w' hb) (by omega) hsmn)
  have HLS := Lib.hid (fun w' (hb : Bel w w') => rloads_any sh l w' (HSR.out w' hb) (HLO.out w' hb) hsmn)
  clear hf hf1 hsmn
  go_wp2_with ((with_reducible show wpList _ _ _ (⟨some 26, _, _, _, _, _⟩ :: _) _ _); (refine wpList_load_blk rfl rowShp2 (.tmp 3) rfl _ rfl (H.out.blk 0 rfl) rfl ?_))
  refine (HLD.out _ H.out.to).mono ?_; intro e w4 hld
  unfold LoadPost at hld
  clear HLD
  cases hok : shapeOk sh.con sh.ms with
  | false =>
    rw [hok, if_pos rfl] at hld
    obtain ⟨rfl, hb4⟩ := hld
    replace H := Lib.hid (H.out.bel hb4); (try simp only [List.set_cons_zero, List.set_cons_succ, List.cons_append, List.nil_append, List.eraseIdx_cons_zero, List.eraseIdx_cons_succ, List.setIfInBounds_toArray, World.size_alloc, selR, List.getD_cons_zero, List.getD_cons_succ] at H)
    clear hb4 hok HLS
    go_wp2_with fail
    refine (swrite_no (.pointer none) most _ (.inl rfl)).mono ?_; rintro e w5 ⟨rfl, hb5⟩
    replace H := Lib.hid (H.out.bel hb5); (try simp only [List.set_cons_zero, List.set_cons_succ, List.cons_append, List.nil_append, List.eraseIdx_cons_zero, List.eraseIdx_cons_succ, List.setIfInBounds_toArray, World.size_alloc, selR, List.getD_cons_zero, List.getD_cons_succ] at H)
    clear hb5
    go_wp2_with fail
    refine (awake34_any _).mono ?_; rintro e wz ⟨rfl, hbz⟩
    replace H := Lib.hid (H.out.bel hbz)
    go_wp2_with fail
    go_ret
    exact ⟨rfl, H.out.to⟩
  | true =>
  rw [hok, if_neg (by simp)] at hld
  have hll2 : (l.l.map Nd.con).length = (l.l.map Nd.con).length := rfl
  by_cases hfe : firstErr (loadAt sh.con sh.ms (l.l.map Nd.con)) (l.l.map Nd.con).length 0 ≠ 0
  · rw [if_pos hfe] at hld
    obtain ⟨rfl, hb4⟩ := hld
    replace H := Lib.hid (H.out.bel hb4); (try simp only [List.set_cons_zero, List.set_cons_succ, List.cons_append, List.nil_append, List.eraseIdx_cons_zero, List.eraseIdx_cons_succ, List.setIfInBounds_toArray, World.size_alloc, selR, List.getD_cons_zero, List.getD_cons_succ] at H)
    clear hb4 hok HLS
    generalize firstErr (loadAt sh.con sh.ms (l.l.map Nd.con)) (l.l.map Nd.con).length 0 = E at *
    have d1 : (E != 0) = true := by simpa using hfe
    clear hfe
    go_wp2_with fail
    refine (swrite_no (.pointer none) most _ (.inl rfl)).mono ?_; rintro e w5 ⟨rfl, hb5⟩
    replace H := Lib.hid (H.out.bel hb5); (try simp only [List.set_cons_zero, List.set_cons_succ, List.cons_append, List.nil_append, List.eraseIdx_cons_zero, List.eraseIdx_cons_succ, List.setIfInBounds_toArray, World.size_alloc, selR, List.getD_cons_zero, List.getD_cons_succ] at H)
    clear hb5
    go_wp2_with fail
    refine (awake34_any _).mono ?_; rintro e wz ⟨rfl, hbz⟩
    replace H := Lib.hid (H.out.bel hbz)
    go_wp2_with fail
    go_ret
    exact ⟨rfl, H.out.to⟩
  · rw [if_neg hfe] at hld
    obtain ⟨b, z, rfl, ⟨z1, z2, z3, z4⟩, z5, z6⟩ := hld
    have hfe0 : firstErr (loadAt sh.con sh.ms (l.l.map Nd.con)) (l.l.map Nd.con).length 0 = 0 := Classical.not_not.1 hfe
    have hg := goodN_load hfe0
    have HG := Lib.hid hg
    have HLO0 : Hid (loadsOf sh.con sh.ms (l.l.map Nd.con) = 0) := by show _ = _; unfold loadsOf; rw [if_pos hok, hfe0]
    rw [HLO0.out] at HLS
    replace H := Lib.hid ((H.out.join z6).mkAr z1); (try simp only [List.set_cons_zero, List.set_cons_succ, List.cons_append, List.nil_append, List.eraseIdx_cons_zero, List.eraseIdx_cons_succ, List.setIfInBounds_toArray, World.size_alloc, selR, List.getD_cons_zero, List.getD_cons_succ] at H)
    have hat := (H.out.at_ 1 rfl : ArAt b z w4)
    have HSW := Lib.hid (fun W (h : ArAt b z W) => swrite_any b z most W z1 h (by rw [z3, z4]; exact hok) (by rw [z3, z4, z5]; exact hg) (by have h1 := congrArg List.length z5; rw [List.length_map, List.length_map, hat.nd.len, HLL.out] at h1; omega) (fun n hn => by
      have h0 := hat.bd n hn
      obtain ⟨i, hi, hin⟩ := List.getElem_of_mem hn
      have h1 := (hg i n.con (by rw [← z5, List.getElem?_map, List.getElem?_eq_getElem hi, hin]; rfl)).1
      exact ⟨h0.1, h0.2, Nat.le_trans (flat_node h1 hok) (by omega)⟩) h64)
    have hdim : ∀ n ∈ l.l, n.dim < sh.sz.n := fun n hn => by
      obtain ⟨i, hi, hin⟩ := List.getElem_of_mem hn
      have h1 := (hg i n.con (by rw [List.getElem?_map, List.getElem?_eq_getElem hi, hin]; rfl)).1
      obtain ⟨h0, szz, h2, _⟩ := nodeErr_inv h1
      have h3 := (List.getElem?_eq_some_iff.1 h2).1
      rw [HXL.out] at h3
      have h4 : (n.con).dim = n.dim := rfl
      rw [h4] at h0 h3
      omega
    have HWH := Lib.hid (fun w' (hb : Bel w w') => rwhole24_any sh l w' (HSR.out w' hb) (HLR.out w' hb) hdim (fun n hn => (HSN.out n hn).t))
    have HRW := Lib.hid (fun w' (hb : Bel w w') => rwrite_any sh l w' (HSR.out w' hb) (HLR.out w' hb) hok hg hn15 HSN.out)
    have hb0 := few_pwrite (HLR.out w (Bel.refl w)) HF.out hok hg
    have hti := pwrite_top hok hg hb0
    rw [HXL.out] at hb0 hti
    have HPT := Lib.hid (fun (h : wholeC sh.con.length (l.l.map Nd.con) = true) => preadT_pwrite hok hg (fun n hn => by obtain ⟨m, hm, rfl⟩ := List.mem_map.1 hn; exact nd_ncOk (HNK.out m hm)) (by rw [List.length_map, HLL.out]; omega) h)
    rw [HXL.out] at HPT
    have HSRD := Lib.hid (fun w' (hb : Bel w w') => sread_any sh (pwrite sh.sz.n sh.ms (l.l.map Nd.con)).2 (wtop (pwrite sh.sz.n sh.ms (l.l.map Nd.con)).1) w' (HSR.out w' hb) hb0 HSM.out hti)
    have HOK := Lib.hid hok
    have HZC := Lib.hid z5
    rw [z2, z4, z5] at HSW
    have HZ1 := Lib.hid z1
    have i64 := h64
    unfold I64 at i64
    clear z1 z2 z3 z4 z5 z6 hok hfe hfe0 hg hat HLO0 hdim hti hll2 h64
    generalize hNL : l.l.map Nd.con = NL at *
    have HNL := Lib.hid hNL
    clear hNL
    generalize hPP : (pwrite sh.sz.n sh.ms NL).2 = PB at *
    generalize hPT : wtop (pwrite sh.sz.n sh.ms NL).1 = PT at *
    have HPB := Lib.hid hPP
    have HPTT := Lib.hid hPT
    clear hPP hPT
    go_wp2_with fail
    refine (HSW.out _ (H.out.at_ 1 rfl)).mono ?_; rintro e w5 ⟨rfl, hb5⟩
    replace H := Lib.hid (H.out.bel hb5); (try simp only [List.set_cons_zero, List.set_cons_succ, List.cons_append, List.nil_append, List.eraseIdx_cons_zero, List.eraseIdx_cons_succ, List.setIfInBounds_toArray, World.size_alloc, selR, List.getD_cons_zero, List.getD_cons_succ] at H)
    clear hb5 HSW
    cases hwh : wholeC sh.sz.n NL with
    | false =>
      have HSV : Hid (swVal sh.sz.n sh.ms NL most = .tuple #[.string ⟨#[]⟩, .int .i64 0, .int .i64 2]) := by show _ = _; unfold swVal; rw [hwh, if_pos rfl]
      rw [hwh] at HWH
      rw [HSV.out]
      clear HRW hb0 HPT HSRD hwh HSV HG HF
      go_wp2_with ((with_reducible show wpList _ _ _ (⟨some 41, _, _, _, _, _⟩ :: _) _ _); refine wpList_load_blkG (by first | rfl | go_simp) rowShp2 (.tmp 3) (by rfl) _ (by rfl) (H.out.blk 0 rfl) rfl ?_)
      refine (HLS.out _ H.out.to).mono ?_; rintro e w6 ⟨rfl, hb6⟩
      replace H := Lib.hid (H.out.bel hb6); (try simp only [List.set_cons_zero, List.set_cons_succ, List.cons_append, List.nil_append, List.eraseIdx_cons_zero, List.eraseIdx_cons_succ, List.setIfInBounds_toArray, World.size_alloc, selR, List.getD_cons_zero, List.getD_cons_succ] at H)
      clear hb6 HLS
      go_wp2_with ((with_reducible show wpList _ _ _ (⟨some 59, _, _, _, _, _⟩ :: _) _ _); (refine wpList_load_blk rfl rowShp2 (.tmp 3) rfl _ rfl (H.out.blk 0 rfl) rfl ?_))
      refine (HWH.out _ H.out.to).mono ?_; rintro e w7 ⟨rfl, hb7⟩
      replace H := Lib.hid (H.out.bel hb7); (try simp only [List.set_cons_zero, List.set_cons_succ, List.cons_append, List.nil_append, List.eraseIdx_cons_zero, List.eraseIdx_cons_succ, List.setIfInBounds_toArray, World.size_alloc, selR, List.getD_cons_zero, List.getD_cons_succ] at H)
      clear hb7 HWH
      go_wp2_with fail
      refine (awake34_any _).mono ?_; rintro e wz ⟨rfl, hbz⟩
      replace H := Lib.hid (H.out.bel hbz)
      go_wp2_with fail
      go_ret
      exact ⟨rfl, H.out.to⟩
    | true =>
      rw [hwh] at HWH
      have HPR := HPT.out hwh
      have HPRR := Lib.hid HPR
      obtain ⟨M, hM⟩ : ∃ M, M = max most 0 := ⟨_, rfl⟩
      have hmx : max most 0 = M := hM.symm
      have hM0 : 0 ≤ M := by omega
      have HMM := Lib.hid hmx
      clear hM
      by_cases hbig : M < (PB.length : Int)
      · have HSV : Hid (swVal sh.sz.n sh.ms NL most = .tuple #[.string ⟨#[]⟩, .int .i64 0, .int .i64 7]) := by
          show _ = _
          unfold swVal
          rw [hwh, if_neg (by simp), hmx, HPB.out, if_pos hbig]
        rw [HSV.out]
        have d1 : decide (M < (PB.length : Int)) = true := by simpa using hbig
        clear hmx HPT HSRD hwh HSV HG HF HPR HPRR hbig
        go_wp2_with ((with_reducible show wpList _ _ _ (⟨some 41, _, _, _, _, _⟩ :: _) _ _); refine wpList_load_blkG (by first | rfl | go_simp) rowShp2 (.tmp 3) (by rfl) _ (by rfl) (H.out.blk 0 rfl) rfl ?_)
        refine (HLS.out _ H.out.to).mono ?_; rintro e w6 ⟨rfl, hb6⟩
        replace H := Lib.hid (H.out.bel hb6); (try simp only [List.set_cons_zero, List.set_cons_succ, List.cons_append, List.nil_append, List.eraseIdx_cons_zero, List.eraseIdx_cons_succ, List.setIfInBounds_toArray, World.size_alloc, selR, List.getD_cons_zero, List.getD_cons_succ] at H)
        clear hb6 HLS
        go_wp2_with ((with_reducible show wpList _ _ _ (⟨some 59, _, _, _, _, _⟩ :: _) _ _); (refine wpList_load_blk rfl rowShp2 (.tmp 3) rfl _ rfl (H.out.blk 0 rfl) rfl ?_))
        refine (HWH.out _ H.out.to).mono ?_; rintro e w7 ⟨rfl, hb7⟩
        replace H := Lib.hid (H.out.bel hb7); (try simp only [List.set_cons_zero, List.set_cons_succ, List.cons_append, List.nil_append, List.eraseIdx_cons_zero, List.eraseIdx_cons_succ, List.setIfInBounds_toArray, World.size_alloc, selR, List.getD_cons_zero, List.getD_cons_succ] at H)
        clear hb7 HWH
        go_wp2_with ((with_reducible show wpList _ _ _ (⟨some 77, _, _, _, _, _⟩ :: _) _ _); (refine wpList_load_blk rfl rowShp2 (.tmp 3) rfl _ rfl (H.out.blk 0 rfl) rfl ?_))
        refine (HRW.out _ H.out.to).mono ?_; rintro e w8 ⟨rfl, hb8⟩
        replace H := Lib.hid (H.out.bel hb8); (try simp only [List.set_cons_zero, List.set_cons_succ, List.cons_append, List.nil_append, List.eraseIdx_cons_zero, List.eraseIdx_cons_succ, List.setIfInBounds_toArray, World.size_alloc, selR, List.getD_cons_zero, List.getD_cons_succ] at H)
        clear hb8 HRW
        have hmx := HMM.out
        go_wp2_with fail
        refine (awake34_any _).mono ?_; rintro e wz ⟨rfl, hbz⟩
        replace H := Lib.hid (H.out.bel hbz)
        go_wp2_with fail
        go_ret
        exact ⟨rfl, H.out.to⟩
      · have HSV : Hid (swVal sh.sz.n sh.ms NL most = .tuple #[.string ⟨PB.toArray⟩, .int .i64 PT, .int .i64 0]) := by
          show _ = _
          unfold swVal
          rw [hwh, if_neg (by simp), hmx, HPB.out, if_neg hbig, HPTT.out]
        rw [HSV.out]
        have d1 : decide (M < (PB.length : Int)) = false := by simpa using hbig
        clear hmx HPT hwh HSV HG HF hbig
        go_wp2_with ((with_reducible show wpList _ _ _ (⟨some 41, _, _, _, _, _⟩ :: _) _ _); refine wpList_load_blkG (by first | rfl | go_simp) rowShp2 (.tmp 3) (by rfl) _ (by rfl) (H.out.blk 0 rfl) rfl ?_)
        refine (HLS.out _ H.out.to).mono ?_; rintro e w6 ⟨rfl, hb6⟩
        replace H := Lib.hid (H.out.bel hb6); (try simp only [List.set_cons_zero, List.set_cons_succ, List.cons_append, List.nil_append, List.eraseIdx_cons_zero, List.eraseIdx_cons_succ, List.setIfInBounds_toArray, World.size_alloc, selR, List.getD_cons_zero, List.getD_cons_succ] at H)
        clear hb6 HLS
        go_wp2_with ((with_reducible show wpList _ _ _ (⟨some 59, _, _, _, _, _⟩ :: _) _ _); (refine wpList_load_blk rfl rowShp2 (.tmp 3) rfl _ rfl (H.out.blk 0 rfl) rfl ?_))
        refine (HWH.out _ H.out.to).mono ?_; rintro e w7 ⟨rfl, hb7⟩
        replace H := Lib.hid (H.out.bel hb7); (try simp only [List.set_cons_zero, List.set_cons_succ, List.cons_append, List.nil_append, List.eraseIdx_cons_zero, List.eraseIdx_cons_succ, List.setIfInBounds_toArray, World.size_alloc, selR, List.getD_cons_zero, List.getD_cons_succ] at H)
        clear hb7 HWH
        go_wp2_with ((with_reducible show wpList _ _ _ (⟨some 77, _, _, _, _, _⟩ :: _) _ _); (refine wpList_load_blk rfl rowShp2 (.tmp 3) rfl _ rfl (H.out.blk 0 rfl) rfl ?_))
        refine (HRW.out _ H.out.to).mono ?_; rintro e w8 ⟨rfl, hb8⟩
        replace H := Lib.hid (H.out.bel hb8); (try simp only [List.set_cons_zero, List.set_cons_succ, List.cons_append, List.nil_append, List.eraseIdx_cons_zero, List.eraseIdx_cons_succ, List.setIfInBounds_toArray, World.size_alloc, selR, List.getD_cons_zero, List.getD_cons_succ] at H)
        clear hb8 HRW
        have hmx := HMM.out
        go_wp2_with ((with_reducible show wpList _ _ _ (⟨some 101, _, _, _, _, _⟩ :: _) _ _); (refine wpList_load_blk rfl rowShp2 (.tmp 3) rfl _ rfl (H.out.blk 0 rfl) rfl ?_))
        refine (HSRD.out _ H.out.to).mono ?_; intro e w9 hsr
        unfold SRPost at hsr
        rw [HOK.out, if_neg (by simp), HPR] at hsr
        obtain ⟨b9, z9, rfl, ⟨y1, y2, y3, y4⟩, y5, y6⟩ := hsr
        replace H := Lib.hid ((H.out.join y6).mkAr y1); (try simp only [List.set_cons_zero, List.set_cons_succ, List.cons_append, List.nil_append, List.eraseIdx_cons_zero, List.eraseIdx_cons_succ, List.setIfInBounds_toArray, World.size_alloc, selR, List.getD_cons_zero, List.getD_cons_succ] at H)
        have HY1 := Lib.hid y1
        have HY5 := Lib.hid y5
        clear y1 y2 y3 y4 y5 y6 HSRD HPR hmx d1
        go_wp2_with fail
        refine (anodes_any b9 z9 _ HY1.out (H.out.at_ 2 rfl)).mono ?_; rintro e w10 ⟨l3, rfl, hl3c, hl3r, hb10⟩
        replace H := Lib.hid (H.out.bel hb10); (try simp only [List.set_cons_zero, List.set_cons_succ, List.cons_append, List.nil_append, List.eraseIdx_cons_zero, List.eraseIdx_cons_succ, List.setIfInBounds_toArray, World.size_alloc, selR, List.getD_cons_zero, List.getD_cons_succ] at H)
        have HL3 := Lib.hid hl3c
        go_wp2_with fail
        refine (rall24_any l3 l _ hl3r (HLR.out _ H.out.to) (by rw [HL3.out, HY5.out, HNL.out])).mono ?_; rintro e w11 ⟨rfl, hb11⟩
        replace H := Lib.hid (H.out.bel hb11); (try simp only [List.set_cons_zero, List.set_cons_succ, List.cons_append, List.nil_append, List.eraseIdx_cons_zero, List.eraseIdx_cons_succ, List.setIfInBounds_toArray, World.size_alloc, selR, List.getD_cons_zero, List.getD_cons_succ] at H)
        clear hb10 hb11 hl3c hl3r
        go_wp2_with fail
        refine (awake34_any _).mono ?_; rintro e wz ⟨rfl, hbz⟩
        replace H := Lib.hid (H.out.bel hbz)
        go_wp2_with fail
        go_ret
        exact ⟨rfl, H.out.to⟩

end Go.Proofs.Ytlclllkjnhgbjaa
