/- The walk of law 25's ArenaAhead. -/
import Derived.Test.YtjiphfobengdlaaAreS
import Derived.Test.YtjiphfobengdlaaBr
namespace Go.Proofs.Ytjiphfobengdlaa
open Go.RowKit
set_option linter.unusedVariables false
set_option linter.unusedSimpArgs false


set_option maxRecDepth 100000 in
theorem open_numsA {H : Type} {enc : TypeId × Value → H} {w : World} {base b0 : Nat} {spare : Nat → Bool} {held : Bool} {r : Reach} {v : Value} {d : DataW H} {p : List MemPlace}
    (hv : Value.okWide Try.prog w r b0 26 v) (h : DataW.Trod enc Try.prog w base spare held 26 v d p) (hz : Sized Try.prog 26 d) : ∃ x : Row Int, v = x.v ∧ x.ok w := open_row Try.underlying26 c_int (by kernel_rfl) (opens_i64 Try.underlying3) hv h hz
set_option maxRecDepth 100000 in
set_option maxHeartbeats 4000000 in
theorem walk_arenaAhead (w : World) (s : Shp) (hs : s.rd w) (l : Row Nd) (hl : l.ok w) (ws : Row Int) (hws : ws.ok w) :
    Calls Try.prog 3 #[.agg s.cs, .slice l.A l.n l.c, .slice ws.A ws.n ws.c] w fun e w' => e = .returned (.bool true) ∧ Bel w w' := by
  have HSR := Lib.hid (fun w' (hb : Bel w w') => hs.mono hb)
  have HLR := Lib.hid (fun w' (hb : Bel w w') => hl.rds.mono hb)
  have HWR := Lib.hid (fun w' (hb : Bel w w') => hws.rds.mono hb)
  have l63 := hl.rds.n63
  have w63 := hws.rds.n63
  have HSMA := Lib.hid (fun w' (hb : Bel w w') => smallS_any s w' (hs.mono hb))
  have HFEW := Lib.hid (fun w' (hb : Bel w w') => few24_any l 30 w' (hl.rds.mono hb) (by omega))
  have H := Lib.hid ((SL.start No w).alloc s.cs 24)
  (try simp only [List.set_cons_zero, List.set_cons_succ, List.cons_append, List.nil_append, List.eraseIdx_cons_zero, List.eraseIdx_cons_succ, List.setIfInBounds_toArray, World.size_alloc, selR, List.getD_cons_zero, List.getD_cons_succ] at H)
  have hcs : s.cs = #[.slice s.sz.A s.sz.n s.sz.c, .int .i64 s.ms] := rfl
  have HCS := Lib.hid hcs
  clear hcs hs hl hws
  go_enter Try.func3, Try.ntmps3
  go_upto_region 1 with fail
  (try rw [← HCS.out] at *)
  generalize w.heap.size = x at *
  generalize World.alloc w _ = w1 at *
  go_wp2_with ((with_reducible show wpList _ _ _ (⟨some 17, _, _, _, _, _⟩ :: _) _ _); (refine wpList_load_blk rfl rowShp2 (.tmp 3) rfl _ rfl (H.out.blk 0 rfl) rfl ?_))
  refine (HSMA.out _ H.out.to).mono ?_; rintro e w2 ⟨b1, rfl, _, hb2⟩
  replace H := Lib.hid (H.out.bel hb2); (try simp only [List.set_cons_zero, List.set_cons_succ, List.cons_append, List.nil_append, List.eraseIdx_cons_zero, List.eraseIdx_cons_succ, List.setIfInBounds_toArray, World.size_alloc, selR, List.getD_cons_zero, List.getD_cons_succ] at H)
  clear hb2 HSMA
  cases b1 with
  | false =>
    go_wp2_with fail
    refine (awake25_any _).mono ?_; rintro e wz ⟨rfl, hbz⟩
    replace H := Lib.hid (H.out.bel hbz)
    go_wp2_with fail
    go_ret
    exact ⟨rfl, H.out.to⟩
  | true =>
  go_wp2_with fail
  refine (HFEW.out _ H.out.to).mono ?_; rintro e w3 ⟨b2, rfl, hfew, hb3⟩
  replace H := Lib.hid (H.out.bel hb3); (try simp only [List.set_cons_zero, List.set_cons_succ, List.cons_append, List.nil_append, List.eraseIdx_cons_zero, List.eraseIdx_cons_succ, List.setIfInBounds_toArray, World.size_alloc, selR, List.getD_cons_zero, List.getD_cons_succ] at H)
  clear hb3 HFEW
  cases b2 with
  | false =>
    go_wp2_with fail
    refine (awake25_any _).mono ?_; rintro e wz ⟨rfl, hbz⟩
    replace H := Lib.hid (H.out.bel hbz)
    go_wp2_with fail
    go_ret
    exact ⟨rfl, H.out.to⟩
  | true =>
  have hfew := hfew rfl
  have HSM := Lib.hid (hfew.sm (HLR.out _ (Bel.refl _)))
  have hn30 : l.n ≤ 30 := by have := hfew.1; omega
  have HLD := Lib.hid (fun w' (hb : Bel w w') => aload_any s l w' (HSR.out w' hb) (HLR.out w' hb) (by omega) HSM.out)
  clear hfew
  by_cases hw100 : 100 < ws.n
  · have d1 : decide ((100 : Int) < (ws.n : Int)) = true := by simp <;> omega
    have d1n : decide (100 < ws.n) = true := by simp <;> omega
    clear hw100
    go_wp2_with fail
    refine (awake25_any _).mono ?_; rintro e wz ⟨rfl, hbz⟩
    replace H := Lib.hid (H.out.bel hbz)
    go_wp2_with fail
    go_ret
    exact ⟨rfl, H.out.to⟩
  have d1 : decide ((100 : Int) < (ws.n : Int)) = false := by simp <;> omega
  have d1n : decide (100 < ws.n) = false := by simp <;> omega
  clear hw100
  go_wp2_with ((with_reducible show wpList _ _ _ (⟨some 32, _, _, _, _, _⟩ :: _) _ _); (refine wpList_load_blk rfl rowShp2 (.tmp 3) rfl _ rfl (H.out.blk 0 rfl) rfl ?_))
  refine (HLD.out _ H.out.to).mono ?_; intro e w4 hld
  clear HLD d1 d1n
  unfold LoadPost at hld
  cases hokS : shapeOk s.con s.ms with
  | false =>
    rw [hokS, if_pos rfl] at hld
    obtain ⟨rfl, hb4⟩ := hld
    replace H := Lib.hid (H.out.bel hb4); (try simp only [List.set_cons_zero, List.set_cons_succ, List.cons_append, List.nil_append, List.eraseIdx_cons_zero, List.eraseIdx_cons_succ, List.setIfInBounds_toArray, World.size_alloc, selR, List.getD_cons_zero, List.getD_cons_succ] at H)
    clear hb4 hokS
    go_wp2_with fail
    refine (awake25_any _).mono ?_; rintro e wz ⟨rfl, hbz⟩
    replace H := Lib.hid (H.out.bel hbz)
    go_wp2_with fail
    go_ret
    exact ⟨rfl, H.out.to⟩
  | true =>
    rw [hokS, if_neg (by simp)] at hld
    obtain ⟨E, hE⟩ : ∃ E, E = firstErr (loadAt s.con s.ms (l.l.map Nd.con)) (l.l.map Nd.con).length 0 := ⟨_, rfl⟩
    rw [← hE] at hld
    by_cases hE0 : E ≠ 0
    · rw [if_pos hE0] at hld
      obtain ⟨rfl, hb4⟩ := hld
      replace H := Lib.hid (H.out.bel hb4); (try simp only [List.set_cons_zero, List.set_cons_succ, List.cons_append, List.nil_append, List.eraseIdx_cons_zero, List.eraseIdx_cons_succ, List.setIfInBounds_toArray, World.size_alloc, selR, List.getD_cons_zero, List.getD_cons_succ] at H)
      have d1 : (E != 0) = true := by simpa using hE0
      clear hb4 hE0 hokS hE
      go_wp2_with fail
      refine (awake25_any _).mono ?_; rintro e wz ⟨rfl, hbz⟩
      replace H := Lib.hid (H.out.bel hbz)
      go_wp2_with fail
      go_ret
      exact ⟨rfl, H.out.to⟩
    rw [if_neg hE0] at hld
    obtain ⟨b, z, rfl, ⟨hok, hzn, hzc, hzm⟩, hzl, hz⟩ := hld
    have hgood := goodN_load (hE.symm.trans (Classical.not_not.1 hE0))
    rw [← hzl] at hgood
    have hsl : s.con.length = s.sz.n := by rw [List.length_map]; exact (HSR.out _ (Bel.refl _)).sz.len
    have HGD : Hid (∀ n ∈ z.nd.l.map Nd.con, 0 ≤ n.dim ∧ n.dim < s.sz.n) := by have h := goodN_dim hgood; rw [hsl] at h; exact h
    have HGC : Hid (∀ (k : Nat) n, (z.nd.l.map Nd.con)[k]? = some n → n.dim ≠ (s.sz.n : Int) - 1 → ∀ c ∈ eachN n, 0 ≤ c.ch ∧ c.ch < k ∧ ∃ m, (z.nd.l.map Nd.con)[c.ch.toNat]? = some m ∧ m.dim = n.dim + 1) := fun k n hk hd => by rw [← hsl] at hd; exact goodN_ch hgood hk hd
    have HSMZ : Hid (∀ n ∈ z.nd.l.map Nd.con, n.ls.flatten.length ≤ 999999) := fun n hn => by
      rw [hzl] at hn
      obtain ⟨y, hy, rfl⟩ := List.mem_map.1 hn
      exact (HSM.out y hy).t
    replace H := Lib.hid ((H.out.join hz).mkAr hok); (try simp only [List.set_cons_zero, List.set_cons_succ, List.cons_append, List.nil_append, List.eraseIdx_cons_zero, List.eraseIdx_cons_succ, List.setIfInBounds_toArray, World.size_alloc, selR, List.getD_cons_zero, List.getD_cons_succ] at H)
    have HZL : Hid (z.nd.l.length = z.nd.n) := (H.out.at_ 1 rfl : ArAt b z w4).nd.len
    have hs1 := hok.s1
    have hs16 := hok.s16
    have hnn := hok.nn
    rw [hzn] at hs1 hs16
    clear hz hzn hzc hzm hzl hE0 hokS hE hgood hsl
    have hat := (H.out.at_ 1 rfl : ArAt b z w4)
    go_wp2_with fail
    refine (alen_any b z.sz.A z.nd.A z.sz.n z.sz.c z.nd.n z.nd.c _ hok.s1 hat.c0 hat.c2).mono ?_; rintro e w5 ⟨rfl, hb5⟩
    replace H := Lib.hid (H.out.bel hb5); (try simp only [List.set_cons_zero, List.set_cons_succ, List.cons_append, List.nil_append, List.eraseIdx_cons_zero, List.eraseIdx_cons_succ, List.setIfInBounds_toArray, World.size_alloc, selR, List.getD_cons_zero, List.getD_cons_succ] at H)
    clear hb5 hat
    go_upto_region 7 with fail
    go_loopg [42] z.nd.n (fun gg s42 wr => ∃ (k : Nat), gg = z.nd.n - k ∧ k ≤ z.nd.n ∧ s42 = .int .i64 k ∧ Hid (SL No w wr [rBlk x 24 s.cs, rAr b z]))
    case atStart => exact ⟨0, rfl, by omega, rfl, H⟩
    case round =>
      clear H
      obtain ⟨k, hgk, hk, rfl, H⟩ := hrel
      have Hgk := Lib.hid hgk
      clear hgk
      by_cases hlt : k < z.nd.n
      · obtain ⟨n0, hn0⟩ : ∃ n0, z.nd.l[k]? = some n0 := ⟨_, List.getElem?_eq_getElem (by rw [HZL.out]; exact hlt)⟩
        have hat := (H.out.at_ 1 rfl : ArAt b z wr)
        have hbd := hat.bd n0 (List.mem_of_getElem? hn0)
        have HN0 := Lib.hid (hat.nd.all n0 (List.mem_of_getElem? hn0) : n0.rd wr)
        have HK0 : Hid ((z.nd.l.map Nd.con)[k]? = some n0.con) := by show _ = _; rw [List.getElem?_map, hn0]; rfl
        have HCALL := Lib.hid (anode_at b z k n0 wr hok hlt hn0 hat.nd hbd.1 hbd.2 hat.c0 hat.c2)
        have HB1 := Lib.hid hbd.1
        have k0 : (0 : Int) ≤ k := by omega
        have k1 : (k : Int) < z.nd.n := by omega
        clear hn0 hat hbd
        go_wp2_with fail
        refine HCALL.out.mono ?_; rintro e w6 ⟨n, rfl, hcon, hln, hbn, hN⟩
        replace H := Lib.hid (H.out.join hN); (try simp only [List.set_cons_zero, List.set_cons_succ, List.cons_append, List.nil_append, List.eraseIdx_cons_zero, List.eraseIdx_cons_succ, List.setIfInBounds_toArray, World.size_alloc, selR, List.getD_cons_zero, List.getD_cons_succ] at H)
        replace H := Lib.hid (H.out.mkNd 2 3 (n := n) (by omega) rfl rfl ⟨by rw [show n.dim = n0.dim from congrArg NC.dim hcon]; exact HN0.out.dim, by rw [show n.all = n0.all from congrArg NC.all hcon]; exact HN0.out.all⟩ (fun y hy => hbn y hy) (by rw [hln]; exact HB1.out)); (try simp only [List.set_cons_zero, List.set_cons_succ, List.cons_append, List.nil_append, List.eraseIdx_cons_zero, List.eraseIdx_cons_succ, List.setIfInBounds_toArray, World.size_alloc, selR, List.getD_cons_zero, List.getD_cons_succ] at H)
        have hgd := HGD.out n0.con (List.mem_of_getElem? HK0.out)
        rw [← hcon] at hgd HK0
        obtain ⟨i0, hi0⟩ : ∃ i0 : Nat, n.dim = i0 := ⟨n.dim.toNat, by have h7 : 0 ≤ n.dim := hgd.1; omega⟩
        have hi1 : i0 < s.sz.n := by have h5 := hgd.2; rw [show n.con.dim = n.dim from rfl, hi0] at h5; omega
        have HNI0 : Hid ((z.nd.l.map Nd.con)[k]? = some n.con ∧ k ≤ k ∧ n.dim = i0) := ⟨HK0.out, Nat.le_refl _, hi0⟩
        have HD0 := Lib.hid hi0
        clear hN HCALL hcon hln hbn HB1 HK0 HN0 hgd hi0
        go_upto_region 10 with ((with_reducible show wpList _ _ _ (⟨_, .store _ (.tmp 10) _, _, _, _, _⟩ :: _) _ _); (refine wpList_store_new rfl rowNd (.tmp 10) (.tmp 49) rfl rfl rfl (n.cs) rfl rfl (nd_one n) ?_; replace H := Lib.hid (H.out.alloc (n.cs) 44); (try simp only [List.set_cons_zero, List.set_cons_succ, List.cons_append, List.nil_append, List.eraseIdx_cons_zero, List.eraseIdx_cons_succ, List.setIfInBounds_toArray, World.size_alloc, selR, List.getD_cons_zero, List.getD_cons_succ] at H)))
        (try simp only [Act.put, List.setIfInBounds_toArray, List.set_cons_zero, List.set_cons_succ])
        generalize w6.heap.size = u at *
        generalize World.alloc w6 _ = w7 at *
        have cd : w7.cell? ⟨u, 0, none⟩ = some (.int .i64 i0) := by rw [← HD0.out]; exact (H.out.blk 3 rfl).cell 0
        replace H := Lib.hid (H.out.sel [0, 1, 3, 2] (by decide) (by simp)); (try simp only [List.set_cons_zero, List.set_cons_succ, List.cons_append, List.nil_append, List.eraseIdx_cons_zero, List.eraseIdx_cons_succ, List.setIfInBounds_toArray, World.size_alloc, selR, List.getD_cons_zero, List.getD_cons_succ] at H)
        go_upto_region 11 with fail
        clear cd HD0
        go_loopg [12] (s.sz.n - i0) (fun gg s12 wx => ∃ (i m : Nat) (n : Nd), gg = s.sz.n - i ∧ i < s.sz.n ∧ s12 = .int .i64 i ∧ Hid ((z.nd.l.map Nd.con)[m]? = some n.con ∧ m ≤ k ∧ n.dim = i) ∧ Hid (SL No w wx [rBlk x 24 s.cs, rAr b z, rBlk u 44 n.cs, rNd n]))
        case atStart => exact ⟨i0, k, n, rfl, hi1, rfl, HNI0, H⟩
        case round =>
          clear H HNI0 hi1
          obtain ⟨i, m, n, hgi, hi, rfl, HNI, H⟩ := hrel
          have Hgi := Lib.hid hgi
          clear hgi
          have cs : wr.cell? ⟨x, 0, none⟩ = some (.slice s.sz.A s.sz.n s.sz.c) := (H.out.blk 0 rfl).cell 0
          by_cases hlast : i + 1 < s.sz.n
          · have d1 : decide ((i : Int) < (s.sz.n : Int) - 1) = true := by simp <;> omega
            have hmem := List.mem_of_getElem? HNI.out.1
            have hmk := HNI.out.2.1
            have HCH := Lib.hid (HGC.out m n.con HNI.out.1 (by rw [show n.con.dim = n.dim from rfl, HNI.out.2.2]; omega))
            have HEA := Lib.hid (reach_any n wr (nd_of_own (H.out.get 3 rfl)) (HSMZ.out n.con hmem))
            have HOK := Lib.hid (nd_cells (nd_of_own (H.out.get 3 rfl)))
            have hM : (eachN n.con).length ≤ 1000000 := by have h := HSMZ.out n.con hmem; unfold eachN; rw [List.length_append]; show _ + 1 ≤ _; omega
            have hM0 : 1 ≤ (eachN n.con).length := by unfold eachN; rw [List.length_append]; show 1 ≤ _ + 1; omega
            have i00 : (0 : Int) ≤ i := by omega
            clear hmem
            go_wp2_with ((with_reducible show wpList _ _ _ (⟨some 61, _, _, _, _, _⟩ :: _) _ _); (refine wpList_load_blk rfl rowNd (.tmp 10) rfl _ rfl (H.out.blk 2 rfl) rfl ?_))
            refine HEA.out.mono ?_; rintro e w7 ⟨A, cp, rfl, hb7, ho7⟩
            replace H := Lib.hid (H.out.addRow hb7 ho7); (try simp only [List.set_cons_zero, List.set_cons_succ, List.cons_append, List.nil_append, List.eraseIdx_cons_zero, List.eraseIdx_cons_succ, List.setIfInBounds_toArray, World.size_alloc, selR, List.getD_cons_zero, List.getD_cons_succ] at H)
            clear hb7 ho7 HEA d1 cs
            obtain ⟨M, hMM⟩ : ∃ M, M = (eachN n.con).length := ⟨_, rfl⟩
            rw [← hMM] at H hM hM0 ⊢
            have HMM := Lib.hid hMM
            clear hMM
            have HCR : Hid (∀ w', SL No w w' [rBlk x 24 s.cs, rAr b z, rBlk u 44 n.cs, rNd n, rRow 42 12 (.slice A M cp) M ((eachN n.con).flatMap Cel.cells)] → (Row.mk A M cp (eachN n.con) : Row Cl).rd w') := fun w' h => Row.ok.rds (own_ok (x := ⟨A, M, cp, eachN n.con⟩) (h.row 4 rfl) HOK.out (by show M * 96 ≤ _; omega))
            by_cases hiw : i < ws.n
            · obtain ⟨bw, ow, v, hAw, hvk, hv64, hvc⟩ := (HWR.out _ H.out.to).intAt (k := i) hiw
              unfold I64 at hv64
              have e1 : decide ((i : Int) < (ws.n : Int)) = true := by simp <;> omega
              have e1n : decide (i < ws.n) = true := by simp <;> omega
              have e2 : (i : Int) < ws.n := by omega
              have HAW := Lib.hid hAw
              rw [hAw]
              clear hvk hAw
              by_cases hv0 : 0 ≤ v
              · have e3 : decide (0 ≤ v) = true := by simpa using hv0
                have hM1 : (0 : Int) < M := by omega
                have hM2 : (M : Int) ≠ 0 := by omega
                obtain ⟨q, hq⟩ : ∃ q : Nat, v % (M : Int) = q := ⟨(v % (M : Int)).toNat, by have := Int.emod_nonneg v hM2; omega⟩
                have hq1 : q < M := by have := Int.emod_lt_of_pos v hM1; omega
                have HQ := Lib.hid hq
                have hz0 : ((M : Int) == 0) = false := by simp; omega
                clear hq
                go_upto_region 17 with fail
                (try rw [HQ.out])
                clear e1 e1n e3 hvc
                rw [← HAW.out]
                obtain ⟨c, hc⟩ : ∃ c, (eachN n.con)[q]? = some c := ⟨_, List.getElem?_eq_getElem (by rw [← HMM.out]; omega)⟩
                obtain ⟨h1, h2, n1, h3, h4⟩ := HCH.out c (List.mem_of_getElem? hc)
                obtain ⟨r, hr⟩ : ∃ r : Nat, c.ch = r := ⟨c.ch.toNat, by omega⟩
                rw [hr, Int.toNat_natCast] at h3
                rw [hr] at h2
                have hrm : r < m := by omega
                have hrk : r < k := by omega
                have hrn : r < z.nd.n := by have h5 := (List.getElem?_eq_some_iff.1 h3).1; rw [List.length_map, HZL.out] at h5; exact h5
                obtain ⟨n', hn'⟩ : ∃ n', z.nd.l[r]? = some n' := ⟨_, List.getElem?_eq_getElem (by rw [HZL.out]; exact hrn)⟩
                have hn1 : n'.con = n1 := by rw [List.getElem?_map, hn'] at h3; injection h3
                obtain ⟨bl, ol, c', hAl, hbl, hck, _, hrg⟩ := (HCR.out _ H.out).clAt (k := q) (show q < M by omega)
                simp only at hAl hck
                obtain rfl : c = c' := by rw [hc] at hck; injection hck
                have cr0 := hrg 1 _ rfl
                have HC1 : Hid (∀ W, Bel w7 W → W.cell? ⟨bl, ol + q * 12 + 1, none⟩ = some (.int .i64 r)) := fun W hb => by rw [← hr]; exact cell_bel hb cr0
                have HA7 := Lib.hid hAl
                have cr := HC1.out _ (Bel.refl _)
                have hat := (H.out.at_ 1 rfl : ArAt b z w7)
                have hbd := hat.bd n' (List.mem_of_getElem? hn')
                have HB1 := Lib.hid hbd.1
                have HN' := Lib.hid (hat.nd.all n' (List.mem_of_getElem? hn'))
                have HR1 : Hid ((z.nd.l.map Nd.con)[r]? = some n'.con ∧ r < m ∧ n'.dim = (i : Int) + 1) := ⟨by rw [List.getElem?_map, hn']; rfl, hrm, by have h5 := congrArg NC.dim hn1; rw [h4] at h5; rw [show n'.dim = n.con.dim + 1 from h5]; show n.dim + 1 = _; rw [HNI.out.2.2]⟩
                have HCALL := Lib.hid (anode_at b z r n' w7 hok hrn hn' hat.nd hbd.1 hbd.2 hat.c0 hat.c2)
                have q0 : (0 : Int) ≤ q := by omega
                have q1 : (q : Int) < M := by omega
                rw [hAl]
                clear hc h1 h2 h3 h4 hr hrm hn' hn1 hAl hck hrg hat hbd hbl cr0
                go_wp2_with fail
                refine HCALL.out.mono ?_; rintro e w8 ⟨n2, rfl, hcon2, hln2, hbn2, hN2⟩
                replace H := Lib.hid (H.out.join hN2); (try simp only [List.set_cons_zero, List.set_cons_succ, List.cons_append, List.nil_append, List.eraseIdx_cons_zero, List.eraseIdx_cons_succ, List.setIfInBounds_toArray, World.size_alloc, selR, List.getD_cons_zero, List.getD_cons_succ] at H)
                have HB7 : Hid (Bel w7 w8) := hN2.to
                have hd2 : n2.dim = (i : Int) + 1 := by rw [show n2.dim = n'.dim from congrArg NC.dim hcon2]; exact HR1.out.2.2
                replace H := Lib.hid (H.out.mkNd 5 6 (n := n2) (by omega) rfl rfl ⟨by rw [show n2.dim = n'.dim from congrArg NC.dim hcon2]; exact HN'.out.dim, by rw [show n2.all = n'.all from congrArg NC.all hcon2]; exact HN'.out.all⟩ (fun y hy => hbn2 y hy) (by rw [hln2]; exact HB1.out)); (try simp only [List.set_cons_zero, List.set_cons_succ, List.cons_append, List.nil_append, List.eraseIdx_cons_zero, List.eraseIdx_cons_succ, List.setIfInBounds_toArray, World.size_alloc, selR, List.getD_cons_zero, List.getD_cons_succ] at H)
                have HR2 : Hid ((z.nd.l.map Nd.con)[r]? = some n2.con ∧ r ≤ k ∧ n2.dim = ((i + 1 : Nat) : Int)) := ⟨by rw [hcon2]; exact HR1.out.1, by have h5 := HR1.out.2.1; have h6 := HNI.out.2.1; omega, by rw [hd2]; omega⟩
                clear hN2 HCALL hcon2 hln2 hbn2 HR1 HN' HB1 cr
                go_upto_region 18 with ((with_reducible show wpList _ _ _ (⟨_, .store _ (.tmp 15) _, _, _, _, _⟩ :: _) _ _); (refine wpList_store_new rfl rowNd (.tmp 15) (.tmp 89) rfl rfl rfl (n2.cs) rfl rfl (nd_one n2) ?_; replace H := Lib.hid (H.out.alloc (n2.cs) 44); (try simp only [List.set_cons_zero, List.set_cons_succ, List.cons_append, List.nil_append, List.eraseIdx_cons_zero, List.eraseIdx_cons_succ, List.setIfInBounds_toArray, World.size_alloc, selR, List.getD_cons_zero, List.getD_cons_succ] at H)))
                (try simp only [Act.put, List.setIfInBounds_toArray, List.set_cons_zero, List.set_cons_succ])
                have HB8 : Hid (Bel w7 (World.alloc w8 (.cells n2.cs 44))) := HB7.out.alloc _
                generalize w8.heap.size = u2 at *
                generalize World.alloc w8 _ = w9 at *
                have cr := HC1.out _ HB8.out
                have cd2 : w9.cell? ⟨u2, 0, none⟩ = some (.int .i64 ((i : Int) + 1)) := by rw [← hd2]; exact (H.out.blk 6 rfl).cell 0
                have f1 : (((i : Int) + 1) != ((i : Int) + 1)) = false := by simp
                have f2 : decide ((k : Int) ≤ (r : Int)) = false := by simp <;> omega
                have f3 : decide (k ≤ r) = false := by simp <;> omega
                clear HB7 HB8 hd2 HC1 hrk
                go_upto_region 20 with fail
                clear cr cd2 f1 f2 f3
                go_wp2_with (first | ((with_reducible show wpList _ _ _ (⟨some 109, _, _, _, _, _⟩ :: _) _ _); (refine wpList_load_blk rfl rowNd (.tmp 15) rfl _ rfl (H.out.blk 6 rfl) rfl ?_)) | ((with_reducible show wpList _ _ _ (⟨_, .store _ (.tmp 10) _, _, _, _, _⟩ :: _) _ _); (refine wpList_store_blk rfl rowNd (.tmp 10) (.tmp 109) rfl _ rfl (H.out.blk 2 rfl) rfl (n2.cs) rfl rfl (nd_one n2) ?_; intro wq bq hgq; replace H := Lib.hid (H.out.setBlk 2 rfl hgq bq); (try simp only [List.set_cons_zero, List.set_cons_succ, List.cons_append, List.nil_append, List.eraseIdx_cons_zero, List.eraseIdx_cons_succ, List.setIfInBounds_toArray, World.size_alloc, selR, List.getD_cons_zero, List.getD_cons_succ] at H); clear hgq bq)))
                replace H := Lib.hid (H.out.sel [0, 1, 2, 5] (by decide) (by simp)); (try simp only [List.set_cons_zero, List.set_cons_succ, List.cons_append, List.nil_append, List.eraseIdx_cons_zero, List.eraseIdx_cons_succ, List.setIfInBounds_toArray, World.size_alloc, selR, List.getD_cons_zero, List.getD_cons_succ] at H)
                go_roundg (s.sz.n - (i + 1))
                case rel => exact ⟨i + 1, r, n2, rfl, by omega, by go_num, HR2, H⟩
                case measure => rw [Hgi.out]; omega
              · have e3 : decide (0 ≤ v) = false := by simpa using hv0
                go_upto_region 17 with fail
                clear e1 e1n e3 hvc
                rw [← HAW.out]
                obtain ⟨c, hc⟩ : ∃ c, (eachN n.con)[(0 : Nat)]? = some c := ⟨_, List.getElem?_eq_getElem (by rw [← HMM.out]; omega)⟩
                obtain ⟨h1, h2, n1, h3, h4⟩ := HCH.out c (List.mem_of_getElem? hc)
                obtain ⟨r, hr⟩ : ∃ r : Nat, c.ch = r := ⟨c.ch.toNat, by omega⟩
                rw [hr, Int.toNat_natCast] at h3
                rw [hr] at h2
                have hrm : r < m := by omega
                have hrk : r < k := by omega
                have hrn : r < z.nd.n := by have h5 := (List.getElem?_eq_some_iff.1 h3).1; rw [List.length_map, HZL.out] at h5; exact h5
                obtain ⟨n', hn'⟩ : ∃ n', z.nd.l[r]? = some n' := ⟨_, List.getElem?_eq_getElem (by rw [HZL.out]; exact hrn)⟩
                have hn1 : n'.con = n1 := by rw [List.getElem?_map, hn'] at h3; injection h3
                obtain ⟨bl, ol, c', hAl, hbl, hck, _, hrg⟩ := (HCR.out _ H.out).clAt (k := (0 : Nat)) (show (0 : Nat) < M by omega)
                simp only at hAl hck
                obtain rfl : c = c' := by rw [hc] at hck; injection hck
                have cr0 := hrg 1 _ rfl
                have HC1 : Hid (∀ W, Bel w7 W → W.cell? ⟨bl, ol + 1, none⟩ = some (.int .i64 r)) := fun W hb => by rw [← hr]; exact cell_bel hb cr0
                have HA7 := Lib.hid hAl
                have cr := HC1.out _ (Bel.refl _)
                have hat := (H.out.at_ 1 rfl : ArAt b z w7)
                have hbd := hat.bd n' (List.mem_of_getElem? hn')
                have HB1 := Lib.hid hbd.1
                have HN' := Lib.hid (hat.nd.all n' (List.mem_of_getElem? hn'))
                have HR1 : Hid ((z.nd.l.map Nd.con)[r]? = some n'.con ∧ r < m ∧ n'.dim = (i : Int) + 1) := ⟨by rw [List.getElem?_map, hn']; rfl, hrm, by have h5 := congrArg NC.dim hn1; rw [h4] at h5; rw [show n'.dim = n.con.dim + 1 from h5]; show n.dim + 1 = _; rw [HNI.out.2.2]⟩
                have HCALL := Lib.hid (anode_at b z r n' w7 hok hrn hn' hat.nd hbd.1 hbd.2 hat.c0 hat.c2)
                have q0 : (0 : Int) ≤ 0 := by omega
                have q1 : (0 : Int) < M := by omega
                rw [hAl]
                clear hc h1 h2 h3 h4 hr hrm hn' hn1 hAl hck hrg hat hbd hbl cr0
                go_wp2_with fail
                refine HCALL.out.mono ?_; rintro e w8 ⟨n2, rfl, hcon2, hln2, hbn2, hN2⟩
                replace H := Lib.hid (H.out.join hN2); (try simp only [List.set_cons_zero, List.set_cons_succ, List.cons_append, List.nil_append, List.eraseIdx_cons_zero, List.eraseIdx_cons_succ, List.setIfInBounds_toArray, World.size_alloc, selR, List.getD_cons_zero, List.getD_cons_succ] at H)
                have HB7 : Hid (Bel w7 w8) := hN2.to
                have hd2 : n2.dim = (i : Int) + 1 := by rw [show n2.dim = n'.dim from congrArg NC.dim hcon2]; exact HR1.out.2.2
                replace H := Lib.hid (H.out.mkNd 5 6 (n := n2) (by omega) rfl rfl ⟨by rw [show n2.dim = n'.dim from congrArg NC.dim hcon2]; exact HN'.out.dim, by rw [show n2.all = n'.all from congrArg NC.all hcon2]; exact HN'.out.all⟩ (fun y hy => hbn2 y hy) (by rw [hln2]; exact HB1.out)); (try simp only [List.set_cons_zero, List.set_cons_succ, List.cons_append, List.nil_append, List.eraseIdx_cons_zero, List.eraseIdx_cons_succ, List.setIfInBounds_toArray, World.size_alloc, selR, List.getD_cons_zero, List.getD_cons_succ] at H)
                have HR2 : Hid ((z.nd.l.map Nd.con)[r]? = some n2.con ∧ r ≤ k ∧ n2.dim = ((i + 1 : Nat) : Int)) := ⟨by rw [hcon2]; exact HR1.out.1, by have h5 := HR1.out.2.1; have h6 := HNI.out.2.1; omega, by rw [hd2]; omega⟩
                clear hN2 HCALL hcon2 hln2 hbn2 HR1 HN' HB1 cr
                go_upto_region 18 with ((with_reducible show wpList _ _ _ (⟨_, .store _ (.tmp 15) _, _, _, _, _⟩ :: _) _ _); (refine wpList_store_new rfl rowNd (.tmp 15) (.tmp 89) rfl rfl rfl (n2.cs) rfl rfl (nd_one n2) ?_; replace H := Lib.hid (H.out.alloc (n2.cs) 44); (try simp only [List.set_cons_zero, List.set_cons_succ, List.cons_append, List.nil_append, List.eraseIdx_cons_zero, List.eraseIdx_cons_succ, List.setIfInBounds_toArray, World.size_alloc, selR, List.getD_cons_zero, List.getD_cons_succ] at H)))
                (try simp only [Act.put, List.setIfInBounds_toArray, List.set_cons_zero, List.set_cons_succ])
                have HB8 : Hid (Bel w7 (World.alloc w8 (.cells n2.cs 44))) := HB7.out.alloc _
                generalize w8.heap.size = u2 at *
                generalize World.alloc w8 _ = w9 at *
                have cr := HC1.out _ HB8.out
                have cd2 : w9.cell? ⟨u2, 0, none⟩ = some (.int .i64 ((i : Int) + 1)) := by rw [← hd2]; exact (H.out.blk 6 rfl).cell 0
                have f1 : (((i : Int) + 1) != ((i : Int) + 1)) = false := by simp
                have f2 : decide ((k : Int) ≤ (r : Int)) = false := by simp <;> omega
                have f3 : decide (k ≤ r) = false := by simp <;> omega
                clear HB7 HB8 hd2 HC1 hrk
                go_upto_region 20 with fail
                clear cr cd2 f1 f2 f3
                go_wp2_with (first | ((with_reducible show wpList _ _ _ (⟨some 109, _, _, _, _, _⟩ :: _) _ _); (refine wpList_load_blk rfl rowNd (.tmp 15) rfl _ rfl (H.out.blk 6 rfl) rfl ?_)) | ((with_reducible show wpList _ _ _ (⟨_, .store _ (.tmp 10) _, _, _, _, _⟩ :: _) _ _); (refine wpList_store_blk rfl rowNd (.tmp 10) (.tmp 109) rfl _ rfl (H.out.blk 2 rfl) rfl (n2.cs) rfl rfl (nd_one n2) ?_; intro wq bq hgq; replace H := Lib.hid (H.out.setBlk 2 rfl hgq bq); (try simp only [List.set_cons_zero, List.set_cons_succ, List.cons_append, List.nil_append, List.eraseIdx_cons_zero, List.eraseIdx_cons_succ, List.setIfInBounds_toArray, World.size_alloc, selR, List.getD_cons_zero, List.getD_cons_succ] at H); clear hgq bq)))
                replace H := Lib.hid (H.out.sel [0, 1, 2, 5] (by decide) (by simp)); (try simp only [List.set_cons_zero, List.set_cons_succ, List.cons_append, List.nil_append, List.eraseIdx_cons_zero, List.eraseIdx_cons_succ, List.setIfInBounds_toArray, World.size_alloc, selR, List.getD_cons_zero, List.getD_cons_succ] at H)
                go_roundg (s.sz.n - (i + 1))
                case rel => exact ⟨i + 1, r, n2, rfl, by omega, by go_num, HR2, H⟩
                case measure => rw [Hgi.out]; omega
            · have e1 : decide ((i : Int) < (ws.n : Int)) = false := by simp <;> omega
              have e1n : decide (i < ws.n) = false := by simp <;> omega
              go_upto_region 17 with fail
              clear e1 e1n
              obtain ⟨c, hc⟩ : ∃ c, (eachN n.con)[(0 : Nat)]? = some c := ⟨_, List.getElem?_eq_getElem (by rw [← HMM.out]; omega)⟩
              obtain ⟨h1, h2, n1, h3, h4⟩ := HCH.out c (List.mem_of_getElem? hc)
              obtain ⟨r, hr⟩ : ∃ r : Nat, c.ch = r := ⟨c.ch.toNat, by omega⟩
              rw [hr, Int.toNat_natCast] at h3
              rw [hr] at h2
              have hrm : r < m := by omega
              have hrk : r < k := by omega
              have hrn : r < z.nd.n := by have h5 := (List.getElem?_eq_some_iff.1 h3).1; rw [List.length_map, HZL.out] at h5; exact h5
              obtain ⟨n', hn'⟩ : ∃ n', z.nd.l[r]? = some n' := ⟨_, List.getElem?_eq_getElem (by rw [HZL.out]; exact hrn)⟩
              have hn1 : n'.con = n1 := by rw [List.getElem?_map, hn'] at h3; injection h3
              obtain ⟨bl, ol, c', hAl, hbl, hck, _, hrg⟩ := (HCR.out _ H.out).clAt (k := (0 : Nat)) (show (0 : Nat) < M by omega)
              simp only at hAl hck
              obtain rfl : c = c' := by rw [hc] at hck; injection hck
              have cr0 := hrg 1 _ rfl
              have HC1 : Hid (∀ W, Bel w7 W → W.cell? ⟨bl, ol + 1, none⟩ = some (.int .i64 r)) := fun W hb => by rw [← hr]; exact cell_bel hb cr0
              have HA7 := Lib.hid hAl
              have cr := HC1.out _ (Bel.refl _)
              have hat := (H.out.at_ 1 rfl : ArAt b z w7)
              have hbd := hat.bd n' (List.mem_of_getElem? hn')
              have HB1 := Lib.hid hbd.1
              have HN' := Lib.hid (hat.nd.all n' (List.mem_of_getElem? hn'))
              have HR1 : Hid ((z.nd.l.map Nd.con)[r]? = some n'.con ∧ r < m ∧ n'.dim = (i : Int) + 1) := ⟨by rw [List.getElem?_map, hn']; rfl, hrm, by have h5 := congrArg NC.dim hn1; rw [h4] at h5; rw [show n'.dim = n.con.dim + 1 from h5]; show n.dim + 1 = _; rw [HNI.out.2.2]⟩
              have HCALL := Lib.hid (anode_at b z r n' w7 hok hrn hn' hat.nd hbd.1 hbd.2 hat.c0 hat.c2)
              have q0 : (0 : Int) ≤ 0 := by omega
              have q1 : (0 : Int) < M := by omega
              rw [hAl]
              clear hc h1 h2 h3 h4 hr hrm hn' hn1 hAl hck hrg hat hbd hbl cr0
              go_wp2_with fail
              refine HCALL.out.mono ?_; rintro e w8 ⟨n2, rfl, hcon2, hln2, hbn2, hN2⟩
              replace H := Lib.hid (H.out.join hN2); (try simp only [List.set_cons_zero, List.set_cons_succ, List.cons_append, List.nil_append, List.eraseIdx_cons_zero, List.eraseIdx_cons_succ, List.setIfInBounds_toArray, World.size_alloc, selR, List.getD_cons_zero, List.getD_cons_succ] at H)
              have HB7 : Hid (Bel w7 w8) := hN2.to
              have hd2 : n2.dim = (i : Int) + 1 := by rw [show n2.dim = n'.dim from congrArg NC.dim hcon2]; exact HR1.out.2.2
              replace H := Lib.hid (H.out.mkNd 5 6 (n := n2) (by omega) rfl rfl ⟨by rw [show n2.dim = n'.dim from congrArg NC.dim hcon2]; exact HN'.out.dim, by rw [show n2.all = n'.all from congrArg NC.all hcon2]; exact HN'.out.all⟩ (fun y hy => hbn2 y hy) (by rw [hln2]; exact HB1.out)); (try simp only [List.set_cons_zero, List.set_cons_succ, List.cons_append, List.nil_append, List.eraseIdx_cons_zero, List.eraseIdx_cons_succ, List.setIfInBounds_toArray, World.size_alloc, selR, List.getD_cons_zero, List.getD_cons_succ] at H)
              have HR2 : Hid ((z.nd.l.map Nd.con)[r]? = some n2.con ∧ r ≤ k ∧ n2.dim = ((i + 1 : Nat) : Int)) := ⟨by rw [hcon2]; exact HR1.out.1, by have h5 := HR1.out.2.1; have h6 := HNI.out.2.1; omega, by rw [hd2]; omega⟩
              clear hN2 HCALL hcon2 hln2 hbn2 HR1 HN' HB1 cr
              go_upto_region 18 with ((with_reducible show wpList _ _ _ (⟨_, .store _ (.tmp 15) _, _, _, _, _⟩ :: _) _ _); (refine wpList_store_new rfl rowNd (.tmp 15) (.tmp 89) rfl rfl rfl (n2.cs) rfl rfl (nd_one n2) ?_; replace H := Lib.hid (H.out.alloc (n2.cs) 44); (try simp only [List.set_cons_zero, List.set_cons_succ, List.cons_append, List.nil_append, List.eraseIdx_cons_zero, List.eraseIdx_cons_succ, List.setIfInBounds_toArray, World.size_alloc, selR, List.getD_cons_zero, List.getD_cons_succ] at H)))
              (try simp only [Act.put, List.setIfInBounds_toArray, List.set_cons_zero, List.set_cons_succ])
              have HB8 : Hid (Bel w7 (World.alloc w8 (.cells n2.cs 44))) := HB7.out.alloc _
              generalize w8.heap.size = u2 at *
              generalize World.alloc w8 _ = w9 at *
              have cr := HC1.out _ HB8.out
              have cd2 : w9.cell? ⟨u2, 0, none⟩ = some (.int .i64 ((i : Int) + 1)) := by rw [← hd2]; exact (H.out.blk 6 rfl).cell 0
              have f1 : (((i : Int) + 1) != ((i : Int) + 1)) = false := by simp
              have f2 : decide ((k : Int) ≤ (r : Int)) = false := by simp <;> omega
              have f3 : decide (k ≤ r) = false := by simp <;> omega
              clear HB7 HB8 hd2 HC1 hrk
              go_upto_region 20 with fail
              clear cr cd2 f1 f2 f3
              go_wp2_with (first | ((with_reducible show wpList _ _ _ (⟨some 109, _, _, _, _, _⟩ :: _) _ _); (refine wpList_load_blk rfl rowNd (.tmp 15) rfl _ rfl (H.out.blk 6 rfl) rfl ?_)) | ((with_reducible show wpList _ _ _ (⟨_, .store _ (.tmp 10) _, _, _, _, _⟩ :: _) _ _); (refine wpList_store_blk rfl rowNd (.tmp 10) (.tmp 109) rfl _ rfl (H.out.blk 2 rfl) rfl (n2.cs) rfl rfl (nd_one n2) ?_; intro wq bq hgq; replace H := Lib.hid (H.out.setBlk 2 rfl hgq bq); (try simp only [List.set_cons_zero, List.set_cons_succ, List.cons_append, List.nil_append, List.eraseIdx_cons_zero, List.eraseIdx_cons_succ, List.setIfInBounds_toArray, World.size_alloc, selR, List.getD_cons_zero, List.getD_cons_succ] at H); clear hgq bq)))
              replace H := Lib.hid (H.out.sel [0, 1, 2, 5] (by decide) (by simp)); (try simp only [List.set_cons_zero, List.set_cons_succ, List.cons_append, List.nil_append, List.eraseIdx_cons_zero, List.eraseIdx_cons_succ, List.setIfInBounds_toArray, World.size_alloc, selR, List.getD_cons_zero, List.getD_cons_succ] at H)
              go_roundg (s.sz.n - (i + 1))
              case rel => exact ⟨i + 1, r, n2, rfl, by omega, by go_num, HR2, H⟩
              case measure => rw [Hgi.out]; omega
          · have d1 : decide ((i : Int) < (s.sz.n : Int) - 1) = false := by simp <;> omega
            replace H := Lib.hid (H.out.sel [0, 1] (by decide) (by simp)); (try simp only [List.set_cons_zero, List.set_cons_succ, List.cons_append, List.nil_append, List.eraseIdx_cons_zero, List.eraseIdx_cons_succ, List.setIfInBounds_toArray, World.size_alloc, selR, List.getD_cons_zero, List.getD_cons_succ] at H)
            go_wp2_with fail
            clear d1 cs
            go_roundg (z.nd.n - (k + 1))
            case rel => exact ⟨k + 1, rfl, by omega, by go_num, H⟩
            case measure => rw [Hgk.out]; omega
      · obtain rfl : k = z.nd.n := by omega
        go_wp2_with fail
        refine (awake25_any _).mono ?_; rintro e wz ⟨rfl, hbz⟩
        replace H := Lib.hid (H.out.bel hbz)
        go_wp2_with fail
        go_ret
        exact ⟨rfl, H.out.to⟩

end Go.Proofs.Ytjiphfobengdlaa
