/- stream.Write. -/
import Derived.Test.YtlclllkjnhgbjaaSwrA
import Derived.Test.YtlclllkjnhgbjaaWrt
import Derived.Test.YtlclllkjnhgbjaaMovB
import Derived.Test.YtlclllkjnhgbjaaAreQ
import Derived.Test.YtlclllkjnhgbjaaAreX
namespace Go.Proofs.Ytlclllkjnhgbjaa
open Go.RowKit
set_option linter.unusedVariables false
set_option linter.unusedSimpArgs false


/-- What Write answers. -/
def swVal (nd : Nat) (ms : Int) (l : List NC) (most : Int) : Value :=
  if wholeC nd l = false then .tuple #[.string ⟨#[]⟩, .int .i64 0, .int .i64 2]
  else if max most 0 < ((pwrite nd ms l).2.length : Int) then .tuple #[.string ⟨#[]⟩, .int .i64 0, .int .i64 7]
  else .tuple #[.string ⟨(pwrite nd ms l).2.toArray⟩, .int .i64 (wtop (pwrite nd ms l).1), .int .i64 0]
set_option maxRecDepth 100000 in
set_option maxHeartbeats 4000000 in
theorem swrite_any (a : Nat) (z : Arn) (most : Int) (w : World) (ok : z.ok) (ha : ArAt a z w) (hok : shapeOk z.shp.con z.ms = true) (hg : GoodN z.shp.con z.ms (z.nd.l.map Nd.con)) (hn15 : z.nd.n ≤ 2000) (hsm : ∀ n ∈ z.nd.l, SmN n) (hm64 : I64 most) :
    Calls Try.prog 26 #[.pointer (some ⟨a, 0, none⟩), .int .i64 most] w fun e w' => e = .returned (swVal z.sz.n z.ms (z.nd.l.map Nd.con) most) ∧ Bel w w' := by
  have hzl : z.shp.con.length = z.sz.n := by rw [List.length_map]; exact ha.shp.sz.len
  have HMS := (shape_ms hok).2.2.1
  have HAT := Lib.hid (fun w' (hb : Bel w w') => ha.mono hb)
  have HRD := Lib.hid (fun n hn => (ha.nd.all n hn : n.rd w))
  have HZN : Hid (z.nd.l.length = z.nd.n) := ha.nd.len
  have HWH := Lib.hid (fun w' (hb : Bel w w') => awhole_any a z w' ok (ha.mono hb) hg (fun n hn => (hsm n hn).t))
  have HSH := Lib.hid (fun w' (hb : Bel w w') => ashape_own a z w' ok (ha.mono hb))
  have HND := Lib.hid (fun w' (hb : Bel w w') => anodes_own a z w' ok (ha.mono hb))
  have HMK := Lib.hid (fun (k : Nat) (n : NC) (st : List Int) (m : Nat) (hk : (z.nd.l.map Nd.con)[k]? = some n) (hst : StOk st m) (hle : st.length = k) => moved_ok hok hg hk hst hle)
  have HSM := Lib.hid hsm
  unfold I64 at hm64
  obtain ⟨NL, hNL⟩ : ∃ NL, NL = z.nd.l.map Nd.con := ⟨_, rfl⟩
  obtain ⟨RV, hRV⟩ : ∃ RV, RV = swVal z.sz.n z.ms (z.nd.l.map Nd.con) most := ⟨_, rfl⟩
  obtain ⟨M, hM⟩ : ∃ M, M = max most 0 := ⟨_, rfl⟩
  rw [← hRV]
  rw [hzl, ← hNL] at HMK
  rw [← hNL] at hRV HWH HND
  have hNn : NL.length = z.nd.n := by rw [hNL, List.length_map]; exact HZN.out
  unfold swVal at hRV
  rw [← hM] at hRV
  have HRV0 := Lib.hid hRV
  have HM0 : 0 ≤ M ∧ M ≤ 9223372036854775807 := by rw [hM]; omega
  have HMM := Lib.hid hM
  have HNL := Lib.hid hNL
  have H := Lib.hid (SL.start No w)
  have hfld : ∀ (x y : Value) (w : World), (Instr.field 24 (.agg #[x, y]) 1).run Try.prog w = .ok y w := fun _ _ _ => by kernel_rfl
  clear ha hok hg hsm hzl hRV hNL hM
  go_enter Try.func26, Try.ntmps26
  go_wp2_with fail
  refine (HSH.out _ H.out.to).mono ?_; rintro e w1 ⟨s1, rfl, _, hm1, hS1⟩
  replace H := Lib.hid (H.out.bel hS1.to); (try simp only [List.set_cons_zero, List.set_cons_succ, List.cons_append, List.nil_append, List.eraseIdx_cons_zero, List.eraseIdx_cons_succ, List.setIfInBounds_toArray, World.size_alloc, selR, List.getD_cons_zero, List.getD_cons_succ] at H)
  have d1 : (s1.ms == 0) = false := by rw [hm1]; simp; omega
  clear hm1 hS1
  go_wp2_with fail
  refine (HWH.out _ H.out.to).mono ?_; rintro e w2 ⟨rfl, hb2⟩
  replace H := Lib.hid (H.out.bel hb2); (try simp only [List.set_cons_zero, List.set_cons_succ, List.cons_append, List.nil_append, List.eraseIdx_cons_zero, List.eraseIdx_cons_succ, List.setIfInBounds_toArray, World.size_alloc, selR, List.getD_cons_zero, List.getD_cons_succ] at H)
  clear hb2 HWH d1
  cases hwh : wholeC z.sz.n NL with
  | false =>
    have HV : Hid (RV = .tuple #[.string ⟨#[]⟩, .int .i64 0, .int .i64 2]) := by show _ = _; rw [HRV0.out, if_pos hwh]
    go_wp2_with fail
    go_ret3
    rw [HV.out]
    exact ⟨rfl, H.out.to⟩
  | true =>
  have HRV : Hid (RV = if M < ((pwrite z.sz.n z.ms NL).2.length : Int) then .tuple #[.string ⟨#[]⟩, .int .i64 0, .int .i64 7] else .tuple #[.string ⟨(pwrite z.sz.n z.ms NL).2.toArray⟩, .int .i64 (wtop (pwrite z.sz.n z.ms NL).1), .int .i64 0]) := by show _ = _; rw [HRV0.out, if_neg (by rw [hwh]; simp)]
  clear HRV0 hwh
  go_wp2_with fail
  refine (HSH.out _ H.out.to).mono ?_; rintro e w3 ⟨s, rfl, hsc, hsm, hS3⟩
  replace H := Lib.hid (H.out.join hS3); (try simp only [List.set_cons_zero, List.set_cons_succ, List.cons_append, List.nil_append, List.eraseIdx_cons_zero, List.eraseIdx_cons_succ, List.setIfInBounds_toArray, World.size_alloc, selR, List.getD_cons_zero, List.getD_cons_succ] at H)
  have hsr : s.rd w3 := H.out.at_ 0 rfl
  have hsn : s.sz.n = z.sz.n := by have h := congrArg List.length hsc; rw [List.length_map, List.length_map] at h; have h1 := hsr.sz.len; have h2 := (HAT.out _ (Bel.refl _)).shp.sz.len; show s.sz.n = _; have h3 : z.shp.sz.l.length = z.sz.n := h2; omega
  rw [← hsn, ← hsm] at HRV
  rw [← hsc, ← hsn, ← hsm] at HMK
  have hssl : s.con.length = s.sz.n := by rw [List.length_map]; exact hsr.sz.len
  have hmf : ∀ (fn : Fn) (first cap : Array Value) (w : World), (Instr.makeFunc fn first cap).run Try.prog w = .ok (.func fn first cap) w := fun _ _ _ _ => rfl
  have hcs : s.cs = #[.slice s.sz.A s.sz.n s.sz.c, .int .i64 s.ms] := rfl
  have HCS := Lib.hid hcs
  clear hcs hsr hS3 hsc hsm
  go_upto_region 6 with ((with_reducible show wpList _ _ _ (⟨_, .store _ (.tmp 7) _, _, _, _, _⟩ :: _) _ _); (refine wpList_store_new rfl rowShp2 (.tmp 7) (.tmp 24) rfl rfl rfl (s.cs) rfl rfl (shp_one s) ?_; replace H := Lib.hid (H.out.alloc (s.cs) 24); (try simp only [List.set_cons_zero, List.set_cons_succ, List.cons_append, List.nil_append, List.eraseIdx_cons_zero, List.eraseIdx_cons_succ, List.setIfInBounds_toArray, World.size_alloc, selR, List.getD_cons_zero, List.getD_cons_succ] at H)))
  (try simp only [Act.put, List.setIfInBounds_toArray, List.set_cons_zero, List.set_cons_succ])
  generalize w3.heap.size = x at *
  generalize World.alloc w3 _ = w4 at *
  replace H := Lib.hid ((H.out.alloc #[.slice none 0 0] 59).alloc #[.pointer none, .slice none 0 0] 105); (try simp only [List.set_cons_zero, List.set_cons_succ, List.cons_append, List.nil_append, List.eraseIdx_cons_zero, List.eraseIdx_cons_succ, List.setIfInBounds_toArray, World.size_alloc, selR, List.getD_cons_zero, List.getD_cons_succ] at H)
  have hmx : max most 0 = M := HMM.out.symm
  go_upto_region 11 with fail
  clear hmf hmx
  generalize w4.heap.size + 1 = bb at *
  generalize w4.heap.size = g at *
  generalize World.alloc (World.alloc w4 _) _ = w5 at *
  replace H := Lib.hid (H.out.addNil 5 1); (try simp only [List.set_cons_zero, List.set_cons_succ, List.cons_append, List.nil_append, List.eraseIdx_cons_zero, List.eraseIdx_cons_succ, List.setIfInBounds_toArray, World.size_alloc, selR, List.getD_cons_zero, List.getD_cons_succ] at H)
  replace H := Lib.hid (H.out.addNil 3 1); (try simp only [List.set_cons_zero, List.set_cons_succ, List.cons_append, List.nil_append, List.eraseIdx_cons_zero, List.eraseIdx_cons_succ, List.setIfInBounds_toArray, World.size_alloc, selR, List.getD_cons_zero, List.getD_cons_succ] at H)
  replace H := Lib.hid (H.out.sel [3, 4, 1, 2, 5, 0] (by decide) (by simp)); (try simp only [List.set_cons_zero, List.set_cons_succ, List.cons_append, List.nil_append, List.eraseIdx_cons_zero, List.eraseIdx_cons_succ, List.setIfInBounds_toArray, World.size_alloc, selR, List.getD_cons_zero, List.getD_cons_succ] at H)
  go_wp2_with fail
  refine (HND.out _ H.out.to).mono ?_; rintro e w6 ⟨l, rfl, hlc, hS6⟩
  replace H := Lib.hid (H.out.join hS6); (try simp only [List.set_cons_zero, List.set_cons_succ, List.cons_append, List.nil_append, List.eraseIdx_cons_zero, List.eraseIdx_cons_succ, List.setIfInBounds_toArray, World.size_alloc, selR, List.getD_cons_zero, List.getD_cons_succ] at H)
  have hlr : l.rd w6 := H.out.at_ 6 rfl
  have hll : Hid (l.l.length = l.n) := hlr.len
  have hln : l.n = z.nd.n := by have h := congrArg List.length hlc; rw [List.length_map] at h; have h2 := hll.out; omega
  have HLC := Lib.hid hlc
  have HSML : Hid (∀ n ∈ l.l, SmN n) := fun n hn => by
    have h1 : n.con ∈ z.nd.l.map Nd.con := by rw [← HNL.out, ← hlc]; exact List.mem_map.2 ⟨n, hn, rfl⟩
    obtain ⟨m, hm, hmc⟩ := List.mem_map.1 h1
    exact smN_con (HSM.out m hm) (HRD.out m hm) (hlr.all n hn : n.rd w6) hmc.symm
  have HR : Hid (pwrite s.sz.n s.ms NL = wsteps s.sz.n s.ms (NL.drop 0) [] []) := rfl
  have l63 := hlr.n63
  clear hlc hlr hS6
  go_upto_region 12 with fail
  go_loopg [11, 14, 15, 31] l.n (fun gg s11 s14 s15 s31 wr => ∃ (k : Nat) (st : List Int) (out : List UInt8) (A : Option Addr) (c : Nat) (B : Option Addr) (bc : Nat) (p : Value), gg = l.n - k ∧ k ≤ l.n ∧ s11 = .int .i64 (wtop st) ∧ s31 = .int .i64 k ∧ BldP bb p ∧ (out = [] → B = none ∧ bc = 0) ∧ Hid (st.length = k) ∧ Hid (StOk st out.length) ∧ out.length ≤ 73716 * k ∧ (out.length : Int) ≤ M ∧ Hid (pwrite s.sz.n s.ms NL = wsteps s.sz.n s.ms (NL.drop k) st out) ∧ Hid (SL No w wr [rBlk bb 105 #[p, .slice B out.length bc], rRow 5 1 (.slice B out.length bc) out.length (Lib.byteCells out), rBlk x 24 s.cs, rBlk g 59 #[.slice A k c], rRow 3 1 (.slice A k c) k (st.map (Value.int .i64)), rSh s, rNds l]))
  case atStart => exact ⟨0, [], [], none, 0, none, 0, .pointer none, rfl, by omega, rfl, rfl, .inl rfl, fun _ => ⟨rfl, rfl⟩, rfl, StOk.nil, by simp, HM0.1, HR, H⟩
  case round =>
    clear H HR
    obtain ⟨k, st, out, A, c, B, bc, p, hgk, hk, rfl, rfl, hbp, hbn, hst, HST0, hout, houtM, HR, H⟩ := hrel
    have Hgk := Lib.hid hgk
    clear hgk
    by_cases hlt : k < l.n
    · obtain ⟨bl, ol, n, hAl, hbl, hnk, hnr, hrg⟩ := (H.out.at_ 6 rfl : l.rd wr).ndAt (k := k) hlt
      have hnm := List.mem_of_getElem? hnk
      have hkc : NL[k]? = some n.con := by rw [← HLC.out, List.getElem?_map, hnk]; rfl
      have HNM := Lib.hid hnm
      have HNB : Hid (n.ls.n ≤ 1000000 ∧ ∀ y ∈ n.ls.l, y.n ≤ 1000000) := ⟨(HSML.out n hnm).a, (HSML.out n hnm).b⟩
      have HST : Hid (st.length = k ∧ StOk st out.length) := ⟨hst.out, HST0.out⟩
      have HBP := Lib.hid hbp
      have hmo := HMK.out k n.con st out.length hkc HST0.out hst.out
      have HMO := Lib.hid hmo
      have hR2 := HR.out.trans (wsteps_drop hkc st out)
      obtain ⟨b, hb⟩ : ∃ b, b = nodePut s.sz.n s.ms (moveC s.sz.n (plc st) n.con) := ⟨_, rfl⟩
      rw [← hb] at hR2
      have hbl2 : 1 ≤ b.length ∧ b.length ≤ 73716 := by rw [hb]; exact hmo.2.1
      have HBB := Lib.hid hb
      have HR2 := Lib.hid hR2
      have HST2 : Hid (StOk (st ++ [(out.length : Int)]) (out ++ b).length) := HST0.out.snoc (by rw [List.length_append]; omega)
      have hz64 := stOk_i64 HST0.out (by omega)
      have HFC : Hid (∀ W, SL No w W [rBlk bb 105 #[p, .slice B out.length bc], rRow 5 1 (.slice B out.length bc) out.length (Lib.byteCells out), rBlk x 24 s.cs, rBlk g 59 #[.slice A k c], rRow 3 1 (.slice A k c) k (st.map (Value.int .i64)), rSh s, rNds l] → n.dim ≠ (s.sz.n : Int) - 1 → ∀ q ∈ eachN n.con, I64 (plc st q.ch) ∧ ∀ w', Bel W w' → Calls Try.prog 54 #[.int .i64 q.ch, .pointer (some ⟨g, 0, none⟩)] w' fun e w2 => e = .returned (.int .i64 (plc st q.ch)) ∧ Bel w' w2) := fun W hS hd q hq => by
        obtain ⟨h0, h1⟩ := HMO.out.2.2.2 hd q hq
        refine ⟨hz64 _ (plc_mem h0 (by rw [hst.out]; exact h1)), fun w' hb' => ?_⟩
        obtain ⟨i, hi⟩ : ∃ i : Nat, q.ch = i := ⟨q.ch.toNat, by omega⟩
        rw [hi]
        have hS' := hS.bel hb'
        exact swstart_any g A k c st i w' ((hS'.blk 3 rfl).cell 0) ⟨by show Rd _ _ _ _ (st.flatMap _); rw [flat_ints]; exact Rd.of_own (hS'.row 4 rfl), hz64, by show k ≤ _; omega⟩ (by omega)
      have HRG := Lib.hid hrg
      have HAL := Lib.hid hAl
      have k0 : (0 : Int) ≤ k := by omega
      have k1 : (k : Int) < l.n := by omega
      have hlb : out.length + b.length ≤ 200000000 := by omega
      rw [hAl]
      clear hnk hnr hrg hAl hnm hkc hmo hR2 hb hz64 HR hst HST0 hbp hbn
      go_upto_region 14 with (first | ((with_reducible show wpList _ _ _ (⟨some 34, _, _, _, _, _⟩ :: _) _ _); (refine wpList_load_row_at rfl rowNd (.tmp 33) rfl bl (ol + k * 14) rfl n.cs rfl HRG.out ?_)) | ((with_reducible show wpList _ _ _ (⟨_, .store _ (.tmp 13) _, _, _, _, _⟩ :: _) _ _); (refine wpList_store_new rfl rowNd (.tmp 13) (.tmp 34) rfl rfl rfl (n.cs) rfl rfl (nd_one n) ?_; replace H := Lib.hid (H.out.alloc (n.cs) 34); (try simp only [List.set_cons_zero, List.set_cons_succ, List.cons_append, List.nil_append, List.eraseIdx_cons_zero, List.eraseIdx_cons_succ, List.setIfInBounds_toArray, World.size_alloc, selR, List.getD_cons_zero, List.getD_cons_succ] at H))))
      (try simp only [Act.put, List.setIfInBounds_toArray, List.set_cons_zero, List.set_cons_succ])
      clear HRG hbl
      generalize wr.heap.size = u at *
      generalize World.alloc wr _ = w7 at *
      refine wp_region_held_drew (S := fun W => Blk W x 24 s.cs ∧ Blk W u 34 n.cs) (by kernel_rfl) ⟨H.out.blk 2 rfl, H.out.blk 7 rfl⟩ (fun hHeld => ?_)
      replace H := Lib.hid (H.out.drew); (try simp only [List.set_cons_zero, List.set_cons_succ, List.cons_append, List.nil_append, List.eraseIdx_cons_zero, List.eraseIdx_cons_succ, List.setIfInBounds_toArray, World.size_alloc, selR, List.getD_cons_zero, List.getD_cons_succ] at H)
      generalize World.drew _ = w8 at *
      refine wpAnyH_take (i := 0) (v := .agg s.cs) (get_o0) (by kernel_rfl) (by kernel_rfl) (by kernel_rfl) (by exact fun _ _ _ h => h) (yields_blkS rowShp2 (by rfl) (.tmp 7) rfl _ rfl (fun w h => h.1) rfl) (by assumption) ?_
      try simp only [Act.put, List.setIfInBounds_toArray, List.set_cons_zero, List.set_cons_succ]
      refine wpAnyH_take (i := 1) (v := .agg s.cs) (get_os (get_o0)) (by kernel_rfl) (by kernel_rfl) (by kernel_rfl) (by exact fun _ _ _ h => h) (yields_blkS rowShp2 (by rfl) (.tmp 7) rfl _ rfl (fun w h => h.1) rfl) (by assumption) ?_
      try simp only [Act.put, List.setIfInBounds_toArray, List.set_cons_zero, List.set_cons_succ]
      refine wpAnyH_take (i := 2) (v := .agg n.cs) (get_os (get_os (get_o0))) (by kernel_rfl) (by kernel_rfl) (by kernel_rfl) (by exact fun _ _ _ h => h) (yields_blkS rowNd (by rfl) (.tmp 13) rfl _ rfl (fun w h => h.2) rfl) (by assumption) ?_
      try simp only [Act.put, List.setIfInBounds_toArray, List.set_cons_zero, List.set_cons_succ]
      refine wpAnyH_take (i := 3) (v := ?vq24_3) (get_os (get_os (get_os (get_o0)))) (by kernel_rfl) (by kernel_rfl) (by kernel_rfl) (by exact fun _ _ _ h => h) (Or.inl ⟨by rfl, ?hyq24_3⟩) (by assumption) ?_
      case hyq24_3 => (intro w hSw; (try dsimp only at hSw); go_simp) <;> with_reducible rfl
      try simp only [Act.put, List.setIfInBounds_toArray, List.set_cons_zero, List.set_cons_succ]
      refine wpAnyH_ready (rs := [4]) (by kernel_rfl) (by simp) ?_
      refine (AllReadyH.cons (get_os (get_os (get_os (get_os (get_o0))))) (fun KK hKK => ?_) AllReadyH.nil)
      go_simp
      refine (cmoveW_any s n g (plc st) _ (H.out.at_ 5 rfl) ((H.out.at_ 6 rfl : l.rd _).all n HNM.out) HNB.out.1 HNB.out.2 (HFC.out _ (H.out.less 7))).mono ?_; rintro e' w6 ⟨D, rfl, hDc, _, _, hb6, hnew⟩
      replace H := Lib.hid (H.out.add hb6 (rNd D) hnew.1 hnew.2); (try simp only [List.set_cons_zero, List.set_cons_succ, List.cons_append, List.nil_append, List.eraseIdx_cons_zero, List.eraseIdx_cons_succ, List.setIfInBounds_toArray, World.size_alloc, selR, List.getD_cons_zero, List.getD_cons_succ] at H)
      have HDc := Lib.hid hDc
      clear hDc hb6 hnew
      refine hKK.out _ _ ⟨H.out.blk 2 rfl, H.out.blk 7 rfl⟩ (fun hHeld => ?_)
      clear hKK KK
      try simp only [Act.put, List.setIfInBounds_toArray, List.set_cons_zero, List.set_cons_succ]
      refine wpAnyH_ready (rs := [5]) (by kernel_rfl) (by simp) ?_
      refine (AllReadyH.cons (get_os (get_os (get_os (get_os (get_os (get_o0)))))) (fun KK hKK => ?_) AllReadyH.nil)
      go_simp
      refine (cput_any s D _ (H.out.at_ 5 rfl) (nd_of_own (H.out.get 8 rfl)) (by rw [HDc.out]; exact HMO.out.1) (by rw [HDc.out]; exact Nat.le_trans HMO.out.2.2.1 (by omega))).mono ?_; rintro e' w7 ⟨rfl, hb7⟩
      rw [HDc.out, ← HBB.out]
      replace H := Lib.hid (H.out.bel hb7); (try simp only [List.set_cons_zero, List.set_cons_succ, List.cons_append, List.nil_append, List.eraseIdx_cons_zero, List.eraseIdx_cons_succ, List.setIfInBounds_toArray, World.size_alloc, selR, List.getD_cons_zero, List.getD_cons_succ] at H)
      clear hb7
      refine hKK.out _ _ ⟨H.out.blk 2 rfl, H.out.blk 7 rfl⟩ (fun hHeld => ?_)
      clear hKK KK
      try simp only [Act.put, List.setIfInBounds_toArray, List.set_cons_zero, List.set_cons_succ]
      refine wpAnyH_take (i := 6) (v := ?vq25_) (get_os (get_os (get_os (get_os (get_os (get_os (get_o0))))))) (by kernel_rfl) (by kernel_rfl) (by kernel_rfl) (by exact fun _ _ _ h => h) (Or.inl ⟨by rfl, ?hyq25_⟩) (by assumption) ?_
      case hyq25_ => (intro w hSw; (try dsimp only at hSw); go_simp) <;> with_reducible rfl
      try simp only [Act.put, List.setIfInBounds_toArray, List.set_cons_zero, List.set_cons_succ]
      refine wpAnyH_take (i := 7) (v := ?vq26_) (get_os (get_os (get_os (get_os (get_os (get_os (get_os (get_o0)))))))) (by kernel_rfl) (by kernel_rfl) (by kernel_rfl) (by exact fun _ _ _ h => h) (Or.inl ⟨by rfl, ?hyq26_⟩) (by assumption) ?_
      case hyq26_ => (intro w hSw; (try dsimp only at hSw); go_simp) <;> with_reducible rfl
      try simp only [Act.put, List.setIfInBounds_toArray, List.set_cons_zero, List.set_cons_succ]
      refine wpAnyH_take (i := 8) (v := ?vq27_) (get_os (get_os (get_os (get_os (get_os (get_os (get_os (get_os (get_o0))))))))) (by kernel_rfl) (by kernel_rfl) (by kernel_rfl) (by exact fun _ _ _ h => h) (Or.inl ⟨by rfl, ?hyq27_⟩) (by assumption) ?_
      case hyq27_ => (intro w hSw; (try dsimp only at hSw); go_simp) <;> with_reducible rfl
      try simp only [Act.put, List.setIfInBounds_toArray, List.set_cons_zero, List.set_cons_succ]
      refine wpAnyH_take (i := 9) (v := ?vq28_) (get_os (get_os (get_os (get_os (get_os (get_os (get_os (get_os (get_os (get_o0)))))))))) (by kernel_rfl) (by kernel_rfl) (by kernel_rfl) (by exact fun _ _ _ h => h) (Or.inl ⟨by rfl, ?hyq28_⟩) (by assumption) ?_
      case hyq28_ => (intro w hSw; (try dsimp only at hSw); go_simp) <;> with_reducible rfl
      try simp only [Act.put, List.setIfInBounds_toArray, List.set_cons_zero, List.set_cons_succ]
      refine wpAnyH_take (i := 10) (v := ?vq29_) (get_ot (get_o0)) (by kernel_rfl) (by kernel_rfl) (by kernel_rfl) (by exact fun _ _ _ h => h) (Or.inl ⟨by rfl, ?hyq29_⟩) (by assumption) ?_
      case hyq29_ => (intro w hSw; (try dsimp only at hSw); go_simp) <;> with_reducible rfl
      try simp only [Act.put, List.setIfInBounds_toArray, List.set_cons_zero, List.set_cons_succ]
      refine wpAnyH_done (by kernel_rfl) ?_ _
      clear hHeld
      replace H := Lib.hid (H.out.sel [0, 1, 2, 3, 4, 5, 6] (by decide) (by simp)); (try simp only [List.set_cons_zero, List.set_cons_succ, List.cons_append, List.nil_append, List.eraseIdx_cons_zero, List.eraseIdx_cons_succ, List.setIfInBounds_toArray, World.size_alloc, selR, List.getD_cons_zero, List.getD_cons_succ] at H)
      go_wp2_with fail
      refine (blen_any _ bb p B out.length bc (H.out.blk 0 rfl)).mono ?_; rintro e' w9 ⟨rfl, rfl⟩
      by_cases hfull : M - (b.length : Int) < out.length
      · have d1 : decide (M - (b.length : Int) < (out.length : Int)) = true := by simpa using hfull
        have HV : Hid (RV = .tuple #[.string ⟨#[]⟩, .int .i64 0, .int .i64 7]) := by
          show _ = _
          rw [HRV.out]
          have h1 := wsteps_len s.sz.n s.ms (NL.drop (k + 1)) (st ++ [(out.length : Int)]) (out ++ b)
          rw [← HR2.out, List.length_append] at h1
          exact if_pos (by omega)
        clear hfull
        go_wp2_with fail
        go_ret3
        rw [HV.out]
        exact ⟨rfl, H.out.to⟩
      have d1 : decide (M - (b.length : Int) < (out.length : Int)) = false := by simpa using hfull
      have hle : Hid ((out.length : Int) + b.length ≤ M) := by show _ ≤ _; omega
      clear hfull
      go_wp2_with fail
      refine (blen_any _ bb p B out.length bc (H.out.blk 0 rfl)).mono ?_; rintro e' w9 ⟨rfl, rfl⟩
      clear d1
      have c1 := (H.out.blk 3 rfl).cell 0; simp only [List.getElem?_toArray, List.getElem?_cons_zero, List.getElem?_cons_succ] at c1
      go_wp2_with ((with_reducible show wpList _ _ _ (⟨some 57, _, _, _, _, _⟩ :: _) _ _); (replace H := Lib.hid (H.out.alloc #[.int .i64 out.length] 3); (try simp only [List.set_cons_zero, List.set_cons_succ, List.cons_append, List.nil_append, List.eraseIdx_cons_zero, List.eraseIdx_cons_succ, List.setIfInBounds_toArray, World.size_alloc, selR, List.getD_cons_zero, List.getD_cons_succ] at H); refine wpList_append0 rfl (.tmp 54) (.tmp 56) _ rfl E_num 0 (Nat.zero_le _) _ k _ rfl (H.out.row 4 rfl) _ 1 1 [.int .i64 out.length] rfl (reads_of_block (H.out.blk 7 rfl) rfl) (by simp [Value.oneCell']) (by unfold maxLen; omega) (by omega) ?_; intro vq wq howq hgq hatq; replace H := Lib.hid (H.out.setRow 4 rfl hgq howq hatq); (try simp only [List.set_cons_zero, List.set_cons_succ, List.cons_append, List.nil_append, List.eraseIdx_cons_zero, List.eraseIdx_cons_succ, List.setIfInBounds_toArray, World.size_alloc, selR, List.getD_cons_zero, List.getD_cons_succ] at H); clear howq hgq hatq; obtain ⟨A2, c2, rfl, _⟩ := own_slice (H.out.row 4 rfl); clear c1; have c1 := (H.out.blk 3 rfl).cell 0; simp only [List.getElem?_toArray, List.getElem?_cons_zero, List.getElem?_cons_succ] at c1; have f1 := (H.out.blk 3 rfl).frozen 0))
      replace H := Lib.hid (H.out.setCell 3 rfl 0 (.slice A2 (k + 1) c2)); (try simp only [List.set_cons_zero, List.set_cons_succ, List.cons_append, List.nil_append, List.eraseIdx_cons_zero, List.eraseIdx_cons_succ, List.setIfInBounds_toArray, World.size_alloc, selR, List.getD_cons_zero, List.getD_cons_succ] at H)
      clear c1 f1
      refine (bwrite_any w _ bb p B bc out b _ H.out HBP.out (by omega)).mono ?_; rintro e' w10 ⟨⟨v, rfl⟩, B2, bc2, hS⟩
      replace H := Lib.hid hS
      clear hS
      replace H := Lib.hid (H.out.sel [0, 1, 2, 3, 4, 5, 6] (by decide) (by simp)); (try simp only [List.set_cons_zero, List.set_cons_succ, List.cons_append, List.nil_append, List.eraseIdx_cons_zero, List.eraseIdx_cons_succ, List.setIfInBounds_toArray, World.size_alloc, selR, List.getD_cons_zero, List.getD_cons_succ] at H)
      have HV2 : Hid (st.map (Value.int .i64) ++ [Value.int .i64 out.length] = (st ++ [(out.length : Int)]).map (Value.int .i64)) := by show _ = _; simp
      rw [HV2.out] at H
      go_wp2_with fail
      rw [← HAL.out]
      go_roundg (l.n - (k + 1))
      case rel => exact ⟨k + 1, st ++ [(out.length : Int)], out ++ b, A2, c2, B2, bc2, _, rfl, by omega, by rw [wtop_snoc], by go_num, .inr rfl, fun e => absurd (congrArg List.length e) (by rw [List.length_append, List.length_nil]; omega), by show _ = _; rw [List.length_append, HST.out.1]; rfl, HST2.out, by rw [List.length_append]; omega, by have := hle.out; rw [List.length_append]; omega, HR2, H⟩
      case measure => rw [Hgk.out]; omega
    · obtain rfl : k = l.n := by omega
      have HRE : Hid (pwrite s.sz.n s.ms NL = (st, out)) := by show _ = _; rw [HR.out, wsteps_end (by rw [hNn, hln])]
      have HV : Hid (RV = .tuple #[.string ⟨out.toArray⟩, .int .i64 (wtop st), .int .i64 0]) := by show _ = _; rw [HRV.out, HRE.out, if_neg (by show ¬ (M < (out.length : Int)); omega)]
      clear HR HRV
      by_cases h0 : out = []
      · obtain ⟨rfl, rfl⟩ := hbn h0
        subst h0
        go_wp2_with fail
        refine (bstring_nil _ bb p (H.out.blk 0 rfl)).mono ?_; rintro e w8 ⟨rfl, hb8⟩
        go_wp2_with fail
        go_ret3
        rw [HV.out]
        exact ⟨rfl, H.out.to.trans hb8⟩
      · go_wp2_with fail
        refine (bstring_any w _ bb p B bc out _ H.out h0 (by omega)).mono ?_; rintro e w8 ⟨rfl, hb8⟩
        go_wp2_with fail
        go_ret3
        rw [HV.out]
        exact ⟨rfl, hb8⟩

end Go.Proofs.Ytlclllkjnhgbjaa
