/- The document's bytes of a cube. -/
import Derived.Test.YtlclllkjnhgbjaaStrP
import Derived.Test.YtlclllkjnhgbjaaRmv
import Derived.Test.YtlclllkjnhgbjaaBv
import Derived.Test.YtlclllkjnhgbjaaAreS
import Derived.Test.YtlclllkjnhgbjaaBu
namespace Go.Proofs.Ytlclllkjnhgbjaa
open Go.RowKit
set_option linter.unusedVariables false
set_option linter.unusedSimpArgs false


theorem moved_ok {xs : List (List Int)} {ms : Int} {l : List NC} {k : Nat} {n : NC} {st : List Int} {m : Nat} (hs : shapeOk xs ms = true) (hg : GoodN xs ms l) (hk : l[k]? = some n) (hst : StOk st m) (hl : st.length = k) :
    nodeErr xs ms (moveC xs.length (plc st) n) = 0 ∧ (1 ≤ (nodePut xs.length ms (moveC xs.length (plc st) n)).length ∧ (nodePut xs.length ms (moveC xs.length (plc st) n)).length ≤ 73716) ∧ (bodyPut xs.length ms (moveC xs.length (plc st) n)).length ≤ 100000 ∧ (n.dim ≠ (xs.length : Int) - 1 → ∀ c ∈ eachN n, 0 ≤ c.ch ∧ c.ch < k) := by
  have hE := (hg k n hk).1
  have hch : n.dim ≠ (xs.length : Int) - 1 → ∀ c ∈ eachN n, 0 ≤ c.ch ∧ c.ch < k := fun hd c hc => by
    have := goodN_ch hg hk hd c hc
    exact ⟨this.1, this.2.1⟩
  have hE2 : nodeErr xs ms (moveC xs.length (plc st) n) = 0 := by
    rw [nodeErr_mv fun hd c hc => ?_, hE]
    have h1 := hch hd c hc
    exact ⟨h1.1, (hst.lt _ (plc_mem h1.1 (by omega))).1⟩
  exact ⟨hE2, nodePut_len2 hE2 hs, bodyPut_len hE2 hs, hch⟩
theorem wsteps_end {nd : Nat} {ms : Int} {l : List NC} {k : Nat} (h : l.length = k) (st : List Int) (out : List UInt8) : wsteps nd ms (l.drop k) st out = (st, out) := by
  rw [List.drop_of_length_le (by omega)]
  rfl
theorem stOk_i64 {st : List Int} {m : Nat} (h : StOk st m) (hm : m ≤ 1000000000) : ∀ z ∈ st, I64 z := fun z hz => by have := h.lt z hz; unfold I64; omega

set_option maxRecDepth 100000 in
set_option maxHeartbeats 2000000 in
theorem rwrite_any (s : Shp) (l : Row Nd) (w : World) (hs : s.rd w) (hl : l.rd w) (hok : shapeOk s.con s.ms = true) (hg : GoodN s.con s.ms (l.l.map Nd.con)) (hn15 : l.n ≤ 15) (hsm : ∀ n ∈ l.l, SmN n) :
    Calls Try.prog 29 #[.agg s.cs, .slice l.A l.n l.c] w fun e w' => e = .returned (.tuple #[.string ⟨(pwrite s.sz.n s.ms (l.l.map Nd.con)).2.toArray⟩, .int .i64 (wtop (pwrite s.sz.n s.ms (l.l.map Nd.con)).1)]) ∧ Bel w w' := by
  have hsl : s.con.length = s.sz.n := by rw [List.length_map]; exact hs.sz.len
  have HSR := Lib.hid (fun w' (hb : Bel w w') => hs.mono hb)
  have HLR := Lib.hid (fun w' (hb : Bel w w') => hl.mono hb)
  have hll : Hid (l.l.length = l.n) := hl.len
  have HSM := Lib.hid hsm
  have HMK := Lib.hid (fun (k : Nat) (n : NC) (st : List Int) (m : Nat) (hk : (l.l.map Nd.con)[k]? = some n) (hst : StOk st m) (hle : st.length = k) => moved_ok hok hg hk hst hle)
  rw [hsl] at HMK
  obtain ⟨R, hR⟩ : ∃ R, R = pwrite s.sz.n s.ms (l.l.map Nd.con) := ⟨_, rfl⟩
  rw [← hR]
  have HR : Hid (R = wsteps s.sz.n s.ms ((l.l.map Nd.con).drop 0) [] []) := hR
  have H := Lib.hid (((SL.start No w).alloc s.cs 24).addNil 3 1)
  (try simp only [List.set_cons_zero, List.set_cons_succ, List.cons_append, List.nil_append, List.eraseIdx_cons_zero, List.eraseIdx_cons_succ, List.setIfInBounds_toArray, World.size_alloc, selR, List.getD_cons_zero, List.getD_cons_succ] at H)
  have hcs : s.cs = #[.slice s.sz.A s.sz.n s.sz.c, .int .i64 s.ms] := rfl
  have HCS := Lib.hid hcs
  clear hcs hs hl hok hg hsm hsl hR
  go_enter Try.func29, Try.ntmps29
  go_upto_region 1 with fail
  (try rw [← HCS.out] at *)
  generalize w.heap.size = x at *
  generalize World.alloc w _ = w1 at *
  go_upto_region 5 with fail
  go_loopg [6, 7, 8, 14] l.n (fun gg s6 s7 s8 s14 wr => ∃ (k : Nat) (st : List Int) (out : List UInt8) (A : Option Addr) (c : Nat), gg = l.n - k ∧ k ≤ l.n ∧ s7 = .int .i64 (wtop st) ∧ s6 = .string ⟨out.toArray⟩ ∧ s8 = .slice A k c ∧ s14 = .int .i64 k ∧ Hid (st.length = k) ∧ Hid (StOk st out.length) ∧ out.length ≤ 73716 * k ∧ Hid (R = wsteps s.sz.n s.ms ((l.l.map Nd.con).drop k) st out) ∧ Hid (SL No w wr [rBlk x 24 s.cs, rRow 3 1 (.slice A k c) k (st.map (Value.int .i64))]))
  case atStart => exact ⟨0, [], [], none, 0, rfl, by omega, rfl, rfl, rfl, rfl, rfl, StOk.nil, by simp, HR, H⟩
  case round =>
    clear H HR
    obtain ⟨k, st, out, A, c, hgk, hk, rfl, rfl, rfl, rfl, hst, HST0, hout, HR, H⟩ := hrel
    have Hgk := Lib.hid hgk
    clear hgk
    by_cases hlt : k < l.n
    · obtain ⟨bl, ol, n, hAl, hbl, hnk, hnr, hrg⟩ := (HLR.out _ H.out.to).ndAt (k := k) hlt
      have hnm := List.mem_of_getElem? hnk
      have hkc : (l.l.map Nd.con)[k]? = some n.con := by rw [List.getElem?_map, hnk]; rfl
      have HNR := Lib.hid (fun w' (hb : Bel w w') => ((HLR.out w' hb).all n hnm : n.rd w'))
      have HNB : Hid (n.ls.n ≤ 1000000 ∧ ∀ y ∈ n.ls.l, y.n ≤ 1000000) := ⟨(HSM.out n hnm).a, (HSM.out n hnm).b⟩
      have HST : Hid (st.length = k ∧ StOk st out.length) := ⟨hst.out, HST0.out⟩
      have hmo := HMK.out k n.con st out.length hkc HST0.out hst.out
      have HMO := Lib.hid hmo
      have hR2 := HR.out.trans (wsteps_drop hkc st out)
      obtain ⟨b, hb⟩ : ∃ b, b = nodePut s.sz.n s.ms (moveC s.sz.n (plc st) n.con) := ⟨_, rfl⟩
      rw [← hb] at hR2
      have hbl2 : 1 ≤ b.length ∧ b.length ≤ 73716 := by rw [hb]; exact hmo.2.1
      have HBB := Lib.hid hb
      have HR2 := Lib.hid hR2
      have HST2 : Hid (StOk (st ++ [(out.length : Int)]) (out ++ b).length) := HST0.out.snoc (by rw [List.length_append]; omega)
      have hz64 := stOk_i64 HST0.out (by omega)
      have HRR : Hid (∀ W, W.ownsRow 0 3 1 (.slice A k c) k (st.map (Value.int .i64)) → (Row.mk A k c st : Row Int).rd W) := fun W ho => ⟨by show Rd _ _ _ _ (st.flatMap _); rw [flat_ints]; exact Rd.of_own ho, hz64, by show k ≤ _; omega⟩
      have HRG := Lib.hid hrg
      have HAL := Lib.hid hAl
      have k0 : (0 : Int) ≤ k := by omega
      have k1 : (k : Int) < l.n := by omega
      have hlb : out.length + b.length ≤ 3000000 := by omega
      rw [hAl]
      clear hnk hnr hrg hAl hnm hkc hmo hR2 hb hz64 HR hst HST0
      go_upto_region 8 with (first | ((with_reducible show wpList _ _ _ (⟨some 17, _, _, _, _, _⟩ :: _) _ _); (refine wpList_load_row_at rfl rowNd (.tmp 16) rfl bl (ol + k * 14) rfl n.cs rfl HRG.out ?_)) | ((with_reducible show wpList _ _ _ (⟨_, .store _ (.tmp 10) _, _, _, _, _⟩ :: _) _ _); (refine wpList_store_new rfl rowNd (.tmp 10) (.tmp 17) rfl rfl rfl (n.cs) rfl rfl (nd_one n) ?_; replace H := Lib.hid (H.out.alloc (n.cs) 34); (try simp only [List.set_cons_zero, List.set_cons_succ, List.cons_append, List.nil_append, List.eraseIdx_cons_zero, List.eraseIdx_cons_succ, List.setIfInBounds_toArray, World.size_alloc, selR, List.getD_cons_zero, List.getD_cons_succ] at H))))
      (try simp only [Act.put, List.setIfInBounds_toArray, List.set_cons_zero, List.set_cons_succ])
      clear HRG hbl
      generalize wr.heap.size = u at *
      generalize World.alloc wr _ = w5 at *
      refine wp_region_held_drew (S := fun W => Blk W x 24 s.cs ∧ Blk W u 34 n.cs) (by kernel_rfl) ⟨H.out.blk 0 rfl, H.out.blk 2 rfl⟩ (fun hHeld => ?_)
      replace H := Lib.hid (H.out.drew); (try simp only [List.set_cons_zero, List.set_cons_succ, List.cons_append, List.nil_append, List.eraseIdx_cons_zero, List.eraseIdx_cons_succ, List.setIfInBounds_toArray, World.size_alloc, selR, List.getD_cons_zero, List.getD_cons_succ] at H)
      generalize World.drew _ = w8 at *
      refine wpAnyH_take (i := 0) (v := .agg s.cs) (get_o0) (by kernel_rfl) (by kernel_rfl) (by kernel_rfl) (by exact fun _ _ _ h => h) (yields_blkS rowShp2 (by rfl) (.tmp 2) rfl _ rfl (fun w h => h.1) rfl) (by assumption) ?_
      try simp only [Act.put, List.setIfInBounds_toArray, List.set_cons_zero, List.set_cons_succ]
      refine wpAnyH_take (i := 1) (v := .agg s.cs) (get_os (get_o0)) (by kernel_rfl) (by kernel_rfl) (by kernel_rfl) (by exact fun _ _ _ h => h) (yields_blkS rowShp2 (by rfl) (.tmp 2) rfl _ rfl (fun w h => h.1) rfl) (by assumption) ?_
      try simp only [Act.put, List.setIfInBounds_toArray, List.set_cons_zero, List.set_cons_succ]
      refine wpAnyH_take (i := 2) (v := .agg n.cs) (get_os (get_os (get_o0))) (by kernel_rfl) (by kernel_rfl) (by kernel_rfl) (by exact fun _ _ _ h => h) (yields_blkS rowNd (by rfl) (.tmp 10) rfl _ rfl (fun w h => h.2) rfl) (by assumption) ?_
      try simp only [Act.put, List.setIfInBounds_toArray, List.set_cons_zero, List.set_cons_succ]
      refine wpAnyH_take (i := 3) (v := ?vq22_3) (get_os (get_os (get_os (get_o0)))) (by kernel_rfl) (by kernel_rfl) (by kernel_rfl) (by exact fun _ _ _ h => h) (Or.inl ⟨by rfl, ?hyq22_3⟩) (by assumption) ?_
      case hyq22_3 => (intro w hSw; (try dsimp only at hSw); go_simp) <;> with_reducible rfl
      try simp only [Act.put, List.setIfInBounds_toArray, List.set_cons_zero, List.set_cons_succ]
      refine wpAnyH_ready (rs := [4]) (by kernel_rfl) (by simp) ?_
      refine (AllReadyH.cons (get_os (get_os (get_os (get_os (get_o0))))) (fun KK hKK => ?_) AllReadyH.nil)
      go_simp
      refine (rmove_any s n ⟨A, k, c, st⟩ _ (HSR.out _ H.out.to) (HNR.out _ H.out.to) (HRR.out _ (H.out.row 1 rfl)) HNB.out.1 HNB.out.2).mono ?_; rintro e' w6 ⟨D, rfl, hDc, _, _, hb6, hnew⟩
      replace H := Lib.hid (H.out.add hb6 (rNd D) hnew.1 hnew.2); (try simp only [List.set_cons_zero, List.set_cons_succ, List.cons_append, List.nil_append, List.eraseIdx_cons_zero, List.eraseIdx_cons_succ, List.setIfInBounds_toArray, World.size_alloc, selR, List.getD_cons_zero, List.getD_cons_succ] at H)
      have HDc := Lib.hid hDc
      clear hDc hb6 hnew
      refine hKK.out _ _ ⟨H.out.blk 0 rfl, H.out.blk 2 rfl⟩ (fun hHeld => ?_)
      clear hKK KK
      try simp only [Act.put, List.setIfInBounds_toArray, List.set_cons_zero, List.set_cons_succ]
      refine wpAnyH_ready (rs := [5]) (by kernel_rfl) (by simp) ?_
      refine (AllReadyH.cons (get_os (get_os (get_os (get_os (get_os (get_o0)))))) (fun KK hKK => ?_) AllReadyH.nil)
      go_simp
      refine (rcput_any s D _ (HSR.out _ H.out.to) (nd_of_own (H.out.get 3 rfl)) (by rw [HDc.out]; exact HMO.out.1) (by rw [HDc.out]; exact Nat.le_trans HMO.out.2.2.1 (by omega))).mono ?_; rintro e' w7 ⟨rfl, hb7⟩
      rw [HDc.out, ← HBB.out]
      replace H := Lib.hid (H.out.bel hb7); (try simp only [List.set_cons_zero, List.set_cons_succ, List.cons_append, List.nil_append, List.eraseIdx_cons_zero, List.eraseIdx_cons_succ, List.setIfInBounds_toArray, World.size_alloc, selR, List.getD_cons_zero, List.getD_cons_succ] at H)
      clear hb7
      refine hKK.out _ _ ⟨H.out.blk 0 rfl, H.out.blk 2 rfl⟩ (fun hHeld => ?_)
      clear hKK KK
      try simp only [Act.put, List.setIfInBounds_toArray, List.set_cons_zero, List.set_cons_succ]
      refine wpAnyH_take (i := 6) (v := ?vq23_) (get_os (get_os (get_os (get_os (get_os (get_os (get_o0))))))) (by kernel_rfl) (by kernel_rfl) (by kernel_rfl) (by exact fun _ _ _ h => h) (Or.inl ⟨by rfl, ?hyq23_⟩) (by assumption) ?_
      case hyq23_ => (intro w hSw; (try dsimp only at hSw); go_simp) <;> with_reducible rfl
      try simp only [Act.put, List.setIfInBounds_toArray, List.set_cons_zero, List.set_cons_succ]
      refine wpAnyH_done (by kernel_rfl) ?_ _
      clear hHeld
      go_wp2_with ((with_reducible show wpList _ _ _ (⟨some 29, _, _, _, _, _⟩ :: _) _ _); (replace H := Lib.hid (H.out.alloc #[.int .i64 out.length] 3); (try simp only [List.set_cons_zero, List.set_cons_succ, List.cons_append, List.nil_append, List.eraseIdx_cons_zero, List.eraseIdx_cons_succ, List.setIfInBounds_toArray, World.size_alloc, selR, List.getD_cons_zero, List.getD_cons_succ] at H); refine wpList_append0 rfl (.tmp 26) (.tmp 28) _ rfl E_num 0 (Nat.zero_le _) _ k _ rfl (H.out.row 1 rfl) _ 1 1 [.int .i64 out.length] rfl (reads_of_block (H.out.blk 4 rfl) rfl) (by simp [Value.oneCell']) (by unfold maxLen; omega) (by omega) ?_; intro vq wq howq hgq hatq; replace H := Lib.hid (H.out.setRow 1 rfl hgq howq hatq); (try simp only [List.set_cons_zero, List.set_cons_succ, List.cons_append, List.nil_append, List.eraseIdx_cons_zero, List.eraseIdx_cons_succ, List.setIfInBounds_toArray, World.size_alloc, selR, List.getD_cons_zero, List.getD_cons_succ] at H); clear howq hgq hatq; obtain ⟨A2, c2, rfl, _⟩ := own_slice (H.out.row 1 rfl)))
      replace H := Lib.hid (H.out.sel [0, 1] (by decide) (by simp)); (try simp only [List.set_cons_zero, List.set_cons_succ, List.cons_append, List.nil_append, List.eraseIdx_cons_zero, List.eraseIdx_cons_succ, List.setIfInBounds_toArray, World.size_alloc, selR, List.getD_cons_zero, List.getD_cons_succ] at H)
      rw [str_append]
      have HV2 : Hid (st.map (Value.int .i64) ++ [Value.int .i64 out.length] = (st ++ [(out.length : Int)]).map (Value.int .i64)) := by show _ = _; simp
      rw [HV2.out] at H
      rw [← HAL.out]
      go_roundg (l.n - (k + 1))
      case rel => exact ⟨k + 1, st ++ [(out.length : Int)], out ++ b, A2, c2, rfl, by omega, by rw [wtop_snoc], rfl, rfl, by go_num, by show _ = _; rw [List.length_append, HST.out.1]; rfl, HST2.out, by rw [List.length_append]; omega, HR2, H⟩
      case measure => rw [Hgk.out]; omega
    · obtain rfl : k = l.n := by omega
      have HRE : Hid (R = (st, out)) := by show _ = _; rw [HR.out, wsteps_end (by rw [List.length_map]; exact hll.out)]
      clear HR
      go_wp2_with fail
      go_ret2
      rw [HRE.out]
      exact ⟨rfl, H.out.to⟩

end Go.Proofs.Ytlclllkjnhgbjaa
