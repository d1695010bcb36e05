/- arena.Load. -/
import Derived.Test.YtlclllkjnhgbjaaAreJ
namespace Go.Proofs.Ytlclllkjnhgbjaa
open Go.RowKit
set_option linter.unusedVariables false
set_option linter.unusedSimpArgs false


set_option maxRecDepth 100000 in
set_option maxHeartbeats 1000000 in
theorem aleads_last (b : Nat) (s : Shp) (n : Nd) (w : World) (hs : s.rd w) (hr : w.rangeAt b 0 s.cs.toList) (hb : b < w.heap.size) (hd : I64 n.dim) (hl : n.dim = (s.sz.n : Int) - 1) :
    Calls Try.prog 88 #[.pointer (some ⟨b, 0, none⟩), .agg n.cs] w fun e w' => e = .returned (.bool true) ∧ Bel w w' := by
  have HLS := Lib.hid (fun w' (hb : Bel w w') => last_any s n.dim w' (hs.mono hb) hd)
  have hlt : (n.dim == (s.sz.n : Int) - 1) = true := by simpa using hl
  rw [hlt] at HLS
  have H := Lib.hid (((SL.start No w).alloc #[.pointer (some ⟨b, 0, none⟩)] 64).alloc n.cs 34)
  (try simp only [List.set_cons_zero, List.set_cons_succ, List.cons_append, List.nil_append, List.eraseIdx_cons_zero, List.eraseIdx_cons_succ, List.setIfInBounds_toArray, World.size_alloc, selR, List.getD_cons_zero, List.getD_cons_succ] at H)
  have HR0 := Lib.hid (fun w' (hx : Bel w w') => (fun j v hv => (hx.cell (p := ⟨b, 0 + j, none⟩) hb).trans (hr j v hv) : w'.rangeAt b 0 s.cs.toList))
  have HBB := Lib.hid (fun w' (hx : Bel w w') => Nat.lt_of_lt_of_le hb hx.size)
  clear hs hr hb hd hl hlt
  go_enter Try.func88, Try.ntmps88
  go_upto_region 1 with fail
  generalize w.heap.size + 1 = y at *
  generalize w.heap.size = x at *
  generalize World.alloc (World.alloc _ _) _ = w1 at *
  have hbb := HBB.out _ H.out.to
  have HR1 := Lib.hid (HR0.out _ H.out.to)
  have c0 : w1.cell? ⟨x, 0, none⟩ = some (.pointer (some ⟨b, 0, none⟩)) := (H.out.blk 0 rfl).cell 0
  have c1 : w1.cell? ⟨y, 0, none⟩ = some (.int .i64 n.dim) := (H.out.blk 1 rfl).cell 0
  go_upto_region 1 with fail
  have f_c0 := fun u : Over w1 => Over.cell c0 u
  have f_c1 := fun u : Over w1 => Over.cell c1 u
  refine wp_region_over (by kernel_rfl) (by kernel_rfl) ?_
  (try simp only [Act.put, List.setIfInBounds_toArray, List.set_cons_zero, List.set_cons_succ])
  repeat (first
    | ((with_reducible show wpQuiet _ _ _ _ (⟨some 11, _, _, _, _, _⟩ :: _) _); refine wpQuiet_load_row (by first | rfl | go_simp) rowShp2 (.tmp 10) rfl b (0) rfl s.cs rfl hbb HR1.out ?_; simp only [Act.put, List.setIfInBounds_toArray, List.set_cons_zero, List.set_cons_succ])
    | go_big_quiet_step (((go_at_call 69; rename_i u; exact calls_over (HLS.out _ (H.out.to.trans u.bel))))))
  refine wpQuiet_nil ?_
  rintro w5 ⟨⟨_, hw5⟩, rfl⟩
  (try dsimp only)
  replace H := Lib.hid (H.out.bel hw5); (try simp only [List.set_cons_zero, List.set_cons_succ, List.cons_append, List.nil_append, List.eraseIdx_cons_zero, List.eraseIdx_cons_succ, List.setIfInBounds_toArray, World.size_alloc, selR, List.getD_cons_zero, List.getD_cons_succ] at H)
  clear f_c0 f_c1 c0 c1
  go_wp2_with fail
  go_ret
  exact ⟨rfl, H.out.to⟩
/-- What Load meets at a node. -/
def loadAt (xs : List (List Int)) (ms : Int) (l : List NC) (k : Nat) : Int := addErr xs ms 131072 (l.take k) ((l[k]?).getD .nil)
def LoadPost (s : Shp) (l : List NC) (w : World) (e : Ending) (w' : World) : Prop :=
  if shapeOk s.con s.ms = false then e = .returned (.tuple #[.pointer none, .int .i64 2]) ∧ Bel w w'
  else if firstErr (loadAt s.con s.ms l) l.length 0 ≠ 0 then e = .returned (.tuple #[.pointer none, .int .i64 (firstErr (loadAt s.con s.ms l) l.length 0)]) ∧ Bel w w'
  else ∃ (b : Nat) (x : Arn), e = .returned (.tuple #[.pointer (some ⟨b, 0, none⟩), .int .i64 0]) ∧ (x.ok ∧ x.sz.n = s.sz.n ∧ x.shp.con = s.con ∧ x.ms = s.ms) ∧ x.nd.l.map Nd.con = l ∧ SL No w w' (arP b x)
set_option maxRecDepth 100000 in
set_option maxHeartbeats 4000000 in
theorem aload_any (s : Shp) (l : Row Nd) (w : World) (hs : s.rd w) (hl : l.rd w) (hn : l.n ≤ 131072) (hb1 : ∀ n ∈ l.l, SmN n) :
    Calls Try.prog 25 #[.agg s.cs, .slice l.A l.n l.c] w (LoadPost s (l.l.map Nd.con) w) := by
  have HN := Lib.hid (fun w' (hb : Bel w w') => anew_any s 131072 w' (hs.mono hb) (by unfold I64; omega))
  have HLR := Lib.hid (fun w' (hb : Bel w w') => hl.mono hb)
  have hll : Hid (l.l.length = l.n) := hl.len
  have HB1 := Lib.hid hb1
  have H := Lib.hid ((SL.start No w).alloc s.cs 24)
  (try simp only [List.set_cons_zero, List.set_cons_succ, List.cons_append, List.nil_append, List.eraseIdx_cons_zero, List.eraseIdx_cons_succ, List.setIfInBounds_toArray, World.size_alloc, selR, List.getD_cons_zero, List.getD_cons_succ] at H)
  have hcs : s.cs = #[.slice s.sz.A s.sz.n s.sz.c, .int .i64 s.ms] := rfl
  have HCS := Lib.hid hcs
  have HSLN : Hid (s.sz.l.length = s.sz.n) := hs.sz.len
  have HSI : Hid (∀ y ∈ s.sz.l, ∀ z ∈ y.l, I64 z) := fun y hy => (hs.sz.all y hy).all
  clear hcs hs hl hb1
  go_enter Try.func25, Try.ntmps25
  (try rw [← HCS.out] at *)
  go_wp2_with ((with_reducible show wpList _ _ _ (⟨some 14, _, _, _, _, _⟩ :: _) _ _); (refine wpList_load_blk rfl rowShp2 (.tmp 2) rfl _ rfl (H.out.blk 0 rfl) rfl ?_))
  refine (HN.out _ H.out.to).mono ?_; intro e w1 hnew
  clear HN
  unfold NewPost at hnew
  generalize w.heap.size = x at *
  cases hok : shapeOk s.con s.ms with
  | false =>
    rw [hok, if_neg (by simp)] at hnew
    obtain ⟨rfl, hw1⟩ := hnew
    have HV : Hid (∀ w', Bel w w' → LoadPost s (l.l.map Nd.con) w (.returned (.tuple #[.pointer none, .int .i64 2])) w') := fun w' hb => by unfold LoadPost; rw [hok, if_pos rfl]; exact ⟨rfl, hb⟩
    replace H := Lib.hid (H.out.bel hw1); (try simp only [List.set_cons_zero, List.set_cons_succ, List.cons_append, List.nil_append, List.eraseIdx_cons_zero, List.eraseIdx_cons_succ, List.setIfInBounds_toArray, World.size_alloc, selR, List.getD_cons_zero, List.getD_cons_succ] at H)
    clear hw1 hok
    go_wp2_with fail
    refine bodyPost_ret (v := .tuple #[.pointer none, .int .i64 2]) (by kernel_rfl) rfl ?_
    exact HV.out _ H.out.to
  | true =>
    rw [hok, if_pos ⟨rfl, by omega, by omega⟩] at hnew
    obtain ⟨b, A, c, L, rfl, hLc, hLn, hnew⟩ := hnew
    have hle := shape_le hok
    have h16 : s.sz.n ≤ 16 := by have h := hle.1.2; rw [List.length_map] at h; have := congrArg List.length hLc; rw [List.length_map, List.length_map] at this; omega
    have h01 : 1 ≤ s.sz.n := by have h := hle.1.1; rw [List.length_map] at h; have := congrArg List.length hLc; rw [List.length_map, List.length_map] at this; omega
    have hok0 : Hid (Arn.ok (Arn.mk ⟨A, s.sz.n, c, L⟩ s.ms ⟨none, 0, 0, []⟩ 131072)) := by
      refine ⟨by have := hle.2.1; show I64 s.ms; unfold I64; omega, by show (0 : Int) ≤ 131072; omega, by show (131072 : Int) ≤ 131072; omega, h01, h16, fun y hy => ?_, Nat.zero_le _⟩
      have hm : y.l ∈ s.con := by rw [← hLc]; exact List.mem_map.2 ⟨y, hy, rfl⟩
      obtain ⟨y', hy', e⟩ := List.mem_map.1 hm
      exact ⟨hle.2.2 _ hm, by rw [← e]; exact HSI.out y' hy'⟩
    replace H := Lib.hid (H.out.join hnew); (try simp only [List.set_cons_zero, List.set_cons_succ, List.cons_append, List.nil_append, List.eraseIdx_cons_zero, List.eraseIdx_cons_succ, List.setIfInBounds_toArray, World.size_alloc, selR, List.getD_cons_zero, List.getD_cons_succ] at H)
    replace H := Lib.hid (H.out.addNil 34 14); (try simp only [List.set_cons_zero, List.set_cons_succ, List.cons_append, List.nil_append, List.eraseIdx_cons_zero, List.eraseIdx_cons_succ, List.setIfInBounds_toArray, World.size_alloc, selR, List.getD_cons_zero, List.getD_cons_succ] at H)
    replace H := Lib.hid (H.out.add (Bel.refl _) (rListD rNd []) (holds_listD_nil _ _) listD_nil_D); (try simp only [List.set_cons_zero, List.set_cons_succ, List.cons_append, List.nil_append, List.eraseIdx_cons_zero, List.eraseIdx_cons_succ, List.setIfInBounds_toArray, World.size_alloc, selR, List.getD_cons_zero, List.getD_cons_succ] at H)
    have HX : Hid (Arn.shp (Arn.mk ⟨A, s.sz.n, c, L⟩ s.ms ⟨none, 0, 0, []⟩ 131072) = Arn.shp (Arn.mk ⟨A, s.sz.n, c, L⟩ s.ms ⟨none, 0, 0, []⟩ 131072) ∧ L.map Row.l = s.con) := ⟨rfl, hLc⟩
    obtain ⟨x0, hx0⟩ : ∃ x0, x0 = (Arn.mk ⟨A, s.sz.n, c, L⟩ s.ms ⟨none, 0, 0, []⟩ 131072) := ⟨_, rfl⟩
    have H0 : Hid (SL No w w1 ([rBlk x 24 s.cs] ++ arP b x0)) := by rw [hx0]; exact H.out
    have F0 : Hid (x0.ok ∧ x0.sz.n = s.sz.n ∧ x0.shp.con = s.con ∧ x0.ms = s.ms) := by rw [hx0]; exact ⟨hok0.out, rfl, hLc, rfl⟩
    have M0 : Hid (x0.most = 131072) := by show _ = _; rw [hx0]
    have N0 : Hid (x0.nd.n = 0 ∧ x0.nd.l.map Nd.con = (l.l.map Nd.con).take 0) := by rw [hx0]; exact ⟨rfl, rfl⟩
    obtain ⟨E, hE⟩ : ∃ E, E = firstErr (loadAt s.con s.ms (l.l.map Nd.con)) (l.l.map Nd.con).length 0 := ⟨_, rfl⟩
    have HPE : Hid (E ≠ 0 → ∀ w', Bel w w' → LoadPost s (l.l.map Nd.con) w (.returned (.tuple #[.pointer none, .int .i64 E])) w') := fun h w' hb => by unfold LoadPost; rw [hok, if_neg (by simp), ← hE, if_pos h]; exact ⟨rfl, hb⟩
    have HPO : Hid (E = 0 → ∀ x w', (x.ok ∧ x.sz.n = s.sz.n ∧ x.shp.con = s.con ∧ x.ms = s.ms) → x.nd.l.map Nd.con = l.l.map Nd.con → SL No w w' (arP b x) → LoadPost s (l.l.map Nd.con) w (.returned (.tuple #[.pointer (some ⟨b, 0, none⟩), .int .i64 0])) w') := fun h x w' h1 h2 h3 => by unfold LoadPost; rw [hok, if_neg (by simp), ← hE, if_neg (by rw [h]; simp)]; exact ⟨b, x, rfl, h1, h2, h3⟩
    have HE : Hid (E = firstErr (loadAt s.con s.ms (l.l.map Nd.con)) (l.n - 0) 0) := by show _ = _; rw [hE, List.length_map, hll.out]; rfl
    clear H hx0 hnew hLc hLn hle h16 h01 hok0 hok HX hE HSI
    go_upto_region 6 with fail
    go_loopg [25] l.n (fun gg s25 wr => ∃ (k : Nat) (z : Arn), gg = l.n - k ∧ k ≤ l.n ∧ s25 = .int .i64 k ∧ Hid (E = firstErr (loadAt s.con s.ms (l.l.map Nd.con)) (l.n - k) k) ∧ Hid (SL No w wr ([rBlk x 24 s.cs] ++ arP b z)) ∧ Hid (z.ok ∧ z.sz.n = s.sz.n ∧ z.shp.con = s.con ∧ z.ms = s.ms) ∧ Hid (z.most = 131072) ∧ Hid (z.nd.n = k ∧ z.nd.l.map Nd.con = (l.l.map Nd.con).take k))
    case atStart => exact ⟨0, x0, rfl, by omega, rfl, HE, H0, F0, M0, N0⟩
    case round =>
      clear H0 F0 M0 N0 HE
      obtain ⟨k, z, hgk, hk, rfl, HE, H, F0, M0, N0⟩ := hrel
      have Hgk := Lib.hid hgk
      clear hgk
      by_cases hlt : k < l.n
      · obtain ⟨bl, ol, n, hAl, hbl, hnk, hnr, hrg⟩ := (HLR.out _ H.out.to).ndAt (k := k) hlt
        have hnm := List.mem_of_getElem? hnk
        have hkk : (l.l.map Nd.con)[k]? = some n.con := by rw [List.getElem?_map, hnk]; rfl
        have HTK := Lib.hid (take_snoc_get (l := l.l.map Nd.con) (k := k) (x := n.con) hkk)
        have HAT : Hid (loadAt s.con s.ms (l.l.map Nd.con) k = addE (leadsN z.sz.n (z.nd.l.map Nd.con) n.con) z n) := by
          show _ = _
          unfold loadAt addE addErr
          rw [hkk, F0.out.2.2.1, F0.out.2.2.2, M0.out, N0.out.1, N0.out.2, F0.out.2.1]
          have e1 : s.con.length = s.sz.n := by rw [List.length_map]; exact HSLN.out
          have e2 : ((l.l.map Nd.con).take k).length = k := by rw [List.length_take, List.length_map, hll.out]; omega
          rw [e1, e2]
          rfl
        have HRG := Lib.hid hrg
        have HNB := Lib.hid (HB1.out n hnm)
        have HNR := Lib.hid (fun w' (hb : Bel w w') => ((HLR.out w' hb).all n hnm : n.rd w'))
        have HLN := Lib.hid (fun w' h1 h2 hz => aleads_any b z n w' h1 F0.out.1 h2 HNB.out.t hz)
        have k0 : (0 : Int) ≤ k := by omega
        have k1 : (k : Int) < l.n := by omega
        have HAL := Lib.hid hAl
        rw [hAl]
        clear hnk hkk hnm hnr hrg hAl
        simp only [arP, List.cons_append, List.nil_append] at H
        go_upto_region 8 with (first | ((with_reducible show wpList _ _ _ (⟨some 28, _, _, _, _, _⟩ :: _) _ _); (refine wpList_load_row_at rfl rowNd (.tmp 27) rfl bl (ol + k * 14) rfl n.cs rfl HRG.out ?_)) | ((with_reducible show wpList _ _ _ (⟨_, .store _ (.tmp 10) _, _, _, _, _⟩ :: _) _ _); (refine wpList_store_new rfl rowNd (.tmp 10) (.tmp 28) rfl rfl rfl (n.cs) rfl rfl (nd_one n) ?_; replace H := Lib.hid (H.out.alloc (n.cs) 34); (try simp only [List.set_cons_zero, List.set_cons_succ, List.cons_append, List.nil_append, List.eraseIdx_cons_zero, List.eraseIdx_cons_succ, List.setIfInBounds_toArray, World.size_alloc, selR, List.getD_cons_zero, List.getD_cons_succ] at H))))
        (try simp only [Act.put, List.setIfInBounds_toArray, List.set_cons_zero, List.set_cons_succ])
        clear HRG hbl
        generalize wr.heap.size = y at *
        generalize World.alloc wr _ = w2 at *
        replace H := Lib.hid (H.out.sel [0, 6, 1, 2, 3, 4, 5] (by decide) (by simp)); (try simp only [List.set_cons_zero, List.set_cons_succ, List.cons_append, List.nil_append, List.eraseIdx_cons_zero, List.eraseIdx_cons_succ, List.setIfInBounds_toArray, World.size_alloc, selR, List.getD_cons_zero, List.getD_cons_succ] at H)
        go_wp2_with ((with_reducible show wpList _ _ _ (⟨some 31, _, _, _, _, _⟩ :: _) _ _); (refine wpList_load_blk rfl rowNd (.tmp 10) rfl _ rfl (H.out.blk 1 rfl) rfl ?_))
        refine (aadd_any b z n _ w2 (show SL No w w2 ([rBlk x 24 s.cs, rBlk y 34 n.cs] ++ arP b z) from H.out).focus F0.out.1 (HNR.out _ H.out.to) HNB.out.a HNB.out.b (fun hz w' hb => HLN.out w' ((show SL No w w2 ([rBlk x 24 s.cs, rBlk y 34 n.cs] ++ arP b z) from H.out).bel hb).focus (HNR.out w' (H.out.to.trans hb)) hz)).mono ?_
        intro e w3 hp
        unfold AddPost at hp
        rw [← HAT.out] at hp
        obtain ⟨F, hF⟩ : ∃ F, F = loadAt s.con s.ms (l.l.map Nd.con) k := ⟨_, rfl⟩
        rw [← hF] at hp
        have HFE := Lib.hid hF
        clear hF HAT
        by_cases hz : F = 0
        · rw [if_pos hz] at hp
          obtain ⟨n2, A2, c2, rfl, hn2, h3⟩ := hp
          replace H := Lib.hid ((show SL No w w2 ([rBlk x 24 s.cs, rBlk y 34 n.cs] ++ arP b z) from H.out).unfocus h3)
          have HE2 : Hid (E = firstErr (loadAt s.con s.ms (l.l.map Nd.con)) (l.n - (k + 1)) (k + 1)) := by show _ = _; rw [HE.out]; exact firstErr_next hlt (by rw [← HFE.out]; exact hz)
          have hz1 := F0.out.1
          have F2 : Hid (Arn.ok ⟨z.sz, z.ms, ⟨A2, z.nd.n + 1, c2, z.nd.l ++ [n2]⟩, z.most⟩ ∧ z.sz.n = s.sz.n ∧ z.shp.con = s.con ∧ z.ms = s.ms) := ⟨⟨hz1.ms, hz1.m0, hz1.m1, hz1.s1, hz1.s16, hz1.sv, by have := N0.out.1; show z.nd.n + 1 ≤ _; omega⟩, F0.out.2⟩
          have N2 : Hid (z.nd.n + 1 = k + 1 ∧ (z.nd.l ++ [n2]).map Nd.con = (l.l.map Nd.con).take (k + 1)) := ⟨by rw [N0.out.1], by rw [HTK.out, List.map_append, N0.out.2, List.map_cons, List.map_nil, hn2]⟩
          clear h3 HE hz1 HTK HFE hz hn2
          simp only [arP, List.cons_append, List.nil_append] at H
          replace H := Lib.hid (H.out.sel [0, 2, 3, 4, 5, 6] (by decide) (by simp)); (try simp only [List.set_cons_zero, List.set_cons_succ, List.cons_append, List.nil_append, List.eraseIdx_cons_zero, List.eraseIdx_cons_succ, List.setIfInBounds_toArray, World.size_alloc, selR, List.getD_cons_zero, List.getD_cons_succ] at H)
          go_wp2_with fail
          rw [← HAL.out]
          go_roundg (l.n - (k + 1))
          case rel => exact ⟨k + 1, ⟨z.sz, z.ms, ⟨A2, z.nd.n + 1, c2, z.nd.l ++ [n2]⟩, z.most⟩, rfl, by omega, by go_num, HE2, H, F2, M0, N2⟩
          case measure => rw [Hgk.out]; omega
        · rw [if_neg hz] at hp
          obtain ⟨rfl, hb3⟩ := hp
          replace H := Lib.hid (H.out.bel hb3); (try simp only [List.set_cons_zero, List.set_cons_succ, List.cons_append, List.nil_append, List.eraseIdx_cons_zero, List.eraseIdx_cons_succ, List.setIfInBounds_toArray, World.size_alloc, selR, List.getD_cons_zero, List.getD_cons_succ] at H)
          have HEF : Hid (E = F) := by show _ = _; rw [HE.out]; exact firstErr_hit hlt HFE.out.symm hz
          have HV : Hid (∀ w', Bel w w' → LoadPost s (l.l.map Nd.con) w (.returned (.tuple #[.pointer none, .int .i64 F])) w') := by rw [← HEF.out]; exact HPE.out (by rw [HEF.out]; exact hz)
          have d1 : (F != 0) = true := by simpa using hz
          clear hb3 HEF HPE HE HTK HFE hz
          go_wp2_with fail
          refine bodyPost_ret (v := .tuple #[.pointer none, .int .i64 F]) (by kernel_rfl) rfl ?_
          exact HV.out _ H.out.to
      · obtain rfl : k = l.n := by omega
        have hE0 : E = 0 := by rw [HE.out, Nat.sub_self]; rfl
        have HF : Hid (z.nd.l.map Nd.con = l.l.map Nd.con) := by
          show _ = _
          rw [N0.out.2, List.take_of_length_le (by rw [List.length_map, hll.out]; exact Nat.le_refl _)]
        have HPV := Lib.hid (HPO.out hE0)
        clear hE0 HPO HPE HE
        simp only [arP, List.cons_append, List.nil_append] at H
        go_wp2_with fail
        refine bodyPost_ret (v := .tuple #[.pointer (some ⟨b, 0, none⟩), .int .i64 0]) (by kernel_rfl) rfl ?_
        replace H := Lib.hid (H.out.sel [1, 2, 3, 4, 5] (by decide) (by simp)); (try simp only [List.set_cons_zero, List.set_cons_succ, List.cons_append, List.nil_append, List.eraseIdx_cons_zero, List.eraseIdx_cons_succ, List.setIfInBounds_toArray, World.size_alloc, selR, List.getD_cons_zero, List.getD_cons_succ] at H)
        exact HPV.out z _ F0.out HF.out H.out

end Go.Proofs.Ytlclllkjnhgbjaa
