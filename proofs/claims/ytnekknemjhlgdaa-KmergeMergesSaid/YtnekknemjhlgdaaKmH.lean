/- kmerge.Merge. -/
import Derived.Test.YtnekknemjhlgdaaKmG
namespace Go.Proofs.Ytnekknemjhlgdaa
open Go.RowKit
set_option linter.unusedVariables false
set_option linter.unusedSimpArgs false


set_option maxRecDepth 100000 in
set_option maxHeartbeats 8000000 in
theorem merge_any (w : World) (x : Row (Row Fct)) (hx : x.ok w) (hn : x.n ≤ 1000) (ht : (runsC x.l).flatten.length ≤ 100000) (hs : ∀ r ∈ runsC x.l, Srt r) :
    Calls Try.prog 51 #[.slice x.A x.n x.c] w (RunPost (sortC (runsC x.l).flatten) w) := by
  have HX := Lib.hid hx
  have hlen : Hid (x.l.length = x.n) := hx.len
  obtain ⟨A0, N, c0, X⟩ := x
  simp only at *
  obtain ⟨R, hR⟩ : ∃ R, R = runsC X := ⟨_, rfl⟩
  have HRl : Hid (R.length = N) := by show _ = _; rw [hR, List.length_map]; exact hlen.out
  have HRg : Hid (∀ (k : Nat) (y : Row Fct), X[k]? = some y → R[k]? = some (cons y.l)) := fun k y h => by rw [hR, List.getElem?_map, h]; rfl
  rw [← hR] at ht hs ⊢
  have HS0 := Lib.hid hs
  have HT := Lib.hid ht
  clear hR hx ht hs
  go_enter Try.func51, Try.ntmps51
  go_upto_region 2 with fail
  have H := Lib.hid ((((SL.start No w).addRow ((Bel.refl _).alloc _) (own_empty w 188 2)).alloc #[.slice (some ⟨w.heap.size, 0, none⟩) 0 0] 185).rot)
  (try simp only [List.set_cons_zero, List.set_cons_succ, List.cons_append, List.nil_append, List.eraseIdx_cons_zero, List.eraseIdx_cons_succ, List.setIfInBounds_toArray, World.size_alloc, selR, List.getD_cons_zero, List.getD_cons_succ] at H)
  generalize w.heap.size + 1 = g at *
  generalize World.alloc (World.alloc _ _) _ = w1 at *
  generalize (some (⟨w.heap.size, 0, none⟩ : Addr)) = A at *
  have HP : Hid ((List.map HdR.con ([] : List HdR)).Perm (headsF 0 (R.take 0))) := by rw [List.take_zero]; exact List.Perm.nil
  have HH : Hid (Heap (List.map HdR.con ([] : List HdR)) 0) := fun k a b h0 hk => by omega
  have HOK : Hid (∀ h ∈ ([] : List HdR), h.ok w) := fun h hh => by cases hh
  replace H : Hid (SL No w w1 (rHeap g A 0 0 [] [])) := H
  go_wp2_with fail
  go_loopg [12, 4, 5] N (fun gg s12 s4 s5 wr => ∃ (k m c : Nat) (A : Option Addr) (L : List HdR), gg = N - k ∧ k ≤ N ∧ m ≤ k ∧ s12 = .int .i64 k ∧ Hid ((L.map HdR.con).Perm (headsF 0 (R.take k))) ∧ Hid (Heap (L.map HdR.con) m) ∧ Hid (∀ h ∈ L, h.ok w) ∧ Hid (SL No w wr (rHeap g A m c L [])))
  case atStart => exact ⟨0, 0, 0, A, [], rfl, by omega, by omega, rfl, HP, HH, HOK, H⟩
  case round =>
    clear H HP HH HOK
    obtain ⟨k, m, c, A, L, hgk, hk, hmk, rfl, HP, HH, HOK, H⟩ := hrel
    have Hgk := Lib.hid hgk
    clear hgk
    by_cases hlt : k < N
    · obtain ⟨bb, oo, y, hA, hyk, q1⟩ := rd_cell rfl (HX.out.mono H.out.to).rd (k := k) hlt
      simp only at hA
      subst hA
      have q1 := q1 _ rfl
      have hyok : y.ok w := HX.out.all y (List.mem_of_getElem? hyk)
      have HRk := Lib.hid (HRg.out k y hyk)
      have hyl : (cons y.l).length = y.n := by rw [cons_len]; exact hyok.len
      have i0 : (0 : Int) ≤ k := by omega
      have i1 : (k : Int) < N := by omega
      clear hyk
      obtain ⟨YA, yn, yc, yl⟩ := y
      simp only [Row.v] at *
      by_cases hy0 : 0 < yn
      · have d1 : decide ((0 : Int) < yn) = true := by simp; omega
        have HYok := Lib.hid hyok
        have HPn : Hid (headsF 0 (R.take (k + 1)) = headsF 0 (R.take k) ++ [(cons yl, k)]) := by show _ = _; rw [heads_snoc HRk.out, if_neg (fun e => by rw [e] at hyl; simp at hyl; omega)]
        have hbd : ∀ w : World, (Instr.build 188 #[(0, .slice YA yn yc), (1, .int .i64 k)]).run Try.prog w = .ok (.agg #[.slice YA yn yc, .int .i64 k]) w := fun _ => by kernel_rfl
        clear hyl hyok
        go_wp2_with ((with_reducible show wpList _ _ _ (⟨some 24, _, _, _, _, _⟩ :: _) _ _); refine wpList_build2K rfl (.tmp 22) (.tmp 23) rfl rfl rfl hbd ?_)
        refine (hpPush_any w _ g A m c L [] ⟨⟨YA, yn, yc, yl⟩, k⟩ H.out (by omega) HOK.out ⟨HYok.out, hy0, by show k ≤ _; omega⟩ HH.out).mono ?_; rintro e w3 ⟨rfl, A2, c2, L2, hp, hh, hs3⟩
        have HP2 : Hid ((L2.map HdR.con).Perm (headsF 0 (R.take (k + 1)))) := by
          show List.Perm _ _
          rw [HPn.out]
          refine (hp.map HdR.con).trans ?_
          rw [List.map_append]
          exact HP.out.append_right _
        have HOK2 : Hid (∀ h ∈ L2, h.ok w) := fun h hm => by
          rcases List.mem_append.1 (hp.mem_iff.1 hm) with h1 | h1
          · exact HOK.out h h1
          · rw [List.mem_singleton] at h1; subst h1; exact ⟨HYok.out, hy0, by show k ≤ _; omega⟩
        have HH2 := Lib.hid hh
        clear HP HH HOK HPn hp hh H
        have H := Lib.hid hs3
        clear hs3 hbd d1 q1
        go_wp2_with fail
        go_roundg (N - (k + 1))
        case rel => exact ⟨k + 1, m + 1, c2, A2, L2, rfl, by omega, by omega, by go_num, HP2, HH2, HOK2, H⟩
        case measure => rw [Hgk.out]; omega
      · have d1 : decide ((0 : Int) < yn) = false := by simp; omega
        have HP2 : Hid ((L.map HdR.con).Perm (headsF 0 (R.take (k + 1)))) := by
          show List.Perm _ _
          rw [heads_snoc HRk.out, if_pos (List.eq_nil_of_length_eq_zero (by rw [hyl]; omega)), List.append_nil]
          exact HP.out
        clear HP hyl hyok
        go_wp2_with fail
        clear q1 d1
        go_roundg (N - (k + 1))
        case rel => exact ⟨k + 1, m, c, A, L, rfl, by omega, by omega, by go_num, HP2, HH, HOK, H⟩
        case measure => rw [Hgk.out]; omega
    · obtain rfl : k = N := by omega
      have HP0 : Hid ((L.map HdR.con).Perm (headsF 0 R)) := by have h := HP.out; rw [List.take_of_length_le (by rw [HRl.out]; exact Nat.le_refl _)] at h; exact h
      replace H : Hid (SL No w wr [rBlk g 185 #[.slice A m c], rRow 188 2 (.slice A m c) m (L.flatMap Cel.cells), rRow 174 11 (.slice none 0 0) 0 []]) := Lib.hid (H.out.addNil 174 11)
      have HCO : Hid (cons [] ++ sortC R.flatten = sortC R.flatten) := rfl
      have HFO : Hid (∀ f ∈ ([] : List Fct), f.ok w) := fun f hf => by cases hf
      clear HP
      go_wp2_with fail
      clear hlt
      go_loopg [6, 7] R.flatten.length (fun gg s6 s7 wr => ∃ (m c : Nat) (A : Option Addr) (L : List HdR) (Rm : List (List Con)) (B : Option Addr) (q d : Nat) (out : List Fct), gg = Rm.flatten.length ∧ s6 = .slice B q d ∧ m ≤ k ∧ Hid (out.length = q) ∧ Hid (q + Rm.flatten.length = R.flatten.length) ∧ Hid ((L.map HdR.con).Perm (headsF 0 Rm)) ∧ Hid (Heap (L.map HdR.con) m) ∧ Hid (∀ h ∈ L, h.ok w) ∧ Hid (∀ l ∈ Rm, Srt l) ∧ Hid (cons out ++ sortC Rm.flatten = sortC R.flatten) ∧ Hid (∀ f ∈ out, f.ok w) ∧ Hid (SL No w wr [rBlk g 185 #[.slice A m c], rRow 188 2 (.slice A m c) m (L.flatMap Cel.cells), rRow 174 11 (.slice B q d) q (out.flatMap Cel.cells)]))
      case atStart => exact ⟨m, c, A, L, R, none, 0, 0, [], rfl, rfl, hmk, Lib.hid rfl, Lib.hid (Nat.zero_add _), HP0, HH, HOK, HS0, HCO, HFO, H⟩
      case round =>
        clear H HP0 HH HOK HS0 HCO HFO
        obtain ⟨m, c, A, L, Rm, B, q, d, out, hgk, rfl, hmk, hq, hqT, HP, HH, HOK, HSr, HCO, HFO, H⟩ := hrel
        have Hgk2 := Lib.hid hgk
        have HQ := Lib.hid hq.out
        clear hgk hq
        have ch := (H.out.blk 0 rfl).cell 0; simp only [List.getElem?_toArray, List.getElem?_cons_zero, List.getElem?_cons_succ] at ch
        go_wp2_with fail
        clear ch
        refine (hlen_any _ _ _ _).mono ?_; rintro e w3 ⟨rfl, rfl⟩
        by_cases hm0 : 0 < m
        · obtain ⟨m, rfl⟩ : ∃ m', m = m' + 1 := ⟨m - 1, by omega⟩
          have d1 : decide ((0 : Int) < ((m + 1 : Nat) : Int)) = true := by simp <;> omega
          obtain ⟨b, a, rfl, hb, ha0, hrg, ca0, ca1⟩ := heads_at (H.out.row 1 rfl) (k := 0) (by omega)
          have haok : a.ok w := HOK.out a (List.mem_of_getElem? ha0)
          obtain ⟨fb, fo, f, hLA, hfb, hf0, hfok, _, hfr, _⟩ := (haok.left.mono H.out.to).fct haok.n1
          have HFok : Hid (f.ok w) := haok.left.all f (List.mem_of_getElem? hf0)
          have HR := Lib.hid hfr
          have hch := cons_head hf0
          have HCH := Lib.hid hch
          have h0 : (L.map HdR.con)[0]? = some (f.con :: cons (a.left.l.drop 1), a.no) := by rw [map_get ha0]; show some (cons a.left.l, a.no) = _; rw [hch]
          have hlm : (L.map HdR.con).length = m + 1 := by rw [List.length_map]; exact rd_len (Rd.of_own (H.out.row 1 rfl))
          have hst := merge_step HP.out (by rw [hlm]; exact HH.out) h0 HSr.out
          have HJ := Lib.hid hst.1
          have HST := Lib.hid hst.2
          have HNX := Lib.hid (merge_next HP.out h0 hst.1)
          have HA0 := Lib.hid ha0
          have HSR2 := Lib.hid (srt_set HSr.out hst.1)
          clear hst hfr hch h0 hlm hrg ca1 hf0 hfok hfb ha0 hb
          have hq1 : q ≤ 100000 := by have := hqT.out; have := HT.out; omega
          have hsl := slice_tail a.left haok.n1
          have HAOK := Lib.hid haok
          have ca0 : wr.cell? ⟨b, 0, none⟩ = some (.slice a.left.A a.left.n a.left.c) := by simpa using ca0
          have n1 := haok.n1
          clear haok
          obtain ⟨⟨LA, ln, lc, ll⟩, no⟩ := a
          simp only at *
          subst hLA
          have n1i : (0 : Int) < ln := by omega
          have ch := (H.out.blk 0 rfl).cell 0; simp only [List.getElem?_toArray, List.getElem?_cons_zero, List.getElem?_cons_succ] at ch
          go_upto_region 12 with (first | ((with_reducible show wpList _ _ _ (⟨some 43, _, _, _, _, _⟩ :: _) _ _); (refine wpList_load_row_at rfl rowFct (.tmp 42) rfl fb (fo) rfl f.cs rfl HR.out ?_)) | ((with_reducible show wpList _ _ _ (⟨some 44, _, _, _, _, _⟩ :: _) _ _); (refine wpList_buildSlice1 rfl E_fct (.tmp 43) rfl (f.cs) rfl (fct_size f) (by omega) ?_; replace H := Lib.hid (H.out.addRow ((Bel.refl _).alloc _) (own_madeK _ 174 (f.cs) 11 (fct_size f))); (try simp only [List.set_cons_zero, List.set_cons_succ, List.cons_append, List.nil_append, List.eraseIdx_cons_zero, List.eraseIdx_cons_succ, List.setIfInBounds_toArray, World.size_alloc, selR, List.getD_cons_zero, List.getD_cons_succ] at H))) | ((with_reducible show wpList _ _ _ (⟨some 45, _, _, _, _, _⟩ :: _) _ _); (refine wpList_append0 rfl (.tmp 37) (.tmp 44) _ rfl E_fct 0 (Nat.zero_le _) _ q _ rfl (H.out.row 2 rfl) _ 1 1 f.cs.toList rfl (Rd.of_own (H.out.row 3 rfl)) (fct_onesK f) (by unfold maxLen; omega) (by omega) ?_; intro vq wq howq hgq hatq; replace H := Lib.hid (H.out.setRow 2 rfl hgq howq hatq); (try simp only [List.set_cons_zero, List.set_cons_succ, List.cons_append, List.nil_append, List.eraseIdx_cons_zero, List.eraseIdx_cons_succ, List.setIfInBounds_toArray, World.size_alloc, selR, List.getD_cons_zero, List.getD_cons_succ] at H); clear howq hgq hatq; obtain ⟨B2, d2, rfl, _⟩ := own_slice (H.out.row 2 rfl))))
          (try simp only [Act.put, List.setIfInBounds_toArray, List.set_cons_zero, List.set_cons_succ])
          replace H := Lib.hid (H.out.sel [0, 1, 2] (by decide) (by simp)); (try simp only [List.set_cons_zero, List.set_cons_succ, List.cons_append, List.nil_append, List.eraseIdx_cons_zero, List.eraseIdx_cons_succ, List.setIfInBounds_toArray, World.size_alloc, selR, List.getD_cons_zero, List.getD_cons_succ] at H)
          clear ch n1i ca0
          (try simp only [List.set_cons_zero, List.set_cons_succ, List.cons_append, List.nil_append, List.eraseIdx_cons_zero, List.eraseIdx_cons_succ, List.setIfInBounds_toArray, World.size_alloc, selR, List.getD_cons_zero, List.getD_cons_succ] at H)
          have HCO2 : Hid (cons (out ++ [f]) ++ sortC (Rm.set no (cons (ll.drop 1))).flatten = sortC R.flatten) := by
            show _ = _
            rw [← HCO.out, HST.out, show cons (out ++ [f]) = cons out ++ [f.con] by simp [cons]]
            simp
          have HFO2 : Hid (∀ z ∈ out ++ [f], z.ok w) := fun z hz => (List.mem_append.1 hz).elim (HFO.out z) (fun h => by rw [List.mem_singleton] at h; subst h; exact HFok.out)
          have HQ2 : Hid ((out ++ [f]).length = q + 1) := by show _ = _; rw [List.length_append, HQ.out]; rfl
          have hflat : out.flatMap Cel.cells ++ f.cs.toList = (out ++ [f]).flatMap Cel.cells := by simp [Cel.cells]
          rw [hflat] at H
          have hlen2 : (Rm.set no (cons (ll.drop 1))).flatten.length + 1 = Rm.flatten.length := by
            have h := congrArg List.length HST.out
            rw [sortC_len, List.length_cons, sortC_len] at h
            omega
          have HL2 := Lib.hid hlen2
          have HQT2 : Hid (q + 1 + (Rm.set no (cons (ll.drop 1))).flatten.length = R.flatten.length) := by show _ = _; have := hqT.out; omega
          clear hflat hlen2 HCO HFO HQ hqT HST HSr
          have ca0 := (heads_at (H.out.row 1 rfl) (k := 0) (by omega))
          obtain ⟨b', a', hb', _, ha', _, ca0, _⟩ := ca0
          injection hb' with hb'; injection hb' with hb'; subst hb'
          rw [HA0.out] at ha'; injection ha' with ha'; subst ha'
          rw [Nat.zero_mul] at ca0
          have fa0 := own_froz (H.out.row 1 rfl) (o := 0) (by omega)
          generalize hTA : (fctTail ⟨some ⟨fb, fo, none⟩, ln, lc, ll⟩).A = TA at *
          generalize hTN : (fctTail ⟨some ⟨fb, fo, none⟩, ln, lc, ll⟩).n = TN at *
          generalize hTC : (fctTail ⟨some ⟨fb, fo, none⟩, ln, lc, ll⟩).c = TC at *
          have HTA := Lib.hid hTA
          have HTN := Lib.hid hTN
          have HTC := Lib.hid hTC
          clear hTA hTN hTC
          go_upto_region 13 with ((with_reducible show wpList _ _ _ (⟨some 51, _, _, _, _, _⟩ :: _) _ _); refine wpList_sliceK rfl (.tmp 50) (some (.const (.int .i64 1))) none rfl hsl ?_)
          (try simp only [Act.put, List.setIfInBounds_toArray, List.set_cons_zero, List.set_cons_succ])
          replace H := Lib.hid (H.out.setRow 1 rfl (grownBy_setCell _ b 0 (.slice TA TN TC)) (own_setCellG (H.out.row 1 rfl) (by omega) (.slice TA TN TC)) (.inl rfl)); (try simp only [List.set_cons_zero, List.set_cons_succ, List.cons_append, List.nil_append, List.eraseIdx_cons_zero, List.eraseIdx_cons_succ, List.setIfInBounds_toArray, World.size_alloc, selR, List.getD_cons_zero, List.getD_cons_succ] at H)
          generalize World.setCell _ _ _ = wz at *
          rw [set_head (l' := ll.drop 1) HA0.out] at H
          obtain ⟨a2, ha2⟩ : ∃ a2 : HdR, a2 = ⟨⟨TA, TN, TC, ll.drop 1⟩, no⟩ := ⟨_, rfl⟩
          have HTL : Hid ((⟨TA, TN, TC, ll.drop 1⟩ : Row Fct) = fctTail ⟨some ⟨fb, fo, none⟩, ln, lc, ll⟩) := by show _ = _; rw [← HTA.out, ← HTN.out, ← HTC.out]; rfl
          have HTok : Hid (Row.ok w (⟨TA, TN, TC, ll.drop 1⟩ : Row Fct)) := by show Row.ok _ _; rw [HTL.out]; exact tail_ok HAOK.out.left HAOK.out.n1
          have HLT : Hid ((cons (ll.drop 1)).length = TN) := by show _ = _; rw [cons_len]; exact HTok.out.len
          have HNo := HAOK.out.no
          have HNo : no ≤ 1000000 := HNo
          obtain ⟨L2, hL2⟩ : ∃ L2, L2 = L.set 0 a2 := ⟨_, rfl⟩
          rw [← ha2, ← hL2] at H
          have HG0 : Hid (L2[0]? = some a2) := by show _ = _; rw [hL2, List.getElem?_set_self (List.getElem?_eq_some_iff.1 HA0.out).1]
          have HGk : Hid (∀ k, 0 < k → L2[k]? = L[k]?) := fun k hk => by rw [hL2, List.getElem?_set_ne (by omega)]
          have HRT := Lib.hid (heap_root (r' := a2) HA0.out HH.out)
          rw [← hL2] at HRT
          have HMP : Hid (L2.map HdR.con = (L.map HdR.con).set 0 (cons (ll.drop 1), no)) := by show _ = _; rw [hL2, List.map_set, ha2]
          have HA2 := Lib.hid ha2
          have HL2' : Hid (L.map HdR.con = (f.con :: cons (ll.drop 1), no) :: (L.map HdR.con).tail ∧ L2.map HdR.con = (cons (ll.drop 1), no) :: (L.map HdR.con).tail) := by
            have h1 := map_get HA0.out
            show _ ∧ _
            rw [HMP.out]
            cases hq : L.map HdR.con with
            | nil => rw [hq] at h1; simp at h1
            | cons z zs =>
              have hz : L[0]? = some _ := HA0.out
              have hj := (List.getElem?_eq_some_iff.1 HJ.out).1
              refine ⟨?_, rfl⟩
              rw [hq] at h1
              injection h1 with h1
              rw [List.tail_cons, h1]
              congr 1
              show (cons ll, no) = _
              rw [HCH.out]
          clear hL2 ha2 ca0 fa0 hsl HMP
          have ca0 := (heads_at (H.out.row 1 rfl) (k := 0) (by omega))
          obtain ⟨b', a', hb', _, ha', _, ca0, _⟩ := ca0
          injection hb' with hb'; injection hb' with hb'; subst hb'
          rw [HG0.out] at ha'; injection ha' with ha'; subst ha'
          rw [Nat.zero_mul, HA2.out] at ca0
          by_cases hz : TN = 0
          · have dz : decide (TN = 0) = true := by simp [hz]
            have HT0 : Hid (cons (ll.drop 1) = []) := List.eq_nil_of_length_eq_zero (by rw [HLT.out]; exact hz)
            subst hz
            go_wp2_with fail
            refine (hpPop_any w _ g (some ⟨b, 0, none⟩) m c L2 [rRow 174 11 (.slice B2 (q + 1) d2) (q + 1) ((out ++ [f]).flatMap Cel.cells)] a2 H.out (by omega) HG0.out (fun k x h0 hx => by rw [HGk.out k h0] at hx; exact HOK.out x (List.mem_of_getElem? hx)) (HRT.out.2 (by rw [HA2.out]; exact HT0.out))).mono ?_; rintro e w9 ⟨⟨v, rfl⟩, L', hp, hh, hs9⟩
            have HP2 : Hid ((L'.map HdR.con).Perm (headsF 0 (Rm.set no (cons (ll.drop 1))))) := by
              refine HNX.out.2 HT0.out _ ?_
              have h1 := hp.map HdR.con
              rw [List.map_append, HL2'.out.2, List.map_singleton, HA2.out] at h1
              rw [HL2'.out.1]
              have h2 : ((cons (ll.drop 1), no) :: L'.map HdR.con).Perm ((cons (ll.drop 1), no) :: (L.map HdR.con).tail) := (List.perm_append_singleton _ _).symm.trans h1
              exact (h2.cons_inv.symm.cons _).trans (List.perm_append_singleton _ _).symm
            have HOK2 : Hid (∀ h ∈ L', h.ok w) := fun h hm => by
              have hc : L2 = a2 :: L2.tail := by
                have hg := HG0.out
                cases hq : L2 with
                | nil => rw [hq] at hg; simp at hg
                | cons z zs => rw [hq] at hg; injection hg with hg; subst hg; rfl
              have h2 : (a2 :: L').Perm (a2 :: L2.tail) := by rw [← hc]; exact (List.perm_append_singleton _ _).symm.trans hp
              obtain ⟨k, hk⟩ := List.mem_iff_getElem?.1 (h2.cons_inv.mem_iff.1 hm)
              have hk2 : L2[k + 1]? = some h := by rw [hc, List.getElem?_cons_succ]; exact hk
              rw [HGk.out (k + 1) (by omega)] at hk2
              exact HOK.out h (List.mem_of_getElem? hk2)
            have HH2 := Lib.hid hh
            clear H hp hh ca0
            have H := Lib.hid hs9
            clear hs9
            go_wp2_with fail
            go_roundg ((Rm.set no (cons (ll.drop 1))).flatten.length)
            case rel => exact ⟨m, c, some ⟨b, 0, none⟩, L', _, B2, q + 1, d2, out ++ [f], rfl, rfl, by omega, HQ2, HQT2, HP2, HH2, HOK2, HSR2, HCO2, HFO2, H⟩
            case measure => rw [Hgk2.out]; have := HL2.out; omega
          · have dz : decide (TN = 0) = false := by simp [hz]
            have HT0 : Hid (cons (ll.drop 1) ≠ []) := fun e => by have := HLT.out; rw [e] at this; simp at this; omega
            go_wp2_with fail
            have HOK1 : Hid (∀ h ∈ L2, h.ok w) := fun h hm => by
              obtain ⟨k, hk⟩ := List.mem_iff_getElem?.1 hm
              by_cases h0 : k = 0
              · subst h0
                rw [HG0.out] at hk; injection hk with hk; subst hk
                rw [HA2.out]
                exact ⟨HTok.out, by show 1 ≤ TN; omega, HNo⟩
              · rw [HGk.out k (by omega)] at hk
                exact HOK.out h (List.mem_of_getElem? hk)
            refine (hpFix_any w _ g (some ⟨b, 0, none⟩) (m + 1) c L2 [rRow 174 11 (.slice B2 (q + 1) d2) (q + 1) ((out ++ [f]).flatMap Cel.cells)] H.out (by omega) (by omega) HOK1.out HRT.out.1).mono ?_; rintro e w9 ⟨rfl, L', hp, hh, hs9⟩
            have HP2 : Hid ((L'.map HdR.con).Perm (headsF 0 (Rm.set no (cons (ll.drop 1))))) := by
              refine (hp.map HdR.con).trans ?_
              rw [HL2'.out.2]
              have h1 := HNX.out.1 HT0.out
              rw [HL2'.out.1] at h1
              exact h1
            have HOK2 : Hid (∀ h ∈ L', h.ok w) := fun h hm => HOK1.out h (hp.mem_iff.1 hm)
            have HH2 := Lib.hid hh
            clear H hp hh ca0
            have H := Lib.hid hs9
            clear hs9
            go_wp2_with fail
            go_roundg ((Rm.set no (cons (ll.drop 1))).flatten.length)
            case rel => exact ⟨m + 1, c, some ⟨b, 0, none⟩, L', _, B2, q + 1, d2, out ++ [f], rfl, rfl, by omega, HQ2, HQT2, HP2, HH2, HOK2, HSR2, HCO2, HFO2, H⟩
            case measure => rw [Hgk2.out]; have := HL2.out; omega
        · obtain rfl : m = 0 := by omega
          have hL0 : L = [] := List.eq_nil_of_length_eq_zero (rd_len (Rd.of_own (H.out.row 1 rfl)))
          have hfl : Rm.flatten = [] := flatten_nil (by have h := HP.out; rw [hL0] at h; exact h)
          have HCO2 : Hid (cons out = sortC R.flatten) := by have h := HCO.out; rw [hfl, show sortC [] = [] from rfl, List.append_nil] at h; exact h
          have hq1 : q ≤ 100000 := by have := hqT.out; have := HT.out; omega
          have HX0 := Lib.hid (clone_any ⟨B, q, d, out⟩ wr (own_okK (x := ⟨B, q, d, out⟩) (H.out.row 2 rfl) (fun f hf => ⟨(HFO.out f hf).ks.mono H.out.to, (HFO.out f hf).ag⟩) (by show q * 104 ≤ _; omega)) (by show q ≤ _; omega))
          clear hL0 hfl HP HCO
          go_wp2_with fail
          refine HX0.out.mono ?_; rintro e w9 ⟨v, fs, rfl, hG, hc⟩
          have HRS : Hid (RunPost (sortC R.flatten) w (.returned v) w9) := ⟨v, fs, rfl, hG.from_ H.out.to, by rw [hc]; exact HCO2.out⟩
          clear hG hc HX0
          go_wp2
          go_ret
          exact HRS.out

end Go.Proofs.Ytnekknemjhlgdaa
