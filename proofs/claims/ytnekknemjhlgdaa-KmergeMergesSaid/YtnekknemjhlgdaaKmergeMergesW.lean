/- The walk of the law KmergeMerges. -/
import Derived.Test.YtnekknemjhlgdaaKmU
import Derived.Test.YtnekknemjhlgdaaRunC
namespace Go.Proofs.Ytnekknemjhlgdaa
open Go.RowKit Go.ChangeShapes Go.WideShapes Go.Deep
set_option linter.unusedVariables false
set_option linter.unusedSimpArgs false


theorem sum_le {X : List (Row Fct)} {w : World} (h : ∀ r ∈ X, r.ok w) : (runsC X).flatten.length = (X.map (·.n)).sum := by
  induction X with
  | nil => rfl
  | cons r X ih =>
    have h1 := (h r (List.mem_cons_self ..)).len
    rw [show runsC (r :: X) = cons r.l :: runsC X from rfl, List.flatten_cons, List.length_append, ih fun z hz => h z (List.mem_cons_of_mem _ hz), cons_len, h1]
    simp
theorem sumT_le {X : List (Row Fct)} (k : Nat) : ((X.take k).map (·.n)).sum ≤ (X.map (·.n)).sum := by
  conv => rhs; rw [← List.take_append_drop k X]
  rw [List.map_append, List.sum_append]
  omega
theorem passN_ceil {fan n : Nat} (hf : 2 ≤ fan) (hn : 1 < n) : passN fan n = passN fan ((n + fan - 1) / fan) + 1 := by
  unfold passN
  obtain ⟨j, rfl⟩ : ∃ j, n = j + 1 := ⟨n - 1, by omega⟩
  rw [passF, if_neg (by omega), passF_fuel hf j _ (by have := ceil_lt hf hn; omega)]
theorem ceil_rem {fan n : Nat} (hf : 2 ≤ fan) : (n + fan - 1) / fan = n / fan + (if 0 < n % fan then 1 else 0) := by
  have h := Nat.div_add_mod n fan
  have hm := Nat.mod_lt n (show 0 < fan by omega)
  generalize n / fan = q at *
  generalize n % fan = r at *
  subst h
  split
  · rw [show fan * q + r + fan - 1 = (r - 1) + fan * (q + 1) by rw [Nat.mul_add]; omega, Nat.add_mul_div_left _ _ (by omega), Nat.div_eq_of_lt (by omega)]
    omega
  · rw [show fan * q + r + fan - 1 = (fan - 1) + fan * q by omega, Nat.add_mul_div_left _ _ (by omega), Nat.div_eq_of_lt (by omega)]
    omega
set_option maxRecDepth 100000 in
set_option maxHeartbeats 8000000 in
theorem walk_kmergeMerges (w : World) (fan : Int) (wf : (Lit.int .i64 fan).wf = true) (x : Row (Row Fct)) (hx : x.ok w) :
    Calls Try.prog 9 #[.int .i64 fan, x.v] w fun e w' => e = .returned (.bool true) ∧ Bel w w' := by
  have hf2 : fan ≤ 9223372036854775807 := (i64_of wf).2
  have hf1 : -9223372036854775808 ≤ fan := (i64_of wf).1
  have HX := Lib.hid hx
  have hxl : Hid (x.l.length = x.n) := hx.len
  have HFw := Lib.hid (few22_any x w hx)
  have HMg := Lib.hid (fun w' (hb : Bel w w') h1 h2 h3 => merge_any w' x (hx.mono hb) h1 h2 h3)
  have HPs := Lib.hid (fun (k : Nat) w' (hb : Bel w w') (h : x.n ≤ 1000) h2 h3 (hk : 2 ≤ k) (hk2 : k ≤ 9223372036854775807) => passes_any k x w' ⟨hx.mono hb, h, h2, h3⟩ hk hk2)
  have H := Lib.hid (SL.start No w)
  obtain ⟨A, N, c, X⟩ := x
  simp only [Row.v] at *
  clear hx
  go_enter Try.func9, Try.ntmps9
  go_wp2_with fail
  refine HFw.out.mono ?_; rintro e w1 ⟨b, rfl, hfew, hb1⟩
  replace H := Lib.hid (H.out.bel hb1); (try simp only [List.set_cons_zero, List.set_cons_succ, List.cons_append, List.nil_append, List.eraseIdx_cons_zero, List.eraseIdx_cons_succ, List.setIfInBounds_toArray, World.size_alloc, selR, List.getD_cons_zero, List.getD_cons_succ] at H)
  clear hb1 HFw
  cases b with
  | false =>
    clear hfew
    go_wp2_with fail
    refine (awake22_any _).mono ?_; rintro e w8 ⟨rfl, hb8⟩
    go_wp2
    go_ret
    exact ⟨rfl, H.out.to.trans hb8⟩
  | true =>
    obtain ⟨hN30, hr60, hs200⟩ := hfew rfl
    have HR60 := Lib.hid hr60
    have HS200 := Lib.hid hs200
    simp only at hN30
    clear hfew hr60 hs200
    replace H := Lib.hid (H.out.addNil 174 11)
    (try simp only [List.set_cons_zero, List.set_cons_succ, List.cons_append, List.nil_append, List.eraseIdx_cons_zero, List.eraseIdx_cons_succ, List.setIfInBounds_toArray, World.size_alloc, selR, List.getD_cons_zero, List.getD_cons_succ] at H)
    have HFO : Hid (∀ f ∈ ([] : List Fct), f.ok w) := fun f hf => by cases hf
    have HCO : Hid (cons ([] : List Fct) = (runsC (X.take 0)).flatten) := by show _ = _; simp [cons]
    have HSO : Hid (∀ r ∈ runsC (X.take 0), Srt r) := fun r hr => by simp at hr
    go_wp2_with fail
    go_loopg [5, 7, 21] N (fun gg s5 s7 s21 wr => ∃ (k q d : Nat) (B : Option Addr) (out : List Fct), gg = N - k ∧ k ≤ N ∧ s21 = .int .i64 k ∧ s5 = .slice B q d ∧ q ≤ 60 * k ∧ Hid (out.length = q) ∧ Hid (∀ f ∈ out, f.ok w) ∧ Hid (cons out = (runsC (X.take k)).flatten) ∧ Hid (∀ r ∈ runsC (X.take k), Srt r) ∧ Hid (SL No w wr [rRow 174 11 (.slice B q d) q (out.flatMap Cel.cells)]))
    case atStart => exact ⟨0, 0, 0, none, [], rfl, by omega, rfl, rfl, by omega, rfl, HFO, HCO, HSO, H⟩
    case round =>
      clear H HFO HCO HSO
      obtain ⟨k, q, d, B, out, hgk, hk, rfl, rfl, hq60, HQ, HFO, HCO, HSO, H⟩ := hrel
      have Hgk := Lib.hid hgk
      clear hgk
      by_cases hlt : k < N
      · obtain ⟨bb, oo, y, hA, hyk, q1⟩ := rd_cell rfl (HX.out.mono H.out.to).rd (k := k) hlt
        simp only at hA
        subst hA
        have q1 := q1 _ rfl
        have hyok : y.ok w := HX.out.all y (List.mem_of_getElem? hyk)
        have HYK := Lib.hid hyk
        have hy60 : y.n ≤ 60 := HR60.out y (List.mem_of_getElem? hyk)
        have HYok := Lib.hid hyok
        have HSd := Lib.hid (fun w' (hb : Bel w w') => sorted_any y w' (hyok.mono hb) (by omega))
        have i0 : (0 : Int) ≤ k := by omega
        have i1 : (k : Int) < N := by omega
        clear hyk hyok
        obtain ⟨YA, yn, yc, yl⟩ := y
        simp only [Row.v] at *
        go_wp2_with fail
        refine (HSd.out _ H.out.to).mono ?_; rintro e w2 ⟨rfl, hb2⟩
        replace H := Lib.hid (H.out.bel hb2); (try simp only [List.set_cons_zero, List.set_cons_succ, List.cons_append, List.nil_append, List.eraseIdx_cons_zero, List.eraseIdx_cons_succ, List.setIfInBounds_toArray, World.size_alloc, selR, List.getD_cons_zero, List.getD_cons_succ] at H)
        clear hb2 HSd q1
        cases hso : sortedF yl with
        | false =>
          clear hso
          go_wp2_with fail
          refine (awake22_any _).mono ?_; rintro e w8 ⟨rfl, hb8⟩
          go_wp2
          go_ret
          exact ⟨rfl, H.out.to.trans hb8⟩
        | true =>
          have HSn : Hid (∀ r ∈ runsC (X.take (k + 1)), Srt r) := fun r hr => by
            rw [List.take_add_one, HYK.out, runsC, List.map_append] at hr
            rcases List.mem_append.1 hr with h | h
            · exact HSO.out r h
            · simp at h
              rw [h]
              exact chain_srt hso
          have HCn : Hid (cons (out ++ yl) = (runsC (X.take (k + 1))).flatten) := by
            show _ = _
            rw [List.take_add_one, HYK.out, runsC, List.map_append, List.flatten_append, ← runsC, ← HCO.out, show cons (out ++ yl) = cons out ++ cons yl by simp [cons]]
            simp
          have HFn : Hid (∀ f ∈ out ++ yl, f.ok w) := fun f hf => (List.mem_append.1 hf).elim (HFO.out f) (fun h => HYok.out.all f h)
          have hyln : yl.length = yn := HYok.out.len
          have HQn : Hid ((out ++ yl).length = q + yn) := by show _ = _; rw [List.length_append, HQ.out, hyln]
          have HYR := Lib.hid ((HYok.out.mono H.out.to).rd)
          clear hso HSO HCO HFO HQ hyln
          go_wp2_with ((with_reducible show wpList _ _ _ (⟨some 31, _, _, _, _, _⟩ :: _) _ _); (refine wpList_append0 rfl (.tmp 29) (.tmp 30) _ rfl E_fct 0 (Nat.zero_le _) _ q _ rfl (H.out.row 0 rfl) YA yn yc (yl.flatMap Cel.cells) rfl (HYR.out) (fun u hu => by obtain ⟨f, _, hf⟩ := List.mem_flatMap.1 hu; exact fct_onesK f u hf) (by unfold maxLen; omega) (by omega) ?_; intro vq wq howq hgq hatq; replace H := Lib.hid (H.out.setRow 0 rfl hgq howq hatq); (try simp only [List.set_cons_zero, List.set_cons_succ, List.cons_append, List.nil_append, List.eraseIdx_cons_zero, List.eraseIdx_cons_succ, List.setIfInBounds_toArray, World.size_alloc, selR, List.getD_cons_zero, List.getD_cons_succ] at H); clear howq hgq hatq; obtain ⟨B2, d2, rfl, _⟩ := own_slice (H.out.row 0 rfl)))
          rw [← List.flatMap_append] at H
          go_roundg (N - (k + 1))
          case rel => exact ⟨k + 1, q + yn, d2, B2, out ++ yl, rfl, by omega, by go_num, rfl, by omega, HQn, HFn, HCn, HSn, H⟩
          case measure => rw [Hgk.out]; omega
      · obtain rfl : k = N := by omega
        have hXt : X.take k = X := List.take_of_length_le (by rw [hxl.out]; exact Nat.le_refl _)
        rw [hXt] at HCO HSO
        have hlenR : (runsC X).flatten.length ≤ 200 := by rw [sum_le (w := w) HX.out.all]; exact HS200.out
        have hq200 : q ≤ 200 := by have h := congrArg List.length HCO.out; rw [cons_len, HQ.out] at h; omega
        have HLR := Lib.hid hlenR
        have HRW : Hid (∀ w', Bel w w' → w'.ownsRow 0 174 11 (.slice B q d) q (out.flatMap Cel.cells) → Row.ok w' (⟨B, q, d, out⟩ : Row Fct)) := fun w' hb ho => own_okK (x := ⟨B, q, d, out⟩) ho (fun f hf => ⟨(HFO.out f hf).ks.mono hb, (HFO.out f hf).ag⟩) (by show q * 104 ≤ _; omega)
        clear hXt hlenR hlt
        go_wp2_with fail
        refine (HMg.out _ H.out.to (by omega) (by have := HLR.out; omega) HSO.out).mono ?_; rintro e w2 ⟨v, fs, rfl, hG, hc⟩
        have hfl : fs.length ≤ 200 := by have h := congrArg List.length hc; rw [cons_len, sortC_len] at h; have := HLR.out; omega
        replace H := Lib.hid (H.out.bel hG.bel); (try simp only [List.set_cons_zero, List.set_cons_succ, List.cons_append, List.nil_append, List.eraseIdx_cons_zero, List.eraseIdx_cons_succ, List.setIfInBounds_toArray, World.size_alloc, selR, List.getD_cons_zero, List.getD_cons_succ] at H)
        obtain ⟨Y, rfl, hYl, hYn, hYok, _⟩ := hG.run (by omega)
        have HY := Lib.hid (fun w' (hb : Bel w2 w') => hYok.mono hb)
        have HYl : Hid (cons Y.l = sortC (runsC X).flatten) := by show _ = _; rw [hYl]; exact hc
        have hYn2 : Y.n ≤ 200 := by omega
        clear hG hc hfl hYl hYn hYok HMg
        obtain ⟨YA, yn, yc, yl⟩ := Y
        simp only [Row.v] at *
        by_cases hf : fan < 2
        · have d1 : decide (fan < 2) = true := by simpa using hf
          go_wp2_with fail
          refine (passes_not fan hf _ _).mono ?_; rintro e w3 ⟨rfl, hb3⟩
          replace H := Lib.hid (H.out.bel hb3); (try simp only [List.set_cons_zero, List.set_cons_succ, List.cons_append, List.nil_append, List.eraseIdx_cons_zero, List.eraseIdx_cons_succ, List.setIfInBounds_toArray, World.size_alloc, selR, List.getD_cons_zero, List.getD_cons_succ] at H)
          have HY3 := Lib.hid (fun w' (hb : Bel w3 w') => HY.out w' (hb3.trans hb))
          clear hb3
          go_wp2_with fail
          refine (rsort_any ⟨B, q, d, out⟩ _ (HRW.out _ H.out.to (H.out.row 0 rfl)) (by show q ≤ 1000; omega)).mono ?_; rintro e zw ⟨v, gs, rfl, hK, hgs⟩
          have hgl : gs.length = q := by have h := congrArg List.length hgs; rw [cons_len, sortC_len, cons_len] at h; rw [h]; exact HQ.out
          obtain ⟨⟨zA, zn, zc, zl⟩, rfl, hzo, hzl, hzn⟩ := hK.row (by omega)
          replace H := Lib.hid (H.out.bel hK.bel); (try simp only [List.set_cons_zero, List.set_cons_succ, List.cons_append, List.nil_append, List.eraseIdx_cons_zero, List.eraseIdx_cons_succ, List.setIfInBounds_toArray, World.size_alloc, selR, List.getD_cons_zero, List.getD_cons_succ] at H)
          (try replace HZ3 := Lib.hid (HZ3.out.trans hK.bel))
          have HS9 := Lib.hid (same_any ⟨YA, yn, yc, yl⟩ ⟨zA, zn, zc, zl⟩ _ (HY3.out _ hK.bel) hzo (by simp only; omega) (by simp only at hzn ⊢; omega))
          have hsm : sameF yl zl = true := sameF_consK (by have h : zl = gs := hzl; rw [HYl.out, h, hgs, HCO.out])
          rw [hsm] at HS9
          clear hK hgs hgl hzo hzl hzn hsm
          simp only [Row.v]
          go_wp2_with fail
          refine HS9.out.mono ?_; rintro e zv ⟨rfl, hb5⟩
          replace H := Lib.hid (H.out.bel hb5); (try simp only [List.set_cons_zero, List.set_cons_succ, List.cons_append, List.nil_append, List.eraseIdx_cons_zero, List.eraseIdx_cons_succ, List.setIfInBounds_toArray, World.size_alloc, selR, List.getD_cons_zero, List.getD_cons_succ] at H)
          (try replace HZ3 := Lib.hid (HZ3.out.trans hb5))
          clear hb5 HS9
          go_wp2_with fail
          refine (awake22_any _).mono ?_; rintro e w8 ⟨rfl, hb8⟩
          go_wp2
          go_ret
          exact ⟨rfl, H.out.to.trans hb8⟩
        · have d1 : decide (fan < 2) = false := by simp; omega
          obtain ⟨fan, rfl⟩ : ∃ k : Nat, fan = k := ⟨fan.toNat, by omega⟩
          go_wp2_with fail
          refine (HPs.out fan _ H.out.to (by omega) HSO.out (by have := HLR.out; omega) (by omega) (by omega)).mono ?_; rintro e w3 ⟨v, ps, rfl, hG, hc⟩
          have hfl : ps.length ≤ 200 := by have h := congrArg List.length hc; rw [cons_len, sortC_len] at h; have := HLR.out; omega
          replace H := Lib.hid (H.out.bel hG.bel); (try simp only [List.set_cons_zero, List.set_cons_succ, List.cons_append, List.nil_append, List.eraseIdx_cons_zero, List.eraseIdx_cons_succ, List.setIfInBounds_toArray, World.size_alloc, selR, List.getD_cons_zero, List.getD_cons_succ] at H)
          have HY3 := Lib.hid (fun w' (hb : Bel w3 w') => HY.out w' (hG.bel.trans hb))
          obtain ⟨T, rfl, hTl, hTn, hTok, _⟩ := hG.run (by omega)
          have HT := Lib.hid (fun w' (hb : Bel w3 w') => hTok.mono hb)
          have HZ3 : Hid (Bel w3 w3) := Bel.refl w3
          have HTl : Hid (cons T.l = sortC (runsC X).flatten) := by show _ = _; rw [hTl]; exact hc
          have hTn2 : T.n ≤ 200 := by omega
          clear hG hc hfl hTl hTn hTok HPs
          obtain ⟨TA, tn, tc, tl⟩ := T
          simp only [Row.v] at *
          generalize hpn : passN fan k = PN at *
          have HPN := Lib.hid hpn
          have hpk : PN ≤ k := by rw [← hpn]; exact passF_le fan k k
          clear hpn
          go_wp2_with fail
          refine (rsort_any ⟨B, q, d, out⟩ _ (HRW.out _ H.out.to (H.out.row 0 rfl)) (by show q ≤ 1000; omega)).mono ?_; rintro e zw ⟨v, gs, rfl, hK, hgs⟩
          have hgl : gs.length = q := by have h := congrArg List.length hgs; rw [cons_len, sortC_len, cons_len] at h; rw [h]; exact HQ.out
          obtain ⟨⟨zA, zn, zc, zl⟩, rfl, hzo, hzl, hzn⟩ := hK.row (by omega)
          replace H := Lib.hid (H.out.bel hK.bel); (try simp only [List.set_cons_zero, List.set_cons_succ, List.cons_append, List.nil_append, List.eraseIdx_cons_zero, List.eraseIdx_cons_succ, List.setIfInBounds_toArray, World.size_alloc, selR, List.getD_cons_zero, List.getD_cons_succ] at H)
          (try replace HZ3 := Lib.hid (HZ3.out.trans hK.bel))
          have HS9 := Lib.hid (same_any ⟨YA, yn, yc, yl⟩ ⟨zA, zn, zc, zl⟩ _ (HY3.out _ hK.bel) hzo (by simp only; omega) (by simp only at hzn ⊢; omega))
          have hsm : sameF yl zl = true := sameF_consK (by have h : zl = gs := hzl; rw [HYl.out, h, hgs, HCO.out])
          rw [hsm] at HS9
          clear hK hgs hgl hzo hzl hzn hsm
          simp only [Row.v]
          go_wp2_with fail
          refine HS9.out.mono ?_; rintro e zv ⟨rfl, hb5⟩
          replace H := Lib.hid (H.out.bel hb5); (try simp only [List.set_cons_zero, List.set_cons_succ, List.cons_append, List.nil_append, List.eraseIdx_cons_zero, List.eraseIdx_cons_succ, List.setIfInBounds_toArray, World.size_alloc, selR, List.getD_cons_zero, List.getD_cons_succ] at H)
          (try replace HZ3 := Lib.hid (HZ3.out.trans hb5))
          clear hb5 HS9
          have HCt : Hid (0 + passN fan k = PN) := by show _ = _; rw [HPN.out]; omega
          have f0 : ¬ (fan : Int) = 0 := by omega
          have f1 : ((fan : Int) == 0) = false := by simp <;> omega
          go_wp2_with fail
          go_loopg [12, 13, 14] k (fun gg s12 s13 s14 wr => ∃ (t left : Nat), gg = left ∧ left ≤ k ∧ t ≤ k ∧ s12 = .int .i64 t ∧ s13 = .int .i64 left ∧ Hid (t + passN fan left = PN) ∧ zv = wr)
          case atStart => exact ⟨0, k, rfl, by omega, by omega, rfl, rfl, HCt, rfl⟩
          case round =>
            clear HCt
            obtain ⟨t, left, hgk, hlk, htk, rfl, rfl, HCt, rfl⟩ := hrel
            have Hgk2 := Lib.hid hgk
            clear hgk
            by_cases hl1 : 1 < left
            · have d3 : decide ((1 : Int) < left) = true := by simp <;> omega
              have q1 : (left : Int).tdiv fan = ((left / fan : Nat) : Int) := rfl
              have q2 : (left : Int).tmod fan = ((left % fan : Nat) : Int) := rfl
              have hst := passN_ceil (n := left) (by omega : 2 ≤ fan) hl1
              have hlt := ceil_lt (n := left) (by omega : 2 ≤ fan) hl1
              have hrm := ceil_rem (n := left) (by omega : 2 ≤ fan)
              have HST := Lib.hid hst
              obtain ⟨D, hD⟩ : ∃ D, D = left / fan := ⟨_, rfl⟩
              obtain ⟨M, hM⟩ : ∃ M, M = left % fan := ⟨_, rfl⟩
              rw [← hD] at q1 hrm
              rw [← hM] at q2 hrm
              have hD2 : D ≤ left := by rw [hD]; exact Nat.div_le_self _ _
              clear hst hD hM
              by_cases hM0 : 0 < M
              · have d4 : decide ((0 : Int) < M) = true := by simp <;> omega
                rw [if_pos hM0] at hrm
                have HRM := Lib.hid hrm
                have hnx : D + 1 < left := by omega
                have HC2 : Hid (t + 1 + passN fan (D + 1) = PN) := by show _ = _; have h := HCt.out; rw [HST.out, HRM.out] at h; omega
                have htk2 : t + 1 ≤ k := by have := HC2.out; omega
                clear hrm hlt HST HCt
                go_wp2_with fail
                go_roundg (D + 1)
                case rel => exact ⟨t + 1, D + 1, rfl, by omega, htk2, by go_num, by go_num, HC2, rfl⟩
                case measure => rw [Hgk2.out]; exact hnx
              · have d4 : decide ((0 : Int) < M) = false := by simp <;> omega
                rw [if_neg hM0, Nat.add_zero] at hrm
                have HRM := Lib.hid hrm
                have hnx : D < left := by omega
                have HC2 : Hid (t + 1 + passN fan D = PN) := by show _ = _; have h := HCt.out; rw [HST.out, HRM.out] at h; omega
                have htk2 : t + 1 ≤ k := by have := HC2.out; omega
                clear hrm hlt HST HCt
                go_wp2_with fail
                go_roundg D
                case rel => exact ⟨t + 1, D, rfl, by omega, htk2, by go_num, by go_num, HC2, rfl⟩
                case measure => rw [Hgk2.out]; exact hnx
            · have d3 : decide ((1 : Int) < left) = false := by simp <;> omega
              obtain rfl : t = PN := by have h := HCt.out; rw [passN_small (by omega)] at h; omega
              go_wp2_with fail
              refine (rsort_any ⟨B, q, d, out⟩ _ (HRW.out _ H.out.to (H.out.row 0 rfl)) (by show q ≤ 1000; omega)).mono ?_; rintro e yw ⟨v, gs, rfl, hK, hgs⟩
              have hgl : gs.length = q := by have h := congrArg List.length hgs; rw [cons_len, sortC_len, cons_len] at h; rw [h]; exact HQ.out
              obtain ⟨⟨zA, zn, zc, zl⟩, rfl, hzo, hzl, hzn⟩ := hK.row (by omega)
              replace H := Lib.hid (H.out.bel hK.bel); (try simp only [List.set_cons_zero, List.set_cons_succ, List.cons_append, List.nil_append, List.eraseIdx_cons_zero, List.eraseIdx_cons_succ, List.setIfInBounds_toArray, World.size_alloc, selR, List.getD_cons_zero, List.getD_cons_succ] at H)
              (try replace HZ3 := Lib.hid (HZ3.out.trans hK.bel))
              have HS9 := Lib.hid (same_any ⟨TA, tn, tc, tl⟩ ⟨zA, zn, zc, zl⟩ _ (HT.out _ HZ3.out) hzo (by simp only; omega) (by simp only at hzn ⊢; omega))
              have hsm : sameF tl zl = true := sameF_consK (by have h : zl = gs := hzl; rw [HTl.out, h, hgs, HCO.out])
              rw [hsm] at HS9
              clear hK hgs hgl hzo hzl hzn hsm
              simp only [Row.v]
              go_wp2_with fail
              refine HS9.out.mono ?_; rintro e yv ⟨rfl, hb5⟩
              replace H := Lib.hid (H.out.bel hb5); (try simp only [List.set_cons_zero, List.set_cons_succ, List.cons_append, List.nil_append, List.eraseIdx_cons_zero, List.eraseIdx_cons_succ, List.setIfInBounds_toArray, World.size_alloc, selR, List.getD_cons_zero, List.getD_cons_succ] at H)
              (try replace HZ3 := Lib.hid (HZ3.out.trans hb5))
              clear hb5 HS9
              have q9 : (((t : Nat) : Int) == ((t : Nat) : Int)) = true := by simp
              go_wp2_with fail
              refine (awake22_any _).mono ?_; rintro e w8 ⟨rfl, hb8⟩
              go_wp2
              go_ret
              exact ⟨rfl, H.out.to.trans hb8⟩

set_option maxRecDepth 100000 in
theorem open_runs {H : Type} {enc : TypeId × Value → H} {w : World} {base b0 : Nat} {spare : Nat → Bool} {held : Bool} {r : Reach} {v : Value} {d : DataW H} {p : List MemPlace}
    (hv : Value.okWide Try.prog w r b0 94 v) (h : DataW.Trod enc Try.prog w base spare held 94 v d p) (hz : Sized Try.prog 94 d) : ∃ x : Row (Row Fct), v = x.v ∧ x.ok w := open_row (α := Row Fct) Try.underlying94 (by kernel_rfl) (by kernel_rfl) opens_fcts hv h hz

end Go.Proofs.Ytnekknemjhlgdaa
