/- dim.above, dim.Check, and the document's. -/
import Derived.Test.YtnekknemjhlgdaaDimP
import Derived.Test.YtnekknemjhlgdaaBe
namespace Go.Proofs.Ytnekknemjhlgdaa
open Go.RowKit
set_option linter.unusedVariables false
set_option linter.unusedSimpArgs false

abbrev Dm.con (d : Dm) : DC := ⟨d.nm, d.tr.l.map Tir.con⟩

set_option maxRecDepth 100000 in
set_option maxHeartbeats 1000000 in
theorem dabove_any (d : Dm) (k : Nat) (w : World) (hd : d.rd w) (hk : k < d.tr.n) (hn : d.tr.n ≤ 1000000) :
    Calls Try.prog 185 #[.agg d.cs, .int .i64 k] w fun e w' => e = .returned (.int .i64 (aboveOf ((d.tr.l.map Tir.con).drop (k + 1)))) ∧ Bel w w' := by
  have hW := (Bel.refl w).alloc (.cells d.cs 64)
  have h1 := hd.mono hW
  have hlen : Hid (d.tr.l.length = d.tr.n) := hd.tr.len
  obtain ⟨nm, ⟨A, n, c, trs⟩⟩ := d
  simp only [Dm.cs] at *
  have HD := Lib.hid h1.tr
  have HW := Lib.hid hW
  have wk : IntKind.i64.wrap ((k : Int) + 1) = (k : Int) + 1 := IntWalk.i64_in _ (by omega)
  clear hW h1 hd
  by_cases hlt : k + 1 < n
  · obtain ⟨b, o, t, hA, hb, ht, htr, hrg⟩ := HD.out.tirAt (k := k + 1) hlt
    simp only at hA
    subst hA
    have hc := hrg 1 _ rfl
    have HR : Hid (aboveOf ((trs.map Tir.con).drop (k + 1)) = (t.ts.n : Int)) := by
      show _ = _
      obtain ⟨hk', he⟩ := List.getElem?_eq_some_iff.1 ht
      rw [List.drop_eq_getElem_cons (by simpa using hk')]
      simp only [List.getElem_map, aboveOf]
      have := htr.ts.len
      simp only at hk' he
      rw [he]
      show ((t.ts.l.length : Nat) : Int) = _
      rw [this]
    have i1 : ((k : Int) + 1).toNat = k + 1 := by omega
    have i2 : (0 : Int) ≤ (k : Int) + 1 := by omega
    have i3 : (k : Int) + 1 < n := by omega
    have d1 : decide (((k : Int) + 1 < (n : Int))) = true := by simp; omega
    clear ht hrg
    go_enter Try.func185, Try.ntmps185
    go_wp2
    go_ret
    rw [HR.out]
    exact ⟨rfl, HW.out⟩
  · have HR : Hid (aboveOf ((trs.map Tir.con).drop (k + 1)) = 0) := by
      show _ = _
      rw [List.drop_of_length_le (by have := hlen.out; simp; omega)]
      rfl
    have d1 : decide (((k : Int) + 1 < (n : Int))) = false := by simp; omega
    have hnn : (n : Int) ≤ (k : Int) + 1 := by omega
    go_enter Try.func185, Try.ntmps185
    go_wp2
    go_ret
    rw [HR.out]
    exact ⟨rfl, HW.out⟩

set_option maxRecDepth 100000 in
set_option maxHeartbeats 1000000 in
theorem rdabove_any (d : Dm) (k : Nat) (w : World) (hd : d.rd w) (hk : k < d.tr.n) (hn : d.tr.n ≤ 1000000) :
    Calls Try.prog 135 #[.agg d.cs, .int .i64 k] w fun e w' => e = .returned (.int .i64 (aboveOf ((d.tr.l.map Tir.con).drop (k + 1)))) ∧ Bel w w' := by
  have hW := (Bel.refl w).alloc (.cells d.cs 64)
  have h1 := hd.mono hW
  have hlen : Hid (d.tr.l.length = d.tr.n) := hd.tr.len
  obtain ⟨nm, ⟨A, n, c, trs⟩⟩ := d
  simp only [Dm.cs] at *
  have HD := Lib.hid h1.tr
  have HW := Lib.hid hW
  have wk : IntKind.i64.wrap ((k : Int) + 1) = (k : Int) + 1 := IntWalk.i64_in _ (by omega)
  clear hW h1 hd
  by_cases hlt : k + 1 < n
  · obtain ⟨b, o, t, hA, hb, ht, htr, hrg⟩ := HD.out.tirAt (k := k + 1) hlt
    simp only at hA
    subst hA
    have hc := hrg 1 _ rfl
    have HR : Hid (aboveOf ((trs.map Tir.con).drop (k + 1)) = (t.ts.n : Int)) := by
      show _ = _
      obtain ⟨hk', he⟩ := List.getElem?_eq_some_iff.1 ht
      rw [List.drop_eq_getElem_cons (by simpa using hk')]
      simp only [List.getElem_map, aboveOf]
      have := htr.ts.len
      simp only at hk' he
      rw [he]
      show ((t.ts.l.length : Nat) : Int) = _
      rw [this]
    have i1 : ((k : Int) + 1).toNat = k + 1 := by omega
    have i2 : (0 : Int) ≤ (k : Int) + 1 := by omega
    have i3 : (k : Int) + 1 < n := by omega
    have d1 : decide (((n : Int) ≤ (k : Int) + 1)) = false := by simp; omega
    clear ht hrg
    go_enter Try.func135, Try.ntmps135
    go_wp2
    go_ret
    rw [HR.out]
    exact ⟨rfl, HW.out⟩
  · have HR : Hid (aboveOf ((trs.map Tir.con).drop (k + 1)) = 0) := by
      show _ = _
      rw [List.drop_of_length_le (by have := hlen.out; simp; omega)]
      rfl
    have d1 : decide (((n : Int) ≤ (k : Int) + 1)) = true := by simp; omega
    have hnn : (n : Int) ≤ (k : Int) + 1 := by omega
    go_enter Try.func135, Try.ntmps135
    go_wp2
    go_ret
    rw [HR.out]
    exact ⟨rfl, HW.out⟩

/-- Names met. -/
def litsS (xs : List (List UInt8)) : List Lit := xs.map Lit.string
theorem litsS_key (xs : List (List UInt8)) : ∀ x ∈ litsS xs, WideAt.IsKeyLit x := by
  intro x hx
  obtain ⟨y, _, rfl⟩ := List.mem_map.1 hx
  trivial
theorem atKey_names (xs : List (List UInt8)) (x : List UInt8) : (Maps.setOf one1 (litsS xs)).atKey (.string x) (.lit (.int .i64 0)) = .lit (.int .i64 (if x ∈ xs then 1 else 0)) := by
  have key : ∀ ys : List (List UInt8), (Maps.setOf one1 (litsS ys.reverse)).atKey (.string x) (.lit (.int .i64 0)) = .lit (.int .i64 (if x ∈ ys then 1 else 0)) := by
    intro ys
    induction ys with
    | nil => rfl
    | cons y ys ih =>
      have e : litsS (y :: ys).reverse = litsS ys.reverse ++ [.string y] := by unfold litsS; simp
      rw [e, Maps.setOf_snoc]
      by_cases h : x = y
      · subst h
        rw [Maps.atKey_put_same (Maps.tidy_setOf _ _ (litsS_key _)).isMap (show WideAt.IsKeyLit (.string x) from trivial)]
        simp
      · rw [Maps.atKey_put_other (by intro e; injection e with e; exact h e), ih]
        simp [h]
  have := key xs.reverse
  simpa using this
theorem put_names (xs : List (List UInt8)) (x : List UInt8) (v c : Int) (h : ((Maps.setOf one1 (litsS xs)).put (.string x) (.lit (.int .i64 v))).atKey (.string x) (.lit (.int .i64 0)) = .lit (.int .i64 c)) : c = v := by
  rw [Maps.atKey_put_same (Maps.tidy_setOf _ _ (litsS_key _)).isMap (show WideAt.IsKeyLit (.string x) from trivial)] at h
  injection h with h
  injection h with _ h
  exact h.symm
theorem dimFrom_drop {trs : List TC} {k : Nat} {t : TC} {seen : List (List UInt8)} (h : trs[k]? = some t) : dimFrom seen (trs.drop k) = if tierErr t (aboveOf (trs.drop (k + 1))) ≠ 0 then tierErr t (aboveOf (trs.drop (k + 1))) else if t.nm ∈ seen then 11 else dimFrom (seen ++ [t.nm]) (trs.drop (k + 1)) := by
  obtain ⟨hk, rfl⟩ := List.getElem?_eq_some_iff.1 h
  rw [List.drop_eq_getElem_cons hk, dimFrom]

theorem zero_int (w : World) : (zeroValue 3).run Try.prog w = .ok (.int .i64 0) w := by kernel_rfl
set_option maxRecDepth 100000 in
set_option maxHeartbeats 2000000 in
theorem dmcheck_any (d : Dm) (w : World) (hd : d.rd w) (hn : d.tr.n ≤ 1000000) (hu : ∀ t ∈ d.tr.l, t.up.n ≤ 100000) :
    Calls Try.prog 130 #[.agg d.cs] w fun e w' => e = .returned (.int .i64 (dimErr d.con)) ∧ Bel w w' := by
  have HAB := Lib.hid (fun k (hk : k < d.tr.n) w' (hb : Bel w w') => dabove_any d k w' (hd.mono hb) hk hn)
  have hW := (Bel.refl w).alloc (.cells d.cs 64)
  have hlen : Hid (d.tr.l.length = d.tr.n) := hd.tr.len
  have hnm := hd.nm
  have HD := Lib.hid hd.tr
  have HU := Lib.hid hu
  have hmm := @run_makeMap Try.prog
  obtain ⟨nm, ⟨A, n, c, trs⟩⟩ := d
  simp only [Dm.cs, Dm.con] at *
  have HW := Lib.hid hW
  clear hW hd hu
  cases hN : isName nm with
  | false =>
    have HE : Hid (dimErr ⟨nm, trs.map Tir.con⟩ = 2) := by show _ = _; unfold dimErr; simp [hN]
    go_enter Try.func130, Try.ntmps130
    go_wp2_with fail
    refine (name_any nm _ (by omega)).mono ?_; rintro e w1 ⟨rfl, rfl⟩
    rw [hN, show errOf false = 2 from rfl]
    go_wp2
    go_ret
    rw [HE.out]
    exact ⟨rfl, HW.out⟩
  | true =>
    by_cases hl : 1 ≤ n ∧ n ≤ 4
    · obtain ⟨hl1, hl2⟩ := hl
      have d1 : decide ((n : Int) < 1) = false := by simp; omega
      have d2 : decide ((4 : Int) < n) = false := by simp; omega
      have HE0 : Hid (dimErr ⟨nm, trs.map Tir.con⟩ = dimFrom ((trs.map Tir.nm).take 0) ((trs.map Tir.con).drop 0)) := by
        show _ = _
        unfold dimErr
        simp only [hN, if_true, List.length_map]
        rw [if_neg (by have := hlen.out; omega)]
        rfl
      have q0 := Blk.new w 64 #[.string ⟨nm.toArray⟩, .slice A n c]
      go_enter Try.func130, Try.ntmps130
      go_wp2_with fail
      refine (name_any nm _ (by omega)).mono ?_; rintro e w1 ⟨rfl, rfl⟩
      rw [hN, show errOf true = 0 from rfl]
      go_wp2_with fail
      have M0 : Hid (((w.alloc (.cells #[.string ⟨nm.toArray⟩, .slice A n c] 64)).alloc (.map #[] 0)).ownsMap Try.prog 9 (plainElem (H := Unit) Try.prog 3) (w.heap.size + 1) 0 (Maps.setOf one1 (litsS ((trs.map Tir.nm).take 0)))) := by
        have := World.ownsMap_made (H := Unit) (w.alloc (.cells #[.string ⟨nm.toArray⟩, .slice A n c] 64)) Try.prog 9 (plainElem Try.prog 3)
        rw [World.size_alloc] at this
        exact this
      have B0 := Lib.hid (HW.out.alloc (.map #[] 0))
      have Q0 := Lib.hid (q0.alloc (.map #[] 0))
      clear q0 d1 d2 HW
      go_loopg [28] n (fun gg i wr => ∃ k : Nat, gg = n - k ∧ k ≤ n ∧ i = .int .i64 k ∧ Hid (wr.ownsMap Try.prog 9 (plainElem (H := Unit) Try.prog 3) (w.heap.size + 1) k (Maps.setOf one1 (litsS ((trs.map Tir.nm).take k)))) ∧ Hid (Bel w wr) ∧ Hid (Blk wr w.heap.size 64 #[.string ⟨nm.toArray⟩, .slice A n c]) ∧ Hid (dimErr ⟨nm, trs.map Tir.con⟩ = dimFrom ((trs.map Tir.nm).take k) ((trs.map Tir.con).drop k)))
      case atStart => exact ⟨0, rfl, by omega, rfl, M0, B0, Q0, HE0⟩
      case round =>
        clear M0 B0 Q0 HE0
        obtain ⟨k, hgk, hk, rfl, hM, hB, hQ, hE⟩ := hrel
        have Hgk := Lib.hid hgk
        clear hgk
        by_cases hlt : k < n
        · obtain ⟨bb, oo, t, hA, hbb, ht, htr, hrg⟩ := (HD.out.mono hB.out).tirAt (k := k) hlt
          simp only at hA
          subst hA
          have HT := Lib.hid ht
          have HRG := Lib.hid hrg
          have HTR := Lib.hid htr
          have hup := HU.out t (List.mem_of_getElem? ht)
          have hnm2 := htr.nm
          have HKL : Hid ((⟨t.nm.toArray⟩ : ByteArray).size ≤ maxLen) := by show _ ≤ _; unfold maxLen; simp [ByteArray.size]; omega
          have htc : (trs.map Tir.con)[k]? = some t.con := by rw [List.getElem?_map, ht]; rfl
          have htn : (trs.map Tir.nm)[k]? = some t.nm := by rw [List.getElem?_map, ht]; rfl
          have HS := Lib.hid (dimFrom_drop (seen := (trs.map Tir.nm).take k) htc)
          have HTK : Hid ((trs.map Tir.nm).take (k + 1) = (trs.map Tir.nm).take k ++ [t.nm]) := by
            show _ = _
            obtain ⟨hk', he⟩ := List.getElem?_eq_some_iff.1 htn
            rw [List.take_succ_eq_append_getElem hk', he]
          have hab : I64 (aboveOf ((trs.map Tir.con).drop (k + 1))) := by
            unfold I64
            cases hdr : (trs.map Tir.con).drop (k + 1) with
            | nil => simp [aboveOf]
            | cons u r =>
              have hm : u ∈ (trs.map Tir.con) := List.mem_of_mem_drop (i := k + 1) (by rw [hdr]; exact List.mem_cons_self ..)
              obtain ⟨v, hv, rfl⟩ := List.mem_map.1 hm
              have h1 := (HD.out.all v hv)
              have h2 : v.ts.l.length = v.ts.n := Row.rd.len (Tir.rd.ts h1)
              have h3 := (Tir.rd.ts h1).n63
              simp only [aboveOf]
              omega
          have z2 := Lib.hid (Blk.new wr 140 t.cs)
          have Q2 := Lib.hid (hQ.out.alloc (.cells t.cs 140))
          have B2 := Lib.hid (hB.out.alloc (.cells t.cs 140))
          have M2 := Lib.hid (hM.out.alloc (.cells t.cs 140))
          have HTR2 := Lib.hid (htr.mono ((Bel.refl wr).alloc (.cells t.cs 140)))
          have hmz := hM.out.lt
          have hqz := hQ.out.lt
          clear ht hrg htr htc htn hM hB hQ hbb
          go_wp2_with (first | ((with_reducible show wpList _ _ _ (⟨some 32, _, _, _, _, _⟩ :: _) _ _); refine wpList_load_row_at rfl rowTir (.tmp 31) rfl bb (oo + k * 3) rfl t.cs rfl HRG.out ?_) | ((with_reducible show wpList _ _ _ (⟨_, .store _ (.tmp 6) _, _, _, _, _⟩ :: _) _ _); refine wpList_store_new rfl rowTir (.tmp 6) (.tmp 32) rfl rfl rfl t.cs rfl rfl (tir_one t) ?_))
          generalize hAB : aboveOf ((trs.map Tir.con).drop (k + 1)) = ab at *
          have HAB1 : Hid (∀ w', Bel w w' → Calls Try.prog 185 #[.agg #[.string ⟨nm.toArray⟩, .slice (some ⟨bb, oo, none⟩) n c], .int .i64 k] w' fun e w'' => e = .returned (.int .i64 ab) ∧ Bel w' w'') := by
            intro w' hb
            have := HAB.out k hlt w' hb
            rw [hAB] at this
            exact this
          have HABE := Lib.hid hAB
          clear hAB
          refine wp_region_over (by kernel_rfl) (by kernel_rfl) ?_
          repeat (first
            | ((with_reducible show wpQuiet _ _ _ _ (⟨some 33, _, _, _, _, _⟩ :: _) _); refine wpQuiet_load_row rfl rowTir (.tmp 6) rfl wr.heap.size 0 rfl t.cs rfl z2.out.lt z2.out.range ?_; simp only [Act.put, List.setIfInBounds_toArray, List.set_cons_zero, List.set_cons_succ])
            | ((with_reducible show wpQuiet _ _ _ _ (⟨some 34, _, _, _, _, _⟩ :: _) _); refine wpQuiet_load_row rfl rowDm (.tmp 1) rfl w.heap.size 0 rfl #[.string ⟨nm.toArray⟩, .slice (some ⟨bb, oo, none⟩) n c] rfl Q2.out.lt Q2.out.range ?_; simp only [Act.put, List.setIfInBounds_toArray, List.set_cons_zero, List.set_cons_succ])
            | go_big_quiet_step ((first | (go_at_call 185; rename_i u; exact calls_over (HAB1.out _ (B2.out.trans u.bel))) | (go_at_call 184; rename_i u; exact calls_over (trcheck_any t ab _ (HTR2.out.mono u.bel) hup hab)))))
          refine wpQuiet_nil ?_
          rintro _ ⟨⟨w4, hw4⟩, rfl⟩
          have Z4 := Lib.hid (z2.out.bel hw4)
          have Q4 := Lib.hid (Q2.out.bel hw4)
          have B4 := Lib.hid (B2.out.trans hw4)
          have M4 := Lib.hid (M2.out.kept (grown_of_bel hw4 none) (by simp))
          have s4 := Z4.out.cell 0
          simp only [List.getElem?_toArray, List.getElem?_cons_zero] at s4
          try dsimp only
          clear hw4 z2 Q2 B2 M2 HTR2
          by_cases hE0 : tierErr t.con ab = 0
          · rw [hE0]
            by_cases hmem : t.nm ∈ (trs.map Tir.nm).take k
            · have HN : Hid (dimErr ⟨nm, trs.map Tir.con⟩ = 11) := by show _ = _; rw [hE.out, HS.out, if_neg (by omega), if_pos hmem]
              have HA : Hid (∀ c : Int, (Maps.setOf one1 (litsS ((trs.map Tir.nm).take k))).atKey (.string t.nm) (.lit (.int .i64 0)) = .lit (.int .i64 c) → c = 1) := by
                intro c h
                rw [atKey_names, if_pos hmem] at h
                injection h with h
                injection h with _ h
                exact h.symm
              clear hE HS hE0 hmem
              go_wp2_with (first | ((with_reducible show wpList _ _ _ (⟨some 44, _, _, _, _, _⟩ :: _) _ _); refine wpList_lookup_own_int _ rfl (.tmp 41) (.tmp 43) 208 rfl 9 3 .i64 (Maps.string_keyed Try.underlying9) Try.underlying208 Try.underlying3 (zero_int _) (w.heap.size + 1) k _ rfl M4.out _ (.string t.nm) rfl (WideMaps.keyOf_string_mk Try.underlying9 (s := ⟨t.nm.toArray⟩) HKL.out) ?_; intro c44 hat44 hwc44; obtain rfl := HA.out c44 hat44; clear hat44 hwc44) | ((with_reducible show wpList _ _ _ (⟨_, .mapUpdate _ _ _ _, _, _, _, _⟩ :: _) _ _); refine wpList_mapUpdate_own _ rfl (.tmp 41) (.tmp 43) _ 208 rfl 9 3 (Maps.string_keyed Try.underlying9) Try.underlying208 _ (w.heap.size + 1) k _ rfl M4.out (by unfold maxLen; omega) _ _ (.string t.nm) rfl rfl (WideMaps.keyOf_string_mk Try.underlying9 (s := ⟨t.nm.toArray⟩) HKL.out) (.lit (.int .i64 2)) [] (plainElem_int Try.underlying3 (wf64 (by unfold I64; omega))) ?_; intro w5 hown5 hg5; have M5 := Lib.hid hown5; have z5 := Lib.hid (Z4.out.grown hg5 (by intro e; injection e with e; omega)); have q5 := Lib.hid (Q4.out.grown hg5 (by intro e; injection e with e; omega)); have B5 := Lib.hid (B4.out.grownAt hg5 (by omega)); have s5 := z5.out.cell 0; (simp only [List.getElem?_toArray, List.getElem?_cons_zero] at s5); clear hown5 hg5) | ((with_reducible show wpList _ _ _ (⟨some 49, _, _, _, _, _⟩ :: _) _ _); refine wpList_lookup_own_int _ rfl (.tmp 46) (.tmp 48) 208 rfl 9 3 .i64 (Maps.string_keyed Try.underlying9) Try.underlying208 Try.underlying3 (zero_int _) (w.heap.size + 1) (k + 1) _ rfl M5.out _ (.string t.nm) rfl (WideMaps.keyOf_string_mk Try.underlying9 (s := ⟨t.nm.toArray⟩) HKL.out) ?_; intro c49 hat49 hwc49; obtain rfl := (put_names ((trs.map Tir.nm).take k) t.nm 2 c49 hat49); clear hat49 hwc49))
              go_ret
              rw [HN.out]
              exact ⟨rfl, B5.out⟩
            · have HN : Hid (dimErr ⟨nm, trs.map Tir.con⟩ = dimFrom ((trs.map Tir.nm).take (k + 1)) ((trs.map Tir.con).drop (k + 1))) := by show _ = _; rw [hE.out, HS.out, if_neg (by omega), if_neg hmem, HTK.out]
              have HA : Hid (∀ c : Int, (Maps.setOf one1 (litsS ((trs.map Tir.nm).take k))).atKey (.string t.nm) (.lit (.int .i64 0)) = .lit (.int .i64 c) → c = 0) := by
                intro c h
                rw [atKey_names, if_neg hmem] at h
                injection h with h
                injection h with _ h
                exact h.symm
              clear hE HS hE0 hmem
              go_wp2_with (first | ((with_reducible show wpList _ _ _ (⟨some 44, _, _, _, _, _⟩ :: _) _ _); refine wpList_lookup_own_int _ rfl (.tmp 41) (.tmp 43) 208 rfl 9 3 .i64 (Maps.string_keyed Try.underlying9) Try.underlying208 Try.underlying3 (zero_int _) (w.heap.size + 1) k _ rfl M4.out _ (.string t.nm) rfl (WideMaps.keyOf_string_mk Try.underlying9 (s := ⟨t.nm.toArray⟩) HKL.out) ?_; intro c44 hat44 hwc44; obtain rfl := HA.out c44 hat44; clear hat44 hwc44) | ((with_reducible show wpList _ _ _ (⟨_, .mapUpdate _ _ _ _, _, _, _, _⟩ :: _) _ _); refine wpList_mapUpdate_own _ rfl (.tmp 41) (.tmp 43) _ 208 rfl 9 3 (Maps.string_keyed Try.underlying9) Try.underlying208 _ (w.heap.size + 1) k _ rfl M4.out (by unfold maxLen; omega) _ _ (.string t.nm) rfl rfl (WideMaps.keyOf_string_mk Try.underlying9 (s := ⟨t.nm.toArray⟩) HKL.out) (.lit (.int .i64 1)) [] (plainElem_int Try.underlying3 (wf64 (by unfold I64; omega))) ?_; intro w5 hown5 hg5; have M5 := Lib.hid hown5; have z5 := Lib.hid (Z4.out.grown hg5 (by intro e; injection e with e; omega)); have q5 := Lib.hid (Q4.out.grown hg5 (by intro e; injection e with e; omega)); have B5 := Lib.hid (B4.out.grownAt hg5 (by omega)); have s5 := z5.out.cell 0; (simp only [List.getElem?_toArray, List.getElem?_cons_zero] at s5); clear hown5 hg5) | ((with_reducible show wpList _ _ _ (⟨some 49, _, _, _, _, _⟩ :: _) _ _); refine wpList_lookup_own_int _ rfl (.tmp 46) (.tmp 48) 208 rfl 9 3 .i64 (Maps.string_keyed Try.underlying9) Try.underlying208 Try.underlying3 (zero_int _) (w.heap.size + 1) (k + 1) _ rfl M5.out _ (.string t.nm) rfl (WideMaps.keyOf_string_mk Try.underlying9 (s := ⟨t.nm.toArray⟩) HKL.out) ?_; intro c49 hat49 hwc49; obtain rfl := (put_names ((trs.map Tir.nm).take k) t.nm 1 c49 hat49); clear hat49 hwc49))
              go_roundg (n - (k + 1))
              case rel => exact ⟨k + 1, rfl, by omega, by go_num, by show World.ownsMap _ _ _ _ _ _ _; rw [HTK.out]; unfold litsS; rw [List.map_append]; exact (by have := M5.out; rw [← Maps.setOf_snoc] at this; exact this), B5, q5, HN⟩
              case measure => rw [Hgk.out]; omega
          · have HN : Hid (dimErr ⟨nm, trs.map Tir.con⟩ = tierErr t.con ab) := by show _ = _; rw [hE.out, HS.out, if_pos hE0]
            have dE : (tierErr t.con ab != 0) = true := by simpa using hE0
            have dE2 : (tierErr t.con ab == 0) = false := by simpa using hE0
            clear hE HS hE0
            go_wp2
            go_ret
            rw [HN.out]
            exact ⟨rfl, B4.out⟩
        · have HN : Hid (dimErr ⟨nm, trs.map Tir.con⟩ = 0) := by show _ = _; rw [hE.out, List.drop_of_length_le (by have := hlen.out; simp; omega)]; rfl
          clear hE
          go_wp2
          go_ret
          rw [HN.out]
          exact ⟨rfl, hB.out⟩
    · have HE : Hid (dimErr ⟨nm, trs.map Tir.con⟩ = 5) := by
        show _ = _
        unfold dimErr
        simp only [hN, if_true, List.length_map]
        rw [if_pos (by have := hlen.out; omega)]
      rcases (show n < 1 ∨ (1 ≤ n ∧ 4 < n) by omega) with h | ⟨h, h'⟩
      all_goals
        first | (have d1 : decide ((n : Int) < 1) = true := by simp; omega) | (have d1 : decide ((n : Int) < 1) = false := by simp; omega)
        first | (have d2 : decide ((4 : Int) < n) = true := by simp; omega) | (have d2 : decide ((4 : Int) < n) = false := by simp; omega)
        clear hl
        go_enter Try.func130, Try.ntmps130
        go_wp2_with fail
        refine (name_any nm _ (by omega)).mono ?_; rintro e w1 ⟨rfl, rfl⟩
        rw [hN, show errOf true = 0 from rfl]
        go_wp2
        go_ret
        rw [HE.out]
        exact ⟨rfl, HW.out⟩

end Go.Proofs.Ytnekknemjhlgdaa
