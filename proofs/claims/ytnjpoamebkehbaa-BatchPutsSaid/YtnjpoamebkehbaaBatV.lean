/- batch.Values; the walk of the law BatchValues. -/
import Derived.Test.YtnjpoamebkehbaaBatA
import Derived.Test.YtnjpoamebkehbaaSepL
namespace Go.Proofs.Ytnjpoamebkehbaa
open Go.RowKit
set_option linter.unusedVariables false
set_option linter.unusedSimpArgs false

theorem E_i64ss : ElemInfo Try.prog 84 86 1 24 := ElemInfo.mk' (z := .slice none 0 0) Try.underlying84 (by kernel_rfl) rfl (by omega)
/-- A row of numbers of the call's own. -/
abbrev rIv (x : Row Int) : Res := rRow 2 1 (.slice x.A x.n x.c) x.n (x.l.map (Value.int .i64))
def ValsPost (rows : List Rw) (w : World) (e : Ending) (w' : World) : Prop := ∃ (A : Option Addr) (c : Nat) (L : List (Row Int)), e = .returned (.slice A rows.length c) ∧ L.map Row.l = rows.map (fun r => r.vs.l) ∧ SL No w w' [rRow 86 1 (.slice A rows.length c) rows.length (L.map Row.v), rListD rIv L]
theorem made0 (w : World) (t : TypeId) (size : Nat) : (w.alloc (.cells #[] t)).ownsRow w.heap.size t size (.slice (some ⟨w.heap.size, 0, none⟩) 0 0) 0 [] := World.ownsRow_made w #[] 0 (Nat.le_refl _) (by unfold maxLen; omega) (by simp)
set_option maxRecDepth 100000 in
set_option maxHeartbeats 1000000 in
theorem values_any (x : Row Rw) (w : World) (hx : x.rd w) (hn : x.n ≤ 1000000) (hv : ∀ r ∈ x.l, r.vs.n ≤ 1000000) :
    Calls Try.prog 56 #[.slice x.A x.n x.c] w (ValsPost x.l w) := by
  have hlen : Hid (x.l.length = x.n) := hx.len
  have HX := Lib.hid hx
  have HV := Lib.hid hv
  have H := Lib.hid ((SL.start No w).addNil 86 1)
  (try simp only [List.set_cons_zero, List.set_cons_succ, List.cons_append, List.nil_append, List.eraseIdx_cons_zero, List.eraseIdx_cons_succ, List.setIfInBounds_toArray, World.size_alloc, selR, List.getD_cons_zero, List.getD_cons_succ] at H)
  replace H := Lib.hid (H.out.add (Bel.refl _) (rListD rIv []) (holds_listD_nil _ _) listD_nil_D); (try simp only [List.set_cons_zero, List.set_cons_succ, List.cons_append, List.nil_append, List.eraseIdx_cons_zero, List.eraseIdx_cons_succ, List.setIfInBounds_toArray, World.size_alloc, selR, List.getD_cons_zero, List.getD_cons_succ] at H)
  obtain ⟨A, n, c, rows⟩ := x
  simp only at *
  clear hx hv
  have HL : Hid (([] : List (Row Int)).map Row.l = (rows.take 0).map (fun r => r.vs.l)) := rfl
  go_enter Try.func56, Try.ntmps56
  go_wp2_with fail
  go_loopg [3, 8] n (fun gg s3 s8 wr => ∃ (k : Nat) (B : Option Addr) (d : Nat) (L : List (Row Int)), gg = n - k ∧ k ≤ n ∧ s8 = .int .i64 k ∧ s3 = .slice B k d ∧ Hid (L.length = k) ∧ Hid (SL No w wr [rRow 86 1 (.slice B k d) k (L.map Row.v), rListD rIv L]) ∧ Hid (L.map Row.l = (rows.take k).map (fun r => r.vs.l)))
  case atStart => exact ⟨0, none, 0, [], rfl, by omega, rfl, rfl, rfl, H, HL⟩
  case round =>
    clear H HL
    obtain ⟨k, B, d, L, hgk, hk, rfl, rfl, hLk, H, HL⟩ := hrel
    have Hgk := Lib.hid hgk
    clear hgk
    by_cases hlt : k < n
    · obtain ⟨bb, oo, r, hA, hbb, hrk, hrr, hrg⟩ := (HX.out.mono H.out.to).rwAt (k := k) hlt
      simp only at hA
      subst hA
      have hvn := HV.out r (List.mem_of_getElem? hrk)
      have HTK := Lib.hid (take_snoc_get hrk)
      have HRg := Lib.hid hrg
      have HVS := Lib.hid (fun w' (hb : Bel wr w') => (hrr.mono hb).vs.ints)
      have hl4 : Hid (r.vs.l.length = r.vs.n) := hrr.vs.len
      clear hrk hrr hrg hbb
      obtain ⟨W0, hW0⟩ : ∃ W0, W0 = wr := ⟨_, rfl⟩
      subst hW0
      have HB : Hid (Bel W0 W0) := Bel.refl _
      go_wp2_with (first | ((with_reducible show wpList _ _ _ (⟨some 11, _, _, _, _, _⟩ :: _) _ _); (refine wpList_load_row_at rfl rowRw (.tmp 10) rfl bb (oo + k * 2) rfl r.cs rfl HRg.out ?_)) | ((with_reducible show wpList _ _ _ (⟨_, .store _ (.tmp 5) _, _, _, _, _⟩ :: _) _ _); (refine wpList_store_new rfl rowRw (.tmp 5) (.tmp 11) rfl rfl rfl (r.cs) rfl rfl (rw_one r) ?_; replace H := Lib.hid (H.out.alloc (r.cs) 88); (try simp only [List.set_cons_zero, List.set_cons_succ, List.cons_append, List.nil_append, List.eraseIdx_cons_zero, List.eraseIdx_cons_succ, List.setIfInBounds_toArray, World.size_alloc, selR, List.getD_cons_zero, List.getD_cons_succ] at H); replace HB := Lib.hid (HB.out.alloc (.cells r.cs 88)); replace H := Lib.hid (H.out.addRow ((Bel.refl _).alloc _) (made0 _ 2 1)); (try simp only [List.set_cons_zero, List.set_cons_succ, List.cons_append, List.nil_append, List.eraseIdx_cons_zero, List.eraseIdx_cons_succ, List.setIfInBounds_toArray, World.size_alloc, selR, List.getD_cons_zero, List.getD_cons_succ] at H); replace HB := Lib.hid (HB.out.alloc (.cells #[] 2)); have c1 := (H.out.blk 2 rfl).cell 1; simp only [List.getElem?_toArray, List.getElem?_cons_zero, List.getElem?_cons_succ] at c1)) | ((with_reducible show wpList _ _ _ (⟨some 16, _, _, _, _, _⟩ :: _) _ _); (refine wpList_append0 rfl (.tmp 13) (.tmp 15) _ rfl E_i64 0 (Nat.zero_le _) _ 0 _ rfl (H.out.row 3 rfl) r.vs.A r.vs.n r.vs.c _ rfl (HVS.out _ HB.out) (by intro u hu; obtain ⟨z, _, rfl⟩ := List.mem_map.1 hu; rfl) (by unfold maxLen; omega) (by omega) ?_; intro vq wq howq hgq hatq; replace H := Lib.hid (H.out.setRow 3 rfl hgq howq hatq); (try simp only [List.set_cons_zero, List.set_cons_succ, List.cons_append, List.nil_append, List.eraseIdx_cons_zero, List.eraseIdx_cons_succ, List.setIfInBounds_toArray, World.size_alloc, selR, List.getD_cons_zero, List.getD_cons_succ] at H); clear howq hgq hatq; obtain ⟨A2, c2, rfl, _⟩ := own_slice (H.out.row 3 rfl); clear c1; (try simp only [Nat.zero_add, List.nil_append] at H))) | ((with_reducible show wpList _ _ _ (⟨some 18, _, _, _, _, _⟩ :: _) _ _); (replace H := Lib.hid (H.out.alloc #[.slice A2 r.vs.n c2] 86); (try simp only [List.set_cons_zero, List.set_cons_succ, List.cons_append, List.nil_append, List.eraseIdx_cons_zero, List.eraseIdx_cons_succ, List.setIfInBounds_toArray, World.size_alloc, selR, List.getD_cons_zero, List.getD_cons_succ] at H); refine wpList_append0 rfl (.tmp 12) (.tmp 17) _ rfl E_i64ss 0 (Nat.zero_le _) _ k _ rfl (H.out.row 0 rfl) _ 1 1 _ rfl (reads_of_block (H.out.blk 4 rfl) rfl) (by simp [Value.oneCell']) (by unfold maxLen; omega) (by omega) ?_; intro vq wq howq hgq hatq; replace H := Lib.hid (H.out.setRow 0 rfl hgq howq hatq); (try simp only [List.set_cons_zero, List.set_cons_succ, List.cons_append, List.nil_append, List.eraseIdx_cons_zero, List.eraseIdx_cons_succ, List.setIfInBounds_toArray, World.size_alloc, selR, List.getD_cons_zero, List.getD_cons_succ] at H); clear howq hgq hatq; obtain ⟨A9, c9, rfl, _⟩ := own_slice (H.out.row 0 rfl))))
      replace H := Lib.hid (H.out.snocD 1 3 (a := ⟨A2, r.vs.n, c2, r.vs.l⟩) (by omega) rfl rfl); (try simp only [List.set_cons_zero, List.set_cons_succ, List.cons_append, List.nil_append, List.eraseIdx_cons_zero, List.eraseIdx_cons_succ, List.setIfInBounds_toArray, World.size_alloc, selR, List.getD_cons_zero, List.getD_cons_succ] at H)
      replace H := Lib.hid (H.out.sel [0, 1] (by decide) (by simp)); (try simp only [List.set_cons_zero, List.set_cons_succ, List.cons_append, List.nil_append, List.eraseIdx_cons_zero, List.eraseIdx_cons_succ, List.setIfInBounds_toArray, World.size_alloc, selR, List.getD_cons_zero, List.getD_cons_succ] at H)
      have HL2 : Hid ((L ++ [Row.mk A2 r.vs.n c2 r.vs.l]).map Row.l = (rows.take (k + 1)).map (fun r => r.vs.l)) := by show _ = _; rw [HTK.out, List.map_append, List.map_append, HL.out]; rfl
      clear HL HB
      go_wp2_with fail
      go_roundg (n - (k + 1))
      case rel => exact ⟨k + 1, A9, c9, L ++ [⟨A2, r.vs.n, c2, r.vs.l⟩], rfl, by omega, by go_num, rfl, by show _ = _; rw [List.length_append, hLk.out]; rfl, by rw [List.map_append]; exact H, HL2⟩
      case measure => rw [Hgk.out]; omega
    · obtain rfl : k = n := by omega
      go_wp2
      go_ret
      have hl := hlen.out
      refine ⟨B, d, L, ?_, ?_, ?_⟩
      · rw [hl]; rfl
      · rw [HL.out, List.take_of_length_le (by omega)]
      · rw [hl]; exact H.out

/-- What Few tells of rows. -/
def FewR (x : Row Rw) : Prop := x.n ≤ 310 ∧ ∀ r ∈ x.l, r.ts.n ≤ 20 ∧ r.vs.n ≤ 20
set_option maxRecDepth 100000 in
set_option maxHeartbeats 2000000 in
theorem rwfew_any (x : Row Rw) (w : World) (hx : x.rd w) : Calls Try.prog 54 #[.slice x.A x.n x.c] w (FewPost (FewR x) w) := by
  have hlen : Hid (x.l.length = x.n) := hx.len
  have HX := Lib.hid hx
  have n63 := hx.n63
  have HB : Hid (Bel w w) := Bel.refl _
  obtain ⟨A, n, c, rows⟩ := x
  simp only at *
  clear hx
  have HA : Hid (∀ (i : Nat) r, i < 0 → rows[i]? = some r → r.ts.n ≤ 20 ∧ r.vs.n ≤ 20) := fun i t hi => absurd hi (by omega)
  go_enter Try.func54, Try.ntmps54
  go_wp2_with fail
  go_loopg [3, 4] 312 (fun gg s3 s4 wr => ∃ (k sm : Nat), gg = 312 - k ∧ k ≤ 311 ∧ k ≤ n ∧ s4 = .int .i64 k ∧ s3 = .int .i64 sm ∧ sm ≤ 20000 * k ∧ w = wr ∧ Hid (∀ (i : Nat) r, i < k → rows[i]? = some r → r.ts.n ≤ 20 ∧ r.vs.n ≤ 20))
  case atStart => exact ⟨0, 0, rfl, by omega, by omega, rfl, rfl, by omega, rfl, HA⟩
  case round =>
    clear HA
    obtain ⟨k, sm, hgk, hk311, hkn, rfl, rfl, hsm, rfl, HA⟩ := hrel
    have Hgk := Lib.hid hgk
    clear hgk
    by_cases hlt : k < n ∧ k ≤ 310
    · obtain ⟨h1, h2⟩ := hlt
      have e1 : decide ((k : Int) ≤ 310) = true := by simp <;> omega
      obtain ⟨bb, oo, r, hA, hbb, hrk, hrr, hrg⟩ := HX.out.rwAt (k := k) h1
      simp only at hA
      subst hA
      have q0 := hrg 0 _ rfl
      have q1 := hrg 1 _ rfl
      simp only [Nat.add_zero] at q0
      have HRK := Lib.hid hrk
      have HTR := Lib.hid hrr.ts
      have i0 : (0 : Int) ≤ k := by omega
      have i1 : (k : Int) < n := by omega
      clear hrk hrg hbb
      by_cases g1 : r.ts.n ≤ 20
      · have e2 : decide ((20 : Int) < r.ts.n) = false := by simp <;> omega
        by_cases g2 : r.vs.n ≤ 20
        · have e3 : decide ((20 : Int) < r.vs.n) = false := by simp <;> omega
          have HN : Hid (∀ (i : Nat) r, i < k + 1 → rows[i]? = some r → r.ts.n ≤ 20 ∧ r.vs.n ≤ 20) := by
            intro i r' hi hir
            rcases (show i < k ∨ i = k by omega) with h | h
            · exact HA.out i r' h hir
            · subst h
              rw [HRK.out] at hir
              injection hir with hir
              subst hir
              exact ⟨g1, g2⟩
          clear HA hrr
          obtain ⟨⟨A3, n3, c3, ts⟩, ⟨A4, n4, c4, vs⟩⟩ := r
          simp only at *
          go_wp2_with fail
          clear q0 q1
          go_loopg [3, 39] n3 (fun gg s3 s39 wx => ∃ (j s2 : Nat), gg = n3 - j ∧ j ≤ n3 ∧ s39 = .int .i64 j ∧ s3 = .int .i64 s2 ∧ s2 ≤ 20000 * k + 1000 * j ∧ w = wx)
          case atStart => exact ⟨0, sm, rfl, by omega, rfl, rfl, by omega, rfl⟩
          case round =>
            obtain ⟨j, s2, hgj, hj, rfl, rfl, hs2, rfl⟩ := hrel
            have Hgj := Lib.hid hgj
            clear hgj
            by_cases hjlt : j < n3
            · obtain ⟨b4, o4, t, hA4, htk, htl, q⟩ := HTR.out.textAt (k := j) hjlt
              simp only at hA4
              subst hA4
              have hmin : ∃ q : Nat, (min (t.length : Int) 1000) = q ∧ q ≤ 1000 := ⟨min t.length 1000, by omega, by omega⟩
              obtain ⟨qq, hq, hq2⟩ := hmin
              have HQ := Lib.hid hq
              clear htk hq
              go_wp2
              rw [HQ.out]
              go_roundg (n3 - (j + 1))
              case rel => exact ⟨j + 1, s2 + qq, rfl, by omega, by go_num, by go_num, by omega, rfl⟩
              case measure => rw [Hgj.out]; omega
            · go_wp2_with fail
              go_roundg (312 - (k + 1))
              case rel => exact ⟨k + 1, s2, rfl, by omega, by omega, by go_num, rfl, by omega, rfl, HN⟩
              case measure => rw [Hgk.out]; omega
        · have e3 : decide ((20 : Int) < r.vs.n) = true := by simp <;> omega
          go_wp2
          go_ret
          exact ⟨false, rfl, (fun h => by cases h), HB.out⟩
      · have e2 : decide ((20 : Int) < r.ts.n) = true := by simp <;> omega
        go_wp2
        go_ret
        exact ⟨false, rfl, (fun h => by cases h), HB.out⟩
    · have e0 : (decide ((k : Int) < n) = false ∧ decide (k < n) = false ∧ ¬ k < n) ∨ (decide ((k : Int) < n) = true ∧ decide (k < n) = true ∧ k < n ∧ decide ((k : Int) ≤ 310) = false) := by
        by_cases h : k < n
        · right
          refine ⟨by simp <;> omega, by simp <;> omega, h, by simp <;> omega⟩
        · left
          refine ⟨by simp <;> omega, by simp <;> omega, h⟩
      clear hlt
      have HALL : Hid (n ≤ 310 → ∀ r ∈ rows, r.ts.n ≤ 20 ∧ r.vs.n ≤ 20) := by
        intro h20 d hd
        obtain ⟨i, hi⟩ := List.mem_iff_getElem?.1 hd
        have hil : i < rows.length := (List.getElem?_eq_some_iff.1 hi).1
        refine HA.out i d ?_ hi
        have := hlen.out
        rcases e0 with ⟨_, _, h⟩ | ⟨_, _, h, h'⟩
        · omega
        · simp at h'; omega
      clear HA
      rcases e0 with ⟨e1, e2, e3⟩ | ⟨e1, e2, e3, e4⟩
      all_goals
        by_cases z1 : n ≤ 310
        · have z3 : decide ((n : Int) ≤ 310) = true := by simp <;> omega
          go_wp2
          all_goals
            go_ret
            exact ⟨_, rfl, fun _ => ⟨z1, HALL.out z1⟩, HB.out⟩
        · have z3 : decide ((n : Int) ≤ 310) = false := by simp <;> omega
          go_wp2
          go_ret
          exact ⟨false, rfl, (fun h => by cases h), HB.out⟩

set_option maxRecDepth 100000 in
set_option maxHeartbeats 2000000 in
theorem walk_batchValues (w : World) (x : Row Rw) (hx : x.rd w) : Calls Try.prog 10 #[x.v] w fun e w' => e = .returned (.bool true) ∧ Bel w w' := by
  have HF := Lib.hid (rwfew_any x w hx)
  have HV := Lib.hid (fun (hf : FewR x) w' (hb : Bel w w') => values_any x w' (hx.mono hb) (by have := hf.1; omega) (fun r hr => by have := (hf.2 r hr).2; omega))
  have hlen : Hid (x.l.length = x.n) := hx.len
  have HX := Lib.hid hx
  have n63 := hx.n63
  obtain ⟨A, n, c, rows⟩ := x
  simp only [Row.v] at *
  clear hx
  go_enter Try.func10, Try.ntmps10
  go_wp2_with fail
  refine HF.out.mono ?_; rintro e w1 ⟨b, rfl, hfew, hb1⟩
  have HB1 := Lib.hid hb1
  clear hb1 HF
  cases b with
  | false =>
    clear hfew
    go_wp2_with fail
    refine (awake20_any _).mono ?_; rintro e w2 ⟨rfl, hb2⟩
    go_wp2
    go_ret
    exact ⟨rfl, HB1.out.trans hb2⟩
  | true =>
    have hf := hfew rfl
    have HFew := Lib.hid hf.2
    clear hfew
    go_wp2_with fail
    refine (HV.out hf _ HB1.out).mono ?_; rintro e w2 ⟨B, d, L, rfl, hL, hS⟩
    have H := Lib.hid (((SL.start No w).bel HB1.out).join hS)
    (try simp only [List.set_cons_zero, List.set_cons_succ, List.cons_append, List.nil_append, List.eraseIdx_cons_zero, List.eraseIdx_cons_succ, List.setIfInBounds_toArray, World.size_alloc, selR, List.getD_cons_zero, List.getD_cons_succ] at H)
    have HL := Lib.hid hL
    have hl := hlen.out
    rw [hl] at H ⊢
    have hLn : Hid (L.length = n) := by show _ = _; have := congrArg List.length HL.out; simp only [List.length_map] at this; rw [this, hl]
    have HLg : Hid (∀ (k : Nat) r, rows[k]? = some r → ∃ X : Row Int, L[k]? = some X ∧ X.l = r.vs.l) := by
      intro k r hr
      have h1 := congrArg (fun l => l[k]?) HL.out
      simp only [List.getElem?_map, hr, Option.map_some] at h1
      cases hX : L[k]? with
      | none => rw [hX] at h1; cases h1
      | some X => rw [hX] at h1; injection h1 with h1; exact ⟨X, rfl, h1⟩
    clear hf hL hS hl HV HB1 HL
    have q1 : ((n : Int) != n) = false := by simp
    go_wp2_with fail
    clear q1
    go_loopg [21] n (fun gg s21 wr => ∃ (k : Nat), gg = n - k ∧ k ≤ n ∧ s21 = .int .i64 k ∧ Hid (SL No w wr [rRow 86 1 (.slice B n d) n (L.map Row.v), rListD rIv (L.drop k)]))
    case atStart => exact ⟨0, rfl, by omega, rfl, H⟩
    case round =>
      clear H
      obtain ⟨k, hgk, hk, rfl, H⟩ := hrel
      have Hgk := Lib.hid hgk
      clear hgk
      by_cases hlt : k < n
      · obtain ⟨bb, oo, r, hA, hbb, hrk, hrr, hrg⟩ := (HX.out.mono H.out.to).rwAt (k := k) hlt
        simp only at hA
        subst hA
        obtain ⟨X, hXk, hXl⟩ := HLg.out k r hrk
        obtain ⟨hkL, hXe⟩ := List.getElem?_eq_some_iff.1 hXk
        obtain ⟨_, hv20⟩ := HFew.out r (List.mem_of_getElem? hrk)
        rw [List.drop_eq_getElem_cons hkL, hXe] at H
        replace H := Lib.hid (H.out.splitD 1 rfl); (try simp only [List.set_cons_zero, List.set_cons_succ, List.cons_append, List.nil_append, List.eraseIdx_cons_zero, List.eraseIdx_cons_succ, List.setIfInBounds_toArray, World.size_alloc, selR, List.getD_cons_zero, List.getD_cons_succ] at H)
        have hXn : X.l.length = X.n := by have := (Rd.of_own (H.out.row 1 rfl)).len; simpa using this
        have hrn : r.vs.l.length = r.vs.n := hrr.vs.len
        have hnn : X.n = r.vs.n := by rw [← hXn, hXl, hrn]
        obtain ⟨gB, hgB⟩ := own_block0 (H.out.row 0 rfl) (by omega)
        subst hgB
        have hco : Hid (∀ w' : World, w'.ownsRow 0 86 1 (.slice (some ⟨gB, 0, none⟩) n d) n (L.map Row.v) → w'.cell? ⟨gB, k, none⟩ = some X.v) := fun w' h => by
          have h1 := (Rd.of_own h).2 (by omega)
          obtain ⟨ad, e, _, hc⟩ := h1
          injection e with e
          subst e
          have := hc k X.v (by rw [List.getElem?_map, hXk]; rfl)
          rwa [Addr.add_mid, Nat.zero_add] at this
        have HRg := Lib.hid hrg
        obtain ⟨W0, hW0⟩ : ∃ W0, W0 = wr := ⟨_, rfl⟩
        subst hW0
        have hrm := List.mem_of_getElem? hrk
        have HVS := Lib.hid (fun w' (hb : Bel w w') => ((HX.out.mono hb).all r hrm).vs)
        have i0 : (0 : Int) ≤ k := by omega
        have i1 : (k : Int) < n := by omega
        clear hrk hrr hrg hXk hXe hkL hrm
        obtain ⟨XA, Xn, Xc, Xl⟩ := X
        obtain ⟨⟨A3, n3, c3, ts⟩, ⟨A4, m, c4, vs⟩⟩ := r
        simp only [Row.v, Rw.cs, Rw.con] at *
        subst hXl hnn
        have HVL : Hid (Xl.length = Xn) := hXn
        clear hrn hXn
        go_upto_region 9 with (first | ((with_reducible show wpList _ _ _ (⟨some 25, _, _, _, _, _⟩ :: _) _ _); (refine wpList_load_row_at rfl rowRw (.tmp 24) rfl bb (oo + k * 2) rfl #[.slice A3 n3 c3, .slice A4 Xn c4] rfl HRg.out ?_)) | ((with_reducible show wpList _ _ _ (⟨_, .store _ (.tmp 5) _, _, _, _, _⟩ :: _) _ _); (refine wpList_store_new rfl rowRw (.tmp 5) (.tmp 25) rfl rfl rfl (#[.slice A3 n3 c3, .slice A4 Xn c4]) rfl rfl (by simp [Value.oneCell']) ?_; replace H := Lib.hid (H.out.alloc (#[.slice A3 n3 c3, .slice A4 Xn c4]) 88); (try simp only [List.set_cons_zero, List.set_cons_succ, List.cons_append, List.nil_append, List.eraseIdx_cons_zero, List.eraseIdx_cons_succ, List.setIfInBounds_toArray, World.size_alloc, selR, List.getD_cons_zero, List.getD_cons_succ] at H))))
        generalize W0.heap.size = y at *
        generalize W0.alloc (.cells #[.slice A3 n3 c3, .slice A4 Xn c4] 88) = w5 at *
        have co := hco.out _ (H.out.row 0 rfl)
        have c1 := (H.out.blk 3 rfl).cell 1; simp only [List.getElem?_toArray, List.getElem?_cons_zero, List.getElem?_cons_succ] at c1
        have q1 : ((Xn : Int) != Xn) = false := by simp
        go_wp2_with fail
        go_quiet (fail)
        go_wp2_with fail
        rename_i nq
        replace H := Lib.hid (H.out.drewN nq); (try simp only [List.set_cons_zero, List.set_cons_succ, List.cons_append, List.nil_append, List.eraseIdx_cons_zero, List.eraseIdx_cons_succ, List.setIfInBounds_toArray, World.size_alloc, selR, List.getD_cons_zero, List.getD_cons_succ] at H)
        generalize w5.drewN nq = w6 at *
        clear co c1 q1
        have HY : Hid (∀ i : Nat, 0 ≤ i → (Xl.map (Value.int .i64))[i]? = (Xl.map (Value.int .i64))[i]?) := fun _ _ => rfl
        go_loopg [38] Xn (fun gg s38 wx => ∃ (j : Nat) (ys : List Value), gg = Xn - j ∧ j ≤ Xn ∧ s38 = .int .i64 j ∧ Hid (SL No w wx [rRow 86 1 (.slice (some ⟨gB, 0, none⟩) n d) n (L.map Row.v), rRow 2 1 (.slice XA Xn Xc) Xn ys, rListD rIv (L.drop (k + 1)), rBlk y 88 #[.slice A3 n3 c3, .slice A4 Xn c4]]) ∧ Hid (∀ i : Nat, j ≤ i → ys[i]? = (Xl.map (Value.int .i64))[i]?))
        case atStart => exact ⟨0, _, rfl, by omega, rfl, H, HY⟩
        case round =>
          clear H HY
          obtain ⟨j, ys, hgj, hj, rfl, H, HY⟩ := hrel
          have Hgj := Lib.hid hgj
          clear hgj
          by_cases hjlt : j < Xn
          · obtain ⟨b2, o2, v, hA2, hvk, hv, q2⟩ := (HVS.out _ H.out.to).intAt (k := j) hjlt
            simp only at hA2
            subst hA2
            obtain ⟨gX, hgX⟩ := own_block0 (H.out.row 1 rfl) (by omega)
            subst hgX
            have hyj : ys[j]? = some (.int .i64 v) := by rw [HY.out j (Nat.le_refl _), List.getElem?_map, hvk]; rfl
            have ce : wr.cell? ⟨gX, j, none⟩ = some (.int .i64 v) := by
              obtain ⟨ad, e, _, hc⟩ := (Rd.of_own (H.out.row 1 rfl)).2 (by omega)
              injection e with e
              subst e
              have := hc j _ hyj
              rwa [Addr.add_mid, Nat.zero_add] at this
            obtain ⟨cur, hcur⟩ := own_blk (H.out.row 1 rfl) (b := gX) rfl
            have fe := hcur.frozen j
            have co := hco.out _ (H.out.row 0 rfl)
            have j0 : (0 : Int) ≤ j := by omega
            have j1 : (j : Int) < Xn := by omega
            have q3 : (v != v) = false := by simp
            have HY2 : Hid (∀ i : Nat, j + 1 ≤ i → (ys.set j (.int .i64 (wrap64 (v + 1))))[i]? = (Xl.map (Value.int .i64))[i]?) := fun i hi => by rw [List.getElem?_set_ne (by omega)]; exact HY.out i (by omega)
            have HVk := Lib.hid hvk
            clear hvk hv hyj hcur
            go_upto_region 17 with fail
            replace H := Lib.hid (H.out.setElem 1 rfl hjlt (.int .i64 (wrap64 (v + 1)))); (try simp only [List.set_cons_zero, List.set_cons_succ, List.cons_append, List.nil_append, List.eraseIdx_cons_zero, List.eraseIdx_cons_succ, List.setIfInBounds_toArray, World.size_alloc, selR, List.getD_cons_zero, List.getD_cons_succ] at H)
            generalize World.setCell _ _ _ = w7 at *
            clear q2 ce fe co
            obtain ⟨b3, o3, v', hA3, hvk, hv, q2⟩ := (HVS.out _ H.out.to).intAt (k := j) hjlt
            simp only at hA3
            injection hA3 with hA3
            injection hA3 with hA4 hA5
            subst hA4 hA5
            rw [HVk.out] at hvk
            injection hvk with hvk
            subst hvk
            have c1 := (H.out.blk 3 rfl).cell 1; simp only [List.getElem?_toArray, List.getElem?_cons_zero, List.getElem?_cons_succ] at c1
            clear hv
            go_wp2_with fail
            go_roundg (Xn - (j + 1))
            case rel => exact ⟨j + 1, _, rfl, by omega, by go_num, H, HY2⟩
            case measure => rw [Hgj.out]; omega
          · replace H := Lib.hid (H.out.sel [0, 2] (by decide) (by simp)); (try simp only [List.set_cons_zero, List.set_cons_succ, List.cons_append, List.nil_append, List.eraseIdx_cons_zero, List.eraseIdx_cons_succ, List.setIfInBounds_toArray, World.size_alloc, selR, List.getD_cons_zero, List.getD_cons_succ] at H)
            go_wp2_with fail
            go_roundg (n - (k + 1))
            case rel => exact ⟨k + 1, rfl, by omega, by go_num, H⟩
            case measure => rw [Hgk.out]; omega
      · go_wp2_with fail
        refine (awake20_any _).mono ?_; rintro e w3 ⟨rfl, hb3⟩
        go_wp2
        go_ret
        exact ⟨rfl, H.out.to.trans hb3⟩

end Go.Proofs.Ytnjpoamebkehbaa
