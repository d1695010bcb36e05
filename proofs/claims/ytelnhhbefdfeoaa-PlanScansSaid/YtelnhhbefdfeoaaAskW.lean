/- ask.free, within, among, filter. -/
import Derived.Test.YtelnhhbefdfeoaaAskM
import Derived.Test.YtelnhhbefdfeoaaBq
namespace Go.Proofs.Ytelnhhbefdfeoaa
open Go.RowKit
set_option linter.unusedVariables false
set_option linter.unusedSimpArgs false

def freeB (p : PC) : Bool := decide (p.t = 0 ∧ p.lo = [] ∧ p.hi = [] ∧ p.set.length = 0)
set_option maxRecDepth 100000 in
set_option maxHeartbeats 1000000 in
theorem free_any (p : Pk) (w : World) (hp : p.rd w) :
    Calls Try.prog 87 #[.agg p.cs] w fun e w' => e = .returned (.bool (freeB p.con)) ∧ Bel w w' := by
  have hl : Hid (p.set.l.length = p.set.n) := hp.set.len
  have n63 := hp.set.n63
  have H := Lib.hid ((SL.start No w).alloc p.cs 59)
  (try simp only [List.set_cons_zero, List.set_cons_succ, List.cons_append, List.nil_append, List.eraseIdx_cons_zero, List.eraseIdx_cons_succ, List.setIfInBounds_toArray, World.size_alloc, selR, List.getD_cons_zero, List.getD_cons_succ] at H)
  obtain ⟨pf, pt, lo, hi, ⟨A, n, c, set⟩, g, pb⟩ := p
  simp only [Pk.cs, Pk.con] at *
  clear hp
  have c1 := (H.out.blk 0 rfl).cell 1; simp only [List.getElem?_toArray, List.getElem?_cons_zero, List.getElem?_cons_succ] at c1
  have c2 := (H.out.blk 0 rfl).cell 2; simp only [List.getElem?_toArray, List.getElem?_cons_zero, List.getElem?_cons_succ] at c2
  have c3 := (H.out.blk 0 rfl).cell 3; simp only [List.getElem?_toArray, List.getElem?_cons_zero, List.getElem?_cons_succ] at c3
  have c4 := (H.out.blk 0 rfl).cell 4; simp only [List.getElem?_toArray, List.getElem?_cons_zero, List.getElem?_cons_succ] at c4
  by_cases ht : pt = 0
  · subst ht
    cases lo with
    | nil =>
      cases hi with
      | nil =>
        by_cases hn : n = 0
        · have HF : Hid (freeB ⟨pf, 0, [], [], set, g, pb⟩ = true) := by show _ = _; unfold freeB; have := hl.out; simp; exact List.length_eq_zero_iff.1 (by omega)
          subst hn
          go_enter Try.func87, Try.ntmps87
          go_wp2
          go_ret
          rw [HF.out]
          exact ⟨rfl, H.out.to⟩
        · have HF : Hid (freeB ⟨pf, 0, [], [], set, g, pb⟩ = false) := by
            show _ = _; unfold freeB
            have := hl.out
            exact decide_eq_false (fun h => hn (by have := h.2.2.2; simp only at this; omega))
          have z1 : ((n : Int) == 0) = false := by simpa using hn
          have z2 : (n == 0) = false := by simpa using hn
          go_enter Try.func87, Try.ntmps87
          go_wp2
          go_ret
          rw [HF.out]
          exact ⟨rfl, H.out.to⟩
      | cons a r =>
        have HF : Hid (freeB ⟨pf, 0, [], a :: r, set, g, pb⟩ = false) := by show _ = _; unfold freeB; simp
        go_enter Try.func87, Try.ntmps87
        go_wp2
        go_ret
        rw [HF.out]
        exact ⟨rfl, H.out.to⟩
    | cons a r =>
      have HF : Hid (freeB ⟨pf, 0, a :: r, hi, set, g, pb⟩ = false) := by show _ = _; unfold freeB; simp
      go_enter Try.func87, Try.ntmps87
      go_wp2
      go_ret
      rw [HF.out]
      exact ⟨rfl, H.out.to⟩
  · have z1 : (pt == 0) = false := by simpa using ht
    have HF : Hid (freeB ⟨pf, pt, lo, hi, set, g, pb⟩ = false) := by show _ = _; unfold freeB; simp [ht]
    go_enter Try.func87, Try.ntmps87
    go_wp2
    go_ret
    rw [HF.out]
    exact ⟨rfl, H.out.to⟩
set_option maxRecDepth 100000 in
set_option maxHeartbeats 1000000 in
theorem within_any (p : Pk) (w : World) (hp : p.rd w) :
    Calls Try.prog 88 #[.agg p.cs] w fun e w' => e = .returned (.int .i64 (betErr p.con)) ∧ Bel w w' := by
  have hl : Hid (p.set.l.length = p.set.n) := hp.set.len
  have n63 := hp.set.n63
  have l63 := hp.lo
  have h63 := hp.hi
  have H := Lib.hid ((SL.start No w).alloc p.cs 59)
  (try simp only [List.set_cons_zero, List.set_cons_succ, List.cons_append, List.nil_append, List.eraseIdx_cons_zero, List.eraseIdx_cons_succ, List.setIfInBounds_toArray, World.size_alloc, selR, List.getD_cons_zero, List.getD_cons_succ] at H)
  obtain ⟨pf, pt, lo, hi, ⟨A, n, c, set⟩, g, pb⟩ := p
  simp only [Pk.cs, Pk.con] at *
  clear hp
  have c1 := (H.out.blk 0 rfl).cell 2; simp only [List.getElem?_toArray, List.getElem?_cons_zero, List.getElem?_cons_succ] at c1
  have c2 := (H.out.blk 0 rfl).cell 3; simp only [List.getElem?_toArray, List.getElem?_cons_zero, List.getElem?_cons_succ] at c2
  have c3 := (H.out.blk 0 rfl).cell 4; simp only [List.getElem?_toArray, List.getElem?_cons_zero, List.getElem?_cons_succ] at c3
  by_cases hn : n = 0
  · have hs0 : ¬ 0 < set.length := by have := hl.out; omega
    subst hn
    by_cases h1 : 16 < lo.length
    · have d1 : decide ((16 : Int) < (lo.length : Int)) = true := by simp <;> omega
      have HF : Hid (betErr ⟨pf, pt, lo, hi, set, g, pb⟩ = 5) := by show _ = _; unfold betErr; rw [if_neg hs0, if_pos (.inl h1)]
      go_enter Try.func88, Try.ntmps88
      go_wp2
      go_ret
      rw [HF.out]
      exact ⟨rfl, H.out.to⟩
    · have d1 : decide ((16 : Int) < (lo.length : Int)) = false := by simp <;> omega
      by_cases h2 : 16 < hi.length
      · have d2 : decide ((16 : Int) < (hi.length : Int)) = true := by simp <;> omega
        have HF : Hid (betErr ⟨pf, pt, lo, hi, set, g, pb⟩ = 5) := by show _ = _; unfold betErr; rw [if_neg hs0, if_pos (.inr h2)]
        go_enter Try.func88, Try.ntmps88
        go_wp2
        go_ret
        rw [HF.out]
        exact ⟨rfl, H.out.to⟩
      · have d2 : decide ((16 : Int) < (hi.length : Int)) = false := by simp <;> omega
        have HF : Hid (betErr ⟨pf, pt, lo, hi, set, g, pb⟩ = 0) := by show _ = _; unfold betErr; rw [if_neg hs0, if_neg (by simp only; omega)]
        go_enter Try.func88, Try.ntmps88
        go_wp2
        go_ret
        rw [HF.out]
        exact ⟨rfl, H.out.to⟩
  · have d1 : decide ((0 : Int) < (n : Int)) = true := by simp <;> omega
    have HF : Hid (betErr ⟨pf, pt, lo, hi, set, g, pb⟩ = 2) := by show _ = _; unfold betErr; rw [if_pos (by have := hl.out; simp only; omega)]
    go_enter Try.func88, Try.ntmps88
    go_wp2
    go_ret
    rw [HF.out]
    exact ⟨rfl, H.out.to⟩
set_option maxRecDepth 100000 in
set_option maxHeartbeats 1000000 in
theorem among_any (T : Tir) (p : Pk) (w : World) (hT : T.rd w) (hp : p.rd w) (hr : RiseT T.ts.l) (hn : T.ts.n ≤ 1000000) (hs : p.set.n ≤ 100000) :
    Calls Try.prog 89 #[.agg T.cs, .agg p.cs] w fun e w' => e = .returned (.int .i64 (amgErr T.ts.l p.con)) ∧ Bel w w' := by
  have hl : Hid (p.set.l.length = p.set.n) := hp.set.len
  have HP := Lib.hid hp.set
  have HT := Lib.hid hT.ts
  have HR := Lib.hid hr
  have H := Lib.hid (((SL.start No w).alloc T.cs 77).alloc p.cs 59)
  (try simp only [List.set_cons_zero, List.set_cons_succ, List.cons_append, List.nil_append, List.eraseIdx_cons_zero, List.eraseIdx_cons_succ, List.setIfInBounds_toArray, World.size_alloc, selR, List.getD_cons_zero, List.getD_cons_succ] at H)
  obtain ⟨pf, pt, lo, hi, ⟨A, n, c, set⟩, g, pb⟩ := p
  obtain ⟨nm, ⟨A2, n2, c2, ts⟩, ⟨A3, n3, c3, ups⟩⟩ := T
  simp only [Pk.cs, Pk.con, Tir.cs] at *
  clear hp hT hr
  have c1 := (H.out.blk 1 rfl).cell 2; simp only [List.getElem?_toArray, List.getElem?_cons_zero, List.getElem?_cons_succ] at c1
  have c2 := (H.out.blk 1 rfl).cell 3; simp only [List.getElem?_toArray, List.getElem?_cons_zero, List.getElem?_cons_succ] at c2
  cases lo with
  | cons a r =>
    have HF : Hid (amgErr ts ⟨pf, pt, a :: r, hi, set, g, pb⟩ = 2) := by show _ = _; unfold amgErr; rw [if_neg (by simp)]
    go_enter Try.func89, Try.ntmps89
    go_wp2
    go_ret
    rw [HF.out]
    exact ⟨rfl, H.out.to⟩
  | nil =>
    cases hi with
    | cons a r =>
      have HF : Hid (amgErr ts ⟨pf, pt, [], a :: r, set, g, pb⟩ = 2) := by show _ = _; unfold amgErr; rw [if_neg (by simp)]
      go_enter Try.func89, Try.ntmps89
      go_wp2
      go_ret
      rw [HF.out]
      exact ⟨rfl, H.out.to⟩
    | nil =>
      have HE : Hid (amgErr ts ⟨pf, pt, [], [], set, g, pb⟩ = if rowErr set ≠ 0 then rowErr set else memErr ts (set.drop 0)) := by show _ = _; unfold amgErr; rw [if_pos ⟨rfl, rfl⟩]; rfl
      have c4 := (H.out.blk 1 rfl).cell 4; simp only [List.getElem?_toArray, List.getElem?_cons_zero, List.getElem?_cons_succ] at c4
      go_enter Try.func89, Try.ntmps89
      go_wp2_with fail
      refine (trow_any A n c set _ (HP.out.mono H.out.to).texts (HP.out.mono H.out.to).txok hs).mono ?_; rintro e w1 ⟨rfl, rfl⟩
      by_cases hE : rowErr set = 0
      · have HE1 : Hid (amgErr ts ⟨pf, pt, [], [], set, g, pb⟩ = memErr ts (set.drop 0)) := by show _ = _; rw [HE.out, if_neg (by omega)]
        rw [hE]
        clear HE hE
        go_wp2_with fail
        clear c1 c2 c4
        generalize w.heap.size + 1 = y at *
        generalize w.heap.size = x at *
        generalize World.alloc _ _ = w1 at *
        go_loopg [27] n (fun gg i wr => ∃ k : Nat, gg = n - k ∧ k ≤ n ∧ i = .int .i64 k ∧ Hid (SL No w wr [rBlk x 77 #[.string ⟨nm.toArray⟩, .slice A2 n2 c2, .slice A3 n3 c3], rBlk y 59 #[.int .i64 pf, .int .i64 pt, .string ⟨#[]⟩, .string ⟨#[]⟩, .slice A n c, .bool g, .int .i64 pb]]) ∧ Hid (amgErr ts ⟨pf, pt, [], [], set, g, pb⟩ = memErr ts (set.drop k)))
        case atStart => exact ⟨0, rfl, by omega, rfl, H, HE1⟩
        case round =>
          clear H HE1
          obtain ⟨k, hgk, hk, rfl, H, HE⟩ := hrel
          have Hgk := Lib.hid hgk
          clear hgk
          by_cases hlt : k < n
          · obtain ⟨bb, oo, s, hA, hsk, hsl, q1⟩ := (HP.out.mono H.out.to).textAt (k := k) hlt
            simp only at hA
            subst hA
            have HSt := Lib.hid (memErr_drop (tr := ts) hsk)
            have c1 := (H.out.blk 0 rfl).cell 1; simp only [List.getElem?_toArray, List.getElem?_cons_zero, List.getElem?_cons_succ] at c1
            clear hsk
            go_wp2_with fail
            refine (tfind_any ⟨A2, n2, c2, ts⟩ s _ (HT.out.mono H.out.to) HR.out hn).mono ?_; rintro e w2 ⟨p, fb, rfl, rfl, hF⟩
            clear c1 q1
            cases fb with
            | false =>
              have HN : Hid (amgErr ts ⟨pf, pt, [], [], set, g, pb⟩ = 13) := by show _ = _; rw [HE.out, HSt.out, hF.2.2 rfl]
              clear HE HSt hF
              go_wp2
              go_ret
              rw [HN.out]
              exact ⟨rfl, H.out.to⟩
            | true =>
              have HN : Hid (amgErr ts ⟨pf, pt, [], [], set, g, pb⟩ = memErr ts (set.drop (k + 1))) := by show _ = _; rw [HE.out, HSt.out, hF.2.1 rfl]
              clear HE HSt hF
              go_wp2
              go_roundg (n - (k + 1))
              case rel => exact ⟨k + 1, rfl, by omega, by go_num, H, HN⟩
              case measure => rw [Hgk.out]; omega
          · have HN : Hid (amgErr ts ⟨pf, pt, [], [], set, g, pb⟩ = 0) := by show _ = _; rw [HE.out, List.drop_of_length_le (by have := hl.out; omega)]; rfl
            clear HE
            go_wp2
            go_ret
            rw [HN.out]
            exact ⟨rfl, H.out.to⟩
      · have HE1 : Hid (amgErr ts ⟨pf, pt, [], [], set, g, pb⟩ = rowErr set) := by show _ = _; rw [HE.out, if_pos hE]
        have z1 : (rowErr set != 0) = true := by simpa using hE
        have z2 : (rowErr set == 0) = false := by simpa using hE
        clear HE hE
        go_wp2
        go_ret
        rw [HE1.out]
        exact ⟨rfl, H.out.to⟩

set_option maxRecDepth 100000 in
set_option maxHeartbeats 1000000 in
theorem filter_any (d : Dm) (p : Pk) (w : World) (hd : d.rd w) (hp : p.rd w) (hr : ∀ t ∈ d.tr.l, RiseT t.ts.l ∧ t.ts.n ≤ 1000000) (hs : p.set.n ≤ 100000) :
    Calls Try.prog 67 #[.agg d.cs, .agg p.cs] w fun e w' => e = .returned (.int .i64 (filtErr d.con p.con)) ∧ Bel w w' := by
  have HFr := Lib.hid (fun w' (hb : Bel w w') => free_any p w' (hp.mono hb))
  have HWi := Lib.hid (fun w' (hb : Bel w w') => within_any p w' (hp.mono hb))
  have HAm := Lib.hid (fun T w' (hT : T.rd w') (hb : Bel w w') (h1 : RiseT T.ts.l) (h2 : T.ts.n ≤ 1000000) => among_any T p w' hT (hp.mono hb) h1 h2 hs)
  have HHas := Lib.hid (fun k w' (hb : Bel w w') => has_any d k w' (hd.mono hb))
  have HR := Lib.hid hr
  have HD := Lib.hid hd.tr
  have hl : Hid (d.tr.l.length = d.tr.n) := hd.tr.len
  have n63 := hd.tr.n63
  have hpt := hp.t
  have H := Lib.hid (((SL.start No w).alloc d.cs 66).alloc p.cs 59)
  (try simp only [List.set_cons_zero, List.set_cons_succ, List.cons_append, List.nil_append, List.eraseIdx_cons_zero, List.eraseIdx_cons_succ, List.setIfInBounds_toArray, World.size_alloc, selR, List.getD_cons_zero, List.getD_cons_succ] at H)
  obtain ⟨pf, pt, lo, hi, ⟨A, n, c, set⟩, g, pb⟩ := p
  obtain ⟨nm, ⟨A2, n2, c2, trs⟩⟩ := d
  simp only [Pk.cs, Pk.con, Dm.cs, Dm.con] at *
  clear hp hd hr
  have c0 := (H.out.blk 1 rfl).cell 0; simp only [List.getElem?_toArray, List.getElem?_cons_zero, List.getElem?_cons_succ] at c0
  have c1 := (H.out.blk 1 rfl).cell 1; simp only [List.getElem?_toArray, List.getElem?_cons_zero, List.getElem?_cons_succ] at c1
  by_cases h0 : pf = 0
  · subst h0
    cases hB : freeB ⟨0, pt, lo, hi, set, g, pb⟩ with
    | true =>
      have HE : Hid (filtErr ⟨nm, trs.map Tir.con⟩ ⟨0, pt, lo, hi, set, g, pb⟩ = 0) := by
        show _ = _; unfold filtErr; rw [if_pos rfl, if_pos (of_decide_eq_true hB)]
      rw [hB] at HFr
      go_enter Try.func67, Try.ntmps67
      go_wp2_with ((with_reducible show wpList _ _ _ (⟨some 9, _, _, _, _, _⟩ :: _) _ _); (refine wpList_load_blk rfl rowPk (.tmp 3) rfl _ rfl (H.out.blk 1 rfl) rfl ?_))
      refine (HFr.out _ H.out.to).mono ?_; rintro e w1 ⟨rfl, hb1⟩
      replace H := Lib.hid (H.out.bel hb1); (try simp only [List.set_cons_zero, List.set_cons_succ, List.cons_append, List.nil_append, List.eraseIdx_cons_zero, List.eraseIdx_cons_succ, List.setIfInBounds_toArray, World.size_alloc, selR, List.getD_cons_zero, List.getD_cons_succ] at H)
      go_wp2
      go_ret
      rw [HE.out]
      exact ⟨rfl, H.out.to⟩
    | false =>
      have HE : Hid (filtErr ⟨nm, trs.map Tir.con⟩ ⟨0, pt, lo, hi, set, g, pb⟩ = 2) := by
        show _ = _; unfold filtErr; rw [if_pos rfl, if_neg (of_decide_eq_false hB)]
      rw [hB] at HFr
      go_enter Try.func67, Try.ntmps67
      go_wp2_with ((with_reducible show wpList _ _ _ (⟨some 9, _, _, _, _, _⟩ :: _) _ _); (refine wpList_load_blk rfl rowPk (.tmp 3) rfl _ rfl (H.out.blk 1 rfl) rfl ?_))
      refine (HFr.out _ H.out.to).mono ?_; rintro e w1 ⟨rfl, hb1⟩
      replace H := Lib.hid (H.out.bel hb1); (try simp only [List.set_cons_zero, List.set_cons_succ, List.cons_append, List.nil_append, List.eraseIdx_cons_zero, List.eraseIdx_cons_succ, List.setIfInBounds_toArray, World.size_alloc, selR, List.getD_cons_zero, List.getD_cons_succ] at H)
      go_wp2
      go_ret
      rw [HE.out]
      exact ⟨rfl, H.out.to⟩
  · have z0 : (pf == 0) = false := by simpa using h0
    by_cases h12 : pf = 1 ∨ pf = 2
    · have HE0 : Hid (filtErr ⟨nm, trs.map Tir.con⟩ ⟨pf, pt, lo, hi, set, g, pb⟩ = if 0 ≤ pt then (match (trs.map Tir.con)[pt.toNat]? with | none => 2 | some tr => if pf = 1 then betErr ⟨pf, pt, lo, hi, set, g, pb⟩ else amgErr tr.ts ⟨pf, pt, lo, hi, set, g, pb⟩) else 2) := by
        show _ = _; unfold filtErr; rw [if_neg h0, if_pos h12]; rfl
      by_cases hh : 0 ≤ pt ∧ pt < n2
      · have hd1 : decide (0 ≤ pt ∧ pt < (n2 : Int)) = true := by simpa using hh
        obtain ⟨t, rfl⟩ : ∃ k : Nat, pt = k := ⟨pt.toNat, by omega⟩
        have htn : t < n2 := by omega
        obtain ⟨bb, oo, T, hA, hbb, hTk, hTr, hrg⟩ := (HD.out.mono H.out.to).tirAt (k := t) htn
        simp only at hA
        subst hA
        have hTc : (trs.map Tir.con)[t]? = some T.con := by rw [List.getElem?_map, hTk]; rfl
        have HE1 : Hid (filtErr ⟨nm, trs.map Tir.con⟩ ⟨pf, t, lo, hi, set, g, pb⟩ = if pf = 1 then betErr ⟨pf, t, lo, hi, set, g, pb⟩ else amgErr T.ts.l ⟨pf, t, lo, hi, set, g, pb⟩) := by
          show _ = _; rw [HE0.out, if_pos (by omega), Int.toNat_natCast, hTc]
        obtain ⟨hri, hrn⟩ := HR.out T (List.mem_of_getElem? hTk)
        have HRi := Lib.hid hri
        have HRg := Lib.hid hrg
        have HTr := Lib.hid hTr
        have i0 : (0 : Int) ≤ t := by omega
        have i1 : (t : Int) < n2 := by omega
        clear HE0 hTk hTr hrg hTc hri hh
        rcases h12 with h1 | h2
        · subst h1
          have HE2 : Hid (filtErr ⟨nm, trs.map Tir.con⟩ ⟨1, t, lo, hi, set, g, pb⟩ = betErr ⟨1, t, lo, hi, set, g, pb⟩) := by show _ = _; rw [HE1.out, if_pos rfl]
          clear HE1 hbb
          go_enter Try.func67, Try.ntmps67
          go_wp2_with ((with_reducible show wpList _ _ _ (⟨some 15, _, _, _, _, _⟩ :: _) _ _); (refine wpList_load_blk rfl rowDm (.tmp 2) rfl _ rfl (H.out.blk 0 rfl) rfl ?_))
          refine (HHas.out _ _ H.out.to).mono ?_; rintro e w1 ⟨rfl, hb1⟩
          replace H := Lib.hid (H.out.bel hb1); (try simp only [List.set_cons_zero, List.set_cons_succ, List.cons_append, List.nil_append, List.eraseIdx_cons_zero, List.eraseIdx_cons_succ, List.setIfInBounds_toArray, World.size_alloc, selR, List.getD_cons_zero, List.getD_cons_succ] at H)
          rw [hd1]
          clear c0 c1 hb1
          have c0 := (H.out.blk 1 rfl).cell 0; simp only [List.getElem?_toArray, List.getElem?_cons_zero, List.getElem?_cons_succ] at c0
          go_wp2_with ((with_reducible show wpList _ _ _ (⟨some 23, _, _, _, _, _⟩ :: _) _ _); (refine wpList_load_blk rfl rowPk (.tmp 3) rfl _ rfl (H.out.blk 1 rfl) rfl ?_))
          refine (HWi.out _ H.out.to).mono ?_; rintro e w2 ⟨rfl, hb2⟩
          replace H := Lib.hid (H.out.bel hb2); (try simp only [List.set_cons_zero, List.set_cons_succ, List.cons_append, List.nil_append, List.eraseIdx_cons_zero, List.eraseIdx_cons_succ, List.setIfInBounds_toArray, World.size_alloc, selR, List.getD_cons_zero, List.getD_cons_succ] at H)
          go_wp2
          go_ret
          rw [HE2.out]
          exact ⟨rfl, H.out.to⟩
        · subst h2
          have HE2 : Hid (filtErr ⟨nm, trs.map Tir.con⟩ ⟨2, t, lo, hi, set, g, pb⟩ = amgErr T.ts.l ⟨2, t, lo, hi, set, g, pb⟩) := by show _ = _; rw [HE1.out, if_neg (by omega)]
          clear HE1
          go_enter Try.func67, Try.ntmps67
          go_wp2_with ((with_reducible show wpList _ _ _ (⟨some 15, _, _, _, _, _⟩ :: _) _ _); (refine wpList_load_blk rfl rowDm (.tmp 2) rfl _ rfl (H.out.blk 0 rfl) rfl ?_))
          refine (HHas.out _ _ H.out.to).mono ?_; rintro e w1 ⟨rfl, hb1⟩
          replace H := Lib.hid (H.out.bel hb1); (try simp only [List.set_cons_zero, List.set_cons_succ, List.cons_append, List.nil_append, List.eraseIdx_cons_zero, List.eraseIdx_cons_succ, List.setIfInBounds_toArray, World.size_alloc, selR, List.getD_cons_zero, List.getD_cons_succ] at H)
          rw [hd1]
          replace HRg := Lib.hid (rangeAt_bel hbb HRg.out hb1)
          replace HTr := Lib.hid (HTr.out.mono hb1)
          replace hbb := Nat.lt_of_lt_of_le hbb hb1.size
          clear c0 c1 hb1
          have c0 := (H.out.blk 1 rfl).cell 0; simp only [List.getElem?_toArray, List.getElem?_cons_zero, List.getElem?_cons_succ] at c0
          have c1 := (H.out.blk 1 rfl).cell 1; simp only [List.getElem?_toArray, List.getElem?_cons_zero, List.getElem?_cons_succ] at c1
          have c2 := (H.out.blk 0 rfl).cell 1; simp only [List.getElem?_toArray, List.getElem?_cons_zero, List.getElem?_cons_succ] at c2
          go_upto_region 13 with fail
          have f_c0 := fun u : Over w1 => Over.cell c0 u
          have f_c1 := fun u : Over w1 => Over.cell c1 u
          have f_c2 := fun u : Over w1 => Over.cell c2 u
          refine wp_region_over (by kernel_rfl) (by kernel_rfl) ?_
          repeat (first
            | ((with_reducible show wpQuiet _ _ _ _ (⟨some 30, _, _, _, _, _⟩ :: _) _); refine wpQuiet_load_row (by first | rfl | go_simp) rowTir (.tmp 29) rfl bb (oo + t * 3) rfl T.cs rfl hbb HRg.out ?_; simp only [Act.put, List.setIfInBounds_toArray, List.set_cons_zero, List.set_cons_succ])
            | ((with_reducible show wpQuiet _ _ _ _ (⟨some 31, _, _, _, _, _⟩ :: _) _); refine wpQuiet_load_row (by first | rfl | go_simp) rowPk (.tmp 3) rfl _ (0) rfl _ rfl (H.out.blk 1 rfl).lt (H.out.blk 1 rfl).range ?_; simp only [Act.put, List.setIfInBounds_toArray, List.set_cons_zero, List.set_cons_succ])
            | go_big_quiet_step (((go_at_call 89; rename_i u; exact calls_over (HAm.out T _ (HTr.out.mono u.bel) (H.out.to.trans u.bel) HRi.out hrn)))))
          refine wpQuiet_nil ?_
          rintro _ ⟨⟨w5, hw5⟩, rfl⟩
          replace H := Lib.hid (H.out.bel hw5); (try simp only [List.set_cons_zero, List.set_cons_succ, List.cons_append, List.nil_append, List.eraseIdx_cons_zero, List.eraseIdx_cons_succ, List.setIfInBounds_toArray, World.size_alloc, selR, List.getD_cons_zero, List.getD_cons_succ] at H)
          clear f_c0 f_c1 f_c2 c0 c1 c2

          go_wp2
          go_ret
          rw [HE2.out]
          exact ⟨rfl, H.out.to⟩
      · have hd1 : decide (0 ≤ pt ∧ pt < (n2 : Int)) = false := by simp <;> omega
        have HE : Hid (filtErr ⟨nm, trs.map Tir.con⟩ ⟨pf, pt, lo, hi, set, g, pb⟩ = 2) := by
          show _ = _; rw [HE0.out]
          by_cases hp0 : 0 ≤ pt
          · rw [if_pos hp0, List.getElem?_eq_none (by have := hl.out; simp only [List.length_map] at this ⊢; omega)]
          · rw [if_neg hp0]
        clear HE0
        rcases h12 with h1 | h2
        · subst h1
          go_enter Try.func67, Try.ntmps67
          go_wp2_with ((with_reducible show wpList _ _ _ (⟨some 15, _, _, _, _, _⟩ :: _) _ _); (refine wpList_load_blk rfl rowDm (.tmp 2) rfl _ rfl (H.out.blk 0 rfl) rfl ?_))
          refine (HHas.out _ _ H.out.to).mono ?_; rintro e w1 ⟨rfl, hb1⟩
          replace H := Lib.hid (H.out.bel hb1); (try simp only [List.set_cons_zero, List.set_cons_succ, List.cons_append, List.nil_append, List.eraseIdx_cons_zero, List.eraseIdx_cons_succ, List.setIfInBounds_toArray, World.size_alloc, selR, List.getD_cons_zero, List.getD_cons_succ] at H)
          rw [hd1]
          go_wp2
          go_ret
          rw [HE.out]
          exact ⟨rfl, H.out.to⟩
        · subst h2
          go_enter Try.func67, Try.ntmps67
          go_wp2_with ((with_reducible show wpList _ _ _ (⟨some 15, _, _, _, _, _⟩ :: _) _ _); (refine wpList_load_blk rfl rowDm (.tmp 2) rfl _ rfl (H.out.blk 0 rfl) rfl ?_))
          refine (HHas.out _ _ H.out.to).mono ?_; rintro e w1 ⟨rfl, hb1⟩
          replace H := Lib.hid (H.out.bel hb1); (try simp only [List.set_cons_zero, List.set_cons_succ, List.cons_append, List.nil_append, List.eraseIdx_cons_zero, List.eraseIdx_cons_succ, List.setIfInBounds_toArray, World.size_alloc, selR, List.getD_cons_zero, List.getD_cons_succ] at H)
          rw [hd1]
          go_wp2
          go_ret
          rw [HE.out]
          exact ⟨rfl, H.out.to⟩
    · have z1 : (pf == 1) = false := by simp <;> omega
      have z2 : (pf == 2) = false := by simp <;> omega
      have HE : Hid (filtErr ⟨nm, trs.map Tir.con⟩ ⟨pf, pt, lo, hi, set, g, pb⟩ = 2) := by show _ = _; unfold filtErr; rw [if_neg h0, if_neg h12]
      go_enter Try.func67, Try.ntmps67
      go_wp2
      go_ret
      rw [HE.out]
      exact ⟨rfl, H.out.to⟩

end Go.Proofs.Ytelnhhbefdfeoaa
