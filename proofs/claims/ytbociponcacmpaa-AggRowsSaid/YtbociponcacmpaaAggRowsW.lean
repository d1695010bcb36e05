/- The walk of the law AggRows. -/
import Derived.Test.YtbociponcacmpaaAggN
import Derived.Test.YtbociponcacmpaaAggQ
import Derived.Test.YtbociponcacmpaaAggJoinsW
import Derived.Deep.DeepCutAuto
namespace Go.Proofs.Ytbociponcacmpaa
open Go.RowKit
set_option linter.unusedVariables false

/-- What agg.Of hands back. -/
def ofV (n : Nat) (zs : List Int) : Ag × Int := if 3 < n then (.zero, 5) else (Ag.of zs, 0)
theorem of_both (A : Option Addr) (n c : Nat) (zs : List Int) (w : World) (hr : Rd w 1 A n (zs.map (Value.int .i64))) (hm : n ≤ 9223372036854775807) :
    Calls Try.prog 30 #[.slice A n c] w fun e w' => e = .returned (.tuple #[.agg (ofV n zs).1.cs, .int .i64 (ofV n zs).2]) ∧ Bel w w' := by
  unfold ofV
  by_cases h : 3 < n
  · rw [if_pos h]; exact of_many A n c w h hm
  · rw [if_neg h]; exact of_any A n c zs w hr (by omega)
/-- What agg.Mean hands back. -/
def meanV (a : Ag) (k : Int) : Int × Bool := if 0 ≤ k ∧ k < 3 ∧ 1 ≤ a.c then (wrap64 ((a.sum k).tdiv a.c), true) else (0, false)
theorem mean_both (a : Ag) (k : Int) (w : World) (ha : a.ok) (hk : I64 k) :
    Calls Try.prog 35 #[.agg a.cs, .int .i64 k] w fun e w' => e = .returned (.tuple #[.int .i64 (meanV a k).1, .bool (meanV a k).2]) ∧ Bel w w' := by
  unfold meanV
  by_cases h : 0 ≤ k ∧ k < 3 ∧ 1 ≤ a.c
  · rw [if_pos h]; exact mean_yes a k w ha h.1 h.2.1 h.2.2
  · rw [if_neg h]; exact mean_no a k w hk (by omega)

set_option maxRecDepth 100000 in
set_option maxHeartbeats 1000000 in
theorem eql_in (x1 x2 x3 x4 x5 x6 x7 x8 x9 : Int) (W : World) : (Op.equalIn 9999 33 (.agg #[.int .i64 x1, .int .i64 x2, .int .i64 x3, .int .i64 x4, .int .i64 x5, .int .i64 x6, .int .i64 x7, .int .i64 x8, .int .i64 x9]) (.agg #[.int .i64 x1, .int .i64 x2, .int .i64 x3, .int .i64 x4, .int .i64 x5, .int .i64 x6, .int .i64 x7, .int .i64 x8, .int .i64 x9])).run Try.prog W = .ok true W := by
  obtain ⟨i0, hi0, hz0, hz1, hz2⟩ := info_parts info_part
  rw [run_equalIn_array W 9998 _ _ Try.underlying33 hi0, cells_part]
  simp only [show List.range 3 = [0, 1, 2] from rfl, Op.eqItems]
  go_simp
attribute [local go_sem] eql_in

theorem may_of (zs : List Int) (n : Nat) (hl : zs.length = n) (hn : n ≤ 3) : mayAg (n : Int) (Ag.of zs) = true := by
  have key : ∀ i : Nat, prtMay (decide ((i : Int) < (n : Int))) 1 (prtOf zs i) = true := by
    intro i
    by_cases h : i < n
    · rw [prtOf_some (List.getElem?_eq_getElem (by omega))]
      have : decide ((i : Int) < (n : Int)) = true := by simp; omega
      rw [this]
      simp [prtMay]
    · rw [prtOf_none (List.getElem?_eq_none (by omega))]
      have : decide ((i : Int) < (n : Int)) = false := by simp; omega
      rw [this]
      simp [prtMay]
  unfold mayAg
  have k0 := key 0
  have k1 := key 1
  have k2 := key 2
  simp only [Ag.of] at *
  rw [show ((0 : Nat) : Int) = 0 from rfl] at k0
  rw [show ((1 : Nat) : Int) = 1 from rfl] at k1
  rw [show ((2 : Nat) : Int) = 2 from rfl] at k2
  rw [k0, k1, k2]
  simp
  omega

theorem s10_of_blk {w : World} {g : Nat} {t : TypeId} {a : Ag} (h : Blk w g t a.cs) : w.cell? ⟨g, 0, none⟩ = some (.int .i64 a.c) ∧ w.cell? ⟨g, 1, none⟩ = some (.int .i64 a.p.s) ∧ w.cell? ⟨g, 2, none⟩ = some (.int .i64 a.p.mn) ∧ w.cell? ⟨g, 3, none⟩ = some (.int .i64 a.p.mx) ∧ w.cell? ⟨g, 4, none⟩ = some (.int .i64 a.q.s) ∧ w.cell? ⟨g, 5, none⟩ = some (.int .i64 a.q.mn) ∧ w.cell? ⟨g, 6, none⟩ = some (.int .i64 a.q.mx) ∧ w.cell? ⟨g, 7, none⟩ = some (.int .i64 a.r.s) ∧ w.cell? ⟨g, 8, none⟩ = some (.int .i64 a.r.mn) ∧ w.cell? ⟨g, 9, none⟩ = some (.int .i64 a.r.mx) :=
  ⟨h.cell 0, h.cell 1, h.cell 2, h.cell 3, h.cell 4, h.cell 5, h.cell 6, h.cell 7, h.cell 8, h.cell 9⟩

theorem range_bel {w w' : World} {b o : Nat} {cs : List Value} (h : w.rangeAt b o cs) (hb : b < w.heap.size) (hB : Bel w w') : w'.rangeAt b o cs := fun j v hv => by
  rw [hB.cell (p := ⟨b, o + j, none⟩) hb]
  exact h j v hv

set_option maxRecDepth 100000 in
set_option maxHeartbeats 4000000 in
theorem aggRows_walk (w : World) (A : Option Addr) (n c : Nat) (zs : List Int) (m : Int) (a : Ag) (k : Int) (hr : Rd w 1 A n (zs.map (Value.int .i64))) (hn : n ≤ 9223372036854775807) (hm : I64 m) (ha : a.ok) (hk : I64 k) :
    Calls Try.prog 8 #[.slice A n c, .int .i64 m, .agg a.cs, .int .i64 k] w fun e w' => e = .returned (.bool true) ∧ Bel w w' := by
  have Ha := Lib.hid ha
  have Hm := Lib.hid hm
  have Hk := Lib.hid hk
  clear ha hm hk
  have bA : Blk (w.alloc (.cells a.cs 35)) w.heap.size 35 a.cs := Blk.new w _ _
  have hB0 : Bel w (w.alloc (.cells a.cs 35)) := (Bel.refl w).alloc _
  obtain ⟨⟨X, E⟩, HX⟩ : ∃ x, Hid (ofV n zs = x) := ⟨_, rfl⟩
  obtain ⟨⟨v, th⟩, HV⟩ : ∃ x, Hid (meanV a k = x) := ⟨_, rfl⟩
  go_enter Try.func8, Try.ntmps8
  go_wp2_with fail
  refine (of_both _ _ _ zs _ (hr.bel hB0) hn).mono ?_; rintro e w1 ⟨rfl, hb1⟩
  rw [HX.out]
  replace bA := bA.bel hb1
  have hB1 := hB0.trans hb1
  clear hb1 hB0
  go_wp2_with (first
    | ((with_reducible show wpList _ _ _ (⟨_, .store _ (.tmp 9) _, _, _, _, _⟩ :: _) _ _); refine wpList_store_blk rfl rowAg (.tmp 9) (.tmp 18) rfl w1.heap.size rfl (Blk.new w1 _ Ag.zero.cs) rfl X.cs rfl rfl (ag_one _) ?_; intro w2 bX hg2; replace bA := (bA.alloc (.cells Ag.zero.cs 35)).grown hg2 (by have := bA.lt; simp; omega))
    | ((with_reducible show wpList _ _ _ (⟨some 21, _, _, _, _, _⟩ :: _) _ _); refine wpList_load_blk rfl rowAg (.tmp 6) rfl w.heap.size rfl bA rfl ?_))
  have hB2 : Bel w w2 := (hB1.alloc _).grownAt hg2 hB1.size
  have hgx := hB1.size
  clear hg2 hB1
  refine (mean_both a k _ Ha.out Hk.out).mono ?_; rintro e w3 ⟨rfl, hb3⟩
  rw [HV.out]
  replace bA := bA.bel hb3
  replace bX := bX.bel hb3
  have hB3 := hB2.trans hb3
  clear hb3 hB2
  have c0 := bA.cell 0
  simp [Ag.cs] at c0
  go_upto_region 4 with fail
  go_cut [14] (fun s14 wx => s14 = .bool th ∧ wx = w3)
  case first =>
    have HT : Hid (th = decide (0 ≤ k ∧ k < 3 ∧ 1 ≤ a.c)) := by
      show _ = _
      have := HV.out
      unfold meanV at this
      by_cases h : 0 ≤ k ∧ k < 3 ∧ 1 ≤ a.c
      · rw [if_pos h] at this; injection this with _ this; rw [← this]; simp [h]
      · rw [if_neg h] at this; injection this with _ this; rw [← this]; simp [h]
    by_cases h1 : 0 ≤ k
    · by_cases h2 : k ≤ 2
      · by_cases h3 : 1 ≤ a.c
        · go_wp2_with fail
          go_meet
          exact ⟨by rw [HT.out]; simp [h1, h3]; omega, rfl⟩
        · go_wp2_with fail
          go_meet
          exact ⟨by rw [HT.out]; simp [h3], rfl⟩
      · go_wp2_with fail
        go_meet
        exact ⟨by rw [HT.out]; simp; omega, rfl⟩
    · go_wp2_with fail
      go_meet
      exact ⟨by rw [HT.out]; simp; omega, rfl⟩
  case rest =>
    obtain ⟨rfl, rfl⟩ := hcut
    go_upto_if 37 with fail
    go_cut [13] (fun s13 wx => s13 = .int .i64 v ∧ Bel w wx ∧ Blk wx w.heap.size 35 a.cs ∧ Blk wx w1.heap.size 35 X.cs)
    case first =>
      cases th
      · have Hv : Hid (v = 0) := by
          show _ = _
          have := HV.out
          unfold meanV at this
          by_cases h : 0 ≤ k ∧ k < 3 ∧ 1 ≤ a.c
          · rw [if_pos h] at this; injection this with _ this; cases this
          · rw [if_neg h] at this; injection this with this _; exact this.symm
        go_wp2_with fail
        go_meet
        exact ⟨by rw [Hv.out], hB3, bA, bX⟩
      · have hc : 0 ≤ k ∧ k < 3 ∧ 1 ≤ a.c := by
          have := HV.out
          unfold meanV at this
          by_cases h : 0 ≤ k ∧ k < 3 ∧ 1 ≤ a.c
          · exact h
          · rw [if_neg h] at this; injection this with _ this; cases this
        have Hv : Hid (v = wrap64 ((a.sum k).tdiv a.c)) := by
          show _ = _
          have := HV.out
          unfold meanV at this
          rw [if_pos hc] at this
          injection this with this _
          exact this.symm
        have c1 := bA.cell 1
        have c4 := bA.cell 4
        have c7 := bA.cell 7
        simp [Ag.cs] at c1 c4 c7
        have hz : (a.c == 0) = false := by simp; omega
        obtain ⟨hc0, hc1, hc2⟩ := hc
        rcases (show k = 0 ∨ k = 1 ∨ k = 2 by omega) with rfl | rfl | rfl
        all_goals
          go_wp2_with fail
          go_quiet (fail)
          go_wp2_with fail
          go_meet
          exact ⟨by rw [Hv.out]; rfl, hB3.drewN _, bA.drewN _, bX.drewN _⟩
    case rest =>
      clear bA bX hB3 c0
      obtain ⟨rfl, hB4, bA, bX⟩ := hcut
      have q1 : (v != v) = false := by simp
      have q2 : (th != th) = false := by simp
      go_upto_region 7 with fail
      go_cut [62] (fun s62 wx => s62 = .bool false ∧ Bel w wx ∧ Blk wx w1.heap.size 35 X.cs)
      case first =>
        have hlt := bA.lt
        go_region_held3 (fun w' => w'.cell? ⟨w.heap.size, 0, none⟩ = some (.int .i64 a.c) ∧ w'.cell? ⟨w.heap.size, 1, none⟩ = some (.int .i64 a.p.s) ∧ w'.cell? ⟨w.heap.size, 2, none⟩ = some (.int .i64 a.p.mn) ∧ w'.cell? ⟨w.heap.size, 3, none⟩ = some (.int .i64 a.p.mx) ∧ w'.cell? ⟨w.heap.size, 4, none⟩ = some (.int .i64 a.q.s) ∧ w'.cell? ⟨w.heap.size, 5, none⟩ = some (.int .i64 a.q.mn) ∧ w'.cell? ⟨w.heap.size, 6, none⟩ = some (.int .i64 a.q.mx) ∧ w'.cell? ⟨w.heap.size, 7, none⟩ = some (.int .i64 a.r.s) ∧ w'.cell? ⟨w.heap.size, 8, none⟩ = some (.int .i64 a.r.mn) ∧ w'.cell? ⟨w.heap.size, 9, none⟩ = some (.int .i64 a.r.mx)) (first | exact s10_of_blk bA.drew | exact s10_of_blk (bA.drew.bel hbm) | exact s10_of_blk (bA.drew.bel hbn) | exact s10_of_blk ((bA.drew.bel hbm).bel hbn) | exact s10_of_blk ((bA.drew.bel hbn).bel hbm) | go_keep) (first | (go_at_call 36; refine (may_any a m _ Hm.out).mono ?_; rintro e wm ⟨rfl, hbm⟩) | (go_at_call 37; refine (rmay_any a m _ Hm.out).mono ?_; rintro e wn ⟨rfl, hbn⟩))
        all_goals
          go_wp2_with fail
          go_meet
          exact ⟨by simp, (hB4.drew.trans hbm).trans hbn, (bX.drew.bel hbm).bel hbn⟩
      case rest =>
        clear bA bX hB4 q1 q2
        obtain ⟨rfl, hB5, bX⟩ := hcut
        by_cases hn3 : 3 < n
        · have hx : (X, E) = (Ag.zero, 5) := by rw [← HX.out, ofV, if_pos hn3]
          injection hx with hx1 hx2
          subst hx1 hx2
          go_wp2_with (first
            | ((with_reducible show wpList _ _ _ (⟨some 66, _, _, _, _, _⟩ :: _) _ _); refine wpList_load_blk rfl rowAg (.tmp 9) rfl w1.heap.size rfl bX rfl ?_)
            | ((with_reducible show wpList _ _ _ (⟨some 68, _, _, _, _, _⟩ :: _) _ _); refine wpList_cmp_row (by first | rfl | go_simp) .eql 35 35 (.tmp 66) (.tmp 67) (by rfl) (by rfl) (by rfl) guard_ag (eql_ag .zero _) ?_))
          refine (awake06_any _).mono ?_; rintro e w9 ⟨rfl, hb9⟩
          go_wp2
          go_ret
          exact ⟨rfl, hB5.trans hb9⟩
        · have hx : (X, E) = (Ag.of zs, 0) := by rw [← HX.out, ofV, if_neg hn3]
          have HofX : Hid (Ag.of zs = X) := by injection hx with hx1 _; exact hx1.symm
          have hE : E = 0 := by injection hx
          subst hE
          have hlen : zs.length = n := by have := hr.len; simpa using this
          have hmay : mayAg (n : Int) X = true := by rw [← HofX.out]; exact may_of zs n hlen (by omega)
          have HI : Hid (I64 (n : Int)) := by show I64 _; unfold I64; omega
          have Hlen := Lib.hid hlen
          clear hlen hx
          go_wp2_with fail
          go_region_held3 (fun w' => w'.cell? ⟨w1.heap.size, 0, none⟩ = some (.int .i64 X.c) ∧ w'.cell? ⟨w1.heap.size, 1, none⟩ = some (.int .i64 X.p.s) ∧ w'.cell? ⟨w1.heap.size, 2, none⟩ = some (.int .i64 X.p.mn) ∧ w'.cell? ⟨w1.heap.size, 3, none⟩ = some (.int .i64 X.p.mx) ∧ w'.cell? ⟨w1.heap.size, 4, none⟩ = some (.int .i64 X.q.s) ∧ w'.cell? ⟨w1.heap.size, 5, none⟩ = some (.int .i64 X.q.mn) ∧ w'.cell? ⟨w1.heap.size, 6, none⟩ = some (.int .i64 X.q.mx) ∧ w'.cell? ⟨w1.heap.size, 7, none⟩ = some (.int .i64 X.r.s) ∧ w'.cell? ⟨w1.heap.size, 8, none⟩ = some (.int .i64 X.r.mn) ∧ w'.cell? ⟨w1.heap.size, 9, none⟩ = some (.int .i64 X.r.mx)) (first | exact s10_of_blk bX.drew | exact s10_of_blk (bX.drew.bel hbo) | exact s10_of_blk ((bX.drew.bel hbo).bel hbm) | exact s10_of_blk (((bX.drew.bel hbo).bel hbm).bel hba) | go_keep) (first | (go_at_call 38; refine (rof_any _ _ _ zs _ (hr.bel hB5.drew) (by omega)).mono ?_; rintro e wo ⟨rfl, hbo⟩; rw [HofX.out, show X.cs = #[.int .i64 X.c, .int .i64 X.p.s, .int .i64 X.p.mn, .int .i64 X.p.mx, .int .i64 X.q.s, .int .i64 X.q.mn, .int .i64 X.q.mx, .int .i64 X.r.s, .int .i64 X.r.mn, .int .i64 X.r.mx] from rfl]) | (go_at_call 36; refine (may_any X n _ HI.out).mono ?_; rintro e wm ⟨rfl, hbm⟩) | (go_at_call 25; refine (awake06_any _).mono ?_; rintro e wa ⟨rfl, hba⟩))
          all_goals
            go_wp2
            go_ret
            exact ⟨rfl, ((hB5.drew.trans hbo).trans hbm).trans hba⟩

theorem walk_aggRows (w : World) (x : IntSl) (hx : x.ok .i64 w) (m : Int) (wm : (Lit.int .i64 m).wf = true) (a : Ag) (ha : a.ok) (k : Int) (wk : (Lit.int .i64 k).wf = true) :
    Calls Try.prog 8 #[x.v, .int .i64 m, .agg a.cs, .int .i64 k] w fun e w' => e = .returned (.bool true) ∧ Bel w w' := by
  obtain ⟨A, n, c, zs⟩ := x
  have h1 := hx.le
  have h2 := hx.cap
  unfold maxLen at h2
  exact aggRows_walk w A n c zs m a k hx.rd (by simp only at *; omega) (i64_of wm) ha (i64_of wk)

set_option maxRecDepth 100000 in
theorem open_i64s {H : Type} {enc : TypeId × Value → H} {w : World} {base b0 : Nat} {spare : Nat → Bool} {held : Bool} {r : Reach} {v : Value} {d : DataW H} {p : List MemPlace}
    (hv : Value.okWide Try.prog w r b0 43 v) (h : DataW.Trod enc Try.prog w base spare held 43 v d p) : ∃ x : IntSl, v = x.v ∧ x.ok .i64 w :=
  open_intsl Try.underlying43 Try.underlying2 cells_i64 hv h

end Go.Proofs.Ytbociponcacmpaa
