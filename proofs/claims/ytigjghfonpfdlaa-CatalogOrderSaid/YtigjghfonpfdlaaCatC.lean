/- catalog.Check. -/
import Derived.Test.YtigjghfonpfdlaaCatB
namespace Go.Proofs.Ytigjghfonpfdlaa
open Go.RowKit
set_option linter.unusedVariables false
set_option linter.unusedSimpArgs false


/-- A schema of memory that is not beyond what the machine holds. -/
def SmS (s : Sch) : Prop := s.dm.n ≤ 1000000 ∧ s.ms.n ≤ 1000000 ∧ ∀ d ∈ s.dm.l, d.tr.n ≤ 1000000 ∧ ∀ t ∈ d.tr.l, t.up.n ≤ 100000
def catT2 (c : CC) : Int := if badTot c.sc.ms.length 2 c.p2 c.q2 then 2 else 0
def catT1 (c : CC) : Int := if badTot c.sc.ms.length 1 c.p1 c.q1 then 2 else catT2 c
def catT0 (c : CC) : Int := if badTot c.sc.ms.length 0 c.p0 c.q0 then 2 else catT1 c
def catFrom (c : CC) (k : Nat) : Int := if k = 0 then catT0 c else if k = 1 then catT1 c else if k = 2 then catT2 c else 0
theorem catErr_sc {c : CC} (h : schErr c.sc ≠ 0) : catErr c = schErr c.sc := by unfold catErr; rw [if_pos h]
theorem catErr_fa {c : CC} (h : schErr c.sc = 0) (h2 : c.fa < 0 ∨ 4000 < c.fa) : catErr c = 6 := by unfold catErr; rw [if_neg (by simp [h]), if_pos h2]
theorem catErr_from {c : CC} (h : schErr c.sc = 0) (h2 : ¬ (c.fa < 0 ∨ 4000 < c.fa)) : catErr c = catFrom c 0 := by unfold catErr; rw [if_neg (by simp [h]), if_neg h2]; rfl
theorem badTot_may {m i p q : Int} (h : (decide (0 ≤ p) && decide (q ≤ 0)) = false) : badTot m i p q = true := by unfold badTot; rw [h]; rfl
theorem badTot_in {m i p q : Int} (h : (decide (0 ≤ p) && decide (q ≤ 0)) = true) (h2 : ¬ m ≤ i) : badTot m i p q = false := by unfold badTot; rw [h]; simp [h2]
theorem badTot_out {m i p q : Int} (h : (decide (0 ≤ p) && decide (q ≤ 0)) = true) (h2 : m ≤ i) {b : Bool} (h3 : (!(decide (p = 0) && decide (q = 0))) = b) : badTot m i p q = b := by unfold badTot; rw [h, h3]; simp [h2]

set_option maxRecDepth 100000 in
set_option maxHeartbeats 2000000 in
theorem catcheck_any (s : Ct) (w : World) (hs : s.rd w) (hm : SmS s.sc) :
    Calls Try.prog 35 #[.agg s.cs] w fun e w' => e = .returned (.int .i64 (catErr s.con)) ∧ Bel w w' := by
  have HC := Lib.hid (fun w' (hb : Bel w w') => schcheck_any s.sc w' (hs.sc.mono hb) hm.1 hm.2.1 hm.2.2)
  have hl2 : Hid (s.sc.ms.l.length = s.sc.ms.n) := hs.sc.ms.len
  have H := Lib.hid ((SL.start No w).alloc s.cs 40)
  (try simp only [List.set_cons_zero, List.set_cons_succ, List.cons_append, List.nil_append, List.eraseIdx_cons_zero, List.eraseIdx_cons_succ, List.setIfInBounds_toArray, World.size_alloc, selR, List.getD_cons_zero, List.getD_cons_succ] at H)
  have f1 := hs.fa
  unfold I64 at f1
  obtain ⟨⟨⟨A, n, c, ds⟩, ⟨MA, mn, mc, ms⟩⟩, fa, p0, q0, p1, q1, p2, q2⟩ := s
  simp only [Ct.cs, Sch.cs, Ct.con, Sch.con] at *
  obtain ⟨f1, f2⟩ := f1
  clear hs hm
  go_enter Try.func35, Try.ntmps35
  go_wp2_with ((with_reducible show wpList _ _ _ (⟨some 7, _, _, _, _, _⟩ :: _) _ _); (refine wpList_load_row_at rfl rowSch (.tmp 6) rfl w.heap.size (0) rfl #[.slice A n c, .slice MA mn mc] rfl ((H.out.blk 0 rfl).part 0 _ rfl) ?_))
  generalize w.heap.size = x at *
  generalize World.alloc _ _ = w1 at *
  refine (HC.out _ H.out.to).mono ?_; rintro e w2 ⟨rfl, hb2⟩
  replace H := Lib.hid (H.out.bel hb2); (try simp only [List.set_cons_zero, List.set_cons_succ, List.cons_append, List.nil_append, List.eraseIdx_cons_zero, List.eraseIdx_cons_succ, List.setIfInBounds_toArray, World.size_alloc, selR, List.getD_cons_zero, List.getD_cons_succ] at H)
  clear hb2 HC
  by_cases hE : schErr (⟨ds.map Dm.con, ms⟩ : SC) = 0
  · have hm1 : Hid (1 ≤ mn) := by have h : 1 ≤ ms.length := (schErr_zero hE).2.2.2.1; have h5 := hl2.out; show _ ≤ _; omega
    rw [hE]
    have c2 := (H.out.blk 0 rfl).cell 2; simp only [List.getElem?_toArray, List.getElem?_cons_zero, List.getElem?_cons_succ] at c2
    by_cases h1 : fa < 0
    · have HV : Hid (catErr ⟨⟨ds.map Dm.con, ms⟩, fa, p0, q0, p1, q1, p2, q2⟩ = 6) := catErr_fa hE (.inl h1)
      clear hE
      go_wp2_with fail
      go_ret
      rw [HV.out]
      exact ⟨rfl, H.out.to⟩
    · by_cases h2 : 4000 < fa
      · have HV : Hid (catErr ⟨⟨ds.map Dm.con, ms⟩, fa, p0, q0, p1, q1, p2, q2⟩ = 6) := catErr_fa hE (.inr h2)
        clear hE
        go_wp2_with fail
        go_ret
        rw [HV.out]
        exact ⟨rfl, H.out.to⟩
      · have HV : Hid (catErr ⟨⟨ds.map Dm.con, ms⟩, fa, p0, q0, p1, q1, p2, q2⟩ = catFrom ⟨⟨ds.map Dm.con, ms⟩, fa, p0, q0, p1, q1, p2, q2⟩ 0) := catErr_from hE (by rintro (h | h); exact h1 h; exact h2 h)
        clear hE
        go_wp2_with ((with_reducible show wpList _ _ _ (⟨some 21, _, _, _, _, _⟩ :: _) _ _); (refine wpList_load_row_at rfl rowTts (.tmp 20) rfl x (3) rfl #[.int .i64 p0, .int .i64 q0, .int .i64 p1, .int .i64 q1, .int .i64 p2, .int .i64 q2] rfl ((H.out.blk 0 rfl).part 3 _ rfl) ?_))
        clear c2 h1 h2 f1 f2
        go_loopg [22] 3 (fun gg i wr => ∃ k : Nat, gg = 3 - k ∧ k ≤ 3 ∧ i = .int .i64 k ∧ Hid (SL No w wr [rBlk x 40 #[.slice A n c, .slice MA mn mc, .int .i64 fa, .int .i64 p0, .int .i64 q0, .int .i64 p1, .int .i64 q1, .int .i64 p2, .int .i64 q2]]) ∧ Hid (catErr ⟨⟨ds.map Dm.con, ms⟩, fa, p0, q0, p1, q1, p2, q2⟩ = catFrom ⟨⟨ds.map Dm.con, ms⟩, fa, p0, q0, p1, q1, p2, q2⟩ k))
        case atStart => exact ⟨0, rfl, by omega, rfl, H, HV⟩
        case round =>
          clear H HV
          obtain ⟨k, hgk, hk, rfl, H, HV⟩ := hrel
          obtain rfl | rfl | rfl | rfl : k = 0 ∨ k = 1 ∨ k = 2 ∨ k = 3 := by omega
          · have ix : ∀ W, (Instr.index 38 (.agg #[.int .i64 p0, .int .i64 q0, .int .i64 p1, .int .i64 q1, .int .i64 p2, .int .i64 q2]) (.int .i64 0)).run Try.prog W = .ok (.agg #[.int .i64 p0, .int .i64 q0]) W := fun _ => by kernel_rfl
            rw [show ((0 : Nat) : Int) = 0 from rfl]
            go_upto_region 9 with ((with_reducible show wpList _ _ _ (⟨_, .store _ (.tmp 5) _, _, _, _, _⟩ :: _) _ _); (refine wpList_store_new rfl rowTt (.tmp 5) (.tmp 25) rfl rfl rfl (#[.int .i64 p0, .int .i64 q0]) rfl rfl (by simp [Value.oneCell']) ?_; replace H := Lib.hid (H.out.alloc (#[.int .i64 p0, .int .i64 q0]) 37); (try simp only [List.set_cons_zero, List.set_cons_succ, List.cons_append, List.nil_append, List.eraseIdx_cons_zero, List.eraseIdx_cons_succ, List.setIfInBounds_toArray, World.size_alloc, selR, List.getD_cons_zero, List.getD_cons_succ] at H)))
            (try simp only [Act.put, List.setIfInBounds_toArray, List.set_cons_zero, List.set_cons_succ])
            go_wp2_with ((with_reducible show wpList _ _ _ (⟨some 26, _, _, _, _, _⟩ :: _) _ _); (refine wpList_load_blk rfl rowTt (.tmp 5) rfl _ rfl (H.out.blk 1 rfl) rfl ?_))
            clear ix
            refine (may_any p0 q0 _).mono ?_; rintro e w5 ⟨rfl, hb5⟩
            replace H := Lib.hid (H.out.bel hb5); (try simp only [List.set_cons_zero, List.set_cons_succ, List.cons_append, List.nil_append, List.eraseIdx_cons_zero, List.eraseIdx_cons_succ, List.setIfInBounds_toArray, World.size_alloc, selR, List.getD_cons_zero, List.getD_cons_succ] at H)
            clear hb5
            obtain ⟨bm, hbm⟩ : ∃ b, (decide (0 ≤ p0) && decide (q0 ≤ 0)) = b := ⟨_, rfl⟩
            rw [hbm]
            have HBM := Lib.hid hbm
            clear hbm
            cases bm with
            | false =>
              have HBD : Hid (badTot ms.length 0 p0 q0 = true) := badTot_may HBM.out
              have HV2 : Hid (catErr ⟨⟨ds.map Dm.con, ms⟩, fa, p0, q0, p1, q1, p2, q2⟩ = 2) := by show _ = _; rw [HV.out]; show catT0 _ = 2; unfold catT0; rw [if_pos HBD.out]
              go_wp2_with fail
              go_ret
              rw [HV2.out]
              exact ⟨rfl, H.out.to⟩
            | true =>
              have cm0 := (H.out.blk 0 rfl).cell 1; simp only [List.getElem?_toArray, List.getElem?_cons_zero, List.getElem?_cons_succ] at cm0
              by_cases hin : (mn : Int) ≤ 0
              · exact absurd hin (by have := hm1.out; omega)
              · have d1 : decide ((mn : Int) ≤ 0) = false := by simp; omega
                have hin2 : ¬ (ms.length : Int) ≤ 0 := by have := hl2.out; omega
                have HBD : Hid (badTot ms.length 0 p0 q0 = false) := badTot_in HBM.out hin2
                clear hin2
                have HV2 : Hid (catErr ⟨⟨ds.map Dm.con, ms⟩, fa, p0, q0, p1, q1, p2, q2⟩ = catFrom ⟨⟨ds.map Dm.con, ms⟩, fa, p0, q0, p1, q1, p2, q2⟩ 1) := by show _ = _; rw [HV.out]; show catT0 _ = _; unfold catT0; rw [if_neg (by rw [HBD.out]; simp)]; rfl
                go_wp2_with fail
                go_roundg (3 - (0 + 1))
                case rel => exact ⟨1, rfl, by omega, rfl, Lib.hid (H.out.sel [0] (by decide) (by simp)), HV2⟩
                case measure => omega
          · have ix : ∀ W, (Instr.index 38 (.agg #[.int .i64 p0, .int .i64 q0, .int .i64 p1, .int .i64 q1, .int .i64 p2, .int .i64 q2]) (.int .i64 1)).run Try.prog W = .ok (.agg #[.int .i64 p1, .int .i64 q1]) W := fun _ => by kernel_rfl
            rw [show ((1 : Nat) : Int) = 1 from rfl]
            go_upto_region 9 with ((with_reducible show wpList _ _ _ (⟨_, .store _ (.tmp 5) _, _, _, _, _⟩ :: _) _ _); (refine wpList_store_new rfl rowTt (.tmp 5) (.tmp 25) rfl rfl rfl (#[.int .i64 p1, .int .i64 q1]) rfl rfl (by simp [Value.oneCell']) ?_; replace H := Lib.hid (H.out.alloc (#[.int .i64 p1, .int .i64 q1]) 37); (try simp only [List.set_cons_zero, List.set_cons_succ, List.cons_append, List.nil_append, List.eraseIdx_cons_zero, List.eraseIdx_cons_succ, List.setIfInBounds_toArray, World.size_alloc, selR, List.getD_cons_zero, List.getD_cons_succ] at H)))
            (try simp only [Act.put, List.setIfInBounds_toArray, List.set_cons_zero, List.set_cons_succ])
            go_wp2_with ((with_reducible show wpList _ _ _ (⟨some 26, _, _, _, _, _⟩ :: _) _ _); (refine wpList_load_blk rfl rowTt (.tmp 5) rfl _ rfl (H.out.blk 1 rfl) rfl ?_))
            clear ix
            refine (may_any p1 q1 _).mono ?_; rintro e w5 ⟨rfl, hb5⟩
            replace H := Lib.hid (H.out.bel hb5); (try simp only [List.set_cons_zero, List.set_cons_succ, List.cons_append, List.nil_append, List.eraseIdx_cons_zero, List.eraseIdx_cons_succ, List.setIfInBounds_toArray, World.size_alloc, selR, List.getD_cons_zero, List.getD_cons_succ] at H)
            clear hb5
            obtain ⟨bm, hbm⟩ : ∃ b, (decide (0 ≤ p1) && decide (q1 ≤ 0)) = b := ⟨_, rfl⟩
            rw [hbm]
            have HBM := Lib.hid hbm
            clear hbm
            cases bm with
            | false =>
              have HBD : Hid (badTot ms.length 1 p1 q1 = true) := badTot_may HBM.out
              have HV2 : Hid (catErr ⟨⟨ds.map Dm.con, ms⟩, fa, p0, q0, p1, q1, p2, q2⟩ = 2) := by show _ = _; rw [HV.out]; show catT1 _ = 2; unfold catT1; rw [if_pos HBD.out]
              go_wp2_with fail
              go_ret
              rw [HV2.out]
              exact ⟨rfl, H.out.to⟩
            | true =>
              have cm0 := (H.out.blk 0 rfl).cell 1; simp only [List.getElem?_toArray, List.getElem?_cons_zero, List.getElem?_cons_succ] at cm0
              by_cases hin : (mn : Int) ≤ 1
              · have d1 : decide ((mn : Int) ≤ 1) = true := by simp [hin]
                have hin2 : (ms.length : Int) ≤ 1 := by have := hl2.out; omega
                obtain ⟨bz, hbz⟩ : ∃ b, (!(decide (p1 = 0) && decide (q1 = 0))) = b := ⟨_, rfl⟩
                have HBD : Hid (badTot ms.length 1 p1 q1 = bz) := badTot_out HBM.out hin2 hbz
                have hneq := neq_tot p1 q1
                rw [hbz] at hneq
                clear hbz hin2
                cases bz with
                | true =>
                  have HV2 : Hid (catErr ⟨⟨ds.map Dm.con, ms⟩, fa, p0, q0, p1, q1, p2, q2⟩ = 2) := by show _ = _; rw [HV.out]; show catT1 _ = 2; unfold catT1; rw [if_pos HBD.out]
                  go_wp2_with (first | ((with_reducible show wpList _ _ _ (⟨some 37, _, _, _, _, _⟩ :: _) _ _); refine wpList_load_blkG (by first | rfl | go_simp) rowTt (.tmp 5) (by rfl) _ (by rfl) (H.out.blk 1 rfl) rfl ?_) | ((with_reducible show wpList _ _ _ (⟨some 39, _, _, _, _, _⟩ :: _) _ _); refine wpList_cmp_row (by first | rfl | go_simp) .neq 37 37 (.tmp 37) (.tmp 38) (by rfl) (by rfl) (by rfl) guard_tot (hneq _) ?_))
                  go_ret
                  rw [HV2.out]
                  exact ⟨rfl, H.out.to⟩
                | false =>
                  have HV2 : Hid (catErr ⟨⟨ds.map Dm.con, ms⟩, fa, p0, q0, p1, q1, p2, q2⟩ = catFrom ⟨⟨ds.map Dm.con, ms⟩, fa, p0, q0, p1, q1, p2, q2⟩ 2) := by show _ = _; rw [HV.out]; show catT1 _ = _; unfold catT1; rw [if_neg (by rw [HBD.out]; simp)]; rfl
                  go_wp2_with (first | ((with_reducible show wpList _ _ _ (⟨some 37, _, _, _, _, _⟩ :: _) _ _); refine wpList_load_blkG (by first | rfl | go_simp) rowTt (.tmp 5) (by rfl) _ (by rfl) (H.out.blk 1 rfl) rfl ?_) | ((with_reducible show wpList _ _ _ (⟨some 39, _, _, _, _, _⟩ :: _) _ _); refine wpList_cmp_row (by first | rfl | go_simp) .neq 37 37 (.tmp 37) (.tmp 38) (by rfl) (by rfl) (by rfl) guard_tot (hneq _) ?_))
                  go_roundg (3 - (1 + 1))
                  case rel => exact ⟨2, rfl, by omega, rfl, Lib.hid (H.out.sel [0] (by decide) (by simp)), HV2⟩
                  case measure => omega
              · have d1 : decide ((mn : Int) ≤ 1) = false := by simp; omega
                have hin2 : ¬ (ms.length : Int) ≤ 1 := by have := hl2.out; omega
                have HBD : Hid (badTot ms.length 1 p1 q1 = false) := badTot_in HBM.out hin2
                clear hin2
                have HV2 : Hid (catErr ⟨⟨ds.map Dm.con, ms⟩, fa, p0, q0, p1, q1, p2, q2⟩ = catFrom ⟨⟨ds.map Dm.con, ms⟩, fa, p0, q0, p1, q1, p2, q2⟩ 2) := by show _ = _; rw [HV.out]; show catT1 _ = _; unfold catT1; rw [if_neg (by rw [HBD.out]; simp)]; rfl
                go_wp2_with fail
                go_roundg (3 - (1 + 1))
                case rel => exact ⟨2, rfl, by omega, rfl, Lib.hid (H.out.sel [0] (by decide) (by simp)), HV2⟩
                case measure => omega
          · have ix : ∀ W, (Instr.index 38 (.agg #[.int .i64 p0, .int .i64 q0, .int .i64 p1, .int .i64 q1, .int .i64 p2, .int .i64 q2]) (.int .i64 2)).run Try.prog W = .ok (.agg #[.int .i64 p2, .int .i64 q2]) W := fun _ => by kernel_rfl
            rw [show ((2 : Nat) : Int) = 2 from rfl]
            go_upto_region 9 with ((with_reducible show wpList _ _ _ (⟨_, .store _ (.tmp 5) _, _, _, _, _⟩ :: _) _ _); (refine wpList_store_new rfl rowTt (.tmp 5) (.tmp 25) rfl rfl rfl (#[.int .i64 p2, .int .i64 q2]) rfl rfl (by simp [Value.oneCell']) ?_; replace H := Lib.hid (H.out.alloc (#[.int .i64 p2, .int .i64 q2]) 37); (try simp only [List.set_cons_zero, List.set_cons_succ, List.cons_append, List.nil_append, List.eraseIdx_cons_zero, List.eraseIdx_cons_succ, List.setIfInBounds_toArray, World.size_alloc, selR, List.getD_cons_zero, List.getD_cons_succ] at H)))
            (try simp only [Act.put, List.setIfInBounds_toArray, List.set_cons_zero, List.set_cons_succ])
            go_wp2_with ((with_reducible show wpList _ _ _ (⟨some 26, _, _, _, _, _⟩ :: _) _ _); (refine wpList_load_blk rfl rowTt (.tmp 5) rfl _ rfl (H.out.blk 1 rfl) rfl ?_))
            clear ix
            refine (may_any p2 q2 _).mono ?_; rintro e w5 ⟨rfl, hb5⟩
            replace H := Lib.hid (H.out.bel hb5); (try simp only [List.set_cons_zero, List.set_cons_succ, List.cons_append, List.nil_append, List.eraseIdx_cons_zero, List.eraseIdx_cons_succ, List.setIfInBounds_toArray, World.size_alloc, selR, List.getD_cons_zero, List.getD_cons_succ] at H)
            clear hb5
            obtain ⟨bm, hbm⟩ : ∃ b, (decide (0 ≤ p2) && decide (q2 ≤ 0)) = b := ⟨_, rfl⟩
            rw [hbm]
            have HBM := Lib.hid hbm
            clear hbm
            cases bm with
            | false =>
              have HBD : Hid (badTot ms.length 2 p2 q2 = true) := badTot_may HBM.out
              have HV2 : Hid (catErr ⟨⟨ds.map Dm.con, ms⟩, fa, p0, q0, p1, q1, p2, q2⟩ = 2) := by show _ = _; rw [HV.out]; show catT2 _ = 2; unfold catT2; rw [if_pos HBD.out]
              go_wp2_with fail
              go_ret
              rw [HV2.out]
              exact ⟨rfl, H.out.to⟩
            | true =>
              have cm0 := (H.out.blk 0 rfl).cell 1; simp only [List.getElem?_toArray, List.getElem?_cons_zero, List.getElem?_cons_succ] at cm0
              by_cases hin : (mn : Int) ≤ 2
              · have d1 : decide ((mn : Int) ≤ 2) = true := by simp [hin]
                have hin2 : (ms.length : Int) ≤ 2 := by have := hl2.out; omega
                obtain ⟨bz, hbz⟩ : ∃ b, (!(decide (p2 = 0) && decide (q2 = 0))) = b := ⟨_, rfl⟩
                have HBD : Hid (badTot ms.length 2 p2 q2 = bz) := badTot_out HBM.out hin2 hbz
                have hneq := neq_tot p2 q2
                rw [hbz] at hneq
                clear hbz hin2
                cases bz with
                | true =>
                  have HV2 : Hid (catErr ⟨⟨ds.map Dm.con, ms⟩, fa, p0, q0, p1, q1, p2, q2⟩ = 2) := by show _ = _; rw [HV.out]; show catT2 _ = 2; unfold catT2; rw [if_pos HBD.out]
                  go_wp2_with (first | ((with_reducible show wpList _ _ _ (⟨some 37, _, _, _, _, _⟩ :: _) _ _); refine wpList_load_blkG (by first | rfl | go_simp) rowTt (.tmp 5) (by rfl) _ (by rfl) (H.out.blk 1 rfl) rfl ?_) | ((with_reducible show wpList _ _ _ (⟨some 39, _, _, _, _, _⟩ :: _) _ _); refine wpList_cmp_row (by first | rfl | go_simp) .neq 37 37 (.tmp 37) (.tmp 38) (by rfl) (by rfl) (by rfl) guard_tot (hneq _) ?_))
                  go_ret
                  rw [HV2.out]
                  exact ⟨rfl, H.out.to⟩
                | false =>
                  have HV2 : Hid (catErr ⟨⟨ds.map Dm.con, ms⟩, fa, p0, q0, p1, q1, p2, q2⟩ = catFrom ⟨⟨ds.map Dm.con, ms⟩, fa, p0, q0, p1, q1, p2, q2⟩ 3) := by show _ = _; rw [HV.out]; show catT2 _ = _; unfold catT2; rw [if_neg (by rw [HBD.out]; simp)]; rfl
                  go_wp2_with (first | ((with_reducible show wpList _ _ _ (⟨some 37, _, _, _, _, _⟩ :: _) _ _); refine wpList_load_blkG (by first | rfl | go_simp) rowTt (.tmp 5) (by rfl) _ (by rfl) (H.out.blk 1 rfl) rfl ?_) | ((with_reducible show wpList _ _ _ (⟨some 39, _, _, _, _, _⟩ :: _) _ _); refine wpList_cmp_row (by first | rfl | go_simp) .neq 37 37 (.tmp 37) (.tmp 38) (by rfl) (by rfl) (by rfl) guard_tot (hneq _) ?_))
                  go_roundg (3 - (2 + 1))
                  case rel => exact ⟨3, rfl, by omega, rfl, Lib.hid (H.out.sel [0] (by decide) (by simp)), HV2⟩
                  case measure => omega
              · have d1 : decide ((mn : Int) ≤ 2) = false := by simp; omega
                have hin2 : ¬ (ms.length : Int) ≤ 2 := by have := hl2.out; omega
                have HBD : Hid (badTot ms.length 2 p2 q2 = false) := badTot_in HBM.out hin2
                clear hin2
                have HV2 : Hid (catErr ⟨⟨ds.map Dm.con, ms⟩, fa, p0, q0, p1, q1, p2, q2⟩ = catFrom ⟨⟨ds.map Dm.con, ms⟩, fa, p0, q0, p1, q1, p2, q2⟩ 3) := by show _ = _; rw [HV.out]; show catT2 _ = _; unfold catT2; rw [if_neg (by rw [HBD.out]; simp)]; rfl
                go_wp2_with fail
                go_roundg (3 - (2 + 1))
                case rel => exact ⟨3, rfl, by omega, rfl, Lib.hid (H.out.sel [0] (by decide) (by simp)), HV2⟩
                case measure => omega
          · rw [show ((3 : Nat) : Int) = 3 from rfl]
            go_wp2_with fail
            go_ret
            rw [HV.out]
            exact ⟨rfl, H.out.to⟩
  · have HV : Hid (catErr ⟨⟨ds.map Dm.con, ms⟩, fa, p0, q0, p1, q1, p2, q2⟩ = schErr (⟨ds.map Dm.con, ms⟩ : SC)) := catErr_sc hE
    have dE : (schErr (⟨ds.map Dm.con, ms⟩ : SC) == 0) = false := by simpa using hE
    clear hE
    go_wp2_with fail
    go_ret
    rw [HV.out]
    exact ⟨rfl, H.out.to⟩

end Go.Proofs.Ytigjghfonpfdlaa
