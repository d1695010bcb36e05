/- Catalogs: few rows, the example. -/
import Derived.Test.YtigjghfonpfdlaaCatF
import Derived.Test.YtigjghfonpfdlaaSchA
import Derived.Test.YtigjghfonpfdlaaSchZ
namespace Go.Proofs.Ytigjghfonpfdlaa
open Go.RowKit Go.ChangeShapes Go.WideShapes Go.Deep
set_option linter.unusedVariables false
set_option linter.unusedSimpArgs false


theorem sms_few {s : Sch} (h : FewS s) : SmS s := ⟨by have := h.1; omega, by have := h.2.1; omega, fun d hd => ⟨by have := (h.2.2 d hd).1; omega, fun t ht => by have := (h.2.2 d hd).2 t ht; omega⟩⟩
theorem sameK_self (a : CC) : sameK a a = true := (sameK_iff a a).2 rfl
theorem opens_i64sq : Opens Try.prog 64 (Row Int) := opens_row (α := Int) Try.underlying64 (by kernel_rfl) (by kernel_rfl) (opens_i64 Try.underlying2)
set_option maxRecDepth 100000 in
set_option maxHeartbeats 2000000 in
theorem few18_any (r : Row (Row Int)) (w : World) (hr : r.rd w) :
    Calls Try.prog 18 #[.slice r.A r.n r.c] w (FewPost (r.n ≤ 100) w) := by
  have HR := Lib.hid hr
  have n63 := hr.n63
  have H := Lib.hid (SL.start No w)
  obtain ⟨A, n, c, X⟩ := r
  simp only at *
  clear hr
  go_enter Try.func18, Try.ntmps18
  go_wp2_with fail
  go_loopg [3] 102 (fun gg s3 wr => ∃ (k : Nat), gg = 102 - k ∧ k ≤ 101 ∧ k ≤ n ∧ s3 = .int .i64 k ∧ Hid (SL No w wr []))
  case atStart => exact ⟨0, rfl, by omega, by omega, rfl, H⟩
  case round =>
    clear H
    obtain ⟨k, hgk, hk101, hkn, rfl, H⟩ := hrel
    have Hgk := Lib.hid hgk
    clear hgk
    by_cases hlt : k < n ∧ k ≤ 100
    · obtain ⟨h1, h2⟩ := hlt
      have e1 : decide ((k : Int) ≤ 100) = true := by simp <;> omega
      obtain ⟨bb, oo, y, hA, hyk, hyr, q1⟩ := (HR.out.mono H.out.to).slRow (k := k) h1
      simp only at hA
      subst hA
      have y63 := hyr.rds.n63
      have i0 : (0 : Int) ≤ k := by omega
      have i1 : (k : Int) < n := by omega
      clear hyk hyr
      by_cases h10 : y.n ≤ 10
      · have d1 : decide ((10 : Int) < y.n) = false := by simp <;> omega
        go_wp2_with fail
        clear q1
        go_roundg (102 - (k + 1))
        case rel => exact ⟨k + 1, rfl, by omega, by omega, by go_num, H⟩
        case measure => rw [Hgk.out]; omega
      · have d1 : decide ((10 : Int) < y.n) = true := by simp <;> omega
        go_wp2
        go_ret
        exact ⟨false, rfl, (fun h => by cases h), H.out.to⟩
    · have e0 : (decide ((k : Int) < n) = false ∧ decide (k < n) = false ∧ ¬ k < n) ∨ (decide ((k : Int) < n) = true ∧ decide (k < n) = true ∧ k < n ∧ decide ((k : Int) ≤ 100) = false) := by
        by_cases h : k < n
        · right
          refine ⟨by simp <;> omega, by simp <;> omega, h, by simp <;> omega⟩
        · left
          refine ⟨by simp <;> omega, by simp <;> omega, h⟩
      clear hlt
      by_cases h20 : n ≤ 100
      · have d1 : decide ((n : Int) ≤ 100) = true := by simp <;> omega
        have hFew : Hid (n ≤ 100) := h20
        rcases e0 with ⟨e1, e2, e3⟩ | ⟨e1, e2, e3, e4⟩
        all_goals
          go_wp2
          go_ret
          exact ⟨_, rfl, fun _ => hFew.out, H.out.to⟩
      · have d1 : decide ((n : Int) ≤ 100) = false := by simp <;> omega
        rcases e0 with ⟨e1, e2, e3⟩ | ⟨e1, e2, e3, e4⟩
        all_goals
          go_wp2
          go_ret
          exact ⟨false, rfl, (fun h => by cases h), H.out.to⟩

abbrev exSC : SC := ⟨[exDC], [[109]]⟩
set_option maxRecDepth 100000 in
set_option maxHeartbeats 1000000 in
theorem some18_any (w : World) : Calls Try.prog 55 #[] w fun e w' => ∃ D : Sch, e = .returned (.agg D.cs) ∧ D.con = exSC ∧ D.rd w' ∧ SmS D ∧ Bel w w' := by
  have H := Lib.hid ((((((SL.start No w).alloc #[.slice none 0 0, .slice none 0 0] 25).alloc #[.string ⟨#[97]⟩] 9).alloc #[.string ⟨#[116]⟩, .slice (some ⟨w.heap.size + 1, 0, none⟩) 1 1, .slice none 0 0] 78).alloc #[.string ⟨#[100]⟩, .slice (some ⟨w.heap.size + 1 + 1, 0, none⟩) 1 1] 81).alloc #[.string ⟨#[109]⟩] 9)
  (try simp only [List.set_cons_zero, List.set_cons_succ, List.cons_append, List.nil_append, List.eraseIdx_cons_zero, List.eraseIdx_cons_succ, List.setIfInBounds_toArray, World.size_alloc, selR, List.getD_cons_zero, List.getD_cons_succ] at H)
  go_enter Try.func55, Try.ntmps55
  go_wp2_with ((with_reducible show wpList _ _ _ (⟨_, .store _ (.tmp 0) _, _, _, _, _⟩ :: _) _ _); (refine wpList_store_blk rfl rowSch (.tmp 0) (.tmp 7) rfl _ rfl (H.out.blk 0 rfl) rfl (#[.slice (some ⟨w.heap.size + 1 + 1 + 1, 0, none⟩) 1 1, .slice (some ⟨w.heap.size + 1 + 1 + 1 + 1, 0, none⟩) 1 1]) rfl rfl (by simp [Value.oneCell']) ?_; intro wq bq hgq; replace H := Lib.hid (H.out.setBlk 0 rfl hgq bq); (try simp only [List.set_cons_zero, List.set_cons_succ, List.cons_append, List.nil_append, List.eraseIdx_cons_zero, List.eraseIdx_cons_succ, List.setIfInBounds_toArray, World.size_alloc, selR, List.getD_cons_zero, List.getD_cons_succ] at H); clear hgq bq))
  refine bodyPost_ret (results_blk1 rfl rowSch rfl (H.out.blk 0 rfl) rfl) rfl ?_
  refine ⟨_, rfl, rfl, ex_sch H.out 1 2 3 4 rfl rfl rfl rfl, ⟨by show (1 : Nat) ≤ _; omega, by show (1 : Nat) ≤ _; omega, fun d hd => ?_⟩, H.out.to⟩
  simp at hd
  subst hd
  exact ⟨by show (1 : Nat) ≤ _; omega, fun t ht => by simp at ht; subst ht; show (0 : Nat) ≤ _; omega⟩

abbrev exRow (g1 g2 : Nat) : Row (Row Int) := ⟨some ⟨g2, 0, none⟩, 1, 1, [⟨some ⟨g1, 0, none⟩, 1, 1, [5]⟩]⟩
theorem exRow_rd {S : Nat → Prop} {w0 w : World} {l : List Res} (H : SL S w0 w l) (i j : Nat) {g1 g2 : Nat} (h1 : l[i]? = some (rBlk g1 2 #[.int .i64 5])) (h2 : l[j]? = some (rBlk g2 64 #[.slice (some ⟨g1, 0, none⟩) 1 1])) : (exRow g1 g2).rd w := by
  refine ⟨reads_of_block (m := 1) (H.blk j h2) rfl, fun y hy => ?_, by show (1 : Nat) ≤ _; omega⟩
  rw [List.mem_singleton] at hy
  subst hy
  refine ⟨reads_of_block (m := 1) (H.blk i h1) rfl, fun v hv => ?_, Nat.le_refl _, by unfold maxLen; simp, by show 1 * 8 ≤ _; omega⟩
  rw [List.mem_singleton] at hv
  subst hv
  show I64 5
  unfold I64
  omega
theorem catNew_ex : catNew exSC = (⟨exSC, 0, 0, 0, 0, 0, 0, 0⟩, 0) := by unfold catNew; rw [show schErr exSC = 0 from exErr]; rfl
theorem catGrow_ex : catGrow ⟨exSC, 0, 0, 0, 0, 0, 0, 0⟩ [[5]] = (⟨exSC, 1, 5, 0, 0, 0, 0, 0⟩, 0) := by
  have h : catErr ⟨exSC, 0, 0, 0, 0, 0, 0, 0⟩ = 0 := by unfold catErr; rw [show schErr exSC = 0 from exErr]; decide
  unfold catGrow
  rw [if_neg (by simp [h]), if_neg (by decide)]
  rfl
set_option maxRecDepth 100000 in
set_option maxHeartbeats 1000000 in
theorem awake18_any (w : World) : Calls Try.prog 19 #[] w fun e w' => e = .returned (.bool true) ∧ Bel w w' := by
  have H := Lib.hid (SL.start No w)
  go_enter Try.func19, Try.ntmps19
  go_wp2_with fail
  refine (some18_any _).mono ?_; rintro e w1 ⟨D, rfl, hDc, hDr, hDs, hb1⟩
  have HN := Lib.hid (catnew_any D w1 hDr hDs)
  rw [hDc, catNew_ex] at HN
  replace H := Lib.hid (H.out.bel hb1); (try simp only [List.set_cons_zero, List.set_cons_succ, List.cons_append, List.nil_append, List.eraseIdx_cons_zero, List.eraseIdx_cons_succ, List.setIfInBounds_toArray, World.size_alloc, selR, List.getD_cons_zero, List.getD_cons_succ] at H)
  clear hb1 hDc hDr hDs
  obtain ⟨⟨B, m, d, es⟩, ⟨MB, mm, md, mt⟩⟩ := D
  simp only [Sch.cs] at *
  go_wp2_with fail
  refine HN.out.mono ?_; rintro e w2 ⟨C, rfl, hCc, hCr, hCs, hb2⟩
  replace H := Lib.hid (H.out.bel hb2); (try simp only [List.set_cons_zero, List.set_cons_succ, List.cons_append, List.nil_append, List.eraseIdx_cons_zero, List.eraseIdx_cons_succ, List.setIfInBounds_toArray, World.size_alloc, selR, List.getD_cons_zero, List.getD_cons_succ] at H)
  clear hb2 HN
  have HG := Lib.hid (fun w' (hb : Bel w2 w') (r : Row (Row Int)) (hr : r.rd w') (hn : r.n ≤ 1000000) => catgrow_any C r w' (hCr.mono hb) hCs hr hn)
  rw [hCc] at HG
  clear hCc hCr hCs
  obtain ⟨⟨⟨A, n, c, ds⟩, ⟨MA, mn, mc, ms⟩⟩, fa, p0, q0, p1, q1, p2, q2⟩ := C
  simp only [Ct.cs, Sch.cs] at *
  replace H := Lib.hid (H.out.bel (Bel.refl w2)); (try simp only [List.set_cons_zero, List.set_cons_succ, List.cons_append, List.nil_append, List.eraseIdx_cons_zero, List.eraseIdx_cons_succ, List.setIfInBounds_toArray, World.size_alloc, selR, List.getD_cons_zero, List.getD_cons_succ] at H)
  go_upto_region 2 with ((with_reducible show wpList _ _ _ (⟨_, .store _ (.tmp 1) _, _, _, _, _⟩ :: _) _ _); (refine wpList_store_new rfl rowCt (.tmp 1) (.tmp 8) rfl rfl rfl (#[.slice A n c, .slice MA mn mc, .int .i64 fa, .int .i64 p0, .int .i64 q0, .int .i64 p1, .int .i64 q1, .int .i64 p2, .int .i64 q2]) rfl rfl (by simp [Value.oneCell']) ?_; replace H := Lib.hid (H.out.alloc (#[.slice A n c, .slice MA mn mc, .int .i64 fa, .int .i64 p0, .int .i64 q0, .int .i64 p1, .int .i64 q1, .int .i64 p2, .int .i64 q2]) 40); (try simp only [List.set_cons_zero, List.set_cons_succ, List.cons_append, List.nil_append, List.eraseIdx_cons_zero, List.eraseIdx_cons_succ, List.setIfInBounds_toArray, World.size_alloc, selR, List.getD_cons_zero, List.getD_cons_succ] at H)))
  (try simp only [Act.put, List.setIfInBounds_toArray, List.set_cons_zero, List.set_cons_succ])
  have HB2 := Lib.hid ((Bel.refl w2).alloc (.cells #[.slice A n c, .slice MA mn mc, .int .i64 fa, .int .i64 p0, .int .i64 q0, .int .i64 p1, .int .i64 q1, .int .i64 p2, .int .i64 q2] 40))
  generalize w2.heap.size = g0 at *
  generalize World.alloc w2 _ = w3 at *
  have HB3 := Lib.hid ((HB2.out.alloc (.cells #[.int .i64 5] 2)).alloc (.cells #[.slice (some ⟨w3.heap.size, 0, none⟩) 1 1] 64))
  go_wp2_with ((with_reducible show wpList _ _ _ (⟨some 11, _, _, _, _, _⟩ :: _) _ _); refine wpList_load_blk rfl rowCt (.tmp 1) rfl _ rfl (H.out.blk 0 rfl) rfl ?_; replace H := Lib.hid ((H.out.alloc #[.int .i64 5] 2).alloc #[.slice (some ⟨w3.heap.size, 0, none⟩) 1 1] 64); (try simp only [List.set_cons_zero, List.set_cons_succ, List.cons_append, List.nil_append, List.eraseIdx_cons_zero, List.eraseIdx_cons_succ, List.setIfInBounds_toArray, World.size_alloc, selR, List.getD_cons_zero, List.getD_cons_succ] at H))
  generalize w3.heap.size + 1 = g2 at *
  generalize w3.heap.size = g1 at *
  generalize World.alloc (World.alloc _ _) _ = w4 at *
  replace HG := Lib.hid (HG.out w4 HB3.out (exRow g1 g2) (exRow_rd H.out 1 2 rfl rfl) (by show (1 : Nat) ≤ _; omega))
  rw [show catGrow _ ((exRow g1 g2).l.map (·.l)) = _ from catGrow_ex] at HG
  refine HG.out.mono ?_; rintro e w5 ⟨E, rfl, hEc, hEr, hEs, hb5⟩
  replace H := Lib.hid (H.out.bel hb5); (try simp only [List.set_cons_zero, List.set_cons_succ, List.cons_append, List.nil_append, List.eraseIdx_cons_zero, List.eraseIdx_cons_succ, List.setIfInBounds_toArray, World.size_alloc, selR, List.getD_cons_zero, List.getD_cons_succ] at H)
  clear hb5 HG HB2 HB3
  obtain ⟨⟨⟨B', m', d', es'⟩, ⟨MB', mm', md', mt'⟩⟩, fa', a0, b0, a1, b1, a2, b2⟩ := E
  simp only [Ct.cs, Sch.cs, Ct.con, Sch.con, CC.mk.injEq] at *
  obtain ⟨_, rfl, rfl, rfl, rfl, rfl, rfl, rfl⟩ := hEc
  clear hEr hEs
  go_upto_region 3 with ((with_reducible show wpList _ _ _ (⟨_, .store _ (.tmp 3) _, _, _, _, _⟩ :: _) _ _); (refine wpList_store_new rfl rowCt (.tmp 3) (.tmp 15) rfl rfl rfl (#[.slice B' m' d', .slice MB' mm' md', .int .i64 1, .int .i64 5, .int .i64 0, .int .i64 0, .int .i64 0, .int .i64 0, .int .i64 0]) rfl rfl (by simp [Value.oneCell']) ?_; replace H := Lib.hid (H.out.alloc (#[.slice B' m' d', .slice MB' mm' md', .int .i64 1, .int .i64 5, .int .i64 0, .int .i64 0, .int .i64 0, .int .i64 0, .int .i64 0]) 40); (try simp only [List.set_cons_zero, List.set_cons_succ, List.cons_append, List.nil_append, List.eraseIdx_cons_zero, List.eraseIdx_cons_succ, List.setIfInBounds_toArray, World.size_alloc, selR, List.getD_cons_zero, List.getD_cons_succ] at H)))
  (try simp only [Act.put, List.setIfInBounds_toArray, List.set_cons_zero, List.set_cons_succ])
  generalize w5.heap.size = g3 at *
  generalize World.alloc w5 _ = w6 at *
  have c2 := (H.out.blk 3 rfl).cell 2; simp only [List.getElem?_toArray, List.getElem?_cons_zero, List.getElem?_cons_succ] at c2
  have c3 := (H.out.blk 3 rfl).cell 3; simp only [List.getElem?_toArray, List.getElem?_cons_zero, List.getElem?_cons_succ] at c3
  have c4 := (H.out.blk 3 rfl).cell 4; simp only [List.getElem?_toArray, List.getElem?_cons_zero, List.getElem?_cons_succ] at c4
  go_wp2
  go_ret
  exact ⟨rfl, H.out.to⟩

end Go.Proofs.Ytigjghfonpfdlaa
