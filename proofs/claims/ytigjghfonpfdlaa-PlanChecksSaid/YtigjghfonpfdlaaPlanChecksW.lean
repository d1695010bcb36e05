/- The walk of the law PlanChecks. -/
import Derived.Test.YtigjghfonpfdlaaPlanC
namespace Go.Proofs.Ytigjghfonpfdlaa
open Go.RowKit Go.ChangeShapes Go.WideShapes Go.Deep
set_option linter.unusedVariables false
set_option linter.unusedSimpArgs false

set_option maxRecDepth 100000 in
theorem c_scn : Try.prog.cellsOf 88 = 3 := by kernel_rfl
set_option maxRecDepth 100000 in
theorem c_shp : Try.prog.cellsOf 94 = 2 := by kernel_rfl
set_option maxRecDepth 100000 in
theorem c_intss : Try.prog.cellsOf 92 = 1 := by kernel_rfl
theorem opens_scn : Opens Try.prog 88 Scn := by
  intro H enc w base spare held fuel cs x h hz
  have hl := struct_len Try.underlying88 h c_scn
  obtain ⟨a, ha, wa⟩ := field_of Try.underlying88 h hz 0 _ rfl (opens_i64 Try.underlying3) c_int
  obtain ⟨b, hb, wb⟩ := field_of Try.underlying88 h hz 1 _ rfl opens_nums c_ints
  obtain ⟨c, hc, wc⟩ := field_of Try.underlying88 h hz 2 _ rfl opens_nums c_ints
  refine ⟨⟨a, b, c⟩, ?_, ⟨wa, Row.ok.rds wb, Row.ok.rds wc, by have h := wb.reach; have e : Cel.bytes Int = 8 := rfl; rw [e] at h; simp only; omega, by have h := wc.reach; have e : Cel.bytes Int = 8 := rfl; rw [e] at h; simp only; omega⟩⟩
  match cs, hl with
  | [x0, x1, x2], _ =>
    simp [Cel.cells, Row.v] at ha hb hc
    simp [Cel.cells, ha, hb, hc]
set_option maxRecDepth 100000 in
theorem open_scns {H : Type} {enc : TypeId × Value → H} {w : World} {base b0 : Nat} {spare : Nat → Bool} {held : Bool} {r : Reach} {v : Value} {d : DataW H} {p : List MemPlace}
    (hv : Value.okWide Try.prog w r b0 84 v) (h : DataW.Trod enc Try.prog w base spare held 84 v d p) (hz : Sized Try.prog 84 d) : ∃ x : Row Scn, v = x.v ∧ x.rd w := by
  obtain ⟨x, hx, ho⟩ := open_row Try.underlying84 c_scn (by kernel_rfl) opens_scn hv h hz
  exact ⟨x, hx, ho.rds⟩
theorem opens_intss : Opens Try.prog 92 (Row (Row Int)) := opens_row Try.underlying92 c_ints (by kernel_rfl) opens_nums
set_option maxRecDepth 100000 in
theorem open_shp {H : Type} {enc : TypeId × Value → H} {w : World} {base b0 : Nat} {spare : Nat → Bool} {held : Bool} {r : Reach} {v : Value} {d : DataW H} {p : List MemPlace}
    (hv : Value.okWide Try.prog w r b0 94 v) (h : DataW.Trod enc Try.prog w base spare held 94 v d p) (hz : Sized Try.prog 94 d) : ∃ x : Shp, v = .agg x.cs ∧ x.rd w := by
  obtain ⟨cs, rfl, _⟩ := okWide_struct Try.underlying94 hv
  obtain ⟨fuel, hf⟩ := h
  have hl := struct_len Try.underlying94 hf c_shp
  obtain ⟨a, ha, wa⟩ := field_of Try.underlying94 hf hz 0 _ rfl opens_intss c_intss
  obtain ⟨b, hb, wb⟩ := field_of Try.underlying94 hf hz 1 _ rfl (opens_i64 Try.underlying3) c_int
  refine ⟨⟨a, b⟩, ?_, ⟨Row.ok.rds wa, wb⟩⟩
  simp only [Value.cells] at ha hb hl
  obtain ⟨cl⟩ := cs
  match cl, hl with
  | [x0, x1], _ =>
    simp [Cel.cells, Row.v] at ha hb
    simp [ha, hb]
def SmallS (s : Shp) : Prop := s.sz.n ≤ 20 ∧ ∀ y ∈ s.sz.l, y.n ≤ 10
set_option maxRecDepth 100000 in
set_option maxHeartbeats 2000000 in
theorem smallS_any (s : Shp) (w : World) (hs : s.rd w) :
    Calls Try.prog 48 #[.agg s.cs] w (FewPost (SmallS s) w) := by
  have HSZ := Lib.hid hs.sz
  have hl1 : Hid (s.sz.l.length = s.sz.n) := hs.sz.len
  have n63 := hs.sz.n63
  have H := Lib.hid ((SL.start No w).alloc s.cs 94)
  (try simp only [List.set_cons_zero, List.set_cons_succ, List.cons_append, List.nil_append, List.eraseIdx_cons_zero, List.eraseIdx_cons_succ, List.setIfInBounds_toArray, World.size_alloc, selR, List.getD_cons_zero, List.getD_cons_succ] at H)
  obtain ⟨⟨A, n, c, X⟩, ms⟩ := s
  simp only [Shp.cs] at *
  clear hs
  go_enter Try.func48, Try.ntmps48
  go_wp2_with fail
  generalize w.heap.size = x at *
  generalize World.alloc _ _ = w1 at *
  have HA : Hid (∀ i y, i < 0 → X[i]? = some y → y.n ≤ 10) := fun i t hi => absurd hi (by omega)
  go_loopg [3] 22 (fun gg s3 wr => ∃ (k : Nat), gg = 22 - k ∧ k ≤ 21 ∧ k ≤ n ∧ s3 = .int .i64 k ∧ Hid (SL No w wr [rBlk x 94 #[.slice A n c, .int .i64 ms]]) ∧ Hid (∀ i y, i < k → X[i]? = some y → y.n ≤ 10))
  case atStart => exact ⟨0, rfl, by omega, by omega, rfl, H, HA⟩
  case round =>
    clear H HA
    obtain ⟨k, hgk, hk21, hkn, rfl, H, HA⟩ := hrel
    have Hgk := Lib.hid hgk
    clear hgk
    have cc0 := (H.out.blk 0 rfl).cell 0; simp only [List.getElem?_toArray, List.getElem?_cons_zero, List.getElem?_cons_succ] at cc0
    by_cases hlt : k < n ∧ k ≤ 20
    · obtain ⟨h1, h2⟩ := hlt
      have e1 : decide ((k : Int) ≤ 20) = true := by simp <;> omega
      obtain ⟨bb, oo, y, hA, hyk, hyr, q1⟩ := (HSZ.out.mono H.out.to).slAt (k := k) h1
      simp only at hA
      subst hA
      have HYK := Lib.hid hyk
      have y63 := hyr.rds.n63
      have i0 : (0 : Int) ≤ k := by omega
      have i1 : (k : Int) < n := by omega
      clear hyk hyr
      by_cases h10 : y.n ≤ 10
      · have d1 : decide ((10 : Int) < y.n) = false := by simp <;> omega
        have HN : Hid (∀ i y, i < k + 1 → X[i]? = some y → y.n ≤ 10) := by
          intro i d' hi hid
          rcases (show i < k ∨ i = k by omega) with h | h
          · exact HA.out i d' h hid
          · subst h
            rw [HYK.out] at hid
            injection hid with hid
            subst hid
            exact h10
        clear HA
        go_wp2_with fail
        clear cc0 q1
        go_roundg (22 - (k + 1))
        case rel => exact ⟨k + 1, rfl, by omega, by omega, by go_num, H, HN⟩
        case measure => rw [Hgk.out]; omega
      · have d1 : decide ((10 : Int) < y.n) = true := by simp <;> omega
        go_wp2
        go_ret
        exact ⟨false, rfl, (fun h => by cases h), H.out.to⟩
    · have e0 : (decide ((k : Int) < n) = false ∧ decide (k < n) = false ∧ ¬ k < n) ∨ (decide ((k : Int) < n) = true ∧ decide (k < n) = true ∧ k < n ∧ decide ((k : Int) ≤ 20) = false) := by
        by_cases h : k < n
        · right
          refine ⟨by simp <;> omega, by simp <;> omega, h, by simp <;> omega⟩
        · left
          refine ⟨by simp <;> omega, by simp <;> omega, h⟩
      clear hlt
      have HALL : Hid (n ≤ 20 → ∀ y ∈ X, y.n ≤ 10) := by
        intro h20 d hd
        obtain ⟨i, hi⟩ := List.mem_iff_getElem?.1 hd
        have hil : i < X.length := (List.getElem?_eq_some_iff.1 hi).1
        refine HA.out i d ?_ hi
        have := hl1.out
        rcases e0 with ⟨_, _, h⟩ | ⟨_, _, h, h'⟩
        · omega
        · simp at h'; omega
      clear HA
      by_cases h20 : n ≤ 20
      · have d1 : decide ((n : Int) ≤ 20) = true := by simp <;> omega
        have hFew : Hid (SmallS ⟨⟨A, n, c, X⟩, ms⟩) := ⟨h20, HALL.out h20⟩
        rcases e0 with ⟨e1, e2, e3⟩ | ⟨e1, e2, e3, e4⟩
        all_goals
          go_wp2
          go_ret
          exact ⟨_, rfl, fun _ => hFew.out, H.out.to⟩
      · have d1 : decide ((n : Int) ≤ 20) = false := by simp <;> omega
        rcases e0 with ⟨e1, e2, e3⟩ | ⟨e1, e2, e3, e4⟩
        all_goals
          go_wp2
          go_ret
          exact ⟨false, rfl, (fun h => by cases h), H.out.to⟩
set_option maxRecDepth 100000 in
set_option maxHeartbeats 2000000 in
theorem walk_planChecks (w : World) (s : Shp) (hs : s.rd w) (x : Row Scn) (hx : x.rd w) :
    Calls Try.prog 12 #[.agg s.cs, x.v] w fun e w' => e = .returned (.bool true) ∧ Bel w w' := by
  have HF := Lib.hid (fun w' (hb : Bel w w') => smallS_any s w' (hs.mono hb))
  have HC := Lib.hid (fun w' (hb : Bel w w') => plancheck_any s x w' (hs.mono hb) (hx.mono hb))
  have HW := Lib.hid (fun w' (hb : Bel w w') => planwrong_any s x w' (hs.mono hb) (hx.mono hb))
  have HX := Lib.hid hx
  have x63 := hx.n63
  have H := Lib.hid ((SL.start No w).alloc s.cs 94)
  (try simp only [List.set_cons_zero, List.set_cons_succ, List.cons_append, List.nil_append, List.eraseIdx_cons_zero, List.eraseIdx_cons_succ, List.setIfInBounds_toArray, World.size_alloc, selR, List.getD_cons_zero, List.getD_cons_succ] at H)
  have hcs : s.cs = #[.slice s.sz.A s.sz.n s.sz.c, .int .i64 s.ms] := rfl
  have HCS := Lib.hid hcs
  obtain ⟨A, n, c, cs⟩ := x
  simp only [Row.v] at *
  clear hcs hs hx
  go_enter Try.func12, Try.ntmps12
  (try rw [← HCS.out] at *)
  go_wp2_with ((with_reducible show wpList _ _ _ (⟨some 8, _, _, _, _, _⟩ :: _) _ _); (refine wpList_load_blk rfl rowShp2 (.tmp 2) rfl _ rfl (H.out.blk 0 rfl) rfl ?_))
  refine (HF.out _ H.out.to).mono ?_; rintro e w1 ⟨b, rfl, hfew, hb1⟩
  replace H := Lib.hid (H.out.bel hb1); (try simp only [List.set_cons_zero, List.set_cons_succ, List.cons_append, List.nil_append, List.eraseIdx_cons_zero, List.eraseIdx_cons_succ, List.setIfInBounds_toArray, World.size_alloc, selR, List.getD_cons_zero, List.getD_cons_succ] at H)
  clear hb1
  clear HF
  cases b with
  | false =>
    clear hfew
    go_wp2_with fail
    refine (awake36_any _).mono ?_; rintro e w8 ⟨rfl, hb8⟩
    go_wp2
    go_ret
    exact ⟨rfl, H.out.to.trans hb8⟩
  | true =>
    clear hfew
    by_cases h30 : n ≤ 30
    · have d1 : decide ((30 : Int) < n) = false := by simp <;> omega
      have d2 : decide (30 < n) = false := by simp <;> omega
      go_upto_region 5 with fail
      clear d1 d2
      generalize w.heap.size = y at *
      go_loopg [5, 19] n (fun gg s5 i wr => ∃ (k sm : Nat), gg = n - k ∧ k ≤ n ∧ i = .int .i64 k ∧ s5 = .int .i64 sm ∧ sm ≤ 10000 * k ∧ Hid (SL No w wr [rBlk y 94 s.cs]))
      case atStart => exact ⟨0, 0, rfl, by omega, rfl, rfl, by omega, H⟩
      case round =>
        clear H
        obtain ⟨k, sm, hgk, hk, rfl, rfl, hsm, H⟩ := hrel
        have Hgk := Lib.hid hgk
        clear hgk
        by_cases hlt : k < n
        · obtain ⟨b2, o2, p, hB, hb2, hpk, hpr, hrg2⟩ := (HX.out.mono H.out.to).scnAt (k := k) hlt
          simp only at hB
          subst hB
          have HR2 := Lib.hid hrg2
          have tb := hpr.tb
          have i0 : (0 : Int) ≤ k := by omega
          have i1 : (k : Int) < n := by omega
          clear hpk hpr hrg2 hb2
          obtain ⟨ct, ⟨TA, tn, tc, tks⟩, ⟨IA, inn, ic, ios⟩⟩ := p
          simp only [Scn.cs] at *
          go_upto_region 7 with (first | ((with_reducible show wpList _ _ _ (⟨some 22, _, _, _, _, _⟩ :: _) _ _); (refine wpList_load_row_at rfl rowScan (.tmp 21) rfl b2 (o2 + k * 3) rfl #[.int .i64 ct, .slice TA tn tc, .slice IA inn ic] rfl HR2.out ?_)) | ((with_reducible show wpList _ _ _ (⟨_, .store _ (.tmp 7) _, _, _, _, _⟩ :: _) _ _); (refine wpList_store_new rfl rowScan (.tmp 7) (.tmp 22) rfl rfl rfl (#[.int .i64 ct, .slice TA tn tc, .slice IA inn ic]) rfl rfl (by simp [Value.oneCell']) ?_; replace H := Lib.hid (H.out.alloc (#[.int .i64 ct, .slice TA tn tc, .slice IA inn ic]) 88); (try simp only [List.set_cons_zero, List.set_cons_succ, List.cons_append, List.nil_append, List.eraseIdx_cons_zero, List.eraseIdx_cons_succ, List.setIfInBounds_toArray, World.size_alloc, selR, List.getD_cons_zero, List.getD_cons_succ] at H))))
          (try simp only [Act.put, List.setIfInBounds_toArray, List.set_cons_zero, List.set_cons_succ])
          clear HR2
          generalize wr.heap.size = z at *
          generalize World.alloc wr _ = w5 at *
          have cc1 := (H.out.blk 1 rfl).cell 1; simp only [List.getElem?_toArray, List.getElem?_cons_zero, List.getElem?_cons_succ] at cc1
          obtain ⟨q1, hq1, hq12⟩ : ∃ q : Nat, (min (tn : Int) 10000) = q ∧ q ≤ 10000 := ⟨min tn 10000, by omega, by omega⟩
          replace H := Lib.hid (H.out.sel [0] (by decide) (by simp)); (try simp only [List.set_cons_zero, List.set_cons_succ, List.cons_append, List.nil_append, List.eraseIdx_cons_zero, List.eraseIdx_cons_succ, List.setIfInBounds_toArray, World.size_alloc, selR, List.getD_cons_zero, List.getD_cons_succ] at H)
          go_wp2_with fail
          go_roundg (n - (k + 1))
          case rel => exact ⟨k + 1, sm + q1, rfl, by omega, by go_num, by go_num, by omega, H⟩
          case measure => rw [Hgk.out]; omega
        · by_cases h5 : sm ≤ 5000
          · have d1 : decide ((5000 : Int) < sm) = false := by simp <;> omega
            have d2 : decide (5000 < sm) = false := by simp <;> omega
            generalize planErr s.con (cs.map Scn.con) = E at *
            have q8 : (E == E) = true := by simp
            go_upto_region 11 with fail
            refine wp_region_over (by kernel_rfl) (by kernel_rfl) ?_
            (try simp only [Act.put, List.setIfInBounds_toArray, List.set_cons_zero, List.set_cons_succ])
            repeat (first
              | ((with_reducible show wpQuiet _ _ _ _ (⟨some 33, _, _, _, _, _⟩ :: _) _); refine wpQuiet_load_row (by first | rfl | go_simp) rowShp2 (.tmp 2) rfl _ (0) rfl _ rfl (H.out.blk 0 rfl).lt (H.out.blk 0 rfl).range ?_; simp only [Act.put, List.setIfInBounds_toArray, List.set_cons_zero, List.set_cons_succ])
              | ((with_reducible show wpQuiet _ _ _ _ (⟨some 36, _, _, _, _, _⟩ :: _) _); refine wpQuiet_load_row (by first | rfl | go_simp) rowShp2 (.tmp 2) rfl _ (0) rfl _ rfl (H.out.blk 0 rfl).lt (H.out.blk 0 rfl).range ?_; simp only [Act.put, List.setIfInBounds_toArray, List.set_cons_zero, List.set_cons_succ])
              | go_big_quiet_step ((first | (go_at_call 45; rename_i u; exact calls_over (HC.out _ (H.out.to.trans u.bel))) | (go_at_call 49; rename_i u; exact calls_over (HW.out _ (H.out.to.trans u.bel))) | (go_at_call 39; rename_i u; exact calls_over (awake36_any _)))))
            refine wpQuiet_nil ?_
            rintro w5 ⟨⟨_, hw5⟩, rfl⟩
            (try dsimp only)
            replace H := Lib.hid (H.out.bel hw5); (try simp only [List.set_cons_zero, List.set_cons_succ, List.cons_append, List.nil_append, List.eraseIdx_cons_zero, List.eraseIdx_cons_succ, List.setIfInBounds_toArray, World.size_alloc, selR, List.getD_cons_zero, List.getD_cons_succ] at H)
            skip
            go_wp2
            go_ret
            exact ⟨rfl, H.out.to⟩
          · have d1 : decide ((5000 : Int) < sm) = true := by simp <;> omega
            have d2 : decide (5000 < sm) = true := by simp <;> omega
            go_wp2_with fail
            refine (awake36_any _).mono ?_; rintro e w8 ⟨rfl, hb8⟩
            go_wp2
            go_ret
            exact ⟨rfl, H.out.to.trans hb8⟩
    · have d1 : decide ((30 : Int) < n) = true := by simp <;> omega
      have d2 : decide (30 < n) = true := by simp <;> omega
      go_wp2_with fail
      refine (awake36_any _).mono ?_; rintro e w8 ⟨rfl, hb8⟩
      go_wp2
      go_ret
      exact ⟨rfl, H.out.to.trans hb8⟩

end Go.Proofs.Ytigjghfonpfdlaa
