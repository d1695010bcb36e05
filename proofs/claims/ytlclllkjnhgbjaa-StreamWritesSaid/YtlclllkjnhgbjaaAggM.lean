/- Walks of agg.Mean, agg.May. -/
import Derived.Test.YtlclllkjnhgbjaaBg
import Derived.Test.YtlclllkjnhgbjaaBb
namespace Go.Proofs.Ytlclllkjnhgbjaa
open Go.RowKit
set_option linter.unusedVariables false

/-- May a part be, within or beyond the measures, of so many rows? -/
def prtMay (inside : Bool) (c : Int) (p : Prt) : Bool := if inside then decide (p.mn ≤ p.mx) && (!(c == 1) || (p.s == p.mn && p.s == p.mx)) else decide (p = .zero)
/-- May an aggregate of so many measures be? -/
def mayAg (m : Int) (a : Ag) : Bool := decide (0 ≤ m) && decide (m ≤ 3) && decide (1 ≤ a.c) && prtMay (decide (0 < m)) a.c a.p && prtMay (decide (1 < m)) a.c a.q && prtMay (decide (2 < m)) a.c a.r

set_option maxRecDepth 100000 in
theorem guard_part : Try.prog.eqGuardType Try.prog.depth 27 = false := by kernel_rfl

set_option maxRecDepth 100000 in
set_option maxHeartbeats 1000000 in
theorem neq_part (p : Prt) (W : World) : (binOp .neq 27 (.agg p.cs) (.agg Prt.zero.cs)).run Try.prog W = .ok (.bool (!decide (p = .zero))) W := by
  obtain ⟨s, mn, mx⟩ := p
  unfold Prt.cs Prt.zero
  by_cases h1 : s = 0 <;> by_cases h2 : mn = 0 <;> by_cases h3 : mx = 0 <;> go_simp

/-- A measure's sum. -/
def Ag.sum (a : Ag) (k : Int) : Int := if k = 0 then a.p.s else if k = 1 then a.q.s else a.r.s

set_option maxRecDepth 100000 in
set_option maxHeartbeats 1000000 in
theorem may_no (a : Ag) (m : Int) (w : World) (hm : I64 m) (h : m < 0 ∨ 3 < m ∨ a.c < 1) :
    Calls Try.prog 95 #[.int .i64 m, .agg a.cs] w fun e w' => e = .returned (.bool false) ∧ Bel w w' := by
  unfold I64 at hm
  obtain ⟨k0, k1⟩ := hm
  unfold Ag.cs
  by_cases h1 : m < 0
  · clear h
    go_enter Try.func95, Try.ntmps95
    go_wp2
    go_ret
    exact ⟨rfl, (Bel.refl _).alloc _⟩
  · by_cases h2 : 3 < m
    · clear h
      go_enter Try.func95, Try.ntmps95
      go_wp2
      go_ret
      exact ⟨rfl, (Bel.refl _).alloc _⟩
    · have h3 : a.c < 1 := by omega
      clear h
      go_enter Try.func95, Try.ntmps95
      go_wp2
      go_ret
      exact ⟨rfl, (Bel.refl _).alloc _⟩

set_option maxRecDepth 100000 in
set_option maxHeartbeats 8000000 in
theorem may_yes (a : Ag) (m : Int) (w : World) (h0 : 0 ≤ m) (h3 : m ≤ 3) (hc : 1 ≤ a.c) :
    Calls Try.prog 95 #[.int .i64 m, .agg a.cs] w fun e w' => e = .returned (.bool (mayAg m a)) ∧ Bel w w' := by
  have d1 : decide (m < 0) = false := by simp; omega
  have d2 : decide (3 < m) = false := by simp; omega
  have d3 : decide (a.c < 1) = false := by simp; omega
  rw [show a.cs = #[.int .i64 a.c, .int .i64 a.p.s, .int .i64 a.p.mn, .int .i64 a.p.mx, .int .i64 a.q.s, .int .i64 a.q.mn, .int .i64 a.q.mx, .int .i64 a.r.s, .int .i64 a.r.mn, .int .i64 a.r.mx] from rfl]
  go_enter Try.func95, Try.ntmps95
  go_wp2
  have BB : Bel w (w.alloc (.cells a.cs 30)) := (Bel.refl w).alloc _
  have B0 : Blk (w.alloc (.cells a.cs 30)) w.heap.size 30 a.cs := Blk.new w _ _
  clear d1 d2 d3
  go_loopg [20] 3 (fun g i wr => ∃ k : Nat, g = 3 - k ∧ k ≤ 3 ∧ i = .int .i64 k ∧ Bel w wr ∧ Blk wr w.heap.size 30 a.cs ∧ Hid ((0 < k → prtMay (decide (0 < m)) a.c a.p = true) ∧ (1 < k → prtMay (decide (1 < m)) a.c a.q = true) ∧ (2 < k → prtMay (decide (2 < m)) a.c a.r = true)))
  case atStart => exact ⟨0, rfl, by omega, rfl, BB, B0, by refine ⟨?_, ?_, ?_⟩ <;> intro h <;> omega⟩
  case round =>
    clear B0 BB
    obtain ⟨k, hgk, hk, rfl, hB, b0, hF⟩ := hrel
    have c0 := b0.cell 0
    simp [Ag.cs] at c0
    have hlt0 := b0.lt
    by_cases hlt : k < 3
    · rcases (show k = 0 ∨ k = 1 ∨ k = 2 by omega) with rfl | rfl | rfl
      · have ix : ∀ W, (Instr.index 28 (.agg #[.int .i64 a.p.s, .int .i64 a.p.mn, .int .i64 a.p.mx, .int .i64 a.q.s, .int .i64 a.q.mn, .int .i64 a.q.mx, .int .i64 a.r.s, .int .i64 a.r.mn, .int .i64 a.r.mx]) (.int .i64 0)).run Try.prog W = .ok (.agg #[.int .i64 a.p.s, .int .i64 a.p.mn, .int .i64 a.p.mx]) W := fun _ => by kernel_rfl
        rw [show ((0 : Nat) : Int) = 0 from rfl]
        by_cases hin : 0 < m
        · by_cases h1 : a.p.mn ≤ a.p.mx
          · by_cases h2 : a.c = 1
            · have q2 : (a.c == 1) = true := by simp [h2]
              by_cases h3 : a.p.s = a.p.mn
              · have q3 : (a.p.s != a.p.mn) = false := by simp [h3]
                by_cases h4 : a.p.s = a.p.mx
                · have q4 : (a.p.s != a.p.mx) = false := by simp [h4]
                  have HP : prtMay (decide (0 < m)) a.c a.p = true := by unfold prtMay; simp [hin, ← h3, ← h4]
                  clear h2 h3 h4
                  have HP' := Lib.hid HP
                  clear HP
                  go_wp2_with ((with_reducible show wpList _ _ _ (⟨some 31, _, _, _, _, _⟩ :: _) _ _); refine wpList_cmp_row (by first | rfl | go_simp) .neq 27 27 (.tmp 29) (.tmp 30) (by rfl) (by rfl) (by rfl) guard_part (neq_part a.p _) ?_)
                  go_roundg (3 - 1)
                  case rel => exact ⟨1, rfl, by omega, rfl, hB.alloc _, b0.alloc _, by refine ⟨fun h => ?_, fun h => ?_, fun h => ?_⟩ <;> first | omega | exact HP'.out | exact hF.out.1 (by omega) | exact hF.out.2.1 (by omega)⟩
                  case measure => omega
                · have q4 : (a.p.s != a.p.mx) = true := by simp [h4]
                  have HP : prtMay (decide (0 < m)) a.c a.p = false := by unfold prtMay; simp [hin, h2, h4]
                  clear h2 h3 h4
                  have HE : Hid (mayAg m a = false) := by show _ = _; unfold mayAg; rw [HP]; simp
                  clear HP
                  go_wp2_with ((with_reducible show wpList _ _ _ (⟨some 31, _, _, _, _, _⟩ :: _) _ _); refine wpList_cmp_row (by first | rfl | go_simp) .neq 27 27 (.tmp 29) (.tmp 30) (by rfl) (by rfl) (by rfl) guard_part (neq_part a.p _) ?_)
                  go_ret
                  rw [HE.out]
                  exact ⟨rfl, hB.alloc _⟩
              · have q3 : (a.p.s != a.p.mn) = true := by simp [h3]
                have HP : prtMay (decide (0 < m)) a.c a.p = false := by unfold prtMay; simp [hin, h2, h3]
                clear h2 h3
                have HE : Hid (mayAg m a = false) := by show _ = _; unfold mayAg; rw [HP]; simp
                clear HP
                go_wp2_with ((with_reducible show wpList _ _ _ (⟨some 31, _, _, _, _, _⟩ :: _) _ _); refine wpList_cmp_row (by first | rfl | go_simp) .neq 27 27 (.tmp 29) (.tmp 30) (by rfl) (by rfl) (by rfl) guard_part (neq_part a.p _) ?_)
                go_ret
                rw [HE.out]
                exact ⟨rfl, hB.alloc _⟩
            · have q2 : (a.c == 1) = false := by simp [h2]
              have HP : prtMay (decide (0 < m)) a.c a.p = true := by unfold prtMay; simp [hin, h1, h2]
              clear h2
              have HP' := Lib.hid HP
              clear HP
              go_wp2_with ((with_reducible show wpList _ _ _ (⟨some 31, _, _, _, _, _⟩ :: _) _ _); refine wpList_cmp_row (by first | rfl | go_simp) .neq 27 27 (.tmp 29) (.tmp 30) (by rfl) (by rfl) (by rfl) guard_part (neq_part a.p _) ?_)
              go_roundg (3 - 1)
              case rel => exact ⟨1, rfl, by omega, rfl, hB.alloc _, b0.alloc _, by refine ⟨fun h => ?_, fun h => ?_, fun h => ?_⟩ <;> first | omega | exact HP'.out | exact hF.out.1 (by omega) | exact hF.out.2.1 (by omega)⟩
              case measure => omega
          · have HP : prtMay (decide (0 < m)) a.c a.p = false := by unfold prtMay; simp [hin, h1]
            have HE : Hid (mayAg m a = false) := by show _ = _; unfold mayAg; rw [HP]; simp
            clear HP
            go_wp2_with ((with_reducible show wpList _ _ _ (⟨some 31, _, _, _, _, _⟩ :: _) _ _); refine wpList_cmp_row (by first | rfl | go_simp) .neq 27 27 (.tmp 29) (.tmp 30) (by rfl) (by rfl) (by rfl) guard_part (neq_part a.p _) ?_)
            go_ret
            rw [HE.out]
            exact ⟨rfl, hB.alloc _⟩
        · by_cases h1 : a.p = .zero
          · have HP : prtMay (decide (0 < m)) a.c a.p = true := by unfold prtMay; simp [hin, h1]
            have HD : decide (a.p = .zero) = true := by simp [h1]
            clear h1
            have HP' := Lib.hid HP
            clear HP
            go_wp2_with ((with_reducible show wpList _ _ _ (⟨some 31, _, _, _, _, _⟩ :: _) _ _); refine wpList_cmp_row (by first | rfl | go_simp) .neq 27 27 (.tmp 29) (.tmp 30) (by rfl) (by rfl) (by rfl) guard_part (neq_part a.p _) ?_)
            go_roundg (3 - 1)
            case rel => exact ⟨1, rfl, by omega, rfl, hB.alloc _, b0.alloc _, by refine ⟨fun h => ?_, fun h => ?_, fun h => ?_⟩ <;> first | omega | exact HP'.out | exact hF.out.1 (by omega) | exact hF.out.2.1 (by omega)⟩
            case measure => omega
          · have HP : prtMay (decide (0 < m)) a.c a.p = false := by unfold prtMay; simp [hin, h1]
            have HD : decide (a.p = .zero) = false := by simp [h1]
            clear h1
            have HE : Hid (mayAg m a = false) := by show _ = _; unfold mayAg; rw [HP]; simp
            clear HP
            go_wp2_with ((with_reducible show wpList _ _ _ (⟨some 31, _, _, _, _, _⟩ :: _) _ _); refine wpList_cmp_row (by first | rfl | go_simp) .neq 27 27 (.tmp 29) (.tmp 30) (by rfl) (by rfl) (by rfl) guard_part (neq_part a.p _) ?_)
            go_ret
            rw [HE.out]
            exact ⟨rfl, hB.alloc _⟩
      · have ix : ∀ W, (Instr.index 28 (.agg #[.int .i64 a.p.s, .int .i64 a.p.mn, .int .i64 a.p.mx, .int .i64 a.q.s, .int .i64 a.q.mn, .int .i64 a.q.mx, .int .i64 a.r.s, .int .i64 a.r.mn, .int .i64 a.r.mx]) (.int .i64 1)).run Try.prog W = .ok (.agg #[.int .i64 a.q.s, .int .i64 a.q.mn, .int .i64 a.q.mx]) W := fun _ => by kernel_rfl
        rw [show ((1 : Nat) : Int) = 1 from rfl]
        by_cases hin : 1 < m
        · by_cases h1 : a.q.mn ≤ a.q.mx
          · by_cases h2 : a.c = 1
            · have q2 : (a.c == 1) = true := by simp [h2]
              by_cases h3 : a.q.s = a.q.mn
              · have q3 : (a.q.s != a.q.mn) = false := by simp [h3]
                by_cases h4 : a.q.s = a.q.mx
                · have q4 : (a.q.s != a.q.mx) = false := by simp [h4]
                  have HP : prtMay (decide (1 < m)) a.c a.q = true := by unfold prtMay; simp [hin, ← h3, ← h4]
                  clear h2 h3 h4
                  have HP' := Lib.hid HP
                  clear HP
                  go_wp2_with ((with_reducible show wpList _ _ _ (⟨some 31, _, _, _, _, _⟩ :: _) _ _); refine wpList_cmp_row (by first | rfl | go_simp) .neq 27 27 (.tmp 29) (.tmp 30) (by rfl) (by rfl) (by rfl) guard_part (neq_part a.q _) ?_)
                  go_roundg (3 - 2)
                  case rel => exact ⟨2, rfl, by omega, rfl, hB.alloc _, b0.alloc _, by refine ⟨fun h => ?_, fun h => ?_, fun h => ?_⟩ <;> first | omega | exact HP'.out | exact hF.out.1 (by omega) | exact hF.out.2.1 (by omega)⟩
                  case measure => omega
                · have q4 : (a.q.s != a.q.mx) = true := by simp [h4]
                  have HP : prtMay (decide (1 < m)) a.c a.q = false := by unfold prtMay; simp [hin, h2, h4]
                  clear h2 h3 h4
                  have HE : Hid (mayAg m a = false) := by show _ = _; unfold mayAg; rw [HP]; simp
                  clear HP
                  go_wp2_with ((with_reducible show wpList _ _ _ (⟨some 31, _, _, _, _, _⟩ :: _) _ _); refine wpList_cmp_row (by first | rfl | go_simp) .neq 27 27 (.tmp 29) (.tmp 30) (by rfl) (by rfl) (by rfl) guard_part (neq_part a.q _) ?_)
                  go_ret
                  rw [HE.out]
                  exact ⟨rfl, hB.alloc _⟩
              · have q3 : (a.q.s != a.q.mn) = true := by simp [h3]
                have HP : prtMay (decide (1 < m)) a.c a.q = false := by unfold prtMay; simp [hin, h2, h3]
                clear h2 h3
                have HE : Hid (mayAg m a = false) := by show _ = _; unfold mayAg; rw [HP]; simp
                clear HP
                go_wp2_with ((with_reducible show wpList _ _ _ (⟨some 31, _, _, _, _, _⟩ :: _) _ _); refine wpList_cmp_row (by first | rfl | go_simp) .neq 27 27 (.tmp 29) (.tmp 30) (by rfl) (by rfl) (by rfl) guard_part (neq_part a.q _) ?_)
                go_ret
                rw [HE.out]
                exact ⟨rfl, hB.alloc _⟩
            · have q2 : (a.c == 1) = false := by simp [h2]
              have HP : prtMay (decide (1 < m)) a.c a.q = true := by unfold prtMay; simp [hin, h1, h2]
              clear h2
              have HP' := Lib.hid HP
              clear HP
              go_wp2_with ((with_reducible show wpList _ _ _ (⟨some 31, _, _, _, _, _⟩ :: _) _ _); refine wpList_cmp_row (by first | rfl | go_simp) .neq 27 27 (.tmp 29) (.tmp 30) (by rfl) (by rfl) (by rfl) guard_part (neq_part a.q _) ?_)
              go_roundg (3 - 2)
              case rel => exact ⟨2, rfl, by omega, rfl, hB.alloc _, b0.alloc _, by refine ⟨fun h => ?_, fun h => ?_, fun h => ?_⟩ <;> first | omega | exact HP'.out | exact hF.out.1 (by omega) | exact hF.out.2.1 (by omega)⟩
              case measure => omega
          · have HP : prtMay (decide (1 < m)) a.c a.q = false := by unfold prtMay; simp [hin, h1]
            have HE : Hid (mayAg m a = false) := by show _ = _; unfold mayAg; rw [HP]; simp
            clear HP
            go_wp2_with ((with_reducible show wpList _ _ _ (⟨some 31, _, _, _, _, _⟩ :: _) _ _); refine wpList_cmp_row (by first | rfl | go_simp) .neq 27 27 (.tmp 29) (.tmp 30) (by rfl) (by rfl) (by rfl) guard_part (neq_part a.q _) ?_)
            go_ret
            rw [HE.out]
            exact ⟨rfl, hB.alloc _⟩
        · by_cases h1 : a.q = .zero
          · have HP : prtMay (decide (1 < m)) a.c a.q = true := by unfold prtMay; simp [hin, h1]
            have HD : decide (a.q = .zero) = true := by simp [h1]
            clear h1
            have HP' := Lib.hid HP
            clear HP
            go_wp2_with ((with_reducible show wpList _ _ _ (⟨some 31, _, _, _, _, _⟩ :: _) _ _); refine wpList_cmp_row (by first | rfl | go_simp) .neq 27 27 (.tmp 29) (.tmp 30) (by rfl) (by rfl) (by rfl) guard_part (neq_part a.q _) ?_)
            go_roundg (3 - 2)
            case rel => exact ⟨2, rfl, by omega, rfl, hB.alloc _, b0.alloc _, by refine ⟨fun h => ?_, fun h => ?_, fun h => ?_⟩ <;> first | omega | exact HP'.out | exact hF.out.1 (by omega) | exact hF.out.2.1 (by omega)⟩
            case measure => omega
          · have HP : prtMay (decide (1 < m)) a.c a.q = false := by unfold prtMay; simp [hin, h1]
            have HD : decide (a.q = .zero) = false := by simp [h1]
            clear h1
            have HE : Hid (mayAg m a = false) := by show _ = _; unfold mayAg; rw [HP]; simp
            clear HP
            go_wp2_with ((with_reducible show wpList _ _ _ (⟨some 31, _, _, _, _, _⟩ :: _) _ _); refine wpList_cmp_row (by first | rfl | go_simp) .neq 27 27 (.tmp 29) (.tmp 30) (by rfl) (by rfl) (by rfl) guard_part (neq_part a.q _) ?_)
            go_ret
            rw [HE.out]
            exact ⟨rfl, hB.alloc _⟩
      · have ix : ∀ W, (Instr.index 28 (.agg #[.int .i64 a.p.s, .int .i64 a.p.mn, .int .i64 a.p.mx, .int .i64 a.q.s, .int .i64 a.q.mn, .int .i64 a.q.mx, .int .i64 a.r.s, .int .i64 a.r.mn, .int .i64 a.r.mx]) (.int .i64 2)).run Try.prog W = .ok (.agg #[.int .i64 a.r.s, .int .i64 a.r.mn, .int .i64 a.r.mx]) W := fun _ => by kernel_rfl
        rw [show ((2 : Nat) : Int) = 2 from rfl]
        by_cases hin : 2 < m
        · by_cases h1 : a.r.mn ≤ a.r.mx
          · by_cases h2 : a.c = 1
            · have q2 : (a.c == 1) = true := by simp [h2]
              by_cases h3 : a.r.s = a.r.mn
              · have q3 : (a.r.s != a.r.mn) = false := by simp [h3]
                by_cases h4 : a.r.s = a.r.mx
                · have q4 : (a.r.s != a.r.mx) = false := by simp [h4]
                  have HP : prtMay (decide (2 < m)) a.c a.r = true := by unfold prtMay; simp [hin, ← h3, ← h4]
                  clear h2 h3 h4
                  have HP' := Lib.hid HP
                  clear HP
                  go_wp2_with ((with_reducible show wpList _ _ _ (⟨some 31, _, _, _, _, _⟩ :: _) _ _); refine wpList_cmp_row (by first | rfl | go_simp) .neq 27 27 (.tmp 29) (.tmp 30) (by rfl) (by rfl) (by rfl) guard_part (neq_part a.r _) ?_)
                  go_roundg (3 - 3)
                  case rel => exact ⟨3, rfl, by omega, rfl, hB.alloc _, b0.alloc _, by refine ⟨fun h => ?_, fun h => ?_, fun h => ?_⟩ <;> first | omega | exact HP'.out | exact hF.out.1 (by omega) | exact hF.out.2.1 (by omega)⟩
                  case measure => omega
                · have q4 : (a.r.s != a.r.mx) = true := by simp [h4]
                  have HP : prtMay (decide (2 < m)) a.c a.r = false := by unfold prtMay; simp [hin, h2, h4]
                  clear h2 h3 h4
                  have HE : Hid (mayAg m a = false) := by show _ = _; unfold mayAg; rw [HP]; simp
                  clear HP
                  go_wp2_with ((with_reducible show wpList _ _ _ (⟨some 31, _, _, _, _, _⟩ :: _) _ _); refine wpList_cmp_row (by first | rfl | go_simp) .neq 27 27 (.tmp 29) (.tmp 30) (by rfl) (by rfl) (by rfl) guard_part (neq_part a.r _) ?_)
                  go_ret
                  rw [HE.out]
                  exact ⟨rfl, hB.alloc _⟩
              · have q3 : (a.r.s != a.r.mn) = true := by simp [h3]
                have HP : prtMay (decide (2 < m)) a.c a.r = false := by unfold prtMay; simp [hin, h2, h3]
                clear h2 h3
                have HE : Hid (mayAg m a = false) := by show _ = _; unfold mayAg; rw [HP]; simp
                clear HP
                go_wp2_with ((with_reducible show wpList _ _ _ (⟨some 31, _, _, _, _, _⟩ :: _) _ _); refine wpList_cmp_row (by first | rfl | go_simp) .neq 27 27 (.tmp 29) (.tmp 30) (by rfl) (by rfl) (by rfl) guard_part (neq_part a.r _) ?_)
                go_ret
                rw [HE.out]
                exact ⟨rfl, hB.alloc _⟩
            · have q2 : (a.c == 1) = false := by simp [h2]
              have HP : prtMay (decide (2 < m)) a.c a.r = true := by unfold prtMay; simp [hin, h1, h2]
              clear h2
              have HP' := Lib.hid HP
              clear HP
              go_wp2_with ((with_reducible show wpList _ _ _ (⟨some 31, _, _, _, _, _⟩ :: _) _ _); refine wpList_cmp_row (by first | rfl | go_simp) .neq 27 27 (.tmp 29) (.tmp 30) (by rfl) (by rfl) (by rfl) guard_part (neq_part a.r _) ?_)
              go_roundg (3 - 3)
              case rel => exact ⟨3, rfl, by omega, rfl, hB.alloc _, b0.alloc _, by refine ⟨fun h => ?_, fun h => ?_, fun h => ?_⟩ <;> first | omega | exact HP'.out | exact hF.out.1 (by omega) | exact hF.out.2.1 (by omega)⟩
              case measure => omega
          · have HP : prtMay (decide (2 < m)) a.c a.r = false := by unfold prtMay; simp [hin, h1]
            have HE : Hid (mayAg m a = false) := by show _ = _; unfold mayAg; rw [HP]; simp
            clear HP
            go_wp2_with ((with_reducible show wpList _ _ _ (⟨some 31, _, _, _, _, _⟩ :: _) _ _); refine wpList_cmp_row (by first | rfl | go_simp) .neq 27 27 (.tmp 29) (.tmp 30) (by rfl) (by rfl) (by rfl) guard_part (neq_part a.r _) ?_)
            go_ret
            rw [HE.out]
            exact ⟨rfl, hB.alloc _⟩
        · by_cases h1 : a.r = .zero
          · have HP : prtMay (decide (2 < m)) a.c a.r = true := by unfold prtMay; simp [hin, h1]
            have HD : decide (a.r = .zero) = true := by simp [h1]
            clear h1
            have HP' := Lib.hid HP
            clear HP
            go_wp2_with ((with_reducible show wpList _ _ _ (⟨some 31, _, _, _, _, _⟩ :: _) _ _); refine wpList_cmp_row (by first | rfl | go_simp) .neq 27 27 (.tmp 29) (.tmp 30) (by rfl) (by rfl) (by rfl) guard_part (neq_part a.r _) ?_)
            go_roundg (3 - 3)
            case rel => exact ⟨3, rfl, by omega, rfl, hB.alloc _, b0.alloc _, by refine ⟨fun h => ?_, fun h => ?_, fun h => ?_⟩ <;> first | omega | exact HP'.out | exact hF.out.1 (by omega) | exact hF.out.2.1 (by omega)⟩
            case measure => omega
          · have HP : prtMay (decide (2 < m)) a.c a.r = false := by unfold prtMay; simp [hin, h1]
            have HD : decide (a.r = .zero) = false := by simp [h1]
            clear h1
            have HE : Hid (mayAg m a = false) := by show _ = _; unfold mayAg; rw [HP]; simp
            clear HP
            go_wp2_with ((with_reducible show wpList _ _ _ (⟨some 31, _, _, _, _, _⟩ :: _) _ _); refine wpList_cmp_row (by first | rfl | go_simp) .neq 27 27 (.tmp 29) (.tmp 30) (by rfl) (by rfl) (by rfl) guard_part (neq_part a.r _) ?_)
            go_ret
            rw [HE.out]
            exact ⟨rfl, hB.alloc _⟩
    · obtain rfl : k = 3 := by omega
      have HE : Hid (mayAg m a = true) := by
        show _ = _
        unfold mayAg
        rw [hF.out.1 (by omega), hF.out.2.1 (by omega), hF.out.2.2 (by omega)]
        simp
        omega
      clear hF
      go_wp2
      go_ret
      rw [HE.out]
      exact ⟨rfl, hB⟩

theorem may_any (a : Ag) (m : Int) (w : World) (hm : I64 m) :
    Calls Try.prog 95 #[.int .i64 m, .agg a.cs] w fun e w' => e = .returned (.bool (mayAg m a)) ∧ Bel w w' := by
  by_cases h : 0 ≤ m ∧ m ≤ 3 ∧ 1 ≤ a.c
  · exact may_yes a m w h.1 h.2.1 h.2.2
  · refine (may_no a m w hm (by omega)).mono fun _ _ h' => ⟨?_, h'.2⟩
    rw [h'.1]
    congr 2
    unfold mayAg
    by_cases h1 : 0 ≤ m <;> by_cases h2 : m ≤ 3 <;> by_cases h3 : 1 ≤ a.c <;> simp [h1, h2, h3]
    omega

end Go.Proofs.Ytlclllkjnhgbjaa
