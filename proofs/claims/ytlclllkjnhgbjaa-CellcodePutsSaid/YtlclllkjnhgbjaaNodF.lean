/- slices.Grow, slices.Concat of cells; node.Each. -/
import Derived.Test.YtlclllkjnhgbjaaNodE
import Derived.Lib.AppendZeros
namespace Go.Proofs.Ytlclllkjnhgbjaa
open Go.RowKit
set_option linter.unusedVariables false
set_option linter.unusedSimpArgs false

theorem wpList_sliceK {P : Program} {ops : Array Oper} {rest : List Oper} {o : Oper} {a : Act} {w : World} {Q : Exit → Act → World → Prop} (hgd : o.guard = none) {t : TypeId} (x : Operand) (lo hi : Option Operand) (ho : o.op = .slice t x lo hi none) {v : Value}
    (hr : ∀ w, (Instr.sliceAt t (a.eval x) (lo.map a.eval) (hi.map a.eval) none).run P w = .ok v w) (h : wpList P ops Q rest (a.put o.dst v) w) : wpList P ops Q (o :: rest) a w := by
  refine wpList_plain hgd fun K hK => ?_
  unfold Oper.wp execOp
  simp only [ho, Option.map_none, Sem.run_bind, hr, Result.andThen_ok, Sem.run_pure]
  exact hK _ _ h

set_option maxRecDepth 100000 in
theorem u_clsF : Try.prog.underlying 44 = some (.slice (Try.prog.elem 44)) := by kernel_rfl
set_option maxRecDepth 100000 in
theorem cls_cutF (A : Option Addr) (n c j : Nat) (hj : j = 0) (hc : A = none → c = 0) (hc2 : A ≠ none → c ≠ 0) (w : World) : (Instr.sliceAt 44 (.slice A n c) none (some (.int .i64 j)) none).run Try.prog w = .ok (.slice A 0 c) w := by
  have hz : ∀ w, (sizeOf (Try.prog.elem 44)).run Try.prog w = .ok 12 w := fun _ => by kernel_rfl
  subst hj
  rw [run_sliceAt_slice (h := u_clsF), run_slice_h (ht := u_clsF) (h0 := by omega) (h2 := by omega), hz]
  cases A with
  | none => have := hc rfl; subst this; simp [sliced]
  | some ad => have := hc2 (by simp); simp [sliced, Addr.add, this]
set_option maxRecDepth 100000 in
theorem append_zerosF (w : World) (ty : TypeId) (n : Nat) (h0 : 0 < n) (hn : n ≤ 1000000) : ∃ (c : Nat) (cur : Array Value), n ≤ c ∧ c ≤ maxLen ∧ cur.size = c * 12 ∧ (Builtin.append_ #[44, 3] ty #[.slice none 0 0, .int .i64 n]).run Try.prog w = .ok (.slice (some ⟨w.heap.size, 0, none⟩) n c) (w.drew.alloc (.cells cur 32)) := by
  obtain ⟨i, z, hi, hz, h1, h2, h3⟩ := E_cl.hi
  refine ⟨_, _, grownCap_ge w n 0 32, grownCap_le_maxLen w n 0 32 (by unfold maxLen; omega), ?_, Lib.run_append_nil_zeros (P := Try.prog) w 44 3 ty 32 i z .i64 .i64 E_cl.ht Try.underlying3 hi hz n h0 (by omega) (by omega) (by rw [h2]; omega)⟩
  have hge := grownCap_ge w n 0 32
  rw [Array.size_append, size_zeroCells, size_zeroCells, h3, ← Nat.add_mul]
  congr 1
  omega
set_option maxRecDepth 100000 in
set_option maxHeartbeats 1000000 in
theorem grow_any (n : Nat) (w : World) (hn : n ≤ 1000000) :
    Calls Try.prog 113 #[.slice none 0 0, .int .i64 n] w fun e w' => ∃ (A : Option Addr) (c : Nat), e = .returned (.slice A 0 c) ∧ Bel w w' ∧ w'.ownsRow w.heap.size 32 12 (.slice A 0 c) 0 [] := by
  have d0 : decide ((n : Int) < 0) = false := by simp <;> omega
  by_cases h0 : n = 0
  · subst h0
    go_enter Try.func113, Try.ntmps113
    go_wp2
    go_ret
    exact ⟨none, 0, rfl, Bel.refl _, World.ownsRow_nil _ _ _ _⟩
  have d1 : decide ((0 : Int) < (n : Int)) = true := by simp <;> omega
  have d1n : decide (0 < n) = true := by simp <;> omega
  obtain ⟨c, cur, hnc, hcm, hsz, hap⟩ := append_zerosF w 44 n (by omega) hn
  have HAP := Lib.hid hap
  have hs1 := cls_cutF none 0 0 0 rfl (fun _ => rfl) (fun h => absurd rfl h)
  have hs2 := cls_cutF (some ⟨w.heap.size, 0, none⟩) n c 0 rfl (fun h => by cases h) (fun _ => by omega)
  clear hap
  go_enter Try.func113, Try.ntmps113
  go_wp2_with (first | ((with_reducible show wpList _ _ _ (⟨some 20, _, _, _, _, _⟩ :: _) _ _); refine wpList_sliceK rfl (.tmp 17) none (some (.tmp 19)) rfl (v := .slice none 0 0) hs1 ?_) | ((with_reducible show wpList _ _ _ (⟨some 22, _, _, _, _, _⟩ :: _) _ _); refine Lib.wpList_append_run w rfl (.tmp 20) (.tmp 21) _ _ rfl _ _ rfl rfl _ _ HAP.out ?_) | ((with_reducible show wpList _ _ _ (⟨some 25, _, _, _, _, _⟩ :: _) _ _); refine wpList_sliceK rfl (.tmp 22) none (some (.tmp 24)) rfl (v := .slice (some ⟨w.heap.size, 0, none⟩) 0 c) hs2 ?_))
  go_ret
  exact ⟨some ⟨w.heap.size, 0, none⟩, c, rfl, (Bel.refl w).drew.alloc _, ⟨rfl, .inr ⟨w.heap.size, c, cur, rfl, Nat.le_refl _, heap_alloc_new _ _, Nat.zero_le _, hcm, hsz, by simp⟩⟩⟩

end Go.Proofs.Ytlclllkjnhgbjaa
