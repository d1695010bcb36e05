/- The chapter's example of runs. -/
import Derived.Test.YtllgcehgdpgnnaaRunC
import Derived.Test.YtllgcehgdpgnnaaCut
namespace Go.Proofs.Ytllgcehgdpgnnaa
open Go.RowKit
set_option linter.unusedVariables false
attribute [local go_sem] fct_get0

def zF : Fct := ⟨⟨none, 0, 0, []⟩, .zero⟩
def zW (w : World) : World := w.alloc (.cells (zF.cs ++ zF.cs ++ zF.cs) 124)
theorem run_zeros (w : World) : (Instr.buildSlice 22 3 #[(0, .agg zF.cs), (1, .agg zF.cs), (2, .agg zF.cs)]).run Try.prog w = .ok (.slice (some ⟨w.heap.size, 0, none⟩) 3 3) (zW w) := by kernel_rfl
theorem wpList_zeros {ops : Array Oper} {rest : List Oper} {o : Oper} {a : Act} {w : World} {Q : Exit → Act → World → Prop} (hgd : o.guard = none) (x y z : Operand) (ho : o.op = .buildSlice 22 3 #[(0, x), (1, y), (2, z)])
    (hx : a.eval x = .agg zF.cs) (hy : a.eval y = .agg zF.cs) (hz : a.eval z = .agg zF.cs)
    (h : wpList Try.prog ops Q rest (a.put o.dst (.slice (some ⟨w.heap.size, 0, none⟩) 3 3)) (zW w)) : wpList Try.prog ops Q (o :: rest) a w := by
  refine wpList_plain hgd fun K hK => ?_
  unfold Oper.wp execOp
  have hr := run_zeros w
  simp only [ho, List.map_toArray, List.map_cons, List.map_nil, hx, hy, hz, Sem.run_bind, hr, Result.andThen_ok, Sem.run_pure]
  exact hK _ _ h
theorem nil_ints (w : World) : Row.ok w (⟨none, 0, 0, []⟩ : Row Int) := ⟨⟨rfl, fun h => absurd h (by simp)⟩, by simp, Nat.le_refl _, by unfold maxLen; simp, by simp⟩
theorem nil_fcts (w : World) : Row.ok w (⟨none, 0, 0, []⟩ : Row Fct) := ⟨⟨rfl, fun h => absurd h (by simp)⟩, by simp, Nat.le_refl _, by unfold maxLen; simp, by simp⟩
theorem zW_ok (w : World) : Row.ok (zW w) (⟨some ⟨w.heap.size, 0, none⟩, 3, 3, [zF, zF, zF]⟩ : Row Fct) := by
  refine ⟨?_, fun f hf => ?_, Nat.le_refl _, by unfold maxLen; simp, by simp [Cel.bytes]⟩
  · exact reads_of_block (Blk.new w 124 (zF.cs ++ zF.cs ++ zF.cs)) rfl
  · have : f = zF := by simp at hf; exact hf
    subst this
    exact ⟨nil_ints _, zero_ok⟩
theorem zW_bel (w : World) : Bel w (zW w) := (Bel.refl w).alloc _

theorem len_two {α : Type} : ∀ {l : List α}, l.length = 2 → ∃ a b, l = [a, b]
  | [a, b], _ => ⟨a, b, rfl⟩
  | [], h => by simp at h
  | [_], h => by simp at h
  | _ :: _ :: _ :: _, h => by simp at h

/-- The example's runs: two facts and one. -/
theorem cut_zeros (w : World) : Calls Try.prog 17 #[.int .i64 2, .slice (some ⟨w.heap.size, 0, none⟩) 3 3] (zW w) fun e w' => ∃ g c A1 c1 A2 c2, e = .returned (.tuple #[.slice (some ⟨g, 0, none⟩) 2 c, .int .i64 0]) ∧
    w'.cell? ⟨g, 0, none⟩ = some (.slice A1 2 c1) ∧ w'.cell? ⟨g, 1, none⟩ = some (.slice A2 1 c2) ∧ Bel w w' := by
  refine (callsIn_wide.1 (cut_in 3 (Nat.le_refl _) w.heap.size 0 3 3 2 [zF, zF, zF] (zW w) (zW_ok w) (by omega) (by omega) (by omega))).mono ?_
  rintro e w' ⟨k, h1, h2, v, rs, rfl, hown, hall, hc, hb⟩
  have hk : k = 2 := by simp at h1 h2; omega
  subst hk
  have hc' : rs.map (fun r => cons r.l) = [cons [zF, zF], cons [zF]] := hc
  have hl2 : rs.length = 2 := by have := congrArg List.length hc'; simpa using this
  obtain ⟨r1, r2, rfl⟩ := len_two hl2
  simp only [List.map_cons, List.map_nil, List.cons.injEq, and_true] at hc'
  have n1 : r1.n = 2 := by rw [← (hall r1 (by simp)).1.len]; have := congrArg List.length hc'.1; rwa [cons_len, cons_len] at this
  have n2 : r2.n = 1 := by rw [← (hall r2 (by simp)).1.len]; have := congrArg List.length hc'.2; rwa [cons_len, cons_len] at this
  obtain ⟨g, c, rfl⟩ := ownsRow_succ hown
  obtain ⟨ad, e1, _, hcell⟩ := (Rd.of_own hown).2 (by simp)
  injection e1 with e1
  subst e1
  have q0 := hcell 0 r1.v rfl
  have q1 := hcell 1 r2.v rfl
  have v1 : r1.v = .slice r1.A 2 r1.c := by unfold Row.v; rw [n1]
  have v2 : r2.v = .slice r2.A 1 r2.c := by unfold Row.v; rw [n2]
  rw [v1] at q0
  rw [v2] at q1
  exact ⟨g, c, r1.A, r1.c, r2.A, r2.c, rfl, q0, q1, (zW_bel w).trans hb⟩

set_option maxRecDepth 100000 in
set_option maxHeartbeats 1000000 in
theorem awake21_any (w : World) : Calls Try.prog 16 #[] w fun e w' => e = .returned (.bool true) ∧ Bel w w' := by
  go_enter Try.func16, Try.ntmps16
  go_wp2_with (first
    | ((with_reducible show wpList _ _ _ (⟨some 7, _, _, _, _, _⟩ :: _) _ _); refine wpList_zeros rfl (.tmp 4) (.tmp 5) (.tmp 6) rfl rfl rfl rfl ?_))
  refine (cut_zeros w).mono ?_
  rintro e w1 ⟨g, c, A1, c1, A2, c2, rfl, q0, q1, hb1⟩
  go_wp2_with fail
  refine (psorted_any ⟨none, 0, 0, []⟩ _ (nil_fcts _) (by simp)).mono ?_
  rintro e w2 ⟨rfl, hb2⟩
  rw [show sortedF [] = true from rfl]
  go_wp2
  go_ret
  exact ⟨rfl, hb1.trans hb2⟩

end Go.Proofs.Ytllgcehgdpgnnaa
