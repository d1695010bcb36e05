/- '==' of aggregates. -/
import Derived.Test.YtllgcehgdpgnnaaAggK
import Derived.Test.YtllgcehgdpgnnaaRead
import Derived.ChangeKeysEq
import Derived.Test.YtllgcehgdpgnnaaEq
namespace Go.Proofs.Ytllgcehgdpgnnaa
open Go.RowKit
set_option linter.unusedVariables false

theorem info_part : (Try.prog.info? 89).map (fun i => (i.zero, i.size, i.bytes)) = some (some (.agg #[.int .i64 0, .int .i64 0, .int .i64 0]), 3, 24) := by kernel_rfl

set_option maxRecDepth 100000 in
set_option maxHeartbeats 1000000 in
theorem eql_ag (m : Ag) (W : World) : (binOp .eql 92 (.agg m.cs) (.agg m.cs)).run Try.prog W = .ok (.bool true) W := by
  obtain ⟨i0, hi0, hz0, hz1, hz2⟩ := info_parts info_part
  unfold Ag.cs
  go_simp
  rw [run_equalIn_array W 9998 _ _ Try.underlying90 hi0, cells_part]
  simp only [show List.range 3 = [0, 1, 2] from rfl, Op.eqItems]
  go_simp

set_option maxRecDepth 100000 in
theorem guard_ag : Try.prog.eqGuardType Try.prog.depth 92 = false := by kernel_rfl

set_option maxRecDepth 100000 in
set_option maxHeartbeats 1000000 in
theorem eqv_ag (a b : Ag) (W : World) : (binOp .eql 92 (.agg a.cs) (.agg b.cs)).run Try.prog W = .ok (.bool (decide (a = b))) W := by
  obtain ⟨i0, hi0, hz0, hz1, hz2⟩ := info_parts info_part
  unfold Ag.cs
  go_simp
  rw [run_equalIn_array W 9998 _ _ Try.underlying90 hi0, cells_part]
  simp only [show List.range 3 = [0, 1, 2] from rfl, Op.eqItems]
  go_simp
  clear hi0 hz0 hz1 hz2
  obtain ⟨ac, ⟨a1, a2, a3⟩, ⟨a4, a5, a6⟩, ⟨a7, a8, a9⟩⟩ := a
  obtain ⟨bc, ⟨b1, b2, b3⟩, ⟨b4, b5, b6⟩, ⟨b7, b8, b9⟩⟩ := b
  simp only [Ag.mk.injEq, Prt.mk.injEq]
  repeat' split
  all_goals simp_all

set_option maxRecDepth 100000 in
set_option maxHeartbeats 1000000 in
theorem neqv_ag (a b : Ag) (W : World) : (binOp .neq 92 (.agg a.cs) (.agg b.cs)).run Try.prog W = .ok (.bool (!decide (a = b))) W := by
  obtain ⟨i0, hi0, hz0, hz1, hz2⟩ := info_parts info_part
  unfold Ag.cs
  go_simp
  rw [run_equalIn_array W 9998 _ _ Try.underlying90 hi0, cells_part]
  simp only [show List.range 3 = [0, 1, 2] from rfl, Op.eqItems]
  go_simp
  clear hi0 hz0 hz1 hz2
  obtain ⟨ac, ⟨a1, a2, a3⟩, ⟨a4, a5, a6⟩, ⟨a7, a8, a9⟩⟩ := a
  obtain ⟨bc, ⟨b1, b2, b3⟩, ⟨b4, b5, b6⟩, ⟨b7, b8, b9⟩⟩ := b
  simp only [Ag.mk.injEq, Prt.mk.injEq]
  repeat' split
  all_goals simp_all

end Go.Proofs.Ytllgcehgdpgnnaa
