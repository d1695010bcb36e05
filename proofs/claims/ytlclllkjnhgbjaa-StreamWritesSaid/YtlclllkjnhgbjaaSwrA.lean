/- Parts of stream.Write. -/
import Derived.Test.YtlclllkjnhgbjaaWrtA
import Derived.Test.YtlclllkjnhgbjaaBld
import Derived.Test.YtlclllkjnhgbjaaBu
import Derived.Test.YtlclllkjnhgbjaaAreS
namespace Go.Proofs.Ytlclllkjnhgbjaa
open Go.RowKit
set_option linter.unusedVariables false
set_option linter.unusedSimpArgs false


set_option maxRecDepth 100000 in
set_option maxHeartbeats 1000000 in
theorem bstring_nil (w : World) (b : Nat) (p : Value) (h : Blk w b 105 #[p, .slice none 0 0]) :
    Calls Try.prog 58 #[.pointer (some ⟨b, 0, none⟩)] w fun e w' => e = .returned (.string ⟨#[]⟩) ∧ Bel w w' := by
  have c1 : w.cell? ⟨b, 1, none⟩ = some (.slice none 0 0) := h.cell 1
  have hSD : (Builtin.unsafeSliceData_ #[103] 144 #[.slice none 0 0]).run Try.prog w.drew = .ok (.pointer none) w.drew := Lib.run_unsafeSliceData_nil _ _ _ _ _
  have hUS : (Builtin.unsafeString_ #[144, 3] 9 #[.pointer none, .int .i64 0]).run Try.prog w.drew = .ok (.string .empty) w.drew := Lib.run_unsafeString_none _ _ _ _ _
  have HB : Hid (Bel w w.drew) := (Bel.refl w).drew
  clear h
  go_enter Try.func58, Try.ntmps58
  go_wp2
  go_region
  all_goals (go_wp2; go_ret; exact ⟨rfl, HB.out⟩)
theorem smN_con {n m : Nd} {w w' : World} (h : SmN n) (hn : n.rd w) (hm : m.rd w') (hc : m.con = n.con) : SmN m := by
  have hl : m.ls.l.map Row.l = n.ls.l.map Row.l := congrArg NC.ls hc
  have e1 : m.ls.n = n.ls.n := by have h := congrArg List.length hl; rw [List.length_map, List.length_map] at h; have h1 := hm.ls.len; have h2 := hn.ls.len; omega
  refine ⟨by rw [e1]; exact h.a, fun y hy => ?_, by rw [hl]; exact h.t⟩
  have h1 : y.l ∈ n.ls.l.map Row.l := by rw [← hl]; exact List.mem_map.2 ⟨y, hy, rfl⟩
  obtain ⟨z, hz, hzl⟩ := List.mem_map.1 h1
  have h2 : y.l.length = y.n := (Row.ok.rds (hm.ls.all y hy)).len
  have h3 : z.l.length = z.n := (Row.ok.rds (hn.ls.all z hz)).len
  have := h.b z hz
  rw [hzl] at h3
  omega
set_option maxRecDepth 100000 in
theorem swrite_no (v : Value) (most : Int) (w : World) (h : NoA w v) : Calls Try.prog 26 #[v, .int .i64 most] w fun e w' => e = .returned (.tuple #[.string ⟨#[]⟩, .int .i64 0, .int .i64 1]) ∧ Bel w w' := by
  have HS := Lib.hid (ashape_no v w h)
  have hfld : ∀ (x y : Value) (w : World), (Instr.field 24 (.agg #[x, y]) 1).run Try.prog w = .ok y w := fun _ _ _ => by kernel_rfl
  clear h
  go_enter Try.func26, Try.ntmps26
  go_wp2_with fail
  refine HS.out.mono ?_; rintro e w1 ⟨rfl, hb⟩
  go_wp2_with fail
  go_ret3
  exact ⟨rfl, hb⟩

end Go.Proofs.Ytlclllkjnhgbjaa
