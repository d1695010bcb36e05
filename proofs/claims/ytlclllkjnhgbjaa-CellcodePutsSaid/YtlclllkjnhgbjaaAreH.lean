/- The chapter's example (law 27). -/
import Derived.Test.YtlclllkjnhgbjaaAreG
namespace Go.Proofs.Ytlclllkjnhgbjaa
open Go.RowKit
set_option linter.unusedVariables false
set_option linter.unusedSimpArgs false


abbrev exAg : Ag := ⟨1, ⟨0, 0, 0⟩, ⟨0, 0, 0⟩, ⟨0, 0, 0⟩⟩
abbrev exCl : Cl := ⟨0, 0, exAg⟩
/-- The node of the chapters' examples: one list of one cell, of no dimension more. -/
abbrev exNd (d e : Nat) : Nd := ⟨0, ⟨some ⟨e, 0, none⟩, 1, 1, [⟨some ⟨d, 0, none⟩, 1, 1, [exCl]⟩]⟩, exCl⟩
abbrev exNds (d e f : Nat) : Row Nd := ⟨some ⟨f, 0, none⟩, 1, 1, [exNd d e]⟩
theorem exCl_ok : exCl.ok := by
  have z : I64 0 := z_i64
  have o : I64 1 := by unfold I64; omega
  exact ⟨z, z, ⟨o, ⟨z, z, z⟩, ⟨z, z, z⟩, ⟨z, z, z⟩⟩⟩
theorem ex_nds {w : World} {d e f : Nat} (h1 : w.ownsRow 0 32 12 (.slice (some ⟨d, 0, none⟩) 1 1) 1 exCl.cs.toList) (h2 : Blk w e 44 #[.slice (some ⟨d, 0, none⟩) 1 1])
    (h3 : w.ownsRow 0 34 14 (.slice (some ⟨f, 0, none⟩) 1 1) 1 (exNd d e).cs.toList) : (exNds d e f).rd w := by
  refine ⟨Rd.of_own (size := 14) (e := 34) h3, fun n hn => ?_, by show (1 : Nat) ≤ _; omega⟩
  simp only [List.mem_singleton] at hn
  subst hn
  refine ⟨z_i64, ⟨reads_of_block h2 rfl, fun y hy => ?_, by show (1 : Nat) ≤ _; omega⟩, exCl_ok, by show (1 : Nat) ≤ _; omega⟩
  simp only [List.mem_singleton] at hy
  subst hy
  exact own_ok (e := 32) (show w.ownsRow 0 32 12 (.slice (some ⟨d, 0, none⟩) 1 1) 1 exCl.cs.toList from h1) (fun c hc => by simp only [List.mem_singleton] at hc; subst hc; exact exCl_ok) (by show 1 * 96 ≤ _; omega)
theorem ex_load : firstErr (loadAt [[1]] 1 [⟨0, [[exCl]], exCl⟩]) 1 0 = 0 := by kernel_rfl
set_option maxRecDepth 100000 in
/-- The arena of the example's node. -/
theorem exload_any (s : Shp) (l : Row Nd) (w : World) (hs : s.rd w) (hl : l.rd w) (hsc : s.con = [[1]]) (hms : s.ms = 1) (hsn : s.sz.n = 1) (hln : l.n = 1) (hlc : l.l.map Nd.con = [⟨0, [[exCl]], exCl⟩])
    (hbd : ∀ n ∈ l.l, SmN n) :
    Calls Try.prog 25 #[.agg s.cs, .slice l.A l.n l.c] w fun e w' => ∃ (b : Nat) (x : Arn) (n : Nd), e = .returned (.tuple #[.pointer (some ⟨b, 0, none⟩), .int .i64 0]) ∧ x.ok ∧ x.sz.n = 1 ∧ x.nd.l = [n] ∧ n.con = ⟨0, [[exCl]], exCl⟩ ∧ SL No w w' (arP b x) := by
  refine (aload_any s l w hs hl (by omega) hbd).mono ?_
  intro e w' h
  unfold LoadPost at h
  have e1 : firstErr (loadAt s.con s.ms (l.l.map Nd.con)) (l.l.map Nd.con).length 0 = 0 := by rw [hsc, hms, hlc]; exact ex_load
  have e2 : shapeOk s.con s.ms = true := by rw [hsc, hms]; exact exShape
  rw [e1, e2, if_neg (by simp), if_neg (by simp)] at h
  obtain ⟨b, x, he, ⟨h1, h2, h3, h4⟩, h5, h6⟩ := h
  rw [hlc] at h5
  obtain ⟨n, hn⟩ : ∃ n, x.nd.l = [n] := by
    have hl := congrArg List.length h5
    rw [List.length_map] at hl
    exact List.length_eq_one_iff.1 hl
  rw [hn, List.map_cons, List.map_nil] at h5
  injection h5 with h5
  exact ⟨b, x, n, he, h1, by rw [h2, hsn], hn, h5, h6⟩

end Go.Proofs.Ytlclllkjnhgbjaa
