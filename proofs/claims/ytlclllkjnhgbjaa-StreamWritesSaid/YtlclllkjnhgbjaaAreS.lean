/- Parts of rows of nodes; what Load took. -/
import Derived.Test.YtlclllkjnhgbjaaBu
import Derived.Test.YtlclllkjnhgbjaaPart
import Derived.Test.YtlclllkjnhgbjaaAreM
import Derived.Test.YtlclllkjnhgbjaaAreN
namespace Go.Proofs.Ytlclllkjnhgbjaa
open Go.RowKit
set_option linter.unusedVariables false
set_option linter.unusedSimpArgs false


section
variable {P : Program} {w : World}
end
/-- A struct's load yields it in every world that keeps its block. -/
theorem yields_blkS {P : Program} {ops : Array Oper} {S : World → Prop} {op : Oper} {a : Act} {ty : TypeId} {n : Nat} (R : RowTy P ty n) (hw : Region.wanted op (yielded ops a.tmps) = true) (x : Operand) (ho : op.op = .load ty x)
    (g : Nat) (hx : a.eval x = .pointer (some ⟨g, 0, none⟩)) {t : TypeId} {cs : Array Value} (hS : ∀ w, S w → Blk w g t cs) (hn : cs.size = n) : YieldsIf P ops S op (.agg cs) a := by
  obtain ⟨d, hu, hd⟩ := R.hu
  have := yieldsIf_load_mid (P := P) (ops := ops) (S := S) (op := op) (a := a) hw ty x ho g 0 hx cs.toList d (fun w h => (hS w h).range) hu hd (by rw [R.hi]; simp [hn])
  simpa using this
/-- Pieces at the end of a list, as one. -/
theorem SL.merge {S : Nat → Prop} {w0 w : World} {l m : List Res} (h : SL S w0 w (l ++ m)) (r : Res) (hr : r.holds w) (hD : ∀ g, r.D g → DomL m g) : SL S w0 w (l ++ [r]) := by
  have keyl : ∀ (i : Nat) q, l[i]? = some q → (l ++ m)[i]? = some q := fun i q hi => by
    have := (List.getElem?_eq_some_iff.1 hi).1
    rw [List.getElem?_append_left this]; exact hi
  have keym : ∀ (i : Nat) q, m[i]? = some q → (l ++ m)[l.length + i]? = some q := fun i q hi => by rw [List.getElem?_append_right (by omega)]; rw [show l.length + i - l.length = i by omega]; exact hi
  have one : ∀ (i : Nat) q, [r][i]? = some q → i = 0 ∧ q = r := fun i q hi => by
    match i, hi with
    | 0, hi => injection hi with hi; exact ⟨rfl, hi.symm⟩
  refine ⟨h.fr, fun i q hi => ?_, fun i j q q' hij hi hj g hg hg' => ?_, fun i q hi g hg => ?_⟩
  · rcases get_app hi with ⟨hi, _⟩ | ⟨hi, _⟩
    · exact h.all _ q (keyl i q hi)
    · rw [(one _ q hi).2]; exact hr
  · rcases get_app hi with ⟨hi, hi1⟩ | ⟨hi, hi1⟩
    · rcases get_app hj with ⟨hj, hj1⟩ | ⟨hj, hj1⟩
      · exact h.dis i j q q' hij (keyl i q hi) (keyl j q' hj) g hg hg'
      · rw [(one _ q' hj).2] at hg'
        obtain ⟨a, z, ha, hz⟩ := hD g hg'
        exact h.dis i (l.length + a) q z (by omega) (keyl i q hi) (keym a z ha) g hg hz
    · rcases get_app hj with ⟨hj, hj1⟩ | ⟨hj, hj1⟩
      · rw [(one _ q hi).2] at hg
        obtain ⟨a, z, ha, hz⟩ := hD g hg
        exact h.dis j (l.length + a) q' z (by omega) (keyl j q' hj) (keym a z ha) g hg' hz
      · have := (one _ q hi).1
        have := (one _ q' hj).1
        omega
  · rcases get_app hi with ⟨hi, _⟩ | ⟨hi, _⟩
    · exact h.own i q (keyl i q hi) g hg
    · rw [(one _ q hi).2] at hg
      obtain ⟨a, z, ha, hz⟩ := hD g hg
      exact h.own _ z (keym a z ha) g hz
theorem SL.keepTo {S : Nat → Prop} {w0 w w' : World} {m : List Res} (h : SL S w0 w m) (hs : w.heap.size ≤ w'.heap.size) (hk : ∀ g, DomL m g → w'.heap[g]? = w.heap[g]?) : SL (DomL m) w' w' m :=
  ⟨Fr.refl _ _, fun i r hi => (h.all i r hi).keep hs fun g hg => hk g ⟨i, r, hi, hg⟩, h.dis, fun i r hi g hg => .inr ⟨i, r, hi, hg⟩⟩
/-- An arena of the call's own, to be read. -/
abbrev rAr (b : Nat) (x : Arn) : Res := ⟨DomL (arP b x), fun w => ArAt b x w⟩
theorem holds_ar {S : Nat → Prop} {w0 w : World} {b : Nat} {x : Arn} (h : SL S w0 w (arP b x)) (ok : x.ok) : (rAr b x).holds w :=
  ⟨fun g ⟨i, r, hi, hg⟩ => (h.all i r hi).1 g hg, fun w' hs hk => ar_at ok (h.keepTo hs hk)⟩
theorem SL.mkAr {S : Nat → Prop} {w0 w : World} {l : List Res} {b : Nat} {x : Arn} (h : SL S w0 w (l ++ arP b x)) (ok : x.ok) : SL S w0 w (l ++ [rAr b x]) :=
  h.merge _ (holds_ar h.focus ok) fun g hg => hg
set_option maxRecDepth 100000 in
theorem u_nds : Try.prog.underlying 37 = some (.slice (Try.prog.elem 37)) := by kernel_rfl
set_option maxRecDepth 100000 in
theorem nds_upto (x : Row Nd) (j : Nat) (hj : j ≤ x.c) (w : World) : (Instr.sliceAt 37 (.slice x.A x.n x.c) none (some (.int .i64 j)) none).run Try.prog w = .ok (.slice (x.part 0 j).A (x.part 0 j).n (x.part 0 j).c) w := by
  have hz : ∀ w, (sizeOf (Try.prog.elem 37)).run Try.prog w = .ok 14 w := fun _ => by kernel_rfl
  rw [run_sliceAt_slice (h := u_nds), run_slice_h (ht := u_nds) (h0 := by omega) (h2 := by omega), hz]
  simp [sliced, Row.part]
theorem goodN_load {xs : List (List Int)} {ms : Int} {l : List NC} (h : firstErr (loadAt xs ms l) l.length 0 = 0) : GoodN xs ms l := fun k n hk => by
  have hl := (List.getElem?_eq_some_iff.1 hk).1
  have h1 := firstErr_inv h k (Nat.zero_le _) (by omega)
  unfold loadAt addErr at h1
  rw [hk] at h1
  simp only [Option.getD_some] at h1
  by_cases h2 : nodeErr xs ms n ≠ 0
  · rw [if_pos h2] at h1; exact absurd h1 h2
  · rw [if_neg h2] at h1
    by_cases h3 : leadsN xs.length (l.take k) n = false
    · rw [if_pos h3] at h1; omega
    · exact ⟨Classical.not_not.1 h2, by simpa using h3⟩

end Go.Proofs.Ytlclllkjnhgbjaa
