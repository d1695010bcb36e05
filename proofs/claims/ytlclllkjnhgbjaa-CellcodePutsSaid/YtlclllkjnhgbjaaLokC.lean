/- A step of the lookup. -/
import Derived.Test.YtlclllkjnhgbjaaLokB
import Derived.Test.YtlclllkjnhgbjaaAreO
namespace Go.Proofs.Ytlclllkjnhgbjaa
open Go.RowKit
set_option linter.unusedVariables false
set_option linter.unusedSimpArgs false


def nodeAt (l : List NC) (i : Int) : Option NC := if i < 0 then none else l[i.toNat]?
/-- One step: the cell, and why there is none. -/
def pstep (l : List NC) (i : Nat) (at_ t k : Int) : Cl × Int :=
  match nodeAt l at_ with
  | none => (.nil, 9)
  | some n => if n.dim ≠ i ∨ (n.ls.length : Int) ≤ t then ((.nil, 15) : Cl × Int) else match pfind n t k with | none => (.nil, 10) | some c => (c, 0)
/-- Where members lead. -/
def palong (l : List NC) : List Ps → Nat → Int → Cl → Ag × Nat × Int
  | [], i, _, c => (c.ag, i, 0)
  | p :: ps, i, at_, _ => if (pstep l i at_ p.t p.k).2 ≠ 0 then (.zero, i + 1, (pstep l i at_ p.t p.k).2) else palong l ps (i + 1) (pstep l i at_ p.t p.k).1.ch (pstep l i at_ p.t p.k).1
theorem pstep_none {l : List NC} {i : Nat} {at_ t k : Int} (h : nodeAt l at_ = none) : pstep l i at_ t k = (.nil, 9) := by unfold pstep; rw [h]
theorem pstep_some {l : List NC} {i : Nat} {at_ t k : Int} {n : NC} (h : nodeAt l at_ = some n) : pstep l i at_ t k = if n.dim ≠ i ∨ (n.ls.length : Int) ≤ t then ((.nil, 15) : Cl × Int) else match pfind n t k with | none => (.nil, 10) | some c => (c, 0) := by unfold pstep; rw [h]
theorem palong_step {l : List NC} {ps : List Ps} {p : Ps} {i : Nat} {at_ : Int} {c : Cl} : palong l (p :: ps) i at_ c = if (pstep l i at_ p.t p.k).2 ≠ 0 then (.zero, i + 1, (pstep l i at_ p.t p.k).2) else palong l ps (i + 1) (pstep l i at_ p.t p.k).1.ch (pstep l i at_ p.t p.k).1 := rfl
theorem rise_adj {l : List Cl} (h : ∀ (i : Nat) a b, l[i]? = some a → l[i + 1]? = some b → a.key < b.key) : RiseL l := by
  intro i j a b hij
  induction j generalizing b with
  | zero => omega
  | succ j ih =>
    intro ha hb
    rcases (show i < j ∨ i = j by omega) with h1 | h1
    · have hjl := (List.getElem?_eq_some_iff.1 hb).1
      have hj : l[j]? = some (l[j]'(by omega)) := List.getElem?_eq_getElem (by omega)
      have h2 := ih _ h1 ha hj
      have h3 := h j _ b hj hb
      omega
    · subst h1; exact h i a b ha hb
theorem drop_consL {α : Type} {l : List α} {i : Nat} {x : α} (h : l[i]? = some x) : l.drop i = x :: l.drop (i + 1) := by
  have hl := (List.getElem?_eq_some_iff.1 h).1
  rw [List.drop_eq_getElem_cons hl, (List.getElem?_eq_some_iff.1 h).2]
theorem Row.rd.psAt {w : World} {x : Row Ps} (h : x.rd w) {k : Nat} (hk : k < x.n) : ∃ b o t, x.A = some ⟨b, o, none⟩ ∧ b < w.heap.size ∧ x.l[k]? = some t ∧ t.ok ∧ w.rangeAt b (o + k * 2) t.cs.toList := by
  obtain ⟨b, o, t, e, hb, ht, hc⟩ := rd_range h.r hk
  exact ⟨b, o, t, e, hb, ht, h.all t (List.mem_of_getElem? ht), hc⟩
/-- A struct's load yields it in every world that keeps its cells. -/
theorem yields_rngL {P : Program} {ops : Array Oper} {S : World → Prop} {op : Oper} {a : Act} {ty : TypeId} {n : Nat} (R : RowTy P ty n) (hw : Region.wanted op (yielded ops a.tmps) = true) (x : Operand) (ho : op.op = .load ty x)
    (g off : Nat) (hx : a.eval x = .pointer (some ⟨g, off, none⟩)) {cs : Array Value} (hS : ∀ w, S w → w.rangeAt g off cs.toList) (hn : cs.size = n) : YieldsIf P ops S op (.agg cs) a := by
  obtain ⟨d, hu, hd⟩ := R.hu
  have := yieldsIf_load_mid (P := P) (ops := ops) (S := S) (op := op) (a := a) hw ty x ho g off hx cs.toList d (fun w h => hS w h) hu hd (by rw [R.hi]; simp [hn])
  simpa using this
theorem ps_one (p : Ps) : p.cs.all (·.oneCell') = true := by simp [Ps.cs, Value.oneCell']

def ReadPost (o : Option Nd) (w : World) (e : Ending) (w' : World) : Prop :=
  (match o with | none => e = .returned (.tuple #[.agg Nd.nil.cs, .int .i64 9]) | some n => e = .returned (.tuple #[.agg n.cs, .int .i64 0])) ∧ Bel w w'
theorem nodeAt_map {l : Row Nd} {i : Int} : nodeAt (l.l.map Nd.con) i = (if i < 0 then none else l.l[i.toNat]?).map Nd.con := by
  unfold nodeAt
  split
  · rfl
  · rw [List.getElem?_map]
end Go.Proofs.Ytlclllkjnhgbjaa
