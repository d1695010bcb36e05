/- A struct stored into memory that was made for it; pieces of slices. -/
import Derived.Test.YtnjpoamebkehbaaMem
import Derived.Test.YtnjpoamebkehbaaRow
namespace Go.Proofs.Ytnjpoamebkehbaa
open Go.RowKit
set_option linter.unusedVariables false

theorem setCells_new (w : World) (t : TypeId) : ∀ (vs : List Value) (o : Nat) (cs : Array Value), (w.alloc (.cells cs t)).setCells w.heap.size o vs = w.alloc (.cells (setAll cs o vs) t)
  | [], o, cs => rfl
  | v :: vs, o, cs => by
    rw [World.setCells, World.setCell_alloc_at _ _ _ _ _ rfl, setCells_new w t vs (o + 1), setAll]

section
variable {P : Program}
theorem wpList_store_new {ops : Array Oper} {rest : List Oper} {op : Oper} {a : Act} {w : World} {Q : Exit → Act → World → Prop} (hgd : op.guard = none) {ty : TypeId} {n : Nat} (R : RowTy P ty n) (x y : Operand) (ho : op.op = .store ty x y)
    {t : TypeId} {cs : Array Value} (hx : a.eval x = .pointer (some ⟨w.heap.size, 0, none⟩)) (hn : cs.size = n) (cs' : Array Value) (hn' : cs'.size = n) (hy : a.eval y = .agg cs') (h1 : cs'.all (·.oneCell') = true)
    (h : wpList P ops Q rest (a.put op.dst undef) (w.alloc (.cells cs' t))) : wpList P ops Q (op :: rest) a (w.alloc (.cells cs t)) := by
  have hb : Blk (w.alloc (.cells cs t)) w.heap.size t cs := Blk.new w t cs
  refine wpList_store_mid hgd ty x y ho w.heap.size 0 cs' hx hy (hb.there (by omega)) (by rw [R.hi, hn']) h1 ?_
  rw [setCells_new, setAll_all cs cs' (by omega)]
  exact h
theorem wpList_store_newG {ops : Array Oper} {rest : List Oper} {op : Oper} {a : Act} {w : World} {Q : Exit → Act → World → Prop} (hgd : op.guard = none) {ty : TypeId} {n : Nat} (R : RowTy P ty n) (x y : Operand) (ho : op.op = .store ty x y)
    {t : TypeId} {cs : Array Value} (g : Nat) (hg : g = w.heap.size) (hx : a.eval x = .pointer (some ⟨g, 0, none⟩)) (hn : cs.size = n) (cs' : Array Value) (hn' : cs'.size = n) (hy : a.eval y = .agg cs') (h1 : cs'.all (·.oneCell') = true)
    (h : wpList P ops Q rest (a.put op.dst undef) (w.alloc (.cells cs' t))) : wpList P ops Q (op :: rest) a (w.alloc (.cells cs t)) := by
  subst hg
  exact wpList_store_new hgd R x y ho hx hn cs' hn' hy h1 h
end

section
variable {w : World} {size n : Nat} {A : Option Addr} {xs : List Value}
theorem Rd.take (h : Rd w size A n xs) {k : Nat} (hk : k ≤ n) : Rd w size A k (xs.take (k * size)) := by
  refine ⟨by rw [List.length_take, h.1]; exact Nat.min_eq_left (Nat.mul_le_mul_right _ hk), fun h0 => ?_⟩
  obtain ⟨ad, e, hb, hc⟩ := h.2 (by omega)
  refine ⟨ad, e, hb, fun j u hu => ?_⟩
  rw [List.getElem?_take] at hu
  split at hu
  · exact hc j u hu
  · cases hu
theorem Rd.drop (h : Rd w size A n xs) {k cap : Nat} (hk : k ≤ n) (hc : n ≤ cap) : Rd w size (if cap = k then A else A.map (·.add (k * size))) (n - k) (xs.drop (k * size)) := Reads.cut h hk hc
end

section
variable {α : Type} [Cel α]
theorem flat_take (l : List α) (k : Nat) : (l.flatMap Cel.cells).take (k * Cel.size α) = (l.take k).flatMap Cel.cells := by
  induction l generalizing k with
  | nil => simp
  | cons a l ih =>
    cases k with
    | zero => simp
    | succ k =>
      rw [List.flatMap_cons, List.take_succ_cons, List.flatMap_cons, Nat.add_mul, Nat.one_mul, List.take_append, Cel.len]
      rw [List.take_of_length_le (by rw [Cel.len]; omega), Nat.add_sub_cancel, ih]
theorem flat_drop (l : List α) (k : Nat) : (l.flatMap Cel.cells).drop (k * Cel.size α) = (l.drop k).flatMap Cel.cells := by
  induction l generalizing k with
  | nil => simp
  | cons a l ih =>
    cases k with
    | zero => simp
    | succ k =>
      rw [List.flatMap_cons, List.drop_succ_cons, Nat.add_mul, Nat.one_mul, List.drop_append, Cel.len]
      rw [List.drop_of_length_le (by rw [Cel.len]; omega), Nat.add_sub_cancel, ih, List.nil_append]
theorem rd_range {w : World} {A : Option Addr} {n k : Nat} {l : List α} (h : Rd w (Cel.size α) A n (l.flatMap Cel.cells)) (hk : k < n) :
    ∃ b o a, A = some ⟨b, o, none⟩ ∧ b < w.heap.size ∧ l[k]? = some a ∧ w.rangeAt b (o + k * Cel.size α) (Cel.cells a) := by
  obtain ⟨b, o, a, e, hb, ha, hc⟩ := rd_at h hk
  exact ⟨b, o, a, e, hb, ha, fun j v hv => hc j v hv⟩
end

/-- An element of one cell, its address written out. -/
theorem rd_cell {α : Type} [Cel α] {w : World} {A : Option Addr} {n k : Nat} {l : List α} (h1 : Cel.size α = 1) (h : Rd w (Cel.size α) A n (l.flatMap Cel.cells)) (hk : k < n) :
    ∃ b o a, A = some ⟨b, o, none⟩ ∧ l[k]? = some a ∧ ∀ u, Cel.cells a = [u] → w.cell? ⟨b, o + k, none⟩ = some u := by
  obtain ⟨b, o, a, e, _, ha, hc⟩ := rd_at h hk
  refine ⟨b, o, a, e, ha, fun u hu => ?_⟩
  have := hc 0 u (by rw [hu]; rfl)
  rw [h1, Nat.mul_one] at this
  exact this
theorem Row.ok.int {w : World} {x : Row Int} (h : x.ok w) {k : Nat} (hk : k < x.n) : ∃ b o z, x.A = some ⟨b, o, none⟩ ∧ x.l[k]? = some z ∧ I64 z ∧ w.cell? ⟨b, o + k, none⟩ = some (.int .i64 z) := by
  obtain ⟨b, o, z, e, hz, hc⟩ := rd_cell rfl h.rd hk
  exact ⟨b, o, z, e, hz, h.all z (List.mem_of_getElem? hz), hc _ rfl⟩

end Go.Proofs.Ytnjpoamebkehbaa
