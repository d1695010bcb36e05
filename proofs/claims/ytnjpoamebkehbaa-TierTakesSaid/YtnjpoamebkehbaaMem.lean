/- Whole structs read from and written into blocks that are known whole. -/
import Derived.Test.YtnjpoamebkehbaaSl
import Derived.Deep.MidRow
import Derived.Laws.ResultCell
namespace Go.Proofs.Ytnjpoamebkehbaa
open Go.RowKit
set_option linter.unusedVariables false

/-- The cells of a whole struct in memory. -/
theorem Blk.range {w : World} {g : Nat} {t : TypeId} {cs : Array Value} (h : Blk w g t cs) : w.rangeAt g 0 cs.toList := fun j v hv => by
  rw [Nat.zero_add, h.cell]
  simpa using hv
theorem Blk.there {w : World} {g : Nat} {t : TypeId} {cs : Array Value} (h : Blk w g t cs) {n : Nat} (hn : n ≤ cs.size) : w.there g 0 n := fun j hj => by
  rw [Nat.zero_add, h.cell, h.frozen]
  exact ⟨by rw [Array.getElem?_eq_getElem (by omega)]; rfl, rfl⟩

/-- What a whole load or store asks of a struct's or array's type. -/
structure RowTy (P : Program) (ty : TypeId) (n : Nat) : Prop where
  hu : ∃ d, P.underlying ty = some d ∧ d.isRow = true
  hi : (P.info? ty).map (·.size) = some n

section
variable {P : Program}
theorem wpList_load_row_at {ops : Array Oper} {rest : List Oper} {op : Oper} {a : Act} {w : World} {Q : Exit → Act → World → Prop} (hgd : op.guard = none) {ty : TypeId} {n : Nat} (R : RowTy P ty n) (x : Operand) (ho : op.op = .load ty x)
    (b o : Nat) (hx : a.eval x = .pointer (some ⟨b, o, none⟩)) (cs : Array Value) (hn : cs.size = n) (hc : w.rangeAt b o cs.toList)
    (h : wpList P ops Q rest (a.put op.dst (.agg cs)) w) : wpList P ops Q (op :: rest) a w := by
  obtain ⟨d, hu, hd⟩ := R.hu
  exact wpList_load_mid hgd ty x ho b o hx cs.toList d hc hu hd (by rw [R.hi]; simp [hn]) (by simpa using h)
theorem wpList_load_blk {ops : Array Oper} {rest : List Oper} {op : Oper} {a : Act} {w : World} {Q : Exit → Act → World → Prop} (hgd : op.guard = none) {ty : TypeId} {n : Nat} (R : RowTy P ty n) (x : Operand) (ho : op.op = .load ty x)
    (g : Nat) (hx : a.eval x = .pointer (some ⟨g, 0, none⟩)) {t : TypeId} {cs : Array Value} (hb : Blk w g t cs) (hn : cs.size = n)
    (h : wpList P ops Q rest (a.put op.dst (.agg cs)) w) : wpList P ops Q (op :: rest) a w :=
  wpList_load_row_at hgd R x ho g 0 hx cs hn hb.range h

theorem wpList_load_blkG {ops : Array Oper} {rest : List Oper} {op : Oper} {a : Act} {w : World} {Q : Exit → Act → World → Prop} (hw : Region.wanted op (yielded ops a.tmps) = true) {ty : TypeId} {n : Nat} (R : RowTy P ty n) (x : Operand) (ho : op.op = .load ty x)
    (g : Nat) (hx : a.eval x = .pointer (some ⟨g, 0, none⟩)) {t : TypeId} {cs : Array Value} (hb : Blk w g t cs) (hn : cs.size = n)
    (h : wpList P ops Q rest (a.put op.dst (.agg cs)) w) : wpList P ops Q (op :: rest) a w := by
  obtain ⟨d, hu, hd⟩ := R.hu
  refine wpList_step fun K hK => ?_
  rw [if_pos hw]
  exact wp_load_mid ty x ho g 0 hx cs.toList d hb.range hu hd (by rw [R.hi]; simp [hn]) (hK _ _ (by simpa using h))

theorem setCells_grown (w : World) (g : Nat) : ∀ (vs : List Value) (o : Nat), w.grownBy (w.setCells g o vs) (some g)
  | [], o => World.grownBy.refl w _
  | v :: vs, o => by
    have h1 : w.grownBy (w.setCell ⟨g, o, none⟩ v) (some g) :=
      ⟨rfl, rfl, rfl, by simp [World.setCell], fun i hi hne => Below.heap_setCell w _ _ i (fun e => hne (by rw [e]))⟩
    have h2 := setCells_grown (w.setCell ⟨g, o, none⟩ v) g vs (o + 1)
    exact h1.trans h2

/-- Cells laid one behind the other. -/
def setAll (cs : Array Value) : Nat → List Value → Array Value
  | _, [] => cs
  | o, v :: vs => setAll (cs.setIfInBounds o v) (o + 1) vs
theorem setAll_size : ∀ (vs : List Value) (o : Nat) (cs : Array Value), (setAll cs o vs).size = cs.size
  | [], _, _ => rfl
  | v :: vs, o, cs => by rw [setAll, setAll_size vs]; simp
theorem setAll_get : ∀ (vs : List Value) (o : Nat) (cs : Array Value) (j : Nat), j < cs.size → (setAll cs o vs)[j]? = if o ≤ j ∧ j < o + vs.length then vs[j - o]? else cs[j]?
  | [], o, cs, j, hj => by rw [if_neg (by simp), setAll]
  | v :: vs, o, cs, j, hj => by
    rw [setAll, setAll_get vs (o + 1) _ j (by simpa using hj)]
    by_cases h1 : o + 1 ≤ j ∧ j < o + 1 + vs.length
    · rw [if_pos h1, if_pos (by simp only [List.length_cons]; omega), show j - o = (j - (o + 1)) + 1 by omega, List.getElem?_cons_succ]
    · rw [if_neg h1, Array.getElem?_setIfInBounds]
      by_cases h2 : o = j
      · subst h2
        rw [if_pos rfl, if_pos hj, if_pos (by simp)]
        simp
      · rw [if_neg h2, if_neg (by simp only [List.length_cons]; omega)]
theorem setAll_all (cs cs' : Array Value) (h : cs.size = cs'.size) : setAll cs 0 cs'.toList = cs' := by
  apply Array.ext_getElem?
  intro j
  by_cases hj : j < cs.size
  · rw [setAll_get _ _ _ _ hj, if_pos (by simp; omega)]
    simp
  · rw [Array.getElem?_eq_none (by rw [setAll_size]; omega), Array.getElem?_eq_none (by omega)]
theorem Blk.setAll {t : TypeId} : ∀ (vs : List Value) (o : Nat) {w : World} {g : Nat} {cs : Array Value}, Blk w g t cs → Blk (w.setCells g o vs) g t (Proofs.Ytnjpoamebkehbaa.setAll cs o vs)
  | [], o, _, _, _, h => h
  | v :: vs, o, _, _, _, h => Blk.setAll vs (o + 1) (h.set_ o v)

/-- A whole struct stored at a block's head: the block is the struct; nothing else has turned. -/
theorem wpList_store_blk {ops : Array Oper} {rest : List Oper} {op : Oper} {a : Act} {w : World} {Q : Exit → Act → World → Prop} (hgd : op.guard = none) {ty : TypeId} {n : Nat} (R : RowTy P ty n) (x y : Operand) (ho : op.op = .store ty x y)
    (g : Nat) (hx : a.eval x = .pointer (some ⟨g, 0, none⟩)) {t : TypeId} {cs : Array Value} (hb : Blk w g t cs) (hn : cs.size = n) (cs' : Array Value) (hn' : cs'.size = n) (hy : a.eval y = .agg cs') (h1 : cs'.all (·.oneCell') = true)
    (h : ∀ w', Blk w' g t cs' → w.grownBy w' (some g) → wpList P ops Q rest (a.put op.dst undef) w') : wpList P ops Q (op :: rest) a w := by
  refine wpList_store_mid hgd ty x y ho g 0 cs' hx hy (hb.there (by omega)) (by rw [R.hi, hn']) h1 (h _ ?_ (setCells_grown w g _ _))
  have := Blk.setAll cs'.toList 0 hb
  rwa [setAll_all cs cs' (by omega)] at this

theorem Bel.grownAt {a w w' : World} {g : Nat} (h : Bel a w) (hg : w.grownBy w' (some g)) (hr : a.heap.size ≤ g) : Bel a w' := h.grown hg fun k e => by injection e with e; omega
end

/-- A function's two results, the first a struct in memory. -/
theorem results_blk {P : Program} {fn : Func} {p u : Tmp} {ty : TypeId} {n : Nat} (h : fn.results = #[.cell p ty, .tmp u]) (R : RowTy P ty n) {tmps : Array Value} {w : World} {g : Nat} {t : TypeId} {cs : Array Value}
    (hp : tmps.getD p undef = .pointer (some ⟨g, 0, none⟩)) (hb : Blk w g t cs) (hn : cs.size = n) :
    (results fn tmps).run P w = .ok (.tuple #[.agg cs, tmps.getD u undef]) w := by
  obtain ⟨d, hu, hd⟩ := R.hu
  rw [results_cell_tmp h, hp]
  simp only [asAddr, Sem.run_pure, Result.andThen_ok]
  rw [run_loadVar_mid w g 0 ty cs.toList d hb.range hu hd (by rw [R.hi]; simp [hn])]
  simp

end Go.Proofs.Ytnjpoamebkehbaa
