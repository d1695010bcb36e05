/- A region that draws its order: first what is quiet in a class of worlds, then operations in one forced order. (The library has both halves: quiet regions, and still regions with a tail; here they meet.) -/
import Derived.Test.YtnjpoamebkehbaaOver
import Derived.Test.YtnjpoamebkehbaaEq
import Derived.StillTail
namespace Go.Proofs.Ytnjpoamebkehbaa
open Go.RowKit
set_option linter.unusedVariables false

section
variable {P : Program} {ops : Array Oper} {md : Region.Mode} {C : World → Prop}

/-- Whatever order is picked for the head; L: what is asked when its f operations have come up. -/
def wpHead (P : Program) (md : Region.Mode) (ops : Array Oper) (C : World → Prop) (n : Nat) (L : Array Bool → Act → Prop) : Nat → Array Bool → Act → Prop
  | 0, done, a => L done a
  | f + 1, done, a => Region.ready md ops done ≠ [] ∧ ∀ i ∈ Region.ready md ops done, i < n ∧ qOp P ops C i (wpHead P md ops C n L f (done.setIfInBounds i true)) a

theorem wpAny_of_wpHead {n g : Nat} {L : Array Bool → Act → Prop} {Q : Exit → Act → World → Prop} (hL : ∀ done a w, C w → L done a → wpAny P md ops Q g done a w) :
    ∀ (f : Nat) (done : Array Bool) (a : Act) (w : World), C w → wpHead P md ops C n L f done a → wpAny P md ops Q (f + g) done a w
  | 0, _, _, _, hC, h => by rw [Nat.zero_add]; exact hL _ _ _ hC h
  | f + 1, _, _, _, hC, h => by
    rw [Nat.add_right_comm]
    exact ⟨fun h0 => absurd h0 h.1, fun i hi => wpOp_of_qOp hC (fun a' w' hC' h' => wpAny_of_wpHead hL f _ a' w' hC' h') (h.2 i hi).2⟩

theorem head_first {n i : Nat} {oi : Oper} {v : Value} {L : Array Bool → Act → Prop} (hi : ops[i]? = some oi) (hsel : ∀ (j : Nat) (o : Oper) cs b, ops[j]? = some o → o.op ≠ .select cs b)
    (wait : ∀ done, HeadInv md ops n done → done.getD i true = false → ∀ j ∈ Region.ready md ops done, j < n) (hdone : ∀ done a, L done a → ∀ j ∈ Region.ready md ops done, n ≤ j) (f : Nat) :
    ∀ (done : Array Bool) (a : Act), HeadInv md ops n done →
      (∀ j oj, ops[j]? = some oj → j ≠ i → done.getD j true = false → (∀ e ∈ oj.after, Region.binds md e = true → e.on ≠ i) → oi.apart ops oj = true) →
      i ∈ Region.ready md ops done → YieldsIn P ops C oi v a →
      wpHead P md ops C n L f (done.setIfInBounds i true) (a.put oi.dst v) → wpHead P md ops C n L (f + 1) done a := by
  induction f with
  | zero =>
    intro done a inv _ hr hy H
    refine ⟨List.ne_nil_of_mem hr, fun j hj => ?_⟩
    have hjn := wait done inv (mem_ready.1 hr).1 j hj
    refine ⟨hjn, ?_⟩
    by_cases e : j = i
    · subst e; exact hy.qOp hi H
    · exact absurd (hdone _ _ H j (ready_mono hj e)) (by omega)
  | succ f ih =>
    intro done a inv hfree hr hy H
    have hun := (mem_ready.1 hr).1
    refine ⟨List.ne_nil_of_mem hr, fun j hj => ?_⟩
    have hjn := wait done inv hun j hj
    refine ⟨hjn, ?_⟩
    by_cases e : j = i
    · subst e; exact hy.qOp hi H
    · obtain ⟨hjun, oj, hoj, hall⟩ := mem_ready.1 hj
      have key := qOp_put hoj (hfree j oj hoj e hjun fun x hx hb hon => by
        have := hall x hx hb
        rw [hon, getD_both hun] at this
        cases this) (fun cs b => hsel i oi cs b hi) (fun cs b => hsel j oj cs b hoj) hy (H.2 j (ready_mono hj e)).2
      refine qOp_mono (fun a' h3 => ih (done.setIfInBounds j true) a' (inv.set hj hjn) (fun k ok hk hki hu hno => ?_) (ready_mono hr (Ne.symm e)) h3.1 ?_) key
      · by_cases hjk : j = k
        · subst hjk; exact hfree j ok hk hki hjun hno
        · rw [getD_set_ne true hjk] at hu; exact hfree k ok hk hki hu hno
      · rw [Array.setIfInBounds_comm _ _ e]; exact h3.2

theorem head_lex {n g : Nat} {Lq : Act → Prop} (hsel : Region.noSelect ops = true) (hs : Region.sinkB md ops n = true) (hc : Region.chainB md ops n = true) (hn : n < ops.size) :
    ∀ (l : List Oper) (k : Nat) (done : Array Bool) (a : Act), (∀ j, j < l.length → l[j]? = ops[k + j]?) → k + l.length = n → HeadInv md ops n done →
    Region.lexHead md ops g l.length k done = true → wpQuiet P ops C Lq l a → wpHead P md ops C n (fun done' a' => Region.seqB md ops g n done' = true ∧ Lq a') l.length done a
  | [], k, done, a, _, hk, _, hB, h => by
    obtain rfl : k = n := hk
    exact ⟨hB, h⟩
  | o :: l, k, done, a, hl, hk, inv, hB, h => by
    have h0 : ops[k]? = some o := (hl 0 (Nat.zero_lt_succ _)).symm
    simp only [List.length_cons, Region.lexHead, Bool.and_eq_true] at hB hk
    obtain ⟨⟨hr, hf⟩, hB'⟩ := hB
    have hr' : k ∈ Region.ready md ops done := List.contains_iff_mem.1 hr
    obtain ⟨v, hy, hK⟩ := yieldsIn_of_qOp h0 (K := wpQuiet P ops C Lq l) (by unfold qOp; simp only [h0]; exact h)
    refine head_first h0 (Region.noSelect_spec hsel) (fun done' inv' hu j hj => ?_) (fun _ _ hL => seqB_ready hL.1) l.length done a inv (Region.free_spec h0 hf) hr' hy
      (head_lex hsel hs hc hn l (k + 1) _ _ (fun j hj => ?_) (by omega) (inv.set hr' (by omega)) hB' hK)
    · rcases Nat.lt_or_ge j n with h' | h'
      · exact h'
      · exact absurd hj (tail_waits hs hc hn inv' _ k rfl (by omega) hu j h')
    · have := hl (j + 1) (Nat.succ_lt_succ hj)
      rw [List.getElem?_cons_succ] at this
      rw [this]
      congr 1
      omega

/-- A region: its first n operations are quiet over the world in which it began; the others come behind them in their order. -/
theorem wp_region_over_tail {w : World} {id : Nat} {Q : Exit → Act → World → Prop} {a : Act} {l : List Oper} (n : Nat) (hm : P.follows .mixedOrders = true) (hB : Region.lexTailB .any l.toArray n = true)
    (h : wpQuiet P l.toArray (fun w' => ∃ u : Over w, w' = u.wd) (fun a' => ∀ u : Over w, wpList P l.toArray Q (l.drop n) a' u.wd) (l.take n) a) : (Code.region id l.toArray true).wp P Q a w := by
  simp only [Region.lexTailB, Bool.and_eq_true, decide_eq_true_eq] at hB
  obtain ⟨⟨⟨⟨hsel, hn⟩, hs⟩, hc⟩, hlex⟩ := hB
  have hn' : n < l.length := hn
  have htl : (l.take n).length = n := by rw [List.length_take]; omega
  have inv0 : HeadInv .any l.toArray n (Array.replicate l.toArray.size false) :=
    ⟨Array.size_replicate, fun j oj _ hl => (by rw [getD_replicate_false] at hl; cases hl), fun t _ ht => getD_in (by rw [Array.size_replicate]; exact ht) (getD_replicate_false _ _)⟩
  have H := head_lex (md := .any) (g := l.toArray.size - n) hsel hs hc hn (l.take n) 0 _ a (fun j hj => by rw [htl] at hj; rw [List.getElem?_take_of_lt hj, Nat.zero_add, List.getElem?_toArray]) (by rw [htl, Nat.zero_add]) inv0 (by rw [htl]; exact hlex) h
  have hdl : (l.drop n).length = l.toArray.size - n := List.length_drop
  have W := wpAny_of_wpHead (Q := Q) (g := l.toArray.size - n) (fun done a' w' hC' hL => by
    obtain ⟨u, rfl⟩ := hC'
    have := wpAny_of_seq (md := .any) (Q' := Q) (l.drop n) n done a' u.wd (fun j => by rw [List.getElem?_drop, List.getElem?_toArray]) (by rw [hdl]; exact hL.1) (hL.2 u)
    rwa [hdl] at this) _ _ _ { w with drawn := w.drawn + 1 } ⟨⟨_, (Bel.refl w).drew⟩, rfl⟩ H
  rw [htl, Nat.add_sub_cancel' (Nat.le_of_lt hn)] at W
  exact wp_region_any hm W

/-- An operation that yields one value in every world of the class. -/
theorem wpQuiet_run {w : World} {Q : Act → Prop} {a : Act} {o : Oper} {rest : List Oper} (hw : Region.wanted o (yielded ops a.tmps) = true) (v : Value) (hr : ∀ u : Over w, (execOp a.eval o).run P u.wd = .ok (.value v) u.wd)
    (h : wpQuiet P ops (fun w' => ∃ u : Over w, w' = u.wd) Q rest (a.put o.dst v)) : wpQuiet P ops (fun w' => ∃ u : Over w, w' = u.wd) Q (o :: rest) a := by
  refine wpQuiet_step fun K hK => ?_
  rw [if_pos hw]
  refine ⟨v, fun w' hw' => ?_, hK _ h⟩
  obtain ⟨u, rfl⟩ := hw'
  unfold Oper.quietAt
  rw [hr u]
  exact ⟨rfl, rfl⟩
theorem rangeAt_over {w : World} {b o : Nat} {cs : List Value} (hb : b < w.heap.size) (h : w.rangeAt b o cs) (u : Over w) : u.wd.rangeAt b o cs := fun j v hv => (u.bel.cell (p := ⟨b, o + j, none⟩) hb).trans (h j v hv)
theorem rangeAt_bel {w w' : World} {b o : Nat} {cs : List Value} (hb : b < w.heap.size) (h : w.rangeAt b o cs) (hB : Bel w w') : w'.rangeAt b o cs := rangeAt_over hb h ⟨w', hB⟩
theorem wpQuiet_load_row {w : World} {Q : Act → Prop} {a : Act} {op : Oper} {rest : List Oper} (hw : Region.wanted op (yielded ops a.tmps) = true) {ty : TypeId} {n : Nat} (R : RowTy P ty n) (x : Operand) (ho : op.op = .load ty x)
    (b o : Nat) (hx : a.eval x = .pointer (some ⟨b, o, none⟩)) (cs : Array Value) (hn : cs.size = n) (hb : b < w.heap.size) (hc : w.rangeAt b o cs.toList)
    (h : wpQuiet P ops (fun w' => ∃ u : Over w, w' = u.wd) Q rest (a.put op.dst (.agg cs))) : wpQuiet P ops (fun w' => ∃ u : Over w, w' = u.wd) Q (op :: rest) a := by
  refine wpQuiet_run hw (.agg cs) (fun u => ?_) h
  obtain ⟨d, hu, hd⟩ := R.hu
  have hl := run_loadVar_mid (P := P) u.wd b o ty cs.toList d (rangeAt_over hb hc u) hu hd (by rw [R.hi]; simp [hn])
  unfold execOp
  simp only [ho, hx, Instr.loadAt, Instr.sureAddr, Sem.run_bind, Sem.run_pure, Result.andThen_ok, hl]
theorem wpQuiet_cmp_row {w : World} {Q : Act → Prop} {a : Act} {op : Oper} {rest : List Oper} (hw : Region.wanted op (yielded ops a.tmps) = true) (bo : BinOp) (t t2 : TypeId) (x y : Operand) (ho : op.op = .binOp bo t x y t2)
    {xs ys : Array Value} (hx : a.eval x = .agg xs) (hy : a.eval y = .agg ys) (hg : P.eqGuardType P.depth t = false) {b : Bool} (hrun : ∀ w, (binOp bo t (.agg xs) (.agg ys)).run P w = .ok (.bool b) w)
    (h : wpQuiet P ops (fun w' => ∃ u : Over w, w' = u.wd) Q rest (a.put op.dst (.bool b))) : wpQuiet P ops (fun w' => ∃ u : Over w, w' = u.wd) Q (op :: rest) a := by
  refine wpQuiet_run hw (.bool b) (fun u => ?_) h
  unfold execOp
  simp only [ho, hx, hy, Sem.run_bind, run_eqGuard_row hg, Result.andThen_ok, hrun, Sem.run_pure]
theorem wpQuiet_build {w : World} {Q : Act → Prop} {a : Act} {op : Oper} {rest : List Oper} (hw : Region.wanted op (yielded ops a.tmps) = true) (t : TypeId) (ps : Array (Nat × Operand)) (ho : op.op = .build t ps) (v : Value)
    (hrun : ∀ w, (Instr.build t (ps.map fun (i, x) => (i, a.eval x))).run P w = .ok v w)
    (h : wpQuiet P ops (fun w' => ∃ u : Over w, w' = u.wd) Q rest (a.put op.dst v)) : wpQuiet P ops (fun w' => ∃ u : Over w, w' = u.wd) Q (op :: rest) a := by
  refine wpQuiet_run hw v (fun u => ?_) h
  unfold execOp
  simp only [ho, hrun, Sem.run_bind, Result.andThen_ok, Sem.run_pure]
end

end Go.Proofs.Ytnjpoamebkehbaa
