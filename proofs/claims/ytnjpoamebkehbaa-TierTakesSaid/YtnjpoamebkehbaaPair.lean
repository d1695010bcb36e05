/- A drawn region that loads two structs and stores them into two others ('return r, x'). -/
import Derived.Test.YtnjpoamebkehbaaTail
import Derived.Deep.RegionHeld3
namespace Go.Proofs.Ytnjpoamebkehbaa
open Go.RowKit
set_option linter.unusedVariables false

/-- All but two blocks is as it was; there may be more. -/
structure ButD (d0 d1 : Nat) (w w' : World) : Prop where
  os : w'.os = w.os
  tape : w'.tape = w.tape
  output : w'.output = w.output
  size : w.heap.size ≤ w'.heap.size
  block : ∀ g, g < w.heap.size → g ≠ d0 → g ≠ d1 → w'.heap[g]? = w.heap[g]?
theorem ButD.bel {d0 d1 : Nat} {a w w' : World} (h : ButD d0 d1 w w') (ha : Bel a w) (h0 : a.heap.size ≤ d0) (h1 : a.heap.size ≤ d1) : Bel a w' :=
  ⟨h.os.trans ha.os, h.tape.trans ha.tape, h.output.trans ha.output, Nat.le_trans ha.size h.size, fun k hk => (h.block k (Nat.lt_of_lt_of_le hk ha.size) (by omega) (by omega)).trans (ha.block k hk)⟩
theorem ButD.of_grown {d0 d1 : Nat} {w w1 w2 : World} (h1 : w.grownBy w1 (some d0)) (h2 : w1.grownBy w2 (some d1)) : ButD d0 d1 w w2 :=
  ⟨h2.os.trans h1.os, h2.tape.trans h1.tape, h2.output.trans h1.output, Nat.le_trans h1.size h2.size, fun g hg n0 n1 => (h2.block g (Nat.lt_of_lt_of_le hg h1.size) (by simpa using n1)).trans (h1.block g hg (by simpa using n0))⟩
theorem ButD.undrew {d0 d1 : Nat} {w w' : World} (h : ButD d0 d1 w.drew w') : ButD d0 d1 w w' := ⟨h.os, h.tape, h.output, h.size, h.block⟩
theorem ButD.swap {d0 d1 : Nat} {w w' : World} (h : ButD d0 d1 w w') : ButD d1 d0 w w' := ⟨h.os, h.tape, h.output, h.size, fun g hg n0 n1 => h.block g hg n1 n0⟩
theorem Blk.butD {d0 d1 g : Nat} {w w' : World} {t : TypeId} {cs : Array Value} (h : Blk w g t cs) (hb : ButD d0 d1 w w') (n0 : g ≠ d0) (n1 : g ≠ d1) : Blk w' g t cs := (hb.block g h.lt n0 n1).trans h

/-- What is asked of the order of such a region. -/
structure PairOrd (o0 o1 o2 o3 : Oper) : Prop where
  sel : Region.noSelect #[o0, o1, o2, o3] = true
  f0 : Region.free .any #[o0, o1, o2, o3] #[false, false, false, false] 0 = true
  r0 : (Region.ready .any #[o0, o1, o2, o3] #[false, false, false, false]).contains 0 = true
  f1 : Region.free .any #[o0, o1, o2, o3] #[true, false, false, false] 1 = true
  r1 : (Region.ready .any #[o0, o1, o2, o3] #[true, false, false, false]).contains 1 = true
  r2 : Region.ready .any #[o0, o1, o2, o3] #[true, true, false, false] = [2]
  r3 : Region.ready .any #[o0, o1, o2, o3] #[true, true, true, false] = [3]
  r5 : Region.ready .any #[o0, o1, o2, o3] #[true, true, true, true] = []

section
variable {P : Program}
theorem wp_region_pair {id : Nat} {Q : Exit → Act → World → Prop} {a : Act} {w : World} {o0 o1 o2 o3 : Oper} (hm : P.follows .mixedOrders = true) (O : PairOrd o0 o1 o2 o3)
    {ty0 ty1 : TypeId} {n0 n1 : Nat} (R0 : RowTy P ty0 n0) (R1 : RowTy P ty1 n1) (x0 x1 p0 p1 y0 y1 : Operand)
    (e0 : o0.op = .load ty0 x0) (e1 : o1.op = .load ty1 x1) (e2 : o2.op = .store ty0 p0 y0) (e3 : o3.op = .store ty1 p1 y1)
    (k0 : o0.guard = none) (k1 : o1.guard = none) (k2 : o2.guard = none) (k3 : o3.guard = none) (u2 : o2.dst = none) (u3 : o3.dst = none)
    (b0 b1 d0 d1 : Nat) {s0 s1 t0 t1 : TypeId} {cs0 cs1 ds0 ds1 : Array Value} (B0 : Blk w b0 s0 cs0) (B1 : Blk w b1 s1 cs1) (D0 : Blk w d0 t0 ds0) (D1 : Blk w d1 t1 ds1)
    (z0 : cs0.size = n0) (z1 : cs1.size = n1) (z2 : ds0.size = n0) (z3 : ds1.size = n1) (l0 : cs0.all (·.oneCell') = true) (l1 : cs1.all (·.oneCell') = true)
    (ne : d0 ≠ d1) (ne0 : b0 ≠ d0) (ne1 : b0 ≠ d1) (ne2 : b1 ≠ d0) (ne3 : b1 ≠ d1)
    (v0 : a.eval x0 = .pointer (some ⟨b0, 0, none⟩)) (v1 : (a.put o0.dst (.agg cs0)).eval x1 = .pointer (some ⟨b1, 0, none⟩))
    (v2 : ((a.put o0.dst (.agg cs0)).put o1.dst (.agg cs1)).eval p0 = .pointer (some ⟨d0, 0, none⟩)) (v3 : ((a.put o0.dst (.agg cs0)).put o1.dst (.agg cs1)).eval p1 = .pointer (some ⟨d1, 0, none⟩))
    (v4 : ((a.put o0.dst (.agg cs0)).put o1.dst (.agg cs1)).eval y0 = .agg cs0) (v5 : ((a.put o0.dst (.agg cs0)).put o1.dst (.agg cs1)).eval y1 = .agg cs1)
    (hQ0 : ∀ c (a : Act) w, Q (.panic c) (a.put o0.dst (.agg cs0)) w → Q (.panic c) a w) (hQ1 : ∀ c (a : Act) w, Q (.panic c) (a.put o1.dst (.agg cs1)) w → Q (.panic c) a w)
    (h : ∀ w', Blk w' d0 t0 cs0 → Blk w' d1 t1 cs1 → ButD d0 d1 w w' → Q .normal ((a.put o0.dst (.agg cs0)).put o1.dst (.agg cs1)) w') : (Code.region id #[o0, o1, o2, o3] true).wp P Q a w := by
  obtain ⟨dd0, hu0, hd0⟩ := R0.hu
  obtain ⟨dd1, hu1, hd1⟩ := R1.hu
  have st0 : ∀ {w' : World} {cs : Array Value}, Blk w' d0 t0 cs → cs.size = n0 → Blk (w'.setCells d0 0 cs0.toList) d0 t0 cs0 := fun hb hz => by
    have := Blk.setAll cs0.toList 0 hb
    rwa [setAll_all _ cs0 (by omega)] at this
  have st1 : ∀ {w' : World} {cs : Array Value}, Blk w' d1 t1 cs → cs.size = n1 → Blk (w'.setCells d1 0 cs1.toList) d1 t1 cs1 := fun hb hz => by
    have := Blk.setAll cs1.toList 0 hb
    rwa [setAll_all _ cs1 (by omega)] at this
  have wn : ∀ {o : Oper} {ts}, o.guard = none → Region.wanted o ts = true := fun hg => by simp [Region.wanted, hg]
  refine wp_region_held_drew (S := fun w' => Blk w' b0 s0 cs0 ∧ Blk w' b1 s1 cs1) hm ⟨B0, B1⟩ (fun hS => ?_)
  refine wpAnyH_take (i := 0) (v := .agg cs0) (oi := o0) rfl O.sel O.f0 O.r0 hQ0
    (by have := yieldsIf_load_mid (P := P) (ops := #[o0, o1, o2, o3]) (S := fun w' => Blk w' b0 s0 cs0 ∧ Blk w' b1 s1 cs1) (op := o0) (a := a) (wn k0) ty0 x0 e0 b0 0 v0 cs0.toList dd0 (fun w' h => h.1.range) hu0 hd0 (by rw [R0.hi]; simp [z0]); simpa using this) hS ?_
  refine wpAnyH_take (i := 1) (v := .agg cs1) (oi := o1) rfl O.sel O.f1 O.r1 hQ1
    (by have := yieldsIf_load_mid (P := P) (ops := #[o0, o1, o2, o3]) (S := fun w' => Blk w' b0 s0 cs0 ∧ Blk w' b1 s1 cs1) (op := o1) (a := a.put o0.dst (.agg cs0)) (wn k1) ty1 x1 e1 b1 0 v1 cs1.toList dd1 (fun w' h => h.2.range) hu1 hd1 (by rw [R1.hi]; simp [z1]); simpa using this) hS ?_
  refine wpAnyH_ready (rs := [2]) O.r2 (by simp) ?_
  refine AllReadyH.cons (o := o2) rfl (fun K hK => ?_) AllReadyH.nil
  · rw [if_pos (wn k2)]
    refine wp_store_mid ty0 p0 y0 e2 d0 0 cs0 v2 v4 (D0.drew.there (by omega)) (by rw [R0.hi, z0]) l0 ?_
    have g1 := setCells_grown w.drew d0 cs0.toList 0
    refine hK.out _ _ ⟨B0.drew.grown g1 (by simpa using ne0), B1.drew.grown g1 (by simpa using ne2)⟩ (fun hS2 => ?_)
    rw [show (((a.put o0.dst (.agg cs0)).put o1.dst (.agg cs1)).put o2.dst undef) = ((a.put o0.dst (.agg cs0)).put o1.dst (.agg cs1)) by rw [u2]; rfl]
    refine wpAnyH_ready (rs := [3]) O.r3 (by simp) ?_
    refine AllReadyH.cons (o := o3) rfl (fun K hK => ?_) AllReadyH.nil
    rw [if_pos (wn k3)]
    have D1' := D1.drew.grown g1 (by simpa using Ne.symm ne)
    refine wp_store_mid ty1 p1 y1 e3 d1 0 cs1 v3 v5 (D1'.there (by omega)) (by rw [R1.hi, z1]) l1 ?_
    have g2 := setCells_grown (w.drew.setCells d0 0 cs0.toList) d1 cs1.toList 0
    refine hK.out _ _ ⟨hS2.1.grown g2 (by simpa using ne1), hS2.2.grown g2 (by simpa using ne3)⟩ (fun _ => ?_)
    rw [show (((a.put o0.dst (.agg cs0)).put o1.dst (.agg cs1)).put o3.dst undef) = ((a.put o0.dst (.agg cs0)).put o1.dst (.agg cs1)) by rw [u3]; rfl]
    exact wpAnyH_done O.r5 (h _ ((st0 D0.drew z2).grown g2 (by simpa using ne)) (st1 D1' z3) (ButD.of_grown g1 g2).undrew) _
end

/-- A function's two results, both structs in memory. -/
theorem results_blk2 {P : Program} {fn : Func} {p q : Tmp} {ty ty2 : TypeId} {n n2 : Nat} (h : fn.results = #[.cell p ty, .cell q ty2]) (R : RowTy P ty n) (R2 : RowTy P ty2 n2) {tmps : Array Value} {w : World} {g g2 : Nat} {t t2 : TypeId} {cs cs2 : Array Value}
    (hp : tmps.getD p undef = .pointer (some ⟨g, 0, none⟩)) (hq : tmps.getD q undef = .pointer (some ⟨g2, 0, none⟩)) (hb : Blk w g t cs) (hb2 : Blk w g2 t2 cs2) (hn : cs.size = n) (hn2 : cs2.size = n2) :
    (results fn tmps).run P w = .ok (.tuple #[.agg cs, .agg cs2]) w := by
  obtain ⟨d, hu, hd⟩ := R.hu
  obtain ⟨d2, hu2, hd2⟩ := R2.hu
  have hp' : tmps[p]?.getD undef = .pointer (some ⟨g, 0, none⟩) := by simpa using hp
  have hq' : tmps[q]?.getD undef = .pointer (some ⟨g2, 0, none⟩) := by simpa using hq
  have hl := run_loadVar_mid (P := P) w g 0 ty cs.toList d hb.range hu hd (by rw [R.hi]; simp [hn])
  have hl2 := run_loadVar_mid (P := P) w g2 0 ty2 cs2.toList d2 hb2.range hu2 hd2 (by rw [R2.hi]; simp [hn2])
  simp [results, h, hp', hq', asAddr, hl, hl2]

section
variable {P : Program}
/-- A struct stored into the midst of a block that is known whole. -/
theorem wpList_store_at {ops : Array Oper} {rest : List Oper} {op : Oper} {a : Act} {w : World} {Q : Exit → Act → World → Prop} (hgd : op.guard = none) {ty : TypeId} {n : Nat} (R : RowTy P ty n) (x y : Operand) (ho : op.op = .store ty x y)
    (g o : Nat) (hx : a.eval x = .pointer (some ⟨g, o, none⟩)) {t : TypeId} {cs : Array Value} (hb : Blk w g t cs) (cs' : Array Value) (hn' : cs'.size = n) (hfit : o + n ≤ cs.size) (hy : a.eval y = .agg cs') (h1 : cs'.all (·.oneCell') = true)
    (h : ∀ w', Blk w' g t (setAll cs o cs'.toList) → w.grownBy w' (some g) → wpList P ops Q rest (a.put op.dst undef) w') : wpList P ops Q (op :: rest) a w := by
  refine wpList_store_mid hgd ty x y ho g o cs' hx hy (fun j hj => ?_) (by rw [R.hi, hn']) h1 (h _ (Blk.setAll cs'.toList o hb) (setCells_grown w g _ _))
  rw [hb.cell, hb.frozen]
  exact ⟨by rw [Array.getElem?_eq_getElem (by omega)]; rfl, rfl⟩
end
/-- A function's one result, a struct in memory. -/
theorem results_blk1 {P : Program} {fn : Func} {p : Tmp} {ty : TypeId} {n : Nat} (h : fn.results = #[.cell p ty]) (R : RowTy P ty n) {tmps : Array Value} {w : World} {g : Nat} {t : TypeId} {cs : Array Value}
    (hp : tmps.getD p undef = .pointer (some ⟨g, 0, none⟩)) (hb : Blk w g t cs) (hn : cs.size = n) :
    (results fn tmps).run P w = .ok (.agg cs) w := by
  obtain ⟨d, hu, hd⟩ := R.hu
  have hp' : tmps[p]?.getD undef = .pointer (some ⟨g, 0, none⟩) := by simpa using hp
  have hl := run_loadVar_mid (P := P) w g 0 ty cs.toList d hb.range hu hd (by rw [R.hi]; simp [hn])
  simp [results, h, hp', asAddr, hl]

end Go.Proofs.Ytnjpoamebkehbaa
