/- Nodes: Last; may a cell stand in a dimension? -/
import Derived.Test.YtlclllkjnhgbjaaNodP
namespace Go.Proofs.Ytlclllkjnhgbjaa
open Go.RowKit
set_option linter.unusedVariables false
set_option linter.unusedSimpArgs false


theorem wpList_load_rowG {P : Program} {ops : Array Oper} {rest : List Oper} {op : Oper} {a : Act} {w : World} {Q : Exit → Act → World → Prop} (hw : Region.wanted op (yielded ops a.tmps) = true) {ty : TypeId} {n : Nat} (R : RowTy P ty n) (x : Operand) (ho : op.op = .load ty x)
    (b o : Nat) (hx : a.eval x = .pointer (some ⟨b, o, none⟩)) (cs : Array Value) (hn : cs.size = n) (hc : w.rangeAt b o cs.toList)
    (h : wpList P ops Q rest (a.put op.dst (.agg cs)) w) : wpList P ops Q (op :: rest) a w := by
  obtain ⟨d, hu, hd⟩ := R.hu
  refine wpList_step fun K hK => ?_
  rw [if_pos hw]
  exact wp_load_mid ty x ho b o hx cs.toList d hc hu hd (by rw [R.hi]; simp [hn]) (hK _ _ (by simpa using h))
set_option maxRecDepth 100000 in
theorem last_any (s : Shp) (d : Int) (w : World) (hs : s.rd w) (hd : I64 d) :
    Calls Try.prog 69 #[.agg s.cs, .int .i64 d] w fun e w' => e = .returned (.bool (d == (s.sz.n : Int) - 1)) ∧ Bel w w' := by
  have H := Lib.hid ((SL.start No w).alloc s.cs 24)
  (try simp only [List.set_cons_zero, List.set_cons_succ, List.cons_append, List.nil_append, List.eraseIdx_cons_zero, List.eraseIdx_cons_succ, List.setIfInBounds_toArray, World.size_alloc, selR, List.getD_cons_zero, List.getD_cons_succ] at H)
  have n63 := hs.sz.n63
  clear hs
  go_enter Try.func69, Try.ntmps69
  go_upto_region 1 with fail
  generalize w.heap.size = x at *
  generalize World.alloc w _ = w1 at *
  have c0 : w1.cell? ⟨x, 0, none⟩ = some (.slice s.sz.A s.sz.n s.sz.c) := (H.out.blk 0 rfl).cell 0
  go_wp2
  go_ret
  exact ⟨rfl, H.out.to⟩
set_option maxRecDepth 100000 in
set_option maxHeartbeats 2000000 in
theorem ncell_any (s : Shp) (d : Int) (c : Cl) (w : World) (hs : s.rd w) (hd : I64 d) (hc : c.ok) :
    Calls Try.prog 67 #[.agg s.cs, .int .i64 d, .agg c.cs] w fun e w' => e = .returned (.bool (cellOk s.sz.n s.ms d c)) ∧ Bel w w' := by
  have HL := Lib.hid (fun w' (hb : Bel w w') => last_any s d w' (hs.mono hb) hd)
  have HM := Lib.hid (fun w' => may_any c.ag s.ms w' hs.ms)
  have H := Lib.hid (((SL.start No w).alloc s.cs 24).alloc c.cs 32)
  (try simp only [List.set_cons_zero, List.set_cons_succ, List.cons_append, List.nil_append, List.eraseIdx_cons_zero, List.eraseIdx_cons_succ, List.setIfInBounds_toArray, World.size_alloc, selR, List.getD_cons_zero, List.getD_cons_succ] at H)
  have n63 := hs.sz.n63
  have hcs : s.cs = #[.slice s.sz.A s.sz.n s.sz.c, .int .i64 s.ms] := rfl
  have HCS := Lib.hid hcs
  clear hcs
  have hR : Hid (cellOk s.sz.n s.ms d c = if d = (s.sz.n : Int) - 1 then decide (c.ch = 0) && mayAg s.ms c.ag else decide (0 ≤ c.ch) && decide (c.ag = .zero)) := rfl
  generalize cellOk s.sz.n s.ms d c = R at *
  clear hs hc
  go_enter Try.func67, Try.ntmps67
  go_upto_region 1 with fail
  rw [← HCS.out] at *
  generalize w.heap.size + 1 = y at *
  generalize w.heap.size = x at *
  generalize World.alloc (World.alloc _ _) _ = w1 at *
  go_wp2_with ((with_reducible show wpList _ _ _ (⟨some 7, _, _, _, _, _⟩ :: _) _ _); (refine wpList_load_blk rfl rowShp2 (.tmp 3) rfl _ rfl (H.out.blk 0 rfl) rfl ?_))
  refine (HL.out _ H.out.to).mono ?_; rintro e w2 ⟨rfl, hb2⟩
  replace H := Lib.hid (H.out.bel hb2); (try simp only [List.set_cons_zero, List.set_cons_succ, List.cons_append, List.nil_append, List.eraseIdx_cons_zero, List.eraseIdx_cons_succ, List.setIfInBounds_toArray, World.size_alloc, selR, List.getD_cons_zero, List.getD_cons_succ] at H)
  clear hb2 HL
  have HAG : Hid (w2.rangeAt y 2 c.ag.cs.toList) := fun j v hv => by
    have := (H.out.blk 1 rfl).range (j + 2) v (by rw [cl_ag]; exact hv)
    rw [show 0 + (j + 2) = 2 + j by omega] at this
    exact this
  have c1 : w2.cell? ⟨y, 1, none⟩ = some (.int .i64 c.ch) := (H.out.blk 1 rfl).cell 1
  have cm : w2.cell? ⟨x, 1, none⟩ = some (.int .i64 s.ms) := (H.out.blk 0 rfl).cell 1
  cases hl : (d == (s.sz.n : Int) - 1) with
  | true =>
    have hR2 : Hid (R = (decide (c.ch = 0) && mayAg s.ms c.ag)) := by show _ = _; rw [hR.out, if_pos (by simpa using hl)]
    clear hR 
    by_cases h0 : c.ch = 0
    · have e0 : (c.ch == 0) = true := by simpa using h0
      have hR3 : Hid (R = mayAg s.ms c.ag) := by show _ = _; rw [hR2.out]; simp [h0]
      clear hR2 h0
      go_wp2_with ((with_reducible show wpList _ _ _ (⟨some 17, _, _, _, _, _⟩ :: _) _ _); refine wpList_load_rowG (by first | rfl | go_simp) rowAg (.tmp 16) (by rfl) y 2 (by rfl) c.ag.cs rfl HAG.out ?_)
      refine (HM.out _).mono ?_; rintro e w3 ⟨rfl, hb3⟩
      replace H := Lib.hid (H.out.bel hb3); (try simp only [List.set_cons_zero, List.set_cons_succ, List.cons_append, List.nil_append, List.eraseIdx_cons_zero, List.eraseIdx_cons_succ, List.setIfInBounds_toArray, World.size_alloc, selR, List.getD_cons_zero, List.getD_cons_succ] at H)
      clear hb3
      go_wp2_with fail
      go_ret
      rw [hR3.out]
      exact ⟨rfl, H.out.to⟩
    · have e0 : (c.ch == 0) = false := by simpa using h0
      have hR3 : Hid (R = false) := by show _ = _; rw [hR2.out]; simp [h0]
      clear hR2 h0
      go_wp2_with fail
      go_ret
      rw [hR3.out]
      exact ⟨rfl, H.out.to⟩
  | false =>
    have hR2 : Hid (R = (decide (0 ≤ c.ch) && decide (c.ag = .zero))) := by show _ = _; rw [hR.out, if_neg (by simpa using hl)]
    clear hR
    by_cases h0 : 0 ≤ c.ch
    · have e0 : decide (0 ≤ c.ch) = true := by simpa using h0
      have hR3 : Hid (R = decide (c.ag = .zero)) := by show _ = _; rw [hR2.out]; simp [h0]
      have hb0 : ∀ w : World, (Instr.build 30 #[]).run Try.prog w = .ok (.agg Ag.zero.cs) w := fun _ => by kernel_rfl
      clear hR2 h0
      go_wp2_with (first | ((with_reducible show wpList _ _ _ (⟨some 25, _, _, _, _, _⟩ :: _) _ _); refine wpList_load_rowG (by first | rfl | go_simp) rowAg (.tmp 24) (by rfl) y 2 (by rfl) c.ag.cs rfl HAG.out ?_) | ((with_reducible show wpList _ _ _ (⟨some 27, _, _, _, _, _⟩ :: _) _ _); (refine wpList_cmp_row (by first | rfl | go_simp) .eql 30 30 (.tmp 25) (.tmp 26) (by rfl) (by rfl) (by rfl) guard_ag (eqv_ag c.ag Ag.zero _) ?_)))
      go_ret
      rw [hR3.out]
      exact ⟨rfl, H.out.to⟩
    · have e0 : decide (0 ≤ c.ch) = false := by simpa using h0
      have hR3 : Hid (R = false) := by show _ = _; rw [hR2.out]; simp [h0]
      clear hR2 h0
      go_wp2_with fail
      go_ret
      rw [hR3.out]
      exact ⟨rfl, H.out.to⟩
set_option maxRecDepth 100000 in
set_option maxHeartbeats 2000000 in
theorem rcell_any (s : Shp) (d : Int) (c : Cl) (w : World) (hs : s.rd w) (hd : I64 d) (hc : c.ok) :
    Calls Try.prog 38 #[.agg s.cs, .int .i64 d, .agg c.cs] w fun e w' => e = .returned (.bool (cellOk s.sz.n s.ms d c)) ∧ Bel w w' := by
  have HL := Lib.hid (fun w' (hb : Bel w w') => last_any s d w' (hs.mono hb) hd)
  have HM := Lib.hid (fun w' => rmay_any c.ag s.ms w' hs.ms)
  have H := Lib.hid (((SL.start No w).alloc s.cs 24).alloc c.cs 32)
  (try simp only [List.set_cons_zero, List.set_cons_succ, List.cons_append, List.nil_append, List.eraseIdx_cons_zero, List.eraseIdx_cons_succ, List.setIfInBounds_toArray, World.size_alloc, selR, List.getD_cons_zero, List.getD_cons_succ] at H)
  have n63 := hs.sz.n63
  have hcs : s.cs = #[.slice s.sz.A s.sz.n s.sz.c, .int .i64 s.ms] := rfl
  have HCS := Lib.hid hcs
  clear hcs
  have hR : Hid (cellOk s.sz.n s.ms d c = if d = (s.sz.n : Int) - 1 then decide (c.ch = 0) && mayAg s.ms c.ag else decide (0 ≤ c.ch) && decide (c.ag = .zero)) := rfl
  generalize cellOk s.sz.n s.ms d c = R at *
  clear hs hc
  go_enter Try.func38, Try.ntmps38
  go_upto_region 1 with fail
  rw [← HCS.out] at *
  generalize w.heap.size + 1 = y at *
  generalize w.heap.size = x at *
  generalize World.alloc (World.alloc _ _) _ = w1 at *
  have cs0 : w1.cell? ⟨x, 0, none⟩ = some (.slice s.sz.A s.sz.n s.sz.c) := (H.out.blk 0 rfl).cell 0
  have HAG : Hid (w1.rangeAt y 2 c.ag.cs.toList) := fun j v hv => by
    have := (H.out.blk 1 rfl).range (j + 2) v (by rw [cl_ag]; exact hv)
    rw [show 0 + (j + 2) = 2 + j by omega] at this
    exact this
  have c1 : w1.cell? ⟨y, 1, none⟩ = some (.int .i64 c.ch) := (H.out.blk 1 rfl).cell 1
  have cm : w1.cell? ⟨x, 1, none⟩ = some (.int .i64 s.ms) := (H.out.blk 0 rfl).cell 1
  cases hl : (d == (s.sz.n : Int) - 1) with
  | true =>
    have hR2 : Hid (R = (decide (c.ch = 0) && mayAg s.ms c.ag)) := by show _ = _; rw [hR.out, if_pos (by simpa using hl)]
    clear hR 
    by_cases h0 : c.ch = 0
    · have e0 : (c.ch == 0) = true := by simpa using h0
      have hR3 : Hid (R = mayAg s.ms c.ag) := by show _ = _; rw [hR2.out]; simp [h0]
      clear hR2 h0
      go_wp2_with ((with_reducible show wpList _ _ _ (⟨some 20, _, _, _, _, _⟩ :: _) _ _); refine wpList_load_rowG (by first | rfl | go_simp) rowAg (.tmp 19) (by rfl) y 2 (by rfl) c.ag.cs rfl HAG.out ?_)
      refine (HM.out _).mono ?_; rintro e w3 ⟨rfl, hb3⟩
      replace H := Lib.hid (H.out.bel hb3); (try simp only [List.set_cons_zero, List.set_cons_succ, List.cons_append, List.nil_append, List.eraseIdx_cons_zero, List.eraseIdx_cons_succ, List.setIfInBounds_toArray, World.size_alloc, selR, List.getD_cons_zero, List.getD_cons_succ] at H)
      clear hb3
      go_wp2_with fail
      go_ret
      rw [hR3.out]
      exact ⟨rfl, H.out.to⟩
    · have e0 : (c.ch == 0) = false := by simpa using h0
      have hR3 : Hid (R = false) := by show _ = _; rw [hR2.out]; simp [h0]
      clear hR2 h0
      go_wp2_with fail
      go_ret
      rw [hR3.out]
      exact ⟨rfl, H.out.to⟩
  | false =>
    have hR2 : Hid (R = (decide (0 ≤ c.ch) && decide (c.ag = .zero))) := by show _ = _; rw [hR.out, if_neg (by simpa using hl)]
    clear hR
    by_cases h0 : 0 ≤ c.ch
    · have e0 : decide (0 ≤ c.ch) = true := by simpa using h0
      have hR3 : Hid (R = decide (c.ag = .zero)) := by show _ = _; rw [hR2.out]; simp [h0]
      have hb0 : ∀ w : World, (Instr.build 30 #[]).run Try.prog w = .ok (.agg Ag.zero.cs) w := fun _ => by kernel_rfl
      clear hR2 h0
      go_wp2_with (first | ((with_reducible show wpList _ _ _ (⟨some 28, _, _, _, _, _⟩ :: _) _ _); refine wpList_load_rowG (by first | rfl | go_simp) rowAg (.tmp 27) (by rfl) y 2 (by rfl) c.ag.cs rfl HAG.out ?_) | ((with_reducible show wpList _ _ _ (⟨some 30, _, _, _, _, _⟩ :: _) _ _); (refine wpList_cmp_row (by first | rfl | go_simp) .eql 30 30 (.tmp 28) (.tmp 29) (by rfl) (by rfl) (by rfl) guard_ag (eqv_ag c.ag Ag.zero _) ?_)))
      go_ret
      rw [hR3.out]
      exact ⟨rfl, H.out.to⟩
    · have e0 : decide (0 ≤ c.ch) = false := by simpa using h0
      have hR3 : Hid (R = false) := by show _ = _; rw [hR2.out]; simp [h0]
      clear hR2 h0
      go_wp2_with fail
      go_ret
      rw [hR3.out]
      exact ⟨rfl, H.out.to⟩

end Go.Proofs.Ytlclllkjnhgbjaa
