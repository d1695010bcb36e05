/- catalog.Same; parts of rows; slices of rows, as steps. -/
import Derived.Test.YtigjghfonpfdlaaCatH
import Derived.Test.YtigjghfonpfdlaaCatO
import Derived.Test.YtigjghfonpfdlaaSchY
namespace Go.Proofs.Ytigjghfonpfdlaa
open Go.RowKit
set_option linter.unusedVariables false
set_option linter.unusedSimpArgs false

/-- Do two catalogs have one schema, that may be? -/
def sameCat (a b : SC) : Bool := decide (schErr a = 0) && decide (schErr b = 0) && sameS a b
theorem schPut_inj {a b : SC} (h1 : schErr a = 0) (h2 : schErr b = 0) (h : schPut a = schPut b) : a = b := by
  have e1 := psch_put h1 []
  have e2 := psch_put h2 []
  rw [h, e2] at e1
  injection e1 with e1
  injection e1 with e1 _
  exact e1.symm
set_option maxRecDepth 100000 in
set_option maxHeartbeats 2000000 in
theorem catsameS_any (s t : Ct) (w : World) (hs : s.rd w) (ht : t.rd w) (hm : SmS s.sc) (hn : SmS t.sc) :
    Calls Try.prog 32 #[.agg s.cs, .agg t.cs] w fun e w' => e = .returned (.bool (sameCat s.sc.con t.sc.con)) ∧ Bel w w' := by
  have HC1 := Lib.hid (fun w' (hb : Bel w w') => schput_any s.sc w' (hs.sc.mono hb) hm.1 hm.2.1 hm.2.2)
  have HC2 := Lib.hid (fun w' (hb : Bel w w') => schput_any t.sc w' (ht.sc.mono hb) hn.1 hn.2.1 hn.2.2)
  have H := Lib.hid (((SL.start No w).alloc s.cs 40).alloc t.cs 40)
  (try simp only [List.set_cons_zero, List.set_cons_succ, List.cons_append, List.nil_append, List.eraseIdx_cons_zero, List.eraseIdx_cons_succ, List.setIfInBounds_toArray, World.size_alloc, selR, List.getD_cons_zero, List.getD_cons_succ] at H)
  generalize s.sc.con = a at *
  generalize t.sc.con = b at *
  obtain ⟨⟨⟨A, n, c, ds⟩, ⟨MA, mn, mc, ms⟩⟩, fa, p0, q0, p1, q1, p2, q2⟩ := s
  obtain ⟨⟨⟨B, m, d, es⟩, ⟨MB, mm, md, mt⟩⟩, fb, a0, b0, a1, b1, a2, b2⟩ := t
  simp only [Ct.cs, Sch.cs] at *
  clear hs ht hm hn
  go_enter Try.func32, Try.ntmps32
  go_upto_region 1 with fail
  generalize w.heap.size + 1 = y at *
  generalize w.heap.size = x at *
  generalize World.alloc (World.alloc _ _) _ = w1 at *
  go_wp2_with ((with_reducible show wpList _ _ _ (⟨some 11, _, _, _, _, _⟩ :: _) _ _); (refine wpList_load_row_at rfl rowSch (.tmp 10) rfl x (0) rfl #[.slice A n c, .slice MA mn mc] rfl ((H.out.blk 0 rfl).part 0 _ rfl) ?_))
  refine (HC1.out _ H.out.to).mono ?_; rintro e w2 ⟨rfl, hb2⟩
  replace H := Lib.hid (H.out.bel hb2); (try simp only [List.set_cons_zero, List.set_cons_succ, List.cons_append, List.nil_append, List.eraseIdx_cons_zero, List.eraseIdx_cons_succ, List.setIfInBounds_toArray, World.size_alloc, selR, List.getD_cons_zero, List.getD_cons_succ] at H)
  clear hb2 HC1
  go_wp2_with ((with_reducible show wpList _ _ _ (⟨some 17, _, _, _, _, _⟩ :: _) _ _); (refine wpList_load_row_at rfl rowSch (.tmp 16) rfl y (0) rfl #[.slice B m d, .slice MB mm md] rfl ((H.out.blk 1 rfl).part 0 _ rfl) ?_))
  refine (HC2.out _ H.out.to).mono ?_; rintro e w3 ⟨rfl, hb3⟩
  replace H := Lib.hid (H.out.bel hb3); (try simp only [List.set_cons_zero, List.set_cons_succ, List.cons_append, List.nil_append, List.eraseIdx_cons_zero, List.eraseIdx_cons_succ, List.setIfInBounds_toArray, World.size_alloc, selR, List.getD_cons_zero, List.getD_cons_succ] at H)
  clear hb3 HC2
  by_cases h1 : schErr a = 0
  · by_cases h2 : schErr b = 0
    · have ha : schPutV a = (schPut a, 0) := by unfold schPutV; rw [if_pos h1]
      have hb : schPutV b = (schPut b, 0) := by unfold schPutV; rw [if_pos h2]
      rw [ha, hb]
      by_cases h3 : a = b
      · have HV : Hid (sameCat a b = true) := by show _ = _; unfold sameCat; rw [h1, h2, (sameS_iff a b).2 h3]; rfl
        rw [h3]
        clear h1 h2 h3 ha hb
        generalize schPut b = ys at *
        have e1 : (ys == ys) = true := by simp
        go_wp2_with fail
        go_ret
        rw [HV.out]
        exact ⟨rfl, H.out.to⟩
      · have h4 : ¬ schPut a = schPut b := fun h => h3 (schPut_inj h1 h2 h)
        have HV : Hid (sameCat a b = false) := by show _ = _; unfold sameCat; rw [show sameS a b = false from by rw [Bool.eq_false_iff]; exact fun h => h3 ((sameS_iff a b).1 h)]; simp
        clear h1 h2 h3 ha hb
        generalize schPut a = xs at *
        generalize schPut b = ys at *
        have e1 : (xs == ys) = false := by rw [beq_eq_false_iff_ne]; exact h4
        go_wp2_with fail
        go_ret
        rw [HV.out]
        exact ⟨rfl, H.out.to⟩
    · have HV : Hid (sameCat a b = false) := by show _ = _; unfold sameCat; rw [decide_eq_false h2]; simp
      have ha : schPutV a = (schPut a, 0) := by unfold schPutV; rw [if_pos h1]
      have hb : schPutV b = ([], schErr b) := by unfold schPutV; rw [if_neg h2]
      rw [ha, hb]
      have e1 : (schErr b == 0) = false := by simpa using h2
      clear h1 h2 ha hb
      generalize schErr b = eb at *
      go_wp2_with fail
      go_ret
      rw [HV.out]
      exact ⟨rfl, H.out.to⟩
  · have HV : Hid (sameCat a b = false) := by show _ = _; unfold sameCat; rw [decide_eq_false h1]; simp
    have ha : schPutV a = ([], schErr a) := by unfold schPutV; rw [if_neg h1]
    rw [ha]
    have e1 : (schErr a == 0) = false := by simpa using h1
    clear h1 ha
    generalize schErr a = ea at *
    go_wp2_with fail
    go_ret
    rw [HV.out]
    exact ⟨rfl, H.out.to⟩

theorem E_i64s : ElemInfo Try.prog 41 64 1 24 := ElemInfo.mk' (z := .slice none 0 0) Try.underlying41 (by kernel_rfl) rfl (by omega)
theorem flat_rows (l : List (Row Int)) : l.flatMap Cel.cells = l.map Row.v := by
  induction l with
  | nil => rfl
  | cons a l ih => rw [List.flatMap_cons, List.map_cons, ih]; rfl
/-- A part of a row. -/
def Row.cut {α : Type} [Cel α] (x : Row α) (j k : Nat) : Row α := ⟨if x.c = j then x.A else x.A.map (·.add (j * 1)), k - j, x.c - j, (x.l.drop j).take (k - j)⟩
theorem addr_blk (a : Addr) (m : Nat) : (a.add m).block = a.block := by unfold Addr.add; split <;> rfl
theorem addr_add2 (a : Addr) (m n : Nat) : (a.add m).add n = a.add (m + n) := by
  unfold Addr.add
  by_cases h1 : m = 0
  · subst h1; simp
  · by_cases h2 : n = 0
    · subst h2; simp
    · rw [if_neg h1, if_neg h2, if_neg (by omega)]
      simp [Nat.add_assoc]
theorem cut_rd {w : World} {x : Row (Row Int)} (h : x.rd w) (hc : x.n ≤ x.c) {j k : Nat} (hj : j ≤ k) (hk : k ≤ x.n) : (x.cut j k).rd w := by
  have hl := h.len
  refine ⟨⟨?_, fun hpos => ?_⟩, fun y hy => h.all y (List.mem_of_mem_drop (List.mem_of_mem_take hy)), by have := h.n63; show k - j ≤ _; omega⟩
  · rw [flat_rows, List.length_map]
    show ((x.l.drop j).take (k - j)).length = (k - j) * 1
    rw [List.length_take, List.length_drop]
    omega
  · have hp : 0 < k - j := hpos
    obtain ⟨ad, e, h1, h2⟩ := h.r.2 (by omega)
    refine ⟨ad.add (j * 1), ?_, (show (ad.add (j * 1)).block < _ by rw [addr_blk]; exact h1), fun i u hu => ?_⟩
    · show (if x.c = j then x.A else x.A.map (·.add (j * 1))) = _
      rw [if_neg (by omega), e]
      rfl
    · rw [flat_rows] at hu
      have hu' : ((x.l.drop j).take (k - j)).map Row.v = ((x.l.map Row.v).drop j).take (k - j) := by rw [List.map_take, List.map_drop]
      have hu2 : (((x.l.map Row.v).drop j).take (k - j))[i]? = some u := by rw [← hu']; exact hu
      rw [List.getElem?_take] at hu2
      split at hu2
      · rw [List.getElem?_drop] at hu2
        have := h2 (j + i) u (by rw [flat_rows]; exact hu2)
        rw [← this]
        rw [addr_add2, Nat.mul_one]
      · cases hu2

theorem yields_slice {P : Program} {ops : Array Oper} {S : World → Prop} {op : Oper} {a : Act} {t : TypeId} (hw : Region.wanted op (yielded ops a.tmps) = true) (x : Operand) (lo hi : Option Operand) (ho : op.op = .slice t x lo hi none) {v : Value}
    (hr : ∀ w, (Instr.sliceAt t (a.eval x) (lo.map a.eval) (hi.map a.eval) none).run P w = .ok v w) : YieldsIf P ops S op v a :=
  Or.inl ⟨hw, fun w _ => by unfold execOp; simp only [ho, Option.map_none, Sem.run_bind, hr, Result.andThen_ok, Sem.run_pure]⟩
theorem u_rows : Try.prog.underlying 41 = some (.slice (Try.prog.elem 41)) := by kernel_rfl
theorem slice_from (x : Row (Row Int)) (j : Nat) (hj : j ≤ x.n) (w : World) : (Instr.sliceAt 41 (.slice x.A x.n x.c) (some (.int .i64 j)) none none).run Try.prog w = .ok (.slice (x.cut j x.n).A (x.cut j x.n).n (x.cut j x.n).c) w := by
  have hz : ∀ w, (sizeOf (Try.prog.elem 41)).run Try.prog w = .ok 1 w := fun _ => by kernel_rfl
  rw [run_sliceAt_slice (h := u_rows), run_slice_l (ht := u_rows) (h0 := by omega) (h1 := by omega), hz]
  simp [sliced, Row.cut]
theorem slice_upto (x : Row (Row Int)) (j : Nat) (hj : j ≤ x.c) (w : World) : (Instr.sliceAt 41 (.slice x.A x.n x.c) none (some (.int .i64 j)) none).run Try.prog w = .ok (.slice (x.cut 0 j).A (x.cut 0 j).n (x.cut 0 j).c) w := by
  have hz : ∀ w, (sizeOf (Try.prog.elem 41)).run Try.prog w = .ok 1 w := fun _ => by kernel_rfl
  rw [run_sliceAt_slice (h := u_rows), run_slice_h (ht := u_rows) (h0 := by omega) (h2 := by omega), hz]
  simp [sliced, Row.cut]

end Go.Proofs.Ytigjghfonpfdlaa
