/- The laws on merging: the example. -/
import Derived.Test.YtnekknemjhlgdaaKmS
namespace Go.Proofs.Ytnekknemjhlgdaa
open Go.RowKit
set_option linter.unusedVariables false
set_option linter.unusedSimpArgs false


theorem zero_i64 : I64 0 := by unfold I64; omega
theorem zero_agK : Ag.zero.ok := ⟨zero_i64, ⟨zero_i64, zero_i64, zero_i64⟩, ⟨zero_i64, zero_i64, zero_i64⟩, ⟨zero_i64, zero_i64, zero_i64⟩⟩
set_option maxRecDepth 100000 in
set_option maxHeartbeats 1000000 in
theorem one_any (k : Int) (w : World) (hk : I64 k) : Calls Try.prog 112 #[.int .i64 k] w fun e w' => ∃ f : Fct, e = .returned (.agg f.cs) ∧ f.con = ([k], Ag.zero) ∧ f.ok w' ∧ Bel w w' := by
  have H := Lib.hid (((SL.start No w).alloc #[.slice none 0 0, .int .i64 0, .int .i64 0, .int .i64 0, .int .i64 0, .int .i64 0, .int .i64 0, .int .i64 0, .int .i64 0, .int .i64 0, .int .i64 0] 174).alloc #[.int .i64 k] 3)
  (try simp only [List.set_cons_zero, List.set_cons_succ, List.cons_append, List.nil_append, List.eraseIdx_cons_zero, List.eraseIdx_cons_succ, List.setIfInBounds_toArray, World.size_alloc, selR, List.getD_cons_zero, List.getD_cons_succ] at H)
  go_enter Try.func112, Try.ntmps112
  have hbd : ∀ (g : Nat) (w : World), (Instr.build 174 #[(0, .slice (some ⟨g, 0, none⟩) 1 1)]).run Try.prog w = .ok (.agg #[.slice (some ⟨g, 0, none⟩) 1 1, .int .i64 0, .int .i64 0, .int .i64 0, .int .i64 0, .int .i64 0, .int .i64 0, .int .i64 0, .int .i64 0, .int .i64 0, .int .i64 0]) w := fun _ _ => by kernel_rfl
  have hbs : ∀ (w : World), (Instr.buildSlice 58 1 #[(0, .int .i64 k)]).run Try.prog w = .ok (.slice (some ⟨w.heap.size, 0, none⟩) 1 1) (w.alloc (.cells #[.int .i64 k] 3)) := fun _ => by kernel_rfl
  go_wp2_with ((with_reducible show wpList _ _ _ (⟨_, .store _ (.tmp 2) _, _, _, _, _⟩ :: _) _ _); (refine wpList_store_blk rfl rowFct (.tmp 2) (.tmp 5) rfl _ rfl (H.out.blk 0 rfl) rfl (#[.slice (some ⟨w.heap.size + 1, 0, none⟩) 1 1, .int .i64 0, .int .i64 0, .int .i64 0, .int .i64 0, .int .i64 0, .int .i64 0, .int .i64 0, .int .i64 0, .int .i64 0, .int .i64 0]) rfl rfl (by simp [Value.oneCell']) ?_; intro wq bq hgq; replace H := Lib.hid (H.out.setBlk 0 rfl hgq bq); (try simp only [List.set_cons_zero, List.set_cons_succ, List.cons_append, List.nil_append, List.eraseIdx_cons_zero, List.eraseIdx_cons_succ, List.setIfInBounds_toArray, World.size_alloc, selR, List.getD_cons_zero, List.getD_cons_succ] at H); clear hgq bq))
  refine bodyPost_ret (results_blk1 rfl rowFct rfl (H.out.blk 0 rfl) rfl) rfl ?_
  refine ⟨⟨⟨some ⟨w.heap.size + 1, 0, none⟩, 1, 1, [k]⟩, .zero⟩, rfl, rfl, ⟨⟨reads_of_block (H.out.blk 1 rfl) rfl, fun z hz => by rw [List.mem_singleton.1 hz]; exact hk, Nat.le_refl _, by show (1 : Nat) ≤ maxLen; unfold maxLen; omega, by show 1 * 8 ≤ _; omega⟩, zero_agK⟩, H.out.to⟩
theorem row_of_blk {w : World} {g : Nat} {f : Fct} (hb : Blk w g 174 f.cs) (hf : f.ok w) : Row.ok w (⟨some ⟨g, 0, none⟩, 1, 1, [f]⟩ : Row Fct) :=
  ⟨by show Rd w 11 _ 1 (f.cs.toList ++ []); rw [List.append_nil]; exact reads_of_block hb (fct_size f), fun z hz => by rw [List.mem_singleton.1 hz]; exact hf, Nat.le_refl _, by show (1 : Nat) ≤ maxLen; unfold maxLen; omega, by show 1 * 104 ≤ _; omega⟩

set_option maxRecDepth 100000 in
theorem run_five (g0 g1 g2 g3 g4 : Nat) (w : World) :
    (Instr.buildSlice 94 5 #[(0, .slice (some ⟨g0, 0, none⟩) 1 1), (1, .slice (some ⟨g1, 0, none⟩) 1 1), (2, .slice (some ⟨g2, 0, none⟩) 1 1), (3, .slice (some ⟨g3, 0, none⟩) 1 1), (4, .slice (some ⟨g4, 0, none⟩) 1 1)]).run Try.prog w = .ok (.slice (some ⟨w.heap.size, 0, none⟩) 5 5) (w.alloc (.cells #[.slice (some ⟨g0, 0, none⟩) 1 1, .slice (some ⟨g1, 0, none⟩) 1 1, .slice (some ⟨g2, 0, none⟩) 1 1, .slice (some ⟨g3, 0, none⟩) 1 1, .slice (some ⟨g4, 0, none⟩) 1 1] 75)) := by kernel_rfl
theorem wpList_five {ops : Array Oper} {rest : List Oper} {o : Oper} {x : Act} {w : World} {Q : Exit → Act → World → Prop} (hgd : o.guard = none) (t0 t1 t2 t3 t4 : Operand) (ho : o.op = .buildSlice 94 5 #[(0, t0), (1, t1), (2, t2), (3, t3), (4, t4)]) {g0 g1 g2 g3 g4 : Nat}
    (h0 : x.eval t0 = .slice (some ⟨g0, 0, none⟩) 1 1) (h1 : x.eval t1 = .slice (some ⟨g1, 0, none⟩) 1 1) (h2 : x.eval t2 = .slice (some ⟨g2, 0, none⟩) 1 1) (h3 : x.eval t3 = .slice (some ⟨g3, 0, none⟩) 1 1) (h4 : x.eval t4 = .slice (some ⟨g4, 0, none⟩) 1 1)
    (h : wpList Try.prog ops Q rest (x.put o.dst (.slice (some ⟨w.heap.size, 0, none⟩) 5 5)) (w.alloc (.cells #[.slice (some ⟨g0, 0, none⟩) 1 1, .slice (some ⟨g1, 0, none⟩) 1 1, .slice (some ⟨g2, 0, none⟩) 1 1, .slice (some ⟨g3, 0, none⟩) 1 1, .slice (some ⟨g4, 0, none⟩) 1 1] 75))) : wpList Try.prog ops Q (o :: rest) x w := by
  refine wpList_plain hgd fun K hK => ?_
  unfold Oper.wp execOp
  have hr := run_five g0 g1 g2 g3 g4 w
  simp only [ho, List.map_toArray, List.map_cons, List.map_nil, h0, h1, h2, h3, h4, Sem.run_bind, hr, Result.andThen_ok, Sem.run_pure]
  exact hK _ _ h
theorem srt_one (c : Con) : Srt [c] := fun i j a b hij ha hb => by
  have h1 := (List.getElem?_eq_some_iff.1 ha).1
  have h2 := (List.getElem?_eq_some_iff.1 hb).1
  simp at h1 h2
  omega
set_option maxRecDepth 100000 in
set_option maxHeartbeats 2000000 in
theorem awake22_any (w : World) : Calls Try.prog 50 #[] w fun e w' => e = .returned (.bool true) ∧ Bel w w' := by
  have HB0 : Hid (Bel w w) := Bel.refl w
  go_enter Try.func50, Try.ntmps50
  go_wp2_with fail
  refine (one_any 3 _ (by unfold I64; omega)).mono ?_; rintro e a0 ⟨f0, rfl, hc0, hf0, hb0⟩
  have HF0 : Hid (Row.ok (a0.alloc (.cells f0.cs 174)) (⟨some ⟨a0.heap.size, 0, none⟩, 1, 1, [f0]⟩ : Row Fct)) := row_of_blk (Blk.new a0 174 f0.cs) ⟨hf0.ks.mono ((Bel.refl a0).alloc _), hf0.ag⟩
  have HC0 : Hid (cons [f0] = [([(3 : Int)], Ag.zero)]) := by show [f0.con] = _; rw [hc0]
  have HB1 : Hid (Bel w (a0.alloc (.cells f0.cs 174))) := (HB0.out.trans hb0).alloc _
  clear hc0 hf0 hb0
  go_wp2_with ((with_reducible show wpList _ _ _ (⟨some 6, _, _, _, _, _⟩ :: _) _ _); refine wpList_buildSlice1 rfl E_fct (.tmp 5) rfl (f0.cs) rfl (fct_size f0) (by omega) ?_)
  generalize a0.alloc (.cells f0.cs 174) = w0 at *
  generalize a0.heap.size = g0 at *
  refine (one_any 1 _ (by unfold I64; omega)).mono ?_; rintro e a1 ⟨f1, rfl, hc1, hf1, hb1⟩
  have HF1 : Hid (Row.ok (a1.alloc (.cells f1.cs 174)) (⟨some ⟨a1.heap.size, 0, none⟩, 1, 1, [f1]⟩ : Row Fct)) := row_of_blk (Blk.new a1 174 f1.cs) ⟨hf1.ks.mono ((Bel.refl a1).alloc _), hf1.ag⟩
  have HC1 : Hid (cons [f1] = [([(1 : Int)], Ag.zero)]) := by show [f1.con] = _; rw [hc1]
  have HB2 : Hid (Bel w (a1.alloc (.cells f1.cs 174))) := (HB1.out.trans hb1).alloc _
  have HL1 : Hid (Bel w0 (a1.alloc (.cells f1.cs 174))) := hb1.alloc _
  clear hc1 hf1 hb1
  go_wp2_with ((with_reducible show wpList _ _ _ (⟨some 8, _, _, _, _, _⟩ :: _) _ _); refine wpList_buildSlice1 rfl E_fct (.tmp 7) rfl (f1.cs) rfl (fct_size f1) (by omega) ?_)
  generalize a1.alloc (.cells f1.cs 174) = w1 at *
  generalize a1.heap.size = g1 at *
  refine (one_any 2 _ (by unfold I64; omega)).mono ?_; rintro e a2 ⟨f2, rfl, hc2, hf2, hb2⟩
  have HF2 : Hid (Row.ok (a2.alloc (.cells f2.cs 174)) (⟨some ⟨a2.heap.size, 0, none⟩, 1, 1, [f2]⟩ : Row Fct)) := row_of_blk (Blk.new a2 174 f2.cs) ⟨hf2.ks.mono ((Bel.refl a2).alloc _), hf2.ag⟩
  have HC2 : Hid (cons [f2] = [([(2 : Int)], Ag.zero)]) := by show [f2.con] = _; rw [hc2]
  have HB3 : Hid (Bel w (a2.alloc (.cells f2.cs 174))) := (HB2.out.trans hb2).alloc _
  have HL2 : Hid (Bel w1 (a2.alloc (.cells f2.cs 174))) := hb2.alloc _
  clear hc2 hf2 hb2
  go_wp2_with ((with_reducible show wpList _ _ _ (⟨some 10, _, _, _, _, _⟩ :: _) _ _); refine wpList_buildSlice1 rfl E_fct (.tmp 9) rfl (f2.cs) rfl (fct_size f2) (by omega) ?_)
  generalize a2.alloc (.cells f2.cs 174) = w2 at *
  generalize a2.heap.size = g2 at *
  refine (one_any 5 _ (by unfold I64; omega)).mono ?_; rintro e a3 ⟨f3, rfl, hc3, hf3, hb3⟩
  have HF3 : Hid (Row.ok (a3.alloc (.cells f3.cs 174)) (⟨some ⟨a3.heap.size, 0, none⟩, 1, 1, [f3]⟩ : Row Fct)) := row_of_blk (Blk.new a3 174 f3.cs) ⟨hf3.ks.mono ((Bel.refl a3).alloc _), hf3.ag⟩
  have HC3 : Hid (cons [f3] = [([(5 : Int)], Ag.zero)]) := by show [f3.con] = _; rw [hc3]
  have HB4 : Hid (Bel w (a3.alloc (.cells f3.cs 174))) := (HB3.out.trans hb3).alloc _
  have HL3 : Hid (Bel w2 (a3.alloc (.cells f3.cs 174))) := hb3.alloc _
  clear hc3 hf3 hb3
  go_wp2_with ((with_reducible show wpList _ _ _ (⟨some 12, _, _, _, _, _⟩ :: _) _ _); refine wpList_buildSlice1 rfl E_fct (.tmp 11) rfl (f3.cs) rfl (fct_size f3) (by omega) ?_)
  generalize a3.alloc (.cells f3.cs 174) = w3 at *
  generalize a3.heap.size = g3 at *
  refine (one_any 4 _ (by unfold I64; omega)).mono ?_; rintro e a4 ⟨f4, rfl, hc4, hf4, hb4⟩
  have HF4 : Hid (Row.ok (a4.alloc (.cells f4.cs 174)) (⟨some ⟨a4.heap.size, 0, none⟩, 1, 1, [f4]⟩ : Row Fct)) := row_of_blk (Blk.new a4 174 f4.cs) ⟨hf4.ks.mono ((Bel.refl a4).alloc _), hf4.ag⟩
  have HC4 : Hid (cons [f4] = [([(4 : Int)], Ag.zero)]) := by show [f4.con] = _; rw [hc4]
  have HB5 : Hid (Bel w (a4.alloc (.cells f4.cs 174))) := (HB4.out.trans hb4).alloc _
  have HL4 : Hid (Bel w3 (a4.alloc (.cells f4.cs 174))) := hb4.alloc _
  clear hc4 hf4 hb4
  have HG4 : Hid (Row.ok (a4.alloc (.cells f4.cs 174)) (⟨some ⟨a4.heap.size, 0, none⟩, 1, 1, [f4]⟩ : Row Fct)) := HF4
  obtain ⟨w4, hw4⟩ : ∃ w4, w4 = a4.alloc (.cells f4.cs 174) := ⟨_, rfl⟩
  obtain ⟨g4, hg4⟩ : ∃ g4, g4 = a4.heap.size := ⟨_, rfl⟩
  rw [← hw4, ← hg4] at HF4
  rw [← hw4] at HB5 HL4
  have k3 : Bel w3 w4 := HL4.out
  have k2 : Bel w2 w4 := HL3.out.trans k3
  have k1 : Bel w1 w4 := HL2.out.trans k2
  have k0 : Bel w0 w4 := HL1.out.trans k1
  have HGR : Hid (GoodR (w4.alloc (.cells #[.slice (some ⟨g0, 0, none⟩) 1 1, .slice (some ⟨g1, 0, none⟩) 1 1, .slice (some ⟨g2, 0, none⟩) 1 1, .slice (some ⟨g3, 0, none⟩) 1 1, .slice (some ⟨g4, 0, none⟩) 1 1] 75)) ⟨some ⟨w4.heap.size, 0, none⟩, 5, 5, [⟨some ⟨g0, 0, none⟩, 1, 1, [f0]⟩, ⟨some ⟨g1, 0, none⟩, 1, 1, [f1]⟩, ⟨some ⟨g2, 0, none⟩, 1, 1, [f2]⟩, ⟨some ⟨g3, 0, none⟩, 1, 1, [f3]⟩, ⟨some ⟨g4, 0, none⟩, 1, 1, [f4]⟩]⟩) := by
    have hb : Bel w4 (w4.alloc (.cells #[.slice (some ⟨g0, 0, none⟩) 1 1, .slice (some ⟨g1, 0, none⟩) 1 1, .slice (some ⟨g2, 0, none⟩) 1 1, .slice (some ⟨g3, 0, none⟩) 1 1, .slice (some ⟨g4, 0, none⟩) 1 1] 75)) := (Bel.refl w4).alloc _
    refine ⟨⟨reads_of_block (Blk.new w4 75 _) rfl, fun r hr => ?_, Nat.le_refl _, by show (5 : Nat) ≤ maxLen; unfold maxLen; omega, by show 5 * 24 ≤ _; omega⟩, by show 5 ≤ 1000; omega, fun r hr => ?_, ?_⟩
    · simp only [List.mem_cons, List.mem_nil_iff, or_false] at hr
      rcases hr with rfl | rfl | rfl | rfl | rfl
      · exact HF0.out.mono (k0.trans hb)
      · exact HF1.out.mono (k1.trans hb)
      · exact HF2.out.mono (k2.trans hb)
      · exact HF3.out.mono (k3.trans hb)
      · exact HF4.out.mono hb
    · have hr : r ∈ [cons [f0], cons [f1], cons [f2], cons [f3], cons [f4]] := hr
      simp only [List.mem_cons, List.mem_nil_iff, or_false] at hr
      rcases hr with rfl | rfl | rfl | rfl | rfl <;> exact srt_one _
    · show ([cons [f0], cons [f1], cons [f2], cons [f3], cons [f4]] : List (List Con)).flatten.length ≤ 1000
      simp [cons]
  have HPS := Lib.hid (passes_any 2 _ _ HGR.out (by omega) (by omega))
  have HL5 : Hid ((runsC [(⟨some ⟨g0, 0, none⟩, 1, 1, [f0]⟩ : Row Fct), ⟨some ⟨g1, 0, none⟩, 1, 1, [f1]⟩, ⟨some ⟨g2, 0, none⟩, 1, 1, [f2]⟩, ⟨some ⟨g3, 0, none⟩, 1, 1, [f3]⟩, ⟨some ⟨g4, 0, none⟩, 1, 1, [f4]⟩]).flatten.length = 5) := by
    show ([cons [f0], cons [f1], cons [f2], cons [f3], cons [f4]] : List (List Con)).flatten.length = 5
    simp [cons]
  clear HGR
  subst hw4 hg4
  simp only [World.size_alloc] at HPS
  go_wp2_with (first | ((with_reducible show wpList _ _ _ (⟨some 14, _, _, _, _, _⟩ :: _) _ _); refine wpList_buildSlice1 rfl E_fct (.tmp 13) rfl (f4.cs) rfl (fct_size f4) (by omega) ?_) | ((with_reducible show wpList _ _ _ (⟨some 15, _, _, _, _, _⟩ :: _) _ _); refine wpList_five rfl (.tmp 6) (.tmp 8) (.tmp 10) (.tmp 12) (.tmp 14) rfl rfl rfl rfl rfl rfl ?_))
  refine HPS.out.mono ?_; rintro e w6 ⟨v, fs, rfl, hG, hc⟩
  have hfl : fs.length = 5 := by have h := congrArg List.length hc; rw [cons_len, sortC_len, HL5.out] at h; exact h
  have HBE : Hid (Bel w w6) := (HB5.out.alloc _).trans hG.bel
  obtain ⟨X, rfl, hXl, hXn, hXok, _⟩ := hG.run (by omega)
  have HSD : Hid (sortedF X.l = true) := srt_chain (by rw [hXl, hc]; exact srt_sort _)
  have hx5 : X.n = 5 := by rw [hXn]; exact hfl
  have HS := Lib.hid (fun w' (hb : Bel w6 w') => sorted_any X w' (hXok.mono hb) (by omega))
  rw [HSD.out] at HS
  clear hG hc hfl hXl hXn hXok HPS HSD
  obtain ⟨XA, xn, xc, xl⟩ := X
  simp only [Row.v] at *
  subst hx5
  rw [show passN 2 5 = 3 from by decide]
  go_wp2_with fail
  refine (HS.out _ (Bel.refl _)).mono ?_; rintro e w7 ⟨rfl, hb7⟩
  go_wp2
  go_ret
  exact ⟨rfl, HBE.out.trans hb7⟩

end Go.Proofs.Ytnekknemjhlgdaa
