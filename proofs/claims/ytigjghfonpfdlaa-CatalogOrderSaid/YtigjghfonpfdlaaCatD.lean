/- The document's Wrong and Same of catalogs. -/
import Derived.Test.YtigjghfonpfdlaaCatC
import Derived.Test.YtigjghfonpfdlaaSchZ
namespace Go.Proofs.Ytigjghfonpfdlaa
open Go.RowKit
set_option linter.unusedVariables false
set_option linter.unusedSimpArgs false


theorem wpList_load_partG {P : Program} {ops : Array Oper} {rest : List Oper} {op : Oper} {a : Act} {w : World} {Q : Exit → Act → World → Prop} (hw : Region.wanted op (yielded ops a.tmps) = true) {ty : TypeId} {n : Nat} (R : RowTy P ty n) (x : Operand) (ho : op.op = .load ty x)
    (b o : Nat) (hx : a.eval x = .pointer (some ⟨b, o, none⟩)) (cs : Array Value) (hn : cs.size = n) (hc : w.rangeAt b o cs.toList)
    (h : wpList P ops Q rest (a.put op.dst (.agg cs)) w) : wpList P ops Q (op :: rest) a w := by
  obtain ⟨d, hu, hd⟩ := R.hu
  refine wpList_step fun K hK => ?_
  rw [if_pos hw]
  exact wp_load_mid ty x ho b o hx cs.toList d hc hu hd (by rw [R.hi]; simp [hn]) (hK _ _ (by simpa using h))
theorem sameS_iff (a b : SC) : sameS a b = true ↔ a = b := by
  obtain ⟨x, y⟩ := a
  obtain ⟨u, v⟩ := b
  unfold sameS
  simp
set_option maxRecDepth 100000 in
set_option maxHeartbeats 2000000 in
theorem catwrong_any (s : Ct) (w : World) (hs : s.rd w) (hm : SmS s.sc) :
    Calls Try.prog 30 #[.agg s.cs] w fun e w' => e = .returned (.int .i64 (catErr s.con)) ∧ Bel w w' := by
  have HC := Lib.hid (fun w' (hb : Bel w w') => schwrong_any s.sc w' (hs.sc.mono hb) hm.1 hm.2.1 (fun d hd => (hm.2.2 d hd).1))
  have hl2 : Hid (s.sc.ms.l.length = s.sc.ms.n) := hs.sc.ms.len
  have H := Lib.hid ((SL.start No w).alloc s.cs 40)
  (try simp only [List.set_cons_zero, List.set_cons_succ, List.cons_append, List.nil_append, List.eraseIdx_cons_zero, List.eraseIdx_cons_succ, List.setIfInBounds_toArray, World.size_alloc, selR, List.getD_cons_zero, List.getD_cons_succ] at H)
  have f1 := hs.fa
  unfold I64 at f1
  obtain ⟨⟨⟨A, n, c, ds⟩, ⟨MA, mn, mc, ms⟩⟩, fa, p0, q0, p1, q1, p2, q2⟩ := s
  simp only [Ct.cs, Sch.cs, Ct.con, Sch.con] at *
  obtain ⟨f1, f2⟩ := f1
  clear hs hm
  go_enter Try.func30, Try.ntmps30
  go_wp2_with ((with_reducible show wpList _ _ _ (⟨some 7, _, _, _, _, _⟩ :: _) _ _); (refine wpList_load_row_at rfl rowSch (.tmp 6) rfl w.heap.size (0) rfl #[.slice A n c, .slice MA mn mc] rfl ((H.out.blk 0 rfl).part 0 _ rfl) ?_))
  generalize w.heap.size = x at *
  generalize World.alloc _ _ = w1 at *
  refine (HC.out _ H.out.to).mono ?_; rintro e w2 ⟨rfl, hb2⟩
  replace H := Lib.hid (H.out.bel hb2); (try simp only [List.set_cons_zero, List.set_cons_succ, List.cons_append, List.nil_append, List.eraseIdx_cons_zero, List.eraseIdx_cons_succ, List.setIfInBounds_toArray, World.size_alloc, selR, List.getD_cons_zero, List.getD_cons_succ] at H)
  clear hb2 HC
  by_cases hE : schErr (⟨ds.map Dm.con, ms⟩ : SC) = 0
  · have hm1 : Hid (1 ≤ mn) := by have h : 1 ≤ ms.length := (schErr_zero hE).2.2.2.1; have h5 := hl2.out; show _ ≤ _; omega
    rw [hE]
    have c2 := (H.out.blk 0 rfl).cell 2; simp only [List.getElem?_toArray, List.getElem?_cons_zero, List.getElem?_cons_succ] at c2
    by_cases h1 : fa < 0
    · have HV : Hid (catErr ⟨⟨ds.map Dm.con, ms⟩, fa, p0, q0, p1, q1, p2, q2⟩ = 6) := catErr_fa hE (.inl h1)
      clear hE
      go_wp2_with fail
      go_ret
      rw [HV.out]
      exact ⟨rfl, H.out.to⟩
    · by_cases h2 : 4000 < fa
      · have HV : Hid (catErr ⟨⟨ds.map Dm.con, ms⟩, fa, p0, q0, p1, q1, p2, q2⟩ = 6) := catErr_fa hE (.inr h2)
        clear hE
        go_wp2_with fail
        go_ret
        rw [HV.out]
        exact ⟨rfl, H.out.to⟩
      · have HV : Hid (catErr ⟨⟨ds.map Dm.con, ms⟩, fa, p0, q0, p1, q1, p2, q2⟩ = catFrom ⟨⟨ds.map Dm.con, ms⟩, fa, p0, q0, p1, q1, p2, q2⟩ 0) := catErr_from hE (by rintro (h | h); exact h1 h; exact h2 h)
        clear hE
        go_wp2_with fail
        clear c2 h1 h2 f1 f2
        go_loopg [4] 3 (fun gg i wr => ∃ k : Nat, gg = 3 - k ∧ k ≤ 3 ∧ i = .int .i64 k ∧ Hid (SL No w wr [rBlk x 40 #[.slice A n c, .slice MA mn mc, .int .i64 fa, .int .i64 p0, .int .i64 q0, .int .i64 p1, .int .i64 q1, .int .i64 p2, .int .i64 q2]]) ∧ Hid (catErr ⟨⟨ds.map Dm.con, ms⟩, fa, p0, q0, p1, q1, p2, q2⟩ = catFrom ⟨⟨ds.map Dm.con, ms⟩, fa, p0, q0, p1, q1, p2, q2⟩ k))
        case atStart => exact ⟨0, rfl, by omega, rfl, H, HV⟩
        case round =>
          clear H HV
          obtain ⟨k, hgk, hk, rfl, H, HV⟩ := hrel
          obtain rfl | rfl | rfl | rfl : k = 0 ∨ k = 1 ∨ k = 2 ∨ k = 3 := by omega
          · rw [show ((0 : Nat) : Int) = 0 from rfl]
            go_upto_region 10 with (first | ((with_reducible show wpList _ _ _ (⟨some 27, _, _, _, _, _⟩ :: _) _ _); (refine wpList_load_row_at rfl rowTt (.tmp 26) rfl x (3) rfl #[.int .i64 p0, .int .i64 q0] rfl ((H.out.blk 0 rfl).part 3 _ rfl) ?_)) | ((with_reducible show wpList _ _ _ (⟨_, .store _ (.tmp 5) _, _, _, _, _⟩ :: _) _ _); (refine wpList_store_new rfl rowTt (.tmp 5) (.tmp 27) rfl rfl rfl (#[.int .i64 p0, .int .i64 q0]) rfl rfl (by simp [Value.oneCell']) ?_; replace H := Lib.hid (H.out.alloc (#[.int .i64 p0, .int .i64 q0]) 37); (try simp only [List.set_cons_zero, List.set_cons_succ, List.cons_append, List.nil_append, List.eraseIdx_cons_zero, List.eraseIdx_cons_succ, List.setIfInBounds_toArray, World.size_alloc, selR, List.getD_cons_zero, List.getD_cons_succ] at H))))
            (try simp only [Act.put, List.setIfInBounds_toArray, List.set_cons_zero, List.set_cons_succ])
            have cm0 := (H.out.blk 0 rfl).cell 1; simp only [List.getElem?_toArray, List.getElem?_cons_zero, List.getElem?_cons_succ] at cm0
            have ct0 := (H.out.blk 1 rfl).cell 0; simp only [List.getElem?_toArray, List.getElem?_cons_zero, List.getElem?_cons_succ] at ct0
            have ct1 := (H.out.blk 1 rfl).cell 1; simp only [List.getElem?_toArray, List.getElem?_cons_zero, List.getElem?_cons_succ] at ct1
            have e1 : decide (p0 < 0) = !decide (0 ≤ p0) := by by_cases h : p0 < 0 <;> simp [h] <;> omega
            clear e1
            by_cases h1 : p0 < 0
            · have HBD : Hid (badTot ms.length 0 p0 q0 = true) := badTot_may (by simp; omega)
              have HV2 : Hid (catErr ⟨⟨ds.map Dm.con, ms⟩, fa, p0, q0, p1, q1, p2, q2⟩ = 2) := by show _ = _; rw [HV.out]; show catT0 _ = 2; unfold catT0; rw [if_pos HBD.out]
              go_wp2_with fail
              go_ret
              rw [HV2.out]
              exact ⟨rfl, H.out.to⟩
            · by_cases h2 : 0 < q0
              · have HBD : Hid (badTot ms.length 0 p0 q0 = true) := badTot_may (by simp; omega)
                have HV2 : Hid (catErr ⟨⟨ds.map Dm.con, ms⟩, fa, p0, q0, p1, q1, p2, q2⟩ = 2) := by show _ = _; rw [HV.out]; show catT0 _ = 2; unfold catT0; rw [if_pos HBD.out]
                go_wp2_with fail
                go_ret
                rw [HV2.out]
                exact ⟨rfl, H.out.to⟩
              · have d1 : decide (p0 < 0) = false := by simp; omega
                have d2 : decide (0 < q0) = false := by simp; omega
                have hin : ¬ (mn : Int) ≤ 0 := by have := hm1.out; omega
                have hin2 : ¬ (ms.length : Int) ≤ 0 := by have := hl2.out; omega
                have HBD : Hid (badTot ms.length 0 p0 q0 = false) := badTot_in (by simp; omega) hin2
                clear hin2
                have HV2 : Hid (catErr ⟨⟨ds.map Dm.con, ms⟩, fa, p0, q0, p1, q1, p2, q2⟩ = catFrom ⟨⟨ds.map Dm.con, ms⟩, fa, p0, q0, p1, q1, p2, q2⟩ 1) := by show _ = _; rw [HV.out]; show catT0 _ = _; unfold catT0; rw [if_neg (by rw [HBD.out]; simp)]; rfl
                go_wp2_with fail
                go_roundg (3 - (0 + 1))
                case rel => exact ⟨1, rfl, by omega, rfl, Lib.hid (H.out.sel [0] (by decide) (by simp)), HV2⟩
                case measure => omega
          · rw [show ((1 : Nat) : Int) = 1 from rfl]
            go_upto_region 10 with (first | ((with_reducible show wpList _ _ _ (⟨some 27, _, _, _, _, _⟩ :: _) _ _); (refine wpList_load_row_at rfl rowTt (.tmp 26) rfl x (5) rfl #[.int .i64 p1, .int .i64 q1] rfl ((H.out.blk 0 rfl).part 5 _ rfl) ?_)) | ((with_reducible show wpList _ _ _ (⟨_, .store _ (.tmp 5) _, _, _, _, _⟩ :: _) _ _); (refine wpList_store_new rfl rowTt (.tmp 5) (.tmp 27) rfl rfl rfl (#[.int .i64 p1, .int .i64 q1]) rfl rfl (by simp [Value.oneCell']) ?_; replace H := Lib.hid (H.out.alloc (#[.int .i64 p1, .int .i64 q1]) 37); (try simp only [List.set_cons_zero, List.set_cons_succ, List.cons_append, List.nil_append, List.eraseIdx_cons_zero, List.eraseIdx_cons_succ, List.setIfInBounds_toArray, World.size_alloc, selR, List.getD_cons_zero, List.getD_cons_succ] at H))))
            (try simp only [Act.put, List.setIfInBounds_toArray, List.set_cons_zero, List.set_cons_succ])
            have cm0 := (H.out.blk 0 rfl).cell 1; simp only [List.getElem?_toArray, List.getElem?_cons_zero, List.getElem?_cons_succ] at cm0
            have ct0 := (H.out.blk 1 rfl).cell 0; simp only [List.getElem?_toArray, List.getElem?_cons_zero, List.getElem?_cons_succ] at ct0
            have ct1 := (H.out.blk 1 rfl).cell 1; simp only [List.getElem?_toArray, List.getElem?_cons_zero, List.getElem?_cons_succ] at ct1
            have e1 : decide (p1 < 0) = !decide (0 ≤ p1) := by by_cases h : p1 < 0 <;> simp [h] <;> omega
            clear e1
            by_cases h1 : p1 < 0
            · have HBD : Hid (badTot ms.length 1 p1 q1 = true) := badTot_may (by simp; omega)
              have HV2 : Hid (catErr ⟨⟨ds.map Dm.con, ms⟩, fa, p0, q0, p1, q1, p2, q2⟩ = 2) := by show _ = _; rw [HV.out]; show catT1 _ = 2; unfold catT1; rw [if_pos HBD.out]
              go_wp2_with fail
              go_ret
              rw [HV2.out]
              exact ⟨rfl, H.out.to⟩
            · by_cases h2 : 0 < q1
              · have HBD : Hid (badTot ms.length 1 p1 q1 = true) := badTot_may (by simp; omega)
                have HV2 : Hid (catErr ⟨⟨ds.map Dm.con, ms⟩, fa, p0, q0, p1, q1, p2, q2⟩ = 2) := by show _ = _; rw [HV.out]; show catT1 _ = 2; unfold catT1; rw [if_pos HBD.out]
                go_wp2_with fail
                go_ret
                rw [HV2.out]
                exact ⟨rfl, H.out.to⟩
              · have d1 : decide (p1 < 0) = false := by simp; omega
                have d2 : decide (0 < q1) = false := by simp; omega
                by_cases hin : (mn : Int) ≤ 1
                · have d1 : decide ((mn : Int) ≤ 1) = true := by simp [hin]
                  have hin2 : (ms.length : Int) ≤ 1 := by have := hl2.out; omega
                  by_cases h3 : p1 = 0
                  · by_cases h4 : q1 = 0
                    · have HBD : Hid (badTot ms.length 1 p1 q1 = false) := badTot_out (by simp; omega) hin2 (by simp [h3, h4])
                      clear hin2
                      have b3 : (p1 != 0) = false := by simp [h3]
                      have b4 : (q1 != 0) = false := by simp [h4]
                      clear h1 h2 h3 h4
                      have HV2 : Hid (catErr ⟨⟨ds.map Dm.con, ms⟩, fa, p0, q0, p1, q1, p2, q2⟩ = catFrom ⟨⟨ds.map Dm.con, ms⟩, fa, p0, q0, p1, q1, p2, q2⟩ 2) := by show _ = _; rw [HV.out]; show catT1 _ = _; unfold catT1; rw [if_neg (by rw [HBD.out]; simp)]; rfl
                      go_wp2_with fail
                      go_roundg (3 - (1 + 1))
                      case rel => exact ⟨2, rfl, by omega, rfl, Lib.hid (H.out.sel [0] (by decide) (by simp)), HV2⟩
                      case measure => omega
                    · have HBD : Hid (badTot ms.length 1 p1 q1 = true) := badTot_out (by simp; omega) hin2 (by simp [h3, h4])
                      clear hin2
                      have b3 : (p1 != 0) = false := by simp [h3]
                      have b4 : (q1 != 0) = true := by simp [h4]
                      clear h1 h2 h3 h4
                      have HV2 : Hid (catErr ⟨⟨ds.map Dm.con, ms⟩, fa, p0, q0, p1, q1, p2, q2⟩ = 2) := by show _ = _; rw [HV.out]; show catT1 _ = 2; unfold catT1; rw [if_pos HBD.out]
                      go_wp2_with fail
                      go_ret
                      rw [HV2.out]
                      exact ⟨rfl, H.out.to⟩
                  · have HBD : Hid (badTot ms.length 1 p1 q1 = true) := badTot_out (by simp; omega) hin2 (by simp [h3])
                    clear hin2
                    have b3 : (p1 != 0) = true := by simp [h3]
                    clear h1 h2 h3
                    have HV2 : Hid (catErr ⟨⟨ds.map Dm.con, ms⟩, fa, p0, q0, p1, q1, p2, q2⟩ = 2) := by show _ = _; rw [HV.out]; show catT1 _ = 2; unfold catT1; rw [if_pos HBD.out]
                    go_wp2_with fail
                    go_ret
                    rw [HV2.out]
                    exact ⟨rfl, H.out.to⟩
                · have hin2 : ¬ (ms.length : Int) ≤ 1 := by have := hl2.out; omega
                  have HBD : Hid (badTot ms.length 1 p1 q1 = false) := badTot_in (by simp; omega) hin2
                  clear hin2
                  have HV2 : Hid (catErr ⟨⟨ds.map Dm.con, ms⟩, fa, p0, q0, p1, q1, p2, q2⟩ = catFrom ⟨⟨ds.map Dm.con, ms⟩, fa, p0, q0, p1, q1, p2, q2⟩ 2) := by show _ = _; rw [HV.out]; show catT1 _ = _; unfold catT1; rw [if_neg (by rw [HBD.out]; simp)]; rfl
                  go_wp2_with fail
                  go_roundg (3 - (1 + 1))
                  case rel => exact ⟨2, rfl, by omega, rfl, Lib.hid (H.out.sel [0] (by decide) (by simp)), HV2⟩
                  case measure => omega
          · rw [show ((2 : Nat) : Int) = 2 from rfl]
            go_upto_region 10 with (first | ((with_reducible show wpList _ _ _ (⟨some 27, _, _, _, _, _⟩ :: _) _ _); (refine wpList_load_row_at rfl rowTt (.tmp 26) rfl x (7) rfl #[.int .i64 p2, .int .i64 q2] rfl ((H.out.blk 0 rfl).part 7 _ rfl) ?_)) | ((with_reducible show wpList _ _ _ (⟨_, .store _ (.tmp 5) _, _, _, _, _⟩ :: _) _ _); (refine wpList_store_new rfl rowTt (.tmp 5) (.tmp 27) rfl rfl rfl (#[.int .i64 p2, .int .i64 q2]) rfl rfl (by simp [Value.oneCell']) ?_; replace H := Lib.hid (H.out.alloc (#[.int .i64 p2, .int .i64 q2]) 37); (try simp only [List.set_cons_zero, List.set_cons_succ, List.cons_append, List.nil_append, List.eraseIdx_cons_zero, List.eraseIdx_cons_succ, List.setIfInBounds_toArray, World.size_alloc, selR, List.getD_cons_zero, List.getD_cons_succ] at H))))
            (try simp only [Act.put, List.setIfInBounds_toArray, List.set_cons_zero, List.set_cons_succ])
            have cm0 := (H.out.blk 0 rfl).cell 1; simp only [List.getElem?_toArray, List.getElem?_cons_zero, List.getElem?_cons_succ] at cm0
            have ct0 := (H.out.blk 1 rfl).cell 0; simp only [List.getElem?_toArray, List.getElem?_cons_zero, List.getElem?_cons_succ] at ct0
            have ct1 := (H.out.blk 1 rfl).cell 1; simp only [List.getElem?_toArray, List.getElem?_cons_zero, List.getElem?_cons_succ] at ct1
            have e1 : decide (p2 < 0) = !decide (0 ≤ p2) := by by_cases h : p2 < 0 <;> simp [h] <;> omega
            clear e1
            by_cases h1 : p2 < 0
            · have HBD : Hid (badTot ms.length 2 p2 q2 = true) := badTot_may (by simp; omega)
              have HV2 : Hid (catErr ⟨⟨ds.map Dm.con, ms⟩, fa, p0, q0, p1, q1, p2, q2⟩ = 2) := by show _ = _; rw [HV.out]; show catT2 _ = 2; unfold catT2; rw [if_pos HBD.out]
              go_wp2_with fail
              go_ret
              rw [HV2.out]
              exact ⟨rfl, H.out.to⟩
            · by_cases h2 : 0 < q2
              · have HBD : Hid (badTot ms.length 2 p2 q2 = true) := badTot_may (by simp; omega)
                have HV2 : Hid (catErr ⟨⟨ds.map Dm.con, ms⟩, fa, p0, q0, p1, q1, p2, q2⟩ = 2) := by show _ = _; rw [HV.out]; show catT2 _ = 2; unfold catT2; rw [if_pos HBD.out]
                go_wp2_with fail
                go_ret
                rw [HV2.out]
                exact ⟨rfl, H.out.to⟩
              · have d1 : decide (p2 < 0) = false := by simp; omega
                have d2 : decide (0 < q2) = false := by simp; omega
                by_cases hin : (mn : Int) ≤ 2
                · have d1 : decide ((mn : Int) ≤ 2) = true := by simp [hin]
                  have hin2 : (ms.length : Int) ≤ 2 := by have := hl2.out; omega
                  by_cases h3 : p2 = 0
                  · by_cases h4 : q2 = 0
                    · have HBD : Hid (badTot ms.length 2 p2 q2 = false) := badTot_out (by simp; omega) hin2 (by simp [h3, h4])
                      clear hin2
                      have b3 : (p2 != 0) = false := by simp [h3]
                      have b4 : (q2 != 0) = false := by simp [h4]
                      clear h1 h2 h3 h4
                      have HV2 : Hid (catErr ⟨⟨ds.map Dm.con, ms⟩, fa, p0, q0, p1, q1, p2, q2⟩ = catFrom ⟨⟨ds.map Dm.con, ms⟩, fa, p0, q0, p1, q1, p2, q2⟩ 3) := by show _ = _; rw [HV.out]; show catT2 _ = _; unfold catT2; rw [if_neg (by rw [HBD.out]; simp)]; rfl
                      go_wp2_with fail
                      go_roundg (3 - (2 + 1))
                      case rel => exact ⟨3, rfl, by omega, rfl, Lib.hid (H.out.sel [0] (by decide) (by simp)), HV2⟩
                      case measure => omega
                    · have HBD : Hid (badTot ms.length 2 p2 q2 = true) := badTot_out (by simp; omega) hin2 (by simp [h3, h4])
                      clear hin2
                      have b3 : (p2 != 0) = false := by simp [h3]
                      have b4 : (q2 != 0) = true := by simp [h4]
                      clear h1 h2 h3 h4
                      have HV2 : Hid (catErr ⟨⟨ds.map Dm.con, ms⟩, fa, p0, q0, p1, q1, p2, q2⟩ = 2) := by show _ = _; rw [HV.out]; show catT2 _ = 2; unfold catT2; rw [if_pos HBD.out]
                      go_wp2_with fail
                      go_ret
                      rw [HV2.out]
                      exact ⟨rfl, H.out.to⟩
                  · have HBD : Hid (badTot ms.length 2 p2 q2 = true) := badTot_out (by simp; omega) hin2 (by simp [h3])
                    clear hin2
                    have b3 : (p2 != 0) = true := by simp [h3]
                    clear h1 h2 h3
                    have HV2 : Hid (catErr ⟨⟨ds.map Dm.con, ms⟩, fa, p0, q0, p1, q1, p2, q2⟩ = 2) := by show _ = _; rw [HV.out]; show catT2 _ = 2; unfold catT2; rw [if_pos HBD.out]
                    go_wp2_with fail
                    go_ret
                    rw [HV2.out]
                    exact ⟨rfl, H.out.to⟩
                · have hin2 : ¬ (ms.length : Int) ≤ 2 := by have := hl2.out; omega
                  have HBD : Hid (badTot ms.length 2 p2 q2 = false) := badTot_in (by simp; omega) hin2
                  clear hin2
                  have HV2 : Hid (catErr ⟨⟨ds.map Dm.con, ms⟩, fa, p0, q0, p1, q1, p2, q2⟩ = catFrom ⟨⟨ds.map Dm.con, ms⟩, fa, p0, q0, p1, q1, p2, q2⟩ 3) := by show _ = _; rw [HV.out]; show catT2 _ = _; unfold catT2; rw [if_neg (by rw [HBD.out]; simp)]; rfl
                  go_wp2_with fail
                  go_roundg (3 - (2 + 1))
                  case rel => exact ⟨3, rfl, by omega, rfl, Lib.hid (H.out.sel [0] (by decide) (by simp)), HV2⟩
                  case measure => omega
          · rw [show ((3 : Nat) : Int) = 3 from rfl]
            go_wp2_with fail
            go_ret
            rw [HV.out]
            exact ⟨rfl, H.out.to⟩
  · have HV : Hid (catErr ⟨⟨ds.map Dm.con, ms⟩, fa, p0, q0, p1, q1, p2, q2⟩ = schErr (⟨ds.map Dm.con, ms⟩ : SC)) := catErr_sc hE
    have dE : (schErr (⟨ds.map Dm.con, ms⟩ : SC) == 0) = false := by simpa using hE
    clear hE
    go_wp2_with fail
    go_ret
    rw [HV.out]
    exact ⟨rfl, H.out.to⟩
/-- Do two catalogs say the same? -/
def sameK (a b : CC) : Bool := sameS a.sc b.sc && decide (a.fa = b.fa) && decide (a.p0 = b.p0 ∧ a.q0 = b.q0 ∧ a.p1 = b.p1 ∧ a.q1 = b.q1 ∧ a.p2 = b.p2 ∧ a.q2 = b.q2)
set_option maxRecDepth 100000 in
set_option maxHeartbeats 2000000 in
theorem catsame_any (s t : Ct) (w : World) (hs : s.rd w) (ht : t.rd w) :
    Calls Try.prog 22 #[.agg s.cs, .agg t.cs] w fun e w' => e = .returned (.bool (sameK s.con t.con)) ∧ Bel w w' := by
  have HC := Lib.hid (fun w' (hb : Bel w w') => schsame_any s.sc t.sc w' (hs.sc.mono hb) (ht.sc.mono hb))
  have H := Lib.hid (((SL.start No w).alloc s.cs 40).alloc t.cs 40)
  (try simp only [List.set_cons_zero, List.set_cons_succ, List.cons_append, List.nil_append, List.eraseIdx_cons_zero, List.eraseIdx_cons_succ, List.setIfInBounds_toArray, World.size_alloc, selR, List.getD_cons_zero, List.getD_cons_succ] at H)
  have HE := Lib.hid (eql_tots s.p0 s.q0 s.p1 s.q1 s.p2 s.q2 t.p0 t.q0 t.p1 t.q1 t.p2 t.q2)
  have HV : Hid (sameK s.con t.con = (sameS s.sc.con t.sc.con && decide (s.fa = t.fa) && decide (s.p0 = t.p0 ∧ s.q0 = t.q0 ∧ s.p1 = t.p1 ∧ s.q1 = t.q1 ∧ s.p2 = t.p2 ∧ s.q2 = t.q2))) := rfl
  generalize sameK s.con t.con = R at *
  obtain ⟨bt, hbt⟩ : ∃ b, decide (s.p0 = t.p0 ∧ s.q0 = t.q0 ∧ s.p1 = t.p1 ∧ s.q1 = t.q1 ∧ s.p2 = t.p2 ∧ s.q2 = t.q2) = b := ⟨_, rfl⟩
  obtain ⟨bs, hbs⟩ : ∃ b, sameS s.sc.con t.sc.con = b := ⟨_, rfl⟩
  rw [hbt] at HE HV
  rw [hbs] at HC HV
  clear hbt hbs
  obtain ⟨⟨⟨A, n, c, ds⟩, ⟨MA, mn, mc, ms⟩⟩, fa, p0, q0, p1, q1, p2, q2⟩ := s
  obtain ⟨⟨⟨B, m, d, es⟩, ⟨MB, mm, md, mt⟩⟩, fb, a0, b0, a1, b1, a2, b2⟩ := t
  simp only [Ct.cs, Sch.cs, Ct.con, Sch.con] at *
  clear hs ht
  go_enter Try.func22, Try.ntmps22
  go_upto_region 1 with fail
  generalize w.heap.size + 1 = y at *
  generalize w.heap.size = x at *
  generalize World.alloc (World.alloc _ _) _ = w1 at *
  go_wp2_with (first | ((with_reducible show wpList _ _ _ (⟨some 6, _, _, _, _, _⟩ :: _) _ _); (refine wpList_load_row_at rfl rowSch (.tmp 5) rfl x (0) rfl #[.slice A n c, .slice MA mn mc] rfl ((H.out.blk 0 rfl).part 0 _ rfl) ?_)) | ((with_reducible show wpList _ _ _ (⟨some 8, _, _, _, _, _⟩ :: _) _ _); (refine wpList_load_row_at rfl rowSch (.tmp 7) rfl y (0) rfl #[.slice B m d, .slice MB mm md] rfl ((H.out.blk 1 rfl).part 0 _ rfl) ?_)))
  refine (HC.out _ H.out.to).mono ?_; rintro e w2 ⟨rfl, hb2⟩
  replace H := Lib.hid (H.out.bel hb2); (try simp only [List.set_cons_zero, List.set_cons_succ, List.cons_append, List.nil_append, List.eraseIdx_cons_zero, List.eraseIdx_cons_succ, List.setIfInBounds_toArray, World.size_alloc, selR, List.getD_cons_zero, List.getD_cons_succ] at H)
  clear hb2 HC
  have c2 := (H.out.blk 0 rfl).cell 2; simp only [List.getElem?_toArray, List.getElem?_cons_zero, List.getElem?_cons_succ] at c2
  have c3 := (H.out.blk 1 rfl).cell 2; simp only [List.getElem?_toArray, List.getElem?_cons_zero, List.getElem?_cons_succ] at c3
  cases bs with
  | false =>
    have HV2 : Hid (R = false) := by show _ = _; rw [HV.out]; rfl
    go_wp2_with fail
    go_ret
    rw [HV2.out]
    exact ⟨rfl, H.out.to⟩
  | true =>
    by_cases h1 : fa = fb
    · have HV2 : Hid (R = bt) := by show _ = _; rw [HV.out]; simp [h1]
      have h1b : (fa == fb) = true := by simp [h1]
      clear h1
      go_wp2_with (first | ((with_reducible show wpList _ _ _ (⟨some 19, _, _, _, _, _⟩ :: _) _ _); refine wpList_load_partG (by first | rfl | go_simp) rowTts (.tmp 18) (by rfl) x 3 (by rfl) #[.int .i64 p0, .int .i64 q0, .int .i64 p1, .int .i64 q1, .int .i64 p2, .int .i64 q2] rfl ((H.out.blk 0 rfl).part 3 _ rfl) ?_) | ((with_reducible show wpList _ _ _ (⟨some 21, _, _, _, _, _⟩ :: _) _ _); refine wpList_load_partG (by first | rfl | go_simp) rowTts (.tmp 20) (by rfl) y 3 (by rfl) #[.int .i64 a0, .int .i64 b0, .int .i64 a1, .int .i64 b1, .int .i64 a2, .int .i64 b2] rfl ((H.out.blk 1 rfl).part 3 _ rfl) ?_) | ((with_reducible show wpList _ _ _ (⟨some 22, _, _, _, _, _⟩ :: _) _ _); refine wpList_cmp_row (by first | rfl | go_simp) .eql 38 38 (.tmp 19) (.tmp 21) (by rfl) (by rfl) (by rfl) guard_tots (HE.out _) ?_))
      go_ret
      rw [HV2.out]
      exact ⟨rfl, H.out.to⟩
    · have HV2 : Hid (R = false) := by show _ = _; rw [HV.out]; simp [h1]
      have h1b : (fa == fb) = false := by simp [h1]
      clear h1
      go_wp2_with fail
      go_ret
      rw [HV2.out]
      exact ⟨rfl, H.out.to⟩
theorem sameK_iff (a b : CC) : sameK a b = true ↔ a = b := by
  unfold sameK
  obtain ⟨s, f, x0, y0, x1, y1, x2, y2⟩ := a
  obtain ⟨t, g, u0, v0, u1, v1, u2, v2⟩ := b
  simp only [Bool.and_eq_true, decide_eq_true_eq, CC.mk.injEq, sameS_iff, and_assoc]

end Go.Proofs.Ytigjghfonpfdlaa
