/- The walk of the law AggTakes. -/
import Derived.Test.YtllgcehgdpgnnaaAggY
import Derived.Test.YtllgcehgdpgnnaaAggPutsW
namespace Go.Proofs.Ytllgcehgdpgnnaa
open Go.RowKit
set_option linter.unusedVariables false
set_option linter.unusedSimpArgs false

theorem neq_same (a : Ag) (W : World) : (binOp .neq 92 (.agg a.cs) (.agg a.cs)).run Try.prog W = .ok (.bool false) W := by
  rw [neqv_ag]
  simp

set_option maxRecDepth 100000 in
set_option maxHeartbeats 1000000 in
theorem walkl_aggTakes (w : World) (s : List UInt8) (m : Int) (hs : s.length ≤ 9223372036854775807) (hm : I64 m) :
    Calls Try.prog 13 #[.string ⟨s.toArray⟩, .int .i64 m] w fun e w' => e = .returned (.bool true) ∧ Bel w w' := by
  have hmf : ∀ (fn : Fn) (first cap : Array Value) (w : World), (Instr.makeFunc fn first cap).run Try.prog w = .ok (.func fn first cap) w := fun _ _ _ _ => rfl
  have bm := Blk.new w 3 #[.int .i64 m]
  have hW := (Bel.refl w).alloc (.cells #[.int .i64 m] 3)
  have ez : Ag.zero.cs = #[.int .i64 0, .int .i64 0, .int .i64 0, .int .i64 0, .int .i64 0, .int .i64 0, .int .i64 0, .int .i64 0, .int .i64 0, .int .i64 0] := rfl
  have EZ := Lib.hid ez
  clear ez
  by_cases hl : s.length ≤ 1000
  · have HK := Lib.hid (fun w => atake_any s m w hm (by omega))
    have HL := Lib.hid (fun w => ratake_any s m w (by omega) hm)
    cases ho : pag m s with
    | error k =>
      have Ho := Lib.hid ho
      have hT : atake m s = (.zero, k) := by unfold atake; rw [ho]
      rw [hT] at HK HL
      have hk := pag_err ho
      have dk : (k == 0) = false := by subst hk; rfl
      have dk2 : (k != 0) = true := by subst hk; rfl
      clear ho hk hT
      go_enter Try.func13, Try.ntmps13
      go_wp2_with fail
      refine (HK.out _).mono ?_; rintro e w1 ⟨rfl, hb1⟩
      have M1 := Lib.hid ((bm.bel hb1).alloc (.cells (Ag.zero).cs 92))
      have B1 := Lib.hid ((hW.trans hb1).alloc (.cells (Ag.zero).cs 92))
      have A1 := Lib.hid (Blk.new w1 92 (Ag.zero).cs)
      have c1 := M1.out.cell 0
      simp only [List.getElem?_toArray, List.getElem?_cons_zero] at c1
      clear bm hW hb1
      go_wp2_with (((with_reducible show wpList _ _ _ (⟨_, .store _ (.tmp 5) _, _, _, _, _⟩ :: _) _ _); refine wpList_store_new rfl rowAg (.tmp 5) (.tmp 23) rfl rfl rfl (Ag.zero).cs rfl rfl (ag_one _) ?_))
      refine (HL.out _).mono ?_; rintro e w2 ⟨rfl, hb2⟩
      have M2 := Lib.hid ((M1.out.bel hb2).alloc (.cells (Ag.zero).cs 92))
      have B2 := Lib.hid ((B1.out.trans hb2).alloc (.cells (Ag.zero).cs 92))
      have A2 := Lib.hid ((A1.out.bel hb2).alloc (.cells (Ag.zero).cs 92))
      have C2 := Lib.hid (Blk.new w2 92 (Ag.zero).cs)
      have c2 := M2.out.cell 0
      simp only [List.getElem?_toArray, List.getElem?_cons_zero] at c2
      clear c1 hb2 M1 B1 A1
      go_wp2_with (((with_reducible show wpList _ _ _ (⟨_, .store _ (.tmp 7) _, _, _, _, _⟩ :: _) _ _); refine wpList_store_new rfl rowAg (.tmp 7) (.tmp 29) rfl rfl rfl (Ag.zero).cs rfl rfl (ag_one _) ?_))
      refine (raread_any s m _ (by omega) hm).mono ?_
      rw [Ho.out]
      rintro e w3 ⟨hb3, t, x, rfl, hx⟩
      dsimp only [prErr]
      have M3 := Lib.hid (M2.out.bel hb3)
      have B3 := Lib.hid (B2.out.trans hb3)
      have A3 := Lib.hid (A2.out.bel hb3)
      have C3 := Lib.hid (C2.out.bel hb3)
      clear c2 hb3 hx M2 B2 A2 C2
      have p4 := (Blk.new w3 55 (scs [] 0 0)).alloc (.cells Ag.zero.cs 92)
      have r4 := Blk.new (w3.alloc (.cells (scs [] 0 0) 55)) 92 Ag.zero.cs
      rw [World.size_alloc] at r4
      have hz3 : w.heap.size < w3.heap.size := M3.out.lt
      have hy3 : w1.heap.size < w3.heap.size := A3.out.lt
      have hx3 : w2.heap.size < w3.heap.size := C3.out.lt
      have M4 := Lib.hid ((M3.out.alloc (.cells (scs [] 0 0) 55)).alloc (.cells Ag.zero.cs 92))
      have B4 := Lib.hid ((B3.out.alloc (.cells (scs [] 0 0) 55)).alloc (.cells Ag.zero.cs 92))
      have A4 := Lib.hid ((A3.out.alloc (.cells (scs [] 0 0) 55)).alloc (.cells Ag.zero.cs 92))
      have C4 := Lib.hid ((C3.out.alloc (.cells (scs [] 0 0) 55)).alloc (.cells Ag.zero.cs 92))
      clear M3 B3 A3 C3
      go_wp2_with (first | ((with_reducible show wpList _ _ _ (⟨_, .store _ (.tmp 9) _, _, _, _, _⟩ :: _) _ _); refine wpList_store_blk rfl rowScn (.tmp 9) (.tmp 36) rfl w3.heap.size rfl p4 rfl (scs s t k) rfl rfl (scs_one _ _ _) ?_; intro w5 p5 hg5; have M5 := Lib.hid (M4.out.grown hg5 (by simp; omega)); have B5 := Lib.hid (B4.out.grownAt hg5 (by omega)); have A5 := Lib.hid (A4.out.grown hg5 (by simp; omega)); have C5 := Lib.hid (C4.out.grown hg5 (by simp; omega)); have r5 := r4.grown hg5 (by simp); clear hg5 p4 r4 M4 B4 A4 C4) | ((with_reducible show wpList _ _ _ (⟨_, .store _ (.tmp 10) _, _, _, _, _⟩ :: _) _ _); refine wpList_store_blk rfl rowAg (.tmp 10) (.tmp 37) rfl (w3.heap.size + 1) rfl r5 rfl x.cs rfl rfl (ag_one _) ?_; intro w6 r6 hg6; have M6 := Lib.hid (M5.out.grown hg6 (by simp; omega)); have B6 := Lib.hid (B5.out.grownAt hg6 (by omega)); have A6 := Lib.hid (A5.out.grown hg6 (by simp; omega)); have C6 := Lib.hid (C5.out.grown hg6 (by simp; omega)); have p6 := p5.grown hg6 (by simp); clear hg6 p5 r5 M5 B5 A5 C5))
      have hV := (Bel.refl w6).alloc (.cells Ag.zero.cs 92)
      have hVz : (w6.alloc (.cells Ag.zero.cs 92)).heap.size = w6.heap.size + 1 := by simp
      have o0 := Blk.new w6 92 Ag.zero.cs
      rw [← EZ.out]
      generalize (w6.alloc (.cells Ag.zero.cs 92)) = V at *
      refine (all_any 73 #[.pointer (some ⟨w.heap.size, 0, none⟩), .pointer (some ⟨w6.heap.size, 0, none⟩)] s V (by omega) (RA w6 w6.heap.size (pag m s) prErr) (cf_any Try.func73 (by kernel_rfl) (by kernel_rfl)) (fun w7 h1 h2 h3 h4 h5 => at1_any w6 V.heap.size w6.heap.size w.heap.size s m w7 hm (.begin hV h1 h3 h4 h5) (Nat.le_refl _) (by omega) ((M6.out.bel (hV.trans h1)).cell 0) .zero (o0.bel h1))).mono ?_
      rintro e w8 ⟨k7, w7, rfl, ⟨hb7, hk7, y, hy, hya⟩, hbut, _⟩
      have hb8 := hb7.but2 (B := V.heap.size) (by omega) hbut
      have y8 := hy.but2 hbut (by omega) (by omega)
      have p8 := p6.bel hb8
      obtain ⟨p80, p81, p82, _, _, _⟩ := p8.three
      have r8 := r6.bel hb8
      have M8 := Lib.hid (M6.out.bel hb8)
      have B8 := Lib.hid (B6.out.trans hb8)
      have A8 := Lib.hid (A6.out.bel hb8)
      have C8 := Lib.hid (C6.out.bel hb8)
      have m8 := M8.out.cell 0
      simp only [List.getElem?_toArray, List.getElem?_cons_zero] at m8
      rw [Ho.out] at hk7 hya
      dsimp only [prErr] at hk7
      subst hk7
      have a8 := A8.out
      have c8 := C8.out
      clear hya hy hbut hb7 hb8 hV hVz o0 p6 r6 p8 M6 B6 A6 C6 M8
      go_wp2_with (first | ((with_reducible show wpList _ _ _ (⟨some 41, _, _, _, _, _⟩ :: _) _ _); refine wpList_load_blkG (by first | rfl | go_simp) rowAg (.tmp 5) (by rfl) w1.heap.size (by rfl) a8 rfl ?_) | ((with_reducible show wpList _ _ _ (⟨some 42, _, _, _, _, _⟩ :: _) _ _); refine wpList_load_blkG (by first | rfl | go_simp) rowAg (.tmp 7) (by rfl) w2.heap.size (by rfl) c8 rfl ?_) | ((with_reducible show wpList _ _ _ (⟨some 43, _, _, _, _, _⟩ :: _) _ _); refine wpList_cmp_row (b := false) (by first | rfl | go_simp) .neq 92 92 (.tmp 41) (.tmp 42) (by rfl) (by rfl) (by rfl) guard_ag (neq_same Ag.zero _) ?_))
      refine (awake06_any _).mono ?_; rintro e w10 ⟨rfl, hb10⟩
      go_wp2
      go_ret
      exact ⟨rfl, B8.out.trans hb10⟩
    | ok q =>
      obtain ⟨a, l⟩ := q
      have Ho := Lib.hid ho
      by_cases hl0 : l = []
      · subst hl0
        have hT : atake m s = (a, 0) := by unfold atake; rw [ho]; simp
        rw [hT] at HK HL
        obtain ⟨hbk, hmay, hok⟩ := pag_back ho
        rw [List.append_nil] at hbk
        have HBk := Lib.hid hbk.symm
        have HP := Lib.hid (fun w => aput_any a m w hok hm)
        rw [show agPutV m a = (agPut m.toNat a, 0) by unfold agPutV; rw [hmay]; rfl] at HP
        clear ho hT hbk hmay hok
        go_enter Try.func13, Try.ntmps13
        go_wp2_with fail
        refine (HK.out _).mono ?_; rintro e w1 ⟨rfl, hb1⟩
        have M1 := Lib.hid ((bm.bel hb1).alloc (.cells (a).cs 92))
        have B1 := Lib.hid ((hW.trans hb1).alloc (.cells (a).cs 92))
        have A1 := Lib.hid (Blk.new w1 92 (a).cs)
        have c1 := M1.out.cell 0
        simp only [List.getElem?_toArray, List.getElem?_cons_zero] at c1
        clear bm hW hb1
        go_wp2_with (((with_reducible show wpList _ _ _ (⟨_, .store _ (.tmp 5) _, _, _, _, _⟩ :: _) _ _); refine wpList_store_new rfl rowAg (.tmp 5) (.tmp 23) rfl rfl rfl (a).cs rfl rfl (ag_one _) ?_))
        refine (HL.out _).mono ?_; rintro e w2 ⟨rfl, hb2⟩
        have M2 := Lib.hid ((M1.out.bel hb2).alloc (.cells (a).cs 92))
        have B2 := Lib.hid ((B1.out.trans hb2).alloc (.cells (a).cs 92))
        have A2 := Lib.hid ((A1.out.bel hb2).alloc (.cells (a).cs 92))
        have C2 := Lib.hid (Blk.new w2 92 (a).cs)
        have c2 := M2.out.cell 0
        simp only [List.getElem?_toArray, List.getElem?_cons_zero] at c2
        clear c1 hb2 M1 B1 A1
        go_wp2_with (((with_reducible show wpList _ _ _ (⟨_, .store _ (.tmp 7) _, _, _, _, _⟩ :: _) _ _); refine wpList_store_new rfl rowAg (.tmp 7) (.tmp 29) rfl rfl rfl (a).cs rfl rfl (ag_one _) ?_))
        refine (raread_any s m _ (by omega) hm).mono ?_
        rw [Ho.out]
        rintro e w3 ⟨hb3, t, x, rfl, hx⟩
        obtain ⟨rfl, tn, rfl, htn, hl⟩ := hx _ _ rfl
        have HD := Lib.hid hl
        clear hl
        dsimp only [prErr]
        have M3 := Lib.hid (M2.out.bel hb3)
        have B3 := Lib.hid (B2.out.trans hb3)
        have A3 := Lib.hid (A2.out.bel hb3)
        have C3 := Lib.hid (C2.out.bel hb3)
        clear c2 hb3 hx M2 B2 A2 C2
        have p4 := (Blk.new w3 55 (scs [] 0 0)).alloc (.cells Ag.zero.cs 92)
        have r4 := Blk.new (w3.alloc (.cells (scs [] 0 0) 55)) 92 Ag.zero.cs
        rw [World.size_alloc] at r4
        have hz3 : w.heap.size < w3.heap.size := M3.out.lt
        have hy3 : w1.heap.size < w3.heap.size := A3.out.lt
        have hx3 : w2.heap.size < w3.heap.size := C3.out.lt
        have M4 := Lib.hid ((M3.out.alloc (.cells (scs [] 0 0) 55)).alloc (.cells Ag.zero.cs 92))
        have B4 := Lib.hid ((B3.out.alloc (.cells (scs [] 0 0) 55)).alloc (.cells Ag.zero.cs 92))
        have A4 := Lib.hid ((A3.out.alloc (.cells (scs [] 0 0) 55)).alloc (.cells Ag.zero.cs 92))
        have C4 := Lib.hid ((C3.out.alloc (.cells (scs [] 0 0) 55)).alloc (.cells Ag.zero.cs 92))
        clear M3 B3 A3 C3
        go_wp2_with (first | ((with_reducible show wpList _ _ _ (⟨_, .store _ (.tmp 9) _, _, _, _, _⟩ :: _) _ _); refine wpList_store_blk rfl rowScn (.tmp 9) (.tmp 36) rfl w3.heap.size rfl p4 rfl (scs s tn 0) rfl rfl (scs_one _ _ _) ?_; intro w5 p5 hg5; have M5 := Lib.hid (M4.out.grown hg5 (by simp; omega)); have B5 := Lib.hid (B4.out.grownAt hg5 (by omega)); have A5 := Lib.hid (A4.out.grown hg5 (by simp; omega)); have C5 := Lib.hid (C4.out.grown hg5 (by simp; omega)); have r5 := r4.grown hg5 (by simp); clear hg5 p4 r4 M4 B4 A4 C4) | ((with_reducible show wpList _ _ _ (⟨_, .store _ (.tmp 10) _, _, _, _, _⟩ :: _) _ _); refine wpList_store_blk rfl rowAg (.tmp 10) (.tmp 37) rfl (w3.heap.size + 1) rfl r5 rfl x.cs rfl rfl (ag_one _) ?_; intro w6 r6 hg6; have M6 := Lib.hid (M5.out.grown hg6 (by simp; omega)); have B6 := Lib.hid (B5.out.grownAt hg6 (by omega)); have A6 := Lib.hid (A5.out.grown hg6 (by simp; omega)); have C6 := Lib.hid (C5.out.grown hg6 (by simp; omega)); have p6 := p5.grown hg6 (by simp); clear hg6 p5 r5 M5 B5 A5 C5))
        have hV := (Bel.refl w6).alloc (.cells Ag.zero.cs 92)
        have hVz : (w6.alloc (.cells Ag.zero.cs 92)).heap.size = w6.heap.size + 1 := by simp
        have o0 := Blk.new w6 92 Ag.zero.cs
        rw [← EZ.out]
        generalize (w6.alloc (.cells Ag.zero.cs 92)) = V at *
        refine (all_any 73 #[.pointer (some ⟨w.heap.size, 0, none⟩), .pointer (some ⟨w6.heap.size, 0, none⟩)] s V (by omega) (RA w6 w6.heap.size (pag m s) prErr) (cf_any Try.func73 (by kernel_rfl) (by kernel_rfl)) (fun w7 h1 h2 h3 h4 h5 => at1_any w6 V.heap.size w6.heap.size w.heap.size s m w7 hm (.begin hV h1 h3 h4 h5) (Nat.le_refl _) (by omega) ((M6.out.bel (hV.trans h1)).cell 0) .zero (o0.bel h1))).mono ?_
        rintro e w8 ⟨k7, w7, rfl, ⟨hb7, hk7, y, hy, hya⟩, hbut, _⟩
        have hb8 := hb7.but2 (B := V.heap.size) (by omega) hbut
        have y8 := hy.but2 hbut (by omega) (by omega)
        have p8 := p6.bel hb8
        obtain ⟨p80, p81, p82, _, _, _⟩ := p8.three
        have r8 := r6.bel hb8
        have M8 := Lib.hid (M6.out.bel hb8)
        have B8 := Lib.hid (B6.out.trans hb8)
        have A8 := Lib.hid (A6.out.bel hb8)
        have C8 := Lib.hid (C6.out.bel hb8)
        have m8 := M8.out.cell 0
        simp only [List.getElem?_toArray, List.getElem?_cons_zero] at m8
        rw [Ho.out] at hk7 hya
        dsimp only [prErr] at hk7
        subst hk7
        obtain rfl := hya _ _ rfl
        have a8 := A8.out
        have c8 := C8.out
        clear hya hy hbut hb7 hb8 hV hVz o0 p6 r6 p8 M6 B6 A6 C6 M8
        go_wp2_with (first | ((with_reducible show wpList _ _ _ (⟨some 41, _, _, _, _, _⟩ :: _) _ _); refine wpList_load_blkG (by first | rfl | go_simp) rowAg (.tmp 5) (by rfl) w1.heap.size (by rfl) a8 rfl ?_) | ((with_reducible show wpList _ _ _ (⟨some 42, _, _, _, _, _⟩ :: _) _ _); refine wpList_load_blkG (by first | rfl | go_simp) rowAg (.tmp 7) (by rfl) w2.heap.size (by rfl) c8 rfl ?_) | ((with_reducible show wpList _ _ _ (⟨some 43, _, _, _, _, _⟩ :: _) _ _); refine wpList_cmp_row (b := false) (by first | rfl | go_simp) .neq 92 92 (.tmp 41) (.tmp 42) (by rfl) (by rfl) (by rfl) guard_ag (neq_same y _) ?_) | ((with_reducible show wpList _ _ _ (⟨some 60, _, _, _, _, _⟩ :: _) _ _); refine wpList_load_blkG (by first | rfl | go_simp) rowAg (.tmp 11) (by rfl) w6.heap.size (by rfl) y8 rfl ?_) | ((with_reducible show wpList _ _ _ (⟨some 61, _, _, _, _, _⟩ :: _) _ _); refine wpList_load_blkG (by first | rfl | go_simp) rowAg (.tmp 10) (by rfl) (w3.heap.size + 1) (by rfl) r8 rfl ?_) | ((with_reducible show wpList _ _ _ (⟨some 62, _, _, _, _, _⟩ :: _) _ _); refine wpList_cmp_row (b := false) (by first | rfl | go_simp) .neq 92 92 (.tmp 60) (.tmp 61) (by rfl) (by rfl) (by rfl) guard_ag (neq_same y _) ?_) | ((with_reducible show wpList _ _ _ (⟨some 70, _, _, _, _, _⟩ :: _) _ _); refine wpList_load_blkG (by first | rfl | go_simp) rowAg (.tmp 5) (by rfl) w1.heap.size (by rfl) a8 rfl ?_))
        refine (HP.out _).mono ?_; rintro e w9 ⟨rfl, hb9⟩
        have e9 : (agPut m.toNat y == s) = true := by rw [HBk.out, beq_self_eq_true]
        go_wp2_with fail
        refine (awake06_any _).mono ?_; rintro e w10 ⟨rfl, hb10⟩
        go_wp2
        go_ret
        exact ⟨rfl, (B8.out.trans hb9).trans hb10⟩
      · have hT : atake m s = (.zero, 3) := by unfold atake; rw [ho]; simp [hl0]
        rw [hT] at HK HL
        clear ho hl0 hT
        go_enter Try.func13, Try.ntmps13
        go_wp2_with fail
        refine (HK.out _).mono ?_; rintro e w1 ⟨rfl, hb1⟩
        have M1 := Lib.hid ((bm.bel hb1).alloc (.cells (Ag.zero).cs 92))
        have B1 := Lib.hid ((hW.trans hb1).alloc (.cells (Ag.zero).cs 92))
        have A1 := Lib.hid (Blk.new w1 92 (Ag.zero).cs)
        have c1 := M1.out.cell 0
        simp only [List.getElem?_toArray, List.getElem?_cons_zero] at c1
        clear bm hW hb1
        go_wp2_with (((with_reducible show wpList _ _ _ (⟨_, .store _ (.tmp 5) _, _, _, _, _⟩ :: _) _ _); refine wpList_store_new rfl rowAg (.tmp 5) (.tmp 23) rfl rfl rfl (Ag.zero).cs rfl rfl (ag_one _) ?_))
        refine (HL.out _).mono ?_; rintro e w2 ⟨rfl, hb2⟩
        have M2 := Lib.hid ((M1.out.bel hb2).alloc (.cells (Ag.zero).cs 92))
        have B2 := Lib.hid ((B1.out.trans hb2).alloc (.cells (Ag.zero).cs 92))
        have A2 := Lib.hid ((A1.out.bel hb2).alloc (.cells (Ag.zero).cs 92))
        have C2 := Lib.hid (Blk.new w2 92 (Ag.zero).cs)
        have c2 := M2.out.cell 0
        simp only [List.getElem?_toArray, List.getElem?_cons_zero] at c2
        clear c1 hb2 M1 B1 A1
        go_wp2_with (((with_reducible show wpList _ _ _ (⟨_, .store _ (.tmp 7) _, _, _, _, _⟩ :: _) _ _); refine wpList_store_new rfl rowAg (.tmp 7) (.tmp 29) rfl rfl rfl (Ag.zero).cs rfl rfl (ag_one _) ?_))
        refine (raread_any s m _ (by omega) hm).mono ?_
        rw [Ho.out]
        rintro e w3 ⟨hb3, t, x, rfl, hx⟩
        obtain ⟨rfl, tn, rfl, htn, hl⟩ := hx _ _ rfl
        have HD := Lib.hid hl
        clear hl
        dsimp only [prErr]
        have M3 := Lib.hid (M2.out.bel hb3)
        have B3 := Lib.hid (B2.out.trans hb3)
        have A3 := Lib.hid (A2.out.bel hb3)
        have C3 := Lib.hid (C2.out.bel hb3)
        clear c2 hb3 hx M2 B2 A2 C2
        have p4 := (Blk.new w3 55 (scs [] 0 0)).alloc (.cells Ag.zero.cs 92)
        have r4 := Blk.new (w3.alloc (.cells (scs [] 0 0) 55)) 92 Ag.zero.cs
        rw [World.size_alloc] at r4
        have hz3 : w.heap.size < w3.heap.size := M3.out.lt
        have hy3 : w1.heap.size < w3.heap.size := A3.out.lt
        have hx3 : w2.heap.size < w3.heap.size := C3.out.lt
        have M4 := Lib.hid ((M3.out.alloc (.cells (scs [] 0 0) 55)).alloc (.cells Ag.zero.cs 92))
        have B4 := Lib.hid ((B3.out.alloc (.cells (scs [] 0 0) 55)).alloc (.cells Ag.zero.cs 92))
        have A4 := Lib.hid ((A3.out.alloc (.cells (scs [] 0 0) 55)).alloc (.cells Ag.zero.cs 92))
        have C4 := Lib.hid ((C3.out.alloc (.cells (scs [] 0 0) 55)).alloc (.cells Ag.zero.cs 92))
        clear M3 B3 A3 C3
        go_wp2_with (first | ((with_reducible show wpList _ _ _ (⟨_, .store _ (.tmp 9) _, _, _, _, _⟩ :: _) _ _); refine wpList_store_blk rfl rowScn (.tmp 9) (.tmp 36) rfl w3.heap.size rfl p4 rfl (scs s tn 0) rfl rfl (scs_one _ _ _) ?_; intro w5 p5 hg5; have M5 := Lib.hid (M4.out.grown hg5 (by simp; omega)); have B5 := Lib.hid (B4.out.grownAt hg5 (by omega)); have A5 := Lib.hid (A4.out.grown hg5 (by simp; omega)); have C5 := Lib.hid (C4.out.grown hg5 (by simp; omega)); have r5 := r4.grown hg5 (by simp); clear hg5 p4 r4 M4 B4 A4 C4) | ((with_reducible show wpList _ _ _ (⟨_, .store _ (.tmp 10) _, _, _, _, _⟩ :: _) _ _); refine wpList_store_blk rfl rowAg (.tmp 10) (.tmp 37) rfl (w3.heap.size + 1) rfl r5 rfl x.cs rfl rfl (ag_one _) ?_; intro w6 r6 hg6; have M6 := Lib.hid (M5.out.grown hg6 (by simp; omega)); have B6 := Lib.hid (B5.out.grownAt hg6 (by omega)); have A6 := Lib.hid (A5.out.grown hg6 (by simp; omega)); have C6 := Lib.hid (C5.out.grown hg6 (by simp; omega)); have p6 := p5.grown hg6 (by simp); clear hg6 p5 r5 M5 B5 A5 C5))
        have hV := (Bel.refl w6).alloc (.cells Ag.zero.cs 92)
        have hVz : (w6.alloc (.cells Ag.zero.cs 92)).heap.size = w6.heap.size + 1 := by simp
        have o0 := Blk.new w6 92 Ag.zero.cs
        rw [← EZ.out]
        generalize (w6.alloc (.cells Ag.zero.cs 92)) = V at *
        refine (all_any 73 #[.pointer (some ⟨w.heap.size, 0, none⟩), .pointer (some ⟨w6.heap.size, 0, none⟩)] s V (by omega) (RA w6 w6.heap.size (pag m s) prErr) (cf_any Try.func73 (by kernel_rfl) (by kernel_rfl)) (fun w7 h1 h2 h3 h4 h5 => at1_any w6 V.heap.size w6.heap.size w.heap.size s m w7 hm (.begin hV h1 h3 h4 h5) (Nat.le_refl _) (by omega) ((M6.out.bel (hV.trans h1)).cell 0) .zero (o0.bel h1))).mono ?_
        rintro e w8 ⟨k7, w7, rfl, ⟨hb7, hk7, y, hy, hya⟩, hbut, _⟩
        have hb8 := hb7.but2 (B := V.heap.size) (by omega) hbut
        have y8 := hy.but2 hbut (by omega) (by omega)
        have p8 := p6.bel hb8
        obtain ⟨p80, p81, p82, _, _, _⟩ := p8.three
        have r8 := r6.bel hb8
        have M8 := Lib.hid (M6.out.bel hb8)
        have B8 := Lib.hid (B6.out.trans hb8)
        have A8 := Lib.hid (A6.out.bel hb8)
        have C8 := Lib.hid (C6.out.bel hb8)
        have m8 := M8.out.cell 0
        simp only [List.getElem?_toArray, List.getElem?_cons_zero] at m8
        rw [Ho.out] at hk7 hya
        dsimp only [prErr] at hk7
        subst hk7
        obtain rfl := hya _ _ rfl
        have a8 := A8.out
        have c8 := C8.out
        clear hya hy hbut hb7 hb8 hV hVz o0 p6 r6 p8 M6 B6 A6 C6 M8
        go_wp2_with (first | ((with_reducible show wpList _ _ _ (⟨some 41, _, _, _, _, _⟩ :: _) _ _); refine wpList_load_blkG (by first | rfl | go_simp) rowAg (.tmp 5) (by rfl) w1.heap.size (by rfl) a8 rfl ?_) | ((with_reducible show wpList _ _ _ (⟨some 42, _, _, _, _, _⟩ :: _) _ _); refine wpList_load_blkG (by first | rfl | go_simp) rowAg (.tmp 7) (by rfl) w2.heap.size (by rfl) c8 rfl ?_) | ((with_reducible show wpList _ _ _ (⟨some 43, _, _, _, _, _⟩ :: _) _ _); refine wpList_cmp_row (b := false) (by first | rfl | go_simp) .neq 92 92 (.tmp 41) (.tmp 42) (by rfl) (by rfl) (by rfl) guard_ag (neq_same Ag.zero _) ?_) | ((with_reducible show wpList _ _ _ (⟨some 60, _, _, _, _, _⟩ :: _) _ _); refine wpList_load_blkG (by first | rfl | go_simp) rowAg (.tmp 11) (by rfl) w6.heap.size (by rfl) y8 rfl ?_) | ((with_reducible show wpList _ _ _ (⟨some 61, _, _, _, _, _⟩ :: _) _ _); refine wpList_load_blkG (by first | rfl | go_simp) rowAg (.tmp 10) (by rfl) (w3.heap.size + 1) (by rfl) r8 rfl ?_) | ((with_reducible show wpList _ _ _ (⟨some 62, _, _, _, _, _⟩ :: _) _ _); refine wpList_cmp_row (b := false) (by first | rfl | go_simp) .neq 92 92 (.tmp 60) (.tmp 61) (by rfl) (by rfl) (by rfl) guard_ag (neq_same y _) ?_))
        refine (awake06_any _).mono ?_; rintro e w10 ⟨rfl, hb10⟩
        go_wp2
        go_ret
        exact ⟨rfl, B8.out.trans hb10⟩
  · go_enter Try.func13, Try.ntmps13
    go_wp2_with fail
    refine (awake06_any _).mono ?_; rintro e w2 ⟨rfl, hb⟩
    go_wp2
    go_ret
    exact ⟨rfl, hW.trans hb⟩
theorem walk_aggTakes (b : ByteArray) (hb : b.size ≤ 9223372036854775807) (n : Int) (wn : (Lit.int .i64 n).wf = true) (w : World) :
    Calls Try.prog 13 #[.string b, .int .i64 n] w fun e w' => e = .returned (.bool true) ∧ Bel w w' := by
  obtain ⟨⟨l⟩⟩ := b
  exact walkl_aggTakes w l n (by simpa [ByteArray.size] using hb) (bounds_i64 wn)

end Go.Proofs.Ytllgcehgdpgnnaa
