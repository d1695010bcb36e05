/- The walk of the law TierTakes. -/
import Derived.Test.YtnjpoamebkehbaaTierS
import Derived.Test.YtnjpoamebkehbaaTierChecksW
namespace Go.Proofs.Ytnjpoamebkehbaa
open Go.RowKit
set_option linter.unusedVariables false
set_option linter.unusedSimpArgs false

set_option maxRecDepth 100000 in
set_option maxHeartbeats 2000000 in
theorem walkl_tierTakes (w : World) (s : List UInt8) (above : Int) (hs : s.length ≤ 9223372036854775807) (ha : I64 above) :
    Calls Try.prog 5 #[.string ⟨s.toArray⟩, .int .i64 above] w fun e w' => e = .returned (.bool true) ∧ Bel w w' := by
  have hmf : ∀ (fn : Fn) (first cap : Array Value) (w : World), (Instr.makeFunc fn first cap).run Try.prog w = .ok (.func fn first cap) w := fun _ _ _ _ => rfl
  have bm := Blk.new w 3 #[.int .i64 above]
  have hW := (Bel.refl w).alloc (.cells #[.int .i64 above] 3)
  by_cases hl : s.length ≤ 2000
  · have HK := Lib.hid (fun w => trtake_any s above w ha (by omega))
    have hrd0 := fun w => rtrread_any s 0 above w (by omega) (by omega) ha
    simp only [List.drop_zero] at hrd0
    have HRD := Lib.hid hrd0
    clear hrd0
    cases ho : ptier above s with
    | error k =>
      have Ho := Lib.hid ho
      have hT : trtake above s = (.nil, k) := by unfold trtake; rw [ho]
      rw [hT] at HK
      rw [ho] at HRD
      have hk := ptier_err ho
      have HEnd : Hid (∀ t, endOf s t k = k) := by show ∀ t, _ = _; intro t; unfold endOf; rw [if_pos hk]
      have dk : (k == 0) = false := by simpa using hk
      have dk2 : (k != 0) = true := by simpa using hk
      clear ho hk hT
      go_enter Try.func5, Try.ntmps5
      go_wp2_with fail
      refine (HK.out _).mono ?_; rintro e w1 ⟨T, rfl, hTc, hTr, hTn, hb1⟩
      have M1 := Lib.hid ((bm.bel hb1).alloc (.cells T.cs 30))
      have B1 := Lib.hid ((hW.trans hb1).alloc (.cells T.cs 30))
      have P1 := Lib.hid ((Bel.refl w1).alloc (.cells T.cs 30))
      have A1 := Lib.hid (Blk.new w1 30 T.cs)
      have HTc := Lib.hid hTc
      have HTr := Lib.hid hTr
      have c1 := M1.out.cell 0
      simp only [List.getElem?_toArray, List.getElem?_cons_zero] at c1
      dsimp only
      clear bm hW hb1 hTc hTr
      go_wp2_with ((with_reducible show wpList _ _ _ (⟨_, .store _ (.tmp 5) _, _, _, _, _⟩ :: _) _ _); refine wpList_store_new rfl rowTir (.tmp 5) (.tmp 22) rfl rfl rfl T.cs rfl rfl (tir_one T) ?_)
      refine (HRD.out _).mono ?_; rintro e w3 ⟨t, k3, U, rfl, hb3, hS, hUo⟩
      obtain rfl : k = k3 := by
        rcases hS.out with ⟨_, h⟩ | ⟨_, _, _, _, h⟩
        · injection h with h
        · cases h
      clear hS hUo
      have M3 := Lib.hid (M1.out.bel hb3)
      have B3 := Lib.hid (B1.out.trans hb3)
      have P3 := Lib.hid (P1.out.trans hb3)
      have A3 := Lib.hid (A1.out.bel hb3)
      have N3 := Lib.hid (Bel.refl w3)
      clear c1 hb3 M1 B1 P1 A1
      have p4 := (Blk.new w3 47 #[.string ⟨#[]⟩, .int .i64 0, .int .i64 0]).alloc (.cells #[.string ⟨#[]⟩, .slice none 0 0, .slice none 0 0] 30)
      have r4 := Blk.new (w3.alloc (.cells #[.string ⟨#[]⟩, .int .i64 0, .int .i64 0] 47)) 30 #[.string ⟨#[]⟩, .slice none 0 0, .slice none 0 0]
      rw [World.size_alloc] at r4
      have hz3 : w.heap.size < w3.heap.size := M3.out.lt
      have hy3 : w1.heap.size < w3.heap.size := A3.out.lt
      have M4 := Lib.hid ((M3.out.alloc (.cells #[.string ⟨#[]⟩, .int .i64 0, .int .i64 0] 47)).alloc (.cells #[.string ⟨#[]⟩, .slice none 0 0, .slice none 0 0] 30))
      have B4 := Lib.hid ((B3.out.alloc (.cells #[.string ⟨#[]⟩, .int .i64 0, .int .i64 0] 47)).alloc (.cells #[.string ⟨#[]⟩, .slice none 0 0, .slice none 0 0] 30))
      have P4 := Lib.hid ((P3.out.alloc (.cells #[.string ⟨#[]⟩, .int .i64 0, .int .i64 0] 47)).alloc (.cells #[.string ⟨#[]⟩, .slice none 0 0, .slice none 0 0] 30))
      have A4 := Lib.hid ((A3.out.alloc (.cells #[.string ⟨#[]⟩, .int .i64 0, .int .i64 0] 47)).alloc (.cells #[.string ⟨#[]⟩, .slice none 0 0, .slice none 0 0] 30))
      have N4 := Lib.hid ((N3.out.alloc (.cells #[.string ⟨#[]⟩, .int .i64 0, .int .i64 0] 47)).alloc (.cells #[.string ⟨#[]⟩, .slice none 0 0, .slice none 0 0] 30))
      clear M3 B3 P3 A3 N3
      go_wp2_with (first | ((with_reducible show wpList _ _ _ (⟨_, .store _ (.tmp 7) _, _, _, _, _⟩ :: _) _ _); refine wpList_store_blk rfl rowScn (.tmp 7) (.tmp 29) rfl w3.heap.size rfl p4 rfl (scs s t k) rfl rfl (scs_one _ _ _) ?_; intro w5 p5 hg5; have M5 := Lib.hid (M4.out.grown hg5 (by intro e; injection e with e; omega)); have B5 := Lib.hid (B4.out.grownAt hg5 (by omega)); have P5 := Lib.hid (P4.out.grownAt hg5 (by omega)); have A5 := Lib.hid (A4.out.grown hg5 (by intro e; injection e with e; omega)); have N5 := Lib.hid (N4.out.grownAt hg5 (by omega)); have r5 := r4.grown hg5 (by simp); clear hg5 p4 r4 M4 B4 P4 A4 N4) | ((with_reducible show wpList _ _ _ (⟨_, .store _ (.tmp 8) _, _, _, _, _⟩ :: _) _ _); refine wpList_store_blk rfl rowTir (.tmp 8) (.tmp 30) rfl (w3.heap.size + 1) rfl r5 rfl U.cs rfl rfl (tir_one U) ?_; intro w6 r6 hg6; have M6 := Lib.hid (M5.out.grown hg6 (by intro e; injection e with e; omega)); have B6 := Lib.hid (B5.out.grownAt hg6 (by omega)); have P6 := Lib.hid (P5.out.grownAt hg6 (by omega)); have A6 := Lib.hid (A5.out.grown hg6 (by intro e; injection e with e; omega)); have N6 := Lib.hid (N5.out.grownAt hg6 (by omega)); have p6 := p5.grown hg6 (by simp); clear hg6 p5 r5 M5 B5 P5 A5 N5) | ((with_reducible show wpList _ _ _ (⟨some 31, _, _, _, _, _⟩ :: _) _ _); refine wpList_load_blk rfl rowScn (.tmp 7) rfl w3.heap.size rfl p6 rfl ?_))
      refine (rend_any s t k _).mono ?_; rintro e w7 ⟨rfl, hb7⟩
      rw [HEnd.out]
      have M7 := Lib.hid (M6.out.bel hb7)
      have B7 := Lib.hid (B6.out.trans hb7)
      have P7 := Lib.hid (P6.out.trans hb7)
      have A7 := Lib.hid (A6.out.bel hb7)
      have N7 := Lib.hid (N6.out.trans hb7)
      have p7 := Lib.hid (p6.bel hb7)
      have r7 := Lib.hid (r6.bel hb7)
      clear hb7 M6 B6 P6 A6 N6 p6 r6
      go_wp2_with fail
      have hV := (Bel.refl w7).alloc (.cells #[.string ⟨#[]⟩, .slice none 0 0, .slice none 0 0] 30)
      have hVz : (w7.alloc (.cells #[.string ⟨#[]⟩, .slice none 0 0, .slice none 0 0] 30)).heap.size = w7.heap.size + 1 := by simp
      have o0 := Blk.new w7 30 #[.string ⟨#[]⟩, .slice none 0 0, .slice none 0 0]
      generalize (w7.alloc (.cells #[.string ⟨#[]⟩, .slice none 0 0, .slice none 0 0] 30)) = V at *
      refine (all_any 31 #[.pointer (some ⟨w.heap.size, 0, none⟩), .pointer (some ⟨w7.heap.size, 0, none⟩)] s V (by omega) (RTr w7 V.heap.size w7.heap.size (ptier above s) prErr) (cf_any Try.func31 (by kernel_rfl) (by kernel_rfl)) (fun w8 h1 h2 h3 h4 h5 => trl1_any w7 V.heap.size w7.heap.size w.heap.size s above w8 ha (.begin hV h1 h3 h4 h5) (Nat.le_refl _) (by omega) ((M7.out.bel (hV.trans h1)).cell 0) .nil (o0.bel h1))).mono ?_
      rintro e w9 ⟨k8, w8, rfl, ⟨hb8, hk8, Y, hy, hya⟩, hbut, _⟩
      have hb9 := hb8.but2 (B := V.heap.size) (by omega) hbut
      have y9 := Lib.hid (hy.but2 hbut (by omega) (by omega))
      have p9 := p7.out.bel hb9
      obtain ⟨p90, p91, p92, _, _, _⟩ := p9.three
      have r9 := Lib.hid (r7.out.bel hb9)
      have M9 := Lib.hid (M7.out.bel hb9)
      have B9 := Lib.hid (B7.out.trans hb9)
      have P9 := Lib.hid (P7.out.trans hb9)
      have A9 := Lib.hid (A7.out.bel hb9)
      have N9 := Lib.hid (N7.out.trans hb9)
      have m9 := M9.out.cell 0
      simp only [List.getElem?_toArray, List.getElem?_cons_zero] at m9
      rw [Ho.out] at hk8 hya
      dsimp only [prErr] at hk8
      subst hk8
      have T9 := Lib.hid (HTr.out.mono P9.out)
      clear hya hy hbut hb8 hb9 hV hVz o0 p7 r7 p9 M7 B7 P7 A7 N7 M9
      have A10 := A9
      have B10 := B9
      have T10 := T9
      clear A9 B9 T9
      go_wp2_with (first | ((with_reducible show wpList _ _ _ (⟨some 53, _, _, _, _, _⟩ :: _) _ _); refine wpList_load_blkG (by first | rfl | go_simp) rowTir (.tmp 5) (by rfl) w1.heap.size (by rfl) A10.out rfl ?_))
      refine (trsame_any T .nil _ T10.out (tir_nil_rd _)).mono ?_; rintro e w11 ⟨rfl, hb11⟩
      rw [HTc.out, show sameC TC.nil Tir.nil.con = true from rfl]
      go_wp2_with fail
      refine (awake15_any _).mono ?_; rintro e w13 ⟨rfl, hb13⟩
      go_wp2
      go_ret
      exact ⟨rfl, (B10.out.trans hb11).trans hb13⟩
    | ok q =>
      obtain ⟨tc, l⟩ := q
      have Ho := Lib.hid ho
      rw [ho] at HRD
      by_cases hl0 : l = []
      · subst hl0
        have hT : trtake above s = (tc, 0) := by unfold trtake; rw [ho]; simp
        rw [hT] at HK
        obtain ⟨hE0, hbk⟩ := ptier_back ho
        rw [List.append_nil] at hbk
        have HBk := Lib.hid hbk.symm
        have HPV : Hid (tierPutV tc above = (tierPut tc, 0)) := by show _ = _; unfold tierPutV; rw [if_pos hE0]
        clear ho hT hbk hE0
        obtain ⟨l, hll⟩ : ∃ l : List UInt8, l = [] := ⟨_, rfl⟩
        rw [← hll] at HRD Ho
        have HLL := Lib.hid hll
        clear hll
        go_enter Try.func5, Try.ntmps5
        go_wp2_with fail
        refine (HK.out _).mono ?_; rintro e w1 ⟨T, rfl, hTc, hTr, hTn, hb1⟩
        have M1 := Lib.hid ((bm.bel hb1).alloc (.cells T.cs 30))
        have B1 := Lib.hid ((hW.trans hb1).alloc (.cells T.cs 30))
        have P1 := Lib.hid ((Bel.refl w1).alloc (.cells T.cs 30))
        have A1 := Lib.hid (Blk.new w1 30 T.cs)
        have HTc := Lib.hid hTc
        have HTr := Lib.hid hTr
        have c1 := M1.out.cell 0
        simp only [List.getElem?_toArray, List.getElem?_cons_zero] at c1
        dsimp only
        clear bm hW hb1 hTc hTr
        go_wp2_with ((with_reducible show wpList _ _ _ (⟨_, .store _ (.tmp 5) _, _, _, _, _⟩ :: _) _ _); refine wpList_store_new rfl rowTir (.tmp 5) (.tmp 22) rfl rfl rfl T.cs rfl rfl (tir_one T) ?_)
        refine (HRD.out _).mono ?_; rintro e w3 ⟨t, k3, U, rfl, hb3, hS, hUo⟩
        obtain ⟨rfl, tn, rfl, htn, hUc, hlt⟩ : k3 = 0 ∧ ∃ tn : Nat, t = tn ∧ tn ≤ s.length ∧ U.con = tc ∧ l = s.drop tn := by
          rcases hS.out with ⟨_, h⟩ | ⟨h0, tn, h1, h2, h⟩
          · cases h
          · injection h with h; injection h with h3 h4; exact ⟨h0, tn, h1, h2, h3.symm, h4⟩
        have HUc := Lib.hid hUc
        have HUo := Lib.hid (hUo rfl).rd
        have HLT := Lib.hid hlt
        clear hS hUo hUc hlt
        have M3 := Lib.hid (M1.out.bel hb3)
        have B3 := Lib.hid (B1.out.trans hb3)
        have P3 := Lib.hid (P1.out.trans hb3)
        have A3 := Lib.hid (A1.out.bel hb3)
        have N3 := Lib.hid (Bel.refl w3)
        clear c1 hb3 M1 B1 P1 A1
        have p4 := (Blk.new w3 47 #[.string ⟨#[]⟩, .int .i64 0, .int .i64 0]).alloc (.cells #[.string ⟨#[]⟩, .slice none 0 0, .slice none 0 0] 30)
        have r4 := Blk.new (w3.alloc (.cells #[.string ⟨#[]⟩, .int .i64 0, .int .i64 0] 47)) 30 #[.string ⟨#[]⟩, .slice none 0 0, .slice none 0 0]
        rw [World.size_alloc] at r4
        have hz3 : w.heap.size < w3.heap.size := M3.out.lt
        have hy3 : w1.heap.size < w3.heap.size := A3.out.lt
        have M4 := Lib.hid ((M3.out.alloc (.cells #[.string ⟨#[]⟩, .int .i64 0, .int .i64 0] 47)).alloc (.cells #[.string ⟨#[]⟩, .slice none 0 0, .slice none 0 0] 30))
        have B4 := Lib.hid ((B3.out.alloc (.cells #[.string ⟨#[]⟩, .int .i64 0, .int .i64 0] 47)).alloc (.cells #[.string ⟨#[]⟩, .slice none 0 0, .slice none 0 0] 30))
        have P4 := Lib.hid ((P3.out.alloc (.cells #[.string ⟨#[]⟩, .int .i64 0, .int .i64 0] 47)).alloc (.cells #[.string ⟨#[]⟩, .slice none 0 0, .slice none 0 0] 30))
        have A4 := Lib.hid ((A3.out.alloc (.cells #[.string ⟨#[]⟩, .int .i64 0, .int .i64 0] 47)).alloc (.cells #[.string ⟨#[]⟩, .slice none 0 0, .slice none 0 0] 30))
        have N4 := Lib.hid ((N3.out.alloc (.cells #[.string ⟨#[]⟩, .int .i64 0, .int .i64 0] 47)).alloc (.cells #[.string ⟨#[]⟩, .slice none 0 0, .slice none 0 0] 30))
        clear M3 B3 P3 A3 N3
        go_wp2_with (first | ((with_reducible show wpList _ _ _ (⟨_, .store _ (.tmp 7) _, _, _, _, _⟩ :: _) _ _); refine wpList_store_blk rfl rowScn (.tmp 7) (.tmp 29) rfl w3.heap.size rfl p4 rfl (scs s tn 0) rfl rfl (scs_one _ _ _) ?_; intro w5 p5 hg5; have M5 := Lib.hid (M4.out.grown hg5 (by intro e; injection e with e; omega)); have B5 := Lib.hid (B4.out.grownAt hg5 (by omega)); have P5 := Lib.hid (P4.out.grownAt hg5 (by omega)); have A5 := Lib.hid (A4.out.grown hg5 (by intro e; injection e with e; omega)); have N5 := Lib.hid (N4.out.grownAt hg5 (by omega)); have r5 := r4.grown hg5 (by simp); clear hg5 p4 r4 M4 B4 P4 A4 N4) | ((with_reducible show wpList _ _ _ (⟨_, .store _ (.tmp 8) _, _, _, _, _⟩ :: _) _ _); refine wpList_store_blk rfl rowTir (.tmp 8) (.tmp 30) rfl (w3.heap.size + 1) rfl r5 rfl U.cs rfl rfl (tir_one U) ?_; intro w6 r6 hg6; have M6 := Lib.hid (M5.out.grown hg6 (by intro e; injection e with e; omega)); have B6 := Lib.hid (B5.out.grownAt hg6 (by omega)); have P6 := Lib.hid (P5.out.grownAt hg6 (by omega)); have A6 := Lib.hid (A5.out.grown hg6 (by intro e; injection e with e; omega)); have N6 := Lib.hid (N5.out.grownAt hg6 (by omega)); have p6 := p5.grown hg6 (by simp); clear hg6 p5 r5 M5 B5 P5 A5 N5) | ((with_reducible show wpList _ _ _ (⟨some 31, _, _, _, _, _⟩ :: _) _ _); refine wpList_load_blk rfl rowScn (.tmp 7) rfl w3.heap.size rfl p6 rfl ?_))
        refine (rend_any s tn 0 _).mono ?_; rintro e w7 ⟨rfl, hb7⟩
        rw [show endOf s tn 0 = 0 by unfold endOf; rw [if_neg (by omega), if_pos (by have := congrArg List.length (HLL.out.symm.trans HLT.out); simp at this; omega)]]
        have M7 := Lib.hid (M6.out.bel hb7)
        have B7 := Lib.hid (B6.out.trans hb7)
        have P7 := Lib.hid (P6.out.trans hb7)
        have A7 := Lib.hid (A6.out.bel hb7)
        have N7 := Lib.hid (N6.out.trans hb7)
        have p7 := Lib.hid (p6.bel hb7)
        have r7 := Lib.hid (r6.bel hb7)
        clear hb7 M6 B6 P6 A6 N6 p6 r6
        go_wp2_with fail
        have hV := (Bel.refl w7).alloc (.cells #[.string ⟨#[]⟩, .slice none 0 0, .slice none 0 0] 30)
        have hVz : (w7.alloc (.cells #[.string ⟨#[]⟩, .slice none 0 0, .slice none 0 0] 30)).heap.size = w7.heap.size + 1 := by simp
        have o0 := Blk.new w7 30 #[.string ⟨#[]⟩, .slice none 0 0, .slice none 0 0]
        generalize (w7.alloc (.cells #[.string ⟨#[]⟩, .slice none 0 0, .slice none 0 0] 30)) = V at *
        refine (all_any 31 #[.pointer (some ⟨w.heap.size, 0, none⟩), .pointer (some ⟨w7.heap.size, 0, none⟩)] s V (by omega) (RTr w7 V.heap.size w7.heap.size (ptier above s) prErr) (cf_any Try.func31 (by kernel_rfl) (by kernel_rfl)) (fun w8 h1 h2 h3 h4 h5 => trl1_any w7 V.heap.size w7.heap.size w.heap.size s above w8 ha (.begin hV h1 h3 h4 h5) (Nat.le_refl _) (by omega) ((M7.out.bel (hV.trans h1)).cell 0) .nil (o0.bel h1))).mono ?_
        rintro e w9 ⟨k8, w8, rfl, ⟨hb8, hk8, Y, hy, hya⟩, hbut, _⟩
        have hb9 := hb8.but2 (B := V.heap.size) (by omega) hbut
        have y9 := Lib.hid (hy.but2 hbut (by omega) (by omega))
        have p9 := p7.out.bel hb9
        obtain ⟨p90, p91, p92, _, _, _⟩ := p9.three
        have r9 := Lib.hid (r7.out.bel hb9)
        have M9 := Lib.hid (M7.out.bel hb9)
        have B9 := Lib.hid (B7.out.trans hb9)
        have P9 := Lib.hid (P7.out.trans hb9)
        have A9 := Lib.hid (A7.out.bel hb9)
        have N9 := Lib.hid (N7.out.trans hb9)
        have m9 := M9.out.cell 0
        simp only [List.getElem?_toArray, List.getElem?_cons_zero] at m9
        rw [Ho.out] at hk8 hya
        dsimp only [prErr] at hk8
        subst hk8
        obtain ⟨hYc, hYo⟩ := hya _ _ rfl
        have HYc := Lib.hid hYc
        have HYo := Lib.hid (hYo.but2 hbut (by omega)).rd
        clear hYc hYo
        have T9 := Lib.hid (HTr.out.mono P9.out)
        have U9 := Lib.hid (HUo.out.mono N9.out)
        clear hya hy hbut hb8 hb9 hV hVz o0 p7 r7 p9 M7 B7 P7 A7 N7 M9
        go_wp2_with (first | ((with_reducible show wpList _ _ _ (⟨some 45, _, _, _, _, _⟩ :: _) _ _); refine wpList_load_blkG (by first | rfl | go_simp) rowTir (.tmp 10) (by rfl) w7.heap.size (by rfl) y9.out rfl ?_) | ((with_reducible show wpList _ _ _ (⟨some 46, _, _, _, _, _⟩ :: _) _ _); refine wpList_load_blkG (by first | rfl | go_simp) rowTir (.tmp 8) (by rfl) (w3.heap.size + 1) (by rfl) r9.out rfl ?_))
        refine (trsame_any Y U _ HYo.out U9.out).mono ?_; rintro e w10 ⟨rfl, hb10⟩
        rw [HYc.out, HUc.out, sameC_self]
        have A10 := Lib.hid (A9.out.bel hb10)
        have r10 := Lib.hid (r9.out.bel hb10)
        have B10 := Lib.hid (B9.out.trans hb10)
        have T10 := Lib.hid (T9.out.mono hb10)
        have U10 := Lib.hid (U9.out.mono hb10)
        replace m9 := (hb10.cell (World.block_lt_of_cell? _ _ m9)).trans m9
        clear hb10 A9 r9 B9 T9 U9 y9 p90 p91 p92
        go_wp2_with (first | ((with_reducible show wpList _ _ _ (⟨some 65, _, _, _, _, _⟩ :: _) _ _); refine wpList_load_blkG (by first | rfl | go_simp) rowTir (.tmp 5) (by rfl) w1.heap.size (by rfl) A10.out rfl ?_))
        refine (trput_any T above _ T10.out (by omega) ha).mono ?_; rintro e w11 ⟨rfl, hb11⟩
        rw [HTc.out, HPV.out]
        have A11 := A10.out.bel hb11
        have r11 := r10.out.bel hb11
        have e9 : (tierPut tc == s) = true := by rw [HBk.out, beq_self_eq_true]
        dsimp only
        go_wp2_with (first | ((with_reducible show wpList _ _ _ (⟨some 70, _, _, _, _, _⟩ :: _) _ _); refine wpList_load_blkG (by first | rfl | go_simp) rowTir (.tmp 5) (by rfl) w1.heap.size (by rfl) A11 rfl ?_) | ((with_reducible show wpList _ _ _ (⟨some 71, _, _, _, _, _⟩ :: _) _ _); refine wpList_load_blkG (by first | rfl | go_simp) rowTir (.tmp 8) (by rfl) (w3.heap.size + 1) (by rfl) r11 rfl ?_))
        refine (trsame_any T U _ (T10.out.mono hb11) (U10.out.mono hb11)).mono ?_; rintro e w12 ⟨rfl, hb12⟩
        rw [HTc.out, HUc.out, sameC_self]
        go_wp2_with fail
        refine (awake15_any _).mono ?_; rintro e w13 ⟨rfl, hb13⟩
        go_wp2
        go_ret
        exact ⟨rfl, ((B10.out.trans hb11).trans hb12).trans hb13⟩
      · have hT : trtake above s = (.nil, 3) := by unfold trtake; rw [ho]; simp [hl0]
        rw [hT] at HK
        have Hl0 := Lib.hid hl0
        clear ho hl0 hT
        go_enter Try.func5, Try.ntmps5
        go_wp2_with fail
        refine (HK.out _).mono ?_; rintro e w1 ⟨T, rfl, hTc, hTr, hTn, hb1⟩
        have M1 := Lib.hid ((bm.bel hb1).alloc (.cells T.cs 30))
        have B1 := Lib.hid ((hW.trans hb1).alloc (.cells T.cs 30))
        have P1 := Lib.hid ((Bel.refl w1).alloc (.cells T.cs 30))
        have A1 := Lib.hid (Blk.new w1 30 T.cs)
        have HTc := Lib.hid hTc
        have HTr := Lib.hid hTr
        have c1 := M1.out.cell 0
        simp only [List.getElem?_toArray, List.getElem?_cons_zero] at c1
        dsimp only
        clear bm hW hb1 hTc hTr
        go_wp2_with ((with_reducible show wpList _ _ _ (⟨_, .store _ (.tmp 5) _, _, _, _, _⟩ :: _) _ _); refine wpList_store_new rfl rowTir (.tmp 5) (.tmp 22) rfl rfl rfl T.cs rfl rfl (tir_one T) ?_)
        refine (HRD.out _).mono ?_; rintro e w3 ⟨t, k3, U, rfl, hb3, hS, hUo⟩
        obtain ⟨rfl, tn, rfl, htn, hUc, hlt⟩ : k3 = 0 ∧ ∃ tn : Nat, t = tn ∧ tn ≤ s.length ∧ U.con = tc ∧ l = s.drop tn := by
          rcases hS.out with ⟨_, h⟩ | ⟨h0, tn, h1, h2, h⟩
          · cases h
          · injection h with h; injection h with h3 h4; exact ⟨h0, tn, h1, h2, h3.symm, h4⟩
        have HUc := Lib.hid hUc
        have HUo := Lib.hid (hUo rfl).rd
        have HLT := Lib.hid hlt
        clear hS hUo hUc hlt
        have M3 := Lib.hid (M1.out.bel hb3)
        have B3 := Lib.hid (B1.out.trans hb3)
        have P3 := Lib.hid (P1.out.trans hb3)
        have A3 := Lib.hid (A1.out.bel hb3)
        have N3 := Lib.hid (Bel.refl w3)
        clear c1 hb3 M1 B1 P1 A1
        have p4 := (Blk.new w3 47 #[.string ⟨#[]⟩, .int .i64 0, .int .i64 0]).alloc (.cells #[.string ⟨#[]⟩, .slice none 0 0, .slice none 0 0] 30)
        have r4 := Blk.new (w3.alloc (.cells #[.string ⟨#[]⟩, .int .i64 0, .int .i64 0] 47)) 30 #[.string ⟨#[]⟩, .slice none 0 0, .slice none 0 0]
        rw [World.size_alloc] at r4
        have hz3 : w.heap.size < w3.heap.size := M3.out.lt
        have hy3 : w1.heap.size < w3.heap.size := A3.out.lt
        have M4 := Lib.hid ((M3.out.alloc (.cells #[.string ⟨#[]⟩, .int .i64 0, .int .i64 0] 47)).alloc (.cells #[.string ⟨#[]⟩, .slice none 0 0, .slice none 0 0] 30))
        have B4 := Lib.hid ((B3.out.alloc (.cells #[.string ⟨#[]⟩, .int .i64 0, .int .i64 0] 47)).alloc (.cells #[.string ⟨#[]⟩, .slice none 0 0, .slice none 0 0] 30))
        have P4 := Lib.hid ((P3.out.alloc (.cells #[.string ⟨#[]⟩, .int .i64 0, .int .i64 0] 47)).alloc (.cells #[.string ⟨#[]⟩, .slice none 0 0, .slice none 0 0] 30))
        have A4 := Lib.hid ((A3.out.alloc (.cells #[.string ⟨#[]⟩, .int .i64 0, .int .i64 0] 47)).alloc (.cells #[.string ⟨#[]⟩, .slice none 0 0, .slice none 0 0] 30))
        have N4 := Lib.hid ((N3.out.alloc (.cells #[.string ⟨#[]⟩, .int .i64 0, .int .i64 0] 47)).alloc (.cells #[.string ⟨#[]⟩, .slice none 0 0, .slice none 0 0] 30))
        clear M3 B3 P3 A3 N3
        go_wp2_with (first | ((with_reducible show wpList _ _ _ (⟨_, .store _ (.tmp 7) _, _, _, _, _⟩ :: _) _ _); refine wpList_store_blk rfl rowScn (.tmp 7) (.tmp 29) rfl w3.heap.size rfl p4 rfl (scs s tn 0) rfl rfl (scs_one _ _ _) ?_; intro w5 p5 hg5; have M5 := Lib.hid (M4.out.grown hg5 (by intro e; injection e with e; omega)); have B5 := Lib.hid (B4.out.grownAt hg5 (by omega)); have P5 := Lib.hid (P4.out.grownAt hg5 (by omega)); have A5 := Lib.hid (A4.out.grown hg5 (by intro e; injection e with e; omega)); have N5 := Lib.hid (N4.out.grownAt hg5 (by omega)); have r5 := r4.grown hg5 (by simp); clear hg5 p4 r4 M4 B4 P4 A4 N4) | ((with_reducible show wpList _ _ _ (⟨_, .store _ (.tmp 8) _, _, _, _, _⟩ :: _) _ _); refine wpList_store_blk rfl rowTir (.tmp 8) (.tmp 30) rfl (w3.heap.size + 1) rfl r5 rfl U.cs rfl rfl (tir_one U) ?_; intro w6 r6 hg6; have M6 := Lib.hid (M5.out.grown hg6 (by intro e; injection e with e; omega)); have B6 := Lib.hid (B5.out.grownAt hg6 (by omega)); have P6 := Lib.hid (P5.out.grownAt hg6 (by omega)); have A6 := Lib.hid (A5.out.grown hg6 (by intro e; injection e with e; omega)); have N6 := Lib.hid (N5.out.grownAt hg6 (by omega)); have p6 := p5.grown hg6 (by simp); clear hg6 p5 r5 M5 B5 P5 A5 N5) | ((with_reducible show wpList _ _ _ (⟨some 31, _, _, _, _, _⟩ :: _) _ _); refine wpList_load_blk rfl rowScn (.tmp 7) rfl w3.heap.size rfl p6 rfl ?_))
        refine (rend_any s tn 0 _).mono ?_; rintro e w7 ⟨rfl, hb7⟩
        rw [show endOf s tn 0 = 3 by unfold endOf; rw [if_neg (by omega), if_neg (fun h => Hl0.out (by rw [HLT.out]; exact List.drop_of_length_le (by omega)))]]
        have M7 := Lib.hid (M6.out.bel hb7)
        have B7 := Lib.hid (B6.out.trans hb7)
        have P7 := Lib.hid (P6.out.trans hb7)
        have A7 := Lib.hid (A6.out.bel hb7)
        have N7 := Lib.hid (N6.out.trans hb7)
        have p7 := Lib.hid (p6.bel hb7)
        have r7 := Lib.hid (r6.bel hb7)
        clear hb7 M6 B6 P6 A6 N6 p6 r6
        go_wp2_with fail
        have hV := (Bel.refl w7).alloc (.cells #[.string ⟨#[]⟩, .slice none 0 0, .slice none 0 0] 30)
        have hVz : (w7.alloc (.cells #[.string ⟨#[]⟩, .slice none 0 0, .slice none 0 0] 30)).heap.size = w7.heap.size + 1 := by simp
        have o0 := Blk.new w7 30 #[.string ⟨#[]⟩, .slice none 0 0, .slice none 0 0]
        generalize (w7.alloc (.cells #[.string ⟨#[]⟩, .slice none 0 0, .slice none 0 0] 30)) = V at *
        refine (all_any 31 #[.pointer (some ⟨w.heap.size, 0, none⟩), .pointer (some ⟨w7.heap.size, 0, none⟩)] s V (by omega) (RTr w7 V.heap.size w7.heap.size (ptier above s) prErr) (cf_any Try.func31 (by kernel_rfl) (by kernel_rfl)) (fun w8 h1 h2 h3 h4 h5 => trl1_any w7 V.heap.size w7.heap.size w.heap.size s above w8 ha (.begin hV h1 h3 h4 h5) (Nat.le_refl _) (by omega) ((M7.out.bel (hV.trans h1)).cell 0) .nil (o0.bel h1))).mono ?_
        rintro e w9 ⟨k8, w8, rfl, ⟨hb8, hk8, Y, hy, hya⟩, hbut, _⟩
        have hb9 := hb8.but2 (B := V.heap.size) (by omega) hbut
        have y9 := Lib.hid (hy.but2 hbut (by omega) (by omega))
        have p9 := p7.out.bel hb9
        obtain ⟨p90, p91, p92, _, _, _⟩ := p9.three
        have r9 := Lib.hid (r7.out.bel hb9)
        have M9 := Lib.hid (M7.out.bel hb9)
        have B9 := Lib.hid (B7.out.trans hb9)
        have P9 := Lib.hid (P7.out.trans hb9)
        have A9 := Lib.hid (A7.out.bel hb9)
        have N9 := Lib.hid (N7.out.trans hb9)
        have m9 := M9.out.cell 0
        simp only [List.getElem?_toArray, List.getElem?_cons_zero] at m9
        rw [Ho.out] at hk8 hya
        dsimp only [prErr] at hk8
        subst hk8
        obtain ⟨hYc, hYo⟩ := hya _ _ rfl
        have HYc := Lib.hid hYc
        have HYo := Lib.hid (hYo.but2 hbut (by omega)).rd
        clear hYc hYo
        have T9 := Lib.hid (HTr.out.mono P9.out)
        have U9 := Lib.hid (HUo.out.mono N9.out)
        clear hya hy hbut hb8 hb9 hV hVz o0 p7 r7 p9 M7 B7 P7 A7 N7 M9
        go_wp2_with (first | ((with_reducible show wpList _ _ _ (⟨some 45, _, _, _, _, _⟩ :: _) _ _); refine wpList_load_blkG (by first | rfl | go_simp) rowTir (.tmp 10) (by rfl) w7.heap.size (by rfl) y9.out rfl ?_) | ((with_reducible show wpList _ _ _ (⟨some 46, _, _, _, _, _⟩ :: _) _ _); refine wpList_load_blkG (by first | rfl | go_simp) rowTir (.tmp 8) (by rfl) (w3.heap.size + 1) (by rfl) r9.out rfl ?_))
        refine (trsame_any Y U _ HYo.out U9.out).mono ?_; rintro e w10 ⟨rfl, hb10⟩
        rw [HYc.out, HUc.out, sameC_self]
        have A10 := Lib.hid (A9.out.bel hb10)
        have r10 := Lib.hid (r9.out.bel hb10)
        have B10 := Lib.hid (B9.out.trans hb10)
        have T10 := Lib.hid (T9.out.mono hb10)
        have U10 := Lib.hid (U9.out.mono hb10)
        replace m9 := (hb10.cell (World.block_lt_of_cell? _ _ m9)).trans m9
        clear hb10 A9 r9 B9 T9 U9 y9 p90 p91 p92
        go_wp2_with (first | ((with_reducible show wpList _ _ _ (⟨some 53, _, _, _, _, _⟩ :: _) _ _); refine wpList_load_blkG (by first | rfl | go_simp) rowTir (.tmp 5) (by rfl) w1.heap.size (by rfl) A10.out rfl ?_))
        refine (trsame_any T .nil _ T10.out (tir_nil_rd _)).mono ?_; rintro e w11 ⟨rfl, hb11⟩
        rw [HTc.out, show sameC TC.nil Tir.nil.con = true from rfl]
        go_wp2_with fail
        refine (awake15_any _).mono ?_; rintro e w13 ⟨rfl, hb13⟩
        go_wp2
        go_ret
        exact ⟨rfl, (B10.out.trans hb11).trans hb13⟩
  · go_enter Try.func5, Try.ntmps5
    go_wp2_with fail
    refine (awake15_any _).mono ?_; rintro e w2 ⟨rfl, hb⟩
    go_wp2
    go_ret
    exact ⟨rfl, hW.trans hb⟩
theorem walk_tierTakes (b : ByteArray) (hb : b.size ≤ 9223372036854775807) (n : Int) (wn : (Lit.int .i64 n).wf = true) (w : World) :
    Calls Try.prog 5 #[.string b, .int .i64 n] w fun e w' => e = .returned (.bool true) ∧ Bel w w' := by
  obtain ⟨⟨l⟩⟩ := b
  exact walkl_tierTakes w l n (by simpa [ByteArray.size] using hb) (bounds_i64 wn)

end Go.Proofs.Ytnjpoamebkehbaa
