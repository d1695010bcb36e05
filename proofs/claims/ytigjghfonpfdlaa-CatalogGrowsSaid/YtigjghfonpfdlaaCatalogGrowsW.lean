/- The law CatalogGrows: its walk. -/
import Derived.Test.YtigjghfonpfdlaaCatH
import Derived.Test.YtigjghfonpfdlaaSchZ
namespace Go.Proofs.Ytigjghfonpfdlaa
open Go.RowKit Go.ChangeShapes Go.WideShapes Go.Deep
set_option linter.unusedVariables false
set_option linter.unusedSimpArgs false


theorem sms_few {s : Sch} (h : FewS s) : SmS s := ⟨by have := h.1; omega, by have := h.2.1; omega, fun d hd => ⟨by have := (h.2.2 d hd).1; omega, fun t ht => by have := (h.2.2 d hd).2 t ht; omega⟩⟩
theorem sameK_self (a : CC) : sameK a a = true := (sameK_iff a a).2 rfl
theorem opens_i64sq : Opens Try.prog 64 (Row Int) := opens_row (α := Int) Try.underlying64 (by kernel_rfl) (by kernel_rfl) (opens_i64 Try.underlying2)
set_option maxRecDepth 100000 in
theorem open_i64ss {H : Type} {enc : TypeId × Value → H} {w : World} {base b0 : Nat} {spare : Nat → Bool} {held : Bool} {r : Reach} {v : Value} {d : DataW H} {p : List MemPlace}
    (hv : Value.okWide Try.prog w r b0 41 v) (h : DataW.Trod enc Try.prog w base spare held 41 v d p) (hz : Sized Try.prog 41 d) : ∃ x : Row (Row Int), v = x.v ∧ x.rd w := by
  obtain ⟨x, hx, ho⟩ := open_row (α := Row Int) Try.underlying41 (by kernel_rfl) (by kernel_rfl) opens_i64sq hv h hz
  exact ⟨x, hx, ho.rds⟩

set_option maxRecDepth 100000 in
set_option maxHeartbeats 4000000 in
theorem walk_catalogGrows (w : World) (s : Ct) (hs : s.rd w) (r : Row (Row Int)) (hr : r.rd w) :
    Calls Try.prog 4 #[.agg s.cs, .slice r.A r.n r.c] w fun e w' => e = .returned (.bool true) ∧ Bel w w' := by
  have HF := Lib.hid (fun w' (hb : Bel w w') => schfew_any s.sc w' (hs.sc.mono hb))
  have HL := Lib.hid (fun w' (hb : Bel w w') => few18_any r w' (hr.mono hb))
  have HG := Lib.hid (fun w' (hb : Bel w w') h1 (h2 : r.n ≤ 100) => catgrow_any s r w' (hs.mono hb) h1 (hr.mono hb) (by omega))
  have HK := Lib.hid (fun w' (hb : Bel w w') h1 (h2 : r.n ≤ 100) => rcatgrow_any s r w' (hs.mono hb) h1 (hr.mono hb) (by omega))
  have H := Lib.hid ((SL.start No w).alloc s.cs 40)
  (try simp only [List.set_cons_zero, List.set_cons_succ, List.cons_append, List.nil_append, List.eraseIdx_cons_zero, List.eraseIdx_cons_succ, List.setIfInBounds_toArray, World.size_alloc, selR, List.getD_cons_zero, List.getD_cons_succ] at H)
  generalize catGrow s.con (r.l.map (·.l)) = O at *
  obtain ⟨⟨⟨A, n, c, ds⟩, ⟨MA, mn, mc, ms⟩⟩, fa, p0, q0, p1, q1, p2, q2⟩ := s
  obtain ⟨RA, rn, rc, rs⟩ := r
  simp only [Ct.cs, Sch.cs] at *
  clear hs hr
  go_enter Try.func4, Try.ntmps4
  go_upto_region 1 with fail
  generalize w.heap.size = x at *
  generalize World.alloc _ _ = w1 at *
  go_wp2_with ((with_reducible show wpList _ _ _ (⟨some 10, _, _, _, _, _⟩ :: _) _ _); (refine wpList_load_row_at rfl rowSch (.tmp 9) rfl x (0) rfl #[.slice A n c, .slice MA mn mc] rfl ((H.out.blk 0 rfl).part 0 _ rfl) ?_))
  refine (HF.out _ H.out.to).mono ?_; rintro e w2 ⟨bf, rfl, hfew, hb2⟩
  replace H := Lib.hid (H.out.bel hb2); (try simp only [List.set_cons_zero, List.set_cons_succ, List.cons_append, List.nil_append, List.eraseIdx_cons_zero, List.eraseIdx_cons_succ, List.setIfInBounds_toArray, World.size_alloc, selR, List.getD_cons_zero, List.getD_cons_succ] at H)
  clear hb2 HF
  cases bf with
  | false =>
    clear hfew HL HG HK
    go_wp2_with fail
    refine (awake18_any _).mono ?_; rintro e w8 ⟨rfl, hb8⟩
    replace H := Lib.hid (H.out.bel hb8); (try simp only [List.set_cons_zero, List.set_cons_succ, List.cons_append, List.nil_append, List.eraseIdx_cons_zero, List.eraseIdx_cons_succ, List.setIfInBounds_toArray, World.size_alloc, selR, List.getD_cons_zero, List.getD_cons_succ] at H)
    clear hb8
    go_wp2
    go_ret
    exact ⟨rfl, H.out.to⟩
  | true =>
    have HSM := Lib.hid (sms_few (hfew rfl))
    clear hfew
    go_wp2_with fail
    refine (HL.out _ H.out.to).mono ?_; rintro e w3 ⟨bl, rfl, hfew, hb3⟩
    replace H := Lib.hid (H.out.bel hb3); (try simp only [List.set_cons_zero, List.set_cons_succ, List.cons_append, List.nil_append, List.eraseIdx_cons_zero, List.eraseIdx_cons_succ, List.setIfInBounds_toArray, World.size_alloc, selR, List.getD_cons_zero, List.getD_cons_succ] at H)
    clear hb3 HL
    cases bl with
    | false =>
      clear hfew HG HK
      go_wp2_with fail
      refine (awake18_any _).mono ?_; rintro e w8 ⟨rfl, hb8⟩
      replace H := Lib.hid (H.out.bel hb8); (try simp only [List.set_cons_zero, List.set_cons_succ, List.cons_append, List.nil_append, List.eraseIdx_cons_zero, List.eraseIdx_cons_succ, List.setIfInBounds_toArray, World.size_alloc, selR, List.getD_cons_zero, List.getD_cons_succ] at H)
      clear hb8
      go_wp2
      go_ret
      exact ⟨rfl, H.out.to⟩
    | true =>
      have hrn := hfew rfl
      clear hfew
      replace HG := Lib.hid (fun w' hb => HG.out w' hb HSM.out hrn)
      replace HK := Lib.hid (fun w' hb => HK.out w' hb HSM.out hrn)
      clear HSM
      obtain ⟨O1, k⟩ := O
      go_wp2_with ((with_reducible show wpList _ _ _ (⟨some 20, _, _, _, _, _⟩ :: _) _ _); (refine wpList_load_blk rfl rowCt (.tmp 2) rfl _ rfl (H.out.blk 0 rfl) rfl ?_))
      refine (HG.out _ H.out.to).mono ?_; rintro e w4 ⟨X, rfl, hX, hXr, hXs, hb4⟩
      replace H := Lib.hid (H.out.bel hb4); (try simp only [List.set_cons_zero, List.set_cons_succ, List.cons_append, List.nil_append, List.eraseIdx_cons_zero, List.eraseIdx_cons_succ, List.setIfInBounds_toArray, World.size_alloc, selR, List.getD_cons_zero, List.getD_cons_succ] at H)
      have HX := Lib.hid hX
      have HXr := Lib.hid (fun w' (hb : Bel w4 w') => hXr.mono hb)
      clear hX hXr hXs hb4 HG
      have HSame := Lib.hid (fun (Y : Ct) w' (hb : Bel w4 w') (hY : Y.rd w') (hc : Y.con = O1) => (show sameK X.con Y.con = true by rw [HX.out, hc]; exact sameK_self _) ▸ catsame_any X Y w' (HXr.out w' hb) hY)
      obtain ⟨⟨⟨A1, n1, c1, ds1⟩, ⟨MA1, mn1, mc1, ms1⟩⟩, fa1, a0, a1, a2, a3, a4, a5⟩ := X
      simp only [Ct.cs, Sch.cs] at *
      go_upto_region 4 with ((with_reducible show wpList _ _ _ (⟨_, .store _ (.tmp 5) _, _, _, _, _⟩ :: _) _ _); (refine wpList_store_new rfl rowCt (.tmp 5) (.tmp 23) rfl rfl rfl (#[.slice A1 n1 c1, .slice MA1 mn1 mc1, .int .i64 fa1, .int .i64 a0, .int .i64 a1, .int .i64 a2, .int .i64 a3, .int .i64 a4, .int .i64 a5]) rfl rfl (by simp [Value.oneCell']) ?_; replace H := Lib.hid (H.out.alloc (#[.slice A1 n1 c1, .slice MA1 mn1 mc1, .int .i64 fa1, .int .i64 a0, .int .i64 a1, .int .i64 a2, .int .i64 a3, .int .i64 a4, .int .i64 a5]) 40); (try simp only [List.set_cons_zero, List.set_cons_succ, List.cons_append, List.nil_append, List.eraseIdx_cons_zero, List.eraseIdx_cons_succ, List.setIfInBounds_toArray, World.size_alloc, selR, List.getD_cons_zero, List.getD_cons_succ] at H)))
      (try simp only [Act.put, List.setIfInBounds_toArray, List.set_cons_zero, List.set_cons_succ])
      have HB := Lib.hid ((Bel.refl w4).alloc (.cells #[.slice A1 n1 c1, .slice MA1 mn1 mc1, .int .i64 fa1, .int .i64 a0, .int .i64 a1, .int .i64 a2, .int .i64 a3, .int .i64 a4, .int .i64 a5] 40))
      generalize w4.heap.size = y at *
      generalize World.alloc w4 _ = w5 at *
      go_wp2_with ((with_reducible show wpList _ _ _ (⟨some 26, _, _, _, _, _⟩ :: _) _ _); (refine wpList_load_blk rfl rowCt (.tmp 2) rfl _ rfl (H.out.blk 0 rfl) rfl ?_))
      refine (HK.out _ H.out.to).mono ?_; rintro e w6 ⟨Y, rfl, hY, hYr, hYs, hb6⟩
      replace H := Lib.hid (H.out.bel hb6); (try simp only [List.set_cons_zero, List.set_cons_succ, List.cons_append, List.nil_append, List.eraseIdx_cons_zero, List.eraseIdx_cons_succ, List.setIfInBounds_toArray, World.size_alloc, selR, List.getD_cons_zero, List.getD_cons_succ] at H)
      replace HB := Lib.hid (HB.out.trans hb6)
      replace HSame := Lib.hid (fun w' (hb : Bel w6 w') => HSame.out Y w' (HB.out.trans hb) (hYr.mono hb) hY)
      clear hY hYr hYs hb6 HK HB
      obtain ⟨⟨⟨B1, m1, d1, es1⟩, ⟨MB1, mm1, md1, mt1⟩⟩, fb1, b0, b1, b2, b3, b4, b5⟩ := Y
      simp only [Ct.cs, Sch.cs] at *
      go_upto_region 5 with ((with_reducible show wpList _ _ _ (⟨_, .store _ (.tmp 7) _, _, _, _, _⟩ :: _) _ _); (refine wpList_store_new rfl rowCt (.tmp 7) (.tmp 29) rfl rfl rfl (#[.slice B1 m1 d1, .slice MB1 mm1 md1, .int .i64 fb1, .int .i64 b0, .int .i64 b1, .int .i64 b2, .int .i64 b3, .int .i64 b4, .int .i64 b5]) rfl rfl (by simp [Value.oneCell']) ?_; replace H := Lib.hid (H.out.alloc (#[.slice B1 m1 d1, .slice MB1 mm1 md1, .int .i64 fb1, .int .i64 b0, .int .i64 b1, .int .i64 b2, .int .i64 b3, .int .i64 b4, .int .i64 b5]) 40); (try simp only [List.set_cons_zero, List.set_cons_succ, List.cons_append, List.nil_append, List.eraseIdx_cons_zero, List.eraseIdx_cons_succ, List.setIfInBounds_toArray, World.size_alloc, selR, List.getD_cons_zero, List.getD_cons_succ] at H)))
      (try simp only [Act.put, List.setIfInBounds_toArray, List.set_cons_zero, List.set_cons_succ])
      have HB := Lib.hid ((Bel.refl w6).alloc (.cells #[.slice B1 m1 d1, .slice MB1 mm1 md1, .int .i64 fb1, .int .i64 b0, .int .i64 b1, .int .i64 b2, .int .i64 b3, .int .i64 b4, .int .i64 b5] 40))
      generalize w6.heap.size = z at *
      generalize World.alloc w6 _ = w7 at *
      have q8 : (k == k) = true := by simp
      go_wp2_with (first | ((with_reducible show wpList _ _ _ (⟨some 31, _, _, _, _, _⟩ :: _) _ _); (refine wpList_load_blk rfl rowCt (.tmp 5) rfl _ rfl (H.out.blk 1 rfl) rfl ?_)) | ((with_reducible show wpList _ _ _ (⟨some 32, _, _, _, _, _⟩ :: _) _ _); (refine wpList_load_blk rfl rowCt (.tmp 7) rfl _ rfl (H.out.blk 2 rfl) rfl ?_)))
      refine (HSame.out _ HB.out).mono ?_; rintro e w7 ⟨rfl, hb7⟩
      replace H := Lib.hid (H.out.bel hb7); (try simp only [List.set_cons_zero, List.set_cons_succ, List.cons_append, List.nil_append, List.eraseIdx_cons_zero, List.eraseIdx_cons_succ, List.setIfInBounds_toArray, World.size_alloc, selR, List.getD_cons_zero, List.getD_cons_succ] at H)
      clear hb7 HSame HB
      go_wp2_with fail
      refine (awake18_any _).mono ?_; rintro e w8 ⟨rfl, hb8⟩
      replace H := Lib.hid (H.out.bel hb8); (try simp only [List.set_cons_zero, List.set_cons_succ, List.cons_append, List.nil_append, List.eraseIdx_cons_zero, List.eraseIdx_cons_succ, List.setIfInBounds_toArray, World.size_alloc, selR, List.getD_cons_zero, List.getD_cons_succ] at H)
      clear hb8
      go_wp2
      go_ret
      exact ⟨rfl, H.out.to⟩

end Go.Proofs.Ytigjghfonpfdlaa
