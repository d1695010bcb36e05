/- What stands at a cell, as bytes. -/
import Derived.Test.YtlclllkjnhgbjaaCelP
import Derived.Test.YtlclllkjnhgbjaaBh
import Derived.Test.YtlclllkjnhgbjaaBc
namespace Go.Proofs.Ytlclllkjnhgbjaa
open Go.RowKit
set_option linter.unusedVariables false
set_option linter.unusedSimpArgs false

set_option maxRecDepth 100000 in
set_option maxHeartbeats 2000000 in
theorem celput_any (s : Shp) (d : Int) (c : Cl) (w : World) (hs : s.rd w) (hd : I64 d) (hc : c.ok) (hk : cellOk s.sz.n s.ms d c = true) :
    Calls Try.prog 36 #[.agg s.cs, .int .i64 d, .agg c.cs] w fun e w' => e = .returned (.string ⟨(cellPut s.sz.n s.ms d c).toArray⟩) ∧ Bel w w' := by
  have HL := Lib.hid (fun w' (hb : Bel w w') => last_any s d w' (hs.mono hb) hd)
  have HM := Lib.hid (fun w9 (h : mayAg s.ms c.ag = true) => aput_any c.ag s.ms w9 hc.ag hs.ms)
  have HN := Lib.hid (fun w' => putNum_any c.ch w' hc.ch.1 hc.ch.2)
  have H := Lib.hid (((SL.start No w).alloc s.cs 24).alloc c.cs 32)
  (try simp only [List.set_cons_zero, List.set_cons_succ, List.cons_append, List.nil_append, List.eraseIdx_cons_zero, List.eraseIdx_cons_succ, List.setIfInBounds_toArray, World.size_alloc, selR, List.getD_cons_zero, List.getD_cons_succ] at H)
  have n63 := hs.sz.n63
  have hcs : s.cs = #[.slice s.sz.A s.sz.n s.sz.c, .int .i64 s.ms] := rfl
  have HCS := Lib.hid hcs
  clear hcs
  have hR : Hid (cellPut s.sz.n s.ms d c = if d = (s.sz.n : Int) - 1 then agPut s.ms.toNat c.ag else nput c.ch.toNat) := rfl
  have hK : Hid ((if d = (s.sz.n : Int) - 1 then decide (c.ch = 0) && mayAg s.ms c.ag else decide (0 ≤ c.ch) && decide (c.ag = .zero)) = true) := hk
  generalize cellPut s.sz.n s.ms d c = R at *
  clear hs hc hk
  go_enter Try.func36, Try.ntmps36
  go_upto_region 1 with fail
  rw [← HCS.out] at *
  generalize w.heap.size + 1 = y at *
  generalize w.heap.size = x at *
  generalize World.alloc (World.alloc _ _) _ = w1 at *
  go_wp2_with ((with_reducible show wpList _ _ _ (⟨some 9, _, _, _, _, _⟩ :: _) _ _); (refine wpList_load_blk rfl rowShp2 (.tmp 3) rfl _ rfl (H.out.blk 0 rfl) rfl ?_))
  refine (HL.out _ H.out.to).mono ?_; rintro e w2 ⟨rfl, hb2⟩
  replace H := Lib.hid (H.out.bel hb2); (try simp only [List.set_cons_zero, List.set_cons_succ, List.cons_append, List.nil_append, List.eraseIdx_cons_zero, List.eraseIdx_cons_succ, List.setIfInBounds_toArray, World.size_alloc, selR, List.getD_cons_zero, List.getD_cons_succ] at H)
  clear hb2 HL
  have HAG : Hid (w2.rangeAt y 2 c.ag.cs.toList) := fun j v hv => by
    have := (H.out.blk 1 rfl).range (j + 2) v (by rw [cl_ag]; exact hv)
    rw [show 0 + (j + 2) = 2 + j by omega] at this
    exact this
  have c1 : w2.cell? ⟨y, 1, none⟩ = some (.int .i64 c.ch) := (H.out.blk 1 rfl).cell 1
  have cm : w2.cell? ⟨x, 1, none⟩ = some (.int .i64 s.ms) := (H.out.blk 0 rfl).cell 1
  cases hl : (d == (s.sz.n : Int) - 1) with
  | true =>
    have hl2 : d = (s.sz.n : Int) - 1 := by simpa using hl
    have hA : mayAg s.ms c.ag = true := by have := hK.out; rw [if_pos hl2] at this; simp at this; exact this.2
    have hR2 : Hid (R = agPut s.ms.toNat c.ag) := by show _ = _; rw [hR.out, if_pos hl2]
    have HM2 := Lib.hid (fun w' => HM.out w' hA)
    have hV : agPutV s.ms c.ag = (agPut s.ms.toNat c.ag, 0) := by unfold agPutV; rw [if_pos hA]
    rw [hV] at HM2
    clear hR hA hl2 hK HM hV
    go_wp2_with ((with_reducible show wpList _ _ _ (⟨some 16, _, _, _, _, _⟩ :: _) _ _); refine wpList_load_row_at rfl rowAg (.tmp 15) rfl y 2 rfl c.ag.cs rfl HAG.out ?_)
    refine (HM2.out _).mono ?_; rintro e w3 ⟨rfl, hb3⟩
    replace H := Lib.hid (H.out.bel hb3); (try simp only [List.set_cons_zero, List.set_cons_succ, List.cons_append, List.nil_append, List.eraseIdx_cons_zero, List.eraseIdx_cons_succ, List.setIfInBounds_toArray, World.size_alloc, selR, List.getD_cons_zero, List.getD_cons_succ] at H)
    go_wp2_with fail
    go_ret
    rw [hR2.out]
    exact ⟨rfl, H.out.to⟩
  | false =>
    have hR2 : Hid (R = nput c.ch.toNat) := by show _ = _; rw [hR.out, if_neg (by simpa using hl)]
    clear hR hK HM HAG cm
    go_wp2_with fail
    refine (HN.out _).mono ?_; rintro e w3 ⟨rfl, hb3⟩
    replace H := Lib.hid (H.out.bel hb3); (try simp only [List.set_cons_zero, List.set_cons_succ, List.cons_append, List.nil_append, List.eraseIdx_cons_zero, List.eraseIdx_cons_succ, List.setIfInBounds_toArray, World.size_alloc, selR, List.getD_cons_zero, List.getD_cons_succ] at H)
    go_wp2_with fail
    go_ret
    rw [hR2.out]
    exact ⟨rfl, H.out.to⟩
set_option maxRecDepth 100000 in
set_option maxHeartbeats 2000000 in
theorem one_any (s : Shp) (d : Int) (c : Cl) (w : World) (hs : s.rd w) (hd : I64 d) (hc : c.ok) (hk : cellOk s.sz.n s.ms d c = true) :
    Calls Try.prog 40 #[.agg s.cs, .int .i64 d, .agg c.cs] w fun e w' => e = .returned (.string ⟨(cellPut s.sz.n s.ms d c).toArray⟩) ∧ Bel w w' := by
  have HL := Lib.hid (fun w' (hb : Bel w w') => last_any s d w' (hs.mono hb) hd)
  have HM := Lib.hid (fun w9 (h : mayAg s.ms c.ag = true) => raput_any c.ag s.ms w9 hc.ag hs.ms h)
  have HN := Lib.hid (fun w' => rputNum_any c.ch w' hc.ch.1 hc.ch.2)
  have H := Lib.hid (((SL.start No w).alloc s.cs 24).alloc c.cs 32)
  (try simp only [List.set_cons_zero, List.set_cons_succ, List.cons_append, List.nil_append, List.eraseIdx_cons_zero, List.eraseIdx_cons_succ, List.setIfInBounds_toArray, World.size_alloc, selR, List.getD_cons_zero, List.getD_cons_succ] at H)
  have n63 := hs.sz.n63
  have hcs : s.cs = #[.slice s.sz.A s.sz.n s.sz.c, .int .i64 s.ms] := rfl
  have HCS := Lib.hid hcs
  clear hcs
  have hR : Hid (cellPut s.sz.n s.ms d c = if d = (s.sz.n : Int) - 1 then agPut s.ms.toNat c.ag else nput c.ch.toNat) := rfl
  have hK : Hid ((if d = (s.sz.n : Int) - 1 then decide (c.ch = 0) && mayAg s.ms c.ag else decide (0 ≤ c.ch) && decide (c.ag = .zero)) = true) := hk
  generalize cellPut s.sz.n s.ms d c = R at *
  clear hs hc hk
  go_enter Try.func40, Try.ntmps40
  go_upto_region 1 with fail
  rw [← HCS.out] at *
  generalize w.heap.size + 1 = y at *
  generalize w.heap.size = x at *
  generalize World.alloc (World.alloc _ _) _ = w1 at *
  have cs0 : w1.cell? ⟨x, 0, none⟩ = some (.slice s.sz.A s.sz.n s.sz.c) := (H.out.blk 0 rfl).cell 0
  have HAG : Hid (w1.rangeAt y 2 c.ag.cs.toList) := fun j v hv => by
    have := (H.out.blk 1 rfl).range (j + 2) v (by rw [cl_ag]; exact hv)
    rw [show 0 + (j + 2) = 2 + j by omega] at this
    exact this
  have c1 : w1.cell? ⟨y, 1, none⟩ = some (.int .i64 c.ch) := (H.out.blk 1 rfl).cell 1
  have cm : w1.cell? ⟨x, 1, none⟩ = some (.int .i64 s.ms) := (H.out.blk 0 rfl).cell 1
  cases hl : (d == (s.sz.n : Int) - 1) with
  | true =>
    have hl2 : d = (s.sz.n : Int) - 1 := by simpa using hl
    have hA : mayAg s.ms c.ag = true := by have := hK.out; rw [if_pos hl2] at this; simp at this; exact this.2
    have hR2 : Hid (R = agPut s.ms.toNat c.ag) := by show _ = _; rw [hR.out, if_pos hl2]
    have HM2 := Lib.hid (fun w' => HM.out w' hA)
    
    
    clear hR hA hl2 hK HM 
    go_wp2_with ((with_reducible show wpList _ _ _ (⟨some 16, _, _, _, _, _⟩ :: _) _ _); refine wpList_load_row_at rfl rowAg (.tmp 15) rfl y 2 rfl c.ag.cs rfl HAG.out ?_)
    refine (HM2.out _).mono ?_; rintro e w3 ⟨rfl, hb3⟩
    replace H := Lib.hid (H.out.bel hb3); (try simp only [List.set_cons_zero, List.set_cons_succ, List.cons_append, List.nil_append, List.eraseIdx_cons_zero, List.eraseIdx_cons_succ, List.setIfInBounds_toArray, World.size_alloc, selR, List.getD_cons_zero, List.getD_cons_succ] at H)
    go_wp2_with fail
    go_ret
    rw [hR2.out]
    exact ⟨rfl, H.out.to⟩
  | false =>
    have hR2 : Hid (R = nput c.ch.toNat) := by show _ = _; rw [hR.out, if_neg (by simpa using hl)]
    clear hR hK HM HAG cm
    go_wp2_with fail
    refine (HN.out _).mono ?_; rintro e w3 ⟨rfl, hb3⟩
    replace H := Lib.hid (H.out.bel hb3); (try simp only [List.set_cons_zero, List.set_cons_succ, List.cons_append, List.nil_append, List.eraseIdx_cons_zero, List.eraseIdx_cons_succ, List.setIfInBounds_toArray, World.size_alloc, selR, List.getD_cons_zero, List.getD_cons_succ] at H)
    go_wp2_with fail
    go_ret
    rw [hR2.out]
    exact ⟨rfl, H.out.to⟩

end Go.Proofs.Ytlclllkjnhgbjaa
