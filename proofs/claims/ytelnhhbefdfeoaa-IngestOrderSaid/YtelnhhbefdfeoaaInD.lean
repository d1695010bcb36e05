/- ingest.Rows; the chapter's example (law 23). -/
import Derived.Test.YtelnhhbefdfeoaaBp
import Derived.Test.YtelnhhbefdfeoaaBi
import Derived.Test.YtelnhhbefdfeoaaBr
namespace Go.Proofs.Ytelnhhbefdfeoaa
open Go.RowKit
set_option linter.unusedVariables false
set_option linter.unusedSimpArgs false


set_option maxRecDepth 100000 in
set_option maxHeartbeats 1000000 in
theorem facts_not (s : Sch) (x : Row Rw) (w : World) (hs : s.rd w) (hx : x.rd w) (hn : s.dm.n ≤ 1000000) (hm : s.ms.n ≤ 1000000) (hd : ∀ d ∈ s.dm.l, d.tr.n ≤ 1000000 ∧ ∀ t ∈ d.tr.l, t.up.n ≤ 100000) (hE : batErr s.con (x.l.map Rw.con) ≠ 0) :
    Calls Try.prog 32 #[.agg s.cs, .slice x.A x.n x.c] w fun e w' => e = .returned (.tuple #[.slice none 0 0, .int .i64 (batErr s.con (x.l.map Rw.con))]) ∧ Bel w w' := by
  have HC := Lib.hid (fun w' (hb : Bel w w') => batcheck_any s x w' (hs.mono hb) (hx.mono hb) hn hm hd)
  have H := Lib.hid ((SL.start No w).alloc s.cs 25)
  (try simp only [List.set_cons_zero, List.set_cons_succ, List.cons_append, List.nil_append, List.eraseIdx_cons_zero, List.eraseIdx_cons_succ, List.setIfInBounds_toArray, World.size_alloc, selR, List.getD_cons_zero, List.getD_cons_succ] at H)
  have hcs : s.cs = #[.slice s.dm.A s.dm.n s.dm.c, .slice s.ms.A s.ms.n s.ms.c] := rfl
  have HCS := Lib.hid hcs
  clear hs hx hd hcs
  generalize batErr s.con (x.l.map Rw.con) = E at *
  have dE : (E == 0) = false := by simpa using hE
  have dE2 : (E != 0) = true := by simpa using hE
  clear hE
  go_enter Try.func32, Try.ntmps32
  rw [← HCS.out] at *
  go_wp2_with ((with_reducible show wpList _ _ _ (⟨some 14, _, _, _, _, _⟩ :: _) _ _); (refine wpList_load_blk rfl rowSch (.tmp 2) rfl _ rfl (H.out.blk 0 rfl) rfl ?_))
  refine (HC.out _ H.out.to).mono ?_; rintro e w1 ⟨rfl, hb1⟩
  replace H := Lib.hid (H.out.bel hb1); (try simp only [List.set_cons_zero, List.set_cons_succ, List.cons_append, List.nil_append, List.eraseIdx_cons_zero, List.eraseIdx_cons_succ, List.setIfInBounds_toArray, World.size_alloc, selR, List.getD_cons_zero, List.getD_cons_succ] at H)
  clear hb1 HC
  go_wp2
  go_ret2
  exact ⟨rfl, H.out.to⟩
set_option maxRecDepth 100000 in
set_option maxHeartbeats 1000000 in
theorem rows_not (s : Sch) (x : Row Rw) (w : World) (hs : s.rd w) (hx : x.rd w) (hn : s.dm.n ≤ 1000000) (hm : s.ms.n ≤ 1000000) (hd : ∀ d ∈ s.dm.l, d.tr.n ≤ 1000000 ∧ ∀ t ∈ d.tr.l, t.up.n ≤ 100000) (hE : batErr s.con (x.l.map Rw.con) ≠ 0) :
    Calls Try.prog 10 #[.agg s.cs, .slice x.A x.n x.c] w fun e w' => e = .returned (.tuple #[.slice none 0 0, .int .i64 (batErr s.con (x.l.map Rw.con))]) ∧ Bel w w' := by
  have HC := Lib.hid (fun w' (hb : Bel w w') => facts_not s x w' (hs.mono hb) (hx.mono hb) hn hm hd hE)
  have H := Lib.hid ((SL.start No w).alloc s.cs 25)
  (try simp only [List.set_cons_zero, List.set_cons_succ, List.cons_append, List.nil_append, List.eraseIdx_cons_zero, List.eraseIdx_cons_succ, List.setIfInBounds_toArray, World.size_alloc, selR, List.getD_cons_zero, List.getD_cons_succ] at H)
  have hcs : s.cs = #[.slice s.dm.A s.dm.n s.dm.c, .slice s.ms.A s.ms.n s.ms.c] := rfl
  have HCS := Lib.hid hcs
  clear hs hx hd hcs
  generalize batErr s.con (x.l.map Rw.con) = E at *
  have dE : (E == 0) = false := by simpa using hE
  have dE2 : (E != 0) = true := by simpa using hE
  clear hE
  go_enter Try.func10, Try.ntmps10
  rw [← HCS.out] at *
  go_wp2_with ((with_reducible show wpList _ _ _ (⟨some 9, _, _, _, _, _⟩ :: _) _ _); (refine wpList_load_blk rfl rowSch (.tmp 2) rfl _ rfl (H.out.blk 0 rfl) rfl ?_))
  refine (HC.out _ H.out.to).mono ?_; rintro e w1 ⟨rfl, hb1⟩
  replace H := Lib.hid (H.out.bel hb1); (try simp only [List.set_cons_zero, List.set_cons_succ, List.cons_append, List.nil_append, List.eraseIdx_cons_zero, List.eraseIdx_cons_succ, List.setIfInBounds_toArray, World.size_alloc, selR, List.getD_cons_zero, List.getD_cons_succ] at H)
  clear hb1 HC
  go_wp2
  go_ret2
  exact ⟨rfl, H.out.to⟩
set_option maxRecDepth 100000 in
set_option maxHeartbeats 1000000 in
theorem rows_any (s : Sch) (x : Row Rw) (w : World) (hs : s.rd w) (hx : x.rd w) (hn : s.dm.n ≤ 1000000) (hm : s.ms.n ≤ 1000000) (hd : ∀ d ∈ s.dm.l, d.tr.n ≤ 1000000 ∧ ∀ t ∈ d.tr.l, t.up.n ≤ 100000) (hE : batErr s.con (x.l.map Rw.con) = 0) :
    Calls Try.prog 10 #[.agg s.cs, .slice x.A x.n x.c] w (FldPost (foldC (sortC ((x.l.map Rw.con).map (facOf s.con)))) w) := by
  have HC := Lib.hid (fun w' (hb : Bel w w') => batfacts_any s x w' (hs.mono hb) (hx.mono hb) hn hm hd hE)
  have H := Lib.hid ((SL.start No w).alloc s.cs 25)
  (try simp only [List.set_cons_zero, List.set_cons_succ, List.cons_append, List.nil_append, List.eraseIdx_cons_zero, List.eraseIdx_cons_succ, List.setIfInBounds_toArray, World.size_alloc, selR, List.getD_cons_zero, List.getD_cons_succ] at H)
  have hcs : s.cs = #[.slice s.dm.A s.dm.n s.dm.c, .slice s.ms.A s.ms.n s.ms.c] := rfl
  have HCS := Lib.hid hcs
  clear hs hx hd hcs hE
  obtain ⟨R, hR⟩ : ∃ R, R = (x.l.map Rw.con).map (facOf s.con) := ⟨_, rfl⟩
  have HR := Lib.hid hR
  rw [← hR]
  clear hR
  go_enter Try.func10, Try.ntmps10
  rw [← HCS.out] at *
  go_wp2_with ((with_reducible show wpList _ _ _ (⟨some 9, _, _, _, _, _⟩ :: _) _ _); (refine wpList_load_blk rfl rowSch (.tmp 2) rfl _ rfl (H.out.blk 0 rfl) rfl ?_))
  refine (HC.out _ H.out.to).mono ?_; rintro e w1 ⟨X, rfl, hXn, hXl, hb1, hXw⟩
  have hXok : X.ok w1 ∧ X.n ≤ 300 := hXw.1.now
  replace H := Lib.hid (H.out.bel hb1); (try simp only [List.set_cons_zero, List.set_cons_succ, List.cons_append, List.nil_append, List.eraseIdx_cons_zero, List.eraseIdx_cons_succ, List.setIfInBounds_toArray, World.size_alloc, selR, List.getD_cons_zero, List.getD_cons_succ] at H)
  have HK := Lib.hid (ksort_any 32 4 (by omega) (by omega) (by omega) (by omega) X w1 hXok.1 (by omega))
  have hcX : cons X.l = R := by rw [HR.out]; exact hXl
  rw [hcX] at HK
  have hRl : R.length ≤ 300 := by rw [← hcX, cons_len, hXok.1.len]; exact hXok.2
  clear hXn hXl hb1 hXw hXok hcX HC
  obtain ⟨XA, Xn, Xc, Xl⟩ := X
  simp only at *
  go_wp2_with fail
  refine HK.out.mono ?_; rintro e w2 ⟨v, fs, rfl, hG, hc⟩
  have hfl : fs.length ≤ 300 := by have h := congrArg List.length hc; rw [cons_len, sortC_len] at h; omega
  replace H := Lib.hid (H.out.bel hG.bel); (try simp only [List.set_cons_zero, List.set_cons_succ, List.cons_append, List.nil_append, List.eraseIdx_cons_zero, List.eraseIdx_cons_succ, List.setIfInBounds_toArray, World.size_alloc, selR, List.getD_cons_zero, List.getD_cons_succ] at H)
  obtain ⟨Y, rfl, hYl, hYn, hYok, _⟩ := hG.run (by omega)
  have HF := Lib.hid (foldP_any w2 Y hYok (by omega))
  rw [hYl, hc] at HF
  clear hG hc hfl hYl hYn hYok HK
  obtain ⟨YA, yn, yc, yl⟩ := Y
  simp only [Row.v] at *
  go_wp2_with fail
  refine HF.out.mono ?_; rintro e w3 ⟨v, k, rfl, hF, hb⟩
  have HRS : Hid (FldPost (foldC (sortC R)) w (.returned (.tuple #[v, .int .i64 k])) w3) := ⟨v, k, rfl, hF, H.out.to.trans hb⟩
  clear hF hb HF
  go_wp2
  go_ret2
  exact HRS.out
set_option maxRecDepth 100000 in
theorem run_tworows (g0 g1 : Nat) (w : World) :
    (Instr.buildSlice 26 2 #[(0, .agg #[.slice (some ⟨g0, 0, none⟩) 1 1, .slice (some ⟨g1, 0, none⟩) 1 1]), (1, .agg #[.slice (some ⟨g0, 0, none⟩) 1 1, .slice (some ⟨g1, 0, none⟩) 1 1])]).run Try.prog w = .ok (.slice (some ⟨w.heap.size, 0, none⟩) 2 2) (w.alloc (.cells #[.slice (some ⟨g0, 0, none⟩) 1 1, .slice (some ⟨g1, 0, none⟩) 1 1, .slice (some ⟨g0, 0, none⟩) 1 1, .slice (some ⟨g1, 0, none⟩) 1 1] 43)) := by kernel_rfl
theorem wpList_tworows {ops : Array Oper} {rest : List Oper} {o : Oper} {x : Act} {w : World} {Q : Exit → Act → World → Prop} (hgd : o.guard = none) (t0 t1 : Operand) (ho : o.op = .buildSlice 26 2 #[(0, t0), (1, t1)]) {g0 g1 : Nat}
    (h0 : x.eval t0 = .agg #[.slice (some ⟨g0, 0, none⟩) 1 1, .slice (some ⟨g1, 0, none⟩) 1 1]) (h1 : x.eval t1 = .agg #[.slice (some ⟨g0, 0, none⟩) 1 1, .slice (some ⟨g1, 0, none⟩) 1 1])
    (h : wpList Try.prog ops Q rest (x.put o.dst (.slice (some ⟨w.heap.size, 0, none⟩) 2 2)) (w.alloc (.cells #[.slice (some ⟨g0, 0, none⟩) 1 1, .slice (some ⟨g1, 0, none⟩) 1 1, .slice (some ⟨g0, 0, none⟩) 1 1, .slice (some ⟨g1, 0, none⟩) 1 1] 43))) : wpList Try.prog ops Q (o :: rest) x w := by
  refine wpList_plain hgd fun K hK => ?_
  unfold Oper.wp execOp
  have hr := run_tworows g0 g1 w
  simp only [ho, List.map_toArray, List.map_cons, List.map_nil, h0, h1, Sem.run_bind, hr, Result.andThen_ok, Sem.run_pure]
  exact hK _ _ h
def exR : RC := ⟨[[97]], [3]⟩
def exS : SC := ⟨[exDC], [[109]]⟩
def exAg : Ag := ⟨2, ⟨6, 3, 3⟩, ⟨0, 0, 0⟩, ⟨0, 0, 0⟩⟩
theorem exFold : foldC (sortC ([exR, exR].map (facOf exS))) = some [([0], exAg)] := by decide +kernel
theorem exOk : batErr exS [exR, exR] = 0 := by decide +kernel
set_option maxRecDepth 100000 in
set_option maxHeartbeats 2000000 in
theorem awake23_any (w : World) : Calls Try.prog 9 #[] w fun e w' => e = .returned (.bool true) ∧ Bel w w' := by
  have H := Lib.hid (((((((((SL.start No w).alloc #[.string ⟨#[97]⟩] 9).alloc #[.string ⟨#[116]⟩, .slice (some ⟨w.heap.size, 0, none⟩) 1 1, .slice none 0 0] 77).alloc #[.string ⟨#[100]⟩, .slice (some ⟨w.heap.size + 1, 0, none⟩) 1 1] 66).alloc #[.string ⟨#[109]⟩] 9).alloc #[.slice (some ⟨w.heap.size + 1 + 1, 0, none⟩) 1 1, .slice (some ⟨w.heap.size + 1 + 1 + 1, 0, none⟩) 1 1] 25).alloc #[.string ⟨#[97]⟩] 9).alloc #[.int .i64 3] 2).alloc #[.slice (some ⟨w.heap.size + 1 + 1 + 1 + 1 + 1, 0, none⟩) 1 1, .slice (some ⟨w.heap.size + 1 + 1 + 1 + 1 + 1 + 1, 0, none⟩) 1 1] 43)
  (try simp only [List.set_cons_zero, List.set_cons_succ, List.cons_append, List.nil_append, List.eraseIdx_cons_zero, List.eraseIdx_cons_succ, List.setIfInBounds_toArray, World.size_alloc, selR, List.getD_cons_zero, List.getD_cons_succ] at H)
  go_enter Try.func9, Try.ntmps9
  go_upto_region 3 with fail
  generalize w.heap.size + 1 + 1 + 1 + 1 + 1 + 1 + 1 = x7 at *
  generalize w.heap.size + 1 + 1 + 1 + 1 + 1 + 1 = x6 at *
  generalize w.heap.size + 1 + 1 + 1 + 1 + 1 = x5 at *
  generalize w.heap.size + 1 + 1 + 1 + 1 = x4 at *
  generalize w.heap.size + 1 + 1 + 1 = x3 at *
  generalize w.heap.size + 1 + 1 = x2 at *
  generalize w.heap.size + 1 = x1 at *
  generalize w.heap.size = x0 at *
  generalize World.alloc _ _ = w1 at *
  have H9 := Lib.hid (H.out.alloc #[.slice (some ⟨x5, 0, none⟩) 1 1, .slice (some ⟨x6, 0, none⟩) 1 1, .slice (some ⟨x5, 0, none⟩) 1 1, .slice (some ⟨x6, 0, none⟩) 1 1] 43)
  (try simp only [List.set_cons_zero, List.set_cons_succ, List.cons_append, List.nil_append, List.eraseIdx_cons_zero, List.eraseIdx_cons_succ, List.setIfInBounds_toArray, World.size_alloc, selR, List.getD_cons_zero, List.getD_cons_succ] at H9)
  have hr1 := ex_sch H9.out 0 1 2 3 rfl rfl rfl rfl
  obtain ⟨D1, hD1⟩ : ∃ D : Sch, D = ⟨⟨some ⟨x2, 0, none⟩, 1, 1, [⟨[100], ⟨some ⟨x1, 0, none⟩, 1, 1, [⟨[116], ⟨some ⟨x0, 0, none⟩, 1, 1, [[97]]⟩, ⟨none, 0, 0, []⟩⟩]⟩⟩]⟩, ⟨some ⟨x3, 0, none⟩, 1, 1, [[109]]⟩⟩ := ⟨_, rfl⟩
  rw [← hD1] at hr1
  have hn1 : D1.dm.n ≤ 1000000 := by rw [hD1]; show (1 : Nat) ≤ _; omega
  have hm1 : D1.ms.n ≤ 1000000 := by rw [hD1]; show (1 : Nat) ≤ _; omega
  have hd1 : ∀ d ∈ D1.dm.l, d.tr.n ≤ 1000000 ∧ ∀ t ∈ d.tr.l, t.up.n ≤ 100000 := by rw [hD1]; intro d hd; simp at hd; subst hd; exact ⟨by show (1 : Nat) ≤ _; omega, fun t ht => by simp at ht; subst ht; show (0 : Nat) ≤ _; omega⟩
  have hrow : (Row.mk (some ⟨w1.heap.size, 0, none⟩) 2 2 [Rw.mk ⟨some ⟨x5, 0, none⟩, 1, 1, [[97]]⟩ ⟨some ⟨x6, 0, none⟩, 1, 1, [3]⟩, Rw.mk ⟨some ⟨x5, 0, none⟩, 1, 1, [[97]]⟩ ⟨some ⟨x6, 0, none⟩, 1, 1, [3]⟩]).rd (w1.alloc (.cells #[.slice (some ⟨x5, 0, none⟩) 1 1, .slice (some ⟨x6, 0, none⟩) 1 1, .slice (some ⟨x5, 0, none⟩) 1 1, .slice (some ⟨x6, 0, none⟩) 1 1] 43)) := by
    refine ⟨reads_of_block (m := 2) (H9.out.blk 8 rfl) rfl, fun r hr => ?_, by show (2 : Nat) ≤ _; omega⟩
    have hr : r = Rw.mk ⟨some ⟨x5, 0, none⟩, 1, 1, [[97]]⟩ ⟨some ⟨x6, 0, none⟩, 1, 1, [3]⟩ := by simpa using hr
    subst hr
    refine ⟨⟨?_, fun t ht => ?_, by show (1 : Nat) ≤ _; omega⟩, ⟨?_, fun t ht => ?_, by show (1 : Nat) ≤ _; omega⟩⟩
    · have := reads_of_block (m := 1) (size := 1) (H9.out.blk 5 rfl) rfl
      rw [flat_texts]
      exact this
    · simp at ht
      subst ht
      show ([97] : List UInt8).length ≤ _
      simp
    · have := reads_of_block (m := 1) (size := 1) (H9.out.blk 6 rfl) rfl
      rw [flat_ints]
      exact this
    · simp at ht
      subst ht
      show I64 3
      unfold I64
      omega
  have hcc1 : D1.con = exS := by rw [hD1]; rfl
  have HP1 := Lib.hid (rows_any D1 _ _ hr1 hrow hn1 hm1 hd1 (by rw [hcc1]; exact exOk))
  have hcs1 : D1.cs = #[.slice (some ⟨x2, 0, none⟩) 1 1, .slice (some ⟨x3, 0, none⟩) 1 1] := by rw [hD1]
  rw [hcs1, hcc1] at HP1
  simp only [List.map_cons, List.map_nil] at HP1
  rw [show (Rw.con ⟨⟨some ⟨x5, 0, none⟩, 1, 1, [[97]]⟩, ⟨some ⟨x6, 0, none⟩, 1, 1, [3]⟩⟩) = exR from rfl, show foldC (sortC [facOf exS exR, facOf exS exR]) = _ from exFold] at HP1
  clear hD1 hr1 hn1 hm1 hd1 hrow hcs1 hcc1
  go_wp2_with (first | ((with_reducible show wpList _ _ _ (⟨some 16, _, _, _, _, _⟩ :: _) _ _); (refine wpList_load_blk rfl rowSch (.tmp 1) rfl _ rfl (H.out.blk 4 rfl) rfl ?_)) | ((with_reducible show wpList _ _ _ (⟨some 17, _, _, _, _, _⟩ :: _) _ _); (refine wpList_load_blk rfl rowRw (.tmp 2) rfl _ rfl (H.out.blk 7 rfl) rfl ?_)) | ((with_reducible show wpList _ _ _ (⟨some 18, _, _, _, _, _⟩ :: _) _ _); (refine wpList_load_blk rfl rowRw (.tmp 2) rfl _ rfl (H.out.blk 7 rfl) rfl ?_)) | ((with_reducible show wpList _ _ _ (⟨some 19, _, _, _, _, _⟩ :: _) _ _); refine wpList_tworows rfl (.tmp 17) (.tmp 18) rfl rfl rfl ?_))
  clear H
  have H := H9
  clear H9
  refine HP1.out.mono ?_; rintro e w2 ⟨v, k, rfl, hF, hb2⟩
  replace H := Lib.hid (H.out.bel hb2); (try simp only [List.set_cons_zero, List.set_cons_succ, List.cons_append, List.nil_append, List.eraseIdx_cons_zero, List.eraseIdx_cons_succ, List.setIfInBounds_toArray, World.size_alloc, selR, List.getD_cons_zero, List.getD_cons_succ] at H)
  clear hb2 HP1
  rcases hF with ⟨h, _⟩ | ⟨X, h1, rfl, rfl, hXok, hXn⟩
  · cases h
  injection h1 with h1
  have hl1 : X.n = 1 := by have h := congrArg List.length h1; rw [cons_len, hXok.len] at h; simpa using h.symm
  obtain ⟨fb, fo, f, hA, hfb, hfk, hfok, _, hfr, _⟩ := hXok.fct (k := 0) (by omega)
  have hcf : f.con = ([0], exAg) := by
    have h := congrArg (·[0]?) h1
    simp only [cons, List.getElem?_map, hfk] at h
    simpa using h.symm
  have hag : f.ag = exAg := congrArg Prod.snd hcf
  have q1 : w2.cell? ⟨fb, fo + 1, none⟩ = some (.int .i64 2) := by have := hfr 1 (.int .i64 f.ag.c) rfl; rw [hag] at this; simpa [exAg] using this
  have q2 : w2.cell? ⟨fb, fo + 2, none⟩ = some (.int .i64 6) := by have := hfr 2 (.int .i64 f.ag.p.s) rfl; rw [hag] at this; simpa [exAg] using this
  have HO := Lib.hid H.out.to
  clear hcf hag hfr hfk hfok hXok hXn h1
  obtain ⟨XA, Xn, Xc, Xl⟩ := X
  simp only at *
  subst hA hl1
  clear H
  go_wp2
  go_ret
  exact ⟨rfl, HO.out⟩

end Go.Proofs.Ytelnhhbefdfeoaa
