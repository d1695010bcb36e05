/- Walks of fact.Same and fact.All. -/
import Derived.Test.YtbociponcacmpaaFactFindsW
namespace Go.Proofs.Ytbociponcacmpaa
open Go.RowKit
set_option linter.unusedVariables false
attribute [local go_sem] fct_get0

/-- Do two facts say the same? -/
def sameC (f g : Fct) : Bool := decide (f.con = g.con)
theorem sameC_ag {f g : Fct} (h : ¬ f.ag = g.ag) : sameC f g = false := decide_eq_false (con_ne_ag h)
theorem sameC_cmp {f g : Fct} (h : f.ag = g.ag) : sameC f g = (cmpK f.ks.l g.ks.l == 0) := by
  unfold sameC
  rw [Bool.eq_iff_iff, decide_eq_true_eq, beq_iff_eq]
  refine ⟨fun e => ?_, fun e => ?_⟩
  · rw [show f.ks.l = g.ks.l from congrArg Prod.fst e]; exact cmpK_self _
  · unfold Fct.con; rw [cmpK_eq e, h]

/-- The function in fact.Same, as a value. -/
abbrev sameV : Value := .func (.func 81) #[] #[]

set_option maxRecDepth 100000 in
set_option maxHeartbeats 1000000 in
theorem same1_any (f g : Fct) (w : World) (hf : f.ok w) (hg : g.ok w) :
    Calls Try.prog 81 #[.agg f.cs, .agg g.cs] w fun e w' => e = .returned (.bool (sameC f g)) ∧ Bel w w' := by
  have Hf := Lib.hid hf
  have Hg := Lib.hid hg
  clear hf hg
  have b2 : Blk ((w.alloc (.cells f.cs 79)).alloc (.cells g.cs 79)) w.heap.size 79 f.cs := (Blk.new w _ _).alloc _
  have b3 : Blk ((w.alloc (.cells f.cs 79)).alloc (.cells g.cs 79)) (w.heap.size + 1) 79 g.cs := by
    have := Blk.new (w.alloc (.cells f.cs 79)) 79 g.cs
    rw [World.size_alloc] at this
    exact this
  have r2 := b2.fag
  have r3 := b3.fag
  have hB : Bel w ((w.alloc (.cells f.cs 79)).alloc (.cells g.cs 79)) := ((Bel.refl w).alloc _).alloc _
  by_cases hag : f.ag = g.ag
  · have HN : Hid (∀ w, (binOp .eql 35 (.agg f.ag.cs) (.agg g.ag.cs)).run Try.prog w = .ok (.bool true) w) := fun w => by rw [eqv_ag]; simp [hag]
    have HR := Lib.hid (sameC_cmp hag)
    clear hag
    go_enter Try.func81, Try.ntmps81
    go_wp2_with (first
      | ((with_reducible show wpList _ _ _ (⟨some 6, _, _, _, _, _⟩ :: _) _ _); refine wpList_load_row_at rfl rowAg (.tmp 5) rfl w.heap.size (1) rfl f.ag.cs rfl r2 ?_)
      | ((with_reducible show wpList _ _ _ (⟨some 8, _, _, _, _, _⟩ :: _) _ _); refine wpList_load_row_at rfl rowAg (.tmp 7) rfl (w.heap.size + 1) (1) rfl g.ag.cs rfl r3 ?_)
      | ((with_reducible show wpList _ _ _ (⟨some 9, _, _, _, _, _⟩ :: _) _ _); refine wpList_cmp_row (by first | rfl | go_simp) .eql 35 35 (.tmp 6) (.tmp 8) (by rfl) (by rfl) (by rfl) guard_ag (HN.out _) ?_)
      | ((with_reducible show wpList _ _ _ (⟨some 11, _, _, _, _, _⟩ :: _) _ _); refine wpList_load_blkG (by first | rfl | go_simp) rowFct (.tmp 2) (by rfl) w.heap.size (by rfl) b2 rfl ?_)
      | ((with_reducible show wpList _ _ _ (⟨some 12, _, _, _, _, _⟩ :: _) _ _); refine wpList_load_blkG (by first | rfl | go_simp) rowFct (.tmp 3) (by rfl) (w.heap.size + 1) (by rfl) b3 rfl ?_))
    refine (fcompare_any f g _ ⟨Hf.out.ks.mono hB, Hf.out.ag⟩ ⟨Hg.out.ks.mono hB, Hg.out.ag⟩).mono ?_; rintro e w1 ⟨rfl, hb1⟩
    go_wp2
    go_ret
    rw [HR.out]
    exact ⟨rfl, hB.trans hb1⟩
  · have HN : Hid (∀ w, (binOp .eql 35 (.agg f.ag.cs) (.agg g.ag.cs)).run Try.prog w = .ok (.bool false) w) := fun w => by rw [eqv_ag]; simp [hag]
    have HR := Lib.hid (sameC_ag hag)
    clear hag
    go_enter Try.func81, Try.ntmps81
    go_wp2_with (first
      | ((with_reducible show wpList _ _ _ (⟨some 6, _, _, _, _, _⟩ :: _) _ _); refine wpList_load_row_at rfl rowAg (.tmp 5) rfl w.heap.size (1) rfl f.ag.cs rfl r2 ?_)
      | ((with_reducible show wpList _ _ _ (⟨some 8, _, _, _, _, _⟩ :: _) _ _); refine wpList_load_row_at rfl rowAg (.tmp 7) rfl (w.heap.size + 1) (1) rfl g.ag.cs rfl r3 ?_)
      | ((with_reducible show wpList _ _ _ (⟨some 9, _, _, _, _, _⟩ :: _) _ _); refine wpList_cmp_row (by first | rfl | go_simp) .eql 35 35 (.tmp 6) (.tmp 8) (by rfl) (by rfl) (by rfl) guard_ag (HN.out _) ?_))
    go_ret
    rw [HR.out]
    exact ⟨rfl, hB⟩

set_option maxRecDepth 100000 in
set_option maxHeartbeats 1000000 in
theorem equalFunc_any (x y : Row Fct) (w : World) (hx : x.ok w) (hy : y.ok w) (hn : x.n ≤ 1000000) (hn2 : y.n ≤ 1000000) :
    Calls Try.prog 80 #[x.v, y.v, sameV] w fun e w' => e = .returned (.bool (sameF x.l y.l)) ∧ Bel w w' := by
  have hlx : Hid (x.l.length = x.n) := hx.len
  have hly : Hid (y.l.length = y.n) := hy.len
  have Hx := Lib.hid hx
  have Hy := Lib.hid hy
  clear hx hy
  obtain ⟨xA, n, xc, xl⟩ := x
  obtain ⟨yA, m, yc, yl⟩ := y
  simp only [Row.v] at *
  by_cases hnm : n = m
  · subst hnm
    go_enter Try.func80, Try.ntmps80
    go_wp2
    go_loopg [17] n (fun g i wr => ∃ k : Nat, g = n - k ∧ k ≤ n ∧ i = .int .i64 k ∧ Bel w wr ∧ Hid (cons (xl.take k) = cons (yl.take k)))
    case atStart => exact ⟨0, rfl, by omega, rfl, Bel.refl _, by show _ = _; simp⟩
    case round =>
      obtain ⟨k, hgk, hk, rfl, hB, hF⟩ := hrel
      have Hgk := Lib.hid hgk
      clear hgk
      by_cases hlt : k < n
      · obtain ⟨b, o, f, rfl, hb, hf, hfo, _, hrf, _⟩ := (Hx.out.mono hB).fct hlt
        obtain ⟨d, p, g, rfl, hd, hg, hgo, _, hrg, _⟩ := (Hy.out.mono hB).fct hlt
        have Hf := Lib.hid hf
        have Hg := Lib.hid hg
        have hrg' := rangeAt_bel hd hrg ((Bel.refl wr).alloc (.cells f.cs 79))
        have c8 : Blk ((wr.alloc (.cells f.cs 79)).alloc (.cells g.cs 79)) wr.heap.size 79 f.cs := (Blk.new wr _ _).alloc _
        have c9 : Blk ((wr.alloc (.cells f.cs 79)).alloc (.cells g.cs 79)) (wr.heap.size + 1) 79 g.cs := by
          have := Blk.new (wr.alloc (.cells f.cs 79)) 79 g.cs
          rw [World.size_alloc] at this
          exact this
        have hBr : Bel wr ((wr.alloc (.cells f.cs 79)).alloc (.cells g.cs 79)) := ((Bel.refl wr).alloc _).alloc _
        have Hfo : Hid (f.ok ((wr.alloc (.cells f.cs 79)).alloc (.cells g.cs 79))) := ⟨hfo.ks.mono hBr, hfo.ag⟩
        have Hgo : Hid (g.ok ((wr.alloc (.cells f.cs 79)).alloc (.cells g.cs 79))) := ⟨hgo.ks.mono hBr, hgo.ag⟩
        clear hf hg hfo hgo
        go_wp2_with (first
          | ((with_reducible show wpList _ _ _ (⟨some 21, _, _, _, _, _⟩ :: _) _ _); refine wpList_load_row_at rfl rowFct (.tmp 20) rfl b (o + k * 11) rfl f.cs rfl hrf ?_)
          | ((with_reducible show wpList _ _ _ (⟨_, .store _ (.tmp 8) _, _, _, _, _⟩ :: _) _ _); refine wpList_store_new rfl rowFct (.tmp 8) (.tmp 21) rfl rfl rfl f.cs rfl rfl (fct_one _) ?_)
          | ((with_reducible show wpList _ _ _ (⟨some 25, _, _, _, _, _⟩ :: _) _ _); refine wpList_load_row_at rfl rowFct (.tmp 24) rfl d (p + k * 11) rfl g.cs rfl hrg' ?_)
          | ((with_reducible show wpList _ _ _ (⟨_, .store _ (.tmp 9) _, _, _, _, _⟩ :: _) _ _); refine wpList_store_newG rfl rowFct (.tmp 9) (.tmp 25) rfl (wr.heap.size + 1) (World.size_alloc _ _).symm rfl rfl g.cs rfl rfl (fct_one _) ?_)
          | ((with_reducible show wpList _ _ _ (⟨some 27, _, _, _, _, _⟩ :: _) _ _); refine wpList_load_blkG (by first | rfl | go_simp) rowFct (.tmp 8) (by rfl) wr.heap.size (by rfl) c8 rfl ?_)
          | ((with_reducible show wpList _ _ _ (⟨some 28, _, _, _, _, _⟩ :: _) _ _); refine wpList_load_blkG (by first | rfl | go_simp) rowFct (.tmp 9) (by rfl) (wr.heap.size + 1) (by rfl) c9 rfl ?_))
        refine (same1_any f g _ Hfo.out Hgo.out).mono ?_; rintro e w1 ⟨rfl, hb1⟩
        cases hS : sameC f g with
        | true =>
          have HR : Hid (cons (xl.take (k + 1)) = cons (yl.take (k + 1))) := by show _ = _; rw [cons_snoc Hf.out, cons_snoc Hg.out, hF.out, of_decide_eq_true hS]
          clear hS hF
          go_wp2
          go_roundg (n - (k + 1))
          case rel => exact ⟨k + 1, rfl, by omega, by go_num, (hB.trans hBr).trans hb1, HR⟩
          case measure => rw [Hgk.out]; omega
        | false =>
          have HR : Hid (sameF xl yl = false) := same_not Hf.out Hg.out (of_decide_eq_false hS)
          clear hS hF
          go_wp2
          go_ret
          rw [HR.out]
          exact ⟨rfl, (hB.trans hBr).trans hb1⟩
      · have HR : Hid (sameF xl yl = true) := by
          show _ = _
          have h1 : xl.length = n := hlx.out
          have h2 : yl.length = n := hly.out
          have h3 := hF.out
          rw [List.take_of_length_le (by omega), List.take_of_length_le (by omega)] at h3
          unfold sameF
          simp [h3]
        clear hF
        go_wp2
        go_ret
        rw [HR.out]
        exact ⟨rfl, hB⟩
  · have HR : Hid (sameF xl yl = false) := by
      show _ = _
      unfold sameF
      rw [decide_eq_false_iff_not]
      intro e
      have h1 : xl.length = n := hlx.out
      have h2 : yl.length = m := hly.out
      have h3 := congrArg List.length e
      rw [cons_len, cons_len] at h3
      omega
    have q : ((n : Int) != (m : Int)) = true := by rw [bne_iff_ne]; omega
    have q2 : (n != m) = true := by rw [bne_iff_ne]; exact hnm
    clear hnm
    go_enter Try.func80, Try.ntmps80
    go_wp2
    go_ret
    rw [HR.out]
    exact ⟨rfl, Bel.refl _⟩

set_option maxRecDepth 100000 in
set_option maxHeartbeats 1000000 in
theorem psame_any (x y : Row Fct) (w : World) (hx : x.ok w) (hy : y.ok w) (hn : x.n ≤ 1000000) (hn2 : y.n ≤ 1000000) :
    Calls Try.prog 65 #[x.v, y.v] w fun e w' => e = .returned (.bool (sameF x.l y.l)) ∧ Bel w w' := by
  go_enter Try.func65, Try.ntmps65
  go_wp2_with fail
  refine (equalFunc_any x y _ hx hy hn hn2).mono ?_; rintro e w1 ⟨rfl, hb1⟩
  go_wp2
  go_ret
  exact ⟨rfl, hb1⟩

/-- The aggregates of facts. -/
def agsF (l : List Fct) : List Ag := l.map fun f => f.ag

set_option maxRecDepth 100000 in
set_option maxHeartbeats 1000000 in
theorem fall_any (x : Row Fct) (w : World) (hx : x.ok w) (hn : x.n ≤ 1000000) :
    Calls Try.prog 64 #[x.v] w fun e w' => e = .returned (.tuple #[.agg (Ag.all .zero (agsF x.l)).1.cs, .bool (Ag.all .zero (agsF x.l)).2]) ∧ Bel w w' := by
  have hlx : Hid (x.l.length = x.n) := hx.len
  have Hx := Lib.hid hx
  clear hx
  obtain ⟨A, n, c, l⟩ := x
  simp only [Row.v] at *
  go_enter Try.func64, Try.ntmps64
  go_wp2
  have BB : Bel w ((w.alloc (.cells Ag.zero.cs 35)).alloc (.cells Ag.zero.cs 35)) := ((Bel.refl w).alloc _).alloc _
  have B0 : Blk ((w.alloc (.cells Ag.zero.cs 35)).alloc (.cells Ag.zero.cs 35)) w.heap.size 35 Ag.zero.cs := (Blk.new w _ _).alloc _
  have B1 : Blk ((w.alloc (.cells Ag.zero.cs 35)).alloc (.cells Ag.zero.cs 35)) (w.heap.size + 1) 35 Ag.zero.cs := by
    have := Blk.new (w.alloc (.cells Ag.zero.cs 35)) 35 Ag.zero.cs
    rw [World.size_alloc] at this
    exact this
  go_loopg [5, 11] n (fun g s5 i wr => ∃ (k : Nat) (m : Ag), g = n - k ∧ k ≤ n ∧ i = .int .i64 k ∧ s5 = .bool true ∧ Bel w wr ∧ Blk wr w.heap.size 35 Ag.zero.cs ∧ Blk wr (w.heap.size + 1) 35 m.cs ∧ m.ok ∧ Hid (Ag.all .zero (agsF (l.take k)) = (m, true)))
  case atStart => exact ⟨0, .zero, rfl, by omega, rfl, rfl, BB, B0, B1, zero_ok, rfl⟩
  case round =>
    clear B0 B1 BB
    obtain ⟨k, m, hgk, hk, rfl, rfl, hB, b0, b1, hm, hF⟩ := hrel
    have Hgk := Lib.hid hgk
    have Hm := Lib.hid hm
    clear hgk hm
    by_cases hlt : k < n
    · obtain ⟨b, o, f, rfl, hb, hf, hfo, _, hrf, _⟩ := (Hx.out.mono hB).fct hlt
      have Hao := Lib.hid hfo.ag
      obtain ⟨⟨m', ok⟩, Hj⟩ : ∃ x, Hid (m.join f.ag = x) := ⟨_, rfl⟩
      have Hok' : Hid (m'.ok) := by have := join_ok Hm.out Hao.out; rw [Hj.out] at this; exact this
      have HF : Hid (Ag.all .zero (agsF (l.take (k + 1))) = if ok = true then (m', true) else (.zero, false)) := by
        show _ = _
        rw [List.take_add_one, hf]
        have e : agsF (l.take k ++ (some f).toList) = agsF (l.take k) ++ [f.ag] := by simp [agsF]
        rw [e, all_snoc, hF.out]
        simp only [if_pos]
        rw [Hj.out]
        cases ok <;> simp
      clear hf hfo hF
      have a1 := b1.alloc (.cells f.cs 79)
      have a0 := b0.alloc (.cells f.cs 79)
      have a7 := (Blk.new wr 79 f.cs).fag
      have hBa := hB.alloc (.cells f.cs 79)
      go_wp2_with (first
        | ((with_reducible show wpList _ _ _ (⟨some 14, _, _, _, _, _⟩ :: _) _ _); refine wpList_load_row_at rfl rowFct (.tmp 13) rfl b (o + k * 11) rfl f.cs rfl hrf ?_)
        | ((with_reducible show wpList _ _ _ (⟨_, .store _ (.tmp 7) _, _, _, _, _⟩ :: _) _ _); refine wpList_store_new rfl rowFct (.tmp 7) (.tmp 14) rfl rfl rfl f.cs rfl rfl (fct_one _) ?_)
        | ((with_reducible show wpList _ _ _ (⟨some 16, _, _, _, _, _⟩ :: _) _ _); refine wpList_load_blkG (by first | rfl | go_simp) rowAg (.tmp 4) (by rfl) (w.heap.size + 1) (by rfl) a1 rfl ?_)
        | ((with_reducible show wpList _ _ _ (⟨some 18, _, _, _, _, _⟩ :: _) _ _); refine wpList_load_row_at rfl rowAg (.tmp 17) rfl wr.heap.size (1) rfl f.ag.cs rfl a7 ?_))
      refine (join_any m f.ag _ Hm.out Hao.out).mono ?_; rintro e w1 ⟨rfl, hb1⟩
      rw [Hj.out]
      have c1 := a1.bel hb1
      have c0 := a0.bel hb1
      have hB1 := hBa.trans hb1
      clear a1 a0 a7 hBa hb1 hB b0 b1
      cases ok with
      | true =>
        go_wp2_with ((with_reducible show wpList _ _ _ (⟨_, .store _ (.tmp 4) _, _, _, _, _⟩ :: _) _ _); refine wpList_store_blk rfl rowAg (.tmp 4) (.tmp 20) rfl (w.heap.size + 1) rfl c1 rfl m'.cs rfl rfl (ag_one _) ?_; intro w2 d1 g2; have d0 := c0.grown g2 (by simp))
        go_roundg (n - (k + 1))
        case rel => exact ⟨k + 1, m', rfl, by omega, by go_num, rfl, hB1.grownAt g2 (by omega), d0, d1, Hok'.out, HF⟩
        case measure => rw [Hgk.out]; omega
      | false =>
        have HE : Hid (Ag.all .zero (agsF l) = (.zero, false)) := by
          show _ = _
          rw [← List.take_append_drop (k + 1) l]
          have e : agsF (l.take (k + 1) ++ l.drop (k + 1)) = agsF (l.take (k + 1)) ++ agsF (l.drop (k + 1)) := by simp [agsF]
          rw [e]
          exact all_false (by rw [HF.out]; rfl)
        go_wp2_with (first
          | ((with_reducible show wpList _ _ _ (⟨_, .store _ (.tmp 4) _, _, _, _, _⟩ :: _) _ _); refine wpList_store_blk rfl rowAg (.tmp 4) (.tmp 20) rfl (w.heap.size + 1) rfl c1 rfl m'.cs rfl rfl (ag_one _) ?_; intro w2 d1 g2; have d0 := c0.grown g2 (by simp))
          | ((with_reducible show wpList _ _ _ (⟨_, .store _ (.tmp 2) _, _, _, _, _⟩ :: _) _ _); refine wpList_store_blk rfl rowAg (.tmp 2) (.tmp 24) rfl w.heap.size rfl d0 rfl Ag.zero.cs rfl rfl (ag_one _) ?_; intro w3 e0 g3))
        refine bodyPost_ret (v := .tuple #[.agg Ag.zero.cs, .bool false]) (results_blk Try.results64 rowAg rfl e0 rfl) rfl ?_
        rw [HE.out]
        exact ⟨rfl, (hB1.grownAt g2 (by omega)).grownAt g3 (by omega)⟩
    · have HE : Hid (Ag.all .zero (agsF l) = (m, true)) := by show _ = _; rw [← hF.out, List.take_of_length_le (by have h1 : l.length = n := hlx.out; omega)]
      clear hF
      go_wp2_with (first
        | ((with_reducible show wpList _ _ _ (⟨some 26, _, _, _, _, _⟩ :: _) _ _); refine wpList_load_blkG (by first | rfl | go_simp) rowAg (.tmp 4) (by rfl) (w.heap.size + 1) (by rfl) b1 rfl ?_)
        | ((with_reducible show wpList _ _ _ (⟨_, .store _ (.tmp 2) _, _, _, _, _⟩ :: _) _ _); refine wpList_store_blk rfl rowAg (.tmp 2) (.tmp 26) rfl w.heap.size rfl b0 rfl m.cs rfl rfl (ag_one _) ?_; intro w3 e0 g3))
      refine bodyPost_ret (v := .tuple #[.agg m.cs, .bool true]) (results_blk Try.results64 rowAg rfl e0 rfl) rfl ?_
      rw [HE.out]
      exact ⟨rfl, hB.grownAt g3 (by omega)⟩

end Go.Proofs.Ytbociponcacmpaa
