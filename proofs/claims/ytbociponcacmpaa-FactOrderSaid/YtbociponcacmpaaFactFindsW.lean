/- The walk of the law FactFinds. -/
import Derived.Test.YtbociponcacmpaaFactH
import Derived.Test.YtbociponcacmpaaFactK
namespace Go.Proofs.Ytbociponcacmpaa
open Go.RowKit
set_option linter.unusedVariables false
attribute [local go_sem] fct_get0

theorem Blk.fag {w : World} {g : Nat} {t : TypeId} {f : Fct} (h : Blk w g t f.cs) : w.rangeAt g 1 f.ag.cs.toList := fun j v hv => by
  rw [Nat.add_comm, h.cell]
  simpa [Fct.cs] using hv
theorem wpList_load_rowG {P : Program} {ops : Array Oper} {rest : List Oper} {op : Oper} {a : Act} {w : World} {Q : Exit → Act → World → Prop} (hw : Region.wanted op (yielded ops a.tmps) = true) {ty : TypeId} {n : Nat} (R : RowTy P ty n) (x : Operand) (ho : op.op = .load ty x)
    (b o : Nat) (hx : a.eval x = .pointer (some ⟨b, o, none⟩)) (cs : Array Value) (hn : cs.size = n) (hc : w.rangeAt b o cs.toList)
    (h : wpList P ops Q rest (a.put op.dst (.agg cs)) w) : wpList P ops Q (op :: rest) a w := by
  obtain ⟨d, hu, hd⟩ := R.hu
  refine wpList_step fun K hK => ?_
  rw [if_pos hw]
  exact wp_load_mid ty x ho b o hx cs.toList d hc hu hd (by rw [R.hi]; simp [hn]) (hK _ _ (by simpa using h))

theorem one_row {w : World} {g : Nat} {f : Fct} (hb : Blk w g 79 f.cs) (hf : f.ok w) : Row.ok w (⟨some ⟨g, 0, none⟩, 1, 1, [f]⟩ : Row Fct) := by
  refine ⟨?_, fun a ha => ?_, Nat.le_refl _, by unfold maxLen; simp, by simp [Cel.bytes]⟩
  · simp only [List.flatMap_cons, List.flatMap_nil, List.append_nil]
    exact reads_of_block hb rfl
  · rw [List.mem_singleton] at ha
    subst ha
    exact hf

/-- What fact.Find found, in one form. -/
structure Found (l : List Fct) (t : List Int) (p : Nat) (met : Bool) (F : Fct) : Prop where
  only : ∀ k g, l[k]? = some g → cmpK g.ks.l t = 0 → met = true ∧ k = p ∧ g.con = F.con
  there : met = true → ∃ g, l[p]? = some g ∧ cmpK g.ks.l t = 0
  not : met = false → F = Fct.zero
theorem found_uni {l : List Fct} {t : List Int} {w : World} {e : Ending} {w' : World} (hr : risesF l = true) (h : FoundPost l t w e w') : ∃ p met F, Found l t p met F ∧ F.ok w' ∧ e = .returned (.tuple #[.agg F.cs, .bool met]) ∧ Bel w w' := by
  obtain ⟨p, hat, hB, h⟩ := h
  have key : ∀ k g, l[k]? = some g → cmpK g.ks.l t = 0 → k = p := fun k g hg h0 => by
    rcases Nat.lt_trichotomy k p with h1 | h1 | h1
    · have := hat.lo k g h1 hg; omega
    · exact h1
    · have hk := (List.getElem?_eq_some_iff.1 hg).1
      have hp : l[p]? = some (l[p]'(by omega)) := List.getElem?_eq_getElem (by omega)
      have h2 := chain_le hr h1 (keys_get hp) (keys_get hg)
      rw [cmpK_eq h0] at h2
      exact absurd h2 (hat.hi p _ (Nat.le_refl _) hp)
  rcases h with ⟨hm, rfl⟩ | ⟨hm, f, f', hf, hc, ho, rfl⟩
  · refine ⟨p, false, Fct.zero, ⟨fun k g hg h0 => ?_, (fun h => by cases h), fun _ => rfl⟩, ⟨⟨Rd.nil, by simp [Fct.zero, Row.nil], Nat.le_refl _, Nat.zero_le _, Nat.zero_le _⟩, zero_ok⟩, rfl, hB⟩
    have := key k g hg h0
    subst this
    unfold metAt at hm
    rw [hg] at hm
    simp [h0] at hm
  · refine ⟨p, true, f', ⟨fun k g hg h0 => ?_, fun _ => ⟨f, hf, ?_⟩, fun h => by cases h⟩, ho, rfl, hB⟩
    · have := key k g hg h0
      subst this
      rw [hf] at hg
      injection hg with hg
      subst hg
      exact ⟨rfl, rfl, hc.symm⟩
    · unfold metAt at hm
      rw [hf] at hm
      simpa using hm

set_option maxRecDepth 100000 in
set_option maxHeartbeats 400000 in
theorem factFinds_main (x : Row Fct) (k : Row Int) (w : World) (hx : x.ok w) (hk : k.ok w) (hF : fewF 60 x.l = true) (hkn : k.n ≤ 100) (hr : risesF x.l = true) :
    Calls Try.prog 12 #[x.v, k.v] w fun e w' => e = .returned (.bool true) ∧ Bel w w' := by
  have hn : x.n ≤ 60 := by have := fewF_len hF; rw [hx.len] at this; exact this
  have hlen : Hid (x.l.length = x.n) := hx.len
  have Hx := Lib.hid hx
  have Hk := Lib.hid hk
  have HF := Lib.hid hF
  have Hr := Lib.hid hr
  clear hx hk hF hr
  obtain ⟨A, n, c, l⟩ := x
  obtain ⟨kA, kn, kc, kl⟩ := k
  simp only [Row.v] at *
  have d1 : decide (100 < (kn : Int)) = false := by simp; omega
  go_enter Try.func12, Try.ntmps12
  go_wp2_with fail
  refine (few19_any ⟨A, n, c, l⟩ _ _ Hx.out (by omega) (by omega)).mono ?_; rintro e w1 ⟨rfl, rfl⟩
  rw [show Int.toNat 60 = 60 from rfl, HF.out]
  go_wp2_with fail
  refine (rises_any ⟨A, n, c, l⟩ _ Hx.out (by simp only; omega)).mono ?_; rintro e w1 ⟨rfl, hb1⟩
  rw [Hr.out]
  go_wp2_with fail
  refine (find_any ⟨A, n, c, l⟩ ⟨kA, kn, kc, kl⟩ _ (Hx.out.mono hb1) (Hk.out.mono hb1) (by simp only; omega) Hr.out).mono ?_
  intro e w2 hfound
  obtain ⟨p, met, F, hFo, hFok, rfl, hb2⟩ := found_uni Hr.out hfound
  have HFo := Lib.hid hFo
  have hB2 := hb1.trans hb2
  clear hfound hFo hb1 hb2
  have hb0 : ∀ w : World, (Instr.build 79 #[(0, .slice kA kn kc)]).run Try.prog w = .ok (.agg (Fct.mk ⟨kA, kn, kc, kl⟩ .zero).cs) w := build_fct0 ⟨kA, kn, kc, kl⟩
  go_wp2_with (first
    | ((with_reducible show wpList _ _ _ (⟨_, .store _ (.tmp 5) _, _, _, _, _⟩ :: _) _ _); refine wpList_store_new rfl rowFct (.tmp 5) (.tmp 29) rfl rfl rfl F.cs rfl rfl (fct_one _) ?_)
    | ((with_reducible show wpList _ _ _ (⟨_, .store _ (.tmp 7) _, _, _, _, _⟩ :: _) _ _); refine wpList_store_new rfl rowFct (.tmp 7) (.tmp 32) rfl rfl rfl (Fct.mk ⟨kA, kn, kc, kl⟩ .zero).cs rfl rfl (fct_one _) ?_))
  have b5 : Blk ((w2.alloc (.cells F.cs 79)).alloc (.cells (Fct.mk ⟨kA, kn, kc, kl⟩ .zero).cs 79)) w2.heap.size 79 F.cs := (Blk.new w2 _ _).alloc _
  have b7 : Blk ((w2.alloc (.cells F.cs 79)).alloc (.cells (Fct.mk ⟨kA, kn, kc, kl⟩ .zero).cs 79)) (w2.heap.size + 1) 79 (Fct.mk ⟨kA, kn, kc, kl⟩ .zero).cs := by
    have := Blk.new (w2.alloc (.cells F.cs 79)) 79 (Fct.mk ⟨kA, kn, kc, kl⟩ .zero).cs
    rw [World.size_alloc] at this
    exact this
  have hBW : Bel w2 ((w2.alloc (.cells F.cs 79)).alloc (.cells (Fct.mk ⟨kA, kn, kc, kl⟩ .zero).cs 79)) := ((Bel.refl w2).alloc _).alloc _
  change Code.wp Try.prog _ _ _ ((w2.alloc (.cells F.cs 79)).alloc (.cells (Fct.mk ⟨kA, kn, kc, kl⟩ .zero).cs 79))
  have HFok : Hid (F.ok ((w2.alloc (.cells F.cs 79)).alloc (.cells (Fct.mk ⟨kA, kn, kc, kl⟩ .zero).cs 79))) := ⟨hFok.ks.mono hBW, hFok.ag⟩
  have HBw : Hid (Bel w ((w2.alloc (.cells F.cs 79)).alloc (.cells (Fct.mk ⟨kA, kn, kc, kl⟩ .zero).cs 79))) := hB2.trans hBW
  clear hFok hb0 hB2 hBW d1
  generalize (w2.alloc (.cells F.cs 79)).alloc (.cells (Fct.mk ⟨kA, kn, kc, kl⟩ .zero).cs 79) = W at *
  generalize w2.heap.size = g5 at *
  have HOwn : Hid ((Fct.mk ⟨kA, kn, kc, kl⟩ .zero).ok W) := ⟨Hk.out.mono HBw.out, zero_ok⟩
  obtain ⟨own, Hown⟩ : ∃ own, Hid (Fct.mk ⟨kA, kn, kc, kl⟩ .zero = own) := ⟨_, rfl⟩
  rw [Hown.out] at b7 HOwn
  have Hokl : Hid (own.ks.l = kl) := by rw [← Hown.out]; rfl
  clear Hown Hk
  go_loopg [8, 35] n (fun gg s8 i wr => ∃ k : Nat, gg = n - k ∧ k ≤ n ∧ i = .int .i64 k ∧ s8 = .int .i64 (if met = true ∧ p < k then 1 else 0) ∧ Bel W wr)
  case atStart => exact ⟨0, rfl, by omega, rfl, by simp, Bel.refl _⟩
  case round =>
    obtain ⟨k, hgk, hk, rfl, rfl, hB⟩ := hrel
    have Hgk := Lib.hid hgk
    clear hgk
    obtain ⟨z, Hz⟩ : ∃ z : Int, Hid ((if met = true ∧ p < k then (1 : Int) else 0) = z) := ⟨_, rfl⟩
    rw [Hz.out]
    by_cases hlt : k < n
    · obtain ⟨b, o, g, rfl, hb, hg, hgo, _, hrg, _⟩ := ((Hx.out.mono HBw.out).mono hB).fct hlt
      have Hg := Lib.hid hg
      have hBa : Bel W (wr.alloc (.cells g.cs 79)) := hB.alloc _
      have c5 := b5.bel hBa
      have c7 := b7.bel hBa
      have c10 := Blk.new wr 79 g.cs
      have Hgo : Hid (g.ok (wr.alloc (.cells g.cs 79))) := ⟨hgo.ks.mono ((Bel.refl wr).alloc _), hgo.ag⟩
      have HO : Hid (own.ok (wr.alloc (.cells g.cs 79))) := ⟨HOwn.out.ks.mono hBa, HOwn.out.ag⟩
      have HFk : Hid (F.ok (wr.alloc (.cells g.cs 79))) := ⟨HFok.out.ks.mono hBa, HFok.out.ag⟩
      clear hg hgo
      cases hL : lessK g.ks.l own.ks.l with
      | true =>
        have HL := Lib.hid hL
        have HZ : Hid ((if met = true ∧ p < k + 1 then (1 : Int) else 0) = z) := by
          show _ = _
          rw [← Hz.out]
          have hne : ¬ (met = true ∧ p = k) := fun ⟨h1, h2⟩ => by
            obtain ⟨g', hg', h0⟩ := HFo.out.there h1
            rw [h2, Hg.out] at hg'
            injection hg' with hg'
            subst hg'
            unfold lessK at hL
            rw [Hokl.out, h0] at hL
            cases hL
          by_cases h : met = true ∧ p < k
          · rw [if_pos h, if_pos ⟨h.1, by omega⟩]
          · rw [if_neg h, if_neg (fun h2 => by by_cases h3 : p = k; exact hne ⟨h2.1, h3⟩; exact h ⟨h2.1, by omega⟩)]
        clear hL
        go_wp2_with (first
          | ((with_reducible show wpList _ _ _ (⟨some 38, _, _, _, _, _⟩ :: _) _ _); refine wpList_load_row_at rfl rowFct (.tmp 37) rfl b (o + k * 11) rfl g.cs rfl hrg ?_)
          | ((with_reducible show wpList _ _ _ (⟨_, .store _ (.tmp 10) _, _, _, _, _⟩ :: _) _ _); refine wpList_store_new rfl rowFct (.tmp 10) (.tmp 38) rfl rfl rfl g.cs rfl rfl (fct_one _) ?_)
          | ((with_reducible show wpList _ _ _ (⟨some 39, _, _, _, _, _⟩ :: _) _ _); refine wpList_load_blkG (by first | rfl | go_simp) rowFct (.tmp 10) (by rfl) wr.heap.size (by rfl) c10 rfl ?_)
          | ((with_reducible show wpList _ _ _ (⟨some 40, _, _, _, _, _⟩ :: _) _ _); refine wpList_load_blkG (by first | rfl | go_simp) rowFct (.tmp 7) (by rfl) (g5 + 1) (by rfl) c7 rfl ?_))
        refine (less_val HL.out Hgo.out HO.out).mono ?_; rintro e w3 ⟨rfl, hb3⟩
        go_wp2
        go_roundg (n - (k + 1))
        case rel => exact ⟨k + 1, rfl, by omega, by go_num, by rw [HZ.out], hBa.trans hb3⟩
        case measure => rw [Hgk.out]; omega
      | false =>
        have HL := Lib.hid hL
        cases hM : lessK own.ks.l g.ks.l with
        | true =>
          have HM := Lib.hid hM
          have HZ : Hid ((if met = true ∧ p < k + 1 then (1 : Int) else 0) = z) := by
            show _ = _
            rw [← Hz.out]
            have hne : ¬ (met = true ∧ p = k) := fun ⟨h1, h2⟩ => by
              obtain ⟨g', hg', h0⟩ := HFo.out.there h1
              rw [h2, Hg.out] at hg'
              injection hg' with hg'
              subst hg'
              unfold lessK at hM
              rw [Hokl.out, cmpK_swap, h0] at hM
              cases hM
            by_cases h : met = true ∧ p < k
            · rw [if_pos h, if_pos ⟨h.1, by omega⟩]
            · rw [if_neg h, if_neg (fun h2 => by by_cases h3 : p = k; exact hne ⟨h2.1, h3⟩; exact h ⟨h2.1, by omega⟩)]
          clear hL hM
          go_wp2_with (first
            | ((with_reducible show wpList _ _ _ (⟨some 38, _, _, _, _, _⟩ :: _) _ _); refine wpList_load_row_at rfl rowFct (.tmp 37) rfl b (o + k * 11) rfl g.cs rfl hrg ?_)
            | ((with_reducible show wpList _ _ _ (⟨_, .store _ (.tmp 10) _, _, _, _, _⟩ :: _) _ _); refine wpList_store_new rfl rowFct (.tmp 10) (.tmp 38) rfl rfl rfl g.cs rfl rfl (fct_one _) ?_)
            | ((with_reducible show wpList _ _ _ (⟨some 39, _, _, _, _, _⟩ :: _) _ _); refine wpList_load_blkG (by first | rfl | go_simp) rowFct (.tmp 10) (by rfl) wr.heap.size (by rfl) c10 rfl ?_)
            | ((with_reducible show wpList _ _ _ (⟨some 40, _, _, _, _, _⟩ :: _) _ _); refine wpList_load_blkG (by first | rfl | go_simp) rowFct (.tmp 7) (by rfl) (g5 + 1) (by rfl) c7 rfl ?_))
          refine (less_val HL.out Hgo.out HO.out).mono ?_; rintro e w3 ⟨rfl, hb3⟩
          have e7 := c7.bel hb3
          have e10 := c10.bel hb3
          go_wp2_with (first
            | ((with_reducible show wpList _ _ _ (⟨some 44, _, _, _, _, _⟩ :: _) _ _); refine wpList_load_blkG (by first | rfl | go_simp) rowFct (.tmp 7) (by rfl) (g5 + 1) (by rfl) e7 rfl ?_)
            | ((with_reducible show wpList _ _ _ (⟨some 45, _, _, _, _, _⟩ :: _) _ _); refine wpList_load_blkG (by first | rfl | go_simp) rowFct (.tmp 10) (by rfl) wr.heap.size (by rfl) e10 rfl ?_))
          refine (less_val HM.out ⟨HO.out.ks.mono hb3, HO.out.ag⟩ ⟨Hgo.out.ks.mono hb3, Hgo.out.ag⟩).mono ?_; rintro e w4 ⟨rfl, hb4⟩
          go_wp2
          go_roundg (n - (k + 1))
          case rel => exact ⟨k + 1, rfl, by omega, by go_num, by rw [HZ.out], (hBa.trans hb3).trans hb4⟩
          case measure => rw [Hgk.out]; omega
        | false =>
          have HM := Lib.hid hM
          have h0 : cmpK g.ks.l kl = 0 := by
            have h1 := cmpK_range g.ks.l own.ks.l
            have h2 := cmpK_swap g.ks.l own.ks.l
            unfold lessK at hL hM
            simp at hL hM
            rw [← Hokl.out]
            omega
          obtain ⟨hmet, rfl, hcon⟩ := HFo.out.only k g Hg.out h0
          have hz0 : z = 0 := by rw [← Hz.out, if_neg (by omega)]
          subst hz0
          have HZ : Hid ((if met = true ∧ k < k + 1 then (1 : Int) else 0) = 1) := by show _ = _; rw [if_pos ⟨hmet, by omega⟩]
          have hag : F.ag = g.ag := (congrArg Prod.snd hcon).symm
          have HN : Hid (∀ w, (binOp .neq 35 (.agg F.ag.cs) (.agg g.ag.cs)).run Try.prog w = .ok (.bool false) w) := fun w => by rw [neqv_ag]; simp [hag]
          have Hcon := Lib.hid hcon
          clear hL hM h0 hmet hcon hag
          go_wp2_with (first
            | ((with_reducible show wpList _ _ _ (⟨some 38, _, _, _, _, _⟩ :: _) _ _); refine wpList_load_row_at rfl rowFct (.tmp 37) rfl b (o + k * 11) rfl g.cs rfl hrg ?_)
            | ((with_reducible show wpList _ _ _ (⟨_, .store _ (.tmp 10) _, _, _, _, _⟩ :: _) _ _); refine wpList_store_new rfl rowFct (.tmp 10) (.tmp 38) rfl rfl rfl g.cs rfl rfl (fct_one _) ?_)
            | ((with_reducible show wpList _ _ _ (⟨some 39, _, _, _, _, _⟩ :: _) _ _); refine wpList_load_blkG (by first | rfl | go_simp) rowFct (.tmp 10) (by rfl) wr.heap.size (by rfl) c10 rfl ?_)
            | ((with_reducible show wpList _ _ _ (⟨some 40, _, _, _, _, _⟩ :: _) _ _); refine wpList_load_blkG (by first | rfl | go_simp) rowFct (.tmp 7) (by rfl) (g5 + 1) (by rfl) c7 rfl ?_))
          refine (less_val HL.out Hgo.out HO.out).mono ?_; rintro e w3 ⟨rfl, hb3⟩
          have e7 := c7.bel hb3
          have e10 := c10.bel hb3
          go_wp2_with (first
            | ((with_reducible show wpList _ _ _ (⟨some 44, _, _, _, _, _⟩ :: _) _ _); refine wpList_load_blkG (by first | rfl | go_simp) rowFct (.tmp 7) (by rfl) (g5 + 1) (by rfl) e7 rfl ?_)
            | ((with_reducible show wpList _ _ _ (⟨some 45, _, _, _, _, _⟩ :: _) _ _); refine wpList_load_blkG (by first | rfl | go_simp) rowFct (.tmp 10) (by rfl) wr.heap.size (by rfl) e10 rfl ?_))
          refine (less_val HM.out ⟨HO.out.ks.mono hb3, HO.out.ag⟩ ⟨Hgo.out.ks.mono hb3, Hgo.out.ag⟩).mono ?_; rintro e w4 ⟨rfl, hb4⟩
          have f5 := (c5.bel hb3).bel hb4
          have f10 := e10.bel hb4
          have f5' := f5.alloc (.cells F.cs 79)
          have f10' := f10.alloc (.cells F.cs 79)
          have r5 := f5.fag
          have r10 := f10.fag
          go_wp2_with (first
            | ((with_reducible show wpList _ _ _ (⟨some 52, _, _, _, _, _⟩ :: _) _ _); refine wpList_load_row_at rfl rowAg (.tmp 51) rfl g5 (1) rfl F.ag.cs rfl r5 ?_)
            | ((with_reducible show wpList _ _ _ (⟨some 54, _, _, _, _, _⟩ :: _) _ _); refine wpList_load_row_at rfl rowAg (.tmp 53) rfl wr.heap.size (1) rfl g.ag.cs rfl r10 ?_)
            | ((with_reducible show wpList _ _ _ (⟨some 55, _, _, _, _, _⟩ :: _) _ _); refine wpList_cmp_row (by first | rfl | go_simp) .neq 35 35 (.tmp 52) (.tmp 54) (by rfl) (by rfl) (by rfl) guard_ag (HN.out _) ?_)
            | ((with_reducible show wpList _ _ _ (⟨some 57, _, _, _, _, _⟩ :: _) _ _); refine wpList_load_blkG (by first | rfl | go_simp) rowFct (.tmp 5) (by rfl) g5 (by rfl) f5 rfl ?_)
            | ((with_reducible show wpList _ _ _ (⟨some 58, _, _, _, _, _⟩ :: _) _ _); refine wpList_buildSlice1G (by first | rfl | go_simp) E_fct (.tmp 57) (by rfl) F.cs (by rfl) rfl (by omega) ?_)
            | ((with_reducible show wpList _ _ _ (⟨some 60, _, _, _, _, _⟩ :: _) _ _); refine wpList_buildSlice1G (by first | rfl | go_simp) E_fct (.tmp 59) (by rfl) g.cs (by rfl) rfl (by omega) ?_)
            | ((with_reducible show wpList _ _ _ (⟨some 59, _, _, _, _, _⟩ :: _) _ _); refine wpList_load_blkG (by first | rfl | go_simp) rowFct (.tmp 10) (by rfl) wr.heap.size (by rfl) f10' rfl ?_))
          have HFk4 : Hid (F.ok w4) := ⟨(HFk.out.ks.mono hb3).mono hb4, HFk.out.ag⟩
          have Hgo4 : Hid (g.ok w4) := ⟨(Hgo.out.ks.mono hb3).mono hb4, Hgo.out.ag⟩
          have hBs : Bel w4 ((w4.alloc (.cells F.cs 79)).alloc (.cells g.cs 79)) := ((Bel.refl w4).alloc _).alloc _
          have s1 : Blk ((w4.alloc (.cells F.cs 79)).alloc (.cells g.cs 79)) w4.heap.size 79 F.cs := (Blk.new w4 _ _).alloc _
          have s2 : Blk ((w4.alloc (.cells F.cs 79)).alloc (.cells g.cs 79)) (w4.heap.size + 1) 79 g.cs := by
            have := Blk.new (w4.alloc (.cells F.cs 79)) 79 g.cs
            rw [World.size_alloc] at this
            exact this
          refine (same_any ⟨some ⟨w4.heap.size, 0, none⟩, 1, 1, [F]⟩ ⟨some ⟨w4.heap.size + 1, 0, none⟩, 1, 1, [g]⟩ _ (one_row s1 ⟨HFk4.out.ks.mono hBs, HFk4.out.ag⟩) (one_row s2 ⟨Hgo4.out.ks.mono hBs, Hgo4.out.ag⟩) (by simp) (by simp)).mono ?_
          rintro e w5 ⟨rfl, hb5⟩
          have Hs : Hid (sameF [F] [g] = true) := by show _ = _; unfold sameF; simp [cons, Hcon.out]
          rw [Hs.out]
          clear f5 f10 f5' f10' r5 r10 s1 s2
          go_wp2
          go_roundg (n - (k + 1))
          case rel => exact ⟨k + 1, rfl, by omega, by go_num, by rw [HZ.out], (((hBa.trans hb3).trans hb4).trans hBs).trans hb5⟩
          case measure => rw [Hgk.out]; omega
    · obtain rfl : k = n := by omega
      have c5 := b5.bel hB
      have hBW := HBw.out.trans hB
      cases met with
      | true =>
        have hz : z = 1 := by
          obtain ⟨g, hg, _⟩ := HFo.out.there rfl
          have h1 := (List.getElem?_eq_some_iff.1 hg).1
          have h2 : l.length = k := hlen.out
          rw [← Hz.out, if_pos ⟨rfl, by omega⟩]
        subst hz
        go_wp2_with fail
        refine (awake19_any _).mono ?_; rintro e w3 ⟨rfl, hb3⟩
        go_wp2
        go_ret
        exact ⟨rfl, hBW.trans hb3⟩
      | false =>
        have hz : z = 0 := by rw [← Hz.out, if_neg (by simp)]
        subst hz
        have hF0 := HFo.out.not rfl
        subst hF0
        have r5 := c5.fag
        have x0 := c5.cell 0
        have HE : Hid (∀ w, (binOp .eql 35 (.agg Ag.zero.cs) (.agg Ag.zero.cs)).run Try.prog w = .ok (.bool true) w) := fun w => by rw [eqv_ag]; simp
        simp only [fct_get0, Fct.zero, Row.nil, Row.v] at x0
        go_wp2_with (first
          | ((with_reducible show wpList _ _ _ (⟨some 82, _, _, _, _, _⟩ :: _) _ _); refine wpList_load_rowG (by first | rfl | go_simp) rowAg (.tmp 81) (by rfl) g5 1 (by rfl) Ag.zero.cs rfl r5 ?_)
          | ((with_reducible show wpList _ _ _ (⟨some 84, _, _, _, _, _⟩ :: _) _ _); refine wpList_cmp_row (by first | rfl | go_simp) .eql 35 35 (.tmp 82) (.tmp 83) (by rfl) (by rfl) (by rfl) guard_ag (HE.out _) ?_))
        refine (awake19_any _).mono ?_; rintro e w3 ⟨rfl, hb3⟩
        go_wp2
        go_ret
        exact ⟨rfl, hBW.trans hb3⟩

end Go.Proofs.Ytbociponcacmpaa
