/- Walk of the document's Same. -/
import Derived.Test.YtnekknemjhlgdaaFactE
namespace Go.Proofs.Ytnekknemjhlgdaa
open Go.RowKit
set_option linter.unusedVariables false
attribute [local go_sem] fct_get0

/-- Do two rows say the same? -/
def sameF (a b : List Fct) : Bool := decide (cons a = cons b)
theorem cons_len (l : List Fct) : (cons l).length = l.length := by unfold cons; rw [List.length_map]
theorem cons_get {l : List Fct} {k : Nat} {f : Fct} (h : l[k]? = some f) : (cons l)[k]? = some f.con := by unfold cons; rw [List.getElem?_map, h]; rfl
theorem same_not {a b : List Fct} {k : Nat} {f g : Fct} (hf : a[k]? = some f) (hg : b[k]? = some g) (h : f.con ≠ g.con) : sameF a b = false := by
  unfold sameF
  rw [decide_eq_false_iff_not]
  intro e
  have h1 := cons_get hf
  rw [e, cons_get hg] at h1
  injection h1 with h1
  exact h h1.symm
theorem cons_snoc {l : List Fct} {k : Nat} {f : Fct} (h : l[k]? = some f) : cons (l.take (k + 1)) = cons (l.take k) ++ [f.con] := by
  rw [List.take_add_one, h]
  simp [cons]
theorem con_ne_ag {f g : Fct} (h : ¬ f.ag = g.ag) : f.con ≠ g.con := fun e => h (congrArg Prod.snd e)
theorem con_ne_less {f g : Fct} (h : lessK f.ks.l g.ks.l = true) : f.con ≠ g.con := fun e => by
  have e1 : f.ks.l = g.ks.l := congrArg Prod.fst e
  rw [e1] at h
  unfold lessK at h
  rw [cmpK_self] at h
  cases h
theorem con_eq {f g : Fct} (h : f.ag = g.ag) (h1 : lessK f.ks.l g.ks.l = false) (h2 : lessK g.ks.l f.ks.l = false) : f.con = g.con := by
  have := cmpK_range f.ks.l g.ks.l
  have hs := cmpK_swap f.ks.l g.ks.l
  unfold lessK at h1 h2
  simp at h1 h2
  have h0 : cmpK f.ks.l g.ks.l = 0 := by omega
  unfold Fct.con
  rw [cmpK_eq h0, h]

theorem less_val {f g : Fct} {w : World} {r : Bool} (h : lessK f.ks.l g.ks.l = r) (hf : f.ok w) (hg : g.ok w) :
    Calls Try.prog 106 #[.agg f.cs, .agg g.cs] w fun e w' => e = .returned (.bool r) ∧ Bel w w' := by
  have := less_any f g w hf hg
  rw [h] at this
  exact this
theorem Fct.ok.over {f : Fct} {w : World} (h : f.ok w) (u : Over w) : f.ok u.wd := ⟨h.ks.mono u.bel, h.ag⟩

set_option maxRecDepth 100000 in
set_option maxHeartbeats 4000000 in
theorem same_any (x y : Row Fct) (w : World) (hx : x.ok w) (hy : y.ok w) (hn : x.n ≤ 1000000) (hn2 : y.n ≤ 1000000) :
    Calls Try.prog 44 #[x.v, y.v] w fun e w' => e = .returned (.bool (sameF x.l y.l)) ∧ Bel w w' := by
  have hlx : Hid (x.l.length = x.n) := hx.len
  have hly : Hid (y.l.length = y.n) := hy.len
  have Hx := Lib.hid hx
  have Hy := Lib.hid hy
  clear hx hy
  obtain ⟨xA, n, xc, xl⟩ := x
  obtain ⟨yA, m, yc, yl⟩ := y
  simp only [Row.v] at *
  by_cases hnm : n = m
  · subst hnm
    go_enter Try.func44, Try.ntmps44
    go_wp2
    go_loopg [13] n (fun g i wr => ∃ k : Nat, g = n - k ∧ k ≤ n ∧ i = .int .i64 k ∧ Bel w wr ∧ Hid (cons (xl.take k) = cons (yl.take k)))
    case atStart => exact ⟨0, rfl, by omega, rfl, Bel.refl _, by show _ = _; simp⟩
    case round =>
      obtain ⟨k, hgk, hk, rfl, hB, hF⟩ := hrel
      have Hgk := Lib.hid hgk
      clear hgk
      by_cases hlt : k < n
      · obtain ⟨b, o, f, rfl, hb, hf, hfo, _, hrf, hra⟩ := (Hx.out.mono hB).fct hlt
        obtain ⟨d, p, g, rfl, hd, hg, hgo, _, hrg, hrh⟩ := (Hy.out.mono hB).fct hlt
        have Hfo := Lib.hid hfo
        have Hgo := Lib.hid hgo
        have Hf := Lib.hid hf
        have Hg := Lib.hid hg
        clear hf hg hfo hgo
        by_cases hag : f.ag = g.ag
        · have HN : Hid (∀ w, (binOp .neq 114 (.agg f.ag.cs) (.agg g.ag.cs)).run Try.prog w = .ok (.bool false) w) := fun w => by rw [neqv_ag]; simp [hag]
          have Hag := Lib.hid hag
          clear hag
          cases hL : lessK f.ks.l g.ks.l with
          | true =>
            have HR : Hid (sameF xl yl = false) := same_not Hf.out Hg.out (con_ne_less hL)
            have HL := Lib.hid hL
            clear hL hF
            go_wp2_with fail
            refine wp_region_over (by kernel_rfl) (by kernel_rfl) ?_
            repeat (first
              | ((with_reducible show wpQuiet _ _ _ _ (⟨some 20, _, _, _, _, _⟩ :: _) _); refine wpQuiet_load_row rfl rowAg (.tmp 19) rfl b (o + k * 11 + 1) rfl f.ag.cs rfl hb hra ?_; simp only [Act.put, List.setIfInBounds_toArray, List.set_cons_zero, List.set_cons_succ])
              | ((with_reducible show wpQuiet _ _ _ _ (⟨some 25, _, _, _, _, _⟩ :: _) _); refine wpQuiet_load_row rfl rowAg (.tmp 24) rfl d (p + k * 11 + 1) rfl g.ag.cs rfl hd hrh ?_; simp only [Act.put, List.setIfInBounds_toArray, List.set_cons_zero, List.set_cons_succ])
              | ((with_reducible show wpQuiet _ _ _ _ (⟨some 26, _, _, _, _, _⟩ :: _) _); refine wpQuiet_cmp_row rfl .neq 114 114 (.tmp 20) (.tmp 25) rfl rfl rfl guard_ag HN.out ?_; simp only [Act.put, List.setIfInBounds_toArray, List.set_cons_zero, List.set_cons_succ])
              | ((with_reducible show wpQuiet _ _ _ _ (⟨some 31, _, _, _, _, _⟩ :: _) _); refine wpQuiet_load_row rfl rowFct (.tmp 30) rfl b (o + k * 11) rfl f.cs rfl hb hrf ?_; simp only [Act.put, List.setIfInBounds_toArray, List.set_cons_zero, List.set_cons_succ])
              | ((with_reducible show wpQuiet _ _ _ _ (⟨some 35, _, _, _, _, _⟩ :: _) _); refine wpQuiet_load_row rfl rowFct (.tmp 34) rfl d (p + k * 11) rfl g.cs rfl hd hrg ?_; simp only [Act.put, List.setIfInBounds_toArray, List.set_cons_zero, List.set_cons_succ])
              | ((with_reducible show wpQuiet _ _ _ _ (⟨some 42, _, _, _, _, _⟩ :: _) _); refine wpQuiet_load_row rfl rowFct (.tmp 41) rfl d (p + k * 11) rfl g.cs rfl hd hrg ?_; simp only [Act.put, List.setIfInBounds_toArray, List.set_cons_zero, List.set_cons_succ])
              | ((with_reducible show wpQuiet _ _ _ _ (⟨some 46, _, _, _, _, _⟩ :: _) _); refine wpQuiet_load_row rfl rowFct (.tmp 45) rfl b (o + k * 11) rfl f.cs rfl hb hrf ?_; simp only [Act.put, List.setIfInBounds_toArray, List.set_cons_zero, List.set_cons_succ])
              | go_big_quiet_step (((go_at_call 106; exact calls_over (less_val HL.out (Hfo.out.over _) (Hgo.out.over _))))))
            refine wpQuiet_nil ?_
            rintro _ ⟨u, rfl⟩
            go_wp2
            go_ret
            rw [HR.out]
            exact ⟨rfl, hB.trans u.bel⟩
          | false =>
            have HL := Lib.hid hL
            clear hL
            cases hM : lessK g.ks.l f.ks.l with
            | true =>
              have HR : Hid (sameF xl yl = false) := same_not Hf.out Hg.out (con_ne_less hM).symm
              have HM := Lib.hid hM
              clear hM hF
              go_wp2_with fail
              refine wp_region_over (by kernel_rfl) (by kernel_rfl) ?_
              repeat (first
                | ((with_reducible show wpQuiet _ _ _ _ (⟨some 20, _, _, _, _, _⟩ :: _) _); refine wpQuiet_load_row rfl rowAg (.tmp 19) rfl b (o + k * 11 + 1) rfl f.ag.cs rfl hb hra ?_; simp only [Act.put, List.setIfInBounds_toArray, List.set_cons_zero, List.set_cons_succ])
                | ((with_reducible show wpQuiet _ _ _ _ (⟨some 25, _, _, _, _, _⟩ :: _) _); refine wpQuiet_load_row rfl rowAg (.tmp 24) rfl d (p + k * 11 + 1) rfl g.ag.cs rfl hd hrh ?_; simp only [Act.put, List.setIfInBounds_toArray, List.set_cons_zero, List.set_cons_succ])
                | ((with_reducible show wpQuiet _ _ _ _ (⟨some 26, _, _, _, _, _⟩ :: _) _); refine wpQuiet_cmp_row rfl .neq 114 114 (.tmp 20) (.tmp 25) rfl rfl rfl guard_ag HN.out ?_; simp only [Act.put, List.setIfInBounds_toArray, List.set_cons_zero, List.set_cons_succ])
                | ((with_reducible show wpQuiet _ _ _ _ (⟨some 31, _, _, _, _, _⟩ :: _) _); refine wpQuiet_load_row rfl rowFct (.tmp 30) rfl b (o + k * 11) rfl f.cs rfl hb hrf ?_; simp only [Act.put, List.setIfInBounds_toArray, List.set_cons_zero, List.set_cons_succ])
                | ((with_reducible show wpQuiet _ _ _ _ (⟨some 35, _, _, _, _, _⟩ :: _) _); refine wpQuiet_load_row rfl rowFct (.tmp 34) rfl d (p + k * 11) rfl g.cs rfl hd hrg ?_; simp only [Act.put, List.setIfInBounds_toArray, List.set_cons_zero, List.set_cons_succ])
                | ((with_reducible show wpQuiet _ _ _ _ (⟨some 42, _, _, _, _, _⟩ :: _) _); refine wpQuiet_load_row rfl rowFct (.tmp 41) rfl d (p + k * 11) rfl g.cs rfl hd hrg ?_; simp only [Act.put, List.setIfInBounds_toArray, List.set_cons_zero, List.set_cons_succ])
                | ((with_reducible show wpQuiet _ _ _ _ (⟨some 46, _, _, _, _, _⟩ :: _) _); refine wpQuiet_load_row rfl rowFct (.tmp 45) rfl b (o + k * 11) rfl f.cs rfl hb hrf ?_; simp only [Act.put, List.setIfInBounds_toArray, List.set_cons_zero, List.set_cons_succ])
                | go_big_quiet_step ((first | (go_at_call 106; exact calls_over (less_val HL.out (Hfo.out.over _) (Hgo.out.over _))) | (go_at_call 106; exact calls_over (less_val HM.out (Hgo.out.over _) (Hfo.out.over _))))))
              refine wpQuiet_nil ?_
              rintro _ ⟨u, rfl⟩
              go_wp2
              go_ret
              rw [HR.out]
              exact ⟨rfl, hB.trans u.bel⟩
            | false =>
              have HR : Hid (cons (xl.take (k + 1)) = cons (yl.take (k + 1))) := by show _ = _; rw [cons_snoc Hf.out, cons_snoc Hg.out, hF.out, con_eq Hag.out HL.out hM]
              have HM := Lib.hid hM
              clear hM hF
              go_wp2_with fail
              refine wp_region_over (by kernel_rfl) (by kernel_rfl) ?_
              repeat (first
                | ((with_reducible show wpQuiet _ _ _ _ (⟨some 20, _, _, _, _, _⟩ :: _) _); refine wpQuiet_load_row rfl rowAg (.tmp 19) rfl b (o + k * 11 + 1) rfl f.ag.cs rfl hb hra ?_; simp only [Act.put, List.setIfInBounds_toArray, List.set_cons_zero, List.set_cons_succ])
                | ((with_reducible show wpQuiet _ _ _ _ (⟨some 25, _, _, _, _, _⟩ :: _) _); refine wpQuiet_load_row rfl rowAg (.tmp 24) rfl d (p + k * 11 + 1) rfl g.ag.cs rfl hd hrh ?_; simp only [Act.put, List.setIfInBounds_toArray, List.set_cons_zero, List.set_cons_succ])
                | ((with_reducible show wpQuiet _ _ _ _ (⟨some 26, _, _, _, _, _⟩ :: _) _); refine wpQuiet_cmp_row rfl .neq 114 114 (.tmp 20) (.tmp 25) rfl rfl rfl guard_ag HN.out ?_; simp only [Act.put, List.setIfInBounds_toArray, List.set_cons_zero, List.set_cons_succ])
                | ((with_reducible show wpQuiet _ _ _ _ (⟨some 31, _, _, _, _, _⟩ :: _) _); refine wpQuiet_load_row rfl rowFct (.tmp 30) rfl b (o + k * 11) rfl f.cs rfl hb hrf ?_; simp only [Act.put, List.setIfInBounds_toArray, List.set_cons_zero, List.set_cons_succ])
                | ((with_reducible show wpQuiet _ _ _ _ (⟨some 35, _, _, _, _, _⟩ :: _) _); refine wpQuiet_load_row rfl rowFct (.tmp 34) rfl d (p + k * 11) rfl g.cs rfl hd hrg ?_; simp only [Act.put, List.setIfInBounds_toArray, List.set_cons_zero, List.set_cons_succ])
                | ((with_reducible show wpQuiet _ _ _ _ (⟨some 42, _, _, _, _, _⟩ :: _) _); refine wpQuiet_load_row rfl rowFct (.tmp 41) rfl d (p + k * 11) rfl g.cs rfl hd hrg ?_; simp only [Act.put, List.setIfInBounds_toArray, List.set_cons_zero, List.set_cons_succ])
                | ((with_reducible show wpQuiet _ _ _ _ (⟨some 46, _, _, _, _, _⟩ :: _) _); refine wpQuiet_load_row rfl rowFct (.tmp 45) rfl b (o + k * 11) rfl f.cs rfl hb hrf ?_; simp only [Act.put, List.setIfInBounds_toArray, List.set_cons_zero, List.set_cons_succ])
                | go_big_quiet_step ((first | (go_at_call 106; exact calls_over (less_val HL.out (Hfo.out.over _) (Hgo.out.over _))) | (go_at_call 106; exact calls_over (less_val HM.out (Hgo.out.over _) (Hfo.out.over _))))))
              refine wpQuiet_nil ?_
              rintro _ ⟨u, rfl⟩
              go_wp2
              go_roundg (n - (k + 1))
              case rel => exact ⟨k + 1, rfl, by omega, by go_num, hB.trans u.bel, HR⟩
              case measure => rw [Hgk.out]; omega
        · have HN : Hid (∀ w, (binOp .neq 114 (.agg f.ag.cs) (.agg g.ag.cs)).run Try.prog w = .ok (.bool true) w) := fun w => by rw [neqv_ag]; simp [hag]
          have HR : Hid (sameF xl yl = false) := same_not Hf.out Hg.out (con_ne_ag hag)
          clear hag hF
          go_wp2_with fail
          refine wp_region_over (by kernel_rfl) (by kernel_rfl) ?_
          repeat (first
            | ((with_reducible show wpQuiet _ _ _ _ (⟨some 20, _, _, _, _, _⟩ :: _) _); refine wpQuiet_load_row rfl rowAg (.tmp 19) rfl b (o + k * 11 + 1) rfl f.ag.cs rfl hb hra ?_; simp only [Act.put, List.setIfInBounds_toArray, List.set_cons_zero, List.set_cons_succ])
            | ((with_reducible show wpQuiet _ _ _ _ (⟨some 25, _, _, _, _, _⟩ :: _) _); refine wpQuiet_load_row rfl rowAg (.tmp 24) rfl d (p + k * 11 + 1) rfl g.ag.cs rfl hd hrh ?_; simp only [Act.put, List.setIfInBounds_toArray, List.set_cons_zero, List.set_cons_succ])
            | ((with_reducible show wpQuiet _ _ _ _ (⟨some 26, _, _, _, _, _⟩ :: _) _); refine wpQuiet_cmp_row rfl .neq 114 114 (.tmp 20) (.tmp 25) rfl rfl rfl guard_ag HN.out ?_; simp only [Act.put, List.setIfInBounds_toArray, List.set_cons_zero, List.set_cons_succ])
            | go_big_quiet_step (fail))
          refine wpQuiet_nil ?_
          rintro _ ⟨u, rfl⟩
          go_wp2
          go_ret
          rw [HR.out]
          exact ⟨rfl, hB.trans u.bel⟩
      · have HR : Hid (sameF xl yl = true) := by
          show _ = _
          have h1 : xl.length = n := hlx.out
          have h2 : yl.length = n := hly.out
          have h3 := hF.out
          rw [List.take_of_length_le (by omega), List.take_of_length_le (by omega)] at h3
          unfold sameF
          simp [h3]
        clear hF
        go_wp2
        go_ret
        rw [HR.out]
        exact ⟨rfl, hB⟩
  · have HR : Hid (sameF xl yl = false) := by
      show _ = _
      unfold sameF
      rw [decide_eq_false_iff_not]
      intro e
      have h1 : xl.length = n := hlx.out
      have h2 : yl.length = m := hly.out
      have h3 := congrArg List.length e
      rw [cons_len, cons_len] at h3
      omega
    have q : ((n : Int) != (m : Int)) = true := by rw [bne_iff_ne]; omega
    have q2 : (n != m) = true := by rw [bne_iff_ne]; exact hnm
    clear hnm
    go_enter Try.func44, Try.ntmps44
    go_wp2
    go_ret
    rw [HR.out]
    exact ⟨rfl, Bel.refl _⟩

end Go.Proofs.Ytnekknemjhlgdaa
