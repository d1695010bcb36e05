/- The walk of the law RunSorts. -/
import Derived.Test.YtbociponcacmpaaRunD
namespace Go.Proofs.Ytbociponcacmpaa
open Go.RowKit
set_option linter.unusedVariables false
attribute [local go_sem] fct_get0

theorem sameF_cons {l q : List Fct} (h : cons l = cons q) : sameF l q = true := by
  unfold sameF
  rw [h]
  exact decide_eq_true rfl

set_option maxRecDepth 100000 in
set_option maxHeartbeats 1000000 in
theorem runSorts_main (x : Row Fct) (w : World) (hx : x.ok w) (hF : fewF 80 x.l = true) :
    Calls Try.prog 13 #[x.v] w fun e w' => e = .returned (.bool true) ∧ Bel w w' := by
  have hn : x.n ≤ 80 := by have := fewF_len hF; rw [hx.len] at this; exact this
  have hlen : Hid (x.l.length = x.n) := hx.len
  have Hx := Lib.hid hx
  have HF := Lib.hid hF
  clear hx hF
  obtain ⟨A, n, c, l⟩ := x
  simp only [Row.v] at *
  go_enter Try.func13, Try.ntmps13
  go_wp2_with fail
  refine (few19_any ⟨A, n, c, l⟩ _ _ Hx.out (by omega) (by omega)).mono ?_; rintro e w1 ⟨rfl, rfl⟩
  rw [show Int.toNat 80 = 80 from rfl, HF.out]
  go_wp2_with fail
  refine (sort_any ⟨A, n, c, l⟩ _ Hx.out (by simp only; omega)).mono ?_; rintro e w1 ⟨v, fs, rfl, hG, hfs⟩
  have Hfs := Lib.hid hfs
  clear hfs
  have hfl : fs.length = n := by have := congrArg List.length Hfs.out; rw [cons_len, sortC_len, cons_len] at this; rw [this]; exact hlen.out
  obtain ⟨⟨yA, yn, yc, yl⟩, rfl, hyo, hyl, hyn⟩ := gath_row hG (by omega)
  have Hyl : Hid (yl = fs) := hyl
  have hyn' : yn ≤ 80 := by simp only at hyn; omega
  have Hy := Lib.hid hyo
  have Hb1 := Lib.hid hG.bel
  clear hG hyo hyl hyn hfl
  simp only [Row.v]
  go_wp2_with fail
  refine (rsort_any ⟨A, n, c, l⟩ _ (Hx.out.mono Hb1.out) (by simp only; omega)).mono ?_; rintro e w2 ⟨v, gs, rfl, hK, hgs⟩
  have Hgs := Lib.hid hgs
  clear hgs
  have hgl : gs.length = n := by have := congrArg List.length Hgs.out; rw [cons_len, sortC_len, cons_len] at this; rw [this]; exact hlen.out
  obtain ⟨⟨zA, zn, zc, zl⟩, rfl, hzo, hzl, hzn⟩ := hK.row (by omega)
  have Hzl : Hid (zl = gs) := hzl
  have hzn' : zn ≤ 80 := by simp only at hzn; omega
  have Hz := Lib.hid hzo
  have Hb2 := Lib.hid hK.bel
  clear hK hzo hzl hzn hgl
  have HS : Hid (sameF yl zl = true) := sameF_cons (by rw [Hyl.out, Hzl.out, Hfs.out, Hgs.out])
  have HT : Hid (sortedF yl = true) := srt_chain (by rw [Hyl.out, Hfs.out]; exact srt_sort _)
  simp only [Row.v]
  go_wp2_with fail
  refine (same_any ⟨yA, yn, yc, yl⟩ ⟨zA, zn, zc, zl⟩ _ (Hy.out.mono Hb2.out) Hz.out (by simp only; omega) (by simp only; omega)).mono ?_; rintro e w3 ⟨rfl, hb3⟩
  have Hb3 : Hid (Bel w1 w3) := Hb2.out.trans hb3
  have Hw3 : Hid (Bel w w3) := Hb1.out.trans Hb3.out
  clear hb3
  simp only [HS.out]
  go_wp2_with fail
  refine (psorted_any ⟨A, n, c, l⟩ _ (Hx.out.mono Hw3.out) (by simp only; omega)).mono ?_; rintro e w4 ⟨rfl, hb4⟩
  have Hb4 := Lib.hid hb4
  clear hb4
  go_wp2_with fail
  refine (sorted_any ⟨A, n, c, l⟩ _ (Hx.out.mono (Hw3.out.trans Hb4.out)) (by simp only; omega)).mono ?_; rintro e w5 ⟨rfl, hb5⟩
  have Hb5 : Hid (Bel w3 w5) := Hb4.out.trans hb5
  clear hb5
  have qe : ∀ t : Bool, (t == t) = true := fun t => by cases t <;> rfl
  go_wp2_with fail
  refine (psorted_any ⟨yA, yn, yc, yl⟩ _ (Hy.out.mono (Hb3.out.trans Hb5.out)) (by simp only; omega)).mono ?_; rintro e w6 ⟨rfl, hb6⟩
  have Hb6 : Hid (Bel w w6) := (Hw3.out.trans Hb5.out).trans hb6
  clear hb6
  simp only [HT.out]
  go_wp2_with fail
  refine (awake21_any _).mono ?_; rintro e w7 ⟨rfl, hb7⟩
  go_wp2
  go_ret
  exact ⟨rfl, Hb6.out.trans hb7⟩

theorem runSorts_small (x : Row Fct) (w : World) (hx : x.ok w) (hF : fewF 80 x.l = false) :
    Calls Try.prog 13 #[x.v] w fun e w' => e = .returned (.bool true) ∧ Bel w w' := by
  have Hx := Lib.hid hx
  have HF := Lib.hid hF
  clear hx hF
  obtain ⟨A, n, c, l⟩ := x
  simp only [Row.v] at *
  go_enter Try.func13, Try.ntmps13
  go_wp2_with fail
  refine (few19_any ⟨A, n, c, l⟩ _ _ Hx.out (by omega) (by omega)).mono ?_; rintro e w1 ⟨rfl, rfl⟩
  rw [show Int.toNat 80 = 80 from rfl, HF.out]
  go_wp2_with fail
  refine (awake21_any _).mono ?_; rintro e w2 ⟨rfl, hb⟩
  go_wp2
  go_ret
  exact ⟨rfl, hb⟩

theorem walk_runSorts (w : World) (x : Row Fct) (hx : x.ok w) : Calls Try.prog 13 #[x.v] w fun e w' => e = .returned (.bool true) ∧ Bel w w' := by
  cases hF : fewF 80 x.l with
  | false => exact runSorts_small x w hx hF
  | true => exact runSorts_main x w hx hF

end Go.Proofs.Ytbociponcacmpaa
