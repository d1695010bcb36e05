/- The walk of the law KmergeSorts. -/
import Derived.Test.YtnekknemjhlgdaaKmT
import Derived.Test.YtnekknemjhlgdaaRunC
import Derived.Test.YtnekknemjhlgdaaFactE
namespace Go.Proofs.Ytnekknemjhlgdaa
open Go.RowKit
set_option linter.unusedVariables false
set_option linter.unusedSimpArgs false


set_option maxRecDepth 100000 in
set_option maxHeartbeats 2000000 in
theorem walk_kmergeSorts (w : World) (m : Int) (wm : (Lit.int .i64 m).wf = true) (fan : Int) (wf : (Lit.int .i64 fan).wf = true) (x : Row Fct) (hx : x.ok w) :
    Calls Try.prog 10 #[.int .i64 m, .int .i64 fan, x.v] w fun e w' => e = .returned (.bool true) ∧ Bel w w' := by
  have hm2 : m ≤ 9223372036854775807 := (i64_of wm).2
  have hf2 : fan ≤ 9223372036854775807 := (i64_of wf).2
  have HX := Lib.hid hx
  have hxl : Hid (x.l.length = x.n) := hx.len
  obtain ⟨A, n, c, l⟩ := x
  simp only [Row.v] at *
  clear hx
  go_enter Try.func10, Try.ntmps10
  go_wp2_with fail
  refine (few19_any ⟨A, n, c, l⟩ 120 w HX.out (by omega) (by omega)).mono ?_; rintro e w2 ⟨rfl, rfl⟩
  rw [show Int.toNat 120 = 120 from rfl]
  cases hfe : fewF 120 l with
  | false =>
    have HB : Hid (Bel w w) := Bel.refl w
    clear hfe
    go_wp2_with fail
    refine (awake22_any _).mono ?_; rintro e w8 ⟨rfl, hb8⟩
    go_wp2
    go_ret
    exact ⟨rfl, HB.out.trans hb8⟩
  | true =>
    have hn : n ≤ 120 := by have h := fewF_len hfe; have := hxl.out; omega
    clear hfe
    by_cases hbad : m < 1 ∨ fan < 2
    · have HK := Lib.hid (ksort_not m fan hbad hm2 ⟨A, n, c, l⟩ w HX.out (by show n ≤ 1000; omega))
      by_cases hm1 : m < 1
      · have d1 : decide (m < 1) = true := by simpa using hm1
        clear hbad
        go_wp2_with fail
        refine HK.out.mono ?_; rintro e w3 ⟨rfl, hb3⟩
        have HB := Lib.hid hb3
        clear HK hb3
        go_wp2_with fail
        refine (awake22_any _).mono ?_; rintro e w8 ⟨rfl, hb8⟩
        go_wp2
        go_ret
        exact ⟨rfl, HB.out.trans hb8⟩
      · have d1 : decide (m < 1) = false := by simpa using hm1
        have d2 : decide (fan < 2) = true := by simp; omega
        clear hbad
        go_wp2_with fail
        refine HK.out.mono ?_; rintro e w3 ⟨rfl, hb3⟩
        have HB := Lib.hid hb3
        clear HK hb3
        go_wp2_with fail
        refine (awake22_any _).mono ?_; rintro e w8 ⟨rfl, hb8⟩
        go_wp2
        go_ret
        exact ⟨rfl, HB.out.trans hb8⟩
    · have d1 : decide (m < 1) = false := by simp; omega
      have d2 : decide (fan < 2) = false := by simp; omega
      obtain ⟨m, rfl⟩ : ∃ k : Nat, m = k := ⟨m.toNat, by omega⟩
      obtain ⟨fan, rfl⟩ : ∃ k : Nat, fan = k := ⟨fan.toNat, by omega⟩
      have HK := Lib.hid (ksort_any m fan (by omega) (by omega) (by omega) (by omega) ⟨A, n, c, l⟩ w HX.out (by show n ≤ 1000; omega))
      clear hbad
      go_wp2_with fail
      refine HK.out.mono ?_; rintro e w3 ⟨v, fs, rfl, hG, hc⟩
      have hfl : fs.length = n := by have h := congrArg List.length hc; rw [cons_len, sortC_len, cons_len] at h; rw [h]; exact hxl.out
      have HB := Lib.hid hG.bel
      obtain ⟨Y, rfl, hYl, hYn, hYok, _⟩ := hG.run (by omega)
      have HY := Lib.hid (fun w' (hb : Bel w3 w') => hYok.mono hb)
      have HYl : Hid (cons Y.l = sortC (cons l)) := by show _ = _; rw [hYl]; exact hc
      have hYn2 : Y.n ≤ 120 := by omega
      clear hG hc hfl hYl hYn hYok HK
      obtain ⟨YA, yn, yc, yl⟩ := Y
      simp only [Row.v] at *
      go_wp2_with fail
      refine (rsort_any ⟨A, n, c, l⟩ _ (HX.out.mono HB.out) (by simp only; omega)).mono ?_; rintro e w4 ⟨v, gs, rfl, hK, hgs⟩
      have hgl : gs.length = n := by have h := congrArg List.length hgs; rw [cons_len, sortC_len, cons_len] at h; rw [h]; exact hxl.out
      obtain ⟨⟨zA, zn, zc, zl⟩, rfl, hzo, hzl, hzn⟩ := hK.row (by omega)
      have HS := Lib.hid (same_any ⟨YA, yn, yc, yl⟩ ⟨zA, zn, zc, zl⟩ _ (HY.out _ hK.bel) hzo (by simp only; omega) (by simp only at hzn ⊢; omega))
      have hsm : sameF yl zl = true := sameF_consK (by have h : zl = gs := hzl; rw [HYl.out, h, hgs])
      rw [hsm] at HS
      replace HB := Lib.hid (HB.out.trans hK.bel)
      clear hK hgs hgl hzo hzl hzn hsm
      simp only [Row.v]
      go_wp2_with fail
      refine HS.out.mono ?_; rintro e w5 ⟨rfl, hb5⟩
      replace HB := Lib.hid (HB.out.trans hb5)
      clear hb5 HS
      go_wp2_with fail
      refine (awake22_any _).mono ?_; rintro e w8 ⟨rfl, hb8⟩
      go_wp2
      go_ret
      exact ⟨rfl, HB.out.trans hb8⟩

end Go.Proofs.Ytnekknemjhlgdaa
