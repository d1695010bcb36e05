/- The law's few runs. -/
import Derived.Test.YtnekknemjhlgdaaKmT
import Derived.Test.YtnekknemjhlgdaaFactE
namespace Go.Proofs.Ytnekknemjhlgdaa
open Go.RowKit
set_option linter.unusedVariables false
set_option linter.unusedSimpArgs false


/-- Runs that are gone through. -/
def FewK (x : Row (Row Fct)) : Prop := x.n ≤ 30 ∧ (∀ r ∈ x.l, r.n ≤ 60) ∧ (x.l.map (·.n)).sum ≤ 200
theorem sum_snoc {X : List (Row Fct)} {k : Nat} {y : Row Fct} (h : X[k]? = some y) : ((X.take (k + 1)).map (·.n)).sum = ((X.take k).map (·.n)).sum + y.n := by
  rw [List.take_add_one, h]
  simp
set_option maxRecDepth 100000 in
set_option maxHeartbeats 2000000 in
theorem few22_any (x : Row (Row Fct)) (w : World) (hx : x.ok w) :
    Calls Try.prog 49 #[.slice x.A x.n x.c] w (FewPost (FewK x) w) := by
  have HX := Lib.hid hx
  have n63 := hx.size
  have hl1 : Hid (x.l.length = x.n) := hx.len
  have H := Lib.hid (SL.start No w)
  obtain ⟨A, n, c, X⟩ := x
  simp only at *
  clear hx
  go_enter Try.func49, Try.ntmps49
  go_wp2_with fail
  have HA : Hid (((0 : Nat) : Int) = 0 ∧ ((X.take 0).map (·.n)).sum = 0 ∧ ∀ r ∈ X.take 0, r.n ≤ 60) := ⟨rfl, by simp, fun r hr => by simp at hr⟩
  go_loopg [3, 4] 32 (fun gg s3 s4 wr => ∃ (k S : Nat), gg = 32 - k ∧ k ≤ 31 ∧ k ≤ n ∧ S ≤ 60 * k ∧ s3 = .int .i64 S ∧ s4 = .int .i64 k ∧ Hid (((X.take k).map (·.n)).sum = S ∧ ∀ r ∈ X.take k, r.n ≤ 60) ∧ Hid (SL No w wr []))
  case atStart => exact ⟨0, 0, rfl, by omega, by omega, by omega, rfl, rfl, HA.out.2, H⟩
  case round =>
    clear H HA
    obtain ⟨k, S, hgk, hk31, hkn, hS, rfl, rfl, HA, H⟩ := hrel
    have Hgk := Lib.hid hgk
    clear hgk
    by_cases hlt : k < n ∧ k ≤ 30
    · obtain ⟨h1, h2⟩ := hlt
      have e1 : decide ((k : Int) ≤ 30) = true := by simp <;> omega
      obtain ⟨bb, oo, y, hA, hyk, q1⟩ := rd_cell rfl (HX.out.mono H.out.to).rd (k := k) h1
      simp only at hA
      subst hA
      have q1 := q1 _ rfl
      have hyok : y.ok w := HX.out.all y (List.mem_of_getElem? hyk)
      have HYK := Lib.hid hyk
      have HF := Lib.hid (fun w' (hb : Bel w w') => few19_any y 60 w' (hyok.mono hb) (by omega) (by omega))
      have hyl : Hid (y.l.length = y.n) := hyok.len
      have y63 := hyok.size
      have i0 : (0 : Int) ≤ k := by omega
      have i1 : (k : Int) < n := by omega
      clear hyk hyok
      obtain ⟨YA, yn, yc, yl⟩ := y
      simp only [Row.v] at *
      go_wp2_with fail
      refine (HF.out _ H.out.to).mono ?_; rintro e w2 ⟨rfl, rfl⟩
      rw [show Int.toNat 60 = 60 from rfl]
      cases hfe : fewF 60 yl with
      | false =>
        clear hfe
        go_wp2
        go_ret
        exact ⟨false, rfl, (fun h => by cases h), H.out.to⟩
      | true =>
        have hy60 : yn ≤ 60 := by have h := fewF_len hfe; have := hyl.out; omega
        have HN : Hid (((X.take (k + 1)).map (·.n)).sum = S + yn ∧ ∀ r ∈ X.take (k + 1), r.n ≤ 60) := by
          refine ⟨by rw [sum_snoc HYK.out, HA.out.1], fun r hr => ?_⟩
          rw [List.take_add_one, HYK.out] at hr
          rcases List.mem_append.1 hr with h | h
          · exact HA.out.2 r h
          · rw [Option.toList_some, List.mem_singleton] at h
            rw [h]
            exact hy60
        clear HA hfe
        go_wp2_with fail
        clear q1
        go_roundg (32 - (k + 1))
        case rel => exact ⟨k + 1, S + yn, rfl, by omega, by omega, by omega, by go_num, by go_num, HN, H⟩
        case measure => rw [Hgk.out]; omega
    · have e0 : (decide ((k : Int) < n) = false ∧ decide (k < n) = false ∧ ¬ k < n) ∨ (decide ((k : Int) < n) = true ∧ decide (k < n) = true ∧ k < n ∧ decide ((k : Int) ≤ 30) = false) := by
        by_cases h : k < n
        · right
          refine ⟨by simp <;> omega, by simp <;> omega, h, by simp <;> omega⟩
        · left
          refine ⟨by simp <;> omega, by simp <;> omega, h⟩
      clear hlt
      by_cases h20 : n ≤ 30
      · have d1 : decide ((n : Int) ≤ 30) = true := by simp <;> omega
        obtain rfl : k = n := by
          rcases e0 with ⟨_, _, h⟩ | ⟨_, _, h, h'⟩
          · omega
          · simp at h'; omega
        by_cases h200 : S ≤ 200
        · have d2 : decide ((S : Int) ≤ 200) = true := by simp <;> omega
          have hFew : Hid (FewK ⟨A, k, c, X⟩) := by
            have ht : X.take k = X := List.take_of_length_le (by have := hl1.out; omega)
            have h := HA.out
            rw [ht] at h
            exact ⟨h20, h.2, by rw [h.1]; exact h200⟩
          rcases e0 with ⟨e1, e2, e3⟩ | ⟨e1, e2, e3, e4⟩
          all_goals
            go_wp2
            go_ret
            exact ⟨_, rfl, fun _ => hFew.out, H.out.to⟩
        · have d2 : decide ((S : Int) ≤ 200) = false := by simp <;> omega
          rcases e0 with ⟨e1, e2, e3⟩ | ⟨e1, e2, e3, e4⟩
          all_goals
            go_wp2
            go_ret
            exact ⟨false, rfl, (fun h => by cases h), H.out.to⟩
      · have d1 : decide ((n : Int) ≤ 30) = false := by simp <;> omega
        rcases e0 with ⟨e1, e2, e3⟩ | ⟨e1, e2, e3, e4⟩
        all_goals
          go_wp2
          go_ret
          exact ⟨false, rfl, (fun h => by cases h), H.out.to⟩

end Go.Proofs.Ytnekknemjhlgdaa
