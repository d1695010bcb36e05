/- The places of nodes (stream.Read). -/
import Derived.Test.YtlclllkjnhgbjaaStrP
import Derived.Test.YtlclllkjnhgbjaaBe
import Derived.Test.YtlclllkjnhgbjaaBr
import Derived.Test.YtlclllkjnhgbjaaBu
import Derived.Maps.OwnSet
import Derived.Maps.OwnOps
namespace Go.Proofs.Ytlclllkjnhgbjaa
open Go.RowKit
set_option linter.unusedVariables false
set_option linter.unusedSimpArgs false


/-- A map tells the places of numbers. -/
def PlD (D : DataW Unit) (st : List Int) : Prop := ∀ c : Int, Maps.has D (.int .i64 c) = (idxF c st 0).isSome ∧ ∀ i, idxF c st 0 = some i → D.atKey (.int .i64 c) (.lit (.int .i64 0)) = .lit (.int .i64 (i : Nat))
theorem PlD.nil : PlD (.map []) [] := fun c => ⟨rfl, fun i h => by cases h⟩
theorem idxF_snoc {c z : Int} : ∀ {l : List Int} {k : Nat}, idxF c (l ++ [z]) k = match idxF c l k with | some i => some i | none => if z = c then some (k + l.length) else none
  | [], k => by simp [idxF]
  | x :: l, k => by
    rw [List.cons_append, idxF, idxF]
    by_cases h : x = c
    · rw [if_pos h, if_pos h]
    · rw [if_neg h, if_neg h, idxF_snoc, List.length_cons, show k + 1 + l.length = k + (l.length + 1) by omega]
theorem PlD.put {D : DataW Unit} {st : List Int} (h : PlD D st) (hD : Maps.IsMap D) {z : Int} (hz : z ∉ st) : PlD (D.put (.int .i64 z) (.lit (.int .i64 (st.length : Nat)))) (st ++ [z]) := fun c => by
  rw [idxF_snoc]
  by_cases hc : c = z
  · subst hc
    rw [idxF_none.2 hz]
    refine ⟨?_, fun i hi => ?_⟩
    · rw [Maps.has_put_same hD (show WideAt.IsKeyLit (.int .i64 c) from trivial)]
      simp
    · rw [Maps.atKey_put_same hD (show WideAt.IsKeyLit (.int .i64 c) from trivial)]
      simp at hi
      rw [hi]
  · have hne : (Lit.int .i64 c) ≠ .int .i64 z := fun e => hc (by injection e)
    obtain ⟨h1, h2⟩ := h c
    rw [Maps.has_put_other hne, h1]
    cases hi : idxF c st 0 with
    | none => exact ⟨by simp [Ne.symm hc], fun i e => by simp [Ne.symm hc] at e⟩
    | some i => exact ⟨rfl, fun i' e => by rw [Maps.atKey_put_other hne]; exact h2 i' (by rw [hi]; exact e)⟩
theorem zero_intR (w : World) : (zeroValue 3).run Try.prog w = .ok (.int .i64 0) w := by kernel_rfl
set_option maxRecDepth 100000 in
set_option maxHeartbeats 1000000 in
theorem srto_any (g mb k : Nat) (D : DataW Unit) (st : List Int) (c : Int) (w : World) (hc : w.cell? ⟨g, 0, none⟩ = some (.map (some mb))) (hM : w.ownsMap Try.prog 3 (plainElem (H := Unit) Try.prog 3) mb k D) (hP : PlD D st) (h64 : I64 c) :
    Calls Try.prog 61 #[.int .i64 c, .pointer (some ⟨g, 0, none⟩)] w fun e w' => e = .returned (.int .i64 (idxS st c)) ∧ Bel w w' := by
  have HM := Lib.hid hM
  have HP := Lib.hid (hP c)
  have HW := Lib.hid (wf64 h64)
  clear hM hP h64
  go_enter Try.func61, Try.ntmps61
  go_wp2_with ((with_reducible show wpList _ _ _ (⟨some 9, _, _, _, _, _⟩ :: _) _ _); refine wpList_lookup_own_ok_int _ rfl (.tmp 7) (.tmp 8) 115 rfl 3 3 .i64 (Maps.int_keyed Try.underlying3) Try.underlying115 Try.underlying3 (zero_intR _) mb k D rfl HM.out (.int .i64 c) (.int .i64 c) rfl (Maps.keyOf_int_mk Try.underlying3 HW.out) ?_; intro c' hat hwc; have HAT := Lib.hid hat; clear hat hwc; rw [HP.out.1]; generalize hbb : (idxF c st 0).isSome = bb)
  all_goals first
    | (have hn : idxF c st 0 = none := by
        cases h : idxF c st 0 with
        | none => rfl
        | some i => rw [h] at hbb; simp_all
       go_ret
       have hv : idxS st c = 131072 := by unfold idxS; rw [hn]
       rw [hv]
       exact ⟨rfl, Bel.refl _⟩)
    | (obtain ⟨i, hn⟩ : ∃ i, idxF c st 0 = some i := by
        cases h : idxF c st 0 with
        | none => rw [h] at hbb; simp_all
        | some i => exact ⟨i, rfl⟩
       have hv : idxS st c = (i : Nat) := by unfold idxS; rw [hn]
       have h2 := HP.out.2 i hn
       rw [HAT.out] at h2
       injection h2 with h2
       injection h2 with _ h2
       go_ret
       rw [hv, ← h2]
       exact ⟨rfl, Bel.refl _⟩)

end Go.Proofs.Ytlclllkjnhgbjaa
