/- Arguments opened: slices that came in. -/
import Derived.Test.YtnjpoamebkehbaaSl
import Derived.ProofKit
import Derived.OpenShut
namespace Go.Proofs.Ytnjpoamebkehbaa
open Go.RowKit Go.ChangeShapes Go.WideShapes
set_option linter.unusedVariables false

/-- A slice of integers. -/
structure IntSl where
  A : Option Addr
  n : Nat
  c : Nat
  zs : List Int
def IntSl.v (x : IntSl) : Value := .slice x.A x.n x.c
/-- It reads as its numbers, which are of its kind. -/
structure IntSl.ok (k : IntKind) (w : World) (x : IntSl) : Prop where
  rd : Rd w 1 x.A x.n (x.zs.map (Value.int k))
  wf : ∀ z ∈ x.zs, (Lit.int k z).wf = true
  le : x.n ≤ x.c
  cap : x.c ≤ maxLen

section
variable {H : Type} {enc : TypeId × Value → H} {P : Program} {w : World} {base b0 : Nat} {spare : Nat → Bool} {held : Bool} {r : Reach}
theorem open_intsl {t e : TypeId} {k : IntKind} {v : Value} {d : DataW H} {p : List MemPlace} (ht : P.underlying t = some (.slice e)) (he : P.underlying e = some (.int k)) (hc : P.cellsOf e = 1)
    (hv : Value.okWide P w r b0 t v) (h : DataW.Trod enc P w base spare held t v d p) : ∃ x : IntSl, v = x.v ∧ x.ok k w := by
  obtain ⟨a0, len0, cap0, rfl⟩ := okWide_slice ht hv
  obtain ⟨fuel, hf⟩ := h
  rcases open_ints ht he hc hf with ⟨hcs, _⟩ | ⟨x, l, c, zs, hcs, _, hl, hm, hz, _, hcell, hwz⟩
  · simp [Value.cells] at hcs
    obtain ⟨rfl, rfl, rfl⟩ := hcs
    exact ⟨⟨none, 0, 0, []⟩, rfl, ⟨Rd.nil, by simp, Nat.le_refl _, Nat.zero_le _⟩⟩
  · simp [Value.cells] at hcs
    obtain ⟨rfl, rfl, rfl⟩ := hcs
    have hzl : len0 ≤ zs.length := by rw [hz]; split <;> omega
    refine ⟨⟨some x, len0, cap0, zs.take len0⟩, rfl, ⟨⟨by simp; omega, fun hn => ⟨x, rfl, ?_, fun j u hu => ?_⟩⟩, fun z hz' => hwz z (List.mem_of_mem_take hz'), hl, hm⟩⟩
    · have h0 := hcell 0 (by simp only at hn; omega)
      have := World.block_lt_of_cell? _ _ h0
      rwa [block_of_add] at this
    · rw [List.getElem?_map] at hu
      cases hzj : (zs.take len0)[j]? with
      | none => rw [hzj] at hu; cases hu
      | some z =>
        rw [hzj] at hu
        simp at hu
        subst hu
        have hj : j < len0 := by
          rcases Nat.lt_or_ge j len0 with h' | h'
          · exact h'
          · rw [List.getElem?_eq_none (by simp; omega)] at hzj; cases hzj
        rw [List.getElem?_take_of_lt hj] at hzj
        rw [hcell j (by omega), List.getD_eq_getElem?_getD, hzj]
        rfl
end

end Go.Proofs.Ytnjpoamebkehbaa
