/- Where a node's bytes start (stream.Write). -/
import Derived.Test.YtlclllkjnhgbjaaStrP
import Derived.Test.YtlclllkjnhgbjaaBu
namespace Go.Proofs.Ytlclllkjnhgbjaa
open Go.RowKit
set_option linter.unusedVariables false
set_option linter.unusedSimpArgs false


set_option maxRecDepth 100000 in
theorem swstart_any (g : Nat) (A : Option Addr) (k c : Nat) (st : List Int) (i : Nat) (w : World) (hc : w.cell? ⟨g, 0, none⟩ = some (.slice A k c)) (hr : (Row.mk A k c st : Row Int).rd w) (hi : i < k) :
    Calls Try.prog 54 #[.int .i64 i, .pointer (some ⟨g, 0, none⟩)] w fun e w' => e = .returned (.int .i64 (plc st i)) ∧ Bel w w' := by
  have hl : st.length = k := hr.len
  obtain ⟨b, o, t, hA, ht, ht64, hcc⟩ := hr.intAt (k := i) hi
  simp only at hA ht
  subst hA
  have hp : plc st (i : Int) = t := by unfold plc; rw [if_pos ⟨by omega, by omega⟩, Int.toNat_natCast, ht]; rfl
  have i0 : (0 : Int) ≤ i := by omega
  have i1 : (i : Int) < k := by omega
  have HP := Lib.hid hp
  clear ht hp hr
  go_enter Try.func54, Try.ntmps54
  go_wp2_with fail
  go_ret
  rw [HP.out]
  exact ⟨rfl, Bel.refl _⟩

end Go.Proofs.Ytlclllkjnhgbjaa
