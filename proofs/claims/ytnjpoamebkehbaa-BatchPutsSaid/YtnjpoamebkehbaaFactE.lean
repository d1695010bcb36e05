/- Walks of the document's Few, Rises, Sorted, Same. -/
import Derived.Test.YtnjpoamebkehbaaFactD
import Derived.Test.YtnjpoamebkehbaaBg
namespace Go.Proofs.Ytnjpoamebkehbaa
open Go.RowKit
set_option linter.unusedVariables false
attribute [local go_sem] fct_get0

/-- How many places facts have, at most 1000 of each. -/
def keySum (l : List Fct) : Nat := (l.map fun f => min f.ks.l.length 1000).sum
def fewF (m : Nat) (l : List Fct) : Bool := decide (l.length ≤ m) && decide (keySum (l.take (m + 1)) ≤ 2000)
theorem keySum_snoc {l : List Fct} {k : Nat} {f : Fct} (h : l[k]? = some f) : keySum (l.take (k + 1)) = keySum (l.take k) + min f.ks.l.length 1000 := by
  rw [List.take_add_one, h]
  simp [keySum]
theorem fewF_len {m : Nat} {l : List Fct} (h : fewF m l = true) : l.length ≤ m := by
  unfold fewF at h
  simp only [Bool.and_eq_true, decide_eq_true_eq] at h
  exact h.1

/-- A fact in a row: its first cell, and all of them. -/
theorem Row.ok.fct {w : World} {x : Row Fct} (h : x.ok w) {k : Nat} (hk : k < x.n) :
    ∃ b o f, x.A = some ⟨b, o, none⟩ ∧ b < w.heap.size ∧ x.l[k]? = some f ∧ f.ok w ∧ w.cell? ⟨b, o + k * 11, none⟩ = some f.ks.v ∧ w.rangeAt b (o + k * 11) f.cs.toList ∧ w.rangeAt b (o + k * 11 + 1) f.ag.cs.toList := by
  obtain ⟨b, o, f, e, hb, hf, hc⟩ := rd_at h.rd hk
  refine ⟨b, o, f, e, hb, hf, h.all f (List.mem_of_getElem? hf), hc 0 _ rfl, fun j v hv => hc j v hv, fun j v hv => ?_⟩
  rw [Nat.add_assoc, Nat.add_comm 1 j]
  exact hc (j + 1) v hv

/-- Does each stand to the next one so? -/
def chain (r : List Int → List Int → Bool) : List (List Int) → Bool
  | a :: b :: l => r a b && chain r (b :: l)
  | _ => true
def keysOf (l : List Fct) : List (List Int) := l.map fun f => f.ks.l
theorem chain_drop {r : List Int → List Int → Bool} {l : List (List Int)} {k : Nat} {a b : List Int} (ha : l[k]? = some a) (hb : l[k + 1]? = some b) : chain r (l.drop k) = (r a b && chain r (l.drop (k + 1))) := by
  obtain ⟨h1, rfl⟩ := List.getElem?_eq_some_iff.1 ha
  obtain ⟨h2, rfl⟩ := List.getElem?_eq_some_iff.1 hb
  rw [List.drop_eq_getElem_cons h1, List.drop_eq_getElem_cons h2, chain]
theorem chain_end {r : List Int → List Int → Bool} {l : List (List Int)} {k : Nat} (h : l.length ≤ k + 1) : chain r (l.drop k) = true := by
  have : (l.drop k).length ≤ 1 := by rw [List.length_drop]; omega
  match l.drop k, this with
  | [], _ => rfl
  | [a], _ => rfl
theorem keys_get {l : List Fct} {k : Nat} {f : Fct} (h : l[k]? = some f) : (keysOf l)[k]? = some f.ks.l := by unfold keysOf; rw [List.getElem?_map, h]; rfl
theorem keys_len (l : List Fct) : (keysOf l).length = l.length := by unfold keysOf; rw [List.length_map]
def risesF (l : List Fct) : Bool := chain lessK (keysOf l)
def sortedF (l : List Fct) : Bool := chain (fun a b => !lessK b a) (keysOf l)

end Go.Proofs.Ytnjpoamebkehbaa
