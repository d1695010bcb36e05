/- Cells of own rows turned. -/
import Derived.Test.YtlclllkjnhgbjaaBu
import Derived.Test.YtlclllkjnhgbjaaOwnSet
import Derived.Test.YtlclllkjnhgbjaaBs
import Derived.Test.YtlclllkjnhgbjaaBb
namespace Go.Proofs.Ytlclllkjnhgbjaa
open Go.RowKit
set_option linter.unusedVariables false
set_option linter.unusedSimpArgs false


/-- A cell that leads elsewhere. -/
def mvCl (g : Int → Int) (c : Cl) : Cl := ⟨c.key, g c.ch, c.ag⟩
/-- A node whose cells lead elsewhere. -/
def moveC (nd : Nat) (g : Int → Int) (n : NC) : NC := if n.dim = (nd : Int) - 1 then n else ⟨n.dim, n.ls.map (List.map (mvCl g)), mvCl g n.all⟩
theorem set_self {α : Type} {l : List α} {j : Nat} {c : α} (h : l[j]? = some c) : l.set j c = l := by
  apply List.ext_getElem?
  intro q
  rw [List.getElem?_set]
  split
  · rename_i e; subst e; rw [if_pos (List.getElem?_eq_some_iff.1 h).1, h]
  · rfl
theorem flat_setC (l : List Cl) (j : Nat) (c : Cl) (h : l[j]? = some c) (x : Int) : (l.flatMap Cel.cells).set (j * 12 + 1) (.int .i64 x) = (l.set j ⟨c.key, x, c.ag⟩).flatMap Cel.cells := by
  have hj := (List.getElem?_eq_some_iff.1 h).1
  have hf := flat_set l j ⟨c.key, x, c.ag⟩ hj
  apply List.ext_getElem?
  intro i
  rw [hf i]
  show _ = if j * 12 ≤ i ∧ i < j * 12 + 12 then _ else _
  by_cases h1 : j * 12 ≤ i ∧ i < j * 12 + 12
  · rw [if_pos h1]
    obtain ⟨d, rfl⟩ : ∃ d, i = j * 12 + d := ⟨i - j * 12, by omega⟩
    have hlen : (l.flatMap Cel.cells).length = l.length * 12 := by
      have : ∀ (l : List Cl), (l.flatMap Cel.cells).length = l.length * 12 := fun l => by
        induction l with
        | nil => rfl
        | cons a l ih => rw [List.flatMap_cons, List.length_append, ih, List.length_cons]; show 12 + _ = _; omega
      exact this l
    have hc : (l.flatMap Cel.cells)[j * 12 + d]? = (Cel.cells c)[d]? := by
      have hs : l.set j c = l := set_self h
      have h2 := flat_set l j c hj (j * 12 + d)
      rw [hs] at h2
      rw [h2]
      show (if j * 12 ≤ j * 12 + d ∧ j * 12 + d < j * 12 + 12 then (Cel.cells c)[j * 12 + d - j * 12]? else _) = _
      rw [if_pos h1, Nat.add_sub_cancel_left]
    rw [show j * 12 + d - j * Cel.size Cl = d by show j * 12 + d - j * 12 = d; omega]
    by_cases hd : d = 1
    · subst hd
      rw [List.getElem?_set_self (by rw [hlen]; omega)]
      rfl
    · rw [List.getElem?_set_ne (by omega), hc]
      obtain ⟨key, ch, ag⟩ := c
      match d, hd with
      | 0, _ => rfl
      | 1, hd => exact absurd rfl hd
      | d + 2, _ => rfl
  · rw [if_neg h1, List.getElem?_set_ne (by omega)]
theorem own_setCellN {w : World} {base : Nat} {e : TypeId} {size g n c : Nat} {xs : List Value} (h : w.ownsRow base e size (.slice (some ⟨g, 0, none⟩) n c) n xs) {j : Nat} (hj : j < n * size) (u : Value) : (w.setCell ⟨g, j, none⟩ u).ownsRow base e size (.slice (some ⟨g, 0, none⟩) n c) n (xs.set j u) := by
  refine ⟨by rw [List.length_set]; exact h.1, ?_⟩
  rcases h.2 with ⟨h0, h1⟩ | ⟨g', cap, cur, hv, hb, hh, hn, hm, hs, hx⟩
  · cases h0
  · injection hv with hv1 _ hv2
    injection hv1 with hv1
    injection hv1 with hv1 _ _
    subst hv1 hv2
    refine .inr ⟨g, c, cur.setIfInBounds j u, rfl, hb, Blk.set_ (t := e) (cs := cur) hh j u, hn, hm, by simpa using hs, ?_⟩
    rw [← hx, Array.toList_setIfInBounds, List.take_set]
theorem own_cellN {w : World} {base : Nat} {e : TypeId} {size g n c : Nat} {xs : List Value} (h : w.ownsRow base e size (.slice (some ⟨g, 0, none⟩) n c) n xs) {j : Nat} {v : Value} (hv : xs[j]? = some v) : w.cell? ⟨g, j, none⟩ = some v ∧ w.frozen? ⟨g, j, none⟩ = false := by
  rcases h.2 with ⟨h0, h1⟩ | ⟨g', cap, cur, hv', hb, hh, hn, hm, hs, hx⟩
  · cases h0
  · injection hv' with hv1 _ hv2
    injection hv1 with hv1
    injection hv1 with hv1 _ _
    subst hv1 hv2
    have hh' : Blk w g e cur := hh
    refine ⟨?_, hh'.frozen j⟩
    rw [hh'.cell]
    rw [← hx, List.getElem?_take] at hv
    split at hv
    · rw [← hv, Array.getElem?_toList]
    · cases hv
theorem SL.setCellN {S : Nat → Prop} {w0 w : World} {l : List Res} (h : SL S w0 w l) (i : Nat) {e : TypeId} {size g n c : Nat} {xs : List Value} (hi : l[i]? = some (rRow e size (.slice (some ⟨g, 0, none⟩) n c) n xs)) {j : Nat} (hj : j < n * size) (u : Value) : SL S w0 (w.setCell ⟨g, j, none⟩ u) (l.set i (rRow e size (.slice (some ⟨g, 0, none⟩) n c) n (xs.set j u))) :=
  h.setRow i hi (grownBy_setCell w g j u) (own_setCellN (h.row i hi) hj u) (.inl rfl)
theorem setList_step {l : List Cl} {j : Nat} {c : Cl} {g : Int → Int} (h : l[j]? = some c) : ((l.take j).map (mvCl g) ++ l.drop j)[j]? = some c ∧ ((l.take j).map (mvCl g) ++ l.drop j).set j (mvCl g c) = (l.take (j + 1)).map (mvCl g) ++ l.drop (j + 1) := by
  have hj := (List.getElem?_eq_some_iff.1 h).1
  have hl : ((l.take j).map (mvCl g)).length = j := by rw [List.length_map, List.length_take]; omega
  constructor
  · rw [List.getElem?_append_right (by omega), hl, Nat.sub_self, List.getElem?_drop]
    exact h
  · have h1 : ((l.take j).map (mvCl g) ++ l.drop j).set j (mvCl g c) = (l.take j).map (mvCl g) ++ (l.drop j).set 0 (mvCl g c) := by
      rw [List.set_append_right _ _ (by omega), hl, Nat.sub_self]
    have h2 : l.drop j = c :: l.drop (j + 1) := by
      obtain ⟨hj', rfl⟩ := List.getElem?_eq_some_iff.1 h
      exact List.drop_eq_getElem_cons hj'
    have h3 : l.take (j + 1) = l.take j ++ [c] := by rw [List.take_add_one, h]; rfl
    rw [h1, h2, List.set_cons_zero, h3, List.map_append, List.append_assoc]
    rfl

end Go.Proofs.Ytlclllkjnhgbjaa
