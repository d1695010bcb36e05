/- A struct stored into a row of the call's own. -/
import Derived.Test.YtnekknemjhlgdaaBb
namespace Go.Proofs.Ytnekknemjhlgdaa
open Go.RowKit
set_option linter.unusedVariables false

theorem flat_set {α : Type} [Cel α] (l : List α) (k : Nat) (f : α) (hk : k < l.length) (j : Nat) :
    ((l.set k f).flatMap Cel.cells)[j]? = if k * Cel.size α ≤ j ∧ j < k * Cel.size α + Cel.size α then (Cel.cells f)[j - k * Cel.size α]? else (l.flatMap Cel.cells)[j]? := by
  have hp : 0 < Cel.size α := Cel.pos
  by_cases hj : j < l.length * Cel.size α
  · have hi : j / Cel.size α < l.length := Nat.div_lt_of_lt_mul (by rw [Nat.mul_comm]; exact hj)
    have hjm : j / Cel.size α * Cel.size α + j % Cel.size α = j := by rw [Nat.mul_comm]; exact Nat.div_add_mod j _
    have hr := Nat.mod_lt j hp
    by_cases e : k = j / Cel.size α
    · have hg : (l.set k f)[j / Cel.size α]? = some f := by rw [← e]; exact List.getElem?_set_self hk
      have h1 := cells_get (l.set k f) _ _ _ hg hr
      rw [hjm] at h1
      rw [h1, if_pos (by rw [e]; omega)]
      congr 1
      rw [e]
      omega
    · have hg : (l.set k f)[j / Cel.size α]? = some (l[j / Cel.size α]'hi) := by rw [List.getElem?_set_ne e, List.getElem?_eq_getElem hi]
      have h1 := cells_get (l.set k f) _ _ _ hg hr
      have h2 := cells_get l _ _ _ (List.getElem?_eq_getElem hi) hr
      rw [hjm] at h1 h2
      rw [h1, h2, if_neg]
      intro ⟨h3, h4⟩
      apply e
      have h5 : k * Cel.size α + Cel.size α = (k + 1) * Cel.size α := by rw [Nat.add_mul, Nat.one_mul]
      rw [h5] at h4
      exact (Nat.div_eq_of_lt_le h3 h4).symm
  · have h5 : k * Cel.size α + Cel.size α = (k + 1) * Cel.size α := by rw [Nat.add_mul, Nat.one_mul]
    have h6 : (k + 1) * Cel.size α ≤ l.length * Cel.size α := Nat.mul_le_mul_right _ hk
    rw [List.getElem?_eq_none (by rw [cells_len, List.length_set]; omega), List.getElem?_eq_none (l := l.flatMap Cel.cells) (by rw [cells_len]; omega), if_neg (by omega)]

section
variable {α : Type} [Cel α] {w : World} {base : Nat} {e : TypeId} {g n c : Nat} {l : List α}
theorem own_range (h : w.ownsRow base e (Cel.size α) (.slice (some ⟨g, 0, none⟩) n c) n (l.flatMap Cel.cells)) {k : Nat} {a : α} (ha : l[k]? = some a) : w.rangeAt g (k * Cel.size α) (Cel.cells a) ∧ g < w.heap.size := by
  have hr := Rd.of_own h
  have hl := rd_len hr
  have hk : k < n := by have := (List.getElem?_eq_some_iff.1 ha).1; omega
  obtain ⟨b, o, a', e1, hb, ha', hc⟩ := rd_at hr hk
  injection e1 with e1
  injection e1 with e1 e2
  subst e1 e2
  rw [ha] at ha'
  injection ha' with ha'
  subst ha'
  exact ⟨fun j u hu => by have := hc j u hu; rwa [Nat.zero_add] at this, hb⟩
theorem own_setRow (h : w.ownsRow base e (Cel.size α) (.slice (some ⟨g, 0, none⟩) n c) n (l.flatMap Cel.cells)) {k : Nat} (hk : k < n) (f : α) :
    (w.setCells g (k * Cel.size α) (Cel.cells f)).ownsRow base e (Cel.size α) (.slice (some ⟨g, 0, none⟩) n c) n ((l.set k f).flatMap Cel.cells) := by
  have hl := rd_len (Rd.of_own h)
  refine ⟨by rw [cells_len, List.length_set, hl], ?_⟩
  rcases h.2 with ⟨h0, _⟩ | ⟨g', cap, cur, hv, hb, hh, hn, hm, hs, ht⟩
  · cases h0
  · injection hv with h1 h2 h3
    injection h1 with h1
    injection h1 with h1
    subst h1 h3
    refine .inr ⟨g, c, setAll cur (k * Cel.size α) (Cel.cells f), rfl, hb, Blk.setAll (Cel.cells f) (k * Cel.size α) hh, hn, hm, by rw [setAll_size]; exact hs, ?_⟩
    apply List.ext_getElem?
    intro j
    rw [flat_set l k f (by omega) j]
    have hns : n * Cel.size α ≤ cur.size := by rw [hs]; exact Nat.mul_le_mul_right _ hn
    by_cases hj : j < n * Cel.size α
    · rw [List.getElem?_take_of_lt hj, Array.getElem?_toList, setAll_get _ _ _ _ (by omega), Cel.len]
      have h4 : (l.flatMap Cel.cells)[j]? = cur[j]? := by rw [← ht, List.getElem?_take_of_lt hj, Array.getElem?_toList]
      rw [h4]
    · rw [List.getElem?_eq_none (by rw [List.length_take]; omega)]
      have h5 : k * Cel.size α + Cel.size α = (k + 1) * Cel.size α := by rw [Nat.add_mul, Nat.one_mul]
      have h6 : (k + 1) * Cel.size α ≤ n * Cel.size α := Nat.mul_le_mul_right _ hk
      rw [if_neg (by omega), List.getElem?_eq_none (by rw [cells_len, hl]; omega)]
theorem own_there (h : w.ownsRow base e (Cel.size α) (.slice (some ⟨g, 0, none⟩) n c) n (l.flatMap Cel.cells)) {k : Nat} (hk : k < n) : w.there g (k * Cel.size α) (Cel.size α) := by
  rcases h.2 with ⟨h0, _⟩ | ⟨g', cap, cur, hv, hb, hh, hn, hm, hs, ht⟩
  · cases h0
  · injection hv with h1 h2 h3
    injection h1 with h1
    injection h1 with h1
    subst h1 h3
    have hb2 : Blk w g e cur := hh
    intro j hj
    have h5 : k * Cel.size α + Cel.size α = (k + 1) * Cel.size α := by rw [Nat.add_mul, Nat.one_mul]
    have h6 : (k + 1) * Cel.size α ≤ c * Cel.size α := Nat.mul_le_mul_right _ (by omega)
    rw [hb2.cell, hb2.frozen, Array.getElem?_eq_getElem (by rw [hs]; omega)]
    exact ⟨rfl, rfl⟩

theorem wpList_store_own {P : Program} {ops : Array Oper} {rest : List Oper} {op : Oper} {a : Act} {Q : Exit → Act → World → Prop} (hgd : op.guard = none) {ty : TypeId} {size : Nat} (R : RowTy P ty size) (x y : Operand) (ho : op.op = .store ty x y) (hsz : size = Cel.size α)
    (k : Nat) (hx : a.eval x = .pointer (some ⟨g, k * Cel.size α, none⟩)) (h : w.ownsRow base e (Cel.size α) (.slice (some ⟨g, 0, none⟩) n c) n (l.flatMap Cel.cells)) (hk : k < n) (f : α) (cs : Array Value) (hcs : cs.toList = Cel.cells f) (hy : a.eval y = .agg cs) (h1 : cs.all (·.oneCell') = true)
    (hn : ∀ w', w'.ownsRow base e (Cel.size α) (.slice (some ⟨g, 0, none⟩) n c) n ((l.set k f).flatMap Cel.cells) → w.grownBy w' (some g) → wpList P ops Q rest (a.put op.dst undef) w') : wpList P ops Q (op :: rest) a w := by
  have hss : cs.size = Cel.size α := by have := congrArg List.length hcs; rw [Array.length_toList, Cel.len] at this; exact this
  refine wpList_store_mid hgd ty x y ho g (k * Cel.size α) cs hx hy (by rw [hss]; exact own_there h hk) (by rw [R.hi, hss, hsz]) h1 ?_
  rw [hcs]
  exact hn _ (own_setRow h hk f) (setCells_grown w g _ _)
end

end Go.Proofs.Ytnekknemjhlgdaa
