/- Rows in whatever order: plain. -/
import Derived.Test.YtelnhhbefdfeoaaBm
import Derived.Test.YtelnhhbefdfeoaaBi
namespace Go.Proofs.Ytelnhhbefdfeoaa
open Go.RowKit
set_option linter.unusedVariables false
set_option linter.unusedSimpArgs false


theorem rowsErr_of {s : SC} {rows : List RC} (h : ∀ r ∈ rows, ∃ ks, rowOf s r = .ok ks) : rowsErr s rows = 0 := by
  induction rows with
  | nil => rfl
  | cons r rows ih =>
    obtain ⟨ks, hk⟩ := h r (List.mem_cons_self ..)
    rw [rowsErr, hk]
    exact ih fun x hx => h x (List.mem_cons_of_mem _ hx)
theorem batErr_of {s : SC} {rows q : List RC} (h : batErr s rows = 0) (hm : ∀ r ∈ q, r ∈ rows) (hl : q.length ≤ rows.length) : batErr s q = 0 := by
  obtain ⟨h1, h2, h3⟩ := batErr_zero h
  unfold batErr
  rw [if_neg (by rw [h1]; simp), if_neg (by omega)]
  exact rowsErr_of fun r hr => h3 r (hm r hr)
/-- Values that are small. -/
def SmallV (l : List Int) : Prop := ∀ v ∈ l, -1000000000000 ≤ v ∧ v ≤ 1000000000000
theorem inB_prt {l : List Int} (h : SmallV l) (i : Nat) : inB 1 (prtOf l i).s := by
  cases hi : l[i]? with
  | none => rw [prtOf_none hi]; unfold inB; show -(1 * 1000000000000) ≤ (0 : Int) ∧ (0 : Int) ≤ _; omega
  | some v =>
    rw [prtOf_some hi]
    have := h v (List.mem_of_getElem? hi)
    unfold inB
    show -(1 * 1000000000000) ≤ v ∧ v ≤ 1 * 1000000000000
    omega
theorem good_of {l : List Int} (h : SmallV l) : GoodA (Ag.of l) := ⟨Int.le_refl 1, inB_prt h 0, inB_prt h 1, inB_prt h 2⟩
theorem cnt_rows (s : SC) (rows : List RC) : cnt (rows.map (facOf s)) = rows.length := by
  induction rows with
  | nil => rfl
  | cons r rows ih => rw [List.map_cons, cnt, ih, List.length_cons]; show (1 : Int) + _ = _; omega
theorem rows_good {s : SC} {rows : List RC} (h : ∀ r ∈ rows, SmallV r.vs) : AllGood (rows.map (facOf s)) := fun f hf => by
  obtain ⟨r, hr, rfl⟩ := List.mem_map.1 hf
  exact good_of (h r hr)
/-- What the law asks: whatever the order and the groups. -/
theorem rows_orders (s : SC) (rows : List RC) (cut : Nat) (hs : ∀ r ∈ rows, SmallV r.vs) (hn : rows.length ≤ 60) :
    ∃ r x y, foldC (sortC (rows.map (facOf s))) = some r ∧ foldC (sortC (rows.reverse.map (facOf s))) = some r ∧ foldC (sortC ((rows.take cut).map (facOf s))) = some x ∧ foldC (sortC ((rows.drop cut).map (facOf s))) = some y ∧ Srt x ∧ Srt y ∧ foldC (sortC (y ++ x)) = some r :=
  fold_orders (rows_good hs) (by rw [cnt_rows]; omega) ((List.reverse_perm rows).map _) (by rw [← List.map_append, List.take_append_drop])

end Go.Proofs.Ytelnhhbefdfeoaa
