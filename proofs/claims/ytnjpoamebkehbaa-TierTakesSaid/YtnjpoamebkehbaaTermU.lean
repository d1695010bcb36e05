/- term.Take: a row of texts of bytes. -/
import Derived.Test.YtnjpoamebkehbaaTermT
import Derived.Test.YtnjpoamebkehbaaApart
namespace Go.Proofs.Ytnjpoamebkehbaa
open Go.RowKit
set_option linter.unusedVariables false
set_option linter.unusedSimpArgs false

theorem own_but2 {w w' : World} {B base : Nat} {e : TypeId} {size n : Nat} {v : Value} {xs : List Value} (h : w.ownsRow base e size v n xs) (hb : But2 B w w') (hB : B + 2 ≤ base) : w'.ownsRow base e size v n xs := by
  refine ⟨h.1, ?_⟩
  rcases h.2 with h0 | ⟨g, cap, cur, h1, h2, h3, h4⟩
  · exact .inl h0
  · have hlt : g < w.heap.size := by
      rcases Nat.lt_or_ge g w.heap.size with h | h
      · exact h
      · rw [Array.getElem?_eq_none h] at h3; cases h3
    exact .inr ⟨g, cap, cur, h1, h2, (hb.block g hlt (by omega) (by omega)).trans h3, h4⟩
theorem own_less {w : World} {base base' : Nat} {e : TypeId} {size n : Nat} {v : Value} {xs : List Value} (h : w.ownsRow base e size v n xs) (hb : base' ≤ base) : w.ownsRow base' e size v n xs := by
  refine ⟨h.1, ?_⟩
  rcases h.2 with h0 | ⟨g, cap, cur, h1, h2, h3⟩
  · exact .inl h0
  · exact .inr ⟨g, cap, cur, h1, Nat.le_trans hb h2, h3⟩

/-- What a whole reading ends with. -/
def endErr {α : Type} (o : PR α) : Int :=
  match o with
  | .error k => k
  | .ok (_, l) => if l = [] then 0 else 3

/-- A row read is laid in a block of the reading function's own. -/
def RT (w0 : World) (B g : Nat) (o : PR (List (List UInt8))) (k : Int) (w' : World) : Prop :=
  Bel w0 w' ∧ k = endErr o ∧ ∃ v, Blk w' g 27 #[v] ∧ ∀ ts l, o = .ok (ts, l) → w'.ownsRow (B + 3) 9 1 v ts.length (ts.map tx)

/-- What term.Take answers. -/
def ttake (most : Int) (s : List UInt8) : List (List UInt8) × Int :=
  match tread most s with
  | .error k => ([], k)
  | .ok (ts, l) => if l = [] then (ts, 0) else ([], 3)
/-- A row of texts with an error's number, told. -/
def TxSaid (w : World) (r : List (List UInt8) × Int) (e : Ending) (w' : World) : Prop :=
  ∃ A c, e = .returned (.tuple #[.slice A r.1.length c, .int .i64 r.2]) ∧ Bel w w' ∧ Rd w' 1 A r.1.length (r.1.map tx)

theorem tread_err {most k : Int} {s : List UInt8} (h : tread most s = .error k) : k = 3 ∨ k = 5 := by
  have key : ∀ n was l k, treads was n l = .error k → k = 3 ∨ k = 5 := by
    intro n
    induction n with
    | zero => intro was l k h; cases h
    | succ n ih =>
      intro was l k h
      unfold treads at h
      split at h
      · rename_i e he
        injection h with h
        subst h
        unfold tround at he
        split at he
        · rename_i hp
          injection he with he
          subst he
          exact pnum_err hp
        · split at he
          · rename_i hp
            injection he with he
            subst he
            unfold ptxt at hp
            split at hp
            · rename_i h2
              injection hp with hp
              subst hp
              exact pnum_err h2
            · unfold pfix at hp
              split at hp
              · injection hp with hp; exact .inl hp.symm
              · cases hp
          · split at he
            · cases he
            · injection he with he; exact .inl he.symm
      · split at h
        · rename_i he
          injection h with h
          subst h
          exact ih _ _ _ he
        · cases h
  unfold tread at h
  split at h
  · rename_i hp
    injection h with h
    subst h
    exact pnum_err hp
  · exact key _ _ _ _ h

end Go.Proofs.Ytnjpoamebkehbaa
