/- Tiers and dimensions of the call's own, as pieces. -/
import Derived.Test.YtnekknemjhlgdaaSep
import Derived.Test.YtnekknemjhlgdaaBf
import Derived.Test.YtnekknemjhlgdaaDimW
namespace Go.Proofs.Ytnekknemjhlgdaa
open Go.RowKit
set_option linter.unusedVariables false

/-- Where a tier's rows lie. -/
def Tir.D (T : Tir) (g : Nat) : Prop := T.ts.v.ownBlock = some g ∨ T.up.v.ownBlock = some g
abbrev rTir (T : Tir) : Res := ⟨T.D, TirOwn 0 T⟩
theorem holds_tir {base : Nat} {T : Tir} {w : World} (h : TirOwn base T w) : (rTir T).holds w := by
  have h1 := holds_row h.ts
  have h2 := holds_row h.up
  refine ⟨fun g hg => hg.elim (h1.1 g) (h2.1 g), fun w' hs hk => ⟨h1.2 w' hs fun g hg => hk g (.inl hg), h2.2 w' hs fun g hg => hk g (.inr hg), h.nm, h.tl, h.ul, h.tn, h.un⟩⟩
theorem tir_new {base : Nat} {T : Tir} {w : World} (h : TirOwn base T w) : ∀ g, T.D g → base ≤ g := fun g hg => hg.elim (own_ge h.ts) (own_ge h.up)
theorem tir_base {base : Nat} {T : Tir} {w : World} (h : TirOwn 0 T w) (hb : ∀ g, T.D g → base ≤ g) : TirOwn base T w :=
  ⟨own_base h.ts fun g hg => hb g (.inl hg), own_base h.up fun g hg => hb g (.inr hg), h.nm, h.tl, h.ul, h.tn, h.un⟩
theorem tir_nil_own (w : World) : TirOwn 0 Tir.nil w := ⟨World.ownsRow_nil w 0 _ _, World.ownsRow_nil w 0 _ _, by simp, (fun t ht => by cases ht), (fun t ht => by cases ht), by show (0 : Nat) ≤ 200; omega, by show (0 : Nat) ≤ 200; omega⟩

/-- Tiers. -/
def TirsOwn (l : List Tir) (w : World) : Prop := ∀ T ∈ l, TirOwn 0 T w
abbrev rTirs (l : List Tir) : Res := ⟨fun g => ∃ T, T ∈ l ∧ T.D g, TirsOwn l⟩
theorem holds_tirs_nil (w : World) : (rTirs []).holds w := ⟨fun g ⟨T, hT, _⟩ => (by cases hT), fun w' _ _ T hT => by cases hT⟩
theorem holds_tirs_cons {T : Tir} {l : List Tir} {w : World} (h1 : (rTir T).holds w) (h2 : (rTirs l).holds w) : (rTirs (T :: l)).holds w := by
  refine ⟨fun g ⟨U, hU, hg⟩ => ?_, fun w' hs hk U hU => ?_⟩
  · rcases List.mem_cons.1 hU with rfl | hU
    · exact h1.1 g hg
    · exact h2.1 g ⟨U, hU, hg⟩
  · rcases List.mem_cons.1 hU with rfl | hU
    · exact h1.2 w' hs fun g hg => hk g ⟨U, List.mem_cons_self .., hg⟩
    · exact h2.2 w' hs (fun g ⟨V, hV, hg⟩ => hk g ⟨V, List.mem_cons_of_mem _ hV, hg⟩) U hU
theorem tirs_cons_D {T : Tir} {l : List Tir} : ∀ g, (rTirs (T :: l)).D g → (rTirs l).D g ∨ (rTir T).D g := fun g ⟨U, hU, hg⟩ => by
  rcases List.mem_cons.1 hU with rfl | hU
  · exact .inr hg
  · exact .inl ⟨U, hU, hg⟩

/-- A dimension whose rows are the call's own. -/
structure DmOwn (d : Dm) (w : World) : Prop where
  nm : d.nm.length ≤ 12
  tr : w.ownsRow 0 140 3 (.slice d.tr.A d.tr.n d.tr.c) d.tr.n (d.tr.l.flatMap Cel.cells)
  ts : TirsOwn d.tr.l w
  n4 : d.tr.n ≤ 4
def Dm.D (d : Dm) (g : Nat) : Prop := d.tr.v.ownBlock = some g ∨ ∃ T, T ∈ d.tr.l ∧ T.D g
abbrev rDm (d : Dm) : Res := ⟨d.D, DmOwn d⟩
theorem DmOwn.rd {d : Dm} {w : World} (h : DmOwn d w) : d.rd w :=
  ⟨by have := h.nm; omega, Rd.of_own h.tr, fun T hT => (h.ts T hT).rd, by have := h.n4; omega⟩
theorem DmOwn.up {d : Dm} {w : World} (h : DmOwn d w) : ∀ t ∈ d.tr.l, t.up.n ≤ 200 := fun t ht => (h.ts t ht).un
theorem DmOwn.tn {d : Dm} {w : World} (h : DmOwn d w) : ∀ t ∈ d.tr.l, t.ts.n ≤ 200 := fun t ht => (h.ts t ht).tn
theorem holds_dm {nm : List UInt8} {A : Option Addr} {n c : Nat} {l : List Tir} {w : World} (hn : nm.length ≤ 12) (h4 : n ≤ 4) (h1 : (rRow 140 3 (.slice A n c) n (l.flatMap Cel.cells)).holds w) (h2 : (rTirs l).holds w) : (rDm ⟨nm, ⟨A, n, c, l⟩⟩).holds w :=
  ⟨fun g hg => hg.elim (h1.1 g) (h2.1 g), fun w' hs hk => ⟨hn, h1.2 w' hs fun g hg => hk g (.inl hg), h2.2 w' hs fun g hg => hk g (.inr hg), h4⟩⟩
abbrev Dm.nil : Dm := ⟨[], ⟨none, 0, 0, []⟩⟩
abbrev DC.nil : DC := ⟨[], []⟩
theorem dm_nil_rd (w : World) : Dm.nil.rd w := ⟨by simp, Row.nil_rd w⟩
theorem holds_dm_nil (w : World) : (rDm Dm.nil).holds w := holds_dm (by simp) (by omega) (holds_row (World.ownsRow_nil w 0 _ _)) (holds_tirs_nil w)
/-- Of new memory. -/
def NewR (w w' : World) (r : Res) : Prop := r.holds w' ∧ ∀ g, r.D g → w.heap.size ≤ g

end Go.Proofs.Ytnekknemjhlgdaa
