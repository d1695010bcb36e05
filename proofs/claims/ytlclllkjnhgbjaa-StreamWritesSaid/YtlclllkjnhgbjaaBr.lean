/- Texts laid together: XSchP XSchW XSchX XSchR XSchT XSchA XSchZ XSchY XSchemaChecksW XSchS. -/
import Derived.Test.YtlclllkjnhgbjaaBq
import Derived.Test.YtlclllkjnhgbjaaBd
import Derived.Test.YtlclllkjnhgbjaaBf

namespace Go.Proofs.Ytlclllkjnhgbjaa
open Go.RowKit
set_option linter.unusedVariables false
set_option linter.unusedSimpArgs false

/-- So many things more, one behind the other. -/
def pmany {α : Type} (p : List UInt8 → PR α) : Nat → List α → List UInt8 → PR (List α)
  | 0, acc, l => .ok (acc, l)
  | n + 1, acc, l =>
    match p l with
    | .error k => .error k
    | .ok (x, r) => pmany p n (acc ++ [x]) r
theorem pmany_step {α : Type} {p : List UInt8 → PR α} {n k : Nat} {acc : List α} {l : List UInt8} (hk : k < n) : pmany p (n - k) acc l = match p l with | .error e => .error e | .ok (x, r) => pmany p (n - (k + 1)) (acc ++ [x]) r := by
  rw [show n - k = (n - (k + 1)) + 1 by omega, pmany]

/-- What a schema says. -/
structure SC where
  dims : List DC
  ms : List (List UInt8)
deriving DecidableEq
end Go.Proofs.Ytlclllkjnhgbjaa

namespace Go.Proofs.Ytlclllkjnhgbjaa
open Go.RowKit Go.ChangeShapes Go.WideShapes Go.Deep
set_option linter.unusedVariables false
set_option linter.unusedSimpArgs false

/-- A schema. -/
structure Sch where
  dm : Row Dm
  ms : Row (List UInt8)
abbrev Sch.cs (s : Sch) : Array Value := #[.slice s.dm.A s.dm.n s.dm.c, .slice s.ms.A s.ms.n s.ms.c]
structure Sch.rd (w : World) (s : Sch) : Prop where
  dm : s.dm.rd w
  ms : s.ms.rd w
theorem Sch.rd.mono {w w' : World} {s : Sch} (h : s.rd w) (hb : Bel w w') : s.rd w' := ⟨h.dm.mono hb, h.ms.mono hb⟩
instance instCelSch : Cel Sch where
  size := 2
  bytes := 48
  cells s := s.cs.toList
  ok w s := s.rd w
  len _ := rfl
  pos := by omega
  mono hb h := h.mono hb
abbrev Sch.con (s : Sch) : SC := ⟨s.dm.l.map Dm.con, s.ms.l⟩
theorem SL.setMap {S : Nat → Prop} {w0 w w' : World} {l : List Res} (h : SL S w0 w l) (i : Nat) {P : Program} {k : TypeId} {R : Value → Option (DataW Unit × List MemPlace)} {b n n' : Nat} {D D' : DataW Unit} (hi : l[i]? = some (rMap P k R b n D)) (hg : w.grownBy w' (some b)) (hm : w'.ownsMap P k R b n' D') : SL S w0 w' (l.set i (rMap P k R b n' D')) :=
  h.upd i hi ⟨hg.os, hg.tape, hg.output, hg.size, fun k hk hn => hg.block k hk (fun e => hn (by injection e))⟩ _ (holds_map hm) (fun k hk => .inl hk)
theorem SL.allocMap {S : Nat → Prop} {w0 w : World} {l : List Res} (h : SL S w0 w l) (P : Program) (k : TypeId) (R : Value → Option (DataW Unit × List MemPlace)) : SL S w0 (w.alloc (.map #[] 0)) (l ++ [rMap P k R w.heap.size 0 (Maps.setOf one1 [])]) :=
  h.add ((Bel.refl w).alloc _) _ (holds_map (World.ownsMap_made w P k R)) (fun g hg => by cases hg; exact Nat.le_refl _)

end Go.Proofs.Ytlclllkjnhgbjaa

namespace Go.Proofs.Ytlclllkjnhgbjaa
open Go.RowKit
set_option linter.unusedVariables false
set_option linter.unusedSimpArgs false

/-- None of the first of these. -/
def NoIn (names : List (List UInt8)) (j : Nat) (x : List UInt8) : Prop := ∀ i, i < j → names[i]? ≠ some x
theorem NoIn.zero {names : List (List UInt8)} {x : List UInt8} : NoIn names 0 x := fun i hi => absurd hi (by omega)
theorem NoIn.step {names : List (List UInt8)} {j : Nat} {x y : List UInt8} (h : NoIn names j x) (hy : names[j]? = some y) (hne : (y == x) = false) : NoIn names (j + 1) x := by
  intro i hi
  rcases (show i < j ∨ i = j by omega) with h' | h'
  · exact h i h'
  · rw [h', hy]
    intro e
    injection e with e
    rw [e] at hne
    simp at hne
theorem NoIn.all {names : List (List UInt8)} {k : Nat} {x : List UInt8} (h : NoIn names k x) : x ∉ names.take k := by
  rw [List.mem_iff_getElem?]
  rintro ⟨i, hi⟩
  by_cases hik : i < k
  · rw [List.getElem?_take_of_lt hik] at hi
    exact h i hik hi
  · rw [List.getElem?_eq_none (by simp; omega)] at hi
    cases hi
end Go.Proofs.Ytlclllkjnhgbjaa

namespace Go.Proofs.Ytlclllkjnhgbjaa
open Go.RowKit
set_option linter.unusedVariables false
set_option linter.unusedSimpArgs false

def Sch.D (s : Sch) (g : Nat) : Prop := s.dm.v.ownBlock = some g ∨ (∃ d, d ∈ s.dm.l ∧ d.D g) ∨ s.ms.v.ownBlock = some g
abbrev Sch.nil : Sch := ⟨⟨none, 0, 0, []⟩, ⟨none, 0, 0, []⟩⟩
abbrev SC.nil : SC := ⟨[], []⟩
end Go.Proofs.Ytlclllkjnhgbjaa

namespace Go.Proofs.Ytlclllkjnhgbjaa
open Go.RowKit
set_option linter.unusedVariables false
set_option linter.unusedSimpArgs false

end Go.Proofs.Ytlclllkjnhgbjaa

namespace Go.Proofs.Ytlclllkjnhgbjaa
open Go.RowKit
set_option linter.unusedVariables false
set_option linter.unusedSimpArgs false

section
variable {P : Program} {w : World}
theorem step_load_blk {ops : Array Oper} {o : Oper} {a : Act} {K : Act → World → Prop} {Q : Exit → Act → World → Prop} {X : Prop} (hgd : o.guard = none) {ty : TypeId} {n : Nat} (R : RowTy P ty n) (x : Operand) (ho : o.op = .load ty x)
    (g : Nat) (hx : a.eval x = .pointer (some ⟨g, 0, none⟩)) {t : TypeId} {cs : Array Value} (hb : Blk w g t cs) (hn : cs.size = n)
    (h : K (a.put o.dst (.agg cs)) w) : if Region.wanted o (yielded ops a.tmps) = true then Oper.wp P o a w K Q else X := by
  have hw : Region.wanted o (yielded ops a.tmps) = true := by simp [Region.wanted, hgd]
  rw [if_pos hw]
  obtain ⟨d, hu, hd⟩ := R.hu
  exact wp_load_mid ty x ho g 0 hx cs.toList d hb.range hu hd (by rw [R.hi]; simp [hn]) (by simpa using h)
end
end Go.Proofs.Ytlclllkjnhgbjaa

namespace Go.Proofs.Ytlclllkjnhgbjaa
open Go.RowKit
set_option linter.unusedVariables false
set_option linter.unusedSimpArgs false

def FewS (s : Sch) : Prop := s.dm.n ≤ 20 ∧ s.ms.n ≤ 5 ∧ ∀ d ∈ s.dm.l, d.tr.n ≤ 6 ∧ ∀ t ∈ d.tr.l, t.ts.n ≤ 220 ∧ t.up.n ≤ 220
end Go.Proofs.Ytlclllkjnhgbjaa

namespace Go.Proofs.Ytlclllkjnhgbjaa
open Go.RowKit
set_option linter.unusedVariables false
set_option linter.unusedSimpArgs false

end Go.Proofs.Ytlclllkjnhgbjaa

namespace Go.Proofs.Ytlclllkjnhgbjaa
open Go.RowKit
set_option linter.unusedVariables false
set_option linter.unusedSimpArgs false

theorem FewS.hn {s : Sch} (h : FewS s) : s.dm.n ≤ 1000000 := by have := h.1; omega
theorem FewS.hm {s : Sch} (h : FewS s) : s.ms.n ≤ 1000000 := by have := h.2.1; omega
theorem FewS.hd {s : Sch} (h : FewS s) : ∀ d ∈ s.dm.l, d.tr.n ≤ 1000000 ∧ ∀ t ∈ d.tr.l, t.up.n ≤ 100000 := fun d hd => ⟨by have := (h.2.2 d hd).1; omega, fun t ht => by have := ((h.2.2 d hd).2 t ht).2; omega⟩
end Go.Proofs.Ytlclllkjnhgbjaa

namespace Go.Proofs.Ytlclllkjnhgbjaa
open Go.RowKit
set_option linter.unusedVariables false
set_option linter.unusedSimpArgs false

/-- Where a scan stands that reads so many things of one kind. -/
def LInv {α : Type} (s : List UInt8) (o : PR (List α)) (p : List UInt8 → PR α) (n k : Nat) (acc : List α) (t kk : Int) : Prop :=
  (kk ≠ 0 ∧ o = .error kk) ∨ (kk = 0 ∧ ∃ tn : Nat, t = tn ∧ tn ≤ s.length ∧ o = pmany p (n - k) acc (s.drop tn))
section
variable {α : Type} {s : List UInt8} {o : PR (List α)} {p : List UInt8 → PR α} {n k : Nat} {acc : List α} {t kk : Int}
theorem LInv.bad (h : LInv s o p n k acc t kk) (hk : kk ≠ 0) : o = .error kk := h.elim (fun h => h.2) (fun h => absurd h.1 hk)
theorem LInv.good (h : LInv s o p n k acc t 0) : ∃ tn : Nat, t = tn ∧ tn ≤ s.length ∧ o = pmany p (n - k) acc (s.drop tn) := h.elim (fun h => absurd rfl h.1) (fun h => h.2)
theorem LInv.step {tn : Nat} {x : α} (hk : k < n) (h : o = pmany p (n - k) acc (s.drop tn)) (h2 : SRes s (p (s.drop tn)) t kk x) : LInv s o p n (k + 1) (acc ++ [x]) t kk := by
  rw [pmany_step hk] at h
  rcases h2 with ⟨h1, h2⟩ | ⟨h1, m, h3, h4, h2⟩
  · exact .inl ⟨h1, by rw [h, h2]⟩
  · exact .inr ⟨h1, m, h3, h4, by rw [h, h2]⟩
theorem LInv.done (h : LInv s o p n k acc t kk) (hk : kk ≠ 0 ∨ n ≤ k) : SRes s o t kk acc := by
  rcases h with ⟨h1, h2⟩ | ⟨h1, tn, h3, h4, h2⟩
  · exact .inl ⟨h1, h2⟩
  · rcases hk with hk | hk
    · exact absurd h1 hk
    · exact .inr ⟨h1, tn, h3, h4, by rw [h2, show n - k = 0 by omega]; rfl⟩
end
end Go.Proofs.Ytlclllkjnhgbjaa
