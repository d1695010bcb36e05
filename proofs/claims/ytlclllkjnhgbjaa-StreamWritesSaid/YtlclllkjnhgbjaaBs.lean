/- Texts laid together: XFindT XRowW XBatW XBatP XBatX XSepL. -/
import Derived.Test.YtlclllkjnhgbjaaBe
import Derived.Test.YtlclllkjnhgbjaaBc
import Derived.Test.YtlclllkjnhgbjaaBr
import Derived.Test.YtlclllkjnhgbjaaBd
import Derived.Test.YtlclllkjnhgbjaaSep

namespace Go.Proofs.Ytlclllkjnhgbjaa
open Go.RowKit
set_option linter.unusedVariables false
set_option linter.unusedSimpArgs false

/-- Each text stands ahead of all behind it. -/
def RiseT (ts : List (List UInt8)) : Prop := ts.Pairwise (fun a b => Op.bytesLess a b = true)
theorem RiseT.lt {ts : List (List UInt8)} (h : RiseT ts) {i j : Nat} {a b : List UInt8} (hij : i < j) (ha : ts[i]? = some a) (hb : ts[j]? = some b) : Op.bytesLess a b = true := by
  obtain ⟨h1, rfl⟩ := List.getElem?_eq_some_iff.1 ha
  obtain ⟨h2, rfl⟩ := List.getElem?_eq_some_iff.1 hb
  exact List.pairwise_iff_getElem.1 h i j h1 h2 hij
end Go.Proofs.Ytlclllkjnhgbjaa

namespace Go.Proofs.Ytlclllkjnhgbjaa
open Go.RowKit Go.ChangeShapes Go.WideShapes Go.Deep
set_option linter.unusedVariables false
set_option linter.unusedSimpArgs false

/-- A row. -/
structure Rw where
  ts : Row (List UInt8)
  vs : Row Int
abbrev Rw.cs (r : Rw) : Array Value := #[.slice r.ts.A r.ts.n r.ts.c, .slice r.vs.A r.vs.n r.vs.c]
structure Rw.rd (w : World) (r : Rw) : Prop where
  ts : r.ts.rd w
  vs : r.vs.rd w
theorem Rw.rd.mono {w w' : World} {s : Rw} (h : s.rd w) (hb : Bel w w') : s.rd w' := ⟨h.ts.mono hb, h.vs.mono hb⟩
instance instCelRw : Cel Rw where
  size := 2
  bytes := 48
  cells s := s.cs.toList
  ok w s := s.rd w
  len _ := rfl
  pos := by omega
  mono hb h := h.mono hb
structure RC where
  ts : List (List UInt8)
  vs : List Int
deriving DecidableEq
abbrev Rw.con (r : Rw) : RC := ⟨r.ts.l, r.vs.l⟩
end Go.Proofs.Ytlclllkjnhgbjaa

namespace Go.Proofs.Ytlclllkjnhgbjaa
open Go.RowKit
set_option linter.unusedVariables false
set_option linter.unusedSimpArgs false

end Go.Proofs.Ytlclllkjnhgbjaa

namespace Go.Proofs.Ytlclllkjnhgbjaa
open Go.RowKit
set_option linter.unusedVariables false
set_option linter.unusedSimpArgs false

end Go.Proofs.Ytlclllkjnhgbjaa

namespace Go.Proofs.Ytlclllkjnhgbjaa
open Go.RowKit
set_option linter.unusedVariables false
set_option linter.unusedSimpArgs false

/-- The next thing read from a scan, whatever it stands at. -/
def Nxt {α : Type} (s : List UInt8) (p : List UInt8 → PR α) (t k t' k' : Int) (x : α) : Prop := (k ≠ 0 ∧ t' = t ∧ k' = k) ∨ (k = 0 ∧ ∃ tn : Nat, t = tn ∧ tn ≤ s.length ∧ SRes s (p (s.drop tn)) t' k' x)
theorem LInv.next {α : Type} {s : List UInt8} {o : PR (List α)} {p : List UInt8 → PR α} {n k : Nat} {acc : List α} {t kk t' k' : Int} {x : α} (h : LInv s o p n k acc t kk) (hk : k < n) (hx : Nxt s p t kk t' k' x) : LInv s o p n (k + 1) (acc ++ [x]) t' k' := by
  rcases h with ⟨h1, h2⟩ | ⟨h1, tn, h3, h4, h2⟩
  · rcases hx with ⟨_, rfl, rfl⟩ | ⟨h, _⟩
    · exact .inl ⟨h1, h2⟩
    · exact absurd h h1
  · rcases hx with ⟨h, _⟩ | ⟨_, tm, h5, h6, h7⟩
    · exact absurd h1 h
    · have : tm = tn := by omega
      subst this
      exact LInv.step hk h2 h7
theorem LInv.st {α : Type} {s : List UInt8} {o : PR (List α)} {p : List UInt8 → PR α} {n k : Nat} {acc : List α} {t kk : Int} (h : LInv s o p n k acc t kk) : kk ≠ 0 ∨ (kk = 0 ∧ ∃ tn : Nat, t = tn ∧ tn ≤ s.length) := by
  rcases h with ⟨h1, h2⟩ | ⟨h1, tn, h3, h4, h2⟩
  · exact .inl h1
  · exact .inr ⟨h1, tn, h3, h4⟩
section
variable {P : Program} {w : World}
end

end Go.Proofs.Ytlclllkjnhgbjaa

namespace Go.Proofs.Ytlclllkjnhgbjaa
open Go.RowKit
set_option linter.unusedVariables false

abbrev rListD {α : Type} (r : α → Res) (l : List α) : Res := ⟨fun g => ∃ a, a ∈ l ∧ (r a).D g, fun w => (∀ a ∈ l, (r a).holds w) ∧ l.Pairwise (fun a b => ∀ g, (r a).D g → ¬ (r b).D g)⟩
theorem holds_listD_nil {α : Type} (r : α → Res) (w : World) : (rListD r []).holds w := ⟨fun g ⟨a, ha, _⟩ => (by cases ha), fun w' _ _ => ⟨(fun a ha => by cases ha), List.Pairwise.nil⟩⟩
theorem listD_nil_D {α : Type} {r : α → Res} {P : Nat → Prop} : ∀ g, (rListD r []).D g → P g := fun g ⟨a, ha, _⟩ => by cases ha
section
variable {α : Type} {r : α → Res} {S : Nat → Prop} {w0 w w' : World} {l : List Res}
/-- A piece joins a list. -/
theorem SL.snocD (h : SL S w0 w l) (i j : Nat) {bs : List α} {a : α} (hij : i ≠ j) (hi : l[i]? = some (rListD r bs)) (hj : l[j]? = some (r a)) : SL S w0 w ((l.set i (rListD r (bs ++ [a]))).eraseIdx j) := by
  have h1 := h.get i hi
  have h2 := h.get j hj
  refine h.both i j hij hi hj _ ⟨fun g ⟨u, hu, hg⟩ => ?_, fun w' hs hk => ⟨fun u hu => ?_, ?_⟩⟩ (fun g ⟨u, hu, hg⟩ => ?_)
  · rcases List.mem_append.1 hu with hu | hu
    · exact h1.1 g ⟨u, hu, hg⟩
    · rw [List.mem_singleton] at hu; subst hu; exact h2.1 g hg
  · rcases List.mem_append.1 hu with hu' | hu'
    · exact (h1.now.1 u hu').keep hs fun g hg => hk g ⟨u, hu, hg⟩
    · rw [List.mem_singleton] at hu'; subst hu'; exact h2.keep hs fun g hg => hk g ⟨u, hu, hg⟩
  · rw [List.pairwise_append]
    refine ⟨h1.now.2, List.pairwise_singleton _ _, fun u hu v hv g hg hg' => ?_⟩
    rw [List.mem_singleton] at hv
    subst hv
    exact h.dis i j _ _ hij hi hj g ⟨u, hu, hg⟩ hg'
  · rcases List.mem_append.1 hu with hu | hu
    · exact .inl ⟨u, hu, hg⟩
    · rw [List.mem_singleton] at hu; subst hu; exact .inr hg
/-- The first of a list, on its own. -/
theorem SL.splitD (h : SL S w0 w l) (i : Nat) {a : α} {bs : List α} (hi : l[i]? = some (rListD r (a :: bs))) : SL S w0 w (l.set i (r a) ++ [rListD r bs]) := by
  have hil : i < l.length := (List.getElem?_eq_some_iff.1 hi).1
  have h1 := h.get i hi
  have hD : ∀ g, (r a).D g → (rListD r (a :: bs)).D g := fun g hg => ⟨a, List.mem_cons_self .., hg⟩
  have hD2 : ∀ g, (rListD r bs).D g → (rListD r (a :: bs)).D g := fun g ⟨u, hu, hg⟩ => ⟨u, List.mem_cons_of_mem _ hu, hg⟩
  have hp := h1.now
  have hpw := hp.2
  rw [List.pairwise_cons] at hpw
  refine (h.turn i hi (r a) (hp.1 a (List.mem_cons_self ..)) hD).ext (rListD r bs) ⟨fun g hg => h1.1 g (hD2 g hg), fun w' hs hk => ⟨fun u hu => (hp.1 u (List.mem_cons_of_mem _ hu)).keep hs fun g hg => hk g ⟨u, hu, hg⟩, hpw.2⟩⟩ (fun j q hq g hg hg' => ?_) (fun g hg => h.own i _ hi g (hD2 g hg))
  by_cases e : i = j
  · subst e
    rw [List.getElem?_set_self hil] at hq
    injection hq with hq
    subst hq
    obtain ⟨u, hu, hug⟩ := hg'
    exact hpw.1 u hu g hg hug
  · rw [List.getElem?_set_ne e] at hq
    exact h.dis j i q _ (fun h => e h.symm) hq hi g hg (hD2 g hg')
/-- What a call hands back joins what its caller owns. -/
theorem SL.join {l' : List Res} (h : SL S w0 w l) (h' : SL No w w' l') : SL S w0 w' (l ++ l') := by
  have hb := h.bel h'.to
  have key : ∀ (j : Nat) q, (l ++ l')[j]? = some q → (l[j]? = some q ∧ j < l.length) ∨ (l'[j - l.length]? = some q ∧ l.length ≤ j) := by
    intro j q hq
    rcases Nat.lt_or_ge j l.length with hj | hj
    · rw [List.getElem?_append_left hj] at hq
      exact .inl ⟨hq, hj⟩
    · rw [List.getElem?_append_right hj] at hq
      exact .inr ⟨hq, hj⟩
  have hlt : ∀ (i : Nat) q, l[i]? = some q → ∀ g, q.D g → g < w.heap.size := fun i q hi g hg => (h.all i q hi).1 g hg
  have hge : ∀ (i : Nat) q, l'[i]? = some q → ∀ g, q.D g → w.heap.size ≤ g := fun i q hi g hg => (h'.own i q hi g hg).elim (fun h => h) (fun h => h.elim)
  refine ⟨hb.fr, fun j q hq => ?_, fun j k q q' hjk hq hq' g hg hg' => ?_, fun j q hq g hg => ?_⟩
  · rcases key j q hq with ⟨hq1, _⟩ | ⟨hq1, _⟩
    · exact hb.all j q hq1
    · exact h'.all _ q hq1
  · rcases key j q hq with ⟨hq1, hj⟩ | ⟨hq1, hj⟩
    · rcases key k q' hq' with ⟨hq2, hk⟩ | ⟨hq2, hk⟩
      · exact h.dis j k q q' hjk hq1 hq2 g hg hg'
      · have := hlt j q hq1 g hg
        have := hge _ q' hq2 g hg'
        omega
    · rcases key k q' hq' with ⟨hq2, hk⟩ | ⟨hq2, hk⟩
      · have := hlt k q' hq2 g hg'
        have := hge _ q hq1 g hg
        omega
      · exact h'.dis (j - l.length) (k - l.length) q q' (by omega) hq1 hq2 g hg hg'
  · rcases key j q hq with ⟨hq1, _⟩ | ⟨hq1, _⟩
    · exact h.own j q hq1 g hg
    · exact .inl (Nat.le_trans h.fr.size (hge _ q hq1 g hg))
end
/-- An element of an own row of plain values turned. -/
theorem own_setCell1 {w : World} {base : Nat} {e : TypeId} {g n c : Nat} {xs : List Value} (h : w.ownsRow base e 1 (.slice (some ⟨g, 0, none⟩) n c) n xs) {j : Nat} (hj : j < n) (u : Value) : (w.setCell ⟨g, j, none⟩ u).ownsRow base e 1 (.slice (some ⟨g, 0, none⟩) n c) n (xs.set j u) := by
  refine ⟨by rw [List.length_set]; exact h.1, ?_⟩
  rcases h.2 with ⟨h0, h1⟩ | ⟨g', cap, cur, hv, hb, hh, hn, hm, hs, hx⟩
  · cases h0
  · injection hv with hv1 _ hv2
    injection hv1 with hv1
    injection hv1 with hv1 _ _
    subst hv1 hv2
    refine .inr ⟨g, c, cur.setIfInBounds j u, rfl, hb, Blk.set_ (t := e) (cs := cur) hh j u, hn, hm, by simpa using hs, ?_⟩
    rw [← hx, Array.toList_setIfInBounds, List.take_set]
theorem SL.setElem {S : Nat → Prop} {w0 w : World} {l : List Res} (h : SL S w0 w l) (i : Nat) {e : TypeId} {g n c : Nat} {xs : List Value} (hi : l[i]? = some (rRow e 1 (.slice (some ⟨g, 0, none⟩) n c) n xs)) {j : Nat} (hj : j < n) (u : Value) : SL S w0 (w.setCell ⟨g, j, none⟩ u) (l.set i (rRow e 1 (.slice (some ⟨g, 0, none⟩) n c) n (xs.set j u))) :=
  h.setRow i hi (grownBy_setCell w g j u) (own_setCell1 (h.row i hi) hj u) (.inl rfl)
theorem own_block0 {w : World} {e : TypeId} {size n c : Nat} {A : Option Addr} {xs : List Value} (h : w.ownsRow 0 e size (.slice A n c) n xs) (hn : 0 < n) : ∃ g, A = some ⟨g, 0, none⟩ := by
  rcases h.2 with ⟨h0, h1⟩ | ⟨g', cap, cur, hv, _⟩
  · omega
  · injection hv with hv1 _ _
    exact ⟨g', hv1⟩

end Go.Proofs.Ytlclllkjnhgbjaa
