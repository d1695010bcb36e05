/- Texts laid together: XDimP XDimW XSepT XDimR XDimQ XDimU XDimV XDimX XDimZ XDimA XDimT XScanB XDimS XTierChecksW XDimY XDimChecksW. -/
import Derived.Test.YtlclllkjnhgbjaaBe
import Derived.Test.YtlclllkjnhgbjaaSep
import Derived.Test.YtlclllkjnhgbjaaBf
import Derived.Test.YtlclllkjnhgbjaaBd

namespace Go.Proofs.Ytlclllkjnhgbjaa
open Go.RowKit
set_option linter.unusedVariables false
set_option linter.unusedSimpArgs false

/-- What a dimension says. -/
structure DC where
  nm : List UInt8
  trs : List TC
deriving DecidableEq
/-- How many members the lowest of some tiers has. -/
def aboveOf : List TC → Int
  | [] => 0
  | t :: _ => t.ts.length
def dimFrom : List (List UInt8) → List TC → Int
  | _, [] => 0
  | seen, t :: r => if tierErr t (aboveOf r) ≠ 0 then tierErr t (aboveOf r) else if t.nm ∈ seen then 11 else dimFrom (seen ++ [t.nm]) r
def dimErr (d : DC) : Int := if isName d.nm then (if d.trs.length < 1 ∨ 4 < d.trs.length then 5 else dimFrom [] d.trs) else 2
/-- So many tiers more, each below those that are there. -/
def pdims : Nat → List TC → List UInt8 → PR (List TC)
  | 0, acc, l => .ok (acc, l)
  | n + 1, acc, l =>
    match ptier (aboveOf acc) l with
    | .error k => .error k
    | .ok (t, r) => pdims n (t :: acc) r
def pdimC (d : DC) (r : List UInt8) : PR DC := if dimErr d = 0 then .ok (d, r) else .error (dimErr d)
def pdim (l : List UInt8) : PR DC :=
  match ptxt 12 l with
  | .error k => .error k
  | .ok (nm, r) =>
    match pnum 4 r with
    | .error k => .error k
    | .ok (n, r) =>
      match pdims n [] r with
      | .error k => .error k
      | .ok (trs, r) => pdimC ⟨nm, trs⟩ r

def AllOk : List TC → Prop
  | [] => True
  | t :: r => tierErr t (aboveOf r) = 0 ∧ AllOk r
end Go.Proofs.Ytlclllkjnhgbjaa

namespace Go.Proofs.Ytlclllkjnhgbjaa
open Go.RowKit
set_option linter.unusedVariables false
set_option linter.unusedSimpArgs false

abbrev Dm.con (d : Dm) : DC := ⟨d.nm, d.tr.l.map Tir.con⟩

end Go.Proofs.Ytlclllkjnhgbjaa

namespace Go.Proofs.Ytlclllkjnhgbjaa
open Go.RowKit
set_option linter.unusedVariables false

/-- Where a tier's rows lie. -/
def Tir.D (T : Tir) (g : Nat) : Prop := T.ts.v.ownBlock = some g ∨ T.up.v.ownBlock = some g
def Dm.D (d : Dm) (g : Nat) : Prop := d.tr.v.ownBlock = some g ∨ ∃ T, T ∈ d.tr.l ∧ T.D g
abbrev Dm.nil : Dm := ⟨[], ⟨none, 0, 0, []⟩⟩
abbrev DC.nil : DC := ⟨[], []⟩
/-- Of new memory. -/
def NewR (w w' : World) (r : Res) : Prop := r.holds w' ∧ ∀ g, r.D g → w.heap.size ≤ g

end Go.Proofs.Ytlclllkjnhgbjaa

namespace Go.Proofs.Ytlclllkjnhgbjaa
open Go.RowKit
set_option linter.unusedVariables false
set_option linter.unusedSimpArgs false

theorem own_made (w : World) (t : TypeId) (cs : Array Value) (size : Nat) (hs : cs.size = size) : (w.alloc (.cells cs t)).ownsRow w.heap.size t size (.slice (some ⟨w.heap.size, 0, none⟩) 1 1) 1 cs.toList :=
  ⟨by simp [hs], .inr ⟨w.heap.size, 1, cs, rfl, Nat.le_refl _, heap_alloc_new w _, Nat.le_refl _, by unfold maxLen; omega, by omega, by rw [List.take_of_length_le (by simp [hs])]⟩⟩
end Go.Proofs.Ytlclllkjnhgbjaa

namespace Go.Proofs.Ytlclllkjnhgbjaa
open Go.RowKit
set_option linter.unusedVariables false
set_option linter.unusedSimpArgs false

theorem treeOk_pos {up : List Int} {n : Nat} {above : Int} (h : treeOk up n above = true) (ha : 0 < above) :
    up.length = n ∧ (∀ z ∈ up, 0 ≤ z ∧ z < above) ∧ ∀ i : Nat, (i : Int) < above → (i : Int) ∈ up := by
  unfold treeOk at h
  rw [if_neg (by omega)] at h
  simp only [Bool.and_eq_true, decide_eq_true_eq, List.all_eq_true, List.mem_range, List.contains_iff_mem] at h
  exact ⟨h.1.1, h.1.2, fun i hi => h.2 i (by omega)⟩
theorem AllOk.size {t : TC} {r : List TC} (h : AllOk (t :: r)) : 1 ≤ t.ts.length := (tierErr_zero h.1).2.1
theorem AllOk.step {t u : TC} {r : List TC} (h : AllOk (t :: u :: r)) : t.up.length = t.ts.length ∧ (∀ z ∈ t.up, 0 ≤ z ∧ z < u.ts.length) ∧ ∀ i : Nat, i < u.ts.length → (i : Int) ∈ t.up := by
  have h1 := (tierErr_zero h.1).2.2.2.2
  have h2 := AllOk.size h.2
  simp only [aboveOf] at h1
  obtain ⟨a, b, c⟩ := treeOk_pos h1 (by omega)
  exact ⟨a, b, fun i hi => c i (by omega)⟩
end Go.Proofs.Ytlclllkjnhgbjaa

namespace Go.Proofs.Ytlclllkjnhgbjaa
open Go.RowKit
set_option linter.unusedVariables false
set_option linter.unusedSimpArgs false

end Go.Proofs.Ytlclllkjnhgbjaa

namespace Go.Proofs.Ytlclllkjnhgbjaa
open Go.RowKit
set_option linter.unusedVariables false
set_option linter.unusedSimpArgs false

theorem take_snoc_get {α : Type} {l : List α} {k : Nat} {x : α} (h : l[k]? = some x) : l.take (k + 1) = l.take k ++ [x] := by
  obtain ⟨hk, rfl⟩ := List.getElem?_eq_some_iff.1 h
  exact List.take_succ_eq_append_getElem hk

end Go.Proofs.Ytlclllkjnhgbjaa

namespace Go.Proofs.Ytlclllkjnhgbjaa
open Go.RowKit
set_option linter.unusedVariables false
set_option linter.unusedSimpArgs false

end Go.Proofs.Ytlclllkjnhgbjaa

namespace Go.Proofs.Ytlclllkjnhgbjaa
open Go.RowKit
set_option linter.unusedVariables false
set_option linter.unusedSimpArgs false

end Go.Proofs.Ytlclllkjnhgbjaa

namespace Go.Proofs.Ytlclllkjnhgbjaa
open Go.RowKit
set_option linter.unusedVariables false
set_option linter.unusedSimpArgs false

end Go.Proofs.Ytlclllkjnhgbjaa

namespace Go.Proofs.Ytlclllkjnhgbjaa
open Go.RowKit
set_option linter.unusedVariables false
set_option linter.unusedSimpArgs false

end Go.Proofs.Ytlclllkjnhgbjaa

namespace Go.Proofs.Ytlclllkjnhgbjaa
open Go.RowKit
set_option linter.unusedVariables false
set_option linter.unusedSimpArgs false

theorem SRes.bad {α : Type} {s : List UInt8} {o : PR α} {t k : Int} {x : α} (h : SRes s o t k x) (hk : k ≠ 0) : o = .error k := h.elim (fun h => h.2) (fun h => absurd h.1 hk)
theorem SRes.good {α : Type} {s : List UInt8} {o : PR α} {t : Int} {x : α} (h : SRes s o t 0 x) : ∃ tn : Nat, t = tn ∧ tn ≤ s.length ∧ o = .ok (x, s.drop tn) := h.elim (fun h => absurd rfl h.1) (fun h => h.2)
/-- One thing read behind another one. -/
def pthen {α β : Type} (o : PR α) (f : List UInt8 → PR β) : PR (α × β) := match o with | .error e => .error e | .ok (x, r) => match f r with | .error e => .error e | .ok (y, r2) => .ok ((x, y), r2)
theorem SRes.step {α β : Type} {s : List UInt8} {o : PR α} {f : List UInt8 → PR β} {tn : Nat} {x : α} {y : β} {t k : Int} (h : o = .ok (x, s.drop tn)) (h2 : SRes s (f (s.drop tn)) t k y) : SRes s (pthen o f) t k (x, y) := by
  unfold pthen
  rw [h]
  rcases h2 with ⟨h1, h2⟩ | ⟨h1, m, h3, h4, h2⟩
  · exact .inl ⟨h1, by simp only [h2]⟩
  · exact .inr ⟨h1, m, h3, h4, by simp only [h2]⟩
theorem SRes.skip {α β : Type} {s : List UInt8} {o : PR α} {f : List UInt8 → PR β} {x : α} {y : β} {t k : Int} (hk : k ≠ 0) (h : o = .error k) : SRes s (pthen o f) t k (x, y) := .inl ⟨hk, by unfold pthen; rw [h]⟩

end Go.Proofs.Ytlclllkjnhgbjaa

namespace Go.Proofs.Ytlclllkjnhgbjaa
open Go.RowKit
set_option linter.unusedVariables false
set_option linter.unusedSimpArgs false

/-- Dimensions read, and what becomes of them. -/
def pdimT (nm : List UInt8) (o : PR (List TC)) : PR DC := match o with | .error k => .error k | .ok (trs, r) => pdimC ⟨nm, trs⟩ r
theorem pdim_then (l : List UInt8) : pdim l = match pthen (ptxt 12 l) (pnum 4) with | .error k => .error k | .ok ((nm, n), r) => pdimT nm (pdims n [] r) := by
  unfold pdim pthen pdimT
  cases ptxt 12 l with
  | error k => rfl
  | ok q =>
    obtain ⟨nm, r⟩ := q
    dsimp only
    cases pnum 4 r with
    | error k => rfl
    | ok q => rfl
/-- Where the document's Read stands. -/
def DInv (s l0 nm : List UInt8) (n k : Nat) (acc : List TC) (t kk : Int) : Prop :=
  (kk ≠ 0 ∧ pdim l0 = .error kk) ∨ (kk = 0 ∧ ∃ tn : Nat, t = tn ∧ tn ≤ s.length ∧ pdim l0 = pdimT nm (pdims (n - k) acc (s.drop tn)))
theorem DInv.start {s l0 nm : List UInt8} {n : Nat} {t k : Int} (h : SRes s (pthen (ptxt 12 l0) (pnum 4)) t k (nm, n)) : DInv s l0 nm n 0 [] t k := by
  rcases h with ⟨h1, h2⟩ | ⟨h1, tn, h3, h4, h2⟩
  · exact .inl ⟨h1, by rw [pdim_then, h2]⟩
  · exact .inr ⟨h1, tn, h3, h4, by rw [pdim_then, h2]; rfl⟩
theorem DInv.bad {s l0 nm : List UInt8} {n k : Nat} {acc : List TC} {t kk : Int} (h : DInv s l0 nm n k acc t kk) (hk : kk ≠ 0) : pdim l0 = .error kk := h.elim (fun h => h.2) (fun h => absurd h.1 hk)
theorem DInv.good {s l0 nm : List UInt8} {n k : Nat} {acc : List TC} {t : Int} (h : DInv s l0 nm n k acc t 0) : ∃ tn : Nat, t = tn ∧ tn ≤ s.length ∧ pdim l0 = pdimT nm (pdims (n - k) acc (s.drop tn)) := h.elim (fun h => absurd rfl h.1) (fun h => h.2)
theorem DInv.step {s l0 nm : List UInt8} {n k tn : Nat} {acc : List TC} {tc : TC} {t kk : Int} (hk : k < n) (h : pdim l0 = pdimT nm (pdims (n - k) acc (s.drop tn))) (h2 : SRes s (ptier (aboveOf acc) (s.drop tn)) t kk tc) : DInv s l0 nm n (k + 1) (tc :: acc) t kk := by
  rw [show n - k = (n - (k + 1)) + 1 by omega, pdims] at h
  rcases h2 with ⟨h1, h2⟩ | ⟨h1, m, h3, h4, h2⟩
  · exact .inl ⟨h1, by rw [h, h2]; rfl⟩
  · exact .inr ⟨h1, m, h3, h4, by rw [h, h2]⟩
end Go.Proofs.Ytlclllkjnhgbjaa

namespace Go.Proofs.Ytlclllkjnhgbjaa
open Go.RowKit
set_option linter.unusedVariables false
set_option linter.unusedSimpArgs false

end Go.Proofs.Ytlclllkjnhgbjaa

namespace Go.Proofs.Ytlclllkjnhgbjaa
open Go.RowKit
set_option linter.unusedVariables false
set_option linter.unusedSimpArgs false

end Go.Proofs.Ytlclllkjnhgbjaa

namespace Go.Proofs.Ytlclllkjnhgbjaa
open Go.RowKit
set_option linter.unusedVariables false
set_option linter.unusedSimpArgs false

end Go.Proofs.Ytlclllkjnhgbjaa
