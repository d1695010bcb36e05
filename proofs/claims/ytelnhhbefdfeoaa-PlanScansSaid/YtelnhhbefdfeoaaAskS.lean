/- The document's Take of queries. -/
import Derived.Test.YtelnhhbefdfeoaaBs
import Derived.Test.YtelnhhbefdfeoaaAskT
import Derived.Test.YtelnhhbefdfeoaaAskV
namespace Go.Proofs.Ytelnhhbefdfeoaa
open Go.RowKit
set_option linter.unusedVariables false
set_option linter.unusedSimpArgs false

/-- Readings one behind the other, whatever the scan stands at. -/
theorem Nxt.mono {α : Type} {s : List UInt8} {p : List UInt8 → PR α} {t k t' k' : Int} {x : α} (h : Nxt s p t k t' k' x) (h0 : k' = 0) : k = 0 := by
  rcases h with ⟨h1, _, h2⟩ | ⟨h1, _⟩
  · omega
  · exact h1
theorem Nxt.st {α : Type} {s : List UInt8} {p : List UInt8 → PR α} {t k t' k' : Int} {x : α} (h : Nxt s p t k t' k' x) : k' ≠ 0 ∨ (k' = 0 ∧ ∃ tn : Nat, t' = tn ∧ tn ≤ s.length) := by
  rcases h with ⟨h1, _, h2⟩ | ⟨h1, tn, _, _, h⟩
  · exact .inl (by omega)
  · rcases h with ⟨h, _⟩ | ⟨h, tm, h2, h3, _⟩
    · exact .inl h
    · exact .inr ⟨h, tm, h2, h3⟩
/-- What is read first, and what is read by it. -/
theorem Nxt.bind {α β : Type} {s : List UInt8} {p : List UInt8 → PR α} {q : List UInt8 → PR β} {r : List UInt8 → PR β} {t k t1 k1 t2 k2 : Int} {x : α} {y : β} (h : Nxt s p t k t1 k1 x) (h2 : Nxt s q t1 k1 t2 k2 y)
    (he : ∀ l e, p l = .error e → r l = .error e) (ho : ∀ l l', p l = .ok (x, l') → r l = q l') : Nxt s r t k t2 k2 y := by
  rcases h with ⟨a1, rfl, rfl⟩ | ⟨rfl, tn, rfl, htn, h⟩
  · rcases h2 with ⟨_, rfl, rfl⟩ | ⟨b1, _⟩
    · exact .inl ⟨a1, rfl, rfl⟩
    · exact absurd b1 a1
  · refine .inr ⟨rfl, tn, rfl, htn, ?_⟩
    rcases h with ⟨a1, a2⟩ | ⟨rfl, tm, rfl, htm, a2⟩
    · rcases h2 with ⟨_, rfl, rfl⟩ | ⟨b1, _⟩
      · exact .inl ⟨a1, he _ _ a2⟩
      · exact absurd b1 a1
    · rcases h2 with ⟨b1, _⟩ | ⟨_, tm2, b2, _, h2⟩
      · exact absurd rfl b1
      · obtain rfl : tm2 = tm := by omega
        rw [ho _ _ a2]
        exact h2
/-- A value out of what was read. -/
theorem Nxt.image {α β : Type} {s : List UInt8} {p : List UInt8 → PR α} {r : List UInt8 → PR β} {t k t1 k1 : Int} {x : α} {y : β} (h : Nxt s p t k t1 k1 x) (he : ∀ l e, p l = .error e → r l = .error e) (ho : ∀ l l', p l = .ok (x, l') → r l = .ok (y, l')) : Nxt s r t k t1 k1 y := by
  rcases h with ⟨a1, rfl, rfl⟩ | ⟨rfl, tn, rfl, htn, h⟩
  · exact .inl ⟨a1, rfl, rfl⟩
  · refine .inr ⟨rfl, tn, rfl, htn, ?_⟩
    rcases h with ⟨a1, a2⟩ | ⟨rfl, tm, rfl, htm, a2⟩
    · exact .inl ⟨a1, he _ _ a2⟩
    · exact .inr ⟨rfl, tm, rfl, htm, ho _ _ a2⟩
theorem nxt_A {s : List UInt8} {X : List UInt8 → PR (Int × List UInt8 × List UInt8 × List (List UInt8))} {t k t1 k1 t2 k2 : Int} {f b : Nat} {tt : Int} {lo hi : List UInt8} {set : List (List UInt8)} (h : Nxt s X t k t1 k1 (tt, lo, hi, set)) (h2 : Nxt s (pnum 4) t1 k1 t2 k2 b) :
    Nxt s (fun l => ppA f (X l)) t k t2 k2 ⟨f, tt, lo, hi, set, decide (0 < b), (b : Int) - (if 0 < b then 1 else 0)⟩ :=
  h.bind (h2.image (r := fun l => ppA f (.ok ((tt, lo, hi, set), l))) (fun l e h => by unfold ppA; simp only; rw [h]) (fun l l' h => by unfold ppA; simp only; rw [h]))
    (fun l e h => by unfold ppA; rw [h]) (fun l l' h => by simp only [h])
theorem nxt_B {s : List UInt8} {X : List UInt8 → PR (Int × List UInt8 × List UInt8 × List (List UInt8))} {t k t1 k1 t2 k2 : Int} {f b : Nat} {tt : Int} {lo hi : List UInt8} {set : List (List UInt8)} (h : Nxt s X t k t1 k1 (tt, lo, hi, set)) (h2 : Nxt s (pnum 4) t1 k1 t2 k2 b) (hb : ¬ b = 0) :
    Nxt s (fun l => ppA f (X l)) t k t2 k2 ⟨f, tt, lo, hi, set, true, (b : Int) - 1⟩ := by
  have := nxt_A (f := f) h h2
  rw [if_pos (by omega), decide_eq_true (by omega)] at this
  exact this
theorem nxt_pick {s : List UInt8} {t k t1 k1 t2 k2 : Int} {f : Nat} {pc : PC} (h : Nxt s (pnum 2) t k t1 k1 f) (h2 : Nxt s (fun r => ppA f (if f = 1 then ppW r else if f = 2 then ppS r else .ok ((0, [], [], []), r))) t1 k1 t2 k2 pc) : Nxt s ppick t k t2 k2 pc :=
  h.bind h2 (fun l e h => by unfold ppick; rw [h]) (fun l l' h => by unfold ppick; rw [h])
theorem nxt_0 {s : List UInt8} {t k : Int} (hst : k ≠ 0 ∨ (k = 0 ∧ ∃ tn : Nat, t = tn ∧ tn ≤ s.length)) : Nxt s (fun r => (.ok ((0, [], [], []), r) : PR (Int × List UInt8 × List UInt8 × List (List UInt8)))) t k t k (0, [], [], []) := by
  rcases hst with hk | ⟨rfl, tn, rfl, htn⟩
  · exact .inl ⟨hk, rfl, rfl⟩
  · exact .inr ⟨rfl, tn, rfl, htn, .inr ⟨rfl, tn, rfl, htn, rfl⟩⟩
theorem nxt_W {s : List UInt8} {t k t1 k1 t2 k2 t3 k3 : Int} {tt : Nat} {lo hi : List UInt8} (h : Nxt s (pnum 3) t k t1 k1 tt) (h2 : Nxt s (ptxt 16) t1 k1 t2 k2 lo) (h3 : Nxt s (ptxt 16) t2 k2 t3 k3 hi) : Nxt s ppW t k t3 k3 ((tt : Int), lo, hi, []) :=
  h.bind (q := fun r => (match ptxt 16 r with | .error k => .error k | .ok (lo, r2) => (match ptxt 16 r2 with | .error k => .error k | .ok (hi, r3) => .ok (((tt : Int), lo, hi, []), r3))))
    (h2.bind (q := fun r2 => (match ptxt 16 r2 with | .error k => .error k | .ok (hi, r3) => .ok (((tt : Int), lo, hi, []), r3)))
      (h3.image (fun l e h => by simp only [h]) (fun l l' h => by simp only [h])) (fun l e h => by simp only [h]) (fun l l' h => by simp only [h]))
    (fun l e h => by unfold ppW; rw [h]) (fun l l' h => by unfold ppW; rw [h]; (try rfl))
theorem nxt_S {s : List UInt8} {t k t1 k1 t2 k2 : Int} {tt : Nat} {set : List (List UInt8)} (h : Nxt s (pnum 3) t k t1 k1 tt) (h2 : Nxt s (tread 200) t1 k1 t2 k2 set) : Nxt s ppS t k t2 k2 ((tt : Int), [], [], set) :=
  h.bind (q := fun r => (match tread 200 r with | .error k => .error k | .ok (set, r2) => .ok (((tt : Int), [], [], set), r2)))
    (h2.image (fun l e h => by simp only [h]) (fun l l' h => by simp only [h]))
    (fun l e h => by unfold ppS; rw [h]) (fun l l' h => by unfold ppS; rw [h]; (try rfl))
theorem Nxt.set_ok {s : List UInt8} {t k t1 k1 : Int} {set : List (List UInt8)} (h : Nxt s (tread 200) t k t1 k1 set) (h0 : k1 = 0) : set.length ≤ 200 ∧ ∀ x ∈ set, x.length ≤ 16 := by
  rcases h with ⟨h1, _, h2⟩ | ⟨h1, tn, _, _, h⟩
  · omega
  · rcases h with ⟨h, _⟩ | ⟨h, tm, h2, h3, h4⟩
    · exact absurd h0 h
    · exact ⟨by have := tread_len h4; omega, fun x hx => rowErr_len (tread_back h4).1 hx⟩

end Go.Proofs.Ytelnhhbefdfeoaa
