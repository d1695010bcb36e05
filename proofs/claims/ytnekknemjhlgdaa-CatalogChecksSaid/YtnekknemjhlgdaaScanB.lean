/- The document's scan read from, whatever it stands at: errors and values in one way. -/
import Derived.Test.YtnekknemjhlgdaaBd
import Derived.Test.YtnekknemjhlgdaaSep
namespace Go.Proofs.Ytnekknemjhlgdaa
open Go.RowKit
set_option linter.unusedVariables false
set_option linter.unusedSimpArgs false

theorem SRes.bad {α : Type} {s : List UInt8} {o : PR α} {t k : Int} {x : α} (h : SRes s o t k x) (hk : k ≠ 0) : o = .error k := h.elim (fun h => h.2) (fun h => absurd h.1 hk)
theorem SRes.good {α : Type} {s : List UInt8} {o : PR α} {t : Int} {x : α} (h : SRes s o t 0 x) : ∃ tn : Nat, t = tn ∧ tn ≤ s.length ∧ o = .ok (x, s.drop tn) := h.elim (fun h => absurd rfl h.1) (fun h => h.2)
/-- One thing read behind another one. -/
def pthen {α β : Type} (o : PR α) (f : List UInt8 → PR β) : PR (α × β) := match o with | .error e => .error e | .ok (x, r) => match f r with | .error e => .error e | .ok (y, r2) => .ok ((x, y), r2)
theorem SRes.step {α β : Type} {s : List UInt8} {o : PR α} {f : List UInt8 → PR β} {tn : Nat} {x : α} {y : β} {t k : Int} (h : o = .ok (x, s.drop tn)) (h2 : SRes s (f (s.drop tn)) t k y) : SRes s (pthen o f) t k (x, y) := by
  unfold pthen
  rw [h]
  rcases h2 with ⟨h1, h2⟩ | ⟨h1, m, h3, h4, h2⟩
  · exact .inl ⟨h1, by simp only [h2]⟩
  · exact .inr ⟨h1, m, h3, h4, by simp only [h2]⟩
theorem SRes.skip {α β : Type} {s : List UInt8} {o : PR α} {f : List UInt8 → PR β} {x : α} {y : β} {t k : Int} (hk : k ≠ 0) (h : o = .error k) : SRes s (pthen o f) t k (x, y) := .inl ⟨hk, by unfold pthen; rw [h]⟩

theorem rtext0_any (s : List UInt8) (t0 : Nat) (most : Int) (hs : s.length ≤ 1000001) (ht0 : t0 ≤ s.length) (h0 : 0 ≤ most) (h1 : most ≤ 9223372036854775807) (w : World) :
    Calls Try.prog 154 #[scn s t0 0, .int .i64 most] w fun e w' => ∃ (t k : Int) (x : List UInt8), e = .returned (.tuple #[scn s t k, .string ⟨x.toArray⟩]) ∧ Bel w w' ∧ (x.length : Int) ≤ most ∧ Hid (SRes s (ptxt most (s.drop t0)) t k x) := by
  refine (rtext_any s t0 most hs ht0 (by omega) h1 w).mono ?_
  rintro e w' ⟨hb, hm⟩
  cases ho : ptxt most (s.drop t0) with
  | error k =>
    rw [ho] at hm
    obtain ⟨t, rfl⟩ := hm
    have := ptxt_err ho
    exact ⟨t, k, [], rfl, hb, by simpa using h0, .inl ⟨by omega, rfl⟩⟩
  | ok q =>
    obtain ⟨x, l⟩ := q
    rw [ho] at hm
    obtain ⟨t, ht, hl, rfl⟩ := hm
    exact ⟨t, 0, x, rfl, hb, (ptxt_ok ho).1, .inr ⟨rfl, t, rfl, ht, by rw [hl]⟩⟩
theorem rtextS_any {α : Type} (s : List UInt8) (o : PR α) (t k : Int) (x0 : α) (hS : SRes s o t k x0) (most : Int) (hs : s.length ≤ 1000001) (h0 : 0 ≤ most) (h1 : most ≤ 9223372036854775807) (w : World) :
    Calls Try.prog 154 #[scn s t k, .int .i64 most] w fun e w' => ∃ (t' k' : Int) (x : List UInt8), e = .returned (.tuple #[scn s t' k', .string ⟨x.toArray⟩]) ∧ Bel w w' ∧ (x.length : Int) ≤ most ∧ Hid (SRes s (pthen o (ptxt most)) t' k' (x0, x)) := by
  by_cases hk : k = 0
  · subst hk
    obtain ⟨tn, rfl, htn, ho⟩ := hS.good
    refine (rtext0_any s tn most hs htn h0 h1 w).mono ?_
    rintro e w' ⟨t', k', x, rfl, hb, hx, hR⟩
    exact ⟨t', k', x, rfl, hb, hx, SRes.step ho hR.out⟩
  · refine (rtext_bad s t k most hk w).mono ?_
    rintro e w' ⟨rfl, hb⟩
    exact ⟨t, k, [], rfl, hb, by simpa using h0, SRes.skip hk (hS.bad hk)⟩
theorem rnum00_any (s : List UInt8) (t0 : Nat) (most : Int) (hs : s.length ≤ 1000001) (ht0 : t0 ≤ s.length) (h0 : 0 ≤ most) (h1 : most ≤ 9223372036854775807) (w : World) :
    Calls Try.prog 96 #[scn s t0 0, .int .i64 most] w fun e w' => ∃ (t k : Int) (n : Nat), e = .returned (.tuple #[scn s t k, .int .i64 n]) ∧ Bel w w' ∧ (n : Int) ≤ most ∧ Hid (SRes s (pnum most (s.drop t0)) t k n) := by
  refine (rnum_any s t0 most hs ht0 (by omega) h1 w).mono ?_
  rintro e w' ⟨hb, hm⟩
  cases ho : pnum most (s.drop t0) with
  | error k =>
    rw [ho] at hm
    obtain ⟨t, rfl⟩ := hm
    have := pnum_err ho
    exact ⟨t, k, 0, rfl, hb, by simpa using h0, .inl ⟨by omega, rfl⟩⟩
  | ok q =>
    obtain ⟨x, l⟩ := q
    rw [ho] at hm
    obtain ⟨t, ht, hl, rfl⟩ := hm
    exact ⟨t, 0, x, rfl, hb, (pnum_ok ho).2.1, .inr ⟨rfl, t, rfl, ht, by rw [hl]⟩⟩
theorem rnumS_any {α : Type} (s : List UInt8) (o : PR α) (t k : Int) (x0 : α) (hS : SRes s o t k x0) (most : Int) (hs : s.length ≤ 1000001) (h0 : 0 ≤ most) (h1 : most ≤ 9223372036854775807) (w : World) :
    Calls Try.prog 96 #[scn s t k, .int .i64 most] w fun e w' => ∃ (t' k' : Int) (n : Nat), e = .returned (.tuple #[scn s t' k', .int .i64 n]) ∧ Bel w w' ∧ (n : Int) ≤ most ∧ Hid (SRes s (pthen o (pnum most)) t' k' (x0, n)) := by
  by_cases hk : k = 0
  · subst hk
    obtain ⟨tn, rfl, htn, ho⟩ := hS.good
    refine (rnum00_any s tn most hs htn h0 h1 w).mono ?_
    rintro e w' ⟨t', k', x, rfl, hb, hx, hR⟩
    exact ⟨t', k', x, rfl, hb, hx, SRes.step ho hR.out⟩
  · refine (rnum_bad s t k most hk w).mono ?_
    rintro e w' ⟨rfl, hb⟩
    exact ⟨t, k, 0, rfl, hb, by simpa using h0, SRes.skip hk (hS.bad hk)⟩

/-- A piece that is one only where c. -/
abbrev rIf (c : Prop) (r : Res) : Res := ⟨fun g => c ∧ r.D g, fun w => c → r.p w⟩
theorem holds_if {c : Prop} {r : Res} {w : World} (h : c → r.holds w) : (rIf c r).holds w := ⟨fun g ⟨hc, hg⟩ => (h hc).1 g hg, fun w' hs hk hc => (h hc).2 w' hs fun g hg => hk g ⟨hc, hg⟩⟩
theorem holds_if_of {c : Prop} {r : Res} {w : World} (h : (rIf c r).holds w) (hc : c) : r.holds w := ⟨fun g hg => h.1 g ⟨hc, hg⟩, fun w' hs hk => h.2 w' hs (fun g ⟨_, hg⟩ => hk g hg) hc⟩

end Go.Proofs.Ytnekknemjhlgdaa
