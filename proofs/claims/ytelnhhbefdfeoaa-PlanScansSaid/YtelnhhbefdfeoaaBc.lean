/- Texts laid together: XTakeA XTakeB XTakeC XTakeD XTermW XTermR XTermP XTakeE XTakeF. -/
import Derived.Test.YtelnhhbefdfeoaaBa
import Derived.Deep.DeepCutAuto
import Derived.Defers
import Derived.Recover
import Derived.Test.YtelnhhbefdfeoaaBb
import Derived.OpenShut

namespace Go.Proofs.Ytelnhhbefdfeoaa
open Go.RowKit
set_option linter.unusedVariables false

/-- What is read of bytes: a value and the bytes that are left, or an error's number. -/
abbrev PR (α : Type) := Except Int (α × List UInt8)
def pnumber (l : List UInt8) : PR Nat := if (ntake l).2.2 then .ok ((ntake l).1, l.drop (ntake l).2.1) else .error 3
def pnum (most : Int) (l : List UInt8) : PR Nat :=
  match pnumber l with
  | .error k => .error k
  | .ok (n, r) => if most < 0 ∨ most < n then .error 5 else .ok (n, r)
def pint (l : List UInt8) : PR Int :=
  match pnumber l with
  | .error k => .error k
  | .ok (n, r) => .ok (nunfold n, r)
def pfix (n : Int) (l : List UInt8) : PR (List UInt8) := if n < 0 ∨ (l.length : Int) < n then .error 3 else .ok (l.take n.toNat, l.drop n.toNat)
def pbyte : List UInt8 → PR UInt8
  | [] => .error 3
  | c :: r => .ok (c, r)
def ptxt (most : Int) (l : List UInt8) : PR (List UInt8) :=
  match pnum most l with
  | .error k => .error k
  | .ok (n, r) => pfix n r
def wantErr (k : Int) : Int := if k = 0 then 3 else k
def pwant (is : Bool) (k : Int) (l : List UInt8) : PR Unit := if is then .ok ((), l) else .error (wantErr k)

theorem grownBy_setCell (w : World) (b o : Nat) (v : Value) : w.grownBy (w.setCell ⟨b, o, none⟩ v) (some b) :=
  ⟨rfl, rfl, rfl, by simp, fun j _ hj => Below.heap_setCell _ _ _ j (fun e => hj (by rw [e]))⟩

end Go.Proofs.Ytelnhhbefdfeoaa

namespace Go.Proofs.Ytelnhhbefdfeoaa
open Go.RowKit
set_option linter.unusedVariables false

theorem pnum_cases {most : Int} {l : List UInt8} : (pnum most l = .error 3 ∧ (ntake l).2.2 = false) ∨ (∃ n z, ntake l = (n, z, true) ∧ z ≤ l.length ∧ n < 18446744073709551616 ∧ ((pnum most l = .error 5 ∧ (most < 0 ∨ most < n)) ∨ (pnum most l = .ok (n, l.drop z) ∧ 0 ≤ most ∧ (n : Int) ≤ most))) := by
  have h1 := ntake_size l
  have h2 := ntake_lt l
  unfold pnum pnumber
  rcases h : ntake l with ⟨n, z, ok⟩
  rw [h] at h1 h2
  cases ok with
  | false => left; simp
  | true =>
    right
    refine ⟨n, z, rfl, h1.1, h2, ?_⟩
    by_cases hm : most < 0 ∨ most < n
    · left; simp [hm]
    · right; simp [hm]; omega
theorem pnumber_cases {l : List UInt8} : (pnumber l = .error 3 ∧ (ntake l).2.2 = false) ∨ (∃ n z, ntake l = (n, z, true) ∧ z ≤ l.length ∧ n < 18446744073709551616 ∧ pnumber l = .ok (n, l.drop z)) := by
  have h1 := ntake_size l
  have h2 := ntake_lt l
  unfold pnumber
  rcases h : ntake l with ⟨n, z, ok⟩
  rw [h] at h1 h2
  cases ok with
  | false => left; simp
  | true => exact .inr ⟨n, z, rfl, h1.1, h2, by simp⟩

theorem nunfold_in {n : Nat} (h : n < 18446744073709551616) : -9223372036854775808 ≤ nunfold n ∧ nunfold n ≤ 9223372036854775807 := by
  unfold nunfold
  split <;> omega

theorem pfix_zero (l : List UInt8) : pfix 0 l = .ok ([], l) := by unfold pfix; rw [if_neg (by omega)]; rfl
theorem pfix_ok {n : Int} {l x r : List UInt8} (h : pfix n l = .ok (x, r)) : 0 ≤ n ∧ n ≤ l.length ∧ x = l.take n.toNat ∧ r = l.drop n.toNat := by
  unfold pfix at h
  split at h
  · cases h
  · injection h with h
    injection h with h1 h2
    exact ⟨by omega, by omega, h1.symm, h2.symm⟩
theorem pfix_err {n k : Int} {l : List UInt8} (h : pfix n l = .error k) : k = 3 ∧ (n < 0 ∨ (l.length : Int) < n) := by
  unfold pfix at h
  split at h
  · injection h with h; exact ⟨h.symm, by omega⟩
  · cases h

end Go.Proofs.Ytelnhhbefdfeoaa

namespace Go.Proofs.Ytelnhhbefdfeoaa
open Go.RowKit
set_option linter.unusedVariables false

/-- All but the two blocks of a reading (its answer's, and its reader's) is as it was; there may be more. -/
structure But2 (B : Nat) (w w' : World) : Prop where
  os : w'.os = w.os
  tape : w'.tape = w.tape
  output : w'.output = w.output
  size : w.heap.size ≤ w'.heap.size
  block : ∀ g, g < w.heap.size → g ≠ B → g ≠ B + 1 → w'.heap[g]? = w.heap[g]?

theorem But2.alloc {B : Nat} {w w' : World} (h : But2 B w w') (o : Obj) : But2 B w (w'.alloc o) :=
  ⟨h.os, h.tape, h.output, by have := h.size; simp; omega, fun g hg h1 h2 => (Below.heap_alloc w' o g (Nat.lt_of_lt_of_le hg h.size)).trans (h.block g hg h1 h2)⟩
theorem But2.set_ {B : Nat} {w w' : World} (h : But2 B w w') (g o : Nat) (hg : g = B ∨ g = B + 1) (v : Value) : But2 B w (w'.setCell ⟨g, o, none⟩ v) :=
  ⟨h.os, h.tape, h.output, by have := h.size; simp; omega, fun g' hg' h1 h2 => (Below.heap_setCell w' ⟨g, o, none⟩ v g' (by simp; omega)).trans (h.block g' hg' h1 h2)⟩
theorem But2.refl (B : Nat) (w : World) : But2 B w w := ⟨rfl, rfl, rfl, Nat.le_refl _, fun _ _ _ _ => rfl⟩
theorem But2.trans {B : Nat} {a b c : World} (h : But2 B a b) (k : But2 B b c) : But2 B a c :=
  ⟨k.os.trans h.os, k.tape.trans h.tape, k.output.trans h.output, Nat.le_trans h.size k.size, fun g hg h1 h2 => (k.block g (Nat.lt_of_lt_of_le hg h.size) h1 h2).trans (h.block g hg h1 h2)⟩
theorem But2.of_bel {B : Nat} {w w' : World} (h : Bel w w') : But2 B w w' := ⟨h.os, h.tape, h.output, h.size, fun g hg _ _ => h.block g hg⟩
/-- What the reading answers, and what is said of the world. -/
def AllSaid (B : Nat) (R : Int → World → Prop) (e : Ending) (w'' : World) : Prop := ∃ k w', e = .returned (.int .i64 k) ∧ R k w' ∧ But2 B w' w'' ∧ w''.cell? ⟨B + 1, 2, none⟩ = some (.bool false)

end Go.Proofs.Ytelnhhbefdfeoaa

namespace Go.Proofs.Ytelnhhbefdfeoaa
open Go.RowKit
set_option linter.unusedVariables false

/-- The document's scan: bytes, how many were read, and the number of the first error. -/
abbrev scn (s : List UInt8) (t k : Int) : Value := .agg #[.string ⟨s.toArray⟩, .int .i64 t, .int .i64 k]
abbrev scs (s : List UInt8) (t k : Int) : Array Value := #[.string ⟨s.toArray⟩, .int .i64 t, .int .i64 k]

theorem Blk.three {w : World} {g : Nat} {t : TypeId} {a b c : Value} (h : Blk w g t #[a, b, c]) : w.cell? ⟨g, 0, none⟩ = some a ∧ w.cell? ⟨g, 1, none⟩ = some b ∧ w.cell? ⟨g, 2, none⟩ = some c ∧ w.frozen? ⟨g, 0, none⟩ = false ∧ w.frozen? ⟨g, 1, none⟩ = false ∧ w.frozen? ⟨g, 2, none⟩ = false :=
  ⟨h.cell 0, h.cell 1, h.cell 2, h.frozen 0, h.frozen 1, h.frozen 2⟩

theorem scs_one (s : List UInt8) (t k : Int) : (scs s t k).all (·.oneCell') = true := by simp [Value.oneCell']
theorem pnum_ok {most : Int} {l r : List UInt8} {n : Nat} (h : pnum most l = .ok (n, r)) : 0 ≤ most ∧ (n : Int) ≤ most ∧ r.length ≤ l.length := by
  rcases pnum_cases (most := most) (l := l) with ⟨e, _⟩ | ⟨n', z, _, hz, _, ⟨e, _⟩ | ⟨e, h2, h3⟩⟩
  · rw [h] at e; cases e
  · rw [h] at e; cases e
  · rw [h] at e
    injection e with e
    injection e with e1 e2
    subst e1
    subst e2
    exact ⟨h2, h3, by rw [List.length_drop]; omega⟩
theorem pnum_err {most k : Int} {l : List UInt8} (h : pnum most l = .error k) : k = 3 ∨ k = 5 := by
  rcases pnum_cases (most := most) (l := l) with ⟨e, _⟩ | ⟨n', z, _, hz, _, ⟨e, _⟩ | ⟨e, h2, h3⟩⟩
  · rw [h] at e; injection e with e; exact .inl e
  · rw [h] at e; injection e with e; exact .inr e
  · rw [h] at e; cases e
/-- The document's reading: the value and what is left, or an error. -/
def SPost {α : Type} (s : List UInt8) (o : PR α) (V : α → Value) (z : Value) (w : World) (e : Ending) (w' : World) : Prop :=
  Bel w w' ∧ match o with
    | .error k => ∃ t : Int, e = .returned (.tuple #[scn s t k, z])
    | .ok (x, l) => ∃ t : Nat, t ≤ s.length ∧ l = s.drop t ∧ e = .returned (.tuple #[scn s t 0, V x])

end Go.Proofs.Ytelnhhbefdfeoaa

namespace Go.Proofs.Ytelnhhbefdfeoaa
open Go.RowKit
set_option linter.unusedVariables false
attribute [local go_sem] str_at

/-- May a text be a member? -/
def isTerm (l : List UInt8) : Bool := decide (1 ≤ l.length ∧ l.length ≤ 16)
/-- The error of a text that may not be a member. -/
def errOf (b : Bool) : Int := if b then 0 else 2
/-- May a sign stand in a name? -/
def isSign (c : Nat) : Bool := (decide (97 ≤ c) && decide (c ≤ 122)) || (decide (48 ≤ c) && decide (c ≤ 57)) || c == 95
/-- May a text be a name? -/
def isName (l : List UInt8) : Bool := decide (1 ≤ l.length ∧ l.length ≤ 12) && l.all fun c => isSign c.toNat

theorem empty_iff (l : List UInt8) : l.isEmpty = decide (l.length = 0) := by cases l <;> simp

set_option maxRecDepth 100000 in
set_option maxHeartbeats 1000000 in
theorem check_any (l : List UInt8) (w : World) (hl : l.length ≤ 9223372036854775807) :
    Calls Try.prog 113 #[.string ⟨l.toArray⟩] w fun e w' => e = .returned (.int .i64 (errOf (isTerm l))) ∧ w = w' := by
  cases l with
  | nil =>
    go_enter Try.func113, Try.ntmps113
    go_wp2
    go_ret
    exact ⟨rfl, rfl⟩
  | cons c r =>
    simp only [List.length_cons] at hl
    by_cases h : 16 < r.length + 1
    · have HI : Hid (isTerm (c :: r) = false) := by show _ = _; unfold isTerm; simp; omega
      go_enter Try.func113, Try.ntmps113
      go_wp2
      go_ret
      rw [HI.out]
      exact ⟨rfl, rfl⟩
    · have HI : Hid (isTerm (c :: r) = true) := by show _ = _; unfold isTerm; simp; omega
      go_enter Try.func113, Try.ntmps113
      go_wp2
      go_ret
      rw [HI.out]
      exact ⟨rfl, rfl⟩

set_option maxRecDepth 100000 in
set_option maxHeartbeats 1000000 in
theorem is_any (l : List UInt8) (w : World) (hl : l.length ≤ 9223372036854775807) :
    Calls Try.prog 96 #[.string ⟨l.toArray⟩] w fun e w' => e = .returned (.bool (isTerm l)) ∧ w = w' := by
  by_cases h1 : 1 ≤ l.length
  · by_cases h2 : l.length ≤ 16
    · have d1 : decide ((l.length : Int) ≤ 16) = true := by simp; omega
      have HI : Hid (isTerm l = true) := by show _ = _; unfold isTerm; simp; omega
      go_enter Try.func96, Try.ntmps96
      go_wp2
      go_ret
      rw [HI.out]
      exact ⟨rfl, rfl⟩
    · have d1 : decide ((l.length : Int) ≤ 16) = false := by simp; omega
      have HI : Hid (isTerm l = false) := by show _ = _; unfold isTerm; simp; omega
      go_enter Try.func96, Try.ntmps96
      go_wp2
      go_ret
      rw [HI.out]
      exact ⟨rfl, rfl⟩
  · have HI : Hid (isTerm l = false) := by show _ = _; unfold isTerm; simp; omega
    go_enter Try.func96, Try.ntmps96
    go_wp2
    go_ret
    rw [HI.out]
    exact ⟨rfl, rfl⟩

theorem sign_letter {c : Nat} (h1 : 97 ≤ c) (h2 : c ≤ 122) : isSign c = true := by simp [isSign, h1, h2]
theorem sign_digit {c : Nat} (h1 : 48 ≤ c) (h2 : c ≤ 57) : isSign c = true := by simp [isSign, h1, h2]
theorem sign_line {c : Nat} (h : c = 95) : isSign c = true := by simp [isSign, h]
theorem sign_none {c : Nat} (h1 : c < 97 ∨ 122 < c) (h2 : c < 48 ∨ 57 < c) (h3 : ¬ c = 95) : isSign c = false := by
  simp [isSign, h3]
  omega

theorem all_snoc_sign (l : List UInt8) (k : Nat) (h : k < l.length) : ((l.take (k + 1)).all fun c => isSign c.toNat) = (((l.take k).all fun c => isSign c.toNat) && isSign l[k].toNat) := by
  rw [List.take_succ_eq_append_getElem h, List.all_append]
  simp
theorem all_take_false {l : List UInt8} {k : Nat} (h : ((l.take k).all fun c => isSign c.toNat) = false) : (l.all fun c => isSign c.toNat) = false := by
  rw [← List.take_append_drop k l, List.all_append, h]
  rfl

set_option maxRecDepth 100000 in
set_option maxHeartbeats 1000000 in
theorem name_any (l : List UInt8) (w : World) (hl : l.length ≤ 9223372036854775807) :
    Calls Try.prog 102 #[.string ⟨l.toArray⟩] w fun e w' => e = .returned (.int .i64 (errOf (isName l))) ∧ w = w' := by
  cases hl0 : l with
  | nil =>
    subst hl0
    go_enter Try.func102, Try.ntmps102
    go_wp2
    go_ret
    exact ⟨rfl, rfl⟩
  | cons c0 r0 =>
    have hp : 1 ≤ l.length := by rw [hl0]; simp
    have he : l.isEmpty = false := by rw [hl0]; rfl
    rw [← hl0]
    clear hl0
    by_cases h : 12 < l.length
    · have HI : Hid (isName l = false) := by show _ = _; unfold isName; simp; omega
      go_enter Try.func102, Try.ntmps102
      go_wp2
      go_ret
      rw [HI.out]
      exact ⟨rfl, rfl⟩
    · have dl : decide (12 < (l.length : Int)) = false := by simp; omega
      go_enter Try.func102, Try.ntmps102
      go_wp2
      go_loopg [14] l.length (fun g i wr => ∃ k : Nat, g = l.length - k ∧ k ≤ l.length ∧ i = .int .i64 k ∧ wr = w ∧ Hid (((l.take k).all fun c => isSign c.toNat) = true))
      case atStart => exact ⟨0, rfl, by omega, rfl, rfl, by show _ = _; simp⟩
      case round =>
        obtain ⟨k, hgk, hk, rfl, rfl, hF⟩ := hrel
        have Hgk := Lib.hid hgk
        clear hgk
        by_cases hlt : k < l.length
        · have hb := l[k].toNat_lt
          have Hs := Lib.hid (all_snoc_sign l k hlt)
          by_cases a1 : 97 ≤ l[k].toNat
          · by_cases a2 : l[k].toNat ≤ 122
            · have HG : Hid (isSign l[k].toNat = true) := sign_letter a1 a2
              go_wp2
              go_roundg (l.length - (k + 1))
              case rel => exact ⟨k + 1, rfl, by omega, by go_num, rfl, by show _ = _; rw [Hs.out, hF.out, HG.out]; rfl⟩
              case measure => rw [Hgk.out]; omega
            · have HG : Hid (isSign l[k].toNat = false) := sign_none (by omega) (by omega) (by omega)
              have q : ((l[k].toNat : Int) == 95) = false := by simp; omega
              have HI : Hid (isName l = false) := by show _ = _; unfold isName; rw [all_take_false (k := k + 1) (by rw [Hs.out, HG.out]; simp)]; simp
              go_wp2
              go_ret
              rw [HI.out]
              exact ⟨rfl, rfl⟩
          · by_cases a2 : 48 ≤ l[k].toNat
            · by_cases a3 : l[k].toNat ≤ 57
              · have HG : Hid (isSign l[k].toNat = true) := sign_digit a2 a3
                go_wp2
                go_roundg (l.length - (k + 1))
                case rel => exact ⟨k + 1, rfl, by omega, by go_num, rfl, by show _ = _; rw [Hs.out, hF.out, HG.out]; rfl⟩
                case measure => rw [Hgk.out]; omega
              · by_cases a4 : l[k].toNat = 95
                · have HG : Hid (isSign l[k].toNat = true) := sign_line a4
                  have q : ((l[k].toNat : Int) == 95) = true := by simp; omega
                  clear a4
                  go_wp2
                  go_roundg (l.length - (k + 1))
                  case rel => exact ⟨k + 1, rfl, by omega, by go_num, rfl, by show _ = _; rw [Hs.out, hF.out, HG.out]; rfl⟩
                  case measure => rw [Hgk.out]; omega
                · have HG : Hid (isSign l[k].toNat = false) := sign_none (by omega) (by omega) a4
                  have q : ((l[k].toNat : Int) == 95) = false := by simp; omega
                  clear a4
                  have HI : Hid (isName l = false) := by show _ = _; unfold isName; rw [all_take_false (k := k + 1) (by rw [Hs.out, HG.out]; simp)]; simp
                  go_wp2
                  go_ret
                  rw [HI.out]
                  exact ⟨rfl, rfl⟩
            · have HG : Hid (isSign l[k].toNat = false) := sign_none (by omega) (by omega) (by omega)
              have q : ((l[k].toNat : Int) == 95) = false := by simp; omega
              have HI : Hid (isName l = false) := by show _ = _; unfold isName; rw [all_take_false (k := k + 1) (by rw [Hs.out, HG.out]; simp)]; simp
              go_wp2
              go_ret
              rw [HI.out]
              exact ⟨rfl, rfl⟩
        · have HI : Hid (isName l = true) := by
            show _ = _
            have := hF.out
            rw [List.take_of_length_le (by omega)] at this
            unfold isName
            rw [this]
            simp
            omega
          clear hF
          go_wp2
          go_ret
          rw [HI.out]
          exact ⟨rfl, rfl⟩

set_option maxRecDepth 100000 in
set_option maxHeartbeats 1000000 in
theorem rname_any (l : List UInt8) (w : World) (hl : l.length ≤ 9223372036854775807) :
    Calls Try.prog 55 #[.string ⟨l.toArray⟩] w fun e w' => e = .returned (.bool (isName l)) ∧ w = w' := by
  cases hl0 : l with
  | nil =>
    subst hl0
    go_enter Try.func55, Try.ntmps55
    go_wp2
    go_ret
    exact ⟨rfl, rfl⟩
  | cons c0 r0 =>
    have hp : 1 ≤ l.length := by rw [hl0]; simp
    rw [← hl0]
    clear hl0
    by_cases h : 12 < l.length
    · have HI : Hid (isName l = false) := by show _ = _; unfold isName; simp; omega
      go_enter Try.func55, Try.ntmps55
      go_wp2
      go_ret
      rw [HI.out]
      exact ⟨rfl, rfl⟩
    · have dl : decide (12 < (l.length : Int)) = false := by simp; omega
      have dl1 : decide ((l.length : Int) < 1) = false := by simp; omega
      go_enter Try.func55, Try.ntmps55
      go_wp2
      go_loopg [3] l.length (fun g i wr => ∃ k : Nat, g = l.length - k ∧ k ≤ l.length ∧ i = .int .i64 k ∧ wr = w ∧ Hid (((l.take k).all fun c => isSign c.toNat) = true))
      case atStart => exact ⟨0, rfl, by omega, rfl, rfl, by show _ = _; simp⟩
      case round =>
        obtain ⟨k, hgk, hk, rfl, rfl, hF⟩ := hrel
        have Hgk := Lib.hid hgk
        clear hgk
        by_cases hlt : k < l.length
        · have hb := l[k].toNat_lt
          have Hs := Lib.hid (all_snoc_sign l k hlt)
          by_cases a1 : 97 ≤ l[k].toNat
          · by_cases a2 : l[k].toNat ≤ 122
            · have HG : Hid (isSign l[k].toNat = true) := sign_letter a1 a2
              go_wp2
              go_roundg (l.length - (k + 1))
              case rel => exact ⟨k + 1, rfl, by omega, by go_num, rfl, by show _ = _; rw [Hs.out, hF.out, HG.out]; rfl⟩
              case measure => rw [Hgk.out]; omega
            · have HG : Hid (isSign l[k].toNat = false) := sign_none (by omega) (by omega) (by omega)
              have q : ((l[k].toNat : Int) == 95) = false := by simp; omega
              have d1 : decide ((l[k].toNat : Int) ≤ 122) = false := by simp; omega
              have d2 : decide ((l[k].toNat : Int) ≤ 57) = false := by simp; omega
              have HI : Hid (isName l = false) := by show _ = _; unfold isName; rw [all_take_false (k := k + 1) (by rw [Hs.out, HG.out]; simp)]; simp
              go_wp2
              go_ret
              rw [HI.out]
              exact ⟨rfl, rfl⟩
          · by_cases a2 : 48 ≤ l[k].toNat
            · by_cases a3 : l[k].toNat ≤ 57
              · have HG : Hid (isSign l[k].toNat = true) := sign_digit a2 a3
                go_wp2
                go_roundg (l.length - (k + 1))
                case rel => exact ⟨k + 1, rfl, by omega, by go_num, rfl, by show _ = _; rw [Hs.out, hF.out, HG.out]; rfl⟩
                case measure => rw [Hgk.out]; omega
              · by_cases a4 : l[k].toNat = 95
                · have HG : Hid (isSign l[k].toNat = true) := sign_line a4
                  have q : ((l[k].toNat : Int) == 95) = true := by simp; omega
                  clear a4
                  go_wp2
                  go_roundg (l.length - (k + 1))
                  case rel => exact ⟨k + 1, rfl, by omega, by go_num, rfl, by show _ = _; rw [Hs.out, hF.out, HG.out]; rfl⟩
                  case measure => rw [Hgk.out]; omega
                · have HG : Hid (isSign l[k].toNat = false) := sign_none (by omega) (by omega) a4
                  have d2 : decide ((l[k].toNat : Int) ≤ 57) = false := by simp; omega
                  have q : ((l[k].toNat : Int) == 95) = false := by simp; omega
                  clear a4
                  have HI : Hid (isName l = false) := by show _ = _; unfold isName; rw [all_take_false (k := k + 1) (by rw [Hs.out, HG.out]; simp)]; simp
                  go_wp2
                  go_ret
                  rw [HI.out]
                  exact ⟨rfl, rfl⟩
            · have HG : Hid (isSign l[k].toNat = false) := sign_none (by omega) (by omega) (by omega)
              have q : ((l[k].toNat : Int) == 95) = false := by simp; omega
              have HI : Hid (isName l = false) := by show _ = _; unfold isName; rw [all_take_false (k := k + 1) (by rw [Hs.out, HG.out]; simp)]; simp
              go_wp2
              go_ret
              rw [HI.out]
              exact ⟨rfl, rfl⟩
        · have HI : Hid (isName l = true) := by
            show _ = _
            have := hF.out
            rw [List.take_of_length_le (by omega)] at this
            unfold isName
            rw [this]
            simp
            omega
          clear hF
          go_wp2
          go_ret
          rw [HI.out]
          exact ⟨rfl, rfl⟩

end Go.Proofs.Ytelnhhbefdfeoaa

namespace Go.Proofs.Ytelnhhbefdfeoaa
open Go.RowKit
set_option linter.unusedVariables false
attribute [local go_sem] str_at

/-- A text as a value. -/
abbrev tx (l : List UInt8) : Value := .string ⟨l.toArray⟩
/-- Every text is a string of this machine. -/
def TxOk (ts : List (List UInt8)) : Prop := ∀ t ∈ ts, t.length ≤ 9223372036854775807

theorem Rd.tx {w : World} {A : Option Addr} {n k : Nat} {ts : List (List UInt8)} (h : Rd w 1 A n (ts.map tx)) (hk : k < n) :
    ∃ ad t, A = some ad ∧ ts[k]? = some t ∧ w.cell? (ad.add k) = some (.string ⟨t.toArray⟩) := by
  obtain ⟨ad, u, e, _, hx, hc⟩ := Reads.at_ h hk
  rw [List.getElem?_map] at hx
  cases hz : ts[k]? with
  | none => rw [hz] at hx; cases hx
  | some z =>
    rw [hz] at hx
    simp at hx
    subst hx
    exact ⟨ad, z, e, rfl, hc⟩

/-- How many bytes texts have, as the program counts. -/
def bytesFrom (n : Nat) : List (List UInt8) → Nat
  | [] => n
  | t :: r => if 1000000 ≤ n + min t.length 1000000 then n + min t.length 1000000 else bytesFrom (n + min t.length 1000000) r
def fewOf (ts : List (List UInt8)) : Bool := decide (ts.length ≤ 120) && decide (bytesFrom 0 ts ≤ 3000)
theorem bytesFrom_sum (ts : List (List UInt8)) (n : Nat) (h : bytesFrom n ts ≤ 3000) : n + (ts.map List.length).sum ≤ 3000 := by
  induction ts generalizing n with
  | nil => simpa [bytesFrom] using h
  | cons t r ih =>
    rw [bytesFrom] at h
    split at h
    · omega
    · have := ih _ h
      simp only [List.map_cons, List.sum_cons]
      omega
theorem bytesFrom_drop {ts : List (List UInt8)} {k n : Nat} {t : List UInt8} (h : ts[k]? = some t) :
    bytesFrom n (ts.drop k) = if 1000000 ≤ n + min t.length 1000000 then n + min t.length 1000000 else bytesFrom (n + min t.length 1000000) (ts.drop (k + 1)) := by
  obtain ⟨hk, rfl⟩ := List.getElem?_eq_some_iff.1 h
  rw [List.drop_eq_getElem_cons hk]
  rfl

/-- The first thing that is wrong with a row of texts. -/
def rowFrom (p : Option (List UInt8)) : List (List UInt8) → Int
  | [] => 0
  | t :: r => if isTerm t then (if (p.any fun q => !Op.bytesLess q t) then 4 else rowFrom (some t) r) else 2
def rowErr (ts : List (List UInt8)) : Int := rowFrom none ts
theorem rowFrom_drop {ts : List (List UInt8)} {k : Nat} {t : List UInt8} {p : Option (List UInt8)} (h : ts[k]? = some t) :
    rowFrom p (ts.drop k) = if isTerm t then (if (p.any fun q => !Op.bytesLess q t) then 4 else rowFrom (some t) (ts.drop (k + 1))) else 2 := by
  obtain ⟨hk, rfl⟩ := List.getElem?_eq_some_iff.1 h
  rw [List.drop_eq_getElem_cons hk]
  rfl

set_option maxRecDepth 100000 in
set_option maxHeartbeats 1000000 in
theorem trow_any (A : Option Addr) (n c : Nat) (ts : List (List UInt8)) (w : World) (hr : Rd w 1 A n (ts.map tx)) (ht : TxOk ts) (hn : n ≤ 100000) :
    Calls Try.prog 105 #[.slice A n c] w fun e w' => e = .returned (.int .i64 (rowErr ts)) ∧ w = w' := by
  have hlen : Hid (ts.length = n) := by have := hr.len; show _ = _; simpa using this
  have Ht := Lib.hid ht
  clear ht
  go_enter Try.func105, Try.ntmps105
  go_wp2
  go_loopg [8] n (fun g i wr => ∃ k : Nat, g = n - k ∧ k ≤ n ∧ i = .int .i64 k ∧ wr = w ∧ Hid (rowErr ts = rowFrom (if k = 0 then none else ts[k - 1]?) (ts.drop k)))
  case atStart => exact ⟨0, rfl, by omega, rfl, rfl, rfl⟩
  case round =>
    obtain ⟨k, hgk, hk, rfl, rfl, hF⟩ := hrel
    have Hgk := Lib.hid hgk
    clear hgk
    by_cases hlt : k < n
    · obtain ⟨ad, t, rfl, htk, hc⟩ := hr.tx hlt
      have hl0 : t.length ≤ 9223372036854775807 := Ht.out t (List.mem_of_getElem? htk)
      have Htk := Lib.hid htk
      clear htk
      cases hT : isTerm t with
      | false =>
        have HR : Hid (rowErr ts = 2) := by show _ = _; rw [hF.out, rowFrom_drop Htk.out, hT]; rfl
        clear hF
        go_wp2_with fail
        refine (check_any _ _ hl0).mono ?_; rintro e w1 ⟨rfl, rfl⟩
        rw [hT]
        go_wp2
        go_ret
        rw [HR.out]
        exact ⟨rfl, rfl⟩
      | true =>
        by_cases k0 : k = 0
        · subst k0
          have hc0 : wr.cell? ad = some (.string ⟨t.toArray⟩) := hc
          have HR : Hid (rowErr ts = rowFrom (if 0 + 1 = 0 then none else ts[0 + 1 - 1]?) (ts.drop (0 + 1))) := by
            show _ = _
            rw [hF.out, rowFrom_drop Htk.out, hT]
            simp [Htk.out]
          clear hF
          go_wp2_with fail
          refine (check_any _ _ hl0).mono ?_; rintro e w1 ⟨rfl, rfl⟩
          rw [hT]
          go_wp2
          go_roundg (n - (0 + 1))
          case rel => exact ⟨0 + 1, rfl, by omega, by go_num, rfl, HR⟩
          case measure => rw [Hgk.out]; omega
        · obtain ⟨ad', q, e, hq, hcq⟩ := hr.tx (k := k - 1) (by omega)
          injection e with e
          subst e
          have Hq := Lib.hid hq
          clear hq
          have e1 : ((k : Int) - 1).toNat = k - 1 := by omega
          have k1 : decide (0 < (k : Int)) = true := by simp; omega
          have wr1 : IntKind.i64.wrap ((k : Int) - 1) = (k : Int) - 1 := IntWalk.i64_in _ (by omega)
          cases hL : Op.bytesLess q t with
          | true =>
            have HR : Hid (rowErr ts = rowFrom (if k + 1 = 0 then none else ts[k + 1 - 1]?) (ts.drop (k + 1))) := by
              show _ = _
              rw [hF.out, rowFrom_drop Htk.out, hT, if_neg k0, Hq.out]
              simp [Htk.out, hL]
            clear hF
            go_wp2_with fail
            refine (check_any _ _ hl0).mono ?_; rintro e w1 ⟨rfl, rfl⟩
            rw [hT]
            go_wp2
            go_roundg (n - (k + 1))
            case rel => exact ⟨k + 1, rfl, by omega, by go_num, rfl, HR⟩
            case measure => rw [Hgk.out]; omega
          | false =>
            have HR : Hid (rowErr ts = 4) := by
              show _ = _
              rw [hF.out, rowFrom_drop Htk.out, hT, if_neg k0, Hq.out]
              simp [hL]
            clear hF
            go_wp2_with fail
            refine (check_any _ _ hl0).mono ?_; rintro e w1 ⟨rfl, rfl⟩
            rw [hT]
            go_wp2
            go_ret
            rw [HR.out]
            exact ⟨rfl, rfl⟩
    · have HR : Hid (rowErr ts = 0) := by show _ = _; rw [hF.out, List.drop_of_length_le (by have := hlen.out; omega)]; rfl
      clear hF
      go_wp2
      go_ret
      rw [HR.out]
      exact ⟨rfl, rfl⟩

end Go.Proofs.Ytelnhhbefdfeoaa

namespace Go.Proofs.Ytelnhhbefdfeoaa
open Go.RowKit
set_option linter.unusedVariables false
attribute [local go_sem] str_at str_from

/-- The bytes of a text. -/
def ptext (l : List UInt8) : List UInt8 := nput l.length ++ l

/-- How many bytes two texts begin with alike. -/
def alike : List UInt8 → List UInt8 → Nat
  | a :: x, b :: y => if a = b then alike x y + 1 else 0
  | _, _ => 0
theorem alike_le (x y : List UInt8) : alike x y ≤ x.length ∧ alike x y ≤ y.length := by
  induction x generalizing y with
  | nil => simp [alike]
  | cons a x ih =>
    cases y with
    | nil => simp [alike]
    | cons b y =>
      rw [alike]
      have := ih y
      split <;> simp <;> omega
theorem alike_step {x y : List UInt8} {k : Nat} (h1 : k < x.length) (h2 : k < y.length) (h : x[k] = y[k]) : alike (x.drop k) (y.drop k) = alike (x.drop (k + 1)) (y.drop (k + 1)) + 1 := by
  rw [List.drop_eq_getElem_cons h1, List.drop_eq_getElem_cons h2, alike, if_pos h]
theorem alike_stop {x y : List UInt8} {k : Nat} (h1 : k < x.length) (h2 : k < y.length) (h : ¬ x[k] = y[k]) : alike (x.drop k) (y.drop k) = 0 := by
  rw [List.drop_eq_getElem_cons h1, List.drop_eq_getElem_cons h2, alike, if_neg h]
theorem alike_end {x y : List UInt8} {k : Nat} (h : x.length ≤ k ∨ y.length ≤ k) : alike (x.drop k) (y.drop k) = 0 := by
  have := alike_le (x.drop k) (y.drop k)
  rw [List.length_drop, List.length_drop] at this
  omega

/-- The bytes of texts, one behind the other; and of a row. -/
def tputs : List UInt8 → List (List UInt8) → List UInt8
  | _, [] => []
  | was, t :: r => (nput (alike was t) ++ ptext (t.drop (alike was t))) ++ tputs t r
def tput (ts : List (List UInt8)) : List UInt8 := nput ts.length ++ tputs [] ts
/-- What term.Put answers. -/
def tputV (ts : List (List UInt8)) : List UInt8 × Int := if rowErr ts = 0 then (tput ts, 0) else ([], rowErr ts)
theorem tputs_drop {ts : List (List UInt8)} {k : Nat} {t was : List UInt8} (h : ts[k]? = some t) :
    tputs was (ts.drop k) = (nput (alike was t) ++ ptext (t.drop (alike was t))) ++ tputs t (ts.drop (k + 1)) := by
  obtain ⟨hk, rfl⟩ := List.getElem?_eq_some_iff.1 h
  rw [List.drop_eq_getElem_cons hk]
  rfl
theorem rowFrom_terms {ts : List (List UInt8)} {p : Option (List UInt8)} (h : rowFrom p ts = 0) : ∀ t ∈ ts, isTerm t = true := by
  induction ts generalizing p with
  | nil => simp
  | cons t r ih =>
    rw [rowFrom] at h
    split at h
    · rename_i ht
      split at h
      · cases h
      · intro u hu
        rcases List.mem_cons.1 hu with rfl | hu
        · exact ht
        · exact ih h u hu
    · cases h
theorem rowErr_len {ts : List (List UInt8)} (h : rowErr ts = 0) {t : List UInt8} (ht : t ∈ ts) : t.length ≤ 16 := by
  have := rowFrom_terms h t ht
  unfold isTerm at this
  simp at this
  omega
theorem nput_le9 (n : Nat) : (nput n).length ≤ 9 := by rw [nput_length]; exact nsize_le _

/-- Not above is below or the same. -/
theorem less_le (q t : List UInt8) : (Op.bytesLess t q || t == q) = !Op.bytesLess q t := by
  induction t generalizing q with
  | nil => cases q <;> simp [Op.bytesLess]
  | cons a t ih =>
    cases q with
    | nil => simp [Op.bytesLess]
    | cons b q =>
      have h := ih q
      simp only [Op.bytesLess]
      rcases Nat.lt_trichotomy a.toNat b.toNat with h1 | h1 | h1
      · have x1 : a < b := h1
        have x2 : ¬ b < a := fun h => by have : b.toNat < a.toNat := h; omega
        have x3 : b ≠ a := fun h => by subst h; omega
        simp [x1, x2, x3]
      · have x1 : a = b := UInt8.toNat_inj.1 h1
        subst x1
        simp only [UInt8.lt_irrefl, decide_false, Bool.false_or, beq_self_eq_true, Bool.true_and]
        rw [← h]
        simp
      · have x1 : b < a := h1
        have x2 : ¬ a < b := fun h => by have : a.toNat < b.toNat := h; omega
        have x3 : a ≠ b := fun h => by subst h; omega
        simp [x1, x2, x3]

theorem awake05_val : tputV [[97, 98], [97, 98, 99]] = ([2, 0, 2, 97, 98, 2, 1, 99], 0) := by decide

set_option maxRecDepth 100000 in
set_option maxHeartbeats 1000000 in
theorem rtrow_any (A : Option Addr) (n c : Nat) (ts : List (List UInt8)) (w : World) (hr : Rd w 1 A n (ts.map tx)) (ht : TxOk ts) (hn : n ≤ 100000) :
    Calls Try.prog 72 #[.slice A n c] w fun e w' => e = .returned (.int .i64 (rowErr ts)) ∧ Bel w w' := by
  have hlen : Hid (ts.length = n) := by have := hr.len; show _ = _; simpa using this
  have Ht := Lib.hid ht
  clear ht
  go_enter Try.func72, Try.ntmps72
  go_wp2
  go_loopg [3] n (fun g i wr => ∃ k : Nat, g = n - k ∧ k ≤ n ∧ i = .int .i64 k ∧ Bel w wr ∧ Hid (rowErr ts = rowFrom (if k = 0 then none else ts[k - 1]?) (ts.drop k)))
  case atStart => exact ⟨0, rfl, by omega, rfl, Bel.refl _, rfl⟩
  case round =>
    obtain ⟨k, hgk, hk, rfl, hB, hF⟩ := hrel
    have Hgk := Lib.hid hgk
    clear hgk
    by_cases hlt : k < n
    · obtain ⟨ad, t, rfl, htk, hc⟩ := (hr.bel hB).tx hlt
      have hl0 : t.length ≤ 9223372036854775807 := Ht.out t (List.mem_of_getElem? htk)
      have Htk := Lib.hid htk
      clear htk
      cases hT : isTerm t with
      | false =>
        have HR : Hid (rowErr ts = 2) := by show _ = _; rw [hF.out, rowFrom_drop Htk.out, hT]; rfl
        clear hF
        go_wp2_with fail
        refine (is_any _ _ hl0).mono ?_; rintro e w1 ⟨rfl, rfl⟩
        rw [hT]
        go_wp2
        go_ret
        rw [HR.out]
        exact ⟨rfl, hB⟩
      | true =>
        by_cases k0 : k = 0
        · subst k0
          have hc0 : wr.cell? ad = some (.string ⟨t.toArray⟩) := hc
          have HR : Hid (rowErr ts = rowFrom (if 0 + 1 = 0 then none else ts[0 + 1 - 1]?) (ts.drop (0 + 1))) := by
            show _ = _
            rw [hF.out, rowFrom_drop Htk.out, hT]
            simp [Htk.out]
          clear hF
          go_wp2_with fail
          refine (is_any _ _ hl0).mono ?_; rintro e w1 ⟨rfl, rfl⟩
          rw [hT]
          go_wp2_with fail
          go_quiet (fail)
          go_wp2
          go_roundg (n - (0 + 1))
          case rel => exact ⟨0 + 1, rfl, by omega, by go_num, hB.drewN _, HR⟩
          case measure => rw [Hgk.out]; omega
        · obtain ⟨ad', q, e, hq, hcq⟩ := (hr.bel hB).tx (k := k - 1) (by omega)
          injection e with e
          subst e
          have Hq := Lib.hid hq
          clear hq
          have e1 : ((k : Int) - 1).toNat = k - 1 := by omega
          have k1 : decide (0 < (k : Int)) = true := by simp; omega
          have k2 : decide (0 < k) = true := by simp; omega
          have wr1 : IntKind.i64.wrap ((k : Int) - 1) = (k : Int) - 1 := IntWalk.i64_in _ (by omega)
          have hle := less_le q t
          cases hL : Op.bytesLess q t with
          | true =>
            have HR : Hid (rowErr ts = rowFrom (if k + 1 = 0 then none else ts[k + 1 - 1]?) (ts.drop (k + 1))) := by
              show _ = _
              rw [hF.out, rowFrom_drop Htk.out, hT, if_neg k0, Hq.out]
              simp [Htk.out, hL]
            clear hF
            rw [hL] at hle
            go_wp2_with fail
            refine (is_any _ _ hl0).mono ?_; rintro e w1 ⟨rfl, rfl⟩
            rw [hT]
            go_wp2_with fail
            go_quiet (fail)
            go_wp2
            go_roundg (n - (k + 1))
            case rel => exact ⟨k + 1, rfl, by omega, by go_num, hB.drewN _, HR⟩
            case measure => rw [Hgk.out]; omega
          | false =>
            have HR : Hid (rowErr ts = 4) := by
              show _ = _
              rw [hF.out, rowFrom_drop Htk.out, hT, if_neg k0, Hq.out]
              simp [hL]
            clear hF
            rw [hL] at hle
            go_wp2_with fail
            refine (is_any _ _ hl0).mono ?_; rintro e w1 ⟨rfl, rfl⟩
            rw [hT]
            go_wp2_with fail
            go_quiet (fail)
            go_wp2
            go_ret
            rw [HR.out]
            exact ⟨rfl, hB.drewN _⟩
    · have HR : Hid (rowErr ts = 0) := by show _ = _; rw [hF.out, List.drop_of_length_le (by have := hlen.out; omega)]; rfl
      clear hF
      go_wp2
      go_ret
      rw [HR.out]
      exact ⟨rfl, hB⟩

end Go.Proofs.Ytelnhhbefdfeoaa

namespace Go.Proofs.Ytelnhhbefdfeoaa
open Go.RowKit
set_option linter.unusedVariables false

/-- How a scan ends: its error; or, if bytes are left, 3. -/
def endOf (s : List UInt8) (t k : Int) : Int := if k ≠ 0 then k else if t = s.length then 0 else 3

end Go.Proofs.Ytelnhhbefdfeoaa

namespace Go.Proofs.Ytelnhhbefdfeoaa
open Go.RowKit
set_option linter.unusedVariables false

section
variable {w0 w w' : World} {B : Nat} {s l l' : List UInt8}
end
theorem Bel.but2 {w0 w w' : World} {B : Nat} (h : Bel w0 w) (hB : w0.heap.size ≤ B) (hb : But2 B w w') : Bel w0 w' :=
  ⟨hb.os.trans h.os, hb.tape.trans h.tape, hb.output.trans h.output, Nat.le_trans h.size hb.size, fun k hk => (hb.block k (Nat.lt_of_lt_of_le hk h.size) (by omega) (by omega)).trans (h.block k hk)⟩
theorem Blk.but2 {w w' : World} {B g : Nat} {t : TypeId} {cs : Array Value} (h : Blk w g t cs) (hb : But2 B w w') (h1 : g ≠ B) (h2 : g ≠ B + 1) : Blk w' g t cs := (hb.block g h.lt h1 h2).trans h
theorem cf_any {F : FuncId} {fn : Func} (hf : Try.prog.funcs[F]? = some fn) (hb : fn.body.isNone = false) (hn : (fn.name == "runtime.NumGoroutine") = false) (args : Array Value) (w : World) : (callFunc F args).run Try.prog w = .ok (.enter F args) w := by
  have h1 : fn.name ≠ "runtime.NumGoroutine" := by simpa using hn
  have h2 : fn.body ≠ none := by intro e; rw [e] at hb; cases hb
  simp [callFunc, go_sem, hf, h1, h2]

def R04 (w : World) (k : Int) (w' : World) : Prop := k = 0 ∧ Bel w w' ∧ Blk w' w.heap.size 9 #[.string ⟨#[97, 98]⟩]
end Go.Proofs.Ytelnhhbefdfeoaa
