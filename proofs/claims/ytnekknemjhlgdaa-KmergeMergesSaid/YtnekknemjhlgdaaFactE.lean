/- Walks of the document's Few, Rises, Sorted, Same. -/
import Derived.Test.YtnekknemjhlgdaaFactD
import Derived.Test.YtnekknemjhlgdaaBg
namespace Go.Proofs.Ytnekknemjhlgdaa
open Go.RowKit
set_option linter.unusedVariables false
attribute [local go_sem] fct_get0

/-- How many places facts have, at most 1000 of each. -/
def keySum (l : List Fct) : Nat := (l.map fun f => min f.ks.l.length 1000).sum
def fewF (m : Nat) (l : List Fct) : Bool := decide (l.length ≤ m) && decide (keySum (l.take (m + 1)) ≤ 2000)
theorem keySum_snoc {l : List Fct} {k : Nat} {f : Fct} (h : l[k]? = some f) : keySum (l.take (k + 1)) = keySum (l.take k) + min f.ks.l.length 1000 := by
  rw [List.take_add_one, h]
  simp [keySum]
theorem fewF_len {m : Nat} {l : List Fct} (h : fewF m l = true) : l.length ≤ m := by
  unfold fewF at h
  simp only [Bool.and_eq_true, decide_eq_true_eq] at h
  exact h.1

/-- A fact in a row: its first cell, and all of them. -/
theorem Row.ok.fct {w : World} {x : Row Fct} (h : x.ok w) {k : Nat} (hk : k < x.n) :
    ∃ b o f, x.A = some ⟨b, o, none⟩ ∧ b < w.heap.size ∧ x.l[k]? = some f ∧ f.ok w ∧ w.cell? ⟨b, o + k * 11, none⟩ = some f.ks.v ∧ w.rangeAt b (o + k * 11) f.cs.toList ∧ w.rangeAt b (o + k * 11 + 1) f.ag.cs.toList := by
  obtain ⟨b, o, f, e, hb, hf, hc⟩ := rd_at h.rd hk
  refine ⟨b, o, f, e, hb, hf, h.all f (List.mem_of_getElem? hf), hc 0 _ rfl, fun j v hv => hc j v hv, fun j v hv => ?_⟩
  rw [Nat.add_assoc, Nat.add_comm 1 j]
  exact hc (j + 1) v hv

set_option maxRecDepth 100000 in
set_option maxHeartbeats 1000000 in
theorem few19_any (x : Row Fct) (m : Int) (w : World) (hx : x.ok w) (m0 : 0 ≤ m) (m1 : m ≤ 1000) :
    Calls Try.prog 45 #[x.v, .int .i64 m] w fun e w' => e = .returned (.bool (fewF m.toNat x.l)) ∧ w = w' := by
  obtain ⟨m, rfl⟩ := Int.eq_ofNat_of_zero_le m0
  rw [Int.toNat_natCast]
  have hm : m ≤ 1000 := by omega
  clear m0 m1
  have hn := hx.size
  have hlen : Hid (x.l.length = x.n) := hx.len
  have Hx := Lib.hid hx
  clear hx
  obtain ⟨A, n, c, l⟩ := x
  simp only [Row.v] at *
  go_enter Try.func45, Try.ntmps45
  go_wp2
  go_loopg [5, 6] n (fun g s i wr => ∃ k z : Nat, g = n - k ∧ k ≤ n ∧ k ≤ m + 1 ∧ i = .int .i64 k ∧ s = .int .i64 z ∧ z ≤ 1000 * k ∧ wr = w ∧ Hid (z = keySum (l.take k)))
  case atStart => exact ⟨0, 0, rfl, by omega, by omega, rfl, rfl, by omega, rfl, rfl⟩
  case round =>
    obtain ⟨k, z, hgk, hk, hkm, rfl, rfl, hz, rfl, hF⟩ := hrel
    have Hgk := Lib.hid hgk
    clear hgk
    by_cases hlt : k < n ∧ k ≤ m
    · obtain ⟨h1, h2⟩ := hlt
      obtain ⟨b, o, f, rfl, hb, hf, hfo, hc0, _, _⟩ := Hx.out.fct h1
      have HR := Lib.hid (keySum_snoc hf)
      have hfn := hfo.ks.size
      have Hfl := Lib.hid hfo.ks.len
      clear hf hfo
      obtain ⟨⟨fA, fn, fc, fl⟩, fa⟩ := f
      simp only [Row.v] at *
      have d1 : decide ((k : Int) < (n : Int)) = true := by simp; omega
      have d1' : decide (k < n) = true := by simp; omega
      have d2 : decide ((k : Int) ≤ (m : Int)) = true := by simp; omega
      have d2' : decide (k ≤ m) = true := by simp; omega
      by_cases h3 : fn ≤ 1000
      · have e3 : min (fn : Int) 1000 = fn := by omega
        have HZ : Hid (z + fn = keySum (l.take (k + 1))) := by show _ = _; rw [HR.out, ← hF.out, Hfl.out, Nat.min_eq_left h3]
        clear HR hF
        go_wp2
        go_roundg (n - (k + 1))
        case rel => exact ⟨k + 1, z + fn, rfl, by omega, by omega, by go_num, by go_num, by omega, rfl, HZ⟩
        case measure => rw [Hgk.out]; omega
      · have e3 : min (fn : Int) 1000 = 1000 := by omega
        have HZ : Hid (z + 1000 = keySum (l.take (k + 1))) := by show _ = _; rw [HR.out, ← hF.out, Hfl.out, Nat.min_eq_right (by omega)]
        clear HR hF
        go_wp2
        go_roundg (n - (k + 1))
        case rel => exact ⟨k + 1, z + 1000, rfl, by omega, by omega, by go_num, by go_num, by omega, rfl, HZ⟩
        case measure => rw [Hgk.out]; omega
    · by_cases h4 : n ≤ m
      · have hkn : k = n := by omega
        subst hkn
        have HR : Hid (fewF m l = decide (z ≤ 2000)) := by
          show _ = _
          unfold fewF
          have h1 : l.length = k := hlen.out
          have h2 := hF.out
          rw [List.take_of_length_le (by omega)] at h2 ⊢
          rw [← h2]
          simp [h1, h4]
        have d1 : decide ((k : Int) < (k : Int)) = false := by simp
        have d3 : decide ((k : Int) ≤ (m : Int)) = true := by simp; omega
        have d3' : decide (k ≤ m) = true := by simp; omega
        clear hF hlt
        by_cases h5 : z ≤ 2000
        · have d4 : decide ((z : Int) ≤ 2000) = true := by simp; omega
          go_wp2
          go_ret
          rw [HR.out]
          simp [h5]
        · have d4 : decide ((z : Int) ≤ 2000) = false := by simp; omega
          go_wp2
          go_ret
          rw [HR.out]
          simp [h5]
      · have HR : Hid (fewF m l = false) := by
          show _ = _
          unfold fewF
          have h1 : l.length = n := hlen.out
          rw [h1]
          simp [h4]
        have d3 : decide ((n : Int) ≤ (m : Int)) = false := by simp; omega
        have d3' : decide (n ≤ m) = false := by simp; omega
        clear hF
        by_cases h5 : k < n
        · have d1 : decide ((k : Int) < (n : Int)) = true := by simp; omega
          have d1' : decide (k < n) = true := by simp; omega
          have d2 : decide ((k : Int) ≤ (m : Int)) = false := by simp; omega
          have d2' : decide (k ≤ m) = false := by simp; omega
          clear hlt
          go_wp2
          go_ret
          rw [HR.out]
          exact ⟨rfl, rfl⟩
        · have d1 : decide ((k : Int) < (n : Int)) = false := by simp; omega
          have d1' : decide (k < n) = false := by simp; omega
          clear hlt
          go_wp2
          go_ret
          rw [HR.out]
          exact ⟨rfl, rfl⟩

/-- Does each stand to the next one so? -/
def chain (r : List Int → List Int → Bool) : List (List Int) → Bool
  | a :: b :: l => r a b && chain r (b :: l)
  | _ => true
def keysOf (l : List Fct) : List (List Int) := l.map fun f => f.ks.l
theorem chain_drop {r : List Int → List Int → Bool} {l : List (List Int)} {k : Nat} {a b : List Int} (ha : l[k]? = some a) (hb : l[k + 1]? = some b) : chain r (l.drop k) = (r a b && chain r (l.drop (k + 1))) := by
  obtain ⟨h1, rfl⟩ := List.getElem?_eq_some_iff.1 ha
  obtain ⟨h2, rfl⟩ := List.getElem?_eq_some_iff.1 hb
  rw [List.drop_eq_getElem_cons h1, List.drop_eq_getElem_cons h2, chain]
theorem chain_end {r : List Int → List Int → Bool} {l : List (List Int)} {k : Nat} (h : l.length ≤ k + 1) : chain r (l.drop k) = true := by
  have : (l.drop k).length ≤ 1 := by rw [List.length_drop]; omega
  match l.drop k, this with
  | [], _ => rfl
  | [a], _ => rfl
theorem keys_get {l : List Fct} {k : Nat} {f : Fct} (h : l[k]? = some f) : (keysOf l)[k]? = some f.ks.l := by unfold keysOf; rw [List.getElem?_map, h]; rfl
theorem keys_len (l : List Fct) : (keysOf l).length = l.length := by unfold keysOf; rw [List.length_map]
def risesF (l : List Fct) : Bool := chain lessK (keysOf l)
def sortedF (l : List Fct) : Bool := chain (fun a b => !lessK b a) (keysOf l)

set_option maxRecDepth 100000 in
set_option maxHeartbeats 1000000 in
theorem sorted_any (x : Row Fct) (w : World) (hx : x.ok w) (hn : x.n ≤ 1000000) :
    Calls Try.prog 48 #[x.v] w fun e w' => e = .returned (.bool (sortedF x.l)) ∧ Bel w w' := by
  have hlen : Hid (x.l.length = x.n) := hx.len
  have Hx := Lib.hid hx
  clear hx
  obtain ⟨A, n, c, l⟩ := x
  simp only [Row.v] at *
  go_enter Try.func48, Try.ntmps48
  go_wp2
  go_loopg [3] n (fun g i wr => ∃ k : Nat, g = n - k ∧ k ≤ n ∧ i = .int .i64 (k + 1 : Nat) ∧ Bel w wr ∧ Hid (sortedF l = chain (fun a b => !lessK b a) ((keysOf l).drop k)))
  case atStart => exact ⟨0, rfl, by omega, rfl, Bel.refl _, rfl⟩
  case round =>
    obtain ⟨k, hgk, hk, rfl, hB, hF⟩ := hrel
    have Hgk := Lib.hid hgk
    clear hgk
    by_cases hlt : k + 1 < n
    · obtain ⟨b, o, f, e1, hb, hf, hfo, _, hrf, _⟩ := (Hx.out.mono hB).fct (k := k) (by simp only; omega)
      obtain ⟨b', o', g, e2, _, hg, hgo, _, hrg, _⟩ := (Hx.out.mono hB).fct (k := k + 1) hlt
      simp only at e1 e2
      rw [e1] at e2
      injection e2 with e2
      injection e2 with e2 e3
      subst e1 e2 e3
      have HD := Lib.hid (chain_drop (r := (fun a b => !lessK b a)) (keys_get hf) (keys_get hg))
      have Hfo := Lib.hid hfo
      have Hgo := Lib.hid hgo
      clear hf hg hfo hgo
      have w1 : IntKind.i64.wrap ((k : Int) + 1 - 1) = (k : Int) := by rw [show (k : Int) + 1 - 1 = k by omega]; exact IntWalk.i64_in _ (by omega)
      go_wp2_with fail
      refine wp_region_over (by kernel_rfl) (by kernel_rfl) ?_
      repeat (first
        | ((with_reducible show wpQuiet _ _ _ _ (⟨some 18, _, _, _, _, _⟩ :: _) _); refine wpQuiet_load_row rfl rowFct (.tmp 17) rfl b (o + k * 11) rfl f.cs rfl hb hrf ?_; simp only [Act.put, List.setIfInBounds_toArray, List.set_cons_zero, List.set_cons_succ])
        | ((with_reducible show wpQuiet _ _ _ _ (⟨some 13, _, _, _, _, _⟩ :: _) _); refine wpQuiet_load_row rfl rowFct (.tmp 12) rfl b (o + (k + 1) * 11) rfl g.cs rfl hb hrg ?_; simp only [Act.put, List.setIfInBounds_toArray, List.set_cons_zero, List.set_cons_succ])
        | go_big_quiet_step ((go_at_call 106; exact calls_over (less_any g f _ ⟨Hgo.out.ks.mono (Over.bel _), Hgo.out.ag⟩ ⟨Hfo.out.ks.mono (Over.bel _), Hfo.out.ag⟩))))
      refine wpQuiet_nil ?_
      rintro _ ⟨u, rfl⟩
      replace hB := hB.trans u.bel
      cases hL : lessK g.ks.l f.ks.l with
      | true =>
        have HR : Hid (sortedF l = false) := by show _ = _; rw [hF.out, HD.out]; simp [hL]
        clear hF HD
        go_wp2
        go_ret
        rw [HR.out]
        exact ⟨rfl, hB⟩
      | false =>
        have HR : Hid (sortedF l = chain (fun a b => !lessK b a) ((keysOf l).drop (k + 1))) := by show _ = _; rw [hF.out, HD.out]; simp [hL]
        clear hF HD
        go_wp2
        go_roundg (n - (k + 1))
        case rel => exact ⟨k + 1, rfl, by omega, by go_num, hB, HR⟩
        case measure => rw [Hgk.out]; omega
    · have HR : Hid (sortedF l = true) := by show _ = _; rw [hF.out, chain_end (by rw [keys_len]; have : l.length = n := hlen.out; omega)]
      clear hF
      go_wp2
      go_ret
      rw [HR.out]
      exact ⟨rfl, hB⟩

end Go.Proofs.Ytnekknemjhlgdaa
