/- plan.pass: which members a pick lets through. -/
import Derived.Test.YtelnhhbefdfeoaaPlanF
import Derived.Test.YtelnhhbefdfeoaaAskP
import Derived.Test.YtelnhhbefdfeoaaAskM
import Derived.Test.YtelnhhbefdfeoaaSep
namespace Go.Proofs.Ytelnhhbefdfeoaa
open Go.RowKit
set_option linter.unusedVariables false
set_option linter.unusedSimpArgs false


set_option maxRecDepth 100000 in
set_option maxHeartbeats 1000000 in
theorem index_any (x : Row (List UInt8)) (s : List UInt8) (w : World) (hx : x.rd w) :
    Calls Try.prog 106 #[.slice x.A x.n x.c, .string ⟨s.toArray⟩] w fun e w' => e = .returned (.int .i64 (atOf s x.l)) ∧ w = w' := by
  have hlen : Hid (x.l.length = x.n) := hx.len
  have HX := Lib.hid hx
  have n63 := hx.n63
  obtain ⟨A, n, c, ts⟩ := x
  simp only at *
  clear hx
  go_enter Try.func106, Try.ntmps106
  go_wp2_with fail
  have HF : Hid (∀ (k : Nat) u, k < 0 → ts[k]? = some u → (u == s) = false) := fun m u h => absurd h (by omega)
  go_loopg [8] n (fun gg s8 wr => ∃ i : Nat, gg = n - i ∧ i ≤ n ∧ s8 = .int .i64 i ∧ w = wr ∧ Hid (∀ (k : Nat) u, k < i → ts[k]? = some u → (u == s) = false))
  case atStart => exact ⟨0, rfl, by omega, rfl, rfl, HF⟩
  case round =>
    clear HF
    obtain ⟨i, hgk, hi, rfl, rfl, HF⟩ := hrel
    have Hgk := Lib.hid hgk
    clear hgk
    by_cases hlt : i < n
    · obtain ⟨b, o, t, hA, ht, htl, hc⟩ := HX.out.textAt (k := i) hlt
      simp only at hA
      subst hA
      have HT := Lib.hid ht
      have i0 : (0 : Int) ≤ i := by omega
      have i1 : (i : Int) < n := by omega
      clear ht
      cases hE : (t == s) with
      | true =>
        have hE2 : (s == t) = true := by rw [beq_iff_eq] at hE ⊢; exact hE.symm
        have HP : Hid (atOf s ts = i) := by show _ = _; unfold atOf; rw [posOf_some HT.out hE HF.out]
        clear HF
        go_wp2
        go_ret
        rw [HP.out]
        exact ⟨rfl, rfl⟩
      | false =>
        have hE2 : (s == t) = false := by rw [beq_eq_false_iff_ne] at hE ⊢; exact fun h => hE h.symm
        have HN : Hid (∀ (k : Nat) u, k < i + 1 → ts[k]? = some u → (u == s) = false) := by
          intro k u hk hu
          rcases (show k < i ∨ k = i by omega) with h | h
          · exact HF.out k u h hu
          · subst h
            rw [HT.out] at hu
            injection hu with hu
            subst hu
            exact hE
        clear HF
        go_wp2
        go_roundg (n - (i + 1))
        case rel => exact ⟨i + 1, rfl, by omega, by go_num, rfl, HN⟩
        case measure => rw [Hgk.out]; omega
    · have HP : Hid (atOf s ts = -1) := by
        show _ = _
        unfold atOf
        rw [posOf_none fun k u hu => HF.out k u (by have := (List.getElem?_eq_some_iff.1 hu).1; have := hlen.out; omega) hu]
      clear HF
      go_wp2
      go_ret
      rw [HP.out]
      exact ⟨rfl, rfl⟩
theorem atOf_some (s : List UInt8) (ts : List (List UInt8)) : decide (0 ≤ atOf s ts) = (posOf s ts).isSome := by
  unfold atOf
  cases posOf s ts with
  | none => rfl
  | some i => simp
set_option maxRecDepth 100000 in
set_option maxHeartbeats 1000000 in
theorem contains_any (x : Row (List UInt8)) (s : List UInt8) (w : World) (hx : x.rd w) :
    Calls Try.prog 94 #[.slice x.A x.n x.c, .string ⟨s.toArray⟩] w fun e w' => e = .returned (.bool (posOf s x.l).isSome) ∧ w = w' := by
  have HI := Lib.hid (index_any x s w hx)
  have HD := Lib.hid (atOf_some s x.l)
  clear hx
  generalize atOf s x.l = i at *
  go_enter Try.func94, Try.ntmps94
  go_wp2_with fail
  refine HI.out.mono ?_; rintro e w1 ⟨rfl, rfl⟩
  go_wp2
  go_ret
  rw [← HD.out]
  exact ⟨by simp, rfl⟩
/-- Does a pick let a text of its filter's tier through? -/
def letsT (p : PC) (u : List UInt8) : Bool := if p.f = 0 then true else if p.f = 1 then within p.lo p.hi u else (posOf u p.set).isSome
set_option maxRecDepth 100000 in
theorem pass1_any (k : Int) (w : World) : Calls Try.prog 90 #[.int .i64 k] w fun e w' => e = .returned (.bool true) ∧ Bel w w' := by
  go_enter Try.func90, Try.ntmps90
  go_wp2
  go_ret
  exact ⟨rfl, Bel.refl _⟩
set_option maxRecDepth 100000 in
set_option maxHeartbeats 1000000 in
theorem pass2_any (k a b : Int) (g h : Nat) (w : World) (hg : Blk w g 3 #[.int .i64 a]) (hh : Blk w h 3 #[.int .i64 b]) :
    Calls Try.prog 92 #[.int .i64 k, .pointer (some ⟨g, 0, none⟩), .pointer (some ⟨h, 0, none⟩)] w fun e w' => e = .returned (.bool (decide (a ≤ k ∧ k < b))) ∧ Bel w w' := by
  have c0 := hg.cell 0
  have c1 := hh.cell 0
  simp only [List.getElem?_toArray, List.getElem?_cons_zero, List.getElem?_cons_succ] at c0 c1
  clear hg hh
  by_cases h1 : a ≤ k
  · have d1 : decide (a ≤ k) = true := by simpa using h1
    by_cases h2 : k < b
    · have d2 : decide (k < b) = true := by simpa using h2
      go_enter Try.func92, Try.ntmps92
      go_wp2
      go_ret
      exact ⟨by simp [h1, h2], Bel.refl _⟩
    · have d2 : decide (k < b) = false := by simpa using h2
      go_enter Try.func92, Try.ntmps92
      go_wp2
      go_ret
      exact ⟨by simp [h1, h2], Bel.refl _⟩
  · have d1 : decide (a ≤ k) = false := by simpa using h1
    go_enter Try.func92, Try.ntmps92
    go_wp2
    go_ret
    exact ⟨by simp [h1], Bel.refl _⟩
set_option maxRecDepth 100000 in
set_option maxHeartbeats 1000000 in
theorem pass3_any (p : Pk) (x : Row (List UInt8)) (k : Nat) (u : List UInt8) (g h : Nat) (w : World) (hg : Blk w g 59 p.cs) (hh : Blk w h 23 #[.slice x.A x.n x.c]) (hp : p.rd w) (hx : x.rd w) (hk : k < x.n) (hu : x.l[k]? = some u) :
    Calls Try.prog 93 #[.int .i64 k, .pointer (some ⟨g, 0, none⟩), .pointer (some ⟨h, 0, none⟩)] w fun e w' => e = .returned (.bool (posOf u p.set.l).isSome) ∧ Bel w w' := by
  obtain ⟨b, o, t, hA, ht, htl, hc⟩ := hx.textAt (k := k) hk
  rw [hu] at ht
  injection ht with ht
  subst ht
  have HC := Lib.hid (fun w' (hb : Bel w w') => contains_any p.set u w' (hp.set.mono hb))
  have c0 := hg.cell 4
  have c1 := hh.cell 0
  change _ = some (Value.slice p.set.A p.set.n p.set.c) at c0
  change _ = some (Value.slice x.A x.n x.c) at c1
  have x63 := hx.n63
  obtain ⟨A, n, c, ts⟩ := x
  simp only at *
  subst hA
  have i0 : (0 : Int) ≤ k := by omega
  have i1 : (k : Int) < n := by omega
  clear hg hh hp hx hu
  go_enter Try.func93, Try.ntmps93
  go_upto_region 1 with fail
  have fc0 := fun u : Over w => Over.cell c0 u
  have fc1 := fun u : Over w => Over.cell c1 u
  have fhc := fun u : Over w => Over.cell hc u
  refine wp_region_over (by kernel_rfl) (by kernel_rfl) ?_
  (try simp only [Act.put, List.setIfInBounds_toArray, List.set_cons_zero, List.set_cons_succ])
  repeat (go_big_quiet_step ((go_at_call 94; rename_i u; exact calls_over ((HC.out _ u.bel).mono fun e w' h => ⟨h.1, h.2 ▸ Bel.refl _⟩))))
  refine wpQuiet_nil ?_
  rintro w5 ⟨⟨_, hw5⟩, rfl⟩
  (try dsimp only)
  clear fc0 fc1 fhc c0 c1 hc
  go_wp2
  go_ret
  exact ⟨rfl, hw5⟩

end Go.Proofs.Ytelnhhbefdfeoaa
