/- The document's alike and Put of rows of texts; two rows' comparison. -/
import Derived.Test.YtnjpoamebkehbaaTakeE
namespace Go.Proofs.Ytnjpoamebkehbaa
open Go.RowKit
set_option linter.unusedVariables false
set_option linter.unusedSimpArgs false
attribute [local go_sem] str_upto str_at str_from

theorem take_same {x y : List UInt8} {k : Nat} (h : x.take k = y.take k) (h1 : k < x.length) (h2 : k < y.length) : x.take (k + 1) = y.take (k + 1) ↔ x[k] = y[k] := by
  rw [List.take_succ_eq_append_getElem h1, List.take_succ_eq_append_getElem h2, h]
  constructor
  · intro e
    have := List.append_inj_right' e rfl
    simpa using this
  · intro e
    rw [e]

set_option maxRecDepth 100000 in
set_option maxHeartbeats 1000000 in
theorem ralike_any (x y : List UInt8) (w : World) (hx : x.length ≤ 9223372036854775806) (hy : y.length ≤ 9223372036854775806) :
    Calls Try.prog 137 #[.string ⟨x.toArray⟩, .string ⟨y.toArray⟩] w fun e w' => e = .returned (.int .i64 (alike x y : Nat)) ∧ Bel w w' := by
  go_enter Try.func137, Try.ntmps137
  go_wp2
  go_loopg [5] x.length (fun g i wr => ∃ k : Nat, g = x.length - k ∧ k ≤ x.length ∧ k ≤ y.length ∧ i = .int .i64 k ∧ Bel w wr ∧ Hid (x.take k = y.take k) ∧ Hid (alike x y = k + alike (x.drop k) (y.drop k)))
  case atStart => exact ⟨0, rfl, by omega, by omega, rfl, Bel.refl _, by show _ = _; simp, by show _ = _; simp⟩
  case round =>
    obtain ⟨k, hgk, hkx, hky, rfl, hB, hT, hF⟩ := hrel
    have Hgk := Lib.hid hgk
    clear hgk
    by_cases a1 : k < x.length
    · by_cases a2 : k < y.length
      · have b1 : (k : Int) + 1 ≤ x.length := by omega
        have b2 : (k : Int) + 1 ≤ y.length := by omega
        have b3 : ((k : Int) + 1).toNat = k + 1 := by omega
        have b4 : IntKind.i64.wrap ((k : Int) + 1) = (k : Int) + 1 := IntWalk.i64_in _ (by omega)
        by_cases a3 : x[k] = y[k]
        · have HR : Hid (alike x y = (k + 1) + alike (x.drop (k + 1)) (y.drop (k + 1))) := by show _ = _; rw [hF.out, alike_step a1 a2 a3]; omega
          have HT : Hid (x.take (k + 1) = y.take (k + 1)) := by show _ = _; exact (take_same hT.out a1 a2).2 a3
          have e4 : (x.take (k + 1) == y.take (k + 1)) = true := by rw [HT.out]; simp
          clear a3 hF hT
          go_wp2_with fail
          go_quiet (fail)
          go_wp2
          go_roundg (x.length - (k + 1))
          case rel => exact ⟨k + 1, rfl, by omega, by omega, by go_num, hB.drewN _, HT, HR⟩
          case measure => rw [Hgk.out]; omega
        · have HR : Hid (alike x y = k) := by show _ = _; rw [hF.out, alike_stop a1 a2 a3]; omega
          have e4 : (x.take (k + 1) == y.take (k + 1)) = false := by
            rw [beq_eq_false_iff_ne]
            exact fun h => a3 ((take_same hT.out a1 a2).1 h)
          clear a3 hF hT
          go_wp2_with fail
          go_quiet (fail)
          go_wp2
          go_ret
          rw [HR.out]
          exact ⟨rfl, hB.drewN _⟩
      · have HR : Hid (alike x y = k) := by show _ = _; rw [hF.out, alike_end (.inr (by omega))]; omega
        have d2 : decide ((k : Int) < (y.length : Int)) = false := by simp; omega
        have d3 : decide (k < y.length) = false := by simp; omega
        clear hF hT
        go_wp2_with fail
        go_quiet (fail)
        go_wp2
        go_ret
        rw [HR.out]
        exact ⟨rfl, hB.drewN _⟩
    · have HR : Hid (alike x y = k) := by show _ = _; rw [hF.out, alike_end (.inl (by omega))]; omega
      have d2 : decide ((k : Int) < (x.length : Int)) = false := by simp; omega
      have d3 : decide (k < x.length) = false := by simp; omega
      clear hF hT
      go_wp2_with fail
      go_quiet (fail)
      go_wp2
      go_ret
      rw [HR.out]
      exact ⟨rfl, hB.drewN _⟩

set_option maxRecDepth 100000 in
set_option maxHeartbeats 1000000 in
theorem rtput_any (A : Option Addr) (n c : Nat) (ts : List (List UInt8)) (w : World) (hr : Rd w 1 A n (ts.map tx)) (hE : rowErr ts = 0) (hn : n ≤ 100000) :
    Calls Try.prog 93 #[.slice A n c] w fun e w' => e = .returned (.string ⟨(tput ts).toArray⟩) ∧ Bel w w' := by
  have hlen : Hid (ts.length = n) := by have := hr.len; show _ = _; simpa using this
  have HE := Lib.hid hE
  have hpn : (nput n).length ≤ 9 := nput_le9 _
  clear hE
  go_enter Try.func93, Try.ntmps93
  go_wp2_with fail
  refine (rputNum_any _ _ (by omega) (by omega)).mono ?_; rintro e w1 ⟨rfl, hb⟩
  rw [Int.toNat_natCast]
  have HO : Hid (tput ts = nput n ++ tputs [] (ts.drop 0)) := by show _ = _; unfold tput; rw [hlen.out]; rfl
  go_wp2
  go_loopg [3, 4, 5] n (fun g o s i wr => ∃ (k : Nat) (l was : List UInt8), g = n - k ∧ k ≤ n ∧ i = .int .i64 k ∧ o = .string ⟨l.toArray⟩ ∧ s = .string ⟨was.toArray⟩ ∧ was.length ≤ 16 ∧ l.length ≤ 9 + 34 * k ∧ Bel w wr ∧ Hid (tput ts = l ++ tputs was (ts.drop k)))
  case atStart => exact ⟨0, nput n, [], rfl, by omega, rfl, rfl, rfl, by simp, by omega, hb, HO⟩
  case round =>
    obtain ⟨k, l, was, hgk, hk, rfl, rfl, rfl, hwas, hll, hB, hF⟩ := hrel
    have Hgk := Lib.hid hgk
    clear hgk
    by_cases hlt : k < n
    · obtain ⟨ad, t, rfl, htk, hc⟩ := (hr.bel hB).tx hlt
      have hl0 : t.length ≤ 16 := rowErr_len HE.out (List.mem_of_getElem? htk)
      have HR : Hid (tput ts = (l ++ (nput (alike was t) ++ ptext (t.drop (alike was t)))) ++ tputs t (ts.drop (k + 1))) := by show _ = _; rw [hF.out, tputs_drop htk]; simp only [List.append_assoc]
      clear htk hF
      obtain ⟨hal1, hal2⟩ := alike_le was t
      have Hc := Lib.hid hc
      go_wp2_with fail
      refine (ralike_any _ _ _ (by omega) (by omega)).mono ?_; rintro e w2 ⟨rfl, hb2⟩
      replace hB := hB.trans hb2
      generalize alike was t = m at *
      have hpm : (nput m).length ≤ 9 := nput_le9 _
      have hpt : (ptext (t.drop m)).length ≤ 9 + (t.drop m).length := by unfold ptext; rw [List.length_append]; have := nput_le9 (t.drop m).length; omega
      rw [List.length_drop] at hpt
      have c1 : (0 : Int) ≤ (m : Int) := by omega
      have c2 : (m : Int) ≤ (t.length : Int) := by omega
      have hc2 := (hb2.cell (World.block_lt_of_cell? _ _ Hc.out)).trans Hc.out
      have d0 := fun u : Over w2 => Over.cell hc2 u
      clear hc hb2
      go_wp2_with fail
      refine wp_region_over (by kernel_rfl) (by kernel_rfl) ?_
      repeat (go_big_quiet_step (first | (go_at_call 94; exact calls_over (rputNum_any _ _ (by omega) (by omega))) | (go_at_call 92; exact calls_over (rputText_any _ _ (by simp; omega)))))
      refine wpQuiet_nil ?_
      rintro _ ⟨u, rfl⟩
      replace hB := hB.trans u.bel
      have hc3 := d0 u
      clear d0 hc2
      go_wp2
      go_roundg (n - (k + 1))
      case rel => exact ⟨k + 1, _, t, rfl, by omega, by go_num, by simp only [str_append, List.append_assoc, Int.toNat_natCast], rfl, hl0, by simp only [List.length_append]; omega, hB, HR⟩
      case measure => rw [Hgk.out]; omega
    · have HR : Hid (tput ts = l) := by show _ = _; rw [hF.out, List.drop_of_length_le (by have := hlen.out; omega)]; simp [tputs]
      clear hF
      go_wp2
      go_ret
      rw [HR.out]
      exact ⟨rfl, hB⟩

theorem txsEq_step {xs ys : List (List UInt8)} {k : Nat} {a b : List UInt8} (ha : xs[k]? = some a) (hb : ys[k]? = some b) : (xs.drop k == ys.drop k) = ((a == b) && (xs.drop (k + 1) == ys.drop (k + 1))) := by
  obtain ⟨h1, rfl⟩ := List.getElem?_eq_some_iff.1 ha
  obtain ⟨h2, rfl⟩ := List.getElem?_eq_some_iff.1 hb
  rw [List.drop_eq_getElem_cons h1, List.drop_eq_getElem_cons h2]
  rfl

end Go.Proofs.Ytnjpoamebkehbaa
