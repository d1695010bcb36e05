/- The walk of the document's Take. -/
import Derived.Test.YtnjpoamebkehbaaNumTW
import Derived.Test.YtnjpoamebkehbaaNumR
import Derived.IntWalk
namespace Go.Proofs.Ytnjpoamebkehbaa
open Go.RowKit
set_option linter.unusedVariables false
attribute [local go_sem] str_at

theorem rlead_same (x : Int) (w : World) (h1 : 1 ≤ x) (h2 : x ≤ 9) :
    Calls Try.prog 160 #[.int .i64 x] w fun e w' => e = .returned (.int .i64 (lead x.toNat : Nat)) ∧ w' = w :=
  (rlead_any x w h1 h2).mono fun _ _ h => ⟨h.1, h.2.symm⟩

set_option maxRecDepth 100000 in
set_option maxHeartbeats 1000000 in
theorem rtake_nil (w : World) : Calls Try.prog 161 #[.string ⟨([] : List UInt8).toArray⟩] w fun e w' => e = .returned (.tuple #[.int .u64 0, .int .i64 0, .bool false]) ∧ Bel w w' := by
  go_enter Try.func161, Try.ntmps161
  go_wp2
  go_loopw [5] (fun i wr => ∃ k : Nat, 1 ≤ k ∧ k ≤ 10 ∧ i = .int .i64 k ∧ Bel w wr) (fun i _ => 10 - (intOf i).toNat)
  case atStart => exact ⟨1, by omega, by omega, rfl, Bel.refl _⟩
  case round =>
    obtain ⟨k, hk1, hk2, rfl, hB⟩ := hrel
    by_cases hlt : k ≤ 9
    · have d1 : 0 < k := by omega
      go_wp2_with fail
      go_quiet (fail)
      go_wp2
      go_roundw
      case rel => exact ⟨k + 1, by omega, by omega, by go_num, hB.drewN _⟩
      case measure => simp [intOf]; omega
    · go_wp2
      go_ret3
      exact ⟨rfl, hB⟩

theorem rlead_nat (k : Nat) (w : World) (h1 : 1 ≤ k) (h2 : k ≤ 9) :
    Calls Try.prog 160 #[.int .i64 k] w fun e w' => e = .returned (.int .i64 (lead k : Nat)) ∧ w' = w := by
  have := rlead_same k w (by omega) (by omega)
  rwa [Int.toNat_natCast] at this
theorem rlead_succ (k : Nat) (w : World) (h2 : k + 1 ≤ 9) :
    Calls Try.prog 160 #[.int .i64 ((k : Int) + 1)] w fun e w' => e = .returned (.int .i64 (lead (k + 1) : Nat)) ∧ w' = w := by
  have := rlead_nat (k + 1) w (by omega) (by omega)
  rwa [show ((k + 1 : Nat) : Int) = (k : Int) + 1 by omega] at this
theorem ext_toList (l : List UInt8) (k : Nat) : (ByteArray.extract ⟨l.toArray⟩ 0 k).toList = l.take k := by
  rw [str_extract, ByteArray.toList_eq]
  simp
theorem lead_le (k : Nat) : lead k ≤ 256 := Nat.sub_le _ _

/-- Of the sizes the first byte fits one alone. -/
theorem size_cases (c k : Nat) (hc : c < 256) (h1 : 1 ≤ k) (h9 : k ≤ 9) : (c < lead k ∧ fsize c < k) ∨ (lead k ≤ c ∧ k < 9 ∧ lead (k + 1) ≤ c ∧ k < fsize c) ∨ (lead k ≤ c ∧ fsize c = k ∧ (k < 9 → c < lead (k + 1))) := by
  obtain ⟨l1, l2, l3, _⟩ := fsize_lead c hc
  have p1 := fsize_pos c
  have p2 := fsize_le c
  rcases Nat.lt_trichotomy (fsize c) k with h | h | h
  · have := lead_mono h h9
    left
    refine ⟨?_, h⟩
    have := l2 (by omega)
    omega
  · subst h
    exact .inr (.inr ⟨l1, rfl, l2⟩)
  · have h2 := lead_mono h p2
    have h3 : lead k ≤ lead (k + 1) := by
      unfold lead
      have : (2 : Nat) ^ (9 - (k + 1)) ≤ 2 ^ (9 - k) := Nat.pow_le_pow_right (by omega) (by omega)
      omega
    exact .inr (.inl ⟨by omega, by omega, by omega, h⟩)

set_option maxRecDepth 100000 in
set_option maxHeartbeats 2000000 in
theorem rtake_cons (c : UInt8) (r : List UInt8) (w : World) (hr : r.length ≤ 1000000) :
    Calls Try.prog 161 #[.string ⟨(c :: r).toArray⟩] w fun e w' => e = .returned (.tuple #[.int .u64 ((ntake (c :: r)).1 : Nat), .int .i64 ((ntake (c :: r)).2.1 : Nat), .bool (ntake (c :: r)).2.2]) ∧ Bel w w' := by
  have hc' := c.toNat_lt
  go_enter Try.func161, Try.ntmps161
  go_wp2
  go_loopw [5] (fun i wr => ∃ k : Nat, 1 ≤ k ∧ k ≤ 10 ∧ i = .int .i64 k ∧ Bel w wr ∧ Hid (fsize c.toNat < k → ntake (c :: r) = (0, 0, false))) (fun i _ => 10 - (intOf i).toNat)
  case atStart => exact ⟨1, by omega, by omega, rfl, Bel.refl _, fun h => by have := fsize_pos c.toNat; omega⟩
  case round =>
    obtain ⟨k, hk1, hk2, rfl, hB, Hk⟩ := hrel
    by_cases hlt : k ≤ 9
    · by_cases hA : r.length + 1 < k
      · have Hn : Hid (fsize c.toNat < k + 1 → ntake (c :: r) = (0, 0, false)) := by
          intro h
          rcases Nat.lt_or_ge (fsize c.toNat) k with h' | h'
          · exact Hk.out h'
          · rw [ntake, if_pos (by omega)]
        have d1 : decide ((r.length : Int) + 1 < (k : Int)) = true := by simp; omega
        clear Hk
        go_wp2_with fail
        go_quiet (fail)
        go_wp2
        go_roundw
        case rel => exact ⟨k + 1, by omega, by omega, by go_num, hB.drewN _, Hn⟩
        case measure => simp [intOf]; omega
      · have d1 : decide ((r.length : Int) + 1 < (k : Int)) = false := by simp; omega
        rcases size_cases c.toNat k hc' hk1 hlt with ⟨h1, h2⟩ | ⟨h1, h2, h3, h4⟩ | ⟨h1, h2, h3⟩
        · have Hn : Hid (fsize c.toNat < k + 1 → ntake (c :: r) = (0, 0, false)) := fun _ => Hk.out h2
          clear Hk
          go_wp2_with fail
          go_quiet ((go_at_call 160; exact Calls.quiet_of_same (rlead_nat _ _ (by omega) (by omega))))
          go_wp2
          go_roundw
          case rel => exact ⟨k + 1, by omega, by omega, by go_num, hB.drewN _, Hn⟩
          case measure => simp [intOf]; omega
        · have Hn : Hid (fsize c.toNat < k + 1 → ntake (c :: r) = (0, 0, false)) := fun h => by omega
          have d2 : decide (c.toNat < lead k) = false := by simp; omega
          have d3 : decide (lead (k + 1) ≤ c.toNat) = true := by simp; omega
          have d4 : decide ((k : Int) < 9) = true := by simp; omega
          have wr1 : IntKind.i64.wrap ((k : Int) + 1) = (k : Int) + 1 := IntWalk.i64_in _ (by omega)
          have wr0 : IntKind.i64.wrap (c.toNat : Int) = (c.toNat : Int) := IntWalk.i64_in _ (by omega)
          clear Hk
          go_wp2_with fail
          go_quiet (first | (go_at_call 160; exact Calls.quiet_of_same (rlead_nat _ _ (by omega) (by omega))) | (go_at_call 160; exact Calls.quiet_of_same (rlead_succ _ _ (by omega))))
          clear wr1 wr0
          go_wp2
          go_roundw
          case rel => exact ⟨k + 1, by omega, by omega, by go_num, hB.drewN _, Hn⟩
          case measure => simp [intOf]; omega
        · have H3 := Lib.hid h3
          have dk9 : decide ((k : Int) ≤ 9) = true := by simp; omega
          have d2 : decide (c.toNat < lead k) = false := by simp; omega
          have wr0 : IntKind.i64.wrap (c.toNat : Int) = (c.toNat : Int) := IntWalk.i64_in _ (by omega)
          have h2' := Lib.hid h2
          clear Hk h3 h2
          go_wp2_with fail
          have hcl : (c.toNat : Int) - ((lead k : Nat) : Int) = ((c.toNat - lead k : Nat) : Int) := by omega
          have wr2 : IntKind.i64.wrap ((c.toNat : Int) - ((lead k : Nat) : Int)) = (c.toNat : Int) - ((lead k : Nat) : Int) := IntWalk.i64_in _ (by omega)
          have wr3 : IntKind.u64.wrap ((c.toNat - lead k : Nat) : Int) = ((c.toNat - lead k : Nat) : Int) := by rw [IntKind.wrap_u64]; omega
          rcases Nat.lt_or_ge k 9 with k9 | k9
          case' inl =>
            have h4 := H3.out k9
            have d3 : decide (lead (k + 1) ≤ c.toNat) = false := by simp; omega
            have d4 : decide ((k : Int) < 9) = true := by simp; omega
            have wr1 : IntKind.i64.wrap ((k : Int) + 1) = (k : Int) + 1 := IntWalk.i64_in _ (by omega)
            go_quiet (first | (go_at_call 160; exact Calls.quiet_of_same (rlead_nat _ _ (by omega) (by omega))) | (go_at_call 160; exact Calls.quiet_of_same (rlead_succ _ _ (by omega))))
            go_wp2_with fail
            go_quiet (first | (go_at_call 160; exact quiet_more (rlead_nat _ _ (by omega) (by omega))))
            clear wr0 wr1 wr2 wr3 hcl d3 d4 h4
            go_wp2_with fail
          case' inr =>
            have d3 : decide ((k : Int) < 9) = false := by simp; omega
            go_quiet (first | (go_at_call 160; exact Calls.quiet_of_same (rlead_nat _ _ (by omega) (by omega))))
            go_wp2_with fail
            go_quiet (first | (go_at_call 160; exact quiet_more (rlead_nat _ _ (by omega) (by omega))))
            clear wr0 wr2 wr3 hcl d3
            go_wp2_with fail
          all_goals
            obtain ⟨d, Hd⟩ : ∃ d : Nat, Hid (c.toNat - lead k = d) := ⟨_, rfl⟩
            rw [Hd.out, World.drewN_drewN]
            clear d2 H3
            go_loop [6, 7] (fun n i => ∃ j p : Nat, j + 1 ≤ k ∧ i = .int .i64 ((j : Int) + 1) ∧ n = .int .u64 p ∧ Hid (p = pval d r j)) (fun _ i => k - (intOf i).toNat)
            case atStart => exact ⟨0, d, by omega, by simp, rfl, (pval_zero d r).symm⟩
            case round =>
              obtain ⟨j, p, hj, rfl, rfl, hp⟩ := hrel
              by_cases hjk : j + 1 < k
              · have hkr : j < r.length := by omega
                have b1 : p < 72057594037927936 := by
                  have := pval_lt c.toNat hc' r j (by rw [h2'.out]; omega) (by omega)
                  rw [h2'.out, Hd.out] at this
                  rw [hp.out]
                  exact this
                have b2 := r[j].toNat_lt
                have Hst := Lib.hid (pval_step d r j hkr)
                go_wp2
                go_round
                case rel => exact ⟨j + 1, p * 256 + r[j].toNat, by omega, by go_num, by go_num, by rw [hp.out]; exact Hst.out.symm⟩
                case measure => simp [intOf]; omega
              · have hjk' : j + 1 = k := by omega
                have Hp : Hid (tval c.toNat r = p) := by
                  show tval c.toNat r = p
                  unfold tval
                  rw [h2'.out, Hd.out, hp.out, ← hjk']
                  rfl
                have Hlt : Hid (p < 18446744073709551616) := by rw [← Hp.out]; exact tval_lt c r (by rw [h2'.out]; exact hA)
                clear hp hjk'
                have hA' : ¬ r.length + 1 < fsize c.toNat := by rw [h2'.out]; exact hA
                have HF := Lib.hid (form_iff c r hA')
                have HN : Hid (ntake (c :: r) = if nsize p = k then (p, k, true) else (0, 0, false)) := by
                  show _ = _
                  rw [ntake, if_neg hA', h2'.out, Hp.out]
                rw [h2'.out, Hp.out] at HF
                clear hA'
                by_cases hz : nsize p = k
                · have q7 : (nput p == (ByteArray.extract ⟨(c :: r).toArray⟩ 0 k).toList) = true := by
                    rw [ext_toList, beq_iff_eq]
                    exact HF.out.2 hz
                  have Hf : Hid (ntake (c :: r) = (p, k, true)) := by show _ = _; rw [HN.out, if_pos hz]
                  clear hz HF HN
                  go_wp2_with fail
                  go_region_with (go_at_call 138; refine (rput_any _ _ (by omega) (by have := Hlt.out; omega)).mono ?_; rintro e w3 ⟨rfl, hb⟩; rw [Int.toNat_natCast])
                  all_goals
                    go_wp2
                    go_ret3
                    rw [Hf.out]
                    exact ⟨rfl, (hB.drewN _).trans hb⟩
                · have q7 : (nput p == (ByteArray.extract ⟨(c :: r).toArray⟩ 0 k).toList) = false := by
                    rw [ext_toList, beq_eq_false_iff_ne]
                    exact fun h => hz (HF.out.1 h)
                  have Hn : Hid (fsize c.toNat < k + 1 → ntake (c :: r) = (0, 0, false)) := fun _ => by rw [HN.out, if_neg hz]
                  clear hz HF HN
                  go_wp2_with fail
                  go_region_with (go_at_call 138; refine (rput_any _ _ (by omega) (by have := Hlt.out; omega)).mono ?_; rintro e w3 ⟨rfl, hb⟩; rw [Int.toNat_natCast])
                  all_goals
                    go_wp2
                    go_roundw
                    case rel => exact ⟨k + 1, by omega, by omega, by go_num, (hB.drewN _).trans hb, Hn⟩
                    case measure => simp [intOf]; omega
    · have Hn : Hid (ntake (c :: r) = (0, 0, false)) := Hk.out (by have := fsize_le c.toNat; omega)
      clear Hk
      go_wp2
      go_ret3
      rw [Hn.out]
      exact ⟨rfl, hB⟩

/-- The document's Take. -/
theorem rtake_any (l : List UInt8) (w : World) (hl : l.length ≤ 1000001) :
    Calls Try.prog 161 #[.string ⟨l.toArray⟩] w fun e w' => e = .returned (.tuple #[.int .u64 ((ntake l).1 : Nat), .int .i64 ((ntake l).2.1 : Nat), .bool (ntake l).2.2]) ∧ Bel w w' := by
  cases l with
  | nil => exact rtake_nil w
  | cons c r => exact rtake_cons c r w (by simpa using hl)

end Go.Proofs.Ytnjpoamebkehbaa
