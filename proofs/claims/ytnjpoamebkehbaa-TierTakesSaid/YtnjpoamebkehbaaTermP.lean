/- Walks of take.PutNum, take.PutText, term.shared, term.Put. -/
import Derived.Test.YtnjpoamebkehbaaTermR
import Derived.Test.YtnjpoamebkehbaaOver
import Derived.Test.YtnjpoamebkehbaaNumW
namespace Go.Proofs.Ytnjpoamebkehbaa
open Go.RowKit
set_option linter.unusedVariables false
attribute [local go_sem] str_at str_from

/-- The bytes of a text. -/
def ptext (l : List UInt8) : List UInt8 := nput l.length ++ l

set_option maxRecDepth 100000 in
set_option maxHeartbeats 1000000 in
theorem putNum_any (x : Int) (w : World) (h0 : -9223372036854775808 ≤ x) (h1 : x ≤ 9223372036854775807) :
    Calls Try.prog 85 #[.int .i64 x] w fun e w' => e = .returned (.string ⟨(nput x.toNat).toArray⟩) ∧ Bel w w' := by
  by_cases h : 0 ≤ x
  · have hm : max x 0 = x := by omega
    go_enter Try.func85, Try.ntmps85
    go_wp2_with fail
    refine (put_any _ _ (by omega) (by omega)).mono ?_; rintro e w1 ⟨rfl, hb⟩
    go_wp2
    go_ret
    exact ⟨rfl, hb⟩
  · have hm : max x 0 = 0 := by omega
    have Hx : Hid (x.toNat = 0) := by show _ = _; omega
    rw [Hx.out]
    go_enter Try.func85, Try.ntmps85
    go_wp2_with fail
    refine (put_any _ _ (by omega) (by omega)).mono ?_; rintro e w1 ⟨rfl, hb⟩
    go_wp2
    go_ret
    exact ⟨rfl, hb⟩

set_option maxRecDepth 100000 in
set_option maxHeartbeats 1000000 in
theorem putText_any (l : List UInt8) (w : World) (hl : l.length ≤ 1000000000) :
    Calls Try.prog 84 #[.string ⟨l.toArray⟩] w fun e w' => e = .returned (.string ⟨(ptext l).toArray⟩) ∧ Bel w w' := by
  have hpl : (nput l.length).length ≤ 9 := by rw [nput_length]; exact nsize_le _
  go_enter Try.func84, Try.ntmps84
  go_wp2_with fail
  refine (putNum_any _ _ (by omega) (by omega)).mono ?_; rintro e w1 ⟨rfl, hb⟩
  rw [Int.toNat_natCast]
  go_wp2
  go_ret
  rw [str_append]
  exact ⟨rfl, hb⟩

/-- How many bytes two texts begin with alike. -/
def alike : List UInt8 → List UInt8 → Nat
  | a :: x, b :: y => if a = b then alike x y + 1 else 0
  | _, _ => 0
theorem alike_le (x y : List UInt8) : alike x y ≤ x.length ∧ alike x y ≤ y.length := by
  induction x generalizing y with
  | nil => simp [alike]
  | cons a x ih =>
    cases y with
    | nil => simp [alike]
    | cons b y =>
      rw [alike]
      have := ih y
      split <;> simp <;> omega
theorem alike_step {x y : List UInt8} {k : Nat} (h1 : k < x.length) (h2 : k < y.length) (h : x[k] = y[k]) : alike (x.drop k) (y.drop k) = alike (x.drop (k + 1)) (y.drop (k + 1)) + 1 := by
  rw [List.drop_eq_getElem_cons h1, List.drop_eq_getElem_cons h2, alike, if_pos h]
theorem alike_stop {x y : List UInt8} {k : Nat} (h1 : k < x.length) (h2 : k < y.length) (h : ¬ x[k] = y[k]) : alike (x.drop k) (y.drop k) = 0 := by
  rw [List.drop_eq_getElem_cons h1, List.drop_eq_getElem_cons h2, alike, if_neg h]
theorem alike_end {x y : List UInt8} {k : Nat} (h : x.length ≤ k ∨ y.length ≤ k) : alike (x.drop k) (y.drop k) = 0 := by
  have := alike_le (x.drop k) (y.drop k)
  rw [List.length_drop, List.length_drop] at this
  omega

set_option maxRecDepth 100000 in
set_option maxHeartbeats 1000000 in
theorem shared_any (x y : List UInt8) (w : World) (hx : x.length ≤ 9223372036854775807) (hy : y.length ≤ 9223372036854775807) :
    Calls Try.prog 133 #[.string ⟨x.toArray⟩, .string ⟨y.toArray⟩] w fun e w' => e = .returned (.int .i64 (alike x y : Nat)) ∧ Bel w w' := by
  go_enter Try.func133, Try.ntmps133
  go_wp2
  go_loopg [5] x.length (fun g i wr => ∃ k : Nat, g = x.length - k ∧ k ≤ x.length ∧ k ≤ y.length ∧ i = .int .i64 k ∧ Bel w wr ∧ Hid (alike x y = k + alike (x.drop k) (y.drop k)))
  case atStart => exact ⟨0, rfl, by omega, by omega, rfl, Bel.refl _, by show _ = _; simp⟩
  case round =>
    obtain ⟨k, hgk, hkx, hky, rfl, hB, hF⟩ := hrel
    have Hgk := Lib.hid hgk
    clear hgk
    by_cases a1 : k < x.length
    · by_cases a2 : k < y.length
      · by_cases a3 : x[k] = y[k]
        · have HR : Hid (alike x y = (k + 1) + alike (x.drop (k + 1)) (y.drop (k + 1))) := by show _ = _; rw [hF.out, alike_step a1 a2 a3]; omega
          have e3 : ((x[k].toNat : Int) == (y[k].toNat : Int)) = true := by rw [a3]; simp
          have e4 : (x[k].toNat == y[k].toNat) = true := by rw [a3]; simp
          clear a3 hF
          go_wp2_with fail
          go_quiet (fail)
          go_wp2
          go_roundg (x.length - (k + 1))
          case rel => exact ⟨k + 1, rfl, by omega, by omega, by go_num, hB.drewN _, HR⟩
          case measure => rw [Hgk.out]; omega
        · have HR : Hid (alike x y = k) := by show _ = _; rw [hF.out, alike_stop a1 a2 a3]; omega
          have e5 : ¬ x[k].toNat = y[k].toNat := fun h => a3 (UInt8.toNat_inj.1 h)
          have e3 : ((x[k].toNat : Int) == (y[k].toNat : Int)) = false := by simp; omega
          have e4 : (x[k].toNat == y[k].toNat) = false := by simp; omega
          clear a3 e5 hF
          go_wp2_with fail
          go_quiet (fail)
          go_wp2
          go_ret
          rw [HR.out]
          exact ⟨rfl, hB.drewN _⟩
      · have HR : Hid (alike x y = k) := by show _ = _; rw [hF.out, alike_end (.inr (by omega))]; omega
        have d2 : decide ((k : Int) < (y.length : Int)) = false := by simp; omega
        have d3 : decide (k < y.length) = false := by simp; omega
        clear hF
        go_wp2_with fail
        go_quiet (fail)
        go_wp2
        go_ret
        rw [HR.out]
        exact ⟨rfl, hB.drewN _⟩
    · have HR : Hid (alike x y = k) := by show _ = _; rw [hF.out, alike_end (.inl (by omega))]; omega
      have d2 : decide ((k : Int) < (x.length : Int)) = false := by simp; omega
      have d3 : decide (k < x.length) = false := by simp; omega
      clear hF
      go_wp2_with fail
      go_quiet (fail)
      go_wp2
      go_ret
      rw [HR.out]
      exact ⟨rfl, hB.drewN _⟩

/-- The bytes of texts, one behind the other; and of a row. -/
def tputs : List UInt8 → List (List UInt8) → List UInt8
  | _, [] => []
  | was, t :: r => (nput (alike was t) ++ ptext (t.drop (alike was t))) ++ tputs t r
def tput (ts : List (List UInt8)) : List UInt8 := nput ts.length ++ tputs [] ts
/-- What term.Put answers. -/
def tputV (ts : List (List UInt8)) : List UInt8 × Int := if rowErr ts = 0 then (tput ts, 0) else ([], rowErr ts)
theorem tputs_drop {ts : List (List UInt8)} {k : Nat} {t was : List UInt8} (h : ts[k]? = some t) :
    tputs was (ts.drop k) = (nput (alike was t) ++ ptext (t.drop (alike was t))) ++ tputs t (ts.drop (k + 1)) := by
  obtain ⟨hk, rfl⟩ := List.getElem?_eq_some_iff.1 h
  rw [List.drop_eq_getElem_cons hk]
  rfl
theorem rowFrom_terms {ts : List (List UInt8)} {p : Option (List UInt8)} (h : rowFrom p ts = 0) : ∀ t ∈ ts, isTerm t = true := by
  induction ts generalizing p with
  | nil => simp
  | cons t r ih =>
    rw [rowFrom] at h
    split at h
    · rename_i ht
      split at h
      · cases h
      · intro u hu
        rcases List.mem_cons.1 hu with rfl | hu
        · exact ht
        · exact ih h u hu
    · cases h
theorem rowErr_len {ts : List (List UInt8)} (h : rowErr ts = 0) {t : List UInt8} (ht : t ∈ ts) : t.length ≤ 16 := by
  have := rowFrom_terms h t ht
  unfold isTerm at this
  simp at this
  omega
theorem nput_le9 (n : Nat) : (nput n).length ≤ 9 := by rw [nput_length]; exact nsize_le _

/-- Not above is below or the same. -/
theorem less_le (q t : List UInt8) : (Op.bytesLess t q || t == q) = !Op.bytesLess q t := by
  induction t generalizing q with
  | nil => cases q <;> simp [Op.bytesLess]
  | cons a t ih =>
    cases q with
    | nil => simp [Op.bytesLess]
    | cons b q =>
      have h := ih q
      simp only [Op.bytesLess]
      rcases Nat.lt_trichotomy a.toNat b.toNat with h1 | h1 | h1
      · have x1 : a < b := h1
        have x2 : ¬ b < a := fun h => by have : b.toNat < a.toNat := h; omega
        have x3 : b ≠ a := fun h => by subst h; omega
        simp [x1, x2, x3]
      · have x1 : a = b := UInt8.toNat_inj.1 h1
        subst x1
        simp only [UInt8.lt_irrefl, decide_false, Bool.false_or, beq_self_eq_true, Bool.true_and]
        rw [← h]
        simp
      · have x1 : b < a := h1
        have x2 : ¬ a < b := fun h => by have : a.toNat < b.toNat := h; omega
        have x3 : a ≠ b := fun h => by subst h; omega
        simp [x1, x2, x3]

set_option maxRecDepth 100000 in
set_option maxHeartbeats 1000000 in
theorem tput_any (A : Option Addr) (n c : Nat) (ts : List (List UInt8)) (w : World) (hr : Rd w 1 A n (ts.map tx)) (ht : TxOk ts) (hn : n ≤ 100000) :
    Calls Try.prog 83 #[.slice A n c] w fun e w' => e = .returned (.tuple #[.string ⟨(tputV ts).1.toArray⟩, .int .i64 (tputV ts).2]) ∧ Bel w w' := by
  have hlen : Hid (ts.length = n) := by have := hr.len; show _ = _; simpa using this
  have Ht := Lib.hid ht
  by_cases hE : rowErr ts = 0
  · have HV : Hid (tputV ts = (tput ts, 0)) := by show _ = _; unfold tputV; rw [if_pos hE]
    rw [HV.out]
    have HE := Lib.hid hE
    have hpn : (nput n).length ≤ 9 := nput_le9 _
    go_enter Try.func83, Try.ntmps83
    go_wp2_with fail
    refine (trow_any A n c ts _ hr ht (by omega)).mono ?_; rintro e w1 ⟨rfl, rfl⟩
    rw [HE.out]
    clear hE ht
    go_wp2_with fail
    refine (putNum_any _ _ (by omega) (by omega)).mono ?_; rintro e w1 ⟨rfl, hb⟩
    rw [Int.toNat_natCast]
    have HO : Hid (tput ts = nput n ++ tputs [] (ts.drop 0)) := by show _ = _; unfold tput; rw [hlen.out]; rfl
    go_wp2
    go_loopg [5, 6, 20] n (fun g o s i wr => ∃ (k : Nat) (l was : List UInt8), g = n - k ∧ k ≤ n ∧ i = .int .i64 k ∧ o = .string ⟨l.toArray⟩ ∧ s = .string ⟨was.toArray⟩ ∧ was.length ≤ 16 ∧ l.length ≤ 9 + 34 * k ∧ Bel w wr ∧ Hid (tput ts = l ++ tputs was (ts.drop k)))
    case atStart => exact ⟨0, nput n, [], rfl, by omega, rfl, rfl, rfl, by simp, by omega, hb, HO⟩
    case round =>
      obtain ⟨k, l, was, hgk, hk, rfl, rfl, rfl, hwas, hll, hB, hF⟩ := hrel
      have Hgk := Lib.hid hgk
      clear hgk
      by_cases hlt : k < n
      · obtain ⟨ad, t, rfl, htk, hc⟩ := (hr.bel hB).tx hlt
        have hl0 : t.length ≤ 16 := rowErr_len HE.out (List.mem_of_getElem? htk)
        have HR : Hid (tput ts = (l ++ (nput (alike was t) ++ ptext (t.drop (alike was t)))) ++ tputs t (ts.drop (k + 1))) := by show _ = _; rw [hF.out, tputs_drop htk]; simp only [List.append_assoc]
        clear htk hF
        obtain ⟨hal1, hal2⟩ := alike_le was t
        go_wp2_with fail
        refine (shared_any _ _ _ (by omega) (by omega)).mono ?_; rintro e w2 ⟨rfl, hb2⟩
        replace hB := hB.trans hb2
        generalize alike was t = m at *
        have hpm : (nput m).length ≤ 9 := nput_le9 _
        have hpt : (ptext (t.drop m)).length ≤ 9 + (t.drop m).length := by unfold ptext; rw [List.length_append]; have := nput_le9 (t.drop m).length; omega
        rw [List.length_drop] at hpt
        have c1 : (0 : Int) ≤ (m : Int) := by omega
        have c2 : (m : Int) ≤ (t.length : Int) := by omega
        go_wp2_with fail
        refine wp_region_over (by kernel_rfl) (by kernel_rfl) ?_
        repeat (go_big_quiet_step (first | (go_at_call 85; exact calls_over (putNum_any _ _ (by omega) (by omega))) | (go_at_call 84; exact calls_over (putText_any _ _ (by simp; omega)))))
        refine wpQuiet_nil ?_
        rintro _ ⟨u, rfl⟩
        replace hB := hB.trans u.bel
        go_wp2
        go_roundg (n - (k + 1))
        case rel => exact ⟨k + 1, _, t, rfl, by omega, by go_num, by rw [str_append, str_append], rfl, hl0, by simp only [List.length_append]; omega, hB, HR⟩
        case measure => rw [Hgk.out]; omega
      · have HR : Hid (tput ts = l) := by show _ = _; rw [hF.out, List.drop_of_length_le (by have := hlen.out; omega)]; simp [tputs]
        clear hF
        go_wp2
        go_ret2
        rw [HR.out]
        exact ⟨rfl, hB⟩
  · have HV : Hid (tputV ts = ([], rowErr ts)) := by show _ = _; unfold tputV; rw [if_neg hE]
    rw [HV.out]
    have hE2 : (rowErr ts != 0) = true := by simp [hE]
    go_enter Try.func83, Try.ntmps83
    go_wp2_with fail
    refine (trow_any A n c ts _ hr ht (by omega)).mono ?_; rintro e w1 ⟨rfl, rfl⟩
    clear hE ht
    go_wp2
    go_ret2
    exact ⟨rfl, Bel.refl _⟩

theorem awake05_val : tputV [[97, 98], [97, 98, 99]] = ([2, 0, 2, 97, 98, 2, 1, 99], 0) := by decide

set_option maxRecDepth 100000 in
set_option maxHeartbeats 1000000 in
theorem rtrow_any (A : Option Addr) (n c : Nat) (ts : List (List UInt8)) (w : World) (hr : Rd w 1 A n (ts.map tx)) (ht : TxOk ts) (hn : n ≤ 100000) :
    Calls Try.prog 86 #[.slice A n c] w fun e w' => e = .returned (.int .i64 (rowErr ts)) ∧ Bel w w' := by
  have hlen : Hid (ts.length = n) := by have := hr.len; show _ = _; simpa using this
  have Ht := Lib.hid ht
  clear ht
  go_enter Try.func86, Try.ntmps86
  go_wp2
  go_loopg [3] n (fun g i wr => ∃ k : Nat, g = n - k ∧ k ≤ n ∧ i = .int .i64 k ∧ Bel w wr ∧ Hid (rowErr ts = rowFrom (if k = 0 then none else ts[k - 1]?) (ts.drop k)))
  case atStart => exact ⟨0, rfl, by omega, rfl, Bel.refl _, rfl⟩
  case round =>
    obtain ⟨k, hgk, hk, rfl, hB, hF⟩ := hrel
    have Hgk := Lib.hid hgk
    clear hgk
    by_cases hlt : k < n
    · obtain ⟨ad, t, rfl, htk, hc⟩ := (hr.bel hB).tx hlt
      have hl0 : t.length ≤ 9223372036854775807 := Ht.out t (List.mem_of_getElem? htk)
      have Htk := Lib.hid htk
      clear htk
      cases hT : isTerm t with
      | false =>
        have HR : Hid (rowErr ts = 2) := by show _ = _; rw [hF.out, rowFrom_drop Htk.out, hT]; rfl
        clear hF
        go_wp2_with fail
        refine (is_any _ _ hl0).mono ?_; rintro e w1 ⟨rfl, rfl⟩
        rw [hT]
        go_wp2
        go_ret
        rw [HR.out]
        exact ⟨rfl, hB⟩
      | true =>
        by_cases k0 : k = 0
        · subst k0
          have hc0 : wr.cell? ad = some (.string ⟨t.toArray⟩) := hc
          have HR : Hid (rowErr ts = rowFrom (if 0 + 1 = 0 then none else ts[0 + 1 - 1]?) (ts.drop (0 + 1))) := by
            show _ = _
            rw [hF.out, rowFrom_drop Htk.out, hT]
            simp [Htk.out]
          clear hF
          go_wp2_with fail
          refine (is_any _ _ hl0).mono ?_; rintro e w1 ⟨rfl, rfl⟩
          rw [hT]
          go_wp2_with fail
          go_quiet (fail)
          go_wp2
          go_roundg (n - (0 + 1))
          case rel => exact ⟨0 + 1, rfl, by omega, by go_num, hB.drewN _, HR⟩
          case measure => rw [Hgk.out]; omega
        · obtain ⟨ad', q, e, hq, hcq⟩ := (hr.bel hB).tx (k := k - 1) (by omega)
          injection e with e
          subst e
          have Hq := Lib.hid hq
          clear hq
          have e1 : ((k : Int) - 1).toNat = k - 1 := by omega
          have k1 : decide (0 < (k : Int)) = true := by simp; omega
          have k2 : decide (0 < k) = true := by simp; omega
          have wr1 : IntKind.i64.wrap ((k : Int) - 1) = (k : Int) - 1 := IntWalk.i64_in _ (by omega)
          have hle := less_le q t
          cases hL : Op.bytesLess q t with
          | true =>
            have HR : Hid (rowErr ts = rowFrom (if k + 1 = 0 then none else ts[k + 1 - 1]?) (ts.drop (k + 1))) := by
              show _ = _
              rw [hF.out, rowFrom_drop Htk.out, hT, if_neg k0, Hq.out]
              simp [Htk.out, hL]
            clear hF
            rw [hL] at hle
            go_wp2_with fail
            refine (is_any _ _ hl0).mono ?_; rintro e w1 ⟨rfl, rfl⟩
            rw [hT]
            go_wp2_with fail
            go_quiet (fail)
            go_wp2
            go_roundg (n - (k + 1))
            case rel => exact ⟨k + 1, rfl, by omega, by go_num, hB.drewN _, HR⟩
            case measure => rw [Hgk.out]; omega
          | false =>
            have HR : Hid (rowErr ts = 4) := by
              show _ = _
              rw [hF.out, rowFrom_drop Htk.out, hT, if_neg k0, Hq.out]
              simp [hL]
            clear hF
            rw [hL] at hle
            go_wp2_with fail
            refine (is_any _ _ hl0).mono ?_; rintro e w1 ⟨rfl, rfl⟩
            rw [hT]
            go_wp2_with fail
            go_quiet (fail)
            go_wp2
            go_ret
            rw [HR.out]
            exact ⟨rfl, hB.drewN _⟩
    · have HR : Hid (rowErr ts = 0) := by show _ = _; rw [hF.out, List.drop_of_length_le (by have := hlen.out; omega)]; rfl
      clear hF
      go_wp2
      go_ret
      rw [HR.out]
      exact ⟨rfl, hB⟩

end Go.Proofs.Ytnjpoamebkehbaa
