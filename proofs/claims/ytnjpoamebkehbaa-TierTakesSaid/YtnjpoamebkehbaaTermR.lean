/- Rows of texts: how many bytes they have; whether they are few; whether they rise. -/
import Derived.Test.YtnjpoamebkehbaaTermW
namespace Go.Proofs.Ytnjpoamebkehbaa
open Go.RowKit
set_option linter.unusedVariables false
attribute [local go_sem] str_at

/-- A text as a value. -/
abbrev tx (l : List UInt8) : Value := .string ⟨l.toArray⟩
/-- Every text is a string of this machine. -/
def TxOk (ts : List (List UInt8)) : Prop := ∀ t ∈ ts, t.length ≤ 9223372036854775807

theorem Rd.tx {w : World} {A : Option Addr} {n k : Nat} {ts : List (List UInt8)} (h : Rd w 1 A n (ts.map tx)) (hk : k < n) :
    ∃ ad t, A = some ad ∧ ts[k]? = some t ∧ w.cell? (ad.add k) = some (.string ⟨t.toArray⟩) := by
  obtain ⟨ad, u, e, _, hx, hc⟩ := Reads.at_ h hk
  rw [List.getElem?_map] at hx
  cases hz : ts[k]? with
  | none => rw [hz] at hx; cases hx
  | some z =>
    rw [hz] at hx
    simp at hx
    subst hx
    exact ⟨ad, z, e, rfl, hc⟩

/-- How many bytes texts have, as the program counts. -/
def bytesFrom (n : Nat) : List (List UInt8) → Nat
  | [] => n
  | t :: r => if 1000000 ≤ n + min t.length 1000000 then n + min t.length 1000000 else bytesFrom (n + min t.length 1000000) r
def fewOf (ts : List (List UInt8)) : Bool := decide (ts.length ≤ 120) && decide (bytesFrom 0 ts ≤ 3000)
theorem bytesFrom_sum (ts : List (List UInt8)) (n : Nat) (h : bytesFrom n ts ≤ 3000) : n + (ts.map List.length).sum ≤ 3000 := by
  induction ts generalizing n with
  | nil => simpa [bytesFrom] using h
  | cons t r ih =>
    rw [bytesFrom] at h
    split at h
    · omega
    · have := ih _ h
      simp only [List.map_cons, List.sum_cons]
      omega
theorem bytesFrom_drop {ts : List (List UInt8)} {k n : Nat} {t : List UInt8} (h : ts[k]? = some t) :
    bytesFrom n (ts.drop k) = if 1000000 ≤ n + min t.length 1000000 then n + min t.length 1000000 else bytesFrom (n + min t.length 1000000) (ts.drop (k + 1)) := by
  obtain ⟨hk, rfl⟩ := List.getElem?_eq_some_iff.1 h
  rw [List.drop_eq_getElem_cons hk]
  rfl

/-- The first thing that is wrong with a row of texts. -/
def rowFrom (p : Option (List UInt8)) : List (List UInt8) → Int
  | [] => 0
  | t :: r => if isTerm t then (if (p.any fun q => !Op.bytesLess q t) then 4 else rowFrom (some t) r) else 2
def rowErr (ts : List (List UInt8)) : Int := rowFrom none ts
theorem rowFrom_drop {ts : List (List UInt8)} {k : Nat} {t : List UInt8} {p : Option (List UInt8)} (h : ts[k]? = some t) :
    rowFrom p (ts.drop k) = if isTerm t then (if (p.any fun q => !Op.bytesLess q t) then 4 else rowFrom (some t) (ts.drop (k + 1))) else 2 := by
  obtain ⟨hk, rfl⟩ := List.getElem?_eq_some_iff.1 h
  rw [List.drop_eq_getElem_cons hk]
  rfl

set_option maxRecDepth 100000 in
set_option maxHeartbeats 1000000 in
theorem trow_any (A : Option Addr) (n c : Nat) (ts : List (List UInt8)) (w : World) (hr : Rd w 1 A n (ts.map tx)) (ht : TxOk ts) (hn : n ≤ 100000) :
    Calls Try.prog 89 #[.slice A n c] w fun e w' => e = .returned (.int .i64 (rowErr ts)) ∧ w = w' := by
  have hlen : Hid (ts.length = n) := by have := hr.len; show _ = _; simpa using this
  have Ht := Lib.hid ht
  clear ht
  go_enter Try.func89, Try.ntmps89
  go_wp2
  go_loopg [8] n (fun g i wr => ∃ k : Nat, g = n - k ∧ k ≤ n ∧ i = .int .i64 k ∧ wr = w ∧ Hid (rowErr ts = rowFrom (if k = 0 then none else ts[k - 1]?) (ts.drop k)))
  case atStart => exact ⟨0, rfl, by omega, rfl, rfl, rfl⟩
  case round =>
    obtain ⟨k, hgk, hk, rfl, rfl, hF⟩ := hrel
    have Hgk := Lib.hid hgk
    clear hgk
    by_cases hlt : k < n
    · obtain ⟨ad, t, rfl, htk, hc⟩ := hr.tx hlt
      have hl0 : t.length ≤ 9223372036854775807 := Ht.out t (List.mem_of_getElem? htk)
      have Htk := Lib.hid htk
      clear htk
      cases hT : isTerm t with
      | false =>
        have HR : Hid (rowErr ts = 2) := by show _ = _; rw [hF.out, rowFrom_drop Htk.out, hT]; rfl
        clear hF
        go_wp2_with fail
        refine (check_any _ _ hl0).mono ?_; rintro e w1 ⟨rfl, rfl⟩
        rw [hT]
        go_wp2
        go_ret
        rw [HR.out]
        exact ⟨rfl, rfl⟩
      | true =>
        by_cases k0 : k = 0
        · subst k0
          have hc0 : wr.cell? ad = some (.string ⟨t.toArray⟩) := hc
          have HR : Hid (rowErr ts = rowFrom (if 0 + 1 = 0 then none else ts[0 + 1 - 1]?) (ts.drop (0 + 1))) := by
            show _ = _
            rw [hF.out, rowFrom_drop Htk.out, hT]
            simp [Htk.out]
          clear hF
          go_wp2_with fail
          refine (check_any _ _ hl0).mono ?_; rintro e w1 ⟨rfl, rfl⟩
          rw [hT]
          go_wp2
          go_roundg (n - (0 + 1))
          case rel => exact ⟨0 + 1, rfl, by omega, by go_num, rfl, HR⟩
          case measure => rw [Hgk.out]; omega
        · obtain ⟨ad', q, e, hq, hcq⟩ := hr.tx (k := k - 1) (by omega)
          injection e with e
          subst e
          have Hq := Lib.hid hq
          clear hq
          have e1 : ((k : Int) - 1).toNat = k - 1 := by omega
          have k1 : decide (0 < (k : Int)) = true := by simp; omega
          have wr1 : IntKind.i64.wrap ((k : Int) - 1) = (k : Int) - 1 := IntWalk.i64_in _ (by omega)
          cases hL : Op.bytesLess q t with
          | true =>
            have HR : Hid (rowErr ts = rowFrom (if k + 1 = 0 then none else ts[k + 1 - 1]?) (ts.drop (k + 1))) := by
              show _ = _
              rw [hF.out, rowFrom_drop Htk.out, hT, if_neg k0, Hq.out]
              simp [Htk.out, hL]
            clear hF
            go_wp2_with fail
            refine (check_any _ _ hl0).mono ?_; rintro e w1 ⟨rfl, rfl⟩
            rw [hT]
            go_wp2
            go_roundg (n - (k + 1))
            case rel => exact ⟨k + 1, rfl, by omega, by go_num, rfl, HR⟩
            case measure => rw [Hgk.out]; omega
          | false =>
            have HR : Hid (rowErr ts = 4) := by
              show _ = _
              rw [hF.out, rowFrom_drop Htk.out, hT, if_neg k0, Hq.out]
              simp [hL]
            clear hF
            go_wp2_with fail
            refine (check_any _ _ hl0).mono ?_; rintro e w1 ⟨rfl, rfl⟩
            rw [hT]
            go_wp2
            go_ret
            rw [HR.out]
            exact ⟨rfl, rfl⟩
    · have HR : Hid (rowErr ts = 0) := by show _ = _; rw [hF.out, List.drop_of_length_le (by have := hlen.out; omega)]; rfl
      clear hF
      go_wp2
      go_ret
      rw [HR.out]
      exact ⟨rfl, rfl⟩

end Go.Proofs.Ytnjpoamebkehbaa
