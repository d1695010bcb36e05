/- The walk of the law NumRows. -/
import Derived.Test.YtbociponcacmpaaNumS
import Derived.Test.YtbociponcacmpaaOp
namespace Go.Proofs.Ytbociponcacmpaa
open Go.RowKit
set_option linter.unusedVariables false

theorem allU64_of {zs : List Int} (h : ∀ z ∈ zs, (Lit.int .u64 z).wf = true) : AllU64 zs := fun z hz => by
  have := bounds_u64 (h z hz)
  omega

/-- What Rows hands back, in one form. -/
theorem rows_one {r : Option (List Int)} {w w' : World} {e : Ending} (h : RowsPost r w e w') :
    ∃ A c, e = .returned (.tuple #[.slice A (r.getD []).length c, .bool r.isSome]) ∧ Rd w' 1 A (r.getD []).length ((r.getD []).map (Value.int .u64)) ∧ Bel w w' := by
  rcases h with ⟨hB, ⟨rfl, rfl⟩ | ⟨zs, A, c, rfl, rfl, hr, _⟩⟩
  · exact ⟨none, 0, rfl, Rd.nil, hB⟩
  · exact ⟨A, c, rfl, hr, hB⟩
theorem nrows_len (l : List UInt8) : ((nrows l).getD []).length ≤ l.length := by
  have : ∀ (n : Nat) (l : List UInt8), l.length ≤ n → ((nrows l).getD []).length ≤ l.length := by
    intro n
    induction n with
    | zero =>
      intro l hl
      have : l = [] := List.eq_nil_of_length_eq_zero (by omega)
      subst this
      rw [nrows_nil]
      simp
    | succ n ih =>
      intro l hl
      by_cases h1 : l = []
      · subst h1; rw [nrows_nil]; simp
      · by_cases h2 : (ntake l).2.2 = true
        · have hs := takes_shorter h1 h2
          have := ih (l.drop (ntake l).2.1) (by omega)
          rw [nrows_some h1 h2]
          cases hn : nrows (l.drop (ntake l).2.1) with
          | none => simp
          | some r => rw [hn] at this; simp at this ⊢; rw [List.length_drop] at hs; omega
        · rw [nrows_none h1 (by simpa using h2)]; simp
  exact this l.length l (Nat.le_refl _)

set_option maxRecDepth 100000 in
set_option maxHeartbeats 1000000 in
theorem numRows_small (w : World) (A : Option Addr) (n c : Nat) (zs : List Int) (hr : Rd w 1 A n (zs.map (Value.int .u64))) (hz : AllU64 zs) (hn : n ≤ 200) (l : List UInt8) (hl : l.length ≤ 1000) :
    Calls Try.prog 10 #[.slice A n c, .string ⟨l.toArray⟩] w fun e w' => e = .returned (.bool true) ∧ Bel w w' := by
  have lz : zs.length = n := by have := hr.len; simpa using this
  have hrl : (nrow zs).length ≤ 1000001 := by have := nrow_length zs; omega
  have HR := Lib.hid (nrows_nrow zs hz)
  have HZ := Lib.hid hz
  have HL := Lib.hid lz
  clear hz lz
  have hB := Bel.refl w
  have d1 : decide (200 < (n : Int)) = false := by simp; omega
  have d2 : decide (1000 < (l.length : Int)) = false := by simp; omega
  have hlen := nrows_len l
  obtain ⟨R, HR2⟩ : ∃ R, Hid (nrows l = R) := ⟨_, rfl⟩
  rw [HR2.out] at hlen
  go_enter Try.func10, Try.ntmps10
  go_wp2_with fail
  refine (rows_any l _ (by omega)).mono ?_
  rintro e w1 h1
  rw [HR2.out] at h1
  obtain ⟨X, cx, rfl, hx, hb1⟩ := rows_one h1
  clear h1
  replace hB := hB.trans hb1
  have hr1 := hr.bel hB
  clear hb1
  go_wp2_with fail
  refine (rrows_any l _ (by omega)).mono ?_
  rintro e w2 h2
  rw [HR2.out] at h2
  obtain ⟨Y, cy, rfl, hy, hb2⟩ := rows_one h2
  clear h2
  replace hB := hB.trans hb2
  replace hr1 := hr1.bel hb2
  replace hx := hx.bel hb2
  clear hb2
  go_wp2_with fail
  refine (row_any _ _ _ zs _ hr1 HZ.out (by omega)).mono ?_
  rintro e w3 ⟨rfl, hb⟩
  replace hB := hB.trans hb
  replace hr1 := hr1.bel hb
  replace hx := hx.bel hb
  replace hy := hy.bel hb
  clear hb
  go_wp2_with fail
  refine (rows_any _ _ hrl).mono ?_
  rintro e w4 h4
  rw [HR.out] at h4
  obtain ⟨Z, cz, rfl, hz4, hb⟩ := rows_one h4
  clear h4
  replace hB := hB.trans hb
  replace hr1 := hr1.bel hb
  replace hx := hx.bel hb
  replace hy := hy.bel hb
  clear hb
  go_wp2_with fail
  refine (row_any _ _ _ zs _ hr1 HZ.out (by omega)).mono ?_
  rintro e w5 ⟨rfl, hb⟩
  replace hB := hB.trans hb
  replace hr1 := hr1.bel hb
  replace hx := hx.bel hb
  replace hy := hy.bel hb
  replace hz4 := hz4.bel hb
  clear hb
  go_wp2_with fail
  refine (rrow_any _ _ _ zs _ hr1 HZ.out (by omega)).mono ?_
  rintro e w6 ⟨rfl, hb⟩
  replace hB := hB.trans hb
  replace hr1 := hr1.bel hb
  replace hx := hx.bel hb
  replace hy := hy.bel hb
  replace hz4 := hz4.bel hb
  clear hb
  go_wp2_with fail
  refine (nums_any _ _ _ _ _ _ _ _ _ hx hy (by omega) (by omega)).mono ?_
  rintro e w7 ⟨rfl, hb⟩
  replace hB := hB.trans hb
  replace hr1 := hr1.bel hb
  replace hz4 := hz4.bel hb
  clear hb
  simp only [decide_true]
  have hzl : (Option.getD (some zs) []).length ≤ 200 := by have := HL.out; simp; omega
  go_wp2_with fail
  refine (nums_any _ _ _ _ _ _ _ _ _ hz4 hr1 (by omega) (by omega)).mono ?_
  rintro e w8 ⟨rfl, hb⟩
  replace hB := hB.trans hb
  clear hb
  simp only [Option.getD_some, decide_true]
  go_wp2_with fail
  refine (awake01_any _).mono ?_; rintro e w9 ⟨rfl, hb⟩; replace hB := hB.trans hb; clear hb
  go_wp2
  go_ret
  exact ⟨rfl, hB⟩

set_option maxRecDepth 100000 in
set_option maxHeartbeats 1000000 in
theorem numRows_big (w : World) (A : Option Addr) (n c : Nat) (l : List UInt8) (hn : n ≤ 9223372036854775807) (hl : l.length ≤ 9223372036854775807) (h : 200 < n ∨ 1000 < l.length) :
    Calls Try.prog 10 #[.slice A n c, .string ⟨l.toArray⟩] w fun e w' => e = .returned (.bool true) ∧ Bel w w' := by
  have hB := Bel.refl w
  by_cases h1 : 200 < n
  · have d1 : decide (200 < (n : Int)) = true := by simp; omega
    clear h
    go_enter Try.func10, Try.ntmps10
    go_wp2_with fail
    refine (awake01_any _).mono ?_; rintro e w9 ⟨rfl, hb⟩; replace hB := hB.trans hb; clear hb
    go_wp2
    go_ret
    exact ⟨rfl, hB⟩
  · have d1 : decide (200 < (n : Int)) = false := by simp; omega
    have d2 : decide (1000 < (l.length : Int)) = true := by simp; omega
    clear h
    go_enter Try.func10, Try.ntmps10
    go_wp2_with fail
    refine (awake01_any _).mono ?_; rintro e w9 ⟨rfl, hb⟩; replace hB := hB.trans hb; clear hb
    go_wp2
    go_ret
    exact ⟨rfl, hB⟩

theorem walk_numRows (w : World) (x : IntSl) (hx : x.ok .u64 w) (s : ByteArray) (ws : s.size ≤ maxLen) :
    Calls Try.prog 10 #[x.v, .string s] w fun e w' => e = .returned (.bool true) ∧ Bel w w' := by
  obtain ⟨⟨l⟩⟩ := s
  obtain ⟨A, n, c, zs⟩ := x
  have hl : l.length ≤ maxLen := ws
  have hn : n ≤ maxLen := Nat.le_trans hx.le hx.cap
  unfold maxLen at hl hn
  by_cases h : 200 < n ∨ 1000 < l.length
  · exact numRows_big w A n c l hn hl h
  · exact numRows_small w A n c zs hx.rd (allU64_of hx.wf) (by omega) l (by omega)

set_option maxRecDepth 100000 in
theorem open_u64s {H : Type} {enc : TypeId × Value → H} {w : World} {base b0 : Nat} {spare : Nat → Bool} {held : Bool} {r : Reach} {v : Value} {d : DataW H} {p : List MemPlace}
    (hv : Value.okWide Try.prog w r b0 61 v) (h : DataW.Trod enc Try.prog w base spare held 61 v d p) : ∃ x : IntSl, v = x.v ∧ x.ok .u64 w :=
  open_intsl Try.underlying61 Try.underlying22 (by kernel_rfl) hv h

end Go.Proofs.Ytbociponcacmpaa
