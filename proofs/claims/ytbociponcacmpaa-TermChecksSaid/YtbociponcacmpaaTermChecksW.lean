/- The walk of the law TermChecks. -/
import Derived.Test.YtbociponcacmpaaTermP
import Derived.Test.YtbociponcacmpaaOpen
namespace Go.Proofs.Ytbociponcacmpaa
open Go.RowKit
set_option linter.unusedVariables false

theorem txok_of {x : TxSl} {w : World} (hx : x.ok w) : TxOk x.l := fun t ht => by have := hx.all t ht; unfold maxLen at this; omega
theorem err_ok (b : Bool) : ((errOf b == 0) == b) = true := by cases b <;> rfl

set_option maxRecDepth 100000 in
set_option maxHeartbeats 1000000 in
theorem walk_termChecks (w : World) (s : ByteArray) (ws : s.size ≤ maxLen) (x : TxSl) (hx : x.ok w) :
    Calls Try.prog 11 #[.string s, x.v] w fun e w' => e = .returned (.bool true) ∧ Bel w w' := by
  obtain ⟨l, rfl⟩ : ∃ l : List UInt8, s = ⟨l.toArray⟩ := ⟨s.data.toList, rfl⟩
  have hl : l.length ≤ 9223372036854775807 := by simpa [ByteArray.size, maxLen] using ws
  have ht := txok_of hx
  have hr := hx.rd
  have hn : x.n ≤ 9223372036854775807 := by have := hx.le; have := hx.cap; unfold maxLen at this; omega
  obtain ⟨A, n, c, ts⟩ := x
  simp only [TxSl.v] at *
  clear ws hx
  have Ht := Lib.hid ht
  have Hr := Lib.hid hr
  clear ht hr
  by_cases h1 : 1000 < l.length
  · go_enter Try.func11, Try.ntmps11
    go_wp2_with fail
    refine (awake05_any _).mono ?_; rintro e w1 ⟨rfl, hb⟩
    go_wp2
    go_ret
    exact ⟨rfl, hb⟩
  · cases hf : fewOf ts with
    | false =>
      have Hf := Lib.hid hf
      clear hf
      go_enter Try.func11, Try.ntmps11
      go_wp2_with fail
      refine (few_any A n c ts _ Hr.out Ht.out hn).mono ?_; rintro e w1 ⟨rfl, rfl⟩
      rw [Hf.out]
      go_wp2_with fail
      refine (awake05_any _).mono ?_; rintro e w1 ⟨rfl, hb⟩
      go_wp2
      go_ret
      exact ⟨rfl, hb⟩
    | true =>
      have Hf := Lib.hid hf
      have hn2 : n ≤ 120 := by
        have hlen : ts.length = n := by have := Hr.out.len; simpa using this
        unfold fewOf at hf
        simp at hf
        omega
      clear hf hn
      have k1 := err_ok (isTerm l)
      have k2 := err_ok (isName l)
      have q3 := fun (x : Int) => beq_self_eq_true x
      go_enter Try.func11, Try.ntmps11
      go_wp2_with fail
      refine (few_any A n c ts _ Hr.out Ht.out (by omega)).mono ?_; rintro e w1 ⟨rfl, rfl⟩
      rw [Hf.out]
      go_wp2_with fail
      refine (check_any _ _ hl).mono ?_; rintro e w1 ⟨rfl, rfl⟩
      go_wp2_with fail
      refine (is_any _ _ hl).mono ?_; rintro e w1 ⟨rfl, rfl⟩
      go_wp2_with fail
      refine (name_any _ _ hl).mono ?_; rintro e w1 ⟨rfl, rfl⟩
      go_wp2_with fail
      refine (rname_any _ _ hl).mono ?_; rintro e w1 ⟨rfl, rfl⟩
      go_wp2_with fail
      refine (trow_any A n c ts _ Hr.out Ht.out (by omega)).mono ?_; rintro e w1 ⟨rfl, rfl⟩
      go_wp2_with fail
      refine (rtrow_any A n c ts _ Hr.out Ht.out (by omega)).mono ?_; rintro e w1 ⟨rfl, hb⟩
      go_wp2_with fail
      refine (awake05_any _).mono ?_; rintro e w2 ⟨rfl, hb2⟩
      go_wp2
      go_ret
      exact ⟨rfl, hb.trans hb2⟩

end Go.Proofs.Ytbociponcacmpaa
