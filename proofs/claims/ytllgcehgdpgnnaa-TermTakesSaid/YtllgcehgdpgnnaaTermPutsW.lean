/- The walk of the law TermPuts. -/
import Derived.Test.YtllgcehgdpgnnaaTermQ
import Derived.Test.YtllgcehgdpgnnaaTermV
import Derived.Test.YtllgcehgdpgnnaaRow
namespace Go.Proofs.Ytllgcehgdpgnnaa
open Go.RowKit
set_option linter.unusedVariables false

theorem txok_row {x : Row (List UInt8)} {w : World} (hx : x.ok w) : TxOk x.l := fun t ht => Nat.le_trans (hx.all t ht) (by omega)
theorem tputs_len (ts : List (List UInt8)) : ∀ was, (∀ t ∈ ts, t.length ≤ 16) → (tputs was ts).length ≤ 34 * ts.length := by
  induction ts with
  | nil => intro was h; simp [tputs]
  | cons t r ih =>
    intro was h
    have h1 := ih t (fun u hu => h u (List.mem_cons_of_mem _ hu))
    have h2 := h t (List.mem_cons_self ..)
    have h3 := nput_le9 (alike was t)
    have h4 := nput_le9 (t.drop (alike was t)).length
    rw [tputs]
    unfold ptext
    simp only [List.length_append, List.length_cons] at *
    have h5 : (t.drop (alike was t)).length ≤ 16 := by rw [List.length_drop]; omega
    omega
theorem tput_len {ts : List (List UInt8)} (h : rowErr ts = 0) : (tput ts).length ≤ 9 + 34 * ts.length := by
  unfold tput
  rw [List.length_append]
  have := nput_le9 ts.length
  have := tputs_len ts [] (fun t ht => rowErr_len h ht)
  omega

set_option maxRecDepth 100000 in
set_option maxHeartbeats 1000000 in
theorem walk_termPuts (w : World) (x : Row (List UInt8)) (hx : x.ok w) :
    Calls Try.prog 8 #[x.v] w fun e w' => e = .returned (.bool true) ∧ Bel w w' := by
  have ht := txok_row hx
  have hr := hx.texts
  have hn : x.n ≤ 9223372036854775807 := by have := hx.le; have := hx.cap; unfold maxLen at this; omega
  obtain ⟨A, n, c, ts⟩ := x
  simp only [Row.v] at *
  clear hx
  have Ht := Lib.hid ht
  have Hr := Lib.hid hr
  clear ht hr
  go_enter Try.func8, Try.ntmps8
  go_wp2_with fail
  refine (few_any A n c ts _ Hr.out Ht.out hn).mono ?_; rintro e w1 ⟨rfl, rfl⟩
  cases hf : fewOf ts with
  | false =>
    clear hf
    go_wp2_with fail
    refine (awake05_any _).mono ?_; rintro e w1 ⟨rfl, hb⟩
    go_wp2
    go_ret
    exact ⟨rfl, hb⟩
  | true =>
    have hlen : ts.length = n := by have := Hr.out.len; simpa using this
    have hn2 : n ≤ 120 := by
      unfold fewOf at hf
      simp at hf
      omega
    have Hlen := Lib.hid hlen
    clear hf hn hlen
    go_wp2_with fail
    refine (tput_any A n c ts _ Hr.out Ht.out (by omega)).mono ?_; rintro e w1 ⟨rfl, hb1⟩
    by_cases hE : rowErr ts = 0
    · have HE := Lib.hid hE
      have HV : Hid (tputV ts = (tput ts, 0)) := by show _ = _; unfold tputV; rw [if_pos hE]
      have HT : Hid (ttake n (tput ts) = (ts, 0)) := by show _ = _; rw [← Hlen.out]; exact ttake_tput hE (by have := Hlen.out; omega)
      have hl : (tput ts).length ≤ 9 + 34 * 120 := by have := tput_len hE; have := Hlen.out; omega
      rw [HV.out]
      clear hE
      go_wp2_with fail
      refine (rtrow_any A n c ts _ (Hr.out.bel hb1) Ht.out (by omega)).mono ?_; rintro e w2 ⟨rfl, hb2⟩
      rw [HE.out]
      go_wp2_with fail
      refine (ttake_any (tput ts) n _ (by omega) (by omega) (by omega)).mono ?_
      rw [HT.out]
      rintro e w3 ⟨C, d, rfl, hb3, hr3⟩
      have hB := (hb1.trans hb2).trans hb3
      have Hr3 := Lib.hid hr3
      rw [Hlen.out] at Hr3
      dsimp only
      rw [Hlen.out]
      clear hr3
      go_wp2_with fail
      refine (rtput_any A n c ts _ (Hr.out.bel hB) HE.out (by omega)).mono ?_; rintro e w4 ⟨rfl, hb4⟩
      go_wp2_with fail
      refine (texts_any C n d ts A n c ts _ (Hr3.out.bel hb4) (Hr.out.bel (hB.trans hb4)) (by omega) (by omega)).mono ?_; rintro e w5 ⟨rfl, hb5⟩
      rw [beq_self_eq_true]
      go_wp2_with fail
      refine (awake05_any _).mono ?_; rintro e w6 ⟨rfl, hb6⟩
      go_wp2
      go_ret
      exact ⟨rfl, ((hB.trans hb4).trans hb5).trans hb6⟩
    · have HV : Hid (tputV ts = ([], rowErr ts)) := by show _ = _; unfold tputV; rw [if_neg hE]
      have dk : (rowErr ts == 0) = false := by simpa using hE
      rw [HV.out]
      clear hE
      go_wp2_with fail
      refine (rtrow_any A n c ts _ (Hr.out.bel hb1) Ht.out (by omega)).mono ?_; rintro e w2 ⟨rfl, hb2⟩
      go_wp2_with fail
      refine (awake05_any _).mono ?_; rintro e w6 ⟨rfl, hb6⟩
      go_wp2
      go_ret
      exact ⟨rfl, (hb1.trans hb2).trans hb6⟩

end Go.Proofs.Ytllgcehgdpgnnaa
