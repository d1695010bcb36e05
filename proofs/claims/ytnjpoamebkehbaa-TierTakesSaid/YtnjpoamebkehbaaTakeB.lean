/- The reader's methods. -/
import Derived.Test.YtnjpoamebkehbaaTakeA
namespace Go.Proofs.Ytnjpoamebkehbaa
open Go.RowKit
set_option linter.unusedVariables false

theorem Rdr.c2 {w : World} {b : Nat} {s l : List UInt8} (h : Rdr w b s l) : w.cell? ⟨b, 2, none⟩ = some (.bool true) := by
  obtain ⟨_, t, _, _, h3⟩ := h
  exact h3.cell 2
theorem RErr.more {b : Nat} {s : List UInt8} {k : Int} {w w1 : World} {e : Ending} {w' : World} (hg : w.grownBy w1 (some b)) (h : RErr b s k w1 e w') : RErr b s k w e w' :=
  ⟨h.1, hg.trans h.2.1, h.2.2⟩
theorem RErr.at {b : Nat} {s l : List UInt8} {k : Int} {w w1 : World} (hg : w.grownBy w1 (some b)) (h : Rdr w1 b s l) : RErr b s k w (.panicked (flt k)) w1 := ⟨rfl, hg, l, h⟩

theorem pnum_cases {most : Int} {l : List UInt8} : (pnum most l = .error 3 ∧ (ntake l).2.2 = false) ∨ (∃ n z, ntake l = (n, z, true) ∧ z ≤ l.length ∧ n < 18446744073709551616 ∧ ((pnum most l = .error 5 ∧ (most < 0 ∨ most < n)) ∨ (pnum most l = .ok (n, l.drop z) ∧ 0 ≤ most ∧ (n : Int) ≤ most))) := by
  have h1 := ntake_size l
  have h2 := ntake_lt l
  unfold pnum pnumber
  rcases h : ntake l with ⟨n, z, ok⟩
  rw [h] at h1 h2
  cases ok with
  | false => left; simp
  | true =>
    right
    refine ⟨n, z, rfl, h1.1, h2, ?_⟩
    by_cases hm : most < 0 ∨ most < n
    · left; simp [hm]
    · right; simp [hm]; omega
theorem pnumber_cases {l : List UInt8} : (pnumber l = .error 3 ∧ (ntake l).2.2 = false) ∨ (∃ n z, ntake l = (n, z, true) ∧ z ≤ l.length ∧ n < 18446744073709551616 ∧ pnumber l = .ok (n, l.drop z)) := by
  have h1 := ntake_size l
  have h2 := ntake_lt l
  unfold pnumber
  rcases h : ntake l with ⟨n, z, ok⟩
  rw [h] at h1 h2
  cases ok with
  | false => left; simp
  | true => exact .inr ⟨n, z, rfl, h1.1, h2, by simp⟩

/-- (*Reader).Num: the value, or the error. -/
def RPost {α : Type} (b : Nat) (s : List UInt8) (o : PR α) (V : α → Value) (w : World) (e : Ending) (w' : World) : Prop :=
  match o with
  | .error k => RErr b s k w e w'
  | .ok (x, l) => ROk b s l (V x) w e w'

set_option maxRecDepth 100000 in
theorem num_any (b : Nat) (s l : List UInt8) (most : Int) (w : World) (hR : Rdr w b s l) (h0 : -9223372036854775808 ≤ most) (h1 : most ≤ 9223372036854775807) :
    Calls Try.prog 103 #[.pointer (some ⟨b, 0, none⟩), .int .i64 most] w (RPost b s (pnum most l) (fun n => .int .i64 (n : Nat)) w) := by
  have c2 := hR.c2
  have HR := Lib.hid hR
  clear hR
  go_enter Try.func103, Try.ntmps103
  go_wp2_with fail
  refine (on_live b _ c2).mono ?_; rintro e w1 ⟨rfl, rfl⟩
  clear c2
  go_wp2_with fail
  rcases pnum_cases (most := most) (l := l) with ⟨hp, hn⟩ | ⟨n, z, hn, hz, hlt, hp⟩
  · refine (number_err b s l _ HR.out hn).mono ?_; rintro e w1 hE
    obtain ⟨rfl, hg, hr⟩ := hE
    go_wp2
    refine ⟨rfl, ?_⟩
    rw [hp]
    exact ⟨rfl, hg, hr⟩
  · refine (number_ok b s l n z _ HR.out hn hz).mono ?_; rintro e w1 ⟨rfl, hg, hr⟩
    have Hg := Lib.hid hg
    have Hr := Lib.hid hr
    have Hp := Lib.hid hp
    clear hg hr hp hn
    by_cases hm : most < 0
    · go_wp2_with fail
      refine (fail_any _ _ _).mono ?_; rintro e w2 ⟨rfl, rfl⟩
      go_wp2
      refine ⟨rfl, ?_⟩
      rcases Hp.out with ⟨hp, _⟩ | ⟨hp, hq, _⟩
      · rw [hp]; exact ⟨rfl, Hg.out, _, Hr.out⟩
      · omega
    · have hw : IntKind.u64.wrap most = most := IntWalk.u64_in _ (by omega)
      by_cases hq : most < n
      · go_wp2_with fail
        refine (fail_any _ _ _).mono ?_; rintro e w2 ⟨rfl, rfl⟩
        go_wp2
        refine ⟨rfl, ?_⟩
        rcases Hp.out with ⟨hp, _⟩ | ⟨hp, _, hq'⟩
        · rw [hp]; exact ⟨rfl, Hg.out, _, Hr.out⟩
        · omega
      · go_wp2_with fail
        go_ret
        rcases Hp.out with ⟨hp, hx⟩ | ⟨hp, hq'⟩
        · omega
        · rw [hp]; exact ⟨rfl, Hg.out, Hr.out⟩

theorem nunfold_in {n : Nat} (h : n < 18446744073709551616) : -9223372036854775808 ≤ nunfold n ∧ nunfold n ≤ 9223372036854775807 := by
  unfold nunfold
  split <;> omega

set_option maxRecDepth 100000 in
theorem int_any (b : Nat) (s l : List UInt8) (w : World) (hR : Rdr w b s l) :
    Calls Try.prog 142 #[.pointer (some ⟨b, 0, none⟩)] w (RPost b s (pint l) (fun n => .int .i64 n) w) := by
  have c2 := hR.c2
  have HR := Lib.hid hR
  clear hR
  go_enter Try.func142, Try.ntmps142
  go_wp2_with fail
  refine (on_live b _ c2).mono ?_; rintro e w1 ⟨rfl, rfl⟩
  clear c2
  go_wp2_with fail
  rcases pnumber_cases (l := l) with ⟨hp, hn⟩ | ⟨n, z, hn, hz, hlt, hp⟩
  · refine (number_err b s l _ HR.out hn).mono ?_; rintro e w1 hE
    obtain ⟨rfl, hg, hr⟩ := hE
    go_wp2
    refine ⟨rfl, ?_⟩
    unfold pint
    rw [hp]
    exact ⟨rfl, hg, hr⟩
  · refine (number_ok b s l n z _ HR.out hn hz).mono ?_; rintro e w1 ⟨rfl, hg, hr⟩
    have Hg := Lib.hid hg
    have Hr := Lib.hid hr
    have Hp := Lib.hid hp
    clear hg hr hp hn
    go_wp2_with fail
    refine (unfold_any n _ (by omega) (by omega)).mono ?_; rintro e w2 ⟨rfl, rfl⟩
    rw [Int.toNat_natCast]
    go_wp2
    go_ret
    unfold pint
    rw [Hp.out]
    exact ⟨rfl, Hg.out, Hr.out⟩

set_option maxRecDepth 100000 in
theorem fix_any (b : Nat) (s l : List UInt8) (n : Int) (w : World) (hR : Rdr w b s l) (h0 : -9223372036854775808 ≤ n) (h1 : n ≤ 9223372036854775807) :
    Calls Try.prog 33 #[.pointer (some ⟨b, 0, none⟩), .int .i64 n] w (RPost b s (pfix n l) (fun x => .string ⟨x.toArray⟩) w) := by
  have c2 := hR.c2
  have HR := Lib.hid hR
  obtain ⟨hs, t, ht, rfl, h3⟩ := hR
  have c0 := h3.cell 0
  have c1 := h3.cell 1
  have f1 := h3.frozen 1
  simp only [List.getElem?_toArray, List.getElem?_cons_zero, List.getElem?_cons_succ] at c0 c1
  have H3 := Lib.hid h3
  clear h3
  go_enter Try.func33, Try.ntmps33
  go_wp2_with fail
  refine (on_live b _ c2).mono ?_; rintro e w1 ⟨rfl, rfl⟩
  clear c2
  go_wp2_with fail
  by_cases hm : n < 0
  · have d : decide (n < 0) = true := by simp; omega
    go_quiet (fail)
    go_wp2_with fail
    refine (fail_any _ _ _).mono ?_; rintro e w2 ⟨rfl, rfl⟩
    go_wp2
    refine ⟨rfl, ?_⟩
    unfold pfix
    rw [if_pos (.inl hm)]
    exact ⟨rfl, (grown_of_bel ((Bel.refl w).drewN _) _), _, HR.out.bel ((Bel.refl w).drewN _)⟩
  · obtain ⟨m, rfl⟩ := Int.eq_ofNat_of_zero_le (show 0 ≤ n by omega)
    have d : decide ((m : Int) < 0) = false := by simp
    have wk : IntKind.i64.wrap ((s.length : Int) - t) = (s.length : Int) - t := IntWalk.i64_in _ (by omega)
    by_cases hq : s.length < t + m
    · have d2 : decide ((s.length : Int) - t < m) = true := by simp; omega
      go_quiet (fail)
      go_wp2_with fail
      refine (fail_any _ _ _).mono ?_; rintro e w2 ⟨rfl, rfl⟩
      go_wp2
      refine ⟨rfl, ?_⟩
      unfold pfix
      rw [if_pos (.inr (by rw [List.length_drop]; omega))]
      exact ⟨rfl, (grown_of_bel ((Bel.refl w).drewN _) _), _, HR.out.bel ((Bel.refl w).drewN _)⟩
    · have d2 : decide ((s.length : Int) - t < m) = false := by simp; omega
      have wk2 : IntKind.i64.wrap ((t : Int) + m) = (t : Int) + m := IntWalk.i64_in _ (by omega)
      have k0 : (0 : Int) ≤ t := by omega
      have k1 : (t : Int) ≤ (t : Int) + m := by omega
      have k2 : (t : Int) + m ≤ s.length := by omega
      have k3 : ((t : Int) + m).toNat = t + m := by omega
      go_quiet (fail)
      clear wk d d2
      go_wp2_with fail
      go_quiet (fail)
      clear wk2 k1 k2 k3
      have HB : Hid (∀ n, Blk (w.drewN n) b 145 #[.string ⟨s.toArray⟩, .int .i64 t, .bool true]) := fun n => H3.out.drewN n
      go_wp2
      go_ret
      have e1 : pfix (m : Int) (s.drop t) = .ok ((s.drop t).take m, (s.drop t).drop m) := by
        unfold pfix
        rw [if_neg (by rw [List.length_drop]; omega), Int.toNat_natCast]
      rw [e1]
      have e2 : (⟨s.toArray⟩ : ByteArray).extract t (t + m) = ⟨((s.drop t).take m).toArray⟩ := by rw [str_extract]; simp
      rw [e2]
      refine ⟨rfl, (grown_of_bel ((Bel.refl w).drewN _) _).trans (grownBy_setCell _ _ _ _), hs, t + m, by omega, by rw [List.drop_drop], ?_⟩
      have hx := fun n => (HB.out n).set_ 1 (.int .i64 ((t + m : Nat) : Int))
      simpa using hx _

theorem pfix_zero (l : List UInt8) : pfix 0 l = .ok ([], l) := by unfold pfix; rw [if_neg (by omega)]; rfl
theorem pfix_ok {n : Int} {l x r : List UInt8} (h : pfix n l = .ok (x, r)) : 0 ≤ n ∧ n ≤ l.length ∧ x = l.take n.toNat ∧ r = l.drop n.toNat := by
  unfold pfix at h
  split at h
  · cases h
  · injection h with h
    injection h with h1 h2
    exact ⟨by omega, by omega, h1.symm, h2.symm⟩
theorem pfix_err {n k : Int} {l : List UInt8} (h : pfix n l = .error k) : k = 3 ∧ (n < 0 ∨ (l.length : Int) < n) := by
  unfold pfix at h
  split at h
  · injection h with h; exact ⟨h.symm, by omega⟩
  · cases h

set_option maxRecDepth 100000 in
theorem text_any (b : Nat) (s l : List UInt8) (most : Int) (w : World) (hR : Rdr w b s l) (h0 : -9223372036854775808 ≤ most) (h1 : most ≤ 9223372036854775807) :
    Calls Try.prog 101 #[.pointer (some ⟨b, 0, none⟩), .int .i64 most] w (RPost b s (ptxt most l) (fun x => .string ⟨x.toArray⟩) w) := by
  have H := Lib.hid (num_any b s l most w hR h0 h1)
  clear hR
  go_enter Try.func101, Try.ntmps101
  go_wp2_with fail
  rcases pnum_cases (most := most) (l := l) with ⟨hp, hn⟩ | ⟨n, z, hn, hz, hlt, ⟨hp, _⟩ | ⟨hp, hm1, hm2⟩⟩
  · have Hq : Hid (ptxt most l = .error 3) := by show _ = _; unfold ptxt; rw [hp]
    rw [hp] at H
    refine H.out.mono ?_; rintro e w1 ⟨rfl, hg, hr⟩
    clear hp
    go_wp2
    refine ⟨rfl, ?_⟩
    rw [Hq.out]
    exact ⟨rfl, hg, hr⟩
  · have Hq : Hid (ptxt most l = .error 5) := by show _ = _; unfold ptxt; rw [hp]
    rw [hp] at H
    refine H.out.mono ?_; rintro e w1 ⟨rfl, hg, hr⟩
    clear hp
    go_wp2
    refine ⟨rfl, ?_⟩
    rw [Hq.out]
    exact ⟨rfl, hg, hr⟩
  · have Hq : Hid (ptxt most l = pfix n (l.drop z)) := by show _ = _; unfold ptxt; rw [hp]
    rw [hp] at H
    refine H.out.mono ?_; rintro e w1 ⟨rfl, hg, hr⟩
    have Hg := Lib.hid hg
    have HF := Lib.hid (fix_any b s _ (n : Int) w1 hr (by omega) (by omega))
    clear hg hr hp H hn
    go_wp2_with fail
    cases hf : pfix (n : Int) (l.drop z) with
    | error k =>
      have Hf := Lib.hid hf
      rw [hf] at HF
      refine HF.out.mono ?_; rintro e w2 ⟨rfl, hg, hr⟩
      clear hf
      go_wp2
      refine ⟨rfl, ?_⟩
      rw [Hq.out, Hf.out]
      exact ⟨rfl, Hg.out.trans hg, hr⟩
    | ok p =>
      have Hf := Lib.hid hf
      rw [hf] at HF
      refine HF.out.mono ?_; rintro e w2 ⟨rfl, hg, hr⟩
      clear hf
      go_wp2
      go_ret
      rw [Hq.out, Hf.out]
      exact ⟨rfl, Hg.out.trans hg, hr⟩

set_option maxRecDepth 100000 in
theorem left_any (b : Nat) (s l : List UInt8) (w : World) (hR : Rdr w b s l) :
    Calls Try.prog 34 #[.pointer (some ⟨b, 0, none⟩)] w fun e w' => e = .returned (.int .i64 (l.length : Nat)) ∧ Bel w w' := by
  have c2 := hR.c2
  obtain ⟨hs, t, ht, rfl, h3⟩ := hR
  have c0 := h3.cell 0
  have c1 := h3.cell 1
  simp only [List.getElem?_toArray, List.getElem?_cons_zero, List.getElem?_cons_succ] at c0 c1
  clear h3
  have wk : IntKind.i64.wrap ((s.length : Int) - t) = (s.length : Int) - t := IntWalk.i64_in _ (by omega)
  go_enter Try.func34, Try.ntmps34
  go_wp2_with fail
  refine (on_live b _ c2).mono ?_; rintro e w1 ⟨rfl, rfl⟩
  clear c2
  go_wp2_with fail
  go_quiet (fail)
  go_wp2
  go_ret
  exact ⟨ret_int (by rw [List.length_drop]; omega), (Bel.refl w).drewN _⟩

set_option maxRecDepth 100000 in
theorem want_yes (b : Nat) (s l : List UInt8) (k : Int) (w : World) (hR : Rdr w b s l) :
    Calls Try.prog 100 #[.pointer (some ⟨b, 0, none⟩), .bool true, .int .i64 k] w fun e w' => e = .returned (.tuple #[]) ∧ w = w' := by
  have c2 := hR.c2
  clear hR
  go_enter Try.func100, Try.ntmps100
  go_wp2_with fail
  refine (on_live b _ c2).mono ?_; rintro e w1 ⟨rfl, rfl⟩
  clear c2
  go_wp2
  go_end0
  exact ⟨rfl, rfl⟩
set_option maxRecDepth 100000 in
theorem want_no (b : Nat) (s l : List UInt8) (k : Int) (w : World) (hR : Rdr w b s l) :
    Calls Try.prog 100 #[.pointer (some ⟨b, 0, none⟩), .bool false, .int .i64 k] w fun e w' => e = .panicked (flt (wantErr k)) ∧ w = w' := by
  have c2 := hR.c2
  clear hR
  go_enter Try.func100, Try.ntmps100
  go_wp2_with fail
  refine (on_live b _ c2).mono ?_; rintro e w1 ⟨rfl, rfl⟩
  clear c2
  by_cases hk : k = 0
  · subst hk
    go_wp2_with fail
    refine (fail_any _ _ _).mono ?_; rintro e w2 ⟨rfl, rfl⟩
    go_wp2
    exact ⟨rfl, rfl, rfl⟩
  · have d : (k == 0) = false := by simpa using hk
    have HK : Hid (wantErr k = k) := by show _ = _; unfold wantErr; rw [if_neg hk]
    clear hk
    go_wp2_with fail
    refine (fail_any _ _ _).mono ?_; rintro e w2 ⟨rfl, rfl⟩
    go_wp2
    exact ⟨rfl, by rw [HK.out], rfl⟩

/-- A reader outside of its reading: there is none, or it has ended. -/
def Off (v : Value) (w : World) : Prop := Calls Try.prog 104 #[v] w fun e w' => e = .returned (.bool false) ∧ w = w'
theorem num_off (v : Value) (n : Int) (w : World) (h : Off v w) : Calls Try.prog 103 #[v, .int .i64 n] w fun e w' => e = .returned (.int .i64 0) ∧ w = w' := by
  have H := Lib.hid h
  clear h
  go_enter Try.func103, Try.ntmps103
  go_wp2_with fail
  refine H.out.mono ?_; rintro e w1 ⟨rfl, rfl⟩
  go_wp2
  go_ret
  exact ⟨rfl, rfl⟩
theorem int_off (v : Value) (w : World) (h : Off v w) : Calls Try.prog 142 #[v] w fun e w' => e = .returned (.int .i64 0) ∧ w = w' := by
  have H := Lib.hid h
  clear h
  go_enter Try.func142, Try.ntmps142
  go_wp2_with fail
  refine H.out.mono ?_; rintro e w1 ⟨rfl, rfl⟩
  go_wp2
  go_ret
  exact ⟨rfl, rfl⟩
theorem fix_off (v : Value) (n : Int) (w : World) (h : Off v w) : Calls Try.prog 33 #[v, .int .i64 n] w fun e w' => e = .returned (.string ⟨#[]⟩) ∧ w = w' := by
  have H := Lib.hid h
  clear h
  go_enter Try.func33, Try.ntmps33
  go_wp2_with fail
  refine H.out.mono ?_; rintro e w1 ⟨rfl, rfl⟩
  go_wp2
  go_ret
  exact ⟨rfl, rfl⟩
theorem text_off (v : Value) (n : Int) (w : World) (h : Off v w) : Calls Try.prog 101 #[v, .int .i64 n] w fun e w' => e = .returned (.string ⟨#[]⟩) ∧ w = w' := by
  have H := Lib.hid h
  clear h
  go_enter Try.func101, Try.ntmps101
  go_wp2_with fail
  refine (num_off v _ _ H.out).mono ?_; rintro e w1 ⟨rfl, rfl⟩
  go_wp2_with fail
  refine (fix_off v _ _ H.out).mono ?_; rintro e w1 ⟨rfl, rfl⟩
  go_wp2
  go_ret
  exact ⟨rfl, rfl⟩
theorem left_off (v : Value) (w : World) (h : Off v w) : Calls Try.prog 34 #[v] w fun e w' => e = .returned (.int .i64 0) ∧ w = w' := by
  have H := Lib.hid h
  clear h
  go_enter Try.func34, Try.ntmps34
  go_wp2_with fail
  refine H.out.mono ?_; rintro e w1 ⟨rfl, rfl⟩
  go_wp2
  go_ret
  exact ⟨rfl, rfl⟩
theorem want_off (v : Value) (is : Bool) (n : Int) (w : World) (h : Off v w) : Calls Try.prog 100 #[v, .bool is, .int .i64 n] w fun e w' => e = .returned (.tuple #[]) ∧ w = w' := by
  have H := Lib.hid h
  clear h
  go_enter Try.func100, Try.ntmps100
  go_wp2_with fail
  refine H.out.mono ?_; rintro e w1 ⟨rfl, rfl⟩
  go_wp2
  go_end0
  exact ⟨rfl, rfl⟩

end Go.Proofs.Ytnjpoamebkehbaa
