/- Texts laid together: XTakeA XTakeB XTakeC XTakeD XTermW XTermR XTermP XTakeE XTakeF. -/
import Derived.Test.YtlclllkjnhgbjaaBa
import Derived.Deep.DeepCutAuto
import Derived.Defers
import Derived.Recover
import Derived.Test.YtlclllkjnhgbjaaBb
import Derived.OpenShut

namespace Go.Proofs.Ytlclllkjnhgbjaa
open Go.RowKit
set_option linter.unusedVariables false

/-- What is read of bytes: a value and the bytes that are left, or an error's number. -/
abbrev PR (α : Type) := Except Int (α × List UInt8)
def pnumber (l : List UInt8) : PR Nat := if (ntake l).2.2 then .ok ((ntake l).1, l.drop (ntake l).2.1) else .error 3
def pnum (most : Int) (l : List UInt8) : PR Nat :=
  match pnumber l with
  | .error k => .error k
  | .ok (n, r) => if most < 0 ∨ most < n then .error 5 else .ok (n, r)
def pint (l : List UInt8) : PR Int :=
  match pnumber l with
  | .error k => .error k
  | .ok (n, r) => .ok (nunfold n, r)
def pfix (n : Int) (l : List UInt8) : PR (List UInt8) := if n < 0 ∨ (l.length : Int) < n then .error 3 else .ok (l.take n.toNat, l.drop n.toNat)
def ptxt (most : Int) (l : List UInt8) : PR (List UInt8) :=
  match pnum most l with
  | .error k => .error k
  | .ok (n, r) => pfix n r
def wantErr (k : Int) : Int := if k = 0 then 3 else k
/-- What ends a reading: a fault that holds an error's number. -/
abbrev flt (k : Int) : List PanicEntry := [{ v := .iface 133 (.agg #[.int .i64 k]), recovered := false }]

/-- A reader that is good: its bytes, and those that are left. -/
def Rdr (w : World) (b : Nat) (s l : List UInt8) : Prop :=
  s.length ≤ 1000001 ∧ ∃ t : Nat, t ≤ s.length ∧ l = s.drop t ∧ Blk w b 131 #[.string ⟨s.toArray⟩, .int .i64 t, .bool true]
theorem Rdr.grown {w w' : World} {b : Nat} {s l : List UInt8} {row : Option Nat} (h : Rdr w b s l) (hg : w.grownBy w' row) (hne : some b ≠ row) : Rdr w' b s l := by
  obtain ⟨h0, t, h1, h2, h3⟩ := h
  exact ⟨h0, t, h1, h2, h3.grown hg hne⟩
theorem Rdr.bel {w w' : World} {b : Nat} {s l : List UInt8} (h : Rdr w b s l) (hb : Bel w w') : Rdr w' b s l := by
  obtain ⟨h0, t, h1, h2, h3⟩ := h
  exact ⟨h0, t, h1, h2, h3.bel hb⟩
theorem Rdr.lt {w : World} {b : Nat} {s l : List UInt8} (h : Rdr w b s l) : b < w.heap.size := by
  obtain ⟨_, t, _, _, h3⟩ := h
  exact h3.lt
theorem Rdr.len {w : World} {b : Nat} {s l : List UInt8} (h : Rdr w b s l) : l.length ≤ 1000001 := by
  obtain ⟨h0, t, h1, h2, h3⟩ := h
  subst h2
  simp
  omega

theorem grownBy_setCell (w : World) (b o : Nat) (v : Value) : w.grownBy (w.setCell ⟨b, o, none⟩ v) (some b) :=
  ⟨rfl, rfl, rfl, by simp, fun j _ hj => Below.heap_setCell _ _ _ j (fun e => hj (by rw [e]))⟩

/-- A reading came to its value; or it ended. -/
def ROk (b : Nat) (s l : List UInt8) (v : Value) (w : World) (e : Ending) (w' : World) : Prop := e = .returned v ∧ w.grownBy w' (some b) ∧ Rdr w' b s l
def RErr (b : Nat) (s : List UInt8) (k : Int) (w : World) (e : Ending) (w' : World) : Prop := e = .panicked (flt k) ∧ w.grownBy w' (some b) ∧ ∃ l, Rdr w' b s l

theorem fail_any (v : Value) (k : Int) (w : World) : Calls Try.prog 100 #[v, .int .i64 k] w fun e w' => e = .panicked (flt k) ∧ w = w' := by
  go_enter Try.func100, Try.ntmps100
  go_wp2
  exact ⟨rfl, rfl, rfl⟩

theorem on_live (b : Nat) (w : World) (hc : w.cell? ⟨b, 2, none⟩ = some (.bool true)) :
    Calls Try.prog 99 #[.pointer (some ⟨b, 0, none⟩)] w fun e w' => e = .returned (.bool true) ∧ w = w' := by
  go_enter Try.func99, Try.ntmps99
  go_wp2
  go_ret
  exact ⟨rfl, rfl⟩
theorem take_val {l : List UInt8} {n z : Nat} {ok : Bool} (h : ntake l = (n, z, ok)) (w : World) (hl : l.length ≤ 1000001) :
    Calls Try.prog 42 #[.string ⟨l.toArray⟩] w fun e w' => e = .returned (.tuple #[.int .u64 (n : Nat), .int .i64 (z : Nat), .bool ok]) ∧ Bel w w' := by
  have q := take_any l w hl
  rw [h] at q
  exact q
set_option maxRecDepth 100000 in
theorem number_err (b : Nat) (s l : List UInt8) (w : World) (hR : Rdr w b s l) (hn : (ntake l).2.2 = false) :
    Calls Try.prog 101 #[.pointer (some ⟨b, 0, none⟩)] w (RErr b s 3 w) := by
  have HN := Lib.hid (ntake_false hn)
  have HR := Lib.hid hR
  obtain ⟨h0, t, h1, rfl, h3⟩ := hR
  have c0 := h3.cell 0
  have c1 := h3.cell 1
  simp only [List.getElem?_toArray, List.getElem?_cons_zero, List.getElem?_cons_succ] at c0 c1
  clear hn h3
  have k1 : (0 : Int) ≤ t := by omega
  have k2 : (t : Int) ≤ s.length := by omega
  go_enter Try.func101, Try.ntmps101
  go_wp2_with fail
  have d0 := fun u : Over w => Over.cell c0 u
  have d1 := fun u : Over w => Over.cell c1 u
  clear c0 c1
  refine wp_region_over (by kernel_rfl) (by kernel_rfl) ?_
  repeat (go_big_quiet_step ((go_at_call 42; rw [str_from]; exact calls_over (take_val HN.out _ (by simp; omega)))))
  refine wpQuiet_nil ?_
  rintro _ ⟨u, rfl⟩
  clear d0 d1
  go_wp2_with fail
  refine (fail_any _ _ _).mono ?_; rintro e w' ⟨rfl, rfl⟩
  go_wp2
  exact ⟨rfl, rfl, grown_of_bel u.bel _, _, HR.out.bel u.bel⟩

set_option maxRecDepth 100000 in
theorem number_ok (b : Nat) (s l : List UInt8) (n z : Nat) (w : World) (hR : Rdr w b s l) (hn : ntake l = (n, z, true)) (hz : z ≤ l.length) :
    Calls Try.prog 101 #[.pointer (some ⟨b, 0, none⟩)] w (ROk b s (l.drop z) (.int .u64 n) w) := by
  have HN := Lib.hid hn
  obtain ⟨h0, t, h1, rfl, h3⟩ := hR
  have c0 := h3.cell 0
  have c1 := h3.cell 1
  simp only [List.getElem?_toArray, List.getElem?_cons_zero, List.getElem?_cons_succ] at c0 c1
  have H3 := Lib.hid h3
  clear hn h3
  have k1 : (0 : Int) ≤ t := by omega
  have k2 : (t : Int) ≤ s.length := by omega
  rw [List.length_drop] at hz
  go_enter Try.func101, Try.ntmps101
  go_wp2_with fail
  have d0 := fun u : Over w => Over.cell c0 u
  have d1 := fun u : Over w => Over.cell c1 u
  clear c0 c1
  refine wp_region_over (by kernel_rfl) (by kernel_rfl) ?_
  repeat (go_big_quiet_step ((go_at_call 42; rw [str_from]; exact calls_over (take_val HN.out _ (by simp; omega)))))
  refine wpQuiet_nil ?_
  rintro _ ⟨⟨wd, hwd⟩, rfl⟩
  clear d0 d1
  have hB := H3.out.bel hwd
  have c1 := hB.cell 1
  have f1 := hB.frozen 1
  simp only [List.getElem?_toArray, List.getElem?_cons_zero, List.getElem?_cons_succ] at c1
  have HB := Lib.hid hB
  have Hwd := Lib.hid hwd
  clear hB hwd
  go_wp2
  go_ret
  refine ⟨rfl, (grown_of_bel Hwd.out _).trans (grownBy_setCell _ _ _ _), h0, t + z, by omega, by rw [List.drop_drop], ?_⟩
  have := HB.out.set_ 1 (.int .i64 ((t + z : Nat) : Int))
  simpa using this

end Go.Proofs.Ytlclllkjnhgbjaa

namespace Go.Proofs.Ytlclllkjnhgbjaa
open Go.RowKit
set_option linter.unusedVariables false

theorem Rdr.c2 {w : World} {b : Nat} {s l : List UInt8} (h : Rdr w b s l) : w.cell? ⟨b, 2, none⟩ = some (.bool true) := by
  obtain ⟨_, t, _, _, h3⟩ := h
  exact h3.cell 2
theorem RErr.more {b : Nat} {s : List UInt8} {k : Int} {w w1 : World} {e : Ending} {w' : World} (hg : w.grownBy w1 (some b)) (h : RErr b s k w1 e w') : RErr b s k w e w' :=
  ⟨h.1, hg.trans h.2.1, h.2.2⟩
theorem RErr.at {b : Nat} {s l : List UInt8} {k : Int} {w w1 : World} (hg : w.grownBy w1 (some b)) (h : Rdr w1 b s l) : RErr b s k w (.panicked (flt k)) w1 := ⟨rfl, hg, l, h⟩

theorem pnum_cases {most : Int} {l : List UInt8} : (pnum most l = .error 3 ∧ (ntake l).2.2 = false) ∨ (∃ n z, ntake l = (n, z, true) ∧ z ≤ l.length ∧ n < 18446744073709551616 ∧ ((pnum most l = .error 5 ∧ (most < 0 ∨ most < n)) ∨ (pnum most l = .ok (n, l.drop z) ∧ 0 ≤ most ∧ (n : Int) ≤ most))) := by
  have h1 := ntake_size l
  have h2 := ntake_lt l
  unfold pnum pnumber
  rcases h : ntake l with ⟨n, z, ok⟩
  rw [h] at h1 h2
  cases ok with
  | false => left; simp
  | true =>
    right
    refine ⟨n, z, rfl, h1.1, h2, ?_⟩
    by_cases hm : most < 0 ∨ most < n
    · left; simp [hm]
    · right; simp [hm]; omega
theorem pnumber_cases {l : List UInt8} : (pnumber l = .error 3 ∧ (ntake l).2.2 = false) ∨ (∃ n z, ntake l = (n, z, true) ∧ z ≤ l.length ∧ n < 18446744073709551616 ∧ pnumber l = .ok (n, l.drop z)) := by
  have h1 := ntake_size l
  have h2 := ntake_lt l
  unfold pnumber
  rcases h : ntake l with ⟨n, z, ok⟩
  rw [h] at h1 h2
  cases ok with
  | false => left; simp
  | true => exact .inr ⟨n, z, rfl, h1.1, h2, by simp⟩

/-- (*Reader).Num: the value, or the error. -/
def RPost {α : Type} (b : Nat) (s : List UInt8) (o : PR α) (V : α → Value) (w : World) (e : Ending) (w' : World) : Prop :=
  match o with
  | .error k => RErr b s k w e w'
  | .ok (x, l) => ROk b s l (V x) w e w'

set_option maxRecDepth 100000 in
theorem num_any (b : Nat) (s l : List UInt8) (most : Int) (w : World) (hR : Rdr w b s l) (h0 : -9223372036854775808 ≤ most) (h1 : most ≤ 9223372036854775807) :
    Calls Try.prog 80 #[.pointer (some ⟨b, 0, none⟩), .int .i64 most] w (RPost b s (pnum most l) (fun n => .int .i64 (n : Nat)) w) := by
  have c2 := hR.c2
  have HR := Lib.hid hR
  clear hR
  go_enter Try.func80, Try.ntmps80
  go_wp2_with fail
  refine (on_live b _ c2).mono ?_; rintro e w1 ⟨rfl, rfl⟩
  clear c2
  go_wp2_with fail
  rcases pnum_cases (most := most) (l := l) with ⟨hp, hn⟩ | ⟨n, z, hn, hz, hlt, hp⟩
  · refine (number_err b s l _ HR.out hn).mono ?_; rintro e w1 hE
    obtain ⟨rfl, hg, hr⟩ := hE
    go_wp2
    refine ⟨rfl, ?_⟩
    rw [hp]
    exact ⟨rfl, hg, hr⟩
  · refine (number_ok b s l n z _ HR.out hn hz).mono ?_; rintro e w1 ⟨rfl, hg, hr⟩
    have Hg := Lib.hid hg
    have Hr := Lib.hid hr
    have Hp := Lib.hid hp
    clear hg hr hp hn
    by_cases hm : most < 0
    · go_wp2_with fail
      refine (fail_any _ _ _).mono ?_; rintro e w2 ⟨rfl, rfl⟩
      go_wp2
      refine ⟨rfl, ?_⟩
      rcases Hp.out with ⟨hp, _⟩ | ⟨hp, hq, _⟩
      · rw [hp]; exact ⟨rfl, Hg.out, _, Hr.out⟩
      · omega
    · have hw : IntKind.u64.wrap most = most := IntWalk.u64_in _ (by omega)
      by_cases hq : most < n
      · go_wp2_with fail
        refine (fail_any _ _ _).mono ?_; rintro e w2 ⟨rfl, rfl⟩
        go_wp2
        refine ⟨rfl, ?_⟩
        rcases Hp.out with ⟨hp, _⟩ | ⟨hp, _, hq'⟩
        · rw [hp]; exact ⟨rfl, Hg.out, _, Hr.out⟩
        · omega
      · go_wp2_with fail
        go_ret
        rcases Hp.out with ⟨hp, hx⟩ | ⟨hp, hq'⟩
        · omega
        · rw [hp]; exact ⟨rfl, Hg.out, Hr.out⟩

theorem nunfold_in {n : Nat} (h : n < 18446744073709551616) : -9223372036854775808 ≤ nunfold n ∧ nunfold n ≤ 9223372036854775807 := by
  unfold nunfold
  split <;> omega

set_option maxRecDepth 100000 in
theorem int_any (b : Nat) (s l : List UInt8) (w : World) (hR : Rdr w b s l) :
    Calls Try.prog 111 #[.pointer (some ⟨b, 0, none⟩)] w (RPost b s (pint l) (fun n => .int .i64 n) w) := by
  have c2 := hR.c2
  have HR := Lib.hid hR
  clear hR
  go_enter Try.func111, Try.ntmps111
  go_wp2_with fail
  refine (on_live b _ c2).mono ?_; rintro e w1 ⟨rfl, rfl⟩
  clear c2
  go_wp2_with fail
  rcases pnumber_cases (l := l) with ⟨hp, hn⟩ | ⟨n, z, hn, hz, hlt, hp⟩
  · refine (number_err b s l _ HR.out hn).mono ?_; rintro e w1 hE
    obtain ⟨rfl, hg, hr⟩ := hE
    go_wp2
    refine ⟨rfl, ?_⟩
    unfold pint
    rw [hp]
    exact ⟨rfl, hg, hr⟩
  · refine (number_ok b s l n z _ HR.out hn hz).mono ?_; rintro e w1 ⟨rfl, hg, hr⟩
    have Hg := Lib.hid hg
    have Hr := Lib.hid hr
    have Hp := Lib.hid hp
    clear hg hr hp hn
    go_wp2_with fail
    refine (unfold_any n _ (by omega) (by omega)).mono ?_; rintro e w2 ⟨rfl, rfl⟩
    rw [Int.toNat_natCast]
    go_wp2
    go_ret
    unfold pint
    rw [Hp.out]
    exact ⟨rfl, Hg.out, Hr.out⟩

set_option maxRecDepth 100000 in
theorem left_any (b : Nat) (s l : List UInt8) (w : World) (hR : Rdr w b s l) :
    Calls Try.prog 79 #[.pointer (some ⟨b, 0, none⟩)] w fun e w' => e = .returned (.int .i64 (l.length : Nat)) ∧ Bel w w' := by
  have c2 := hR.c2
  obtain ⟨hs, t, ht, rfl, h3⟩ := hR
  have c0 := h3.cell 0
  have c1 := h3.cell 1
  simp only [List.getElem?_toArray, List.getElem?_cons_zero, List.getElem?_cons_succ] at c0 c1
  clear h3
  have wk : IntKind.i64.wrap ((s.length : Int) - t) = (s.length : Int) - t := IntWalk.i64_in _ (by omega)
  go_enter Try.func79, Try.ntmps79
  go_wp2_with fail
  refine (on_live b _ c2).mono ?_; rintro e w1 ⟨rfl, rfl⟩
  clear c2
  go_wp2_with fail
  go_quiet (fail)
  go_wp2
  go_ret
  exact ⟨ret_int (by rw [List.length_drop]; omega), (Bel.refl w).drewN _⟩

set_option maxRecDepth 100000 in
theorem want_yes (b : Nat) (s l : List UInt8) (k : Int) (w : World) (hR : Rdr w b s l) :
    Calls Try.prog 78 #[.pointer (some ⟨b, 0, none⟩), .bool true, .int .i64 k] w fun e w' => e = .returned (.tuple #[]) ∧ w = w' := by
  have c2 := hR.c2
  clear hR
  go_enter Try.func78, Try.ntmps78
  go_wp2_with fail
  refine (on_live b _ c2).mono ?_; rintro e w1 ⟨rfl, rfl⟩
  clear c2
  go_wp2
  go_end0
  exact ⟨rfl, rfl⟩
set_option maxRecDepth 100000 in
theorem want_no (b : Nat) (s l : List UInt8) (k : Int) (w : World) (hR : Rdr w b s l) :
    Calls Try.prog 78 #[.pointer (some ⟨b, 0, none⟩), .bool false, .int .i64 k] w fun e w' => e = .panicked (flt (wantErr k)) ∧ w = w' := by
  have c2 := hR.c2
  clear hR
  go_enter Try.func78, Try.ntmps78
  go_wp2_with fail
  refine (on_live b _ c2).mono ?_; rintro e w1 ⟨rfl, rfl⟩
  clear c2
  by_cases hk : k = 0
  · subst hk
    go_wp2_with fail
    refine (fail_any _ _ _).mono ?_; rintro e w2 ⟨rfl, rfl⟩
    go_wp2
    exact ⟨rfl, rfl, rfl⟩
  · have d : (k == 0) = false := by simpa using hk
    have HK : Hid (wantErr k = k) := by show _ = _; unfold wantErr; rw [if_neg hk]
    clear hk
    go_wp2_with fail
    refine (fail_any _ _ _).mono ?_; rintro e w2 ⟨rfl, rfl⟩
    go_wp2
    exact ⟨rfl, by rw [HK.out], rfl⟩

end Go.Proofs.Ytlclllkjnhgbjaa

namespace Go.Proofs.Ytlclllkjnhgbjaa
open Go.RowKit
set_option linter.unusedVariables false

set_option maxRecDepth 100000 in
theorem all1_idle (rc b ec : Nat) (w : World) (x : Bool) (hr : w.cell? ⟨rc, 0, none⟩ = some (.pointer (some ⟨b, 0, none⟩))) (h2 : w.cell? ⟨b, 2, none⟩ = some (.bool x)) (hf : w.frozen? ⟨b, 2, none⟩ = false) :
    CallsD Try.prog 77 #[.pointer (some ⟨rc, 0, none⟩), .pointer (some ⟨ec, 0, none⟩)] .returning w fun e u' w' =>
      e = .returned (.tuple #[]) ∧ u' = .returning ∧ w' = w.setCell ⟨b, 2, none⟩ (.bool false) := by
  refine callsD_of_wpS Try.func77 rfl fun c₀ cs hu => ?_
  simp only [Try.ntmps77, List.size_toArray, List.length_cons, List.length_nil, Nat.reduceAdd, Nat.reduceSub, Array.replicate_succ, Array.replicate_zero, List.push_toArray, List.append_toArray, List.nil_append, List.cons_append]
  apply wpS_seq
  refine wpS_of_wp ?_
  go_wp2
  show Code.wpS _ _ _ _ _ _
  apply wpS_seq
  apply wpS_region
  simp [wpOpsS, go_sem, recoverD, hu, Exit.thenS]
  refine wpS_of_wp ?_
  go_wp2
  refine ⟨rfl, .returning, ?_, .tuple #[], by kernel_rfl, rfl, rfl, rfl⟩
  cases c₀
  simp only at hu
  subst hu
  rfl

set_option maxRecDepth 100000 in
theorem all1_caught (rc b ec : Nat) (w : World) (x : Bool) (k y : Int) (hr : w.cell? ⟨rc, 0, none⟩ = some (.pointer (some ⟨b, 0, none⟩))) (h2 : w.cell? ⟨b, 2, none⟩ = some (.bool x)) (hf : w.frozen? ⟨b, 2, none⟩ = false)
    (he : w.cell? ⟨ec, 0, none⟩ = some (.int .i64 y)) (hef : w.frozen? ⟨ec, 0, none⟩ = false) (hne : ec ≠ b) :
    CallsD Try.prog 77 #[.pointer (some ⟨rc, 0, none⟩), .pointer (some ⟨ec, 0, none⟩)] (.panicking (flt k)) w fun e u' w' =>
      e = .returned (.tuple #[]) ∧ u' = .panicking [{ v := .iface 133 (.agg #[.int .i64 k]), recovered := true }] ∧ w' = ((w.setCell ⟨b, 2, none⟩ (.bool false)).setCell ⟨ec, 0, none⟩ (.int .i64 k)).alloc (.cells #[.int .i64 k] 133) := by
  refine callsD_of_wpS Try.func77 rfl fun c₀ cs hu => ?_
  have hta : ∀ w, (Instr.typeAssert (.iface 133 (.agg #[.int .i64 k])) 20 133 true).run Try.prog w = .ok (.tuple #[.agg #[.int .i64 k], .bool true]) w := fun _ => by kernel_rfl
  have hlt : ec < w.heap.size := World.block_lt_of_cell? w _ he
  simp only [Try.ntmps77, List.size_toArray, List.length_cons, List.length_nil, Nat.reduceAdd, Nat.reduceSub, Array.replicate_succ, Array.replicate_zero, List.push_toArray, List.append_toArray, List.nil_append, List.cons_append]
  apply wpS_seq
  refine wpS_of_wp ?_
  go_wp2
  show Code.wpS _ _ _ _ _ _
  apply wpS_seq
  apply wpS_region
  simp [wpOpsS, go_sem, recoverD, hu, Exit.thenS]
  refine wpS_of_wp ?_
  have e1 : (w.setCell ⟨b, 2, none⟩ (.bool false)).cell? ⟨ec, 0, none⟩ = some (.int .i64 y) := (World.cell?_setCell_other _ _ _ _ (by simp)).trans he
  have e2 : (w.setCell ⟨b, 2, none⟩ (.bool false)).frozen? ⟨ec, 0, none⟩ = false := by simpa using hef
  go_wp2
  exact ⟨rfl, _, rfl, .tuple #[], by kernel_rfl, rfl, rfl, rfl⟩

/-- All but the two blocks of a reading (its answer's, and its reader's) is as it was; there may be more. -/
structure But2 (B : Nat) (w w' : World) : Prop where
  os : w'.os = w.os
  tape : w'.tape = w.tape
  output : w'.output = w.output
  size : w.heap.size ≤ w'.heap.size
  block : ∀ g, g < w.heap.size → g ≠ B → g ≠ B + 1 → w'.heap[g]? = w.heap[g]?

/-- How the function that reads ends: R tells what is said of the world, for the answer of the whole. -/
def AllPost (B : Nat) (s : List UInt8) (R : Int → World → Prop) (e : Ending) (w' : World) : Prop :=
  Blk w' B 39 #[.int .i64 0] ∧ Blk w' (B + 2) 88 #[.pointer (some ⟨B + 1, 0, none⟩)] ∧
    ((∃ k, e = .panicked (flt k) ∧ (∃ l, Rdr w' (B + 1) s l) ∧ R k w') ∨ (∃ l, e = .returned (.tuple #[]) ∧ Rdr w' (B + 1) s l ∧ R (if l = [] then 0 else 3) w'))

theorem But2.alloc {B : Nat} {w w' : World} (h : But2 B w w') (o : Obj) : But2 B w (w'.alloc o) :=
  ⟨h.os, h.tape, h.output, by have := h.size; simp; omega, fun g hg h1 h2 => (Below.heap_alloc w' o g (Nat.lt_of_lt_of_le hg h.size)).trans (h.block g hg h1 h2)⟩
theorem But2.set_ {B : Nat} {w w' : World} (h : But2 B w w') (g o : Nat) (hg : g = B ∨ g = B + 1) (v : Value) : But2 B w (w'.setCell ⟨g, o, none⟩ v) :=
  ⟨h.os, h.tape, h.output, by have := h.size; simp; omega, fun g' hg' h1 h2 => (Below.heap_setCell w' ⟨g, o, none⟩ v g' (by simp; omega)).trans (h.block g' hg' h1 h2)⟩
theorem But2.refl (B : Nat) (w : World) : But2 B w w := ⟨rfl, rfl, rfl, Nat.le_refl _, fun _ _ _ _ => rfl⟩
theorem But2.trans {B : Nat} {a b c : World} (h : But2 B a b) (k : But2 B b c) : But2 B a c :=
  ⟨k.os.trans h.os, k.tape.trans h.tape, k.output.trans h.output, Nat.le_trans h.size k.size, fun g hg h1 h2 => (k.block g (Nat.lt_of_lt_of_le hg h.size) h1 h2).trans (h.block g hg h1 h2)⟩
theorem But2.of_bel {B : Nat} {w w' : World} (h : Bel w w') : But2 B w w' := ⟨h.os, h.tape, h.output, h.size, fun g hg _ _ => h.block g hg⟩
theorem left_nil (b : Nat) (s : List UInt8) (w : World) (hR : Rdr w b s []) :
    Calls Try.prog 79 #[.pointer (some ⟨b, 0, none⟩)] w fun e w' => e = .returned (.int .i64 0) ∧ Bel w w' := left_any b s [] w hR

set_option maxRecDepth 100000 in
/-- The reading's end, where the frame returns. -/
theorem ends_idle (B : Nat) (tmps : Array Value) (R : Ending → World → Prop) (w : World) (x : Bool) (ht : tmps.getD 4 undef = .pointer (some ⟨B, 0, none⟩))
    (hr : w.cell? ⟨B + 2, 0, none⟩ = some (.pointer (some ⟨B + 1, 0, none⟩))) (h2 : w.cell? ⟨B + 1, 2, none⟩ = some (.bool x)) (hf : w.frozen? ⟨B + 1, 2, none⟩ = false) (k : Int) (he : Blk w B 39 #[.int .i64 k])
    (h : R (.returned (.int .i64 k)) (w.setCell ⟨B + 1, 2, none⟩ (.bool false))) :
    Leaves Try.prog Try.f43 tmps R [{ target := .fn (.func 77) #[.pointer (some ⟨B + 1 + 1, 0, none⟩), .pointer (some ⟨B, 0, none⟩)], args := #[] }] .returning w := by
  refine leaves_cons (f := 77) (args := #[.pointer (some ⟨B + 1 + 1, 0, none⟩), .pointer (some ⟨B, 0, none⟩)]) (by simp) (by simp [go_sem]) ?_
  refine (all1_idle (B + 1 + 1) (B + 1) B w x hr h2 hf).mono ?_
  rintro e u' w'' ⟨rfl, rfl, rfl⟩
  refine ⟨.int .i64 k, ?_, h⟩
  have b1 := (he.far (p := ⟨B + 1, 2, none⟩) (by simp) (.bool false)).cell 0
  generalize w.setCell ⟨B + 1, 2, none⟩ (.bool false) = W at *
  have ht' : tmps[4]?.getD undef = .pointer (some ⟨B, 0, none⟩) := by simpa using ht
  simp [results, Try.results43, go_sem, ht', b1]

set_option maxRecDepth 100000 in
/-- The reading's end, where the frame panics by a fault. -/
theorem ends_caught (B : Nat) (tmps : Array Value) (R : Ending → World → Prop) (w : World) (x : Bool) (y : Int) (ht : tmps.getD 4 undef = .pointer (some ⟨B, 0, none⟩))
    (hr : w.cell? ⟨B + 2, 0, none⟩ = some (.pointer (some ⟨B + 1, 0, none⟩))) (h2 : w.cell? ⟨B + 1, 2, none⟩ = some (.bool x)) (hf : w.frozen? ⟨B + 1, 2, none⟩ = false) (k : Int) (he : Blk w B 39 #[.int .i64 y])
    (h : ∀ W, But2 B w W → W.cell? ⟨B + 1, 2, none⟩ = some (.bool false) → R (.returned (.int .i64 k)) W) :
    Leaves Try.prog Try.f43 tmps R [{ target := .fn (.func 77) #[.pointer (some ⟨B + 1 + 1, 0, none⟩), .pointer (some ⟨B, 0, none⟩)], args := #[] }] (.panicking (flt k)) w := by
  refine leaves_cons (f := 77) (args := #[.pointer (some ⟨B + 1 + 1, 0, none⟩), .pointer (some ⟨B, 0, none⟩)]) (by simp) (by simp [go_sem]) ?_
  refine (all1_caught (B + 1 + 1) (B + 1) B w x k y hr h2 hf (he.cell 0) (he.frozen 0) (by omega)).mono ?_
  rintro e u' w'' ⟨rfl, rfl, rfl⟩
  refine ⟨.int .i64 k, ?_, h _ ((((But2.refl B w).set_ (B + 1) 2 (.inr rfl) _).set_ B 0 (.inl rfl) _).alloc _) ?_⟩
  rotate_left
  · rw [World.cell?_alloc_lt _ _ _ (by have := World.block_lt_of_cell? _ _ h2; simp at this; simp; omega), World.cell?_setCell_other _ _ _ _ (by simp), World.cell?_setCell_same _ _ _ h2]
  have b1 := (((he.far (p := ⟨B + 1, 2, none⟩) (by simp) (.bool false)).set_ 0 (.int .i64 k)).alloc (.cells #[.int .i64 k] 133)).cell 0
  generalize ((w.setCell ⟨B + 1, 2, none⟩ (.bool false)).setCell ⟨B, 0, none⟩ (.int .i64 k)).alloc (.cells #[.int .i64 k] 133) = W at *
  simp at b1
  have ht' : tmps[4]?.getD undef = .pointer (some ⟨B, 0, none⟩) := by simpa using ht
  simp [results, Try.results43, go_sem, ht', b1]

/-- What the reading answers, and what is said of the world. -/
def AllSaid (B : Nat) (R : Int → World → Prop) (e : Ending) (w'' : World) : Prop := ∃ k w', e = .returned (.int .i64 k) ∧ R k w' ∧ But2 B w' w'' ∧ w''.cell? ⟨B + 1, 2, none⟩ = some (.bool false)

set_option maxRecDepth 100000 in
theorem all_any (F : FuncId) (caps : Array Value) (s : List UInt8) (w : World) (hs : s.length ≤ 1000001) (R : Int → World → Prop)
    (hcf : ∀ args w, (callFunc F args).run Try.prog w = .ok (.enter F args) w)
    (H : ∀ w1, Bel w w1 → w1.heap.size = w.heap.size + 3 → Rdr w1 (w.heap.size + 1) s s → Blk w1 w.heap.size 39 #[.int .i64 0] → Blk w1 (w.heap.size + 2) 88 #[.pointer (some ⟨w.heap.size + 1, 0, none⟩)] →
      Calls Try.prog F (#[.pointer (some ⟨w.heap.size + 1, 0, none⟩)] ++ caps) w1 (AllPost w.heap.size s R)) :
    Calls Try.prog 43 #[.string ⟨s.toArray⟩, .func (.func F) #[] caps] w (AllSaid w.heap.size R) := by
  have hmf : ∀ (fn : Fn) (first cap : Array Value) (w : World), (Instr.makeFunc fn first cap).run Try.prog w = .ok (.func fn first cap) w := fun _ _ _ _ => rfl
  have HH := Lib.hid H
  clear H
  go_enter_defers Try.func43, Try.ntmps43
  go_wp2_with fail
  have hB0 : Bel w (((w.alloc (Obj.cells #[Value.int IntKind.i64 0] 39)).alloc (Obj.cells #[Value.string { data := s.toArray }, Value.int IntKind.i64 0, Value.bool true] 131)).alloc (Obj.cells #[Value.pointer (some { block := w.heap.size + 1, off := 0 })] 88)) := (((Bel.refl w).alloc _).alloc _).alloc _
  have hsz : (((w.alloc (Obj.cells #[Value.int IntKind.i64 0] 39)).alloc (Obj.cells #[Value.string { data := s.toArray }, Value.int IntKind.i64 0, Value.bool true] 131)).alloc (Obj.cells #[Value.pointer (some { block := w.heap.size + 1, off := 0 })] 88)).heap.size = w.heap.size + 3 := by simp
  have b0 := ((Blk.new w 39 #[.int .i64 0]).alloc (Obj.cells #[Value.string { data := s.toArray }, Value.int IntKind.i64 0, Value.bool true] 131)).alloc (Obj.cells #[Value.pointer (some { block := w.heap.size + 1, off := 0 })] 88)
  have b1 := (Blk.new (w.alloc (Obj.cells #[Value.int IntKind.i64 0] 39)) 131 #[Value.string { data := s.toArray }, Value.int IntKind.i64 0, Value.bool true]).alloc (Obj.cells #[Value.pointer (some { block := w.heap.size + 1, off := 0 })] 88)
  have b2 := Blk.new ((w.alloc (Obj.cells #[Value.int IntKind.i64 0] 39)).alloc (Obj.cells #[Value.string { data := s.toArray }, Value.int IntKind.i64 0, Value.bool true] 131)) 88 #[Value.pointer (some { block := w.heap.size + 1, off := 0 })]
  rw [World.size_alloc, World.size_alloc] at b2
  rw [World.size_alloc] at b1
  have HC := Lib.hid (HH.out _ hB0 hsz ⟨hs, 0, by omega, by simp, b1⟩ b0 b2)
  generalize ((w.alloc (Obj.cells #[Value.int IntKind.i64 0] 39)).alloc (Obj.cells #[Value.string { data := s.toArray }, Value.int IntKind.i64 0, Value.bool true] 131)).alloc (Obj.cells #[Value.pointer (some { block := w.heap.size + 1, off := 0 })] 88) = W at *
  clear hB0 hsz b0 b1 b2
  go_wp2_with fail
  refine HC.out.mono ?_
  rintro e w1 ⟨k0, k2, ⟨k, rfl, ⟨l, hR⟩, hK⟩ | ⟨l, rfl, hR, hK⟩⟩
  · obtain ⟨_, t, _, _, k1⟩ := hR
    have r0 := k2.cell 0
    have r1 := k1.cell 2
    have r2 := k1.frozen 2
    have r3 := k0.cell 0
    have r4 := k0.frozen 0
    have K0 := Lib.hid k0
    clear k0 k1 k2
    go_wp2
    exact ends_caught w.heap.size _ _ w1 true 0 rfl r0 r1 r2 k K0.out fun W hW hc => ⟨k, w1, rfl, hK, hW, hc⟩
  · have q0 := k2.cell 0
    have Hk0 := Lib.hid k0
    have Hk2 := Lib.hid k2
    have HR := Lib.hid hR
    have HK := Lib.hid hK
    clear k0 k2 hR hK
    simp only [List.getElem?_toArray, List.getElem?_cons_zero] at q0
    go_wp2_with fail
    cases l with
    | nil =>
      have d0 := fun u : Over w1 => Over.cell q0 u
      clear q0
      refine wp_region_over (by kernel_rfl) (by kernel_rfl) ?_
      repeat (go_big_quiet_step (first | (go_at_call 79; exact calls_over (left_nil _ _ _ (HR.out.bel (Over.bel _)))) | (go_at_call 78; exact calls_over_same (want_yes _ _ _ _ _ (HR.out.bel (Over.bel _))))))
      refine wpQuiet_nil ?_
      rintro _ ⟨⟨wd, hwd⟩, rfl⟩
      clear d0
      have k0 := Hk0.out.bel hwd
      have k2 := (Hk2.out.bel hwd).cell 0
      obtain ⟨_, t, _, _, k1⟩ := HR.out.bel hwd
      have x0 := k0.cell 0
      have x1 := k0.frozen 0
      have y1 := k1.cell 2
      have y2 := k1.frozen 2
      have K0 := Lib.hid k0
      have K1 := Lib.hid k1
      have K2 := Lib.hid k2
      have Hwd := Lib.hid hwd
      clear k0 k1 k2 hwd y1 y2
      go_wp2
      have k1' := K1.out.far (p := ⟨w.heap.size, 0, none⟩) (by simp) (.int .i64 0)
      refine ends_idle w.heap.size _ _ _ true rfl ?_ (k1'.cell 2) (k1'.frozen 2) 0 (by simpa using K0.out.set_ 0 (.int .i64 0)) ?_
      · exact (World.cell?_setCell_other _ _ _ _ (by simp)).trans K2.out
      · exact ⟨0, w1, rfl, by simpa using HK.out, (((But2.of_bel Hwd.out).set_ _ 0 (.inl rfl) _).set_ _ 2 (.inr rfl) _), World.cell?_setCell_same _ _ _ (k1'.cell 2)⟩
    | cons c r =>
      have d : ((r.length : Int) + 1 == 0) = false := by simp; omega
      have HE : Hid (∀ w2, Bel w1 w2 → ∀ tmps : Array Value, tmps.getD 4 undef = .pointer (some ⟨w.heap.size, 0, none⟩) → bodyPostD Try.prog Try.f43 (AllSaid w.heap.size R) (Exit.panic (flt (wantErr 3))) ⟨tmps, [{ target := .fn (.func 77) #[.pointer (some ⟨w.heap.size + 1 + 1, 0, none⟩), .pointer (some ⟨w.heap.size, 0, none⟩)], args := #[] }]⟩ w2) := fun w2 hb2 tmps ht => by
        obtain ⟨_, t, _, _, k1⟩ := HR.out.bel hb2
        exact ends_caught w.heap.size _ _ w2 true 0 ht ((Hk2.out.bel hb2).cell 0) (k1.cell 2) (k1.frozen 2) 3 (Hk0.out.bel hb2) fun W hW hc => ⟨3, w1, rfl, by simpa using HK.out, (But2.of_bel hb2).trans hW, hc⟩
      refine wp_region_held_drew (S := fun w' => w'.cell? ⟨w.heap.size + 1 + 1, 0, none⟩ = some (.pointer (some ⟨w.heap.size + 1, 0, none⟩))) (by kernel_rfl) ?_ (fun hHeld => ?_)
      · (try dsimp only); first | exact q0 | exact q2
      refine wpAnyH_ready (rs := [0, 1]) (by kernel_rfl) (by simp) ?_
      refine AllReadyH.cons (get_o0) (fun KK hKK => ?_) ?_
      · go_simp
        refine hKK.out _ _ ?_ (fun hHeld => ?_)
        · (try dsimp only); first | exact q0 | exact q2
        clear hKK KK
        try simp only [Act.put, List.setIfInBounds_toArray, List.set_cons_zero, List.set_cons_succ]
        refine wpAnyH_ready (rs := [1]) (by kernel_rfl) (by simp) ?_
        refine AllReadyH.cons (get_os (get_o0)) (fun KK hKK => ?_) ?_
        · go_simp
          refine hKK.out _ _ ?_ (fun hHeld => ?_)
          · (try dsimp only); first | exact q0 | exact q2
          clear hKK KK
          try simp only [Act.put, List.setIfInBounds_toArray, List.set_cons_zero, List.set_cons_succ]
          refine wpAnyH_ready (rs := [2]) (by kernel_rfl) (by simp) ?_
          refine AllReadyH.cons (get_os (get_os (get_o0))) (fun KK hKK => ?_) ?_
          · go_simp
            refine (left_any _ _ _ _ (HR.out.bel (Bel.refl w1).drew)).mono ?_; rintro e w2 ⟨rfl, hb2⟩; have q2 := (Hk2.out.bel ((Bel.refl w1).drew.trans hb2)).cell 0; simp only [List.getElem?_toArray, List.getElem?_cons_zero] at q2
            refine hKK.out _ _ ?_ (fun hHeld => ?_)
            · (try dsimp only); first | exact q0 | exact q2
            clear hKK KK
            try simp only [Act.put, List.setIfInBounds_toArray, List.set_cons_zero, List.set_cons_succ]
            refine wpAnyH_ready (rs := [3]) (by kernel_rfl) (by simp) ?_
            refine AllReadyH.cons (get_os (get_os (get_os (get_o0)))) (fun KK hKK => ?_) ?_
            · go_simp
              refine hKK.out _ _ ?_ (fun hHeld => ?_)
              · (try dsimp only); first | exact q0 | exact q2
              clear hKK KK
              try simp only [Act.put, List.setIfInBounds_toArray, List.set_cons_zero, List.set_cons_succ]
              refine wpAnyH_ready (rs := [4]) (by kernel_rfl) (by simp) ?_
              refine AllReadyH.cons (get_os (get_os (get_os (get_os (get_o0))))) (fun KK hKK => ?_) ?_
              · go_simp
                refine (want_no _ _ _ _ _ (HR.out.bel ((Bel.refl w1).drew.trans hb2))).mono ?_; rintro e w3 ⟨rfl, rfl⟩; exact HE.out _ ((Bel.refl w1).drew.trans hb2) _ rfl
              exact AllReadyH.nil
            exact AllReadyH.nil
          exact AllReadyH.nil
        exact AllReadyH.nil
      refine AllReadyH.cons (get_os (get_o0)) (fun KK hKK => ?_) ?_
      · go_simp
        refine hKK.out _ _ ?_ (fun hHeld => ?_)
        · (try dsimp only); first | exact q0 | exact q2
        clear hKK KK
        try simp only [Act.put, List.setIfInBounds_toArray, List.set_cons_zero, List.set_cons_succ]
        refine wpAnyH_ready (rs := [0, 2]) (by kernel_rfl) (by simp) ?_
        refine AllReadyH.cons (get_o0) (fun KK hKK => ?_) ?_
        · go_simp
          refine hKK.out _ _ ?_ (fun hHeld => ?_)
          · (try dsimp only); first | exact q0 | exact q2
          clear hKK KK
          try simp only [Act.put, List.setIfInBounds_toArray, List.set_cons_zero, List.set_cons_succ]
          refine wpAnyH_ready (rs := [2]) (by kernel_rfl) (by simp) ?_
          refine AllReadyH.cons (get_os (get_os (get_o0))) (fun KK hKK => ?_) ?_
          · go_simp
            refine (left_any _ _ _ _ (HR.out.bel (Bel.refl w1).drew)).mono ?_; rintro e w2 ⟨rfl, hb2⟩; have q2 := (Hk2.out.bel ((Bel.refl w1).drew.trans hb2)).cell 0; simp only [List.getElem?_toArray, List.getElem?_cons_zero] at q2
            refine hKK.out _ _ ?_ (fun hHeld => ?_)
            · (try dsimp only); first | exact q0 | exact q2
            clear hKK KK
            try simp only [Act.put, List.setIfInBounds_toArray, List.set_cons_zero, List.set_cons_succ]
            refine wpAnyH_ready (rs := [3]) (by kernel_rfl) (by simp) ?_
            refine AllReadyH.cons (get_os (get_os (get_os (get_o0)))) (fun KK hKK => ?_) ?_
            · go_simp
              refine hKK.out _ _ ?_ (fun hHeld => ?_)
              · (try dsimp only); first | exact q0 | exact q2
              clear hKK KK
              try simp only [Act.put, List.setIfInBounds_toArray, List.set_cons_zero, List.set_cons_succ]
              refine wpAnyH_ready (rs := [4]) (by kernel_rfl) (by simp) ?_
              refine AllReadyH.cons (get_os (get_os (get_os (get_os (get_o0))))) (fun KK hKK => ?_) ?_
              · go_simp
                refine (want_no _ _ _ _ _ (HR.out.bel ((Bel.refl w1).drew.trans hb2))).mono ?_; rintro e w3 ⟨rfl, rfl⟩; exact HE.out _ ((Bel.refl w1).drew.trans hb2) _ rfl
              exact AllReadyH.nil
            exact AllReadyH.nil
          exact AllReadyH.nil
        refine AllReadyH.cons (get_os (get_os (get_o0))) (fun KK hKK => ?_) ?_
        · go_simp
          refine (left_any _ _ _ _ (HR.out.bel (Bel.refl w1).drew)).mono ?_; rintro e w2 ⟨rfl, hb2⟩; have q2 := (Hk2.out.bel ((Bel.refl w1).drew.trans hb2)).cell 0; simp only [List.getElem?_toArray, List.getElem?_cons_zero] at q2
          refine hKK.out _ _ ?_ (fun hHeld => ?_)
          · (try dsimp only); first | exact q0 | exact q2
          clear hKK KK
          try simp only [Act.put, List.setIfInBounds_toArray, List.set_cons_zero, List.set_cons_succ]
          refine wpAnyH_ready (rs := [0, 3]) (by kernel_rfl) (by simp) ?_
          refine AllReadyH.cons (get_o0) (fun KK hKK => ?_) ?_
          · go_simp
            refine hKK.out _ _ ?_ (fun hHeld => ?_)
            · (try dsimp only); first | exact q0 | exact q2
            clear hKK KK
            try simp only [Act.put, List.setIfInBounds_toArray, List.set_cons_zero, List.set_cons_succ]
            refine wpAnyH_ready (rs := [3]) (by kernel_rfl) (by simp) ?_
            refine AllReadyH.cons (get_os (get_os (get_os (get_o0)))) (fun KK hKK => ?_) ?_
            · go_simp
              refine hKK.out _ _ ?_ (fun hHeld => ?_)
              · (try dsimp only); first | exact q0 | exact q2
              clear hKK KK
              try simp only [Act.put, List.setIfInBounds_toArray, List.set_cons_zero, List.set_cons_succ]
              refine wpAnyH_ready (rs := [4]) (by kernel_rfl) (by simp) ?_
              refine AllReadyH.cons (get_os (get_os (get_os (get_os (get_o0))))) (fun KK hKK => ?_) ?_
              · go_simp
                refine (want_no _ _ _ _ _ (HR.out.bel ((Bel.refl w1).drew.trans hb2))).mono ?_; rintro e w3 ⟨rfl, rfl⟩; exact HE.out _ ((Bel.refl w1).drew.trans hb2) _ rfl
              exact AllReadyH.nil
            exact AllReadyH.nil
          refine AllReadyH.cons (get_os (get_os (get_os (get_o0)))) (fun KK hKK => ?_) ?_
          · go_simp
            refine hKK.out _ _ ?_ (fun hHeld => ?_)
            · (try dsimp only); first | exact q0 | exact q2
            clear hKK KK
            try simp only [Act.put, List.setIfInBounds_toArray, List.set_cons_zero, List.set_cons_succ]
            refine wpAnyH_ready (rs := [0]) (by kernel_rfl) (by simp) ?_
            refine AllReadyH.cons (get_o0) (fun KK hKK => ?_) ?_
            · go_simp
              refine hKK.out _ _ ?_ (fun hHeld => ?_)
              · (try dsimp only); first | exact q0 | exact q2
              clear hKK KK
              try simp only [Act.put, List.setIfInBounds_toArray, List.set_cons_zero, List.set_cons_succ]
              refine wpAnyH_ready (rs := [4]) (by kernel_rfl) (by simp) ?_
              refine AllReadyH.cons (get_os (get_os (get_os (get_os (get_o0))))) (fun KK hKK => ?_) ?_
              · go_simp
                refine (want_no _ _ _ _ _ (HR.out.bel ((Bel.refl w1).drew.trans hb2))).mono ?_; rintro e w3 ⟨rfl, rfl⟩; exact HE.out _ ((Bel.refl w1).drew.trans hb2) _ rfl
              exact AllReadyH.nil
            exact AllReadyH.nil
          exact AllReadyH.nil
        exact AllReadyH.nil
      exact AllReadyH.nil

end Go.Proofs.Ytlclllkjnhgbjaa

namespace Go.Proofs.Ytlclllkjnhgbjaa
open Go.RowKit
set_option linter.unusedVariables false

/-- The document's scan: bytes, how many were read, and the number of the first error. -/
abbrev scn (s : List UInt8) (t k : Int) : Value := .agg #[.string ⟨s.toArray⟩, .int .i64 t, .int .i64 k]
abbrev scs (s : List UInt8) (t k : Int) : Array Value := #[.string ⟨s.toArray⟩, .int .i64 t, .int .i64 k]

theorem Blk.three {w : World} {g : Nat} {t : TypeId} {a b c : Value} (h : Blk w g t #[a, b, c]) : w.cell? ⟨g, 0, none⟩ = some a ∧ w.cell? ⟨g, 1, none⟩ = some b ∧ w.cell? ⟨g, 2, none⟩ = some c ∧ w.frozen? ⟨g, 0, none⟩ = false ∧ w.frozen? ⟨g, 1, none⟩ = false ∧ w.frozen? ⟨g, 2, none⟩ = false :=
  ⟨h.cell 0, h.cell 1, h.cell 2, h.frozen 0, h.frozen 1, h.frozen 2⟩

theorem rowScn : RowTy Try.prog 92 3 := ⟨⟨_, Try.underlying92, rfl⟩, by kernel_rfl⟩
theorem scs_one (s : List UInt8) (t k : Int) : (scs s t k).all (·.oneCell') = true := by simp [Value.oneCell']
theorem pnum_ok {most : Int} {l r : List UInt8} {n : Nat} (h : pnum most l = .ok (n, r)) : 0 ≤ most ∧ (n : Int) ≤ most ∧ r.length ≤ l.length := by
  rcases pnum_cases (most := most) (l := l) with ⟨e, _⟩ | ⟨n', z, _, hz, _, ⟨e, _⟩ | ⟨e, h2, h3⟩⟩
  · rw [h] at e; cases e
  · rw [h] at e; cases e
  · rw [h] at e
    injection e with e
    injection e with e1 e2
    subst e1
    subst e2
    exact ⟨h2, h3, by rw [List.length_drop]; omega⟩
theorem pnum_err {most k : Int} {l : List UInt8} (h : pnum most l = .error k) : k = 3 ∨ k = 5 := by
  rcases pnum_cases (most := most) (l := l) with ⟨e, _⟩ | ⟨n', z, _, hz, _, ⟨e, _⟩ | ⟨e, h2, h3⟩⟩
  · rw [h] at e; injection e with e; exact .inl e
  · rw [h] at e; injection e with e; exact .inr e
  · rw [h] at e; cases e
theorem rtake_val {l : List UInt8} {n z : Nat} {ok : Bool} (h : ntake l = (n, z, ok)) (w : World) (hl : l.length ≤ 1000001) :
    Calls Try.prog 46 #[.string ⟨l.toArray⟩] w fun e w' => e = .returned (.tuple #[.int .u64 (n : Nat), .int .i64 (z : Nat), .bool ok]) ∧ Bel w w' := by
  have q := rtake_any l w hl
  rw [h] at q
  exact q

/-- The document's reading: the value and what is left, or an error. -/
def SPost {α : Type} (s : List UInt8) (o : PR α) (V : α → Value) (z : Value) (w : World) (e : Ending) (w' : World) : Prop :=
  Bel w w' ∧ match o with
    | .error k => ∃ t : Int, e = .returned (.tuple #[scn s t k, z])
    | .ok (x, l) => ∃ t : Nat, t ≤ s.length ∧ l = s.drop t ∧ e = .returned (.tuple #[scn s t 0, V x])

set_option maxRecDepth 100000 in
theorem rnumber_bad (s : List UInt8) (t k : Int) (hk : k ≠ 0) (w : World) :
    Calls Try.prog 83 #[scn s t k] w fun e w' => e = .returned (.tuple #[scn s t k, .int .u64 0]) ∧ Bel w w' := by
  have d : (k != 0) = true := by simpa using hk
  clear hk
  go_enter Try.func83, Try.ntmps83
  go_wp2
  refine bodyPost_ret (v := .tuple #[scn s t k, .int .u64 0]) (by simp [results, Try.results83, go_sem]) rfl ⟨rfl, ?_⟩
  exact ((Bel.refl w).alloc _).alloc _

set_option maxRecDepth 100000 in
theorem rnumber_any (s : List UInt8) (t : Nat) (hs : s.length ≤ 1000001) (ht : t ≤ s.length) (w : World) :
    Calls Try.prog 83 #[scn s t 0] w (SPost s (pnumber (s.drop t)) (fun n => .int .u64 (n : Nat)) (.int .u64 0) w) := by
  have k1 : (0 : Int) ≤ t := by omega
  have k2 : (t : Int) ≤ s.length := by omega
  go_enter Try.func83, Try.ntmps83
  go_wp2_with fail
  rw [str_from]
  have bA := (Blk.new w 92 (scs s t 0)).alloc (.cells #[.string ⟨#[]⟩, .int .i64 0, .int .i64 0] 92)
  have bB := Blk.new (w.alloc (.cells (scs s t 0) 92)) 92 #[.string ⟨#[]⟩, .int .i64 0, .int .i64 0]
  have hW := ((Bel.refl w).alloc (.cells (scs s t 0) 92)).alloc (.cells #[.string ⟨#[]⟩, .int .i64 0, .int .i64 0] 92)
  rw [World.size_alloc] at bB
  rcases pnumber_cases (l := s.drop t) with ⟨hp, hn⟩ | ⟨n, z, hn, hz, hlt, hp⟩
  · refine (rtake_val (ntake_false hn) _ (by simp; omega)).mono ?_; rintro e w1 ⟨rfl, hb1⟩
    have Hp := Lib.hid hp
    clear hp hn
    obtain ⟨a0, a1, a2, f0, f1, f2⟩ := (bA.bel hb1).three
    obtain ⟨b0, b1, b2, g0, g1, g2⟩ := (bB.bel hb1).three
    have HW := Lib.hid (hW.trans hb1)
    clear bA bB hW hb1
    go_wp2
    refine bodyPost_ret (v := .tuple #[scn s t 3, .int .u64 0]) (by simp [results, Try.results83, go_sem, b0, b1, b2]) rfl ⟨?_, ?_⟩
    · repeat (with_reducible first | exact HW.out | refine Bel.setCell ?_ (by simp) _ | refine Bel.alloc ?_ _)
    · rw [Hp.out]
      exact ⟨t, rfl⟩
  · refine (rtake_val hn _ (by simp; omega)).mono ?_; rintro e w1 ⟨rfl, hb1⟩
    have Hp := Lib.hid hp
    rw [List.length_drop] at hz
    clear hp hn
    obtain ⟨a0, a1, a2, f0, f1, f2⟩ := (bA.bel hb1).three
    obtain ⟨b0, b1, b2, g0, g1, g2⟩ := (bB.bel hb1).three
    have HW := Lib.hid (hW.trans hb1)
    clear bA bB hW hb1
    go_wp2
    refine bodyPost_ret (v := .tuple #[scn s (t + z : Nat) 0, .int .u64 n]) (by simp [results, Try.results83, go_sem, b0, b1, b2]) rfl ⟨?_, ?_⟩
    · repeat (with_reducible first | exact HW.out | refine Bel.setCell ?_ (by simp) _ | refine Bel.alloc ?_ _)
    · rw [Hp.out]
      exact ⟨t + z, by omega, by rw [List.drop_drop], rfl⟩

set_option maxRecDepth 100000 in
theorem rnum_bad (s : List UInt8) (t k : Int) (most : Int) (hk : k ≠ 0) (w : World) :
    Calls Try.prog 47 #[scn s t k, .int .i64 most] w fun e w' => e = .returned (.tuple #[scn s t k, .int .i64 0]) ∧ Bel w w' := by
  have HK := Lib.hid hk
  have d : (k != 0) = true := by simpa using hk
  have d2 : (k == 0) = false := by simpa using hk
  clear hk
  go_enter Try.func47, Try.ntmps47
  go_wp2_with fail
  have bA := (Blk.new w 92 (scs s t k)).alloc (.cells #[.string ⟨#[]⟩, .int .i64 0, .int .i64 0] 92)
  have bB := Blk.new (w.alloc (.cells (scs s t k) 92)) 92 #[.string ⟨#[]⟩, .int .i64 0, .int .i64 0]
  have hW := ((Bel.refl w).alloc (.cells (scs s t k) 92)).alloc (.cells #[.string ⟨#[]⟩, .int .i64 0, .int .i64 0] 92)
  rw [World.size_alloc] at bB
  refine (rnumber_bad s t k HK.out _).mono ?_; rintro e w1 ⟨rfl, hb1⟩
  have bA1 := bA.bel hb1
  have bB1 := bB.bel hb1
  have hW1 := Lib.hid (hW.trans hb1)
  clear bA bB hW hb1
  go_wp2_with (((with_reducible show wpList _ _ _ (⟨_, .store _ (.tmp 2) _, _, _, _, _⟩ :: _) _ _); refine wpList_store_blk rfl rowScn (.tmp 2) (.tmp 10) rfl w.heap.size rfl bA1 rfl (scs s t k) rfl rfl (scs_one _ _ _) ?_; intro w2 bA2 hg2; have bB2 := bB1.grown hg2 (by simp); obtain ⟨a0, a1, a2, f0, f1, f2⟩ := bA2.three; obtain ⟨b0, b1, b2, g0, g1, g2⟩ := bB2.three; have BA := Lib.hid bA2; have BB := Lib.hid bB2; have HW := Lib.hid (hW1.out.grownAt hg2 (Nat.le_refl _)); clear bA1 bB1 hW1 bA2 bB2 hg2))
  refine bodyPost_ret (v := .tuple #[scn s t k, .int .i64 0]) (by simp [results, Try.results47, go_sem, b0, b1, b2]) rfl ⟨rfl, ?_⟩
  repeat (with_reducible first | exact HW.out | refine Bel.setCell ?_ (by simp) _ | refine Bel.alloc ?_ _)

set_option maxRecDepth 100000 in
theorem rint_bad (s : List UInt8) (t k : Int) (hk : k ≠ 0) (w : World) :
    Calls Try.prog 103 #[scn s t k] w fun e w' => e = .returned (.tuple #[scn s t k, .int .i64 0]) ∧ Bel w w' := by
  have HK := Lib.hid hk
  have d : (k != 0) = true := by simpa using hk
  clear hk
  go_enter Try.func103, Try.ntmps103
  go_wp2_with fail
  have bA := (Blk.new w 92 (scs s t k)).alloc (.cells #[.string ⟨#[]⟩, .int .i64 0, .int .i64 0] 92)
  have bB := Blk.new (w.alloc (.cells (scs s t k) 92)) 92 #[.string ⟨#[]⟩, .int .i64 0, .int .i64 0]
  have hW := ((Bel.refl w).alloc (.cells (scs s t k) 92)).alloc (.cells #[.string ⟨#[]⟩, .int .i64 0, .int .i64 0] 92)
  rw [World.size_alloc] at bB
  refine (rnumber_bad s t k HK.out _).mono ?_; rintro e w1 ⟨rfl, hb1⟩
  have bA1 := bA.bel hb1
  have bB1 := bB.bel hb1
  have hW1 := Lib.hid (hW.trans hb1)
  clear bA bB hW hb1
  go_wp2_with (((with_reducible show wpList _ _ _ (⟨_, .store _ (.tmp 1) _, _, _, _, _⟩ :: _) _ _); refine wpList_store_blk rfl rowScn (.tmp 1) (.tmp 8) rfl w.heap.size rfl bA1 rfl (scs s t k) rfl rfl (scs_one _ _ _) ?_; intro w2 bA2 hg2; have bB2 := bB1.grown hg2 (by simp); obtain ⟨a0, a1, a2, f0, f1, f2⟩ := bA2.three; obtain ⟨b0, b1, b2, g0, g1, g2⟩ := bB2.three; have BA := Lib.hid bA2; have BB := Lib.hid bB2; have HW := Lib.hid (hW1.out.grownAt hg2 (Nat.le_refl _)); clear bA1 bB1 hW1 bA2 bB2 hg2))
  refine bodyPost_ret (v := .tuple #[scn s t k, .int .i64 0]) (by simp [results, Try.results103, go_sem, b0, b1, b2]) rfl ⟨rfl, ?_⟩
  repeat (with_reducible first | exact HW.out | refine Bel.setCell ?_ (by simp) _ | refine Bel.alloc ?_ _)

set_option maxRecDepth 100000 in
set_option maxHeartbeats 1000000 in
theorem rnum_any (s : List UInt8) (t : Nat) (most : Int) (hs : s.length ≤ 1000001) (ht : t ≤ s.length) (h0 : -9223372036854775808 ≤ most) (h1 : most ≤ 9223372036854775807) (w : World) :
    Calls Try.prog 47 #[scn s t 0, .int .i64 most] w (SPost s (pnum most (s.drop t)) (fun n => .int .i64 (n : Nat)) (.int .i64 0) w) := by
  go_enter Try.func47, Try.ntmps47
  go_wp2_with fail
  have bA := (Blk.new w 92 (scs s t 0)).alloc (.cells #[.string ⟨#[]⟩, .int .i64 0, .int .i64 0] 92)
  have bB := Blk.new (w.alloc (.cells (scs s t 0) 92)) 92 #[.string ⟨#[]⟩, .int .i64 0, .int .i64 0]
  have hW := ((Bel.refl w).alloc (.cells (scs s t 0) 92)).alloc (.cells #[.string ⟨#[]⟩, .int .i64 0, .int .i64 0] 92)
  rw [World.size_alloc] at bB
  have HP := Lib.hid (rnumber_any s t hs ht)
  rcases pnum_cases (most := most) (l := s.drop t) with ⟨hp, hn⟩ | ⟨n, z, hn, hz, hlt, hp⟩
  · have e1 : pnumber (s.drop t) = .error 3 := by unfold pnumber; rw [ntake_false hn]; rfl
    rw [e1] at HP
    refine (HP.out _).mono ?_; rintro e w1 ⟨hb1, t', rfl⟩
    have Hp := Lib.hid hp
    clear hp hn e1
    have bA1 := bA.bel hb1
    have bB1 := bB.bel hb1
    have hW1 := Lib.hid (hW.trans hb1)
    clear bA bB hW hb1
    go_wp2_with (((with_reducible show wpList _ _ _ (⟨_, .store _ (.tmp 2) _, _, _, _, _⟩ :: _) _ _); refine wpList_store_blk rfl rowScn (.tmp 2) (.tmp 10) rfl w.heap.size rfl bA1 rfl (scs s t' 3) rfl rfl (scs_one _ _ _) ?_; intro w2 bA2 hg2; have bB2 := bB1.grown hg2 (by simp); obtain ⟨a0, a1, a2, f0, f1, f2⟩ := bA2.three; obtain ⟨b0, b1, b2, g0, g1, g2⟩ := bB2.three; have BA := Lib.hid bA2; have BB := Lib.hid bB2; have HW := Lib.hid (hW1.out.grownAt hg2 (Nat.le_refl _)); clear bA1 bB1 hW1 bA2 bB2 hg2))
    refine bodyPost_ret (v := .tuple #[scn s t' 3, .int .i64 0]) (by simp [results, Try.results47, go_sem, b0, b1, b2]) rfl ⟨?_, ?_⟩
    · repeat (with_reducible first | exact HW.out | refine Bel.setCell ?_ (by simp) _ | refine Bel.alloc ?_ _)
    · rw [Hp.out]
      exact ⟨t', rfl⟩
  · have e1 : pnumber (s.drop t) = .ok (n, (s.drop t).drop z) := by unfold pnumber; rw [hn]; rfl
    rw [e1] at HP
    refine (HP.out _).mono ?_; rintro e w1 ⟨hb1, t', ht', he, rfl⟩
    have He := Lib.hid he
    have Hp := Lib.hid hp
    clear hp hn e1 he
    have bA1 := bA.bel hb1
    have bB1 := bB.bel hb1
    have hW1 := Lib.hid (hW.trans hb1)
    clear bA bB hW hb1
    by_cases hm : most < 0
    · have d : decide (most < 0) = true := by simp; omega
      go_wp2_with (((with_reducible show wpList _ _ _ (⟨_, .store _ (.tmp 2) _, _, _, _, _⟩ :: _) _ _); refine wpList_store_blk rfl rowScn (.tmp 2) (.tmp 10) rfl w.heap.size rfl bA1 rfl (scs s t' 0) rfl rfl (scs_one _ _ _) ?_; intro w2 bA2 hg2; have bB2 := bB1.grown hg2 (by simp); obtain ⟨a0, a1, a2, f0, f1, f2⟩ := bA2.three; obtain ⟨b0, b1, b2, g0, g1, g2⟩ := bB2.three; have BA := Lib.hid bA2; have BB := Lib.hid bB2; have HW := Lib.hid (hW1.out.grownAt hg2 (Nat.le_refl _)); clear bA1 bB1 hW1 bA2 bB2 hg2))
      refine bodyPost_ret (v := .tuple #[scn s t' 5, .int .i64 0]) (by simp [results, Try.results47, go_sem, b0, b1, b2]) rfl ⟨?_, ?_⟩
      · repeat (with_reducible first | exact HW.out | refine Bel.setCell ?_ (by simp) _ | refine Bel.alloc ?_ _)
      · rcases Hp.out with ⟨hp, _⟩ | ⟨hp, hq, _⟩
        · rw [hp]; exact ⟨t', rfl⟩
        · omega
    · have d : decide (most < 0) = false := by simp; omega
      have hw : IntKind.u64.wrap most = most := IntWalk.u64_in _ (by omega)
      by_cases hq : most < n
      · have d2 : decide (most < n) = true := by simp; omega
        go_wp2_with (((with_reducible show wpList _ _ _ (⟨_, .store _ (.tmp 2) _, _, _, _, _⟩ :: _) _ _); refine wpList_store_blk rfl rowScn (.tmp 2) (.tmp 10) rfl w.heap.size rfl bA1 rfl (scs s t' 0) rfl rfl (scs_one _ _ _) ?_; intro w2 bA2 hg2; have bB2 := bB1.grown hg2 (by simp); obtain ⟨a0, a1, a2, f0, f1, f2⟩ := bA2.three; obtain ⟨b0, b1, b2, g0, g1, g2⟩ := bB2.three; have BA := Lib.hid bA2; have BB := Lib.hid bB2; have HW := Lib.hid (hW1.out.grownAt hg2 (Nat.le_refl _)); clear bA1 bB1 hW1 bA2 bB2 hg2))
        refine bodyPost_ret (v := .tuple #[scn s t' 5, .int .i64 0]) (by simp [results, Try.results47, go_sem, b0, b1, b2]) rfl ⟨?_, ?_⟩
        · repeat (with_reducible first | exact HW.out | refine Bel.setCell ?_ (by simp) _ | refine Bel.alloc ?_ _)
        · rcases Hp.out with ⟨hp, _⟩ | ⟨hp, _, hq'⟩
          · rw [hp]; exact ⟨t', rfl⟩
          · omega
      · have d2 : decide (most < n) = false := by simp; omega
        go_wp2_with (((with_reducible show wpList _ _ _ (⟨_, .store _ (.tmp 2) _, _, _, _, _⟩ :: _) _ _); refine wpList_store_blk rfl rowScn (.tmp 2) (.tmp 10) rfl w.heap.size rfl bA1 rfl (scs s t' 0) rfl rfl (scs_one _ _ _) ?_; intro w2 bA2 hg2; have bB2 := bB1.grown hg2 (by simp); obtain ⟨a0, a1, a2, f0, f1, f2⟩ := bA2.three; obtain ⟨b0, b1, b2, g0, g1, g2⟩ := bB2.three; have BA := Lib.hid bA2; have BB := Lib.hid bB2; have HW := Lib.hid (hW1.out.grownAt hg2 (Nat.le_refl _)); clear bA1 bB1 hW1 bA2 bB2 hg2))
        refine bodyPost_ret (v := .tuple #[scn s t' 0, .int .i64 n]) (by simp [results, Try.results47, go_sem, b0, b1, b2]) rfl ⟨?_, ?_⟩
        · repeat (with_reducible first | exact HW.out | refine Bel.setCell ?_ (by simp) _ | refine Bel.alloc ?_ _)
        · rcases Hp.out with ⟨hp, hx⟩ | ⟨hp, _⟩
          · omega
          · rw [hp]; exact ⟨t', ht', He.out, rfl⟩

set_option maxRecDepth 100000 in
set_option maxHeartbeats 1000000 in
theorem rint_any (s : List UInt8) (t : Nat) (hs : s.length ≤ 1000001) (ht : t ≤ s.length) (w : World) :
    Calls Try.prog 103 #[scn s t 0] w (SPost s (pint (s.drop t)) (fun n => .int .i64 n) (.int .i64 0) w) := by
  go_enter Try.func103, Try.ntmps103
  go_wp2_with fail
  have bA := (Blk.new w 92 (scs s t 0)).alloc (.cells #[.string ⟨#[]⟩, .int .i64 0, .int .i64 0] 92)
  have bB := Blk.new (w.alloc (.cells (scs s t 0) 92)) 92 #[.string ⟨#[]⟩, .int .i64 0, .int .i64 0]
  have hW := ((Bel.refl w).alloc (.cells (scs s t 0) 92)).alloc (.cells #[.string ⟨#[]⟩, .int .i64 0, .int .i64 0] 92)
  rw [World.size_alloc] at bB
  have HP := Lib.hid (rnumber_any s t hs ht)
  rcases pnumber_cases (l := s.drop t) with ⟨hp, hn⟩ | ⟨n, z, hn, hz, hlt, hp⟩
  · rw [hp] at HP
    refine (HP.out _).mono ?_; rintro e w1 ⟨hb1, t', rfl⟩
    have Hp := Lib.hid hp
    clear hp hn
    have bA1 := bA.bel hb1
    have bB1 := bB.bel hb1
    have hW1 := Lib.hid (hW.trans hb1)
    clear bA bB hW hb1
    go_wp2_with (((with_reducible show wpList _ _ _ (⟨_, .store _ (.tmp 1) _, _, _, _, _⟩ :: _) _ _); refine wpList_store_blk rfl rowScn (.tmp 1) (.tmp 8) rfl w.heap.size rfl bA1 rfl (scs s t' 3) rfl rfl (scs_one _ _ _) ?_; intro w2 bA2 hg2; have bB2 := bB1.grown hg2 (by simp); obtain ⟨a0, a1, a2, f0, f1, f2⟩ := bA2.three; obtain ⟨b0, b1, b2, g0, g1, g2⟩ := bB2.three; have BA := Lib.hid bA2; have BB := Lib.hid bB2; have HW := Lib.hid (hW1.out.grownAt hg2 (Nat.le_refl _)); clear bA1 bB1 hW1 bA2 bB2 hg2))
    refine bodyPost_ret (v := .tuple #[scn s t' 3, .int .i64 0]) (by simp [results, Try.results103, go_sem, b0, b1, b2]) rfl ⟨?_, ?_⟩
    · repeat (with_reducible first | exact HW.out | refine Bel.setCell ?_ (by simp) _ | refine Bel.alloc ?_ _)
    · unfold pint
      rw [Hp.out]
      exact ⟨t', rfl⟩
  · rw [hp] at HP
    refine (HP.out _).mono ?_; rintro e w1 ⟨hb1, t', ht', he, rfl⟩
    have He := Lib.hid he
    have Hp := Lib.hid hp
    clear hp hn he
    have bA1 := bA.bel hb1
    have bB1 := bB.bel hb1
    have hW1 := Lib.hid (hW.trans hb1)
    clear bA bB hW hb1
    go_wp2_with (((with_reducible show wpList _ _ _ (⟨_, .store _ (.tmp 1) _, _, _, _, _⟩ :: _) _ _); refine wpList_store_blk rfl rowScn (.tmp 1) (.tmp 8) rfl w.heap.size rfl bA1 rfl (scs s t' 0) rfl rfl (scs_one _ _ _) ?_; intro w2 bA2 hg2; have bB2 := bB1.grown hg2 (by simp); obtain ⟨a0, a1, a2, f0, f1, f2⟩ := bA2.three; obtain ⟨b0, b1, b2, g0, g1, g2⟩ := bB2.three; have BA := Lib.hid bA2; have BB := Lib.hid bB2; have HW := Lib.hid (hW1.out.grownAt hg2 (Nat.le_refl _)); clear bA1 bB1 hW1 bA2 bB2 hg2))
    go_region_with ((go_at_call 112; refine (runfold_any n _ (by omega) (by omega)).mono ?_; rintro e w3 ⟨rfl, rfl⟩; rw [Int.toNat_natCast]))
    all_goals
      go_wp2
      refine bodyPost_ret (v := .tuple #[scn s t' 0, .int .i64 (nunfold n)]) (by simp [results, Try.results103, go_sem, b0, b1, b2]) rfl ⟨?_, ?_⟩
      · repeat (with_reducible first | exact HW.out | exact HW.out.drew | refine Bel.setCell ?_ (by simp) _ | refine Bel.alloc ?_ _ | refine Bel.drew ?_)
      · unfold pint
        rw [Hp.out]
        exact ⟨t', ht', He.out, rfl⟩

end Go.Proofs.Ytlclllkjnhgbjaa

namespace Go.Proofs.Ytlclllkjnhgbjaa
open Go.RowKit
set_option linter.unusedVariables false
attribute [local go_sem] str_at

/-- May a text be a member? -/
def isTerm (l : List UInt8) : Bool := decide (1 ≤ l.length ∧ l.length ≤ 16)
/-- May a sign stand in a name? -/
def isSign (c : Nat) : Bool := (decide (97 ≤ c) && decide (c ≤ 122)) || (decide (48 ≤ c) && decide (c ≤ 57)) || c == 95
/-- May a text be a name? -/
def isName (l : List UInt8) : Bool := decide (1 ≤ l.length ∧ l.length ≤ 12) && l.all fun c => isSign c.toNat

end Go.Proofs.Ytlclllkjnhgbjaa

namespace Go.Proofs.Ytlclllkjnhgbjaa
open Go.RowKit
set_option linter.unusedVariables false
attribute [local go_sem] str_at

/-- A text as a value. -/
abbrev tx (l : List UInt8) : Value := .string ⟨l.toArray⟩
theorem Rd.tx {w : World} {A : Option Addr} {n k : Nat} {ts : List (List UInt8)} (h : Rd w 1 A n (ts.map tx)) (hk : k < n) :
    ∃ ad t, A = some ad ∧ ts[k]? = some t ∧ w.cell? (ad.add k) = some (.string ⟨t.toArray⟩) := by
  obtain ⟨ad, u, e, _, hx, hc⟩ := Reads.at_ h hk
  rw [List.getElem?_map] at hx
  cases hz : ts[k]? with
  | none => rw [hz] at hx; cases hx
  | some z =>
    rw [hz] at hx
    simp at hx
    subst hx
    exact ⟨ad, z, e, rfl, hc⟩

/-- The first thing that is wrong with a row of texts. -/
def rowFrom (p : Option (List UInt8)) : List (List UInt8) → Int
  | [] => 0
  | t :: r => if isTerm t then (if (p.any fun q => !Op.bytesLess q t) then 4 else rowFrom (some t) r) else 2
def rowErr (ts : List (List UInt8)) : Int := rowFrom none ts
end Go.Proofs.Ytlclllkjnhgbjaa

namespace Go.Proofs.Ytlclllkjnhgbjaa
open Go.RowKit
set_option linter.unusedVariables false
attribute [local go_sem] str_at str_from

/-- The bytes of a text. -/
def ptext (l : List UInt8) : List UInt8 := nput l.length ++ l

set_option maxRecDepth 100000 in
set_option maxHeartbeats 1000000 in
theorem putNum_any (x : Int) (w : World) (h0 : -9223372036854775808 ≤ x) (h1 : x ≤ 9223372036854775807) :
    Calls Try.prog 35 #[.int .i64 x] w fun e w' => e = .returned (.string ⟨(nput x.toNat).toArray⟩) ∧ Bel w w' := by
  by_cases h : 0 ≤ x
  · have hm : max x 0 = x := by omega
    go_enter Try.func35, Try.ntmps35
    go_wp2_with fail
    refine (put_any _ _ (by omega) (by omega)).mono ?_; rintro e w1 ⟨rfl, hb⟩
    go_wp2
    go_ret
    exact ⟨rfl, hb⟩
  · have hm : max x 0 = 0 := by omega
    have Hx : Hid (x.toNat = 0) := by show _ = _; omega
    rw [Hx.out]
    go_enter Try.func35, Try.ntmps35
    go_wp2_with fail
    refine (put_any _ _ (by omega) (by omega)).mono ?_; rintro e w1 ⟨rfl, hb⟩
    go_wp2
    go_ret
    exact ⟨rfl, hb⟩

set_option maxRecDepth 100000 in
set_option maxHeartbeats 1000000 in
theorem putText_any (l : List UInt8) (w : World) (hl : l.length ≤ 1000000000) :
    Calls Try.prog 37 #[.string ⟨l.toArray⟩] w fun e w' => e = .returned (.string ⟨(ptext l).toArray⟩) ∧ Bel w w' := by
  have hpl : (nput l.length).length ≤ 9 := by rw [nput_length]; exact nsize_le _
  go_enter Try.func37, Try.ntmps37
  go_wp2_with fail
  refine (putNum_any _ _ (by omega) (by omega)).mono ?_; rintro e w1 ⟨rfl, hb⟩
  rw [Int.toNat_natCast]
  go_wp2
  go_ret
  rw [str_append]
  exact ⟨rfl, hb⟩

/-- How many bytes two texts begin with alike. -/
def alike : List UInt8 → List UInt8 → Nat
  | a :: x, b :: y => if a = b then alike x y + 1 else 0
  | _, _ => 0
theorem nput_le9 (n : Nat) : (nput n).length ≤ 9 := by rw [nput_length]; exact nsize_le _

end Go.Proofs.Ytlclllkjnhgbjaa

namespace Go.Proofs.Ytlclllkjnhgbjaa
open Go.RowKit
set_option linter.unusedVariables false

set_option maxRecDepth 100000 in
theorem rwant_bad (s : List UInt8) (t k n : Int) (is : Bool) (hk : k ≠ 0) (w : World) :
    Calls Try.prog 85 #[scn s t k, .bool is, .int .i64 n] w fun e w' => e = .returned (scn s t k) ∧ Bel w w' := by
  have d : (k == 0) = false := by simpa using hk
  clear hk
  go_enter Try.func85, Try.ntmps85
  go_wp2
  refine bodyPost_ret (v := scn s t k) (by simp [results, Try.results85, go_sem]) rfl ⟨rfl, ?_⟩
  exact ((Bel.refl w).alloc _).alloc _
set_option maxRecDepth 100000 in
theorem rwant_yes (s : List UInt8) (t n : Int) (w : World) :
    Calls Try.prog 85 #[scn s t 0, .bool true, .int .i64 n] w fun e w' => e = .returned (scn s t 0) ∧ Bel w w' := by
  go_enter Try.func85, Try.ntmps85
  go_wp2
  refine bodyPost_ret (v := scn s t 0) (by simp [results, Try.results85, go_sem]) rfl ⟨rfl, ?_⟩
  exact ((Bel.refl w).alloc _).alloc _
set_option maxRecDepth 100000 in
theorem rwant_no (s : List UInt8) (t n : Int) (w : World) :
    Calls Try.prog 85 #[scn s t 0, .bool false, .int .i64 n] w fun e w' => e = .returned (scn s t (wantErr n)) ∧ Bel w w' := by
  by_cases hn : n = 0
  · subst hn
    go_enter Try.func85, Try.ntmps85
    go_wp2
    refine bodyPost_ret (v := scn s t 3) (by simp [results, Try.results85, go_sem]) rfl ⟨rfl, ?_⟩
    exact ((Bel.refl w).alloc _).alloc _
  · have HN : Hid (wantErr n = n) := by show _ = _; unfold wantErr; rw [if_neg hn]
    have d : (n == 0) = false := by simpa using hn
    clear hn
    go_enter Try.func85, Try.ntmps85
    go_wp2
    refine bodyPost_ret (v := scn s t n) (by simp [results, Try.results85, go_sem]) rfl ⟨by rw [HN.out], ?_⟩
    exact ((Bel.refl w).alloc _).alloc _

/-- How a scan ends: its error; or, if bytes are left, 3. -/
def endOf (s : List UInt8) (t k : Int) : Int := if k ≠ 0 then k else if t = s.length then 0 else 3

set_option maxRecDepth 100000 in
theorem rend_any (s : List UInt8) (t k : Int) (w : World) :
    Calls Try.prog 49 #[scn s t k] w fun e w' => e = .returned (.int .i64 (endOf s t k)) ∧ Bel w w' := by
  have hfl : ∀ (s : List UInt8) (t k : Int) (w : World), (Instr.field 92 (scn s t k) 2).run Try.prog w = .ok (.int .i64 k) w := fun _ _ _ _ => by kernel_rfl
  by_cases hk : k = 0
  · subst hk
    by_cases ht : t = s.length
    · subst ht
      have HE : Hid (endOf s s.length 0 = 0) := by show _ = _; unfold endOf; simp
      go_enter Try.func49, Try.ntmps49
      go_wp2_with fail
      refine (rwant_yes s _ _ _).mono ?_; rintro e w1 ⟨rfl, hb1⟩
      go_wp2
      go_ret
      exact ⟨by rw [HE.out]; rfl, ((Bel.refl w).alloc _).trans hb1⟩
    · have HE : Hid (endOf s t 0 = 3) := by show _ = _; unfold endOf; simp [ht]
      have d : (t == (s.length : Int)) = false := by simpa using ht
      clear ht
      go_enter Try.func49, Try.ntmps49
      go_wp2_with fail
      refine (rwant_no s _ _ _).mono ?_; rintro e w1 ⟨rfl, hb1⟩
      go_wp2
      go_ret
      exact ⟨by rw [HE.out]; rfl, ((Bel.refl w).alloc _).trans hb1⟩
  · have HE : Hid (endOf s t k = k) := by show _ = _; unfold endOf; simp [hk]
    have HK : Hid (k ≠ 0) := hk
    clear hk
    go_enter Try.func49, Try.ntmps49
    go_wp2_with fail
    refine (rwant_bad s _ _ _ _ HK.out _).mono ?_; rintro e w1 ⟨rfl, hb1⟩
    go_wp2
    go_ret
    exact ⟨by rw [HE.out]; rfl, ((Bel.refl w).alloc _).trans hb1⟩

theorem rputNum_any (x : Int) (w : World) (h0 : -9223372036854775808 ≤ x) (h1 : x ≤ 9223372036854775807) :
    Calls Try.prog 39 #[.int .i64 x] w fun e w' => e = .returned (.string ⟨(nput x.toNat).toArray⟩) ∧ Bel w w' := by
  by_cases h : x < 0
  · have e0 : Hid (x.toNat = 0) := by show _ = _; omega
    go_enter Try.func39, Try.ntmps39
    go_wp2_with fail
    refine (rput_any 0 _ (by omega) (by omega)).mono ?_; rintro e w1 ⟨rfl, hb1⟩
    go_wp2
    go_ret
    exact ⟨by rw [e0.out]; rfl, hb1⟩
  · have wx : IntKind.u64.wrap x = x := IntWalk.u64_in _ (by omega)
    have d : decide (x < 0) = false := by simp; omega
    go_enter Try.func39, Try.ntmps39
    go_wp2_with fail
    refine (rput_any x _ (by omega) (by omega)).mono ?_; rintro e w1 ⟨rfl, hb1⟩
    go_wp2
    go_ret
    exact ⟨rfl, hb1⟩
theorem rputInt_any (x : Int) (w : World) (h0 : -9223372036854775808 ≤ x) (h1 : x ≤ 9223372036854775807) :
    Calls Try.prog 98 #[.int .i64 x] w fun e w' => e = .returned (.string ⟨(nput (nfold x)).toArray⟩) ∧ Bel w w' := by
  have hf := nfold_lt h0 h1
  go_enter Try.func98, Try.ntmps98
  go_wp2_with fail
  refine (rfold_any x _ h0 h1).mono ?_; rintro e w1 ⟨rfl, rfl⟩
  go_wp2_with fail
  refine (rput_any (nfold x : Nat) _ (by omega) (by omega)).mono ?_; rintro e w1 ⟨rfl, hb1⟩
  rw [Int.toNat_natCast]
  go_wp2
  go_ret
  exact ⟨rfl, hb1⟩
theorem rputText_any (l : List UInt8) (w : World) (hl : l.length ≤ 1000000000) :
    Calls Try.prog 41 #[.string ⟨l.toArray⟩] w fun e w' => e = .returned (.string ⟨(ptext l).toArray⟩) ∧ Bel w w' := by
  have hpl : (nput l.length).length ≤ 9 := by rw [nput_length]; exact nsize_le _
  go_enter Try.func41, Try.ntmps41
  go_wp2_with fail
  refine (rputNum_any (l.length : Int) _ (by omega) (by omega)).mono ?_; rintro e w1 ⟨rfl, hb1⟩
  rw [Int.toNat_natCast]
  go_wp2
  go_ret
  rw [str_append]
  exact ⟨rfl, hb1⟩
theorem pputInt_any (x : Int) (w : World) (h0 : -9223372036854775808 ≤ x) (h1 : x ≤ 9223372036854775807) :
    Calls Try.prog 96 #[.int .i64 x] w fun e w' => e = .returned (.string ⟨(nput (nfold x)).toArray⟩) ∧ Bel w w' := by
  go_enter Try.func96, Try.ntmps96
  go_wp2_with fail
  refine (putInt_any x _ h0 h1).mono ?_; rintro e w1 ⟨rfl, hb1⟩
  go_wp2
  go_ret
  exact ⟨rfl, hb1⟩

end Go.Proofs.Ytlclllkjnhgbjaa

namespace Go.Proofs.Ytlclllkjnhgbjaa
open Go.RowKit
set_option linter.unusedVariables false

/-- A reading under way: nothing older than w0 has turned; the reader has the bytes l left; its answer's cell, and the cell that leads to the reader, are as they were. -/
structure InAll (w0 : World) (B : Nat) (s l : List UInt8) (w : World) : Prop where
  bel : Bel w0 w
  hB : w0.heap.size ≤ B
  e : Blk w B 39 #[.int .i64 0]
  p : Blk w (B + 2) 88 #[.pointer (some ⟨B + 1, 0, none⟩)]
  r : Rdr w (B + 1) s l
section
variable {w0 w w' : World} {B : Nat} {s l l' : List UInt8}
theorem InAll.read (h : InAll w0 B s l w) (hg : w.grownBy w' (some (B + 1))) (hr : Rdr w' (B + 1) s l') : InAll w0 B s l' w' :=
  ⟨h.bel.grownAt hg (by have := h.hB; omega), h.hB, h.e.grown hg (by simp), h.p.grown hg (by simp), hr⟩
theorem InAll.more (h : InAll w0 B s l w) (hb : Bel w w') : InAll w0 B s l w' := ⟨h.bel.trans hb, h.hB, h.e.bel hb, h.p.bel hb, h.r.bel hb⟩
theorem InAll.kept (h : InAll w0 B s l w) {g : Nat} (hg : w.grownBy w' (some g)) (h0 : w0.heap.size ≤ g) (h1 : g ≠ B) (h2 : g ≠ B + 1) (h3 : g ≠ B + 2) : InAll w0 B s l w' :=
  ⟨h.bel.grownAt hg h0, h.hB, h.e.grown hg (by simp; omega), h.p.grown hg (by simp; omega), h.r.grown hg (by simp; omega)⟩
theorem InAll.ok {R : Int → World → Prop} (h : InAll w0 B s l w) (hR : R (if l = [] then 0 else 3) w) : AllPost B s R (.returned (.tuple #[])) w := ⟨h.e, h.p, .inr ⟨l, rfl, h.r, hR⟩⟩
theorem InAll.err {R : Int → World → Prop} {k : Int} (h : InAll w0 B s l w) (hR : R k w) : AllPost B s R (.panicked (flt k)) w := ⟨h.e, h.p, .inl ⟨k, rfl, ⟨l, h.r⟩, hR⟩⟩
theorem InAll.begin {w w1 : World} (h0 : Bel w0 w) (h1 : Bel w w1) (h2 : Rdr w1 (w.heap.size + 1) s l) (h3 : Blk w1 w.heap.size 39 #[.int .i64 0]) (h4 : Blk w1 (w.heap.size + 2) 88 #[.pointer (some ⟨w.heap.size + 1, 0, none⟩)]) : InAll w0 w.heap.size s l w1 :=
  ⟨h0.trans h1, h0.size, h3, h4, h2⟩
end
theorem cf_any {F : FuncId} {fn : Func} (hf : Try.prog.funcs[F]? = some fn) (hb : fn.body.isNone = false) (hn : (fn.name == "runtime.NumGoroutine") = false) (args : Array Value) (w : World) : (callFunc F args).run Try.prog w = .ok (.enter F args) w := by
  have h1 : fn.name ≠ "runtime.NumGoroutine" := by simpa using hn
  have h2 : fn.body ≠ none := by intro e; rw [e] at hb; cases hb
  simp [callFunc, go_sem, hf, h1, h2]

end Go.Proofs.Ytlclllkjnhgbjaa
