/- The reader (take.Reader): what it reads, piece by piece, or the error by which a reading ends. -/
import Derived.Test.YtnjpoamebkehbaaNumTW
import Derived.Test.YtnjpoamebkehbaaNumF
import Derived.Test.YtnjpoamebkehbaaOver
import Derived.Test.YtnjpoamebkehbaaMem
import Derived.Deep.DeepCutAuto
import Derived.Defers
import Derived.Recover
namespace Go.Proofs.Ytnjpoamebkehbaa
open Go.RowKit
set_option linter.unusedVariables false

/-- What is read of bytes: a value and the bytes that are left, or an error's number. -/
abbrev PR (α : Type) := Except Int (α × List UInt8)
def pnumber (l : List UInt8) : PR Nat := if (ntake l).2.2 then .ok ((ntake l).1, l.drop (ntake l).2.1) else .error 3
def pnum (most : Int) (l : List UInt8) : PR Nat :=
  match pnumber l with
  | .error k => .error k
  | .ok (n, r) => if most < 0 ∨ most < n then .error 5 else .ok (n, r)
def pint (l : List UInt8) : PR Int :=
  match pnumber l with
  | .error k => .error k
  | .ok (n, r) => .ok (nunfold n, r)
def pfix (n : Int) (l : List UInt8) : PR (List UInt8) := if n < 0 ∨ (l.length : Int) < n then .error 3 else .ok (l.take n.toNat, l.drop n.toNat)
def pbyte : List UInt8 → PR UInt8
  | [] => .error 3
  | c :: r => .ok (c, r)
def ptxt (most : Int) (l : List UInt8) : PR (List UInt8) :=
  match pnum most l with
  | .error k => .error k
  | .ok (n, r) => pfix n r
def wantErr (k : Int) : Int := if k = 0 then 3 else k
def pwant (is : Bool) (k : Int) (l : List UInt8) : PR Unit := if is then .ok ((), l) else .error (wantErr k)

/-- What ends a reading: a fault that holds an error's number. -/
abbrev flt (k : Int) : List PanicEntry := [{ v := .iface 147 (.agg #[.int .i64 k]), recovered := false }]

/-- A reader that is good: its bytes, and those that are left. -/
def Rdr (w : World) (b : Nat) (s l : List UInt8) : Prop :=
  s.length ≤ 1000001 ∧ ∃ t : Nat, t ≤ s.length ∧ l = s.drop t ∧ Blk w b 145 #[.string ⟨s.toArray⟩, .int .i64 t, .bool true]
theorem Rdr.grown {w w' : World} {b : Nat} {s l : List UInt8} {row : Option Nat} (h : Rdr w b s l) (hg : w.grownBy w' row) (hne : some b ≠ row) : Rdr w' b s l := by
  obtain ⟨h0, t, h1, h2, h3⟩ := h
  exact ⟨h0, t, h1, h2, h3.grown hg hne⟩
theorem Rdr.bel {w w' : World} {b : Nat} {s l : List UInt8} (h : Rdr w b s l) (hb : Bel w w') : Rdr w' b s l := by
  obtain ⟨h0, t, h1, h2, h3⟩ := h
  exact ⟨h0, t, h1, h2, h3.bel hb⟩
theorem Rdr.lt {w : World} {b : Nat} {s l : List UInt8} (h : Rdr w b s l) : b < w.heap.size := by
  obtain ⟨_, t, _, _, h3⟩ := h
  exact h3.lt
theorem Rdr.len {w : World} {b : Nat} {s l : List UInt8} (h : Rdr w b s l) : l.length ≤ 1000001 := by
  obtain ⟨h0, t, h1, h2, h3⟩ := h
  subst h2
  simp
  omega

theorem grownBy_setCell (w : World) (b o : Nat) (v : Value) : w.grownBy (w.setCell ⟨b, o, none⟩ v) (some b) :=
  ⟨rfl, rfl, rfl, by simp, fun j _ hj => Below.heap_setCell _ _ _ j (fun e => hj (by rw [e]))⟩

/-- A reading came to its value; or it ended. -/
def ROk (b : Nat) (s l : List UInt8) (v : Value) (w : World) (e : Ending) (w' : World) : Prop := e = .returned v ∧ w.grownBy w' (some b) ∧ Rdr w' b s l
def RErr (b : Nat) (s : List UInt8) (k : Int) (w : World) (e : Ending) (w' : World) : Prop := e = .panicked (flt k) ∧ w.grownBy w' (some b) ∧ ∃ l, Rdr w' b s l

theorem fail_any (v : Value) (k : Int) (w : World) : Calls Try.prog 105 #[v, .int .i64 k] w fun e w' => e = .panicked (flt k) ∧ w = w' := by
  go_enter Try.func105, Try.ntmps105
  go_wp2
  exact ⟨rfl, rfl, rfl⟩

theorem on_live (b : Nat) (w : World) (hc : w.cell? ⟨b, 2, none⟩ = some (.bool true)) :
    Calls Try.prog 104 #[.pointer (some ⟨b, 0, none⟩)] w fun e w' => e = .returned (.bool true) ∧ w = w' := by
  go_enter Try.func104, Try.ntmps104
  go_wp2
  go_ret
  exact ⟨rfl, rfl⟩
theorem on_dead (b : Nat) (w : World) (hc : w.cell? ⟨b, 2, none⟩ = some (.bool false)) :
    Calls Try.prog 104 #[.pointer (some ⟨b, 0, none⟩)] w fun e w' => e = .returned (.bool false) ∧ w = w' := by
  go_enter Try.func104, Try.ntmps104
  go_wp2
  go_ret
  exact ⟨rfl, rfl⟩
theorem on_nil (w : World) :
    Calls Try.prog 104 #[.pointer none] w fun e w' => e = .returned (.bool false) ∧ w = w' := by
  go_enter Try.func104, Try.ntmps104
  go_wp2
  go_ret
  exact ⟨rfl, rfl⟩

theorem take_val {l : List UInt8} {n z : Nat} {ok : Bool} (h : ntake l = (n, z, ok)) (w : World) (hl : l.length ≤ 1000001) :
    Calls Try.prog 162 #[.string ⟨l.toArray⟩] w fun e w' => e = .returned (.tuple #[.int .u64 (n : Nat), .int .i64 (z : Nat), .bool ok]) ∧ Bel w w' := by
  have q := take_any l w hl
  rw [h] at q
  exact q
set_option maxRecDepth 100000 in
theorem number_err (b : Nat) (s l : List UInt8) (w : World) (hR : Rdr w b s l) (hn : (ntake l).2.2 = false) :
    Calls Try.prog 141 #[.pointer (some ⟨b, 0, none⟩)] w (RErr b s 3 w) := by
  have HN := Lib.hid (ntake_false hn)
  have HR := Lib.hid hR
  obtain ⟨h0, t, h1, rfl, h3⟩ := hR
  have c0 := h3.cell 0
  have c1 := h3.cell 1
  simp only [List.getElem?_toArray, List.getElem?_cons_zero, List.getElem?_cons_succ] at c0 c1
  clear hn h3
  have k1 : (0 : Int) ≤ t := by omega
  have k2 : (t : Int) ≤ s.length := by omega
  go_enter Try.func141, Try.ntmps141
  go_wp2_with fail
  have d0 := fun u : Over w => Over.cell c0 u
  have d1 := fun u : Over w => Over.cell c1 u
  clear c0 c1
  refine wp_region_over (by kernel_rfl) (by kernel_rfl) ?_
  repeat (go_big_quiet_step ((go_at_call 162; rw [str_from]; exact calls_over (take_val HN.out _ (by simp; omega)))))
  refine wpQuiet_nil ?_
  rintro _ ⟨u, rfl⟩
  clear d0 d1
  go_wp2_with fail
  refine (fail_any _ _ _).mono ?_; rintro e w' ⟨rfl, rfl⟩
  go_wp2
  exact ⟨rfl, rfl, grown_of_bel u.bel _, _, HR.out.bel u.bel⟩

set_option maxRecDepth 100000 in
theorem number_ok (b : Nat) (s l : List UInt8) (n z : Nat) (w : World) (hR : Rdr w b s l) (hn : ntake l = (n, z, true)) (hz : z ≤ l.length) :
    Calls Try.prog 141 #[.pointer (some ⟨b, 0, none⟩)] w (ROk b s (l.drop z) (.int .u64 n) w) := by
  have HN := Lib.hid hn
  obtain ⟨h0, t, h1, rfl, h3⟩ := hR
  have c0 := h3.cell 0
  have c1 := h3.cell 1
  simp only [List.getElem?_toArray, List.getElem?_cons_zero, List.getElem?_cons_succ] at c0 c1
  have H3 := Lib.hid h3
  clear hn h3
  have k1 : (0 : Int) ≤ t := by omega
  have k2 : (t : Int) ≤ s.length := by omega
  rw [List.length_drop] at hz
  go_enter Try.func141, Try.ntmps141
  go_wp2_with fail
  have d0 := fun u : Over w => Over.cell c0 u
  have d1 := fun u : Over w => Over.cell c1 u
  clear c0 c1
  refine wp_region_over (by kernel_rfl) (by kernel_rfl) ?_
  repeat (go_big_quiet_step ((go_at_call 162; rw [str_from]; exact calls_over (take_val HN.out _ (by simp; omega)))))
  refine wpQuiet_nil ?_
  rintro _ ⟨⟨wd, hwd⟩, rfl⟩
  clear d0 d1
  have hB := H3.out.bel hwd
  have c1 := hB.cell 1
  have f1 := hB.frozen 1
  simp only [List.getElem?_toArray, List.getElem?_cons_zero, List.getElem?_cons_succ] at c1
  have HB := Lib.hid hB
  have Hwd := Lib.hid hwd
  clear hB hwd
  go_wp2
  go_ret
  refine ⟨rfl, (grown_of_bel Hwd.out _).trans (grownBy_setCell _ _ _ _), h0, t + z, by omega, by rw [List.drop_drop], ?_⟩
  have := HB.out.set_ 1 (.int .i64 ((t + z : Nat) : Int))
  simpa using this

end Go.Proofs.Ytnjpoamebkehbaa
