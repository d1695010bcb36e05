/- The walk of the law TakeOutside. -/
import Derived.Test.YtllgcehgdpgnnaaTakeG
import Derived.Test.YtllgcehgdpgnnaaEq
import Derived.ProofKit
import Derived.OpenShut
namespace Go.Proofs.Ytllgcehgdpgnnaa
open Go.RowKit
set_option linter.unusedVariables false

theorem off_nil (w : World) : Off (.pointer none) w := on_nil w
theorem off_dead {b : Nat} {w : World} (h : w.cell? ⟨b, 2, none⟩ = some (.bool false)) : Off (.pointer (some ⟨b, 0, none⟩)) w := on_dead b w h

/-- The reading function that only hands its reader out. -/
def ROut (w0 : World) (B g h : Nat) (cs : Array Value) (k : Int) (w : World) : Prop := Bel w0 w ∧ Blk w g 47 #[.pointer (some ⟨B + 1, 0, none⟩)] ∧ Blk w h 49 cs
set_option maxRecDepth 100000 in
theorem outside1_any (w0 : World) (B g : Nat) (s : List UInt8) (w : World) (hI : InAll w0 B s s w) (h0 : w0.heap.size ≤ g) (hgB : g < B) (hb : Blk w g 47 #[.pointer none]) (h : Nat) (cs : Array Value) (hh : h < g) (hc : Blk w h 49 cs) :
    Calls Try.prog 32 #[.pointer (some ⟨B + 1, 0, none⟩), .pointer (some ⟨g, 0, none⟩)] w (AllPost B s (ROut w0 B g h cs)) := by
  have H := Lib.hid hI
  have Hc := Lib.hid hc
  have Hb := Lib.hid hb
  have c1 := hb.cell 0
  have f1 := hb.frozen 0
  clear hI hb hc
  go_enter Try.func32, Try.ntmps32
  go_wp2
  go_end0
  refine (H.out.kept (grownBy_setCell w g 0 _) h0 (by omega) (by omega) (by omega)).ok ⟨?_, ?_, Hc.out.far (by simp; omega) _⟩
  · exact H.out.bel.setCell h0 _
  · have := Hb.out.set_ 0 (.pointer (some ⟨B + 1, 0, none⟩))
    simpa using this

set_option maxRecDepth 100000 in
theorem hrd_eq (w : World) : (binOp .eql 51 (.agg #[.int .i64 0, .string ⟨#[]⟩]) (.agg #[.int .i64 0, .string ⟨#[]⟩])).run Try.prog w = .ok (.bool true) w := by kernel_rfl
set_option maxRecDepth 100000 in
theorem guard_hrd : Try.prog.eqGuardType Try.prog.depth 51 = false := by kernel_rfl

set_option maxRecDepth 100000 in
set_option maxHeartbeats 1000000 in
theorem takeOutside_main (l : List UInt8) (hl : l.length ≤ 1000) (a : Stp) (how : Int) (w : World) :
    Calls Try.prog 6 #[.string ⟨l.toArray⟩, .agg a.cs, .int .i64 how] w fun e w' => e = .returned (.bool true) ∧ Bel w w' := by
  have hmf : ∀ (fn : Fn) (first cap : Array Value) (w : World), (Instr.makeFunc fn first cap).run Try.prog w = .ok (.func fn first cap) w := fun _ _ _ _ => rfl
  obtain ⟨k, n, is⟩ := a
  simp only [Stp.cs]
  have d : decide ((1000 : Int) < l.length) = false := by simp; omega
  go_enter Try.func6, Try.ntmps6
  go_wp2_with fail
  · have b2 := Blk.new ((w.alloc (.cells #[.int .i64 k, .int .i64 n, .bool is] 49)).alloc (.cells #[.pointer (some ⟨w.heap.size + 1 + 1, 0, none⟩)] 47)) 61 #[.string ⟨#[]⟩, .int .i64 0, .bool false]
    rw [World.size_alloc, World.size_alloc] at b2
    have HB := Lib.hid b2
    clear b2
    refine (ask_off _ ⟨k, n, is⟩ _ fun W hW => off_dead ((HB.out.bel hW).cell 2)).mono ?_; rintro e w4 ⟨rfl, hb4⟩
    have H4 : Hid (Bel w w4) := ((((Bel.refl w).alloc _).alloc _).alloc _).trans hb4
    clear hb4
    go_wp2_with ((with_reducible show wpList _ _ _ (⟨some 27, _, _, _, _, _⟩ :: _) _ _); refine wpList_cmp_row rfl .eql _ _ (.tmp 25) (.tmp 26) rfl rfl rfl guard_hrd (hrd_eq _) ?_)
    refine (awake04_any _).mono ?_; rintro e w5 ⟨rfl, hb5⟩
    go_wp2
    go_ret
    exact ⟨rfl, H4.out.trans hb5⟩
  · have hW := ((Bel.refl w).alloc (.cells #[.int .i64 k, .int .i64 n, .bool is] 49)).alloc (.cells #[.pointer none] 47)
    have b1 := Blk.new (w.alloc (.cells #[.int .i64 k, .int .i64 n, .bool is] 49)) 47 #[.pointer none]
    have b0 := (Blk.new w 49 #[.int .i64 k, .int .i64 n, .bool is]).alloc (.cells #[.pointer none] 47)
    have hsz : ((w.alloc (.cells #[.int .i64 k, .int .i64 n, .bool is] 49)).alloc (.cells #[.pointer none] 47)).heap.size = w.heap.size + 2 := by simp
    rw [World.size_alloc] at b1
    have hB0 := (Bel.refl w).alloc (.cells #[.int .i64 k, .int .i64 n, .bool is] 49)
    generalize hWW : (w.alloc (.cells #[.int .i64 k, .int .i64 n, .bool is] 49)).alloc (.cells #[.pointer none] 47) = W at *
    refine (all_any 32 #[.pointer (some ⟨w.heap.size + 1, 0, none⟩)] l W (by omega) (ROut w W.heap.size (w.heap.size + 1) w.heap.size #[.int .i64 k, .int .i64 n, .bool is]) (cf_any Try.func32 (by kernel_rfl) (by kernel_rfl)) ?_).mono ?_
    · intro w1 h1 h2 h3 h4 h5
      exact outside1_any w _ _ l w1 (.begin hW h1 h3 h4 h5) (by omega) (by omega) (b1.bel h1) w.heap.size _ (by omega) (b0.bel h1)
    · rintro e w2 ⟨k', w1, rfl, ⟨hb1, hk1, hk0⟩, hbut, hdead⟩
      have a1 := (hk1.but2 hbut (by omega) (by omega)).cell 0
      have a0 := hk0.but2 hbut (by omega) (by omega)
      have HB := Lib.hid (hb1.but2 (by omega) hbut)
      obtain ⟨a2, a3, a4⟩ : w2.cell? ⟨w.heap.size, 0, none⟩ = some (.int .i64 k) ∧ w2.cell? ⟨w.heap.size, 1, none⟩ = some (.int .i64 n) ∧ w2.cell? ⟨w.heap.size, 2, none⟩ = some (.bool is) := ⟨a0.cell 0, a0.cell 1, a0.cell 2⟩
      simp only [List.getElem?_toArray, List.getElem?_cons_zero] at a1
      have HD := Lib.hid hdead
      have hlt := World.block_lt_of_cell? _ _ hdead
      clear hk1 hb1 hbut b1 b0 hsz hk0 a0 hWW hB0 hW hdead
      go_wp2_with fail
      refine (ask_off _ ⟨k, n, is⟩ _ fun W' hW' => off_dead ((hW'.cell hlt).trans HD.out)).mono ?_; rintro e w4 ⟨rfl, hb4⟩
      have H4 : Hid (Bel w w4) := HB.out.trans hb4
      clear hb4
      go_wp2_with ((with_reducible show wpList _ _ _ (⟨some 27, _, _, _, _, _⟩ :: _) _ _); refine wpList_cmp_row rfl .eql _ _ (.tmp 25) (.tmp 26) rfl rfl rfl guard_hrd (hrd_eq _) ?_)
      refine (awake04_any _).mono ?_; rintro e w5 ⟨rfl, hb5⟩
      go_wp2
      go_ret
      exact ⟨rfl, H4.out.trans hb5⟩
  · refine (ask_off _ ⟨k, n, is⟩ _ fun W hW => off_nil W).mono ?_; rintro e w4 ⟨rfl, hb4⟩
    have H4 : Hid (Bel w w4) := (((Bel.refl w).alloc _).alloc _).trans hb4
    clear hb4
    go_wp2_with ((with_reducible show wpList _ _ _ (⟨some 27, _, _, _, _, _⟩ :: _) _ _); refine wpList_cmp_row rfl .eql _ _ (.tmp 25) (.tmp 26) rfl rfl rfl guard_hrd (hrd_eq _) ?_)
    refine (awake04_any _).mono ?_; rintro e w5 ⟨rfl, hb5⟩
    go_wp2
    go_ret
    exact ⟨rfl, H4.out.trans hb5⟩

theorem walk_takeOutside (w : World) (b : ByteArray) (hb : b.size ≤ 9223372036854775807) (a : Stp) (ha : a.ok) (how : Int) (hh : (Lit.int .i64 how).wf = true) :
    Calls Try.prog 6 #[.string b, .agg a.cs, .int .i64 how] w fun e w' => e = .returned (.bool true) ∧ Bel w w' := by
  obtain ⟨⟨l⟩⟩ := b
  by_cases hl : l.length ≤ 1000
  · exact takeOutside_main l hl a how w
  · have d : decide ((1000 : Int) < l.length) = true := by simp; omega
    obtain ⟨k, n, is⟩ := a
    simp only [Stp.cs]
    go_enter Try.func6, Try.ntmps6
    go_wp2_with fail
    refine (awake04_any _).mono ?_; rintro e w5 ⟨rfl, hb5⟩
    go_wp2
    go_ret
    exact ⟨rfl, ((Bel.refl w).alloc _).trans hb5⟩

end Go.Proofs.Ytllgcehgdpgnnaa
