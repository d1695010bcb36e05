/- take.All: a reading by a function, from its beginning to its end. -/
import Derived.Test.YtnjpoamebkehbaaTakeB
import Derived.Test.YtnjpoamebkehbaaGet
namespace Go.Proofs.Ytnjpoamebkehbaa
open Go.RowKit
set_option linter.unusedVariables false

set_option maxRecDepth 100000 in
theorem all1_idle (rc b ec : Nat) (w : World) (x : Bool) (hr : w.cell? ⟨rc, 0, none⟩ = some (.pointer (some ⟨b, 0, none⟩))) (h2 : w.cell? ⟨b, 2, none⟩ = some (.bool x)) (hf : w.frozen? ⟨b, 2, none⟩ = false) :
    CallsD Try.prog 99 #[.pointer (some ⟨rc, 0, none⟩), .pointer (some ⟨ec, 0, none⟩)] .returning w fun e u' w' =>
      e = .returned (.tuple #[]) ∧ u' = .returning ∧ w' = w.setCell ⟨b, 2, none⟩ (.bool false) := by
  refine callsD_of_wpS Try.func99 rfl fun c₀ cs hu => ?_
  simp only [Try.ntmps99, List.size_toArray, List.length_cons, List.length_nil, Nat.reduceAdd, Nat.reduceSub, Array.replicate_succ, Array.replicate_zero, List.push_toArray, List.append_toArray, List.nil_append, List.cons_append]
  apply wpS_seq
  refine wpS_of_wp ?_
  go_wp2
  show Code.wpS _ _ _ _ _ _
  apply wpS_seq
  apply wpS_region
  simp [wpOpsS, go_sem, recoverD, hu, Exit.thenS]
  refine wpS_of_wp ?_
  go_wp2
  refine ⟨rfl, .returning, ?_, .tuple #[], by kernel_rfl, rfl, rfl, rfl⟩
  cases c₀
  simp only at hu
  subst hu
  rfl

set_option maxRecDepth 100000 in
theorem all1_caught (rc b ec : Nat) (w : World) (x : Bool) (k y : Int) (hr : w.cell? ⟨rc, 0, none⟩ = some (.pointer (some ⟨b, 0, none⟩))) (h2 : w.cell? ⟨b, 2, none⟩ = some (.bool x)) (hf : w.frozen? ⟨b, 2, none⟩ = false)
    (he : w.cell? ⟨ec, 0, none⟩ = some (.int .i64 y)) (hef : w.frozen? ⟨ec, 0, none⟩ = false) (hne : ec ≠ b) :
    CallsD Try.prog 99 #[.pointer (some ⟨rc, 0, none⟩), .pointer (some ⟨ec, 0, none⟩)] (.panicking (flt k)) w fun e u' w' =>
      e = .returned (.tuple #[]) ∧ u' = .panicking [{ v := .iface 147 (.agg #[.int .i64 k]), recovered := true }] ∧ w' = ((w.setCell ⟨b, 2, none⟩ (.bool false)).setCell ⟨ec, 0, none⟩ (.int .i64 k)).alloc (.cells #[.int .i64 k] 147) := by
  refine callsD_of_wpS Try.func99 rfl fun c₀ cs hu => ?_
  have hta : ∀ w, (Instr.typeAssert (.iface 147 (.agg #[.int .i64 k])) 20 147 true).run Try.prog w = .ok (.tuple #[.agg #[.int .i64 k], .bool true]) w := fun _ => by kernel_rfl
  have hlt : ec < w.heap.size := World.block_lt_of_cell? w _ he
  simp only [Try.ntmps99, List.size_toArray, List.length_cons, List.length_nil, Nat.reduceAdd, Nat.reduceSub, Array.replicate_succ, Array.replicate_zero, List.push_toArray, List.append_toArray, List.nil_append, List.cons_append]
  apply wpS_seq
  refine wpS_of_wp ?_
  go_wp2
  show Code.wpS _ _ _ _ _ _
  apply wpS_seq
  apply wpS_region
  simp [wpOpsS, go_sem, recoverD, hu, Exit.thenS]
  refine wpS_of_wp ?_
  have e1 : (w.setCell ⟨b, 2, none⟩ (.bool false)).cell? ⟨ec, 0, none⟩ = some (.int .i64 y) := (World.cell?_setCell_other _ _ _ _ (by simp)).trans he
  have e2 : (w.setCell ⟨b, 2, none⟩ (.bool false)).frozen? ⟨ec, 0, none⟩ = false := by simpa using hef
  go_wp2
  exact ⟨rfl, _, rfl, .tuple #[], by kernel_rfl, rfl, rfl, rfl⟩

/-- All but the two blocks of a reading (its answer's, and its reader's) is as it was; there may be more. -/
structure But2 (B : Nat) (w w' : World) : Prop where
  os : w'.os = w.os
  tape : w'.tape = w.tape
  output : w'.output = w.output
  size : w.heap.size ≤ w'.heap.size
  block : ∀ g, g < w.heap.size → g ≠ B → g ≠ B + 1 → w'.heap[g]? = w.heap[g]?

/-- How the function that reads ends: R tells what is said of the world, for the answer of the whole. -/
def AllPost (B : Nat) (s : List UInt8) (R : Int → World → Prop) (e : Ending) (w' : World) : Prop :=
  Blk w' B 36 #[.int .i64 0] ∧ Blk w' (B + 2) 52 #[.pointer (some ⟨B + 1, 0, none⟩)] ∧
    ((∃ k, e = .panicked (flt k) ∧ (∃ l, Rdr w' (B + 1) s l) ∧ R k w') ∨ (∃ l, e = .returned (.tuple #[]) ∧ Rdr w' (B + 1) s l ∧ R (if l = [] then 0 else 3) w'))

theorem But2.alloc {B : Nat} {w w' : World} (h : But2 B w w') (o : Obj) : But2 B w (w'.alloc o) :=
  ⟨h.os, h.tape, h.output, by have := h.size; simp; omega, fun g hg h1 h2 => (Below.heap_alloc w' o g (Nat.lt_of_lt_of_le hg h.size)).trans (h.block g hg h1 h2)⟩
theorem But2.set_ {B : Nat} {w w' : World} (h : But2 B w w') (g o : Nat) (hg : g = B ∨ g = B + 1) (v : Value) : But2 B w (w'.setCell ⟨g, o, none⟩ v) :=
  ⟨h.os, h.tape, h.output, by have := h.size; simp; omega, fun g' hg' h1 h2 => (Below.heap_setCell w' ⟨g, o, none⟩ v g' (by simp; omega)).trans (h.block g' hg' h1 h2)⟩
theorem But2.refl (B : Nat) (w : World) : But2 B w w := ⟨rfl, rfl, rfl, Nat.le_refl _, fun _ _ _ _ => rfl⟩
theorem But2.trans {B : Nat} {a b c : World} (h : But2 B a b) (k : But2 B b c) : But2 B a c :=
  ⟨k.os.trans h.os, k.tape.trans h.tape, k.output.trans h.output, Nat.le_trans h.size k.size, fun g hg h1 h2 => (k.block g (Nat.lt_of_lt_of_le hg h.size) h1 h2).trans (h.block g hg h1 h2)⟩
theorem But2.of_bel {B : Nat} {w w' : World} (h : Bel w w') : But2 B w w' := ⟨h.os, h.tape, h.output, h.size, fun g hg _ _ => h.block g hg⟩
theorem left_nil (b : Nat) (s : List UInt8) (w : World) (hR : Rdr w b s []) :
    Calls Try.prog 34 #[.pointer (some ⟨b, 0, none⟩)] w fun e w' => e = .returned (.int .i64 0) ∧ Bel w w' := left_any b s [] w hR

set_option maxRecDepth 100000 in
/-- The reading's end, where the frame returns. -/
theorem ends_idle (B : Nat) (tmps : Array Value) (R : Ending → World → Prop) (w : World) (x : Bool) (ht : tmps.getD 4 undef = .pointer (some ⟨B, 0, none⟩))
    (hr : w.cell? ⟨B + 2, 0, none⟩ = some (.pointer (some ⟨B + 1, 0, none⟩))) (h2 : w.cell? ⟨B + 1, 2, none⟩ = some (.bool x)) (hf : w.frozen? ⟨B + 1, 2, none⟩ = false) (k : Int) (he : Blk w B 36 #[.int .i64 k])
    (h : R (.returned (.int .i64 k)) (w.setCell ⟨B + 1, 2, none⟩ (.bool false))) :
    Leaves Try.prog Try.f30 tmps R [{ target := .fn (.func 99) #[.pointer (some ⟨B + 1 + 1, 0, none⟩), .pointer (some ⟨B, 0, none⟩)], args := #[] }] .returning w := by
  refine leaves_cons (f := 99) (args := #[.pointer (some ⟨B + 1 + 1, 0, none⟩), .pointer (some ⟨B, 0, none⟩)]) (by simp) (by simp [go_sem]) ?_
  refine (all1_idle (B + 1 + 1) (B + 1) B w x hr h2 hf).mono ?_
  rintro e u' w'' ⟨rfl, rfl, rfl⟩
  refine ⟨.int .i64 k, ?_, h⟩
  have b1 := (he.far (p := ⟨B + 1, 2, none⟩) (by simp) (.bool false)).cell 0
  generalize w.setCell ⟨B + 1, 2, none⟩ (.bool false) = W at *
  have ht' : tmps[4]?.getD undef = .pointer (some ⟨B, 0, none⟩) := by simpa using ht
  simp [results, Try.results30, go_sem, ht', b1]

set_option maxRecDepth 100000 in
/-- The reading's end, where the frame panics by a fault. -/
theorem ends_caught (B : Nat) (tmps : Array Value) (R : Ending → World → Prop) (w : World) (x : Bool) (y : Int) (ht : tmps.getD 4 undef = .pointer (some ⟨B, 0, none⟩))
    (hr : w.cell? ⟨B + 2, 0, none⟩ = some (.pointer (some ⟨B + 1, 0, none⟩))) (h2 : w.cell? ⟨B + 1, 2, none⟩ = some (.bool x)) (hf : w.frozen? ⟨B + 1, 2, none⟩ = false) (k : Int) (he : Blk w B 36 #[.int .i64 y])
    (h : ∀ W, But2 B w W → W.cell? ⟨B + 1, 2, none⟩ = some (.bool false) → R (.returned (.int .i64 k)) W) :
    Leaves Try.prog Try.f30 tmps R [{ target := .fn (.func 99) #[.pointer (some ⟨B + 1 + 1, 0, none⟩), .pointer (some ⟨B, 0, none⟩)], args := #[] }] (.panicking (flt k)) w := by
  refine leaves_cons (f := 99) (args := #[.pointer (some ⟨B + 1 + 1, 0, none⟩), .pointer (some ⟨B, 0, none⟩)]) (by simp) (by simp [go_sem]) ?_
  refine (all1_caught (B + 1 + 1) (B + 1) B w x k y hr h2 hf (he.cell 0) (he.frozen 0) (by omega)).mono ?_
  rintro e u' w'' ⟨rfl, rfl, rfl⟩
  refine ⟨.int .i64 k, ?_, h _ ((((But2.refl B w).set_ (B + 1) 2 (.inr rfl) _).set_ B 0 (.inl rfl) _).alloc _) ?_⟩
  rotate_left
  · rw [World.cell?_alloc_lt _ _ _ (by have := World.block_lt_of_cell? _ _ h2; simp at this; simp; omega), World.cell?_setCell_other _ _ _ _ (by simp), World.cell?_setCell_same _ _ _ h2]
  have b1 := (((he.far (p := ⟨B + 1, 2, none⟩) (by simp) (.bool false)).set_ 0 (.int .i64 k)).alloc (.cells #[.int .i64 k] 147)).cell 0
  generalize ((w.setCell ⟨B + 1, 2, none⟩ (.bool false)).setCell ⟨B, 0, none⟩ (.int .i64 k)).alloc (.cells #[.int .i64 k] 147) = W at *
  simp at b1
  have ht' : tmps[4]?.getD undef = .pointer (some ⟨B, 0, none⟩) := by simpa using ht
  simp [results, Try.results30, go_sem, ht', b1]

/-- What the reading answers, and what is said of the world. -/
def AllSaid (B : Nat) (R : Int → World → Prop) (e : Ending) (w'' : World) : Prop := ∃ k w', e = .returned (.int .i64 k) ∧ R k w' ∧ But2 B w' w'' ∧ w''.cell? ⟨B + 1, 2, none⟩ = some (.bool false)

set_option maxRecDepth 100000 in
theorem all_any (F : FuncId) (caps : Array Value) (s : List UInt8) (w : World) (hs : s.length ≤ 1000001) (R : Int → World → Prop)
    (hcf : ∀ args w, (callFunc F args).run Try.prog w = .ok (.enter F args) w)
    (H : ∀ w1, Bel w w1 → w1.heap.size = w.heap.size + 3 → Rdr w1 (w.heap.size + 1) s s → Blk w1 w.heap.size 36 #[.int .i64 0] → Blk w1 (w.heap.size + 2) 52 #[.pointer (some ⟨w.heap.size + 1, 0, none⟩)] →
      Calls Try.prog F (#[.pointer (some ⟨w.heap.size + 1, 0, none⟩)] ++ caps) w1 (AllPost w.heap.size s R)) :
    Calls Try.prog 30 #[.string ⟨s.toArray⟩, .func (.func F) #[] caps] w (AllSaid w.heap.size R) := by
  have hmf : ∀ (fn : Fn) (first cap : Array Value) (w : World), (Instr.makeFunc fn first cap).run Try.prog w = .ok (.func fn first cap) w := fun _ _ _ _ => rfl
  have HH := Lib.hid H
  clear H
  go_enter_defers Try.func30, Try.ntmps30
  go_wp2_with fail
  have hB0 : Bel w (((w.alloc (Obj.cells #[Value.int IntKind.i64 0] 36)).alloc (Obj.cells #[Value.string { data := s.toArray }, Value.int IntKind.i64 0, Value.bool true] 145)).alloc (Obj.cells #[Value.pointer (some { block := w.heap.size + 1, off := 0 })] 52)) := (((Bel.refl w).alloc _).alloc _).alloc _
  have hsz : (((w.alloc (Obj.cells #[Value.int IntKind.i64 0] 36)).alloc (Obj.cells #[Value.string { data := s.toArray }, Value.int IntKind.i64 0, Value.bool true] 145)).alloc (Obj.cells #[Value.pointer (some { block := w.heap.size + 1, off := 0 })] 52)).heap.size = w.heap.size + 3 := by simp
  have b0 := ((Blk.new w 36 #[.int .i64 0]).alloc (Obj.cells #[Value.string { data := s.toArray }, Value.int IntKind.i64 0, Value.bool true] 145)).alloc (Obj.cells #[Value.pointer (some { block := w.heap.size + 1, off := 0 })] 52)
  have b1 := (Blk.new (w.alloc (Obj.cells #[Value.int IntKind.i64 0] 36)) 145 #[Value.string { data := s.toArray }, Value.int IntKind.i64 0, Value.bool true]).alloc (Obj.cells #[Value.pointer (some { block := w.heap.size + 1, off := 0 })] 52)
  have b2 := Blk.new ((w.alloc (Obj.cells #[Value.int IntKind.i64 0] 36)).alloc (Obj.cells #[Value.string { data := s.toArray }, Value.int IntKind.i64 0, Value.bool true] 145)) 52 #[Value.pointer (some { block := w.heap.size + 1, off := 0 })]
  rw [World.size_alloc, World.size_alloc] at b2
  rw [World.size_alloc] at b1
  have HC := Lib.hid (HH.out _ hB0 hsz ⟨hs, 0, by omega, by simp, b1⟩ b0 b2)
  generalize ((w.alloc (Obj.cells #[Value.int IntKind.i64 0] 36)).alloc (Obj.cells #[Value.string { data := s.toArray }, Value.int IntKind.i64 0, Value.bool true] 145)).alloc (Obj.cells #[Value.pointer (some { block := w.heap.size + 1, off := 0 })] 52) = W at *
  clear hB0 hsz b0 b1 b2
  go_wp2_with fail
  refine HC.out.mono ?_
  rintro e w1 ⟨k0, k2, ⟨k, rfl, ⟨l, hR⟩, hK⟩ | ⟨l, rfl, hR, hK⟩⟩
  · obtain ⟨_, t, _, _, k1⟩ := hR
    have r0 := k2.cell 0
    have r1 := k1.cell 2
    have r2 := k1.frozen 2
    have r3 := k0.cell 0
    have r4 := k0.frozen 0
    have K0 := Lib.hid k0
    clear k0 k1 k2
    go_wp2
    exact ends_caught w.heap.size _ _ w1 true 0 rfl r0 r1 r2 k K0.out fun W hW hc => ⟨k, w1, rfl, hK, hW, hc⟩
  · have q0 := k2.cell 0
    have Hk0 := Lib.hid k0
    have Hk2 := Lib.hid k2
    have HR := Lib.hid hR
    have HK := Lib.hid hK
    clear k0 k2 hR hK
    simp only [List.getElem?_toArray, List.getElem?_cons_zero] at q0
    go_wp2_with fail
    cases l with
    | nil =>
      have d0 := fun u : Over w1 => Over.cell q0 u
      clear q0
      refine wp_region_over (by kernel_rfl) (by kernel_rfl) ?_
      repeat (go_big_quiet_step (first | (go_at_call 34; exact calls_over (left_nil _ _ _ (HR.out.bel (Over.bel _)))) | (go_at_call 100; exact calls_over_same (want_yes _ _ _ _ _ (HR.out.bel (Over.bel _))))))
      refine wpQuiet_nil ?_
      rintro _ ⟨⟨wd, hwd⟩, rfl⟩
      clear d0
      have k0 := Hk0.out.bel hwd
      have k2 := (Hk2.out.bel hwd).cell 0
      obtain ⟨_, t, _, _, k1⟩ := HR.out.bel hwd
      have x0 := k0.cell 0
      have x1 := k0.frozen 0
      have y1 := k1.cell 2
      have y2 := k1.frozen 2
      have K0 := Lib.hid k0
      have K1 := Lib.hid k1
      have K2 := Lib.hid k2
      have Hwd := Lib.hid hwd
      clear k0 k1 k2 hwd y1 y2
      go_wp2
      have k1' := K1.out.far (p := ⟨w.heap.size, 0, none⟩) (by simp) (.int .i64 0)
      refine ends_idle w.heap.size _ _ _ true rfl ?_ (k1'.cell 2) (k1'.frozen 2) 0 (by simpa using K0.out.set_ 0 (.int .i64 0)) ?_
      · exact (World.cell?_setCell_other _ _ _ _ (by simp)).trans K2.out
      · exact ⟨0, w1, rfl, by simpa using HK.out, (((But2.of_bel Hwd.out).set_ _ 0 (.inl rfl) _).set_ _ 2 (.inr rfl) _), World.cell?_setCell_same _ _ _ (k1'.cell 2)⟩
    | cons c r =>
      have d : ((r.length : Int) + 1 == 0) = false := by simp; omega
      have HE : Hid (∀ w2, Bel w1 w2 → ∀ tmps : Array Value, tmps.getD 4 undef = .pointer (some ⟨w.heap.size, 0, none⟩) → bodyPostD Try.prog Try.f30 (AllSaid w.heap.size R) (Exit.panic (flt (wantErr 3))) ⟨tmps, [{ target := .fn (.func 99) #[.pointer (some ⟨w.heap.size + 1 + 1, 0, none⟩), .pointer (some ⟨w.heap.size, 0, none⟩)], args := #[] }]⟩ w2) := fun w2 hb2 tmps ht => by
        obtain ⟨_, t, _, _, k1⟩ := HR.out.bel hb2
        exact ends_caught w.heap.size _ _ w2 true 0 ht ((Hk2.out.bel hb2).cell 0) (k1.cell 2) (k1.frozen 2) 3 (Hk0.out.bel hb2) fun W hW hc => ⟨3, w1, rfl, by simpa using HK.out, (But2.of_bel hb2).trans hW, hc⟩
      refine wp_region_held_drew (S := fun w' => w'.cell? ⟨w.heap.size + 1 + 1, 0, none⟩ = some (.pointer (some ⟨w.heap.size + 1, 0, none⟩))) (by kernel_rfl) ?_ (fun hHeld => ?_)
      · (try dsimp only); first | exact q0 | exact q2
      refine wpAnyH_ready (rs := [0, 1]) (by kernel_rfl) (by simp) ?_
      refine AllReadyH.cons (get_o0) (fun KK hKK => ?_) ?_
      · go_simp
        refine hKK.out _ _ ?_ (fun hHeld => ?_)
        · (try dsimp only); first | exact q0 | exact q2
        clear hKK KK
        try simp only [Act.put, List.setIfInBounds_toArray, List.set_cons_zero, List.set_cons_succ]
        refine wpAnyH_ready (rs := [1]) (by kernel_rfl) (by simp) ?_
        refine AllReadyH.cons (get_os (get_o0)) (fun KK hKK => ?_) ?_
        · go_simp
          refine hKK.out _ _ ?_ (fun hHeld => ?_)
          · (try dsimp only); first | exact q0 | exact q2
          clear hKK KK
          try simp only [Act.put, List.setIfInBounds_toArray, List.set_cons_zero, List.set_cons_succ]
          refine wpAnyH_ready (rs := [2]) (by kernel_rfl) (by simp) ?_
          refine AllReadyH.cons (get_os (get_os (get_o0))) (fun KK hKK => ?_) ?_
          · go_simp
            refine (left_any _ _ _ _ (HR.out.bel (Bel.refl w1).drew)).mono ?_; rintro e w2 ⟨rfl, hb2⟩; have q2 := (Hk2.out.bel ((Bel.refl w1).drew.trans hb2)).cell 0; simp only [List.getElem?_toArray, List.getElem?_cons_zero] at q2
            refine hKK.out _ _ ?_ (fun hHeld => ?_)
            · (try dsimp only); first | exact q0 | exact q2
            clear hKK KK
            try simp only [Act.put, List.setIfInBounds_toArray, List.set_cons_zero, List.set_cons_succ]
            refine wpAnyH_ready (rs := [3]) (by kernel_rfl) (by simp) ?_
            refine AllReadyH.cons (get_os (get_os (get_os (get_o0)))) (fun KK hKK => ?_) ?_
            · go_simp
              refine hKK.out _ _ ?_ (fun hHeld => ?_)
              · (try dsimp only); first | exact q0 | exact q2
              clear hKK KK
              try simp only [Act.put, List.setIfInBounds_toArray, List.set_cons_zero, List.set_cons_succ]
              refine wpAnyH_ready (rs := [4]) (by kernel_rfl) (by simp) ?_
              refine AllReadyH.cons (get_os (get_os (get_os (get_os (get_o0))))) (fun KK hKK => ?_) ?_
              · go_simp
                refine (want_no _ _ _ _ _ (HR.out.bel ((Bel.refl w1).drew.trans hb2))).mono ?_; rintro e w3 ⟨rfl, rfl⟩; exact HE.out _ ((Bel.refl w1).drew.trans hb2) _ rfl
              exact AllReadyH.nil
            exact AllReadyH.nil
          exact AllReadyH.nil
        exact AllReadyH.nil
      refine AllReadyH.cons (get_os (get_o0)) (fun KK hKK => ?_) ?_
      · go_simp
        refine hKK.out _ _ ?_ (fun hHeld => ?_)
        · (try dsimp only); first | exact q0 | exact q2
        clear hKK KK
        try simp only [Act.put, List.setIfInBounds_toArray, List.set_cons_zero, List.set_cons_succ]
        refine wpAnyH_ready (rs := [0, 2]) (by kernel_rfl) (by simp) ?_
        refine AllReadyH.cons (get_o0) (fun KK hKK => ?_) ?_
        · go_simp
          refine hKK.out _ _ ?_ (fun hHeld => ?_)
          · (try dsimp only); first | exact q0 | exact q2
          clear hKK KK
          try simp only [Act.put, List.setIfInBounds_toArray, List.set_cons_zero, List.set_cons_succ]
          refine wpAnyH_ready (rs := [2]) (by kernel_rfl) (by simp) ?_
          refine AllReadyH.cons (get_os (get_os (get_o0))) (fun KK hKK => ?_) ?_
          · go_simp
            refine (left_any _ _ _ _ (HR.out.bel (Bel.refl w1).drew)).mono ?_; rintro e w2 ⟨rfl, hb2⟩; have q2 := (Hk2.out.bel ((Bel.refl w1).drew.trans hb2)).cell 0; simp only [List.getElem?_toArray, List.getElem?_cons_zero] at q2
            refine hKK.out _ _ ?_ (fun hHeld => ?_)
            · (try dsimp only); first | exact q0 | exact q2
            clear hKK KK
            try simp only [Act.put, List.setIfInBounds_toArray, List.set_cons_zero, List.set_cons_succ]
            refine wpAnyH_ready (rs := [3]) (by kernel_rfl) (by simp) ?_
            refine AllReadyH.cons (get_os (get_os (get_os (get_o0)))) (fun KK hKK => ?_) ?_
            · go_simp
              refine hKK.out _ _ ?_ (fun hHeld => ?_)
              · (try dsimp only); first | exact q0 | exact q2
              clear hKK KK
              try simp only [Act.put, List.setIfInBounds_toArray, List.set_cons_zero, List.set_cons_succ]
              refine wpAnyH_ready (rs := [4]) (by kernel_rfl) (by simp) ?_
              refine AllReadyH.cons (get_os (get_os (get_os (get_os (get_o0))))) (fun KK hKK => ?_) ?_
              · go_simp
                refine (want_no _ _ _ _ _ (HR.out.bel ((Bel.refl w1).drew.trans hb2))).mono ?_; rintro e w3 ⟨rfl, rfl⟩; exact HE.out _ ((Bel.refl w1).drew.trans hb2) _ rfl
              exact AllReadyH.nil
            exact AllReadyH.nil
          exact AllReadyH.nil
        refine AllReadyH.cons (get_os (get_os (get_o0))) (fun KK hKK => ?_) ?_
        · go_simp
          refine (left_any _ _ _ _ (HR.out.bel (Bel.refl w1).drew)).mono ?_; rintro e w2 ⟨rfl, hb2⟩; have q2 := (Hk2.out.bel ((Bel.refl w1).drew.trans hb2)).cell 0; simp only [List.getElem?_toArray, List.getElem?_cons_zero] at q2
          refine hKK.out _ _ ?_ (fun hHeld => ?_)
          · (try dsimp only); first | exact q0 | exact q2
          clear hKK KK
          try simp only [Act.put, List.setIfInBounds_toArray, List.set_cons_zero, List.set_cons_succ]
          refine wpAnyH_ready (rs := [0, 3]) (by kernel_rfl) (by simp) ?_
          refine AllReadyH.cons (get_o0) (fun KK hKK => ?_) ?_
          · go_simp
            refine hKK.out _ _ ?_ (fun hHeld => ?_)
            · (try dsimp only); first | exact q0 | exact q2
            clear hKK KK
            try simp only [Act.put, List.setIfInBounds_toArray, List.set_cons_zero, List.set_cons_succ]
            refine wpAnyH_ready (rs := [3]) (by kernel_rfl) (by simp) ?_
            refine AllReadyH.cons (get_os (get_os (get_os (get_o0)))) (fun KK hKK => ?_) ?_
            · go_simp
              refine hKK.out _ _ ?_ (fun hHeld => ?_)
              · (try dsimp only); first | exact q0 | exact q2
              clear hKK KK
              try simp only [Act.put, List.setIfInBounds_toArray, List.set_cons_zero, List.set_cons_succ]
              refine wpAnyH_ready (rs := [4]) (by kernel_rfl) (by simp) ?_
              refine AllReadyH.cons (get_os (get_os (get_os (get_os (get_o0))))) (fun KK hKK => ?_) ?_
              · go_simp
                refine (want_no _ _ _ _ _ (HR.out.bel ((Bel.refl w1).drew.trans hb2))).mono ?_; rintro e w3 ⟨rfl, rfl⟩; exact HE.out _ ((Bel.refl w1).drew.trans hb2) _ rfl
              exact AllReadyH.nil
            exact AllReadyH.nil
          refine AllReadyH.cons (get_os (get_os (get_os (get_o0)))) (fun KK hKK => ?_) ?_
          · go_simp
            refine hKK.out _ _ ?_ (fun hHeld => ?_)
            · (try dsimp only); first | exact q0 | exact q2
            clear hKK KK
            try simp only [Act.put, List.setIfInBounds_toArray, List.set_cons_zero, List.set_cons_succ]
            refine wpAnyH_ready (rs := [0]) (by kernel_rfl) (by simp) ?_
            refine AllReadyH.cons (get_o0) (fun KK hKK => ?_) ?_
            · go_simp
              refine hKK.out _ _ ?_ (fun hHeld => ?_)
              · (try dsimp only); first | exact q0 | exact q2
              clear hKK KK
              try simp only [Act.put, List.setIfInBounds_toArray, List.set_cons_zero, List.set_cons_succ]
              refine wpAnyH_ready (rs := [4]) (by kernel_rfl) (by simp) ?_
              refine AllReadyH.cons (get_os (get_os (get_os (get_os (get_o0))))) (fun KK hKK => ?_) ?_
              · go_simp
                refine (want_no _ _ _ _ _ (HR.out.bel ((Bel.refl w1).drew.trans hb2))).mono ?_; rintro e w3 ⟨rfl, rfl⟩; exact HE.out _ ((Bel.refl w1).drew.trans hb2) _ rfl
              exact AllReadyH.nil
            exact AllReadyH.nil
          exact AllReadyH.nil
        exact AllReadyH.nil
      exact AllReadyH.nil

end Go.Proofs.Ytnjpoamebkehbaa
