/- A reading under way; the chapter's example (law 4). -/
import Derived.Test.YtllgcehgdpgnnaaTakeE
namespace Go.Proofs.Ytllgcehgdpgnnaa
open Go.RowKit
set_option linter.unusedVariables false

/-- A reading under way: nothing older than w0 has turned; the reader has the bytes l left; its answer's cell, and the cell that leads to the reader, are as they were. -/
structure InAll (w0 : World) (B : Nat) (s l : List UInt8) (w : World) : Prop where
  bel : Bel w0 w
  hB : w0.heap.size ≤ B
  e : Blk w B 26 #[.int .i64 0]
  p : Blk w (B + 2) 47 #[.pointer (some ⟨B + 1, 0, none⟩)]
  r : Rdr w (B + 1) s l
section
variable {w0 w w' : World} {B : Nat} {s l l' : List UInt8}
theorem InAll.read (h : InAll w0 B s l w) (hg : w.grownBy w' (some (B + 1))) (hr : Rdr w' (B + 1) s l') : InAll w0 B s l' w' :=
  ⟨h.bel.grownAt hg (by have := h.hB; omega), h.hB, h.e.grown hg (by simp), h.p.grown hg (by simp), hr⟩
theorem InAll.more (h : InAll w0 B s l w) (hb : Bel w w') : InAll w0 B s l w' := ⟨h.bel.trans hb, h.hB, h.e.bel hb, h.p.bel hb, h.r.bel hb⟩
theorem InAll.kept (h : InAll w0 B s l w) {g : Nat} (hg : w.grownBy w' (some g)) (h0 : w0.heap.size ≤ g) (h1 : g ≠ B) (h2 : g ≠ B + 1) (h3 : g ≠ B + 2) : InAll w0 B s l w' :=
  ⟨h.bel.grownAt hg h0, h.hB, h.e.grown hg (by simp; omega), h.p.grown hg (by simp; omega), h.r.grown hg (by simp; omega)⟩
theorem InAll.ok {R : Int → World → Prop} (h : InAll w0 B s l w) (hR : R (if l = [] then 0 else 3) w) : AllPost B s R (.returned (.tuple #[])) w := ⟨h.e, h.p, .inr ⟨l, rfl, h.r, hR⟩⟩
theorem InAll.err {R : Int → World → Prop} {k : Int} (h : InAll w0 B s l w) (hR : R k w) : AllPost B s R (.panicked (flt k)) w := ⟨h.e, h.p, .inl ⟨k, rfl, ⟨l, h.r⟩, hR⟩⟩
theorem InAll.begin {w w1 : World} (h0 : Bel w0 w) (h1 : Bel w w1) (h2 : Rdr w1 (w.heap.size + 1) s l) (h3 : Blk w1 w.heap.size 26 #[.int .i64 0]) (h4 : Blk w1 (w.heap.size + 2) 47 #[.pointer (some ⟨w.heap.size + 1, 0, none⟩)]) : InAll w0 w.heap.size s l w1 :=
  ⟨h0.trans h1, h0.size, h3, h4, h2⟩
end
theorem Bel.but2 {w0 w w' : World} {B : Nat} (h : Bel w0 w) (hB : w0.heap.size ≤ B) (hb : But2 B w w') : Bel w0 w' :=
  ⟨hb.os.trans h.os, hb.tape.trans h.tape, hb.output.trans h.output, Nat.le_trans h.size hb.size, fun k hk => (hb.block k (Nat.lt_of_lt_of_le hk h.size) (by omega) (by omega)).trans (h.block k hk)⟩
theorem Blk.but2 {w w' : World} {B g : Nat} {t : TypeId} {cs : Array Value} (h : Blk w g t cs) (hb : But2 B w w') (h1 : g ≠ B) (h2 : g ≠ B + 1) : Blk w' g t cs := (hb.block g h.lt h1 h2).trans h
theorem cf_any {F : FuncId} {fn : Func} (hf : Try.prog.funcs[F]? = some fn) (hb : fn.body.isNone = false) (hn : (fn.name == "runtime.NumGoroutine") = false) (args : Array Value) (w : World) : (callFunc F args).run Try.prog w = .ok (.enter F args) w := by
  have h1 : fn.name ≠ "runtime.NumGoroutine" := by simpa using hn
  have h2 : fn.body ≠ none := by intro e; rw [e] at hb; cases hb
  simp [callFunc, go_sem, hf, h1, h2]

def R04 (w : World) (k : Int) (w' : World) : Prop := k = 0 ∧ Bel w w' ∧ Blk w' w.heap.size 9 #[.string ⟨#[97, 98]⟩]
set_option maxRecDepth 100000 in
theorem awake1_any (w0 : World) (B g : Nat) (w : World) (h : InAll w0 B [2, 97, 98] [2, 97, 98] w) (hg : w0.heap.size = g) (hgB : g < B) (hb : Blk w g 9 #[.string ⟨#[]⟩]) :
    Calls Try.prog 91 #[.pointer (some ⟨B + 1, 0, none⟩), .pointer (some ⟨g, 0, none⟩)] w (AllPost B [2, 97, 98] (R04 w0)) := by
  have Hg := Lib.hid hg
  have H := Lib.hid h
  have Hb := Lib.hid hb
  clear h hb hg
  have hp : ptxt 5 [2, 97, 98] = .ok ([97, 98], []) := rfl
  have HT := Lib.hid (text_any (B + 1) [2, 97, 98] [2, 97, 98] 5 w H.out.r (by omega) (by omega))
  rw [hp] at HT
  clear hp
  go_enter Try.func91, Try.ntmps91
  go_wp2_with fail
  refine HT.out.mono ?_; rintro e w1 ⟨rfl, hg, hr⟩
  have h1 := H.out.read hg hr
  have b1 := Hb.out.grown hg (by simp; omega)
  have c1 := b1.cell 0
  have f1 := b1.frozen 0
  have B1 := Lib.hid b1
  have H1 := Lib.hid h1
  clear hg hr h1 b1
  go_wp2
  go_end0
  refine (H1.out.kept (grownBy_setCell w1 g 0 (.string ⟨#[97, 98]⟩)) (by have := Hg.out; omega) (by omega) (by omega) (by omega)).ok ⟨rfl, ?_, ?_⟩
  · exact H1.out.bel.setCell (by have := Hg.out; simp; omega) _
  · have := B1.out.set_ 0 (.string ⟨#[97, 98]⟩)
    rw [Hg.out]
    simpa using this


set_option maxRecDepth 100000 in
theorem awake04_any (w : World) : Calls Try.prog 26 #[] w fun e w' => e = .returned (.bool true) ∧ Bel w w' := by
  have hmf : ∀ (fn : Fn) (first cap : Array Value) (w : World), (Instr.makeFunc fn first cap).run Try.prog w = .ok (.func fn first cap) w := fun _ _ _ _ => rfl
  go_enter Try.func26, Try.ntmps26
  go_wp2_with fail
  have b0 := Blk.new w 9 #[.string ⟨#[]⟩]
  have hW := (Bel.refl w).alloc (.cells #[.string ⟨#[]⟩] 9)
  have hsz : (w.alloc (.cells #[.string ⟨#[]⟩] 9)).heap.size = w.heap.size + 1 := by simp
  refine (all_any 91 #[.pointer (some ⟨w.heap.size, 0, none⟩)] [2, 97, 98] _ (by simp) (R04 w) (cf_any Try.func91 (by kernel_rfl) (by kernel_rfl)) (fun w1 h1 h2 h3 h4 h5 => awake1_any w _ w.heap.size w1 (.begin hW h1 h3 h4 h5) rfl (by omega) (b0.bel h1))).mono ?_
  rintro e w2 ⟨k, w1, rfl, ⟨rfl, hb1, hk1⟩, hbut, _⟩
  rw [hsz] at hbut
  have c2 := (hk1.but2 hbut (by omega) (by omega)).cell 0
  have HB := Lib.hid (hb1.but2 (by omega) hbut)
  simp only [List.getElem?_toArray, List.getElem?_cons_zero] at c2
  clear hk1 hb1 hbut b0 hW hsz
  go_wp2_with fail
  refine (putText_any [97, 98] _ (by simp)).mono ?_; rintro e w3 ⟨rfl, hb3⟩
  have e1 : ptext [97, 98] = [2, 97, 98] := rfl
  rw [e1]
  go_wp2
  go_ret
  exact ⟨rfl, HB.out.trans hb3⟩

end Go.Proofs.Ytllgcehgdpgnnaa
