/- A reading under way; the chapter's example (law 4). -/
import Derived.Test.YtnjpoamebkehbaaTakeE
namespace Go.Proofs.Ytnjpoamebkehbaa
open Go.RowKit
set_option linter.unusedVariables false

/-- A reading under way: nothing older than w0 has turned; the reader has the bytes l left; its answer's cell, and the cell that leads to the reader, are as they were. -/
structure InAll (w0 : World) (B : Nat) (s l : List UInt8) (w : World) : Prop where
  bel : Bel w0 w
  hB : w0.heap.size ≤ B
  e : Blk w B 36 #[.int .i64 0]
  p : Blk w (B + 2) 52 #[.pointer (some ⟨B + 1, 0, none⟩)]
  r : Rdr w (B + 1) s l
section
variable {w0 w w' : World} {B : Nat} {s l l' : List UInt8}
theorem InAll.read (h : InAll w0 B s l w) (hg : w.grownBy w' (some (B + 1))) (hr : Rdr w' (B + 1) s l') : InAll w0 B s l' w' :=
  ⟨h.bel.grownAt hg (by have := h.hB; omega), h.hB, h.e.grown hg (by simp), h.p.grown hg (by simp), hr⟩
theorem InAll.more (h : InAll w0 B s l w) (hb : Bel w w') : InAll w0 B s l w' := ⟨h.bel.trans hb, h.hB, h.e.bel hb, h.p.bel hb, h.r.bel hb⟩
theorem InAll.kept (h : InAll w0 B s l w) {g : Nat} (hg : w.grownBy w' (some g)) (h0 : w0.heap.size ≤ g) (h1 : g ≠ B) (h2 : g ≠ B + 1) (h3 : g ≠ B + 2) : InAll w0 B s l w' :=
  ⟨h.bel.grownAt hg h0, h.hB, h.e.grown hg (by simp; omega), h.p.grown hg (by simp; omega), h.r.grown hg (by simp; omega)⟩
theorem InAll.ok {R : Int → World → Prop} (h : InAll w0 B s l w) (hR : R (if l = [] then 0 else 3) w) : AllPost B s R (.returned (.tuple #[])) w := ⟨h.e, h.p, .inr ⟨l, rfl, h.r, hR⟩⟩
theorem InAll.err {R : Int → World → Prop} {k : Int} (h : InAll w0 B s l w) (hR : R k w) : AllPost B s R (.panicked (flt k)) w := ⟨h.e, h.p, .inl ⟨k, rfl, ⟨l, h.r⟩, hR⟩⟩
theorem InAll.begin {w w1 : World} (h0 : Bel w0 w) (h1 : Bel w w1) (h2 : Rdr w1 (w.heap.size + 1) s l) (h3 : Blk w1 w.heap.size 36 #[.int .i64 0]) (h4 : Blk w1 (w.heap.size + 2) 52 #[.pointer (some ⟨w.heap.size + 1, 0, none⟩)]) : InAll w0 w.heap.size s l w1 :=
  ⟨h0.trans h1, h0.size, h3, h4, h2⟩
end
theorem Bel.but2 {w0 w w' : World} {B : Nat} (h : Bel w0 w) (hB : w0.heap.size ≤ B) (hb : But2 B w w') : Bel w0 w' :=
  ⟨hb.os.trans h.os, hb.tape.trans h.tape, hb.output.trans h.output, Nat.le_trans h.size hb.size, fun k hk => (hb.block k (Nat.lt_of_lt_of_le hk h.size) (by omega) (by omega)).trans (h.block k hk)⟩
theorem Blk.but2 {w w' : World} {B g : Nat} {t : TypeId} {cs : Array Value} (h : Blk w g t cs) (hb : But2 B w w') (h1 : g ≠ B) (h2 : g ≠ B + 1) : Blk w' g t cs := (hb.block g h.lt h1 h2).trans h
theorem cf_any {F : FuncId} {fn : Func} (hf : Try.prog.funcs[F]? = some fn) (hb : fn.body.isNone = false) (hn : (fn.name == "runtime.NumGoroutine") = false) (args : Array Value) (w : World) : (callFunc F args).run Try.prog w = .ok (.enter F args) w := by
  have h1 : fn.name ≠ "runtime.NumGoroutine" := by simpa using hn
  have h2 : fn.body ≠ none := by intro e; rw [e] at hb; cases hb
  simp [callFunc, go_sem, hf, h1, h2]

def R04 (w : World) (k : Int) (w' : World) : Prop := k = 0 ∧ Bel w w' ∧ Blk w' w.heap.size 9 #[.string ⟨#[97, 98]⟩]
end Go.Proofs.Ytnjpoamebkehbaa
