/- Walk of fact.Clone. -/
import Derived.Test.YtnjpoamebkehbaaFactC
import Derived.Test.YtnjpoamebkehbaaBb
namespace Go.Proofs.Ytnjpoamebkehbaa
open Go.RowKit
set_option linter.unusedVariables false
attribute [local go_sem] fct_get0

set_option maxRecDepth 100000 in
theorem build_fct (k : Row Int) (a : Ag) (w : World) : (Instr.build 172 #[(0, k.v), (1, .agg a.cs)]).run Try.prog w = .ok (.agg (Fct.mk k a).cs) w := by kernel_rfl
set_option maxRecDepth 100000 in
theorem build_fct0 (k : Row Int) (w : World) : (Instr.build 172 #[(0, k.v)]).run Try.prog w = .ok (.agg (Fct.mk k .zero).cs) w := by kernel_rfl
def Row.nil {α : Type} : Row α := ⟨none, 0, 0, []⟩
set_option maxRecDepth 100000 in
theorem build_fctN (w : World) : (Instr.build 172 #[]).run Try.prog w = .ok (.agg (Fct.mk .nil .zero).cs) w := by kernel_rfl
theorem bslice_fct (f : Fct) (w : World) : (Instr.buildSlice 96 1 #[(0, .agg f.cs)]).run Try.prog w = .ok (.slice (some ⟨w.heap.size, 0, none⟩) 1 1) (w.alloc (.cells f.cs 172)) := run_buildSlice1 E_fct (.agg f.cs) rfl (by omega) w

/-- A fact's tuple lies apart from a row. -/
def Away (v : Value) (f : Fct) : Prop := 0 < f.ks.n → ∀ ad, f.ks.A = some ad → v.ownBlock ≠ some ad.block
/-- Facts gathered in memory of the call's own. -/
structure Gath (w0 w : World) (v : Value) (fs : List Fct) : Prop where
  bel : Bel w0 w
  own : w.ownsRow w0.heap.size 172 11 v fs.length (fs.flatMap Cel.cells)
  ok : ∀ f ∈ fs, f.ok w
  away : ∀ f ∈ fs, Away v f
  new : ∀ f ∈ fs, 0 < f.ks.n → ∀ ad, f.ks.A = some ad → w0.heap.size ≤ ad.block
def cons (l : List Fct) : List (List Int × Ag) := l.map Fct.con
theorem Gath.keep {w0 w w' : World} {v : Value} {fs : List Fct} (h : Gath w0 w v fs) (hb : Bel w w') : Gath w0 w' v fs :=
  ⟨h.bel.trans hb, own_bel h.own hb, fun f hf => ⟨(h.ok f hf).ks.mono hb, (h.ok f hf).ag⟩, h.away, h.new⟩
theorem Row.ok.grown {w w' : World} {x : Row Int} {row : Option Nat} (h : x.ok w) (hg : w.grownBy w' row) (ha : 0 < x.n → ∀ ad, x.A = some ad → row ≠ some ad.block) : x.ok w' := by
  refine ⟨⟨h.rd.1, fun hn => ?_⟩, h.all, h.le, h.cap, h.reach⟩
  obtain ⟨ad, e, hb, hc⟩ := h.rd.2 hn
  refine ⟨ad, e, Nat.lt_of_lt_of_le hb hg.size, fun j u hu => ?_⟩
  rw [← hc j u hu]
  refine World.cell?_of_block ?_
  rw [block_of_add]
  exact hg.block _ hb (fun e' => ha hn ad e e'.symm)
theorem Gath.app {w0 w w' : World} {v v' : Value} {fs : List Fct} {f : Fct} (h : Gath w0 w v fs) (hf : f.ok w) (hA : Away v f) (hB : Bel w0 w') (hfn : 0 < f.ks.n → ∀ ad, f.ks.A = some ad → w0.heap.size ≤ ad.block) (ho : w'.ownsRow w0.heap.size 172 11 v' (fs.length + 1) (fs.flatMap Cel.cells ++ f.cs.toList)) (hg : w.grownBy w' v.ownBlock)
    (hv : v'.ownBlock = v.ownBlock ∨ v'.ownBlock = some w.heap.size) : Gath w0 w' v' (fs ++ [f]) := by
  have hall : ∀ g ∈ fs ++ [f], g.ok w ∧ Away v g ∧ (0 < g.ks.n → ∀ ad, g.ks.A = some ad → w0.heap.size ≤ ad.block) := fun g hg' => by
    rcases List.mem_append.1 hg' with h1 | h1
    · exact ⟨h.ok g h1, h.away g h1, h.new g h1⟩
    · rw [List.mem_singleton] at h1; subst h1; exact ⟨hf, hA, hfn⟩
  refine ⟨hB, by simpa [Cel.cells] using ho, fun g hg' => ?_, fun g hg' hn ad e => ?_, fun g hg' => (hall g hg').2.2⟩
  · obtain ⟨h1, h2, _⟩ := hall g hg'
    exact ⟨h1.ks.grown hg h2, h1.ag⟩
  · obtain ⟨h1, h2, _⟩ := hall g hg'
    rcases hv with hv | hv
    · rw [hv]; exact h2 hn ad e
    · rw [hv]
      obtain ⟨ad', e', hb, _⟩ := h1.ks.rd.2 hn
      rw [e] at e'
      injection e' with e'
      subst e'
      intro h3
      injection h3 with h3
      omega

end Go.Proofs.Ytnjpoamebkehbaa
