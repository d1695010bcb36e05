/- schema.Shape; the chapter's example (law 17). -/
import Derived.Test.YtnekknemjhlgdaaSchX
import Derived.Test.YtnekknemjhlgdaaSchR
import Derived.Test.YtnekknemjhlgdaaDimA
namespace Go.Proofs.Ytnekknemjhlgdaa
open Go.RowKit
set_option linter.unusedVariables false
set_option linter.unusedSimpArgs false

theorem E_intss : ElemInfo Try.prog 67 58 1 24 := ElemInfo.mk' (z := .slice none 0 0) Try.underlying67 (by kernel_rfl) rfl (by omega)
theorem rowShp : RowTy Try.prog 69 2 := ⟨⟨_, Try.underlying69, rfl⟩, by kernel_rfl⟩
section
variable {P : Program} {w : World}
theorem step_load_blk {ops : Array Oper} {o : Oper} {a : Act} {K : Act → World → Prop} {Q : Exit → Act → World → Prop} {X : Prop} (hgd : o.guard = none) {ty : TypeId} {n : Nat} (R : RowTy P ty n) (x : Operand) (ho : o.op = .load ty x)
    (g : Nat) (hx : a.eval x = .pointer (some ⟨g, 0, none⟩)) {t : TypeId} {cs : Array Value} (hb : Blk w g t cs) (hn : cs.size = n)
    (h : K (a.put o.dst (.agg cs)) w) : if Region.wanted o (yielded ops a.tmps) = true then Oper.wp P o a w K Q else X := by
  have hw : Region.wanted o (yielded ops a.tmps) = true := by simp [Region.wanted, hgd]
  rw [if_pos hw]
  obtain ⟨d, hu, hd⟩ := R.hu
  exact wp_load_mid ty x ho g 0 hx cs.toList d hb.range hu hd (by rw [R.hi]; simp [hn]) (by simpa using h)
end
/-- A schema of one dimension, as laws' examples lay it down. -/
theorem ex_sch {S : Nat → Prop} {w0 w : World} {l : List Res} (H : SL S w0 w l) (i j k m : Nat) {g0 g1 g2 g3 : Nat} (h0 : l[i]? = some (rBlk g0 9 #[.string ⟨#[97]⟩]))
    (h1 : l[j]? = some (rBlk g1 140 #[.string ⟨#[116]⟩, .slice (some ⟨g0, 0, none⟩) 1 1, .slice none 0 0])) (h2 : l[k]? = some (rBlk g2 64 #[.string ⟨#[100]⟩, .slice (some ⟨g1, 0, none⟩) 1 1])) (h3 : l[m]? = some (rBlk g3 9 #[.string ⟨#[109]⟩])) :
    (Sch.mk ⟨some ⟨g2, 0, none⟩, 1, 1, [⟨[100], ⟨some ⟨g1, 0, none⟩, 1, 1, [⟨[116], ⟨some ⟨g0, 0, none⟩, 1, 1, [[97]]⟩, ⟨none, 0, 0, []⟩⟩]⟩⟩]⟩ ⟨some ⟨g3, 0, none⟩, 1, 1, [[109]]⟩).rd w := by
  refine ⟨⟨reads_of_block (m := 1) (H.blk k h2) rfl, fun D hD => ?_, by show (1 : Nat) ≤ _; omega⟩, ⟨?_, fun t ht => ?_, by show (1 : Nat) ≤ _; omega⟩⟩
  · rw [List.mem_singleton] at hD
    subst hD
    exact ex_dim H i j (m := 1) (nm := [100]) (tn := [116]) (ts := [[97]]) h0 rfl rfl h1 (by simp) (by simp) (by intro t ht; simp at ht; subst ht; simp) (by omega)
  · have := reads_of_block (m := 1) (size := 1) (H.blk m h3) rfl
    rw [flat_texts]
    exact this
  · simp at ht
    subst ht
    show ([109] : List UInt8).length ≤ _
    simp
theorem ex_sch0 {S : Nat → Prop} {w0 w : World} {l : List Res} (H : SL S w0 w l) (i j k : Nat) {g0 g1 g2 : Nat} (h0 : l[i]? = some (rBlk g0 9 #[.string ⟨#[97]⟩]))
    (h1 : l[j]? = some (rBlk g1 140 #[.string ⟨#[116]⟩, .slice (some ⟨g0, 0, none⟩) 1 1, .slice none 0 0])) (h2 : l[k]? = some (rBlk g2 64 #[.string ⟨#[100]⟩, .slice (some ⟨g1, 0, none⟩) 1 1])) :
    (Sch.mk ⟨some ⟨g2, 0, none⟩, 1, 1, [⟨[100], ⟨some ⟨g1, 0, none⟩, 1, 1, [⟨[116], ⟨some ⟨g0, 0, none⟩, 1, 1, [[97]]⟩, ⟨none, 0, 0, []⟩⟩]⟩⟩]⟩ ⟨none, 0, 0, []⟩).rd w := by
  refine ⟨⟨reads_of_block (m := 1) (H.blk k h2) rfl, fun D hD => ?_, by show (1 : Nat) ≤ _; omega⟩, Row.nil_rd w⟩
  rw [List.mem_singleton] at hD
  subst hD
  exact ex_dim H i j (m := 1) (nm := [100]) (tn := [116]) (ts := [[97]]) h0 rfl rfl h1 (by simp) (by simp) (by intro t ht; simp at ht; subst ht; simp) (by omega)
/-- What it says. -/
abbrev exDC : DC := ⟨[100], [⟨[116], [[97]], []⟩]⟩
theorem exErr : schErr ⟨[exDC], [[109]]⟩ = 0 := by decide +kernel
theorem exErr0 : schErr ⟨[exDC], []⟩ = 5 := by decide +kernel

end Go.Proofs.Ytnekknemjhlgdaa
