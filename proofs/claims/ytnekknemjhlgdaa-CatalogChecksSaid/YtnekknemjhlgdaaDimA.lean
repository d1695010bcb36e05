/- The chapter's example (law 16). -/
import Derived.Test.YtnekknemjhlgdaaDimV
namespace Go.Proofs.Ytnekknemjhlgdaa
open Go.RowKit
set_option linter.unusedVariables false
set_option linter.unusedSimpArgs false

/-- A dimension of one tier, as a law's example lays it down: three blocks. -/
theorem ex_dim {S : Nat → Prop} {w0 w : World} {l : List Res} (H : SL S w0 w l) (i j : Nat) {g0 g1 m : Nat} {nm tn : List UInt8} {ts : List (List UInt8)} {cs : Array Value} (h0 : l[i]? = some (rBlk g0 9 cs)) (hcs : cs.toList = ts.map tx) (hm : ts.length = m)
    (h1 : l[j]? = some (rBlk g1 140 #[.string ⟨tn.toArray⟩, .slice (some ⟨g0, 0, none⟩) m m, .slice none 0 0])) (hn : nm.length ≤ 100) (htn : tn.length ≤ 100) (hts : ∀ t ∈ ts, t.length ≤ 100) (hm2 : m ≤ 100) :
    (Dm.mk nm ⟨some ⟨g1, 0, none⟩, 1, 1, [⟨tn, ⟨some ⟨g0, 0, none⟩, m, m, ts⟩, ⟨none, 0, 0, []⟩⟩]⟩).rd w := by
  refine ⟨by show nm.length ≤ _; omega, ⟨?_, fun T hT => ?_, by show (1 : Nat) ≤ _; omega⟩⟩
  · exact reads_of_block (m := 1) (H.blk j h1) rfl
  · rw [List.mem_singleton] at hT
    subst hT
    refine ⟨by show tn.length ≤ _; omega, ⟨?_, fun t ht => by have := hts t ht; show t.length ≤ _; omega, by show m ≤ _; omega⟩, Row.nil_rd w⟩
    have := reads_of_block (m := m) (size := 1) (H.blk i h0) (by rw [← Array.length_toList, hcs, List.length_map, hm, Nat.mul_one])
    rw [hcs] at this
    show Rd w 1 (some ⟨g0, 0, none⟩) m (ts.flatMap Cel.cells)
    rw [flat_texts]
    exact this

end Go.Proofs.Ytnekknemjhlgdaa
