/- ask.Total, the example. -/
import Derived.Test.YtelnhhbefdfeoaaAskZ
import Derived.Test.YtelnhhbefdfeoaaAskS
import Derived.Test.YtelnhhbefdfeoaaAskH
import Derived.Test.YtelnhhbefdfeoaaBq
namespace Go.Proofs.Ytelnhhbefdfeoaa
open Go.RowKit
set_option linter.unusedVariables false
set_option linter.unusedSimpArgs false

section
variable {P : Program}
/-- A slice that is made: n times the zero value. -/
theorem made_flat {α : Type} [Cel α] (z : Array Value) (a : α) (hz : z.toList = Cel.cells a) (n : Nat) : (madeCells z (n * Cel.size α)).toList = (List.replicate n a).flatMap Cel.cells := by
  have hzs : z.size = Cel.size α := by rw [← Array.length_toList, hz, Cel.len]
  have hpos := Cel.pos (α := α)
  apply List.ext_getElem?
  intro j
  by_cases hj : j < n * Cel.size α
  · have hk : j / Cel.size α < n := (Nat.div_lt_iff_lt_mul hpos).2 hj
    have hm : j % Cel.size α < Cel.size α := Nat.mod_lt _ hpos
    have e : j = j / Cel.size α * Cel.size α + j % Cel.size α := by rw [Nat.mul_comm]; exact (Nat.div_add_mod j _).symm
    have h1 := cells_get (List.replicate n a) (j / Cel.size α) (j % Cel.size α) a (by rw [List.getElem?_replicate, if_pos hk]) hm
    rw [← e] at h1
    rw [h1, ← hz]
    simp only [madeCells, Array.toList_map, Array.toList_range, List.getElem?_map, List.getElem?_range hj, Option.map_some, hzs]
    rw [Array.getElem?_toList, getElem!_pos z _ (by rw [hzs]; exact hm), Array.getElem?_eq_getElem]
  · rw [List.getElem?_eq_none (by rw [Array.length_toList, size_madeCells]; omega), List.getElem?_eq_none (by rw [cells_len, List.length_replicate]; omega)]
theorem wpList_makeFull {ops : Array Oper} {rest : List Oper} {o : Oper} {a : Act} {w : World} {Q : Exit → Act → World → Prop} (hgd : o.guard = none) {t e : TypeId} {z : Value} {size bytes : Nat} (ht : P.underlying t = some (.slice e))
    (hi : (P.info? e).map (fun i => (i.zero, i.size, i.bytes)) = some (some z, size, bytes)) (x y : Operand) (ho : o.op = .makeSlice t x y) (n : Nat) (hx : a.eval x = .int .i64 n) (hy : a.eval y = .int .i64 n) (hb : bytes * n ≤ 281474976710656) (hc : n * size ≤ 16777216) (h63 : n ≤ maxLen)
    (h : ∀ w', w'.ownsRow w.heap.size e size (.slice (some ⟨w.heap.size, 0, none⟩) n n) n (madeCells z.cells (n * size)).toList → w.grownBy w' none → wpList P ops Q rest (a.put o.dst (.slice (some ⟨w.heap.size, 0, none⟩) n n)) w') : wpList P ops Q (o :: rest) a w := by
  refine wpList_plain hgd fun K hK => ?_
  obtain ⟨i, hi0, hz0, hz1, hz2⟩ := info_parts hi
  obtain ⟨w', hr, hown, hg⟩ := run_makeSlice_full (P := P) w w.heap.size t e i z size ht hi0 hz0 hz1 .i64 .i64 n hc (by rw [hz2]; exact hb) h63 (Nat.le_refl _)
  unfold Oper.wp execOp
  simp only [ho, hx, hy, Sem.run_bind, hr, Result.andThen_ok, Sem.run_pure]
  exact hK _ _ (h w' hown hg)
end
abbrev Pk.nil : Pk := ⟨0, 0, [], [], ⟨none, 0, 0, []⟩, false, 0⟩
theorem pk_nil_rd (w : World) : Pk.nil.rd w := ⟨by show I64 0; unfold I64; omega, by show I64 0; unfold I64; omega, Nat.zero_le _, Nat.zero_le _, Row.nil_rd w, by show I64 0; unfold I64; omega⟩
set_option maxRecDepth 100000 in
theorem i_pk : (Try.prog.info? 59).map (fun i => (i.zero, i.size, i.bytes)) = some (some (.agg #[.int .i64 0, .int .i64 0, .string ⟨#[]⟩, .string ⟨#[]⟩, .slice none 0 0, .bool false, .int .i64 0]), 7, 88) := by kernel_rfl
theorem bel_of_none {w w' : World} (h : w.grownBy w' none) : Bel w w' := ⟨h.os, h.tape, h.output, h.size, fun g hg => h.block g hg (by simp)⟩
theorem picksErr_nil {ds : List DC} : ∀ n, picksErr ds (List.replicate n PC.nil) = 0 := by
  induction ds with
  | nil => intro n; cases n <;> rfl
  | cons d ds ih =>
    intro n
    cases n with
    | zero => rfl
    | succ n =>
      rw [List.replicate_succ, picksErr]
      have h1 : pickErr d PC.nil = 0 := by
        unfold pickErr
        have h2 : filtErr d PC.nil = 0 := by unfold filtErr; rw [if_pos rfl, if_pos ⟨rfl, rfl, rfl, rfl⟩]
        rw [if_neg (by rw [h2]; omega), if_neg (by simp)]
      rw [if_neg (by rw [h1]; omega)]
      exact ih n
theorem askErr_nil {s : SC} {n : Nat} (h : s.dims.length = n) : askErr s (List.replicate n PC.nil) = schErr s := by
  unfold askErr
  by_cases hE : schErr s = 0
  · rw [if_neg (by omega), if_neg (by rw [List.length_replicate]; omega), picksErr_nil, hE]
  · rw [if_pos hE]

/-- The example's dimension, and its schema. -/
abbrev twoDC (nm : List UInt8) : DC := ⟨nm, [⟨[116], [[97], [98]], []⟩]⟩
abbrev twoSC : SC := ⟨[twoDC [120], twoDC [121]], [[109]]⟩
theorem ex_dimB {w : World} {g0 g1 m : Nat} {nm tn : List UInt8} {ts : List (List UInt8)} {cs : Array Value} (h0 : Blk w g0 9 cs) (hcs : cs.toList = ts.map tx) (hm : ts.length = m)
    (h1 : Blk w g1 77 #[.string ⟨tn.toArray⟩, .slice (some ⟨g0, 0, none⟩) m m, .slice none 0 0]) (hn : nm.length ≤ 100) (htn : tn.length ≤ 100) (hts : ∀ t ∈ ts, t.length ≤ 100) (hm2 : m ≤ 100) :
    (Dm.mk nm ⟨some ⟨g1, 0, none⟩, 1, 1, [⟨tn, ⟨some ⟨g0, 0, none⟩, m, m, ts⟩, ⟨none, 0, 0, []⟩⟩]⟩).rd w := by
  refine ⟨by show nm.length ≤ _; omega, ⟨?_, fun T hT => ?_, by show (1 : Nat) ≤ _; omega⟩⟩
  · exact reads_of_block (m := 1) h1 rfl
  · rw [List.mem_singleton] at hT
    subst hT
    refine ⟨by show tn.length ≤ _; omega, ⟨?_, fun t ht => by have := hts t ht; show t.length ≤ _; omega, by show m ≤ _; omega⟩, Row.nil_rd w⟩
    have := reads_of_block (m := m) (size := 1) h0 (by rw [← Array.length_toList, hcs, List.length_map, hm, Nat.mul_one])
    rw [hcs] at this
    show Rd w 1 (some ⟨g0, 0, none⟩) m (ts.flatMap Cel.cells)
    rw [flat_texts]
    exact this
theorem twoErr : schErr twoSC = 0 := by decide +kernel
theorem twoPut : askPutV twoSC [PC.nil, PC.nil] = ([0, 0, 0, 0], 0) := by decide +kernel
end Go.Proofs.Ytelnhhbefdfeoaa
