/- Catalogs: how they lie in memory; exact.May. -/
import Derived.Test.YtigjghfonpfdlaaCatA
import Derived.Test.YtigjghfonpfdlaaBb
import Derived.ChangeKeysEq
namespace Go.Proofs.Ytigjghfonpfdlaa
open Go.RowKit Go.ChangeShapes Go.WideShapes Go.Deep
set_option linter.unusedVariables false
set_option linter.unusedSimpArgs false


/-- A catalog. -/
structure Ct where
  sc : Sch
  fa : Int
  p0 : Int
  q0 : Int
  p1 : Int
  q1 : Int
  p2 : Int
  q2 : Int
abbrev Ct.cs (s : Ct) : Array Value := #[.slice s.sc.dm.A s.sc.dm.n s.sc.dm.c, .slice s.sc.ms.A s.sc.ms.n s.sc.ms.c, .int .i64 s.fa, .int .i64 s.p0, .int .i64 s.q0, .int .i64 s.p1, .int .i64 s.q1, .int .i64 s.p2, .int .i64 s.q2]
structure Ct.rd (w : World) (s : Ct) : Prop where
  sc : s.sc.rd w
  fa : I64 s.fa
  p0 : I64 s.p0
  q0 : I64 s.q0
  p1 : I64 s.p1
  q1 : I64 s.q1
  p2 : I64 s.p2
  q2 : I64 s.q2
theorem Ct.rd.mono {w w' : World} {s : Ct} (h : s.rd w) (hb : Bel w w') : s.rd w' := ⟨h.sc.mono hb, h.fa, h.p0, h.q0, h.p1, h.q1, h.p2, h.q2⟩
/-- What it says. -/
@[ext] structure CC where
  sc : SC
  fa : Int
  p0 : Int
  q0 : Int
  p1 : Int
  q1 : Int
  p2 : Int
  q2 : Int
abbrev Ct.con (s : Ct) : CC := ⟨s.sc.con, s.fa, s.p0, s.q0, s.p1, s.q1, s.p2, s.q2⟩
abbrev Ct.nil : Ct := ⟨Sch.nil, 0, 0, 0, 0, 0, 0, 0⟩
abbrev CC.nil : CC := ⟨SC.nil, 0, 0, 0, 0, 0, 0, 0⟩
theorem ct_one (s : Ct) : s.cs.all (·.oneCell') = true := by simp [Value.oneCell']
theorem i64_zero : I64 0 := by unfold I64; omega
theorem ct_nil_rd (w : World) : Ct.nil.rd w := ⟨sch_nil_rd w, i64_zero, i64_zero, i64_zero, i64_zero, i64_zero, i64_zero, i64_zero⟩
theorem rowCt : RowTy Try.prog 40 9 := ⟨⟨_, Try.underlying40, rfl⟩, by kernel_rfl⟩
theorem rowTt : RowTy Try.prog 37 2 := ⟨⟨_, Try.underlying37, rfl⟩, by kernel_rfl⟩
theorem rowTts : RowTy Try.prog 38 6 := ⟨⟨_, Try.underlying38, rfl⟩, by kernel_rfl⟩
/-- Some cells of a block. -/
theorem Blk.part {w : World} {g : Nat} {t : TypeId} {cs : Array Value} (h : Blk w g t cs) (o : Nat) (l : List Value) (hl : (cs.toList.drop o).take l.length = l) : w.rangeAt g o l := fun j v hv => by
  rw [h.cell]
  rw [← hl, List.getElem?_take] at hv
  split at hv
  · rw [List.getElem?_drop] at hv
    simpa using hv
  · cases hv
/-- A total that may not be: at this place, of so many measures. -/
def badTot (m : Int) (i : Int) (p q : Int) : Bool := !(decide (0 ≤ p) && decide (q ≤ 0)) || (decide (m ≤ i) && !(decide (p = 0) && decide (q = 0)))
/-- The number of why a catalog may not be. -/
def catErr (c : CC) : Int :=
  if schErr c.sc ≠ 0 then schErr c.sc
  else if c.fa < 0 ∨ 4000 < c.fa then 6
  else if badTot c.sc.ms.length 0 c.p0 c.q0 then 2
  else if badTot c.sc.ms.length 1 c.p1 c.q1 then 2
  else if badTot c.sc.ms.length 2 c.p2 c.q2 then 2
  else 0
set_option maxRecDepth 100000 in
theorem c_tot : Try.prog.cellsOf 37 = 2 := by kernel_rfl
theorem info_tot : (Try.prog.info? 37).map (fun i => (i.zero, i.size, i.bytes)) = some (some (.agg #[.int .i64 0, .int .i64 0]), 2, 16) := by kernel_rfl
theorem guard_tot : Try.prog.eqGuardType Try.prog.depth 37 = false := by kernel_rfl
theorem guard_tots : Try.prog.eqGuardType Try.prog.depth 38 = false := by kernel_rfl
set_option maxRecDepth 100000 in
set_option maxHeartbeats 1000000 in
theorem neq_tot (p q : Int) (W : World) : (binOp .neq 37 (.agg #[.int .i64 p, .int .i64 q]) (.agg #[.int .i64 0, .int .i64 0])).run Try.prog W = .ok (.bool (!(decide (p = 0) && decide (q = 0)))) W := by
  by_cases h1 : p = 0 <;> by_cases h2 : q = 0 <;> go_simp
set_option maxRecDepth 100000 in
set_option maxHeartbeats 1000000 in
theorem eql_tots (p0 q0 p1 q1 p2 q2 a0 b0 a1 b1 a2 b2 : Int) (W : World) : (binOp .eql 38 (.agg #[.int .i64 p0, .int .i64 q0, .int .i64 p1, .int .i64 q1, .int .i64 p2, .int .i64 q2]) (.agg #[.int .i64 a0, .int .i64 b0, .int .i64 a1, .int .i64 b1, .int .i64 a2, .int .i64 b2])).run Try.prog W = .ok (.bool (decide (p0 = a0 ∧ q0 = b0 ∧ p1 = a1 ∧ q1 = b1 ∧ p2 = a2 ∧ q2 = b2))) W := by
  obtain ⟨i0, hi0, hz0, hz1, hz2⟩ := info_parts info_tot
  go_simp
  rw [run_equalIn_array W 9999 _ _ Try.underlying38 hi0, c_tot]
  simp only [show List.range 3 = [0, 1, 2] from rfl, Op.eqItems]
  go_simp
  clear hi0 hz0 hz1 hz2
  repeat' split
  all_goals simp_all
set_option maxRecDepth 100000 in
theorem c_tots : Try.prog.cellsOf 38 = 6 := by kernel_rfl
set_option maxRecDepth 100000 in
theorem c_ct : Try.prog.cellsOf 40 = 9 := by kernel_rfl
set_option maxRecDepth 100000 in
theorem c_i64q : Try.prog.cellsOf 2 = 1 := by kernel_rfl
set_option maxRecDepth 100000 in
theorem c_intq : Try.prog.cellsOf 3 = 1 := by kernel_rfl
theorem opens_tot : OpensTo Try.prog 37 (fun _ cs (p : Int × Int) => cs = [.int .i64 p.1, .int .i64 p.2] ∧ I64 p.1 ∧ I64 p.2) := by
  intro H enc w base spare held fuel cs x h hz
  have hl := struct_len Try.underlying37 h c_tot
  obtain ⟨a, ha, wa⟩ := field_of Try.underlying37 h hz 0 _ rfl (opens_i64 Try.underlying2) c_i64q
  obtain ⟨b, hb, wb⟩ := field_of Try.underlying37 h hz 1 _ rfl (opens_i64 Try.underlying2) c_i64q
  refine ⟨⟨a, b⟩, ?_, wa, wb⟩
  match cs, hl with
  | [x0, x1], _ =>
    simp [Cel.cells] at ha hb
    simp [ha, hb]
set_option maxRecDepth 100000 in
theorem open_ct {H : Type} {enc : TypeId × Value → H} {w : World} {base b0 : Nat} {spare : Nat → Bool} {held : Bool} {r : Reach} {v : Value} {d : DataW H} {p : List MemPlace}
    (hv : Value.okWide Try.prog w r b0 40 v) (h : DataW.Trod enc Try.prog w base spare held 40 v d p) (hz : Sized Try.prog 40 d) : ∃ t : Ct, v = .agg t.cs ∧ t.rd w := by
  obtain ⟨cs, rfl, _⟩ := okWide_struct Try.underlying40 hv
  obtain ⟨fuel, hf⟩ := h
  have hl := struct_len Try.underlying40 hf c_ct
  obtain ⟨a, ha, wa⟩ := field_of Try.underlying40 hf hz 0 _ rfl opens_sch c_sch
  obtain ⟨b, hb, wb⟩ := field_of Try.underlying40 hf hz 1 _ rfl (opens_i64 Try.underlying3) c_intq
  have hM : OpensTo Try.prog 38 (fun _ cs (x : (Int × Int) × (Int × Int) × (Int × Int)) => (cs.drop 0).take 2 = [.int .i64 x.1.1, .int .i64 x.1.2] ∧ (cs.drop 2).take 2 = [.int .i64 x.2.1.1, .int .i64 x.2.1.2] ∧ (cs.drop 4).take 2 = [.int .i64 x.2.2.1, .int .i64 x.2.2.2] ∧ (I64 x.1.1 ∧ I64 x.1.2) ∧ (I64 x.2.1.1 ∧ I64 x.2.1.2) ∧ (I64 x.2.2.1 ∧ I64 x.2.2.2)) := by
    intro H enc w base spare held fuel cs x h hz
    obtain ⟨p, hp, wp⟩ := elem_of Try.underlying38 h hz opens_tot c_tot 0 (by omega)
    obtain ⟨q, hq, wq⟩ := elem_of Try.underlying38 h hz opens_tot c_tot 1 (by omega)
    obtain ⟨r, hr, wr⟩ := elem_of Try.underlying38 h hz opens_tot c_tot 2 (by omega)
    exact ⟨(p, q, r), hp, hq, hr, wp, wq, wr⟩
  obtain ⟨⟨⟨p0, q0⟩, ⟨p1, q1⟩, ⟨p2, q2⟩⟩, hp, hq, hr, ⟨w1, w2⟩, ⟨w3, w4⟩, ⟨w5, w6⟩⟩ := field_of Try.underlying40 hf hz 2 _ rfl hM c_tots
  refine ⟨⟨a, b, p0, q0, p1, q1, p2, q2⟩, ?_, ⟨wa, wb, w1, w2, w3, w4, w5, w6⟩⟩
  simp only [Value.cells] at ha hb hl hp hq hr
  obtain ⟨cl⟩ := cs
  match cl, hl with
  | [x0, x1, x2, x3, x4, x5, x6, x7, x8], _ =>
    simp [Cel.cells, Row.v] at ha hb hp hq hr
    simp [ha, hb, hp, hq, hr]

set_option maxRecDepth 100000 in
set_option maxHeartbeats 1000000 in
theorem may_any (p q : Int) (w : World) :
    Calls Try.prog 77 #[.agg #[.int .i64 p, .int .i64 q]] w fun e w' => e = .returned (.bool (decide (0 ≤ p) && decide (q ≤ 0))) ∧ Bel w w' := by
  by_cases h : 0 ≤ p
  · have d0 : decide (0 ≤ p) = true := by simp [h]
    go_enter Try.func77, Try.ntmps77
    go_wp2
    go_ret
    exact ⟨by first | (rw [d0]; rfl) | rfl, (Bel.refl w).alloc _⟩
  · have d0 : decide (0 ≤ p) = false := by simp [h]
    go_enter Try.func77, Try.ntmps77
    go_wp2
    go_ret
    exact ⟨by first | (rw [d0]; rfl) | rfl, (Bel.refl w).alloc _⟩

end Go.Proofs.Ytigjghfonpfdlaa
