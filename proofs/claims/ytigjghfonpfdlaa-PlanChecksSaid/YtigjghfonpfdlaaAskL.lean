/- ask.Total, the example. -/
import Derived.Test.YtigjghfonpfdlaaAskZ
import Derived.Test.YtigjghfonpfdlaaAskS
import Derived.Test.YtigjghfonpfdlaaAskH
import Derived.Test.YtigjghfonpfdlaaDimA
namespace Go.Proofs.Ytigjghfonpfdlaa
open Go.RowKit
set_option linter.unusedVariables false
set_option linter.unusedSimpArgs false

section
variable {P : Program}
/-- A slice that is made: n times the zero value. -/
theorem made_flat {α : Type} [Cel α] (z : Array Value) (a : α) (hz : z.toList = Cel.cells a) (n : Nat) : (madeCells z (n * Cel.size α)).toList = (List.replicate n a).flatMap Cel.cells := by
  have hzs : z.size = Cel.size α := by rw [← Array.length_toList, hz, Cel.len]
  have hpos := Cel.pos (α := α)
  apply List.ext_getElem?
  intro j
  by_cases hj : j < n * Cel.size α
  · have hk : j / Cel.size α < n := (Nat.div_lt_iff_lt_mul hpos).2 hj
    have hm : j % Cel.size α < Cel.size α := Nat.mod_lt _ hpos
    have e : j = j / Cel.size α * Cel.size α + j % Cel.size α := by rw [Nat.mul_comm]; exact (Nat.div_add_mod j _).symm
    have h1 := cells_get (List.replicate n a) (j / Cel.size α) (j % Cel.size α) a (by rw [List.getElem?_replicate, if_pos hk]) hm
    rw [← e] at h1
    rw [h1, ← hz]
    simp only [madeCells, Array.toList_map, Array.toList_range, List.getElem?_map, List.getElem?_range hj, Option.map_some, hzs]
    rw [Array.getElem?_toList, getElem!_pos z _ (by rw [hzs]; exact hm), Array.getElem?_eq_getElem]
  · rw [List.getElem?_eq_none (by rw [Array.length_toList, size_madeCells]; omega), List.getElem?_eq_none (by rw [cells_len, List.length_replicate]; omega)]
theorem wpList_makeFull {ops : Array Oper} {rest : List Oper} {o : Oper} {a : Act} {w : World} {Q : Exit → Act → World → Prop} (hgd : o.guard = none) {t e : TypeId} {z : Value} {size bytes : Nat} (ht : P.underlying t = some (.slice e))
    (hi : (P.info? e).map (fun i => (i.zero, i.size, i.bytes)) = some (some z, size, bytes)) (x y : Operand) (ho : o.op = .makeSlice t x y) (n : Nat) (hx : a.eval x = .int .i64 n) (hy : a.eval y = .int .i64 n) (hb : bytes * n ≤ 281474976710656) (hc : n * size ≤ 16777216) (h63 : n ≤ maxLen)
    (h : ∀ w', w'.ownsRow w.heap.size e size (.slice (some ⟨w.heap.size, 0, none⟩) n n) n (madeCells z.cells (n * size)).toList → w.grownBy w' none → wpList P ops Q rest (a.put o.dst (.slice (some ⟨w.heap.size, 0, none⟩) n n)) w') : wpList P ops Q (o :: rest) a w := by
  refine wpList_plain hgd fun K hK => ?_
  obtain ⟨i, hi0, hz0, hz1, hz2⟩ := info_parts hi
  obtain ⟨w', hr, hown, hg⟩ := run_makeSlice_full (P := P) w w.heap.size t e i z size ht hi0 hz0 hz1 .i64 .i64 n hc (by rw [hz2]; exact hb) h63 (Nat.le_refl _)
  unfold Oper.wp execOp
  simp only [ho, hx, hy, Sem.run_bind, hr, Result.andThen_ok, Sem.run_pure]
  exact hK _ _ (h w' hown hg)
end
abbrev Pk.nil : Pk := ⟨0, 0, [], [], ⟨none, 0, 0, []⟩, false, 0⟩
theorem pk_nil_rd (w : World) : Pk.nil.rd w := ⟨by show I64 0; unfold I64; omega, by show I64 0; unfold I64; omega, Nat.zero_le _, Nat.zero_le _, Row.nil_rd w, by show I64 0; unfold I64; omega⟩
set_option maxRecDepth 100000 in
theorem i_pk : (Try.prog.info? 33).map (fun i => (i.zero, i.size, i.bytes)) = some (some (.agg #[.int .i64 0, .int .i64 0, .string ⟨#[]⟩, .string ⟨#[]⟩, .slice none 0 0, .bool false, .int .i64 0]), 7, 88) := by kernel_rfl
theorem bel_of_none {w w' : World} (h : w.grownBy w' none) : Bel w w' := ⟨h.os, h.tape, h.output, h.size, fun g hg => h.block g hg (by simp)⟩
set_option maxRecDepth 100000 in
set_option maxHeartbeats 1000000 in
theorem total_any (s : Sch) (w : World) (hs : s.rd w) (hn : s.dm.n ≤ 20) :
    Calls Try.prog 15 #[.agg s.cs] w fun e w' => ∃ q : Qr, e = .returned (.agg q.cs) ∧ Bel w w' ∧ q.rd w' ∧ q.ps.n = s.dm.n ∧ q.ps.l = List.replicate s.dm.n Pk.nil := by
  have H := Lib.hid (((SL.start No w).alloc s.cs 25).alloc #[.slice none 0 0] 30)
  (try simp only [List.set_cons_zero, List.set_cons_succ, List.cons_append, List.nil_append, List.eraseIdx_cons_zero, List.eraseIdx_cons_succ, List.setIfInBounds_toArray, World.size_alloc, selR, List.getD_cons_zero, List.getD_cons_succ] at H)
  obtain ⟨⟨A, n, c, ds⟩, ⟨A2, n2, c2, ms⟩⟩ := s
  simp only [Sch.cs] at *
  clear hs
  go_enter Try.func15, Try.ntmps15
  have cc0 := (H.out.blk 0 rfl).cell 0; simp only [List.getElem?_toArray, List.getElem?_cons_zero, List.getElem?_cons_succ] at cc0
  go_wp2_with (first | ((with_reducible show wpList _ _ _ (⟨some 6, _, _, _, _, _⟩ :: _) _ _); refine wpList_makeFull rfl Try.underlying28 i_pk (.tmp 5) (.tmp 5) rfl n rfl rfl (by omega) (by omega) (by unfold maxLen; omega) ?_; intro wq hown hg; replace H := Lib.hid (H.out.addRow (bel_of_none hg) hown); (try simp only [List.set_cons_zero, List.set_cons_succ, List.cons_append, List.nil_append, List.eraseIdx_cons_zero, List.eraseIdx_cons_succ, List.setIfInBounds_toArray, World.size_alloc, selR, List.getD_cons_zero, List.getD_cons_succ] at H); have HO := Lib.hid hown; clear hown hg) | ((with_reducible show wpList _ _ _ (⟨some 7, _, _, _, _, _⟩ :: _) _ _); refine wpList_build1 (v := .agg #[.slice _ n n]) rfl (.tmp 6) rfl rfl (by intro w; kernel_rfl) ?_) | ((with_reducible show wpList _ _ _ (⟨_, .store _ (.tmp 2) _, _, _, _, _⟩ :: _) _ _); (refine wpList_store_blk rfl rowQry (.tmp 2) (.tmp 7) rfl _ rfl (H.out.blk 1 rfl) rfl (#[.slice _ n n]) rfl rfl (by simp [Value.oneCell']) ?_; intro wq bq hgq; replace H := Lib.hid (H.out.setBlk 1 rfl hgq bq); (try simp only [List.set_cons_zero, List.set_cons_succ, List.cons_append, List.nil_append, List.eraseIdx_cons_zero, List.eraseIdx_cons_succ, List.setIfInBounds_toArray, World.size_alloc, selR, List.getD_cons_zero, List.getD_cons_succ] at H); clear hgq bq)))
  refine bodyPost_ret (results_blk1 rfl rowQry rfl (H.out.blk 1 rfl) rfl) rfl ?_
  have h2 := H.out.row 2 rfl
  rw [show (madeCells (Value.agg #[.int .i64 0, .int .i64 0, .string ⟨#[]⟩, .string ⟨#[]⟩, .slice none 0 0, .bool false, .int .i64 0]).cells (n * 7)).toList = (List.replicate n Pk.nil).flatMap Cel.cells from made_flat #[.int .i64 0, .int .i64 0, .string ⟨#[]⟩, .string ⟨#[]⟩, .slice none 0 0, .bool false, .int .i64 0] Pk.nil rfl n] at h2
  exact ⟨⟨⟨_, n, n, List.replicate n Pk.nil⟩⟩, rfl, H.out.to, ⟨Rd.of_own h2, fun p hp => by rw [(List.mem_replicate.1 hp).2]; exact pk_nil_rd _, by show n ≤ _; omega⟩, rfl, rfl⟩
theorem picksErr_nil {ds : List DC} : ∀ n, picksErr ds (List.replicate n PC.nil) = 0 := by
  induction ds with
  | nil => intro n; cases n <;> rfl
  | cons d ds ih =>
    intro n
    cases n with
    | zero => rfl
    | succ n =>
      rw [List.replicate_succ, picksErr]
      have h1 : pickErr d PC.nil = 0 := by
        unfold pickErr
        have h2 : filtErr d PC.nil = 0 := by unfold filtErr; rw [if_pos rfl, if_pos ⟨rfl, rfl, rfl, rfl⟩]
        rw [if_neg (by rw [h2]; omega), if_neg (by simp)]
      rw [if_neg (by rw [h1]; omega)]
      exact ih n
theorem askErr_nil {s : SC} {n : Nat} (h : s.dims.length = n) : askErr s (List.replicate n PC.nil) = schErr s := by
  unfold askErr
  by_cases hE : schErr s = 0
  · rw [if_neg (by omega), if_neg (by rw [List.length_replicate]; omega), picksErr_nil, hE]
  · rw [if_pos hE]

/-- The example's dimension, and its schema. -/
abbrev twoDC (nm : List UInt8) : DC := ⟨nm, [⟨[116], [[97], [98]], []⟩]⟩
abbrev twoSC : SC := ⟨[twoDC [120], twoDC [121]], [[109]]⟩
theorem ex_dimB {w : World} {g0 g1 m : Nat} {nm tn : List UInt8} {ts : List (List UInt8)} {cs : Array Value} (h0 : Blk w g0 9 cs) (hcs : cs.toList = ts.map tx) (hm : ts.length = m)
    (h1 : Blk w g1 78 #[.string ⟨tn.toArray⟩, .slice (some ⟨g0, 0, none⟩) m m, .slice none 0 0]) (hn : nm.length ≤ 100) (htn : tn.length ≤ 100) (hts : ∀ t ∈ ts, t.length ≤ 100) (hm2 : m ≤ 100) :
    (Dm.mk nm ⟨some ⟨g1, 0, none⟩, 1, 1, [⟨tn, ⟨some ⟨g0, 0, none⟩, m, m, ts⟩, ⟨none, 0, 0, []⟩⟩]⟩).rd w := by
  refine ⟨by show nm.length ≤ _; omega, ⟨?_, fun T hT => ?_, by show (1 : Nat) ≤ _; omega⟩⟩
  · exact reads_of_block (m := 1) h1 rfl
  · rw [List.mem_singleton] at hT
    subst hT
    refine ⟨by show tn.length ≤ _; omega, ⟨?_, fun t ht => by have := hts t ht; show t.length ≤ _; omega, by show m ≤ _; omega⟩, Row.nil_rd w⟩
    have := reads_of_block (m := m) (size := 1) h0 (by rw [← Array.length_toList, hcs, List.length_map, hm, Nat.mul_one])
    rw [hcs] at this
    show Rd w 1 (some ⟨g0, 0, none⟩) m (ts.flatMap Cel.cells)
    rw [flat_texts]
    exact this
set_option maxRecDepth 100000 in
set_option maxHeartbeats 1000000 in
theorem two1_any (c : UInt8) (w : World) :
    Calls Try.prog 91 #[.string ⟨#[c]⟩] w fun e w' => ∃ (D : Dm) (S : Nat → Prop), e = .returned (.agg D.cs) ∧ Bel w w' ∧ NewR w w' ⟨S, fun w => D.rd w⟩ ∧ D.con = twoDC [c] ∧ D.tr.n ≤ 1 ∧ ∀ t ∈ D.tr.l, t.up.n ≤ 0 := by
  have H := Lib.hid ((((SL.start No w).alloc #[.string ⟨#[]⟩, .slice none 0 0] 81).alloc #[.string ⟨#[97]⟩, .string ⟨#[98]⟩] 9).alloc #[.string ⟨#[116]⟩, .slice (some ⟨w.heap.size + 1, 0, none⟩) 2 2, .slice none 0 0] 78)
  (try simp only [List.set_cons_zero, List.set_cons_succ, List.cons_append, List.nil_append, List.eraseIdx_cons_zero, List.eraseIdx_cons_succ, List.setIfInBounds_toArray, World.size_alloc, selR, List.getD_cons_zero, List.getD_cons_succ] at H)
  go_enter Try.func91, Try.ntmps91
  go_wp2_with ((with_reducible show wpList _ _ _ (⟨_, .store _ (.tmp 2) _, _, _, _, _⟩ :: _) _ _); (refine wpList_store_blk rfl rowDm (.tmp 2) (.tmp 7) rfl _ rfl (H.out.blk 0 rfl) rfl (#[.string ⟨#[c]⟩, .slice (some ⟨w.heap.size + 1 + 1, 0, none⟩) 1 1]) rfl rfl (by simp [Value.oneCell']) ?_; intro wq bq hgq; replace H := Lib.hid (H.out.setBlk 0 rfl hgq bq); (try simp only [List.set_cons_zero, List.set_cons_succ, List.cons_append, List.nil_append, List.eraseIdx_cons_zero, List.eraseIdx_cons_succ, List.setIfInBounds_toArray, World.size_alloc, selR, List.getD_cons_zero, List.getD_cons_succ] at H); clear hgq bq))
  replace H := Lib.hid (H.out.both 1 2 (by omega) rfl rfl ⟨fun g => (rBlk (w.heap.size + 1) 9 #[.string ⟨#[97]⟩, .string ⟨#[98]⟩]).D g ∨ (rBlk (w.heap.size + 1 + 1) 78 #[.string ⟨#[116]⟩, .slice (some ⟨w.heap.size + 1, 0, none⟩) 2 2, .slice none 0 0]).D g, fun w' => (Dm.mk [c] ⟨some ⟨w.heap.size + 1 + 1, 0, none⟩, 1, 1, [⟨[116], ⟨some ⟨w.heap.size + 1, 0, none⟩, 2, 2, [[97], [98]]⟩, ⟨none, 0, 0, []⟩⟩]⟩).rd w'⟩ ⟨fun g hg => hg.elim ((H.out.get 1 rfl).1 g) ((H.out.get 2 rfl).1 g), fun w' hs hk => ex_dimB (nm := [c]) (tn := [116]) (ts := [[97], [98]]) ((H.out.get 1 rfl).2 w' hs fun g hg => hk g (.inl hg)) rfl rfl ((H.out.get 2 rfl).2 w' hs fun g hg => hk g (.inr hg)) (by simp) (by simp) (by intro t ht; simp at ht; rcases ht with rfl | rfl <;> simp) (by omega)⟩ (fun g hg => hg)); (try simp only [List.set_cons_zero, List.set_cons_succ, List.cons_append, List.nil_append, List.eraseIdx_cons_zero, List.eraseIdx_cons_succ, List.setIfInBounds_toArray, World.size_alloc, selR, List.getD_cons_zero, List.getD_cons_succ] at H)
  refine bodyPost_ret (results_blk1 rfl rowDm rfl (H.out.blk 0 rfl) rfl) rfl ?_
  exact ⟨_, _, rfl, H.out.to, ⟨H.out.get 1 rfl, H.out.new 1 rfl⟩, rfl, Nat.le_refl _, fun t ht => by rw [List.mem_singleton] at ht; subst ht; exact Nat.le_refl _⟩
set_option maxRecDepth 100000 in
set_option maxHeartbeats 1000000 in
theorem two_any (w : World) :
    Calls Try.prog 51 #[] w fun e w' => ∃ S : Sch, e = .returned (.agg S.cs) ∧ Bel w w' ∧ S.rd w' ∧ S.con = twoSC ∧ S.dm.n = 2 ∧ S.ms.n = 1 ∧ ∀ d ∈ S.dm.l, d.tr.n ≤ 1 ∧ ∀ t ∈ d.tr.l, t.up.n ≤ 0 := by
  have H := Lib.hid ((SL.start No w).alloc #[.slice none 0 0, .slice none 0 0] 25)
  (try simp only [List.set_cons_zero, List.set_cons_succ, List.cons_append, List.nil_append, List.eraseIdx_cons_zero, List.eraseIdx_cons_succ, List.setIfInBounds_toArray, World.size_alloc, selR, List.getD_cons_zero, List.getD_cons_succ] at H)
  go_enter Try.func51, Try.ntmps51
  go_wp2_with fail
  refine (two1_any 120 _).mono ?_; rintro e w1 ⟨D1, S1, rfl, hb1, hr1, hc1, hn1, hu1⟩
  replace H := Lib.hid (H.out.add hb1 _ hr1.1 hr1.2); (try simp only [List.set_cons_zero, List.set_cons_succ, List.cons_append, List.nil_append, List.eraseIdx_cons_zero, List.eraseIdx_cons_succ, List.setIfInBounds_toArray, World.size_alloc, selR, List.getD_cons_zero, List.getD_cons_succ] at H)
  clear hb1 hr1
  go_wp2_with fail
  refine (two1_any 121 _).mono ?_; rintro e w2 ⟨D2, S2, rfl, hb2, hr2, hc2, hn2, hu2⟩
  replace H := Lib.hid (H.out.add hb2 _ hr2.1 hr2.2); (try simp only [List.set_cons_zero, List.set_cons_succ, List.cons_append, List.nil_append, List.eraseIdx_cons_zero, List.eraseIdx_cons_succ, List.setIfInBounds_toArray, World.size_alloc, selR, List.getD_cons_zero, List.getD_cons_succ] at H)
  clear hb2 hr2
  have HC1 := Lib.hid hc1
  have HC2 := Lib.hid hc2
  have HU1 := Lib.hid hu1
  have HU2 := Lib.hid hu2
  clear hc1 hc2 hu1 hu2
  obtain ⟨nm1, ⟨A1, n1, c1, t1⟩⟩ := D1
  obtain ⟨nm2, ⟨A2, n2, c2, t2⟩⟩ := D2
  simp only [Dm.cs] at *
  have hbs : ∀ w : World, (Instr.buildSlice 22 2 #[(0, .agg #[.string ⟨nm1.toArray⟩, .slice A1 n1 c1]), (1, .agg #[.string ⟨nm2.toArray⟩, .slice A2 n2 c2])]).run Try.prog w = .ok (.slice (some ⟨w.heap.size, 0, none⟩) 2 2) (w.alloc (.cells #[.string ⟨nm1.toArray⟩, .slice A1 n1 c1, .string ⟨nm2.toArray⟩, .slice A2 n2 c2] 81)) := fun _ => by kernel_rfl
  replace H := Lib.hid (H.out.alloc #[.string ⟨nm1.toArray⟩, .slice A1 n1 c1, .string ⟨nm2.toArray⟩, .slice A2 n2 c2] 81); (try simp only [List.set_cons_zero, List.set_cons_succ, List.cons_append, List.nil_append, List.eraseIdx_cons_zero, List.eraseIdx_cons_succ, List.setIfInBounds_toArray, World.size_alloc, selR, List.getD_cons_zero, List.getD_cons_succ] at H)
  replace H := Lib.hid (H.out.alloc #[.string ⟨#[109]⟩] 9); (try simp only [List.set_cons_zero, List.set_cons_succ, List.cons_append, List.nil_append, List.eraseIdx_cons_zero, List.eraseIdx_cons_succ, List.setIfInBounds_toArray, World.size_alloc, selR, List.getD_cons_zero, List.getD_cons_succ] at H)
  go_wp2_with ((with_reducible show wpList _ _ _ (⟨_, .store _ (.tmp 0) _, _, _, _, _⟩ :: _) _ _); (refine wpList_store_blk rfl rowSch (.tmp 0) (.tmp 8) rfl _ rfl (H.out.blk 0 rfl) rfl (#[.slice (some ⟨w2.heap.size, 0, none⟩) 2 2, .slice (some ⟨w2.heap.size + 1, 0, none⟩) 1 1]) rfl rfl (by simp [Value.oneCell']) ?_; intro wq bq hgq; replace H := Lib.hid (H.out.setBlk 0 rfl hgq bq); (try simp only [List.set_cons_zero, List.set_cons_succ, List.cons_append, List.nil_append, List.eraseIdx_cons_zero, List.eraseIdx_cons_succ, List.setIfInBounds_toArray, World.size_alloc, selR, List.getD_cons_zero, List.getD_cons_succ] at H); clear hgq bq))
  refine bodyPost_ret (results_blk1 rfl rowSch rfl (H.out.blk 0 rfl) rfl) rfl ?_
  have hd1 := H.out.at_ 1 rfl
  have hd2 := H.out.at_ 2 rfl
  have hb3 := H.out.blk 3 rfl
  have hb4 := H.out.blk 4 rfl
  refine ⟨⟨⟨some ⟨w2.heap.size, 0, none⟩, 2, 2, [⟨nm1, ⟨A1, n1, c1, t1⟩⟩, ⟨nm2, ⟨A2, n2, c2, t2⟩⟩]⟩, ⟨some ⟨w2.heap.size + 1, 0, none⟩, 1, 1, [[109]]⟩⟩, rfl, H.out.to, ⟨⟨reads_of_block (m := 2) hb3 rfl, fun D hD => ?_, by show (2 : Nat) ≤ _; omega⟩, ⟨?_, fun t ht => ?_, by show (1 : Nat) ≤ _; omega⟩⟩, ?_, rfl, rfl, ?_⟩
  · rcases List.mem_cons.1 hD with rfl | hD
    · exact hd1
    · rw [List.mem_singleton] at hD; subst hD; exact hd2
  · have := reads_of_block (m := 1) (size := 1) hb4 rfl
    rw [flat_texts]
    exact this
  · simp at ht
    subst ht
    show ([109] : List UInt8).length ≤ _
    simp
  · show SC.mk [Dm.con _, Dm.con _] _ = _
    rw [HC1.out, HC2.out]
  · intro D hD
    rcases List.mem_cons.1 hD with rfl | hD
    · exact ⟨hn1, HU1.out⟩
    · rw [List.mem_singleton] at hD; subst hD; exact ⟨hn2, HU2.out⟩
theorem twoErr : schErr twoSC = 0 := by decide +kernel
theorem twoPut : askPutV twoSC [PC.nil, PC.nil] = ([0, 0, 0, 0], 0) := by decide +kernel
set_option maxRecDepth 100000 in
set_option maxHeartbeats 1000000 in
theorem awake35_any (w : World) : Calls Try.prog 14 #[] w fun e w' => e = .returned (.bool true) ∧ Bel w w' := by
  have H := Lib.hid (SL.start No w)
  go_enter Try.func14, Try.ntmps14
  go_wp2_with fail
  refine (two_any _).mono ?_; rintro e w1 ⟨S, rfl, hb1, hS, hSc, hn, hm, hd⟩
  replace H := Lib.hid (H.out.bel hb1); (try simp only [List.set_cons_zero, List.set_cons_succ, List.cons_append, List.nil_append, List.eraseIdx_cons_zero, List.eraseIdx_cons_succ, List.setIfInBounds_toArray, World.size_alloc, selR, List.getD_cons_zero, List.getD_cons_succ] at H)
  clear hb1
  go_wp2_with fail
  refine (two_any _).mono ?_; rintro e w2 ⟨S', rfl, hb2, hS', _, hn', _, _⟩
  replace H := Lib.hid (H.out.bel hb2); (try simp only [List.set_cons_zero, List.set_cons_succ, List.cons_append, List.nil_append, List.eraseIdx_cons_zero, List.eraseIdx_cons_succ, List.setIfInBounds_toArray, World.size_alloc, selR, List.getD_cons_zero, List.getD_cons_succ] at H)
  replace hS := hS.mono hb2
  clear hb2
  have HS' := Lib.hid (total_any S' w2 hS' (by omega))
  rw [hn'] at HS'
  have HP := Lib.hid (fun (q : Qr) w' (hb : Bel w2 w') (hq : q.rd w') (h : ∀ p ∈ q.ps.l, p.set.n ≤ 100000) => askput_any S q w' (hS.mono hb) hq (by omega) (by omega) (fun d h => ⟨by have := (hd d h).1; omega, fun t ht => by have := (hd d h).2 t ht; omega⟩) h)
  rw [hSc] at HP
  clear hS hS' hSc hn hm hd hn'
  go_wp2_with fail
  refine HS'.out.mono ?_; rintro e w3 ⟨q, rfl, hb3, hq, hqn, hql⟩
  replace H := Lib.hid (H.out.bel hb3); (try simp only [List.set_cons_zero, List.set_cons_succ, List.cons_append, List.nil_append, List.eraseIdx_cons_zero, List.eraseIdx_cons_succ, List.setIfInBounds_toArray, World.size_alloc, selR, List.getD_cons_zero, List.getD_cons_succ] at H)
  have HPP := Lib.hid (HP.out q w3 hb3 hq (by rw [hql]; intro p hp; rw [(List.mem_replicate.1 hp).2]; exact Nat.zero_le _))
  rw [show q.con = [PC.nil, PC.nil] by show q.ps.l.map Pk.con = _; rw [hql]; rfl, twoPut] at HPP
  clear hb3 hq hqn hql HP HS'
  go_wp2_with fail
  refine HPP.out.mono ?_; rintro e w4 ⟨rfl, hb4⟩
  replace H := Lib.hid (H.out.bel hb4); (try simp only [List.set_cons_zero, List.set_cons_succ, List.cons_append, List.nil_append, List.eraseIdx_cons_zero, List.eraseIdx_cons_succ, List.setIfInBounds_toArray, World.size_alloc, selR, List.getD_cons_zero, List.getD_cons_succ] at H)
  clear hb4 HPP
  go_wp2
  go_ret
  exact ⟨rfl, H.out.to⟩

end Go.Proofs.Ytigjghfonpfdlaa
