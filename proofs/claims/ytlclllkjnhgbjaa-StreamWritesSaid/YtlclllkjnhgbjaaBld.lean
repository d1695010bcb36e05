/- A strings.Builder of the call's own. -/
import Derived.Test.YtlclllkjnhgbjaaSep
import Derived.Test.YtlclllkjnhgbjaaBs
import Derived.Lib.Builder
import Derived.Lib.AppendStr
import Derived.Lib.UnsafeStr
import Derived.Laws.Externs
namespace Go.Proofs.Ytlclllkjnhgbjaa
open Go.RowKit
set_option linter.unusedVariables false
set_option linter.unusedSimpArgs false


/-- A builder of the call's own: its block, and the bytes that it holds. -/
abbrev rBld (b : Nat) (p : Value) (A : Option Addr) (c : Nat) (l : List UInt8) (rest : List Res) : List Res := rBlk b 105 #[p, .slice A l.length c] :: rRow 5 1 (.slice A l.length c) l.length (Lib.byteCells l) :: rest
def BldP (b : Nat) (p : Value) : Prop := p = .pointer none ∨ p = .pointer (some ⟨b, 0, none⟩)
theorem info_bld : ∃ j, Try.prog.info? 105 = some j ∧ j.size = 2 := by
  have h : (Try.prog.info? 105).map (·.size) = some 2 := by kernel_rfl
  obtain ⟨j, h1, h2⟩ := Option.map_eq_some_iff.1 h
  exact ⟨j, h1, h2⟩
theorem info_u8 : ∃ j, Try.prog.info? 5 = some j ∧ j.zero = some (.int .u8 0) ∧ j.size = 1 ∧ j.bytes = 1 := by
  have h : (Try.prog.info? 5).map (fun i => (i.zero, i.size, i.bytes)) = some (some (.int .u8 0), 1, 1) := by kernel_rfl
  obtain ⟨j, h1, h2⟩ := Option.map_eq_some_iff.1 h
  injection h2 with h2 h3
  injection h3 with h3 h4
  exact ⟨j, h1, h2, h3, h4⟩
theorem lies_bld : liesAt Try.prog Try.prog.depth 105 (2 / Try.prog.cellsOf 105) 0 105 1 = true := by kernel_rfl
theorem blk_shape {w : World} {g : Nat} {t : TypeId} {cs : Array Value} (h : Blk w g t cs) : w.shape? g = some (t, cs.size) := by
  unfold Blk at h
  simp [World.shape?, h]
set_option maxRecDepth 100000 in
set_option maxHeartbeats 1000000 in
theorem bcheck_any (w0 w : World) (b : Nat) (p : Value) (A : Option Addr) (c : Nat) (l : List UInt8) (rest : List Res) (h : SL No w0 w (rBld b p A c l rest)) (hp : BldP b p) :
    Calls Try.prog 92 #[.pointer (some ⟨b, 0, none⟩)] w fun e w' => e = .returned (.tuple #[]) ∧ SL No w0 w' (rBld b (.pointer (some ⟨b, 0, none⟩)) A c l rest) := by
  have H := Lib.hid h
  obtain ⟨j, hj, hjs⟩ := info_bld
  have c0 : w.cell? ⟨b, 0, none⟩ = some p := (H.out.blk 0 rfl).cell 0
  have f0 := (H.out.blk 0 rfl).frozen 0
  have hsh : w.shape? b = some (105, 2) := blk_shape (H.out.blk 0 rfl)
  clear h
  rcases hp with rfl | rfl
  · go_enter Try.func92, Try.ntmps92
    go_wp2_with fail
    rw [Lib.run_to_unsafe w ⟨b, 0, none⟩ Try.underlying102 Try.underlying156 hj (by rw [hjs]; decide) hsh (Nat.zero_lt_succ 1)]
    simp only [Result.andThen]
    rw [Oper.upon_value]
    go_wp2_with fail
    rw [run_callFunc_extern Try.func107 (by kernel_rfl) (by kernel_rfl) (by kernel_rfl) (e := Extern.AbiNoEscape.same) (by kernel_rfl)]
    rw [Lib.run_noEscape]
    simp only [Result.andThen]
    rw [Oper.upon_value]
    go_wp2_with fail
    rw [Lib.run_from_unsafe w ⟨b, 0, none⟩ Try.underlying156 Try.underlying102 hj hsh lies_bld]
    simp only [Result.andThen]
    rw [Oper.upon_value]
    go_wp2_with fail
    go_end0
    exact ⟨rfl, H.out.setCell 0 rfl 0 (.pointer (some ⟨b, 0, none⟩))⟩
  · go_enter Try.func92, Try.ntmps92
    go_wp2_with fail
    rw [Lib.run_neq_ptr_same w _ Try.underlying102 hj]
    go_wp2_with fail
    go_end0
    exact ⟨rfl, H.out⟩
theorem run_append_str_at {P : Program} (w : World) (base : Nat) (t u ty e : TypeId) (i : TypeInfo) (ht : P.underlying t = some (.slice e)) (hu : P.underlying u = some .string) (hi : P.info? e = some i) (hz : i.zero = some (.int .u8 0))
    (hsize : i.size = 1) (hby : i.bytes = 1) (v : Value) (n : Nat) (xs : List Value) (hown : w.ownsRow base e 1 v n xs) (s : ByteArray)
    (h63 : n + s.size ≤ maxLen) (hbytes : n + s.size ≤ 140737488355328) (hbase : base ≤ w.heap.size) :
    ∃ v' w', (Builtin.append_ #[t, u] ty #[v, .string s]).run P w = .ok v' w' ∧ w'.ownsRow base e 1 v' (n + s.size) (xs ++ Lib.strCells s) ∧ w.grownBy w' v.ownBlock ∧ (v'.ownBlock = v.ownBlock ∨ v'.ownBlock = some w.heap.size) := by
  obtain ⟨v', w', hr, h1, h2, h3⟩ := Lib.run_append_own_string (P := P) w base t u ty e i ht hu hi hz hsize hby v n xs hown s h63 hbytes hbase
  refine ⟨v', w', hr, h1, h2, ?_⟩
  have hxl : xs.length = n := by simpa using hown.1
  have hsmall : n + s.size ≤ 9223372036854775807 := by simp only [maxLen] at h63; omega
  rcases hown.2 with ⟨rfl, rfl⟩ | ⟨g, cap, cur, rfl, hbg, hg, hnc, hcm, hcs, htake⟩
  · by_cases hm : s.size = 0
    · left
      rw [h3.2 ⟨rfl, hm⟩]
    · right
      have hr2 := run_append_nil_string (P := P) w t u ty e i (.int .u8 0) ht hu hi hz s (by omega) (by omega) (by rw [hby]; omega)
      rw [hr] at hr2
      injection hr2 with e1 _
      rw [e1]
      rfl
  · by_cases hroom : n + s.size ≤ cap
    · left
      have hcs' : cur.size = cap := by simpa using hcs
      have hr2 := Lib.run_append_room_string (P := P) w t u ty e i ht hu hi hsize g n cap cur hg s hroom (by omega)
      rw [hr] at hr2
      injection hr2 with e1 _
      rw [e1]
      rfl
    · right
      have holds : ∀ j u, xs[j]? = some u → w.cell? ((⟨g, 0, none⟩ : Addr).add j) = some u := hown.cells (g := g) rfl
      have hr2 := Lib.run_append_grow_string (P := P) w t u ty e i (.int .u8 0) ht hu hi hz ⟨g, 0, none⟩ n cap xs (by rw [hsize]; simpa using hxl) holds s (by omega) (by omega) (by rw [hby]; exact growslice_fits (by omega) (by omega))
      rw [hr] at hr2
      injection hr2 with e1 _
      rw [e1]
      rfl
theorem wpList_append_str {P : Program} {w : World} {ops : Array Oper} {rest : List Oper} {o : Oper} {a : Act} {Q : Exit → Act → World → Prop} (hgd : o.guard = none) (sl x : Operand) (t u : TypeId)
    (ho : o.op = .call { callee := .builtin .append, args := #[sl, x], argTypes := #[t, u] })
    (base : Nat) (e : TypeId) (i : TypeInfo) (ht : P.underlying t = some (.slice e)) (hu : P.underlying u = some .string) (hi : P.info? e = some i) (hz : i.zero = some (.int .u8 0))
    (hsize : i.size = 1) (hby : i.bytes = 1)
    (v : Value) (n : Nat) (xs : List Value) (hs : a.eval sl = v) (hown : w.ownsRow base e 1 v n xs) (s : List UInt8) (hx : a.eval x = .string ⟨s.toArray⟩)
    (h63 : n + s.length ≤ maxLen) (hbytes : n + s.length ≤ 140737488355328) (hbase : base ≤ w.heap.size)
    (h : ∀ v' w', w'.ownsRow base e 1 v' (n + s.length) (xs ++ Lib.byteCells s) → w.grownBy w' v.ownBlock → (v'.ownBlock = v.ownBlock ∨ v'.ownBlock = some w.heap.size) → wpList P ops Q rest (a.put o.dst v') w') : wpList P ops Q (o :: rest) a w := by
  refine wpList_plain hgd fun K hK => ?_
  obtain ⟨v', w', hr, h2, h3, h4⟩ := run_append_str_at (P := P) w base t u o.type e i ht hu hi hz hsize hby v n xs hown ⟨s.toArray⟩ h63 hbytes hbase
  unfold Oper.wp execOp
  simp only [ho, resolve, invoke, builtin, Sem.run_bind, Sem.run_pure, Result.andThen_ok, List.map_toArray, List.map_cons, List.map_nil, hs, hx, hr]
  exact hK _ _ (h v' w' h2 h3 h4)
set_option maxRecDepth 100000 in
set_option maxHeartbeats 1000000 in
theorem blen_any (w : World) (b : Nat) (p : Value) (A : Option Addr) (n c : Nat) (h : Blk w b 105 #[p, .slice A n c]) :
    Calls Try.prog 56 #[.pointer (some ⟨b, 0, none⟩)] w fun e w' => e = .returned (.int .i64 n) ∧ w' = w := by
  have c1 : w.cell? ⟨b, 1, none⟩ = some (.slice A n c) := h.cell 1
  go_enter Try.func56, Try.ntmps56
  go_wp2_with fail
  go_ret
  exact ⟨rfl, rfl⟩
set_option maxRecDepth 100000 in
set_option maxHeartbeats 1000000 in
theorem bwrite_any (w0 w : World) (b : Nat) (p : Value) (A : Option Addr) (c : Nat) (l s : List UInt8) (rest : List Res) (h : SL No w0 w (rBld b p A c l rest)) (hp : BldP b p) (hn : l.length + s.length ≤ 1000000000) :
    Calls Try.prog 57 #[.pointer (some ⟨b, 0, none⟩), .string ⟨s.toArray⟩] w fun e w' => (∃ v, e = .returned v) ∧ ∃ (A' : Option Addr) (c' : Nat), SL No w0 w' (rBld b (.pointer (some ⟨b, 0, none⟩)) A' c' (l ++ s) rest) := by
  obtain ⟨i0, hi, hz0, hz1, hz2⟩ := info_u8
  have HC := Lib.hid (bcheck_any w0 w b p A c l rest h hp)
  clear h hp
  go_enter Try.func57, Try.ntmps57
  go_wp2_with fail
  refine HC.out.mono ?_; rintro e w1 ⟨rfl, h1⟩
  have H := Lib.hid h1
  clear h1 HC
  have c1 : w1.cell? ⟨b, 1, none⟩ = some (.slice A l.length c) := (H.out.blk 0 rfl).cell 1
  go_wp2_with ((with_reducible show wpList _ _ _ (⟨some 14, _, _, _, _, _⟩ :: _) _ _); refine wpList_append_str rfl (.tmp 12) (.tmp 13) 103 9 rfl 0 5 i0 Try.underlying103 Try.underlying9 hi hz0 hz1 hz2 _ l.length _ rfl (H.out.row 1 rfl) s rfl (by unfold maxLen; omega) (by omega) (Nat.zero_le _) ?_; intro vq wq howq hgq hatq; replace H := Lib.hid (H.out.setRow 1 rfl hgq howq hatq); (try simp only [List.set_cons_zero, List.set_cons_succ, List.cons_append, List.nil_append, List.eraseIdx_cons_zero, List.eraseIdx_cons_succ, List.setIfInBounds_toArray, World.size_alloc, selR, List.getD_cons_zero, List.getD_cons_succ] at H); clear howq hgq hatq c1; obtain ⟨A2, c2, rfl, _⟩ := own_slice (H.out.row 1 rfl); have c1 := (H.out.blk 0 rfl).cell 1; simp only [List.getElem?_toArray, List.getElem?_cons_zero, List.getElem?_cons_succ] at c1; have f1 := (H.out.blk 0 rfl).frozen 1)
  replace H := Lib.hid (H.out.setCell 0 rfl 1 (.slice A2 (l.length + s.length) c2)); (try simp only [List.set_cons_zero, List.set_cons_succ, List.cons_append, List.nil_append, List.eraseIdx_cons_zero, List.eraseIdx_cons_succ, List.setIfInBounds_toArray, World.size_alloc, selR, List.getD_cons_zero, List.getD_cons_succ] at H)
  clear c1 f1
  go_ret2
  generalize World.setCell _ _ _ = wz at *
  have hl : l.length + s.length = (l ++ s).length := by rw [List.length_append]
  have hb : Lib.byteCells l ++ Lib.byteCells s = Lib.byteCells (l ++ s) := by unfold Lib.byteCells; rw [List.map_append]
  rw [hl, hb] at H
  exact ⟨⟨_, rfl⟩, A2, c2, H.out⟩
set_option maxRecDepth 100000 in
set_option maxHeartbeats 1000000 in
theorem bstring_any (w0 w : World) (b : Nat) (p : Value) (A : Option Addr) (c : Nat) (l : List UInt8) (rest : List Res) (h : SL No w0 w (rBld b p A c l rest)) (h0 : l ≠ []) (hn : l.length ≤ 1000000000) :
    Calls Try.prog 58 #[.pointer (some ⟨b, 0, none⟩)] w fun e w' => e = .returned (.string ⟨l.toArray⟩) ∧ Bel w0 w' := by
  have H := Lib.hid h
  clear h
  have hl0 : 0 < l.length := List.length_pos_iff.2 h0
  obtain ⟨g, rfl⟩ := own_block0 (H.out.row 1 rfl) hl0
  have hr := H.out.drew.row 1 rfl
  obtain ⟨cur, hcur⟩ := own_blk hr (b := g) rfl
  have hcap : l.length ≤ c ∧ cur.size = c := by
    rcases hr.2 with ⟨hv, _⟩ | ⟨g', cap, cur', hv, hb, hh, hnc, hm, hs, hx⟩
    · cases hv
    · injection hv with hv1 _ hv2
      injection hv1 with hv1
      injection hv1 with hv1 _ _
      subst hv1 hv2
      have hh' : Blk w.drew g 5 cur' := hh
      unfold Blk at hcur hh'
      rw [hcur] at hh'
      injection hh' with hh'
      injection hh' with hh'
      subst hh'
      exact ⟨hnc, by simpa using hs⟩
  have hg : w0.heap.size ≤ g := H.out.new 1 rfl g rfl
  have c1 : w.cell? ⟨b, 1, none⟩ = some (.slice (some ⟨g, 0, none⟩) l.length c) := (H.out.blk 0 rfl).cell 1
  have hSD : (Builtin.unsafeSliceData_ #[103] 144 #[.slice (some ⟨g, 0, none⟩) l.length c]).run Try.prog w.drew = .ok (.pointer (some ⟨g, 0, none⟩)) w.drew :=
    Lib.run_unsafeSliceData_row _ _ _ _ _ _ (by omega)
  have hUS : (Builtin.unsafeString_ #[144, 3] 9 #[.pointer (some ⟨g, 0, none⟩), .int .i64 l.length]).run Try.prog w.drew = .ok (.string ⟨l.toArray⟩) (w.drew.freeze ⟨g, 0, none⟩ l.length) := by
    refine Lib.run_unsafeString_row w.drew 144 3 9 5 Try.underlying144 (by kernel_rfl) g cur.size (blk_shape hcur) l h0 (by omega) (by omega) ?_
    intro j x hx
    exact hr.cells (g := g) rfl j (.int .u8 x.toNat) (by simp [Lib.byteCells, hx])
  have HB : Hid (Bel w0 (w.drew.freeze ⟨g, 0, none⟩ l.length)) := Lib.below_freeze (H.out.to.drew) (p := ⟨g, 0, none⟩) hg _
  clear hr hcur hcap H
  go_enter Try.func58, Try.ntmps58
  go_wp2
  go_region
  all_goals (go_wp2; go_ret; exact ⟨rfl, HB.out⟩)

end Go.Proofs.Ytlclllkjnhgbjaa
