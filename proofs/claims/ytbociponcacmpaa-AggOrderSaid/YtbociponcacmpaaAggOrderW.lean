/- The walk of the law AggOrder. -/
import Derived.Test.YtbociponcacmpaaAggOrderF
import Derived.Test.YtbociponcacmpaaApart
import Derived.Test.YtbociponcacmpaaBuild
import Derived.Test.YtbociponcacmpaaAggJoinsW
namespace Go.Proofs.Ytbociponcacmpaa
open Go.RowKit
set_option linter.unusedVariables false

theorem E_i64 : ElemInfo Try.prog 43 2 1 8 := ElemInfo.mk' (z := .int .i64 0) Try.underlying43 (by kernel_rfl) rfl (by omega)
theorem E_ag : ElemInfo Try.prog 36 35 10 80 := ElemInfo.mk' (z := .agg Ag.zero.cs) Try.underlying36 (by kernel_rfl) rfl (by omega)

/-- What is gathered: aggregates, and of each measure its values. -/
structure Cols (w0 w : World) (g : Nat) (v a0 a1 a2 : Value) (aa : List Ag) (z0 z1 z2 : List Int) : Prop where
  bel : Bel w0 w
  ge : w0.heap.size ≤ g
  blk : Blk w g 44 #[a0, a1, a2]
  own : w.ownsRow w0.heap.size 35 10 v aa.length (agsCells aa)
  o0 : w.ownsRow w0.heap.size 2 1 a0 z0.length (z0.map (Value.int .i64))
  o1 : w.ownsRow w0.heap.size 2 1 a1 z1.length (z1.map (Value.int .i64))
  o2 : w.ownsRow w0.heap.size 2 1 a2 z2.length (z2.map (Value.int .i64))
  d01 : Apart a0 a1
  d02 : Apart a0 a2
  d12 : Apart a1 a2

section
variable {w0 w w' : World} {g : Nat} {v v' a0 a1 a2 u : Value} {aa bs : List Ag} {z0 z1 z2 : List Int} {x : Int}
theorem Cols.keep (h : Cols w0 w g v a0 a1 a2 aa z0 z1 z2) (hb : Bel w w') : Cols w0 w' g v a0 a1 a2 aa z0 z1 z2 :=
  ⟨h.bel.trans hb, h.ge, h.blk.bel hb, own_bel h.own hb, own_bel h.o0 hb, own_bel h.o1 hb, own_bel h.o2 hb, h.d01, h.d02, h.d12⟩
theorem Cols.app (h : Cols w0 w g v a0 a1 a2 aa z0 z1 z2) (ho : w'.ownsRow w0.heap.size 35 10 v' bs.length (agsCells bs)) (hB : Bel w0 w') (hg : w.grownBy w' v.ownBlock) : Cols w0 w' g v' a0 a1 a2 bs z0 z1 z2 :=
  ⟨hB, h.ge, h.blk.grown hg (own_blk_ne h.own h.blk (by decide)).symm, ho, own_grown h.o0 hg (apart_types h.o0 h.own (by decide)), own_grown h.o1 hg (apart_types h.o1 h.own (by decide)), own_grown h.o2 hg (apart_types h.o2 h.own (by decide)), h.d01, h.d02, h.d12⟩
theorem own_off (h : Cols w0 w g v a0 a1 a2 aa z0 z1 z2) {e : TypeId} {size n : Nat} {xs : List Value} {y : Value} (ho : w'.ownsRow w0.heap.size e size y n xs) (hblk : Blk w' g 44 #[a0, a1, a2]) (hne : e ≠ 44) (i : Nat) (z : Value) : (w'.setCell ⟨g, i, none⟩ z).ownsRow w0.heap.size e size y n xs :=
  own_set ho (fun b hb e => own_blk_ne ho hblk hne (by rw [hb, e])) z
theorem Cols.app0 (h : Cols w0 w g v a0 a1 a2 aa z0 z1 z2) (ho : w'.ownsRow w0.heap.size 2 1 u (z0 ++ [x]).length ((z0 ++ [x]).map (Value.int .i64))) (hB : Bel w0 w') (hg : w.grownBy w' a0.ownBlock) (hu : u.ownBlock = a0.ownBlock ∨ u.ownBlock = some w.heap.size) :
    Cols w0 (w'.setCell ⟨g, 0, none⟩ u) g v u a1 a2 aa (z0 ++ [x]) z1 z2 := by
  have hblk := h.blk.grown hg (own_blk_ne h.o0 h.blk (by decide)).symm
  exact ⟨hB.setCell h.ge _, h.ge, hblk.set_ 0 u, own_off h (own_grown h.own hg (apart_types h.own h.o0 (by decide))) hblk (by decide) _ _, own_off h ho hblk (by decide) _ _, own_off h (own_grown h.o1 hg h.d01.symm) hblk (by decide) _ _, own_off h (own_grown h.o2 hg h.d02.symm) hblk (by decide) _ _,
    (apart_grown h.o1 h.d01.symm hu).symm, (apart_grown h.o2 h.d02.symm hu).symm, h.d12⟩
theorem Cols.app1 (h : Cols w0 w g v a0 a1 a2 aa z0 z1 z2) (ho : w'.ownsRow w0.heap.size 2 1 u (z1 ++ [x]).length ((z1 ++ [x]).map (Value.int .i64))) (hB : Bel w0 w') (hg : w.grownBy w' a1.ownBlock) (hu : u.ownBlock = a1.ownBlock ∨ u.ownBlock = some w.heap.size) :
    Cols w0 (w'.setCell ⟨g, 1, none⟩ u) g v a0 u a2 aa z0 (z1 ++ [x]) z2 := by
  have hblk := h.blk.grown hg (own_blk_ne h.o1 h.blk (by decide)).symm
  exact ⟨hB.setCell h.ge _, h.ge, hblk.set_ 1 u, own_off h (own_grown h.own hg (apart_types h.own h.o1 (by decide))) hblk (by decide) _ _, own_off h (own_grown h.o0 hg h.d01) hblk (by decide) _ _, own_off h ho hblk (by decide) _ _, own_off h (own_grown h.o2 hg h.d12.symm) hblk (by decide) _ _,
    apart_grown h.o0 h.d01 hu, h.d02, (apart_grown h.o2 h.d12.symm hu).symm⟩
theorem Cols.app2 (h : Cols w0 w g v a0 a1 a2 aa z0 z1 z2) (ho : w'.ownsRow w0.heap.size 2 1 u (z2 ++ [x]).length ((z2 ++ [x]).map (Value.int .i64))) (hB : Bel w0 w') (hg : w.grownBy w' a2.ownBlock) (hu : u.ownBlock = a2.ownBlock ∨ u.ownBlock = some w.heap.size) :
    Cols w0 (w'.setCell ⟨g, 2, none⟩ u) g v a0 a1 u aa z0 z1 (z2 ++ [x]) := by
  have hblk := h.blk.grown hg (own_blk_ne h.o2 h.blk (by decide)).symm
  exact ⟨hB.setCell h.ge _, h.ge, hblk.set_ 2 u, own_off h (own_grown h.own hg (apart_types h.own h.o2 (by decide))) hblk (by decide) _ _, own_off h (own_grown h.o0 hg h.d02) hblk (by decide) _ _, own_off h (own_grown h.o1 hg h.d12) hblk (by decide) _ _, own_off h ho hblk (by decide) _ _,
    h.d01, apart_grown h.o0 h.d02 hu, apart_grown h.o1 h.d12 hu⟩
end

/-- The values of a measure. -/
def colOf (i : Nat) (l : List (Row Int)) : List Int := l.map fun r => r.l.getD i 0
def agsOf (l : List (Row Int)) : List Ag := l.map fun r => Ag.of r.l
theorem col_snoc {l : List (Row Int)} {k : Nat} {r : Row Int} (h : l[k]? = some r) (i : Nat) : colOf i (l.take (k + 1)) = colOf i (l.take k) ++ [r.l.getD i 0] := by
  rw [List.take_add_one, h]
  simp [colOf]
theorem ags_snoc {l : List (Row Int)} {k : Nat} {r : Row Int} (h : l[k]? = some r) : agsOf (l.take (k + 1)) = agsOf (l.take k) ++ [Ag.of r.l] := by
  rw [List.take_add_one, h]
  simp [agsOf]
theorem agsCells_snoc (l : List Ag) (a : Ag) : agsCells (l ++ [a]) = agsCells l ++ a.cs.toList := by simp [agsCells]

theorem col_i64 {l : List (Row Int)} {w : World} (h : ∀ r ∈ l, r.ok w) {i : Nat} {z : Int} (hz : z ∈ colOf i l) : I64 z := by
  unfold colOf at hz
  obtain ⟨r, hr, rfl⟩ := List.mem_map.1 hz
  rw [List.getD_eq_getElem?_getD]
  cases hg : r.l[i]? with
  | none => unfold I64; simp
  | some y => exact (h r hr).all y (List.mem_of_getElem? hg)
def FitUpto (rows : List (Row Int)) (j : Nat) : Prop := (0 < j → FitC (colOf 0 rows)) ∧ (1 < j → FitC (colOf 1 rows)) ∧ (2 < j → FitC (colOf 2 rows))
theorem fit_next0 {rows : List (Row Int)} (_h : FitUpto rows 0) (h : fitsB (colOf 0 rows) = true) : FitUpto rows (0 + 1) := ⟨fun _ => of_decide_eq_true h, fun h => by omega, fun h => by omega⟩
theorem fit_next1 {rows : List (Row Int)} (h0 : FitUpto rows 1) (h : fitsB (colOf 1 rows) = true) : FitUpto rows (1 + 1) := ⟨fun _ => h0.1 (by omega), fun _ => of_decide_eq_true h, fun h => by omega⟩
theorem fit_next2 {rows : List (Row Int)} (h0 : FitUpto rows 2) (h : fitsB (colOf 2 rows) = true) : FitUpto rows (2 + 1) := ⟨fun _ => h0.1 (by omega), fun _ => h0.2.1 (by omega), fun _ => of_decide_eq_true h⟩

theorem all_okA {z : Ag} {l : List Ag} (hz : z.ok) (hl : ∀ a ∈ l, a.ok) : (Ag.all z l).1.ok := by
  induction l generalizing z with
  | nil => exact hz
  | cons a l ih =>
    rw [Ag.all]
    split
    · exact ih (join_ok hz (hl a (by simp))) fun b hb => hl b (by simp [hb])
    · exact zero_ok
theorem order_facts {aa : List Ag} (h : FitA aa) (hok : ∀ a ∈ aa, a.ok) (k : Nat) : ∃ X P Q : Ag, Ag.all .zero aa = (X, true) ∧ Ag.all .zero aa.reverse = (X, true) ∧ Ag.all .zero (aa.take k) = (P, true) ∧ Ag.all .zero (aa.drop k) = (Q, true) ∧ P.join Q = (X, true) ∧ Q.join P = (X, true) ∧ P.ok ∧ Q.ok := by
  obtain ⟨p1, p2, p3, p4, p5, p6, p7⟩ := order_plain h k
  refine ⟨_, _, _, Prod.ext rfl p1, Prod.ext p5 p2, Prod.ext rfl p3, Prod.ext rfl p4, p6, p7, all_okA zero_ok fun a ha => hok a (List.mem_of_mem_take ha), all_okA zero_ok fun a ha => hok a (List.mem_of_mem_drop ha)⟩
theorem ags_take (l : List Ag) (k : Nat) : (agsCells l).take (k * 10) = agsCells (l.take k) := by
  induction l generalizing k with
  | nil => simp [agsCells]
  | cons a l ih =>
    cases k with
    | zero => simp [agsCells]
    | succ k =>
      have := ih k
      simp only [agsCells] at this ⊢
      rw [List.flatMap_cons, List.take_succ_cons, List.flatMap_cons, Nat.add_mul, Nat.one_mul, List.take_append, List.take_of_length_le (by simp [Ag.cs])]
      rw [show k * 10 + 10 - a.cs.toList.length = k * 10 by simp [Ag.cs], this]
theorem ags_drop (l : List Ag) (k : Nat) : (agsCells l).drop (k * 10) = agsCells (l.drop k) := by
  induction l generalizing k with
  | nil => simp [agsCells]
  | cons a l ih =>
    cases k with
    | zero => simp [agsCells]
    | succ k =>
      have := ih k
      simp only [agsCells] at this ⊢
      rw [List.flatMap_cons, List.drop_succ_cons, Nat.add_mul, Nat.one_mul, List.drop_append, List.drop_of_length_le (by simp [Ag.cs])]
      rw [show k * 10 + 10 - a.cs.toList.length = k * 10 by simp [Ag.cs], this, List.nil_append]
theorem of_sums (zs : List Int) : (Ag.of zs).p.s = zs.getD 0 0 ∧ (Ag.of zs).q.s = zs.getD 1 0 ∧ (Ag.of zs).r.s = zs.getD 2 0 := by
  simp only [Ag.of, prtOf, List.getD_eq_getElem?_getD]
  refine ⟨?_, ?_, ?_⟩
  · cases zs[0]? <;> rfl
  · cases zs[1]? <;> rfl
  · cases zs[2]? <;> rfl
theorem fit_of {rows : List (Row Int)} (h : FitUpto rows 3) (hn : rows.length ≤ 60) : FitA (agsOf rows) := by
  refine ⟨by simpa [agsOf] using hn, fun a ha => ?_, ?_, ?_, ?_⟩
  · obtain ⟨r, _, rfl⟩ := List.mem_map.1 ha
    rfl
  · have := h.1 (by omega)
    have e : (agsOf rows).map (·.p.s) = colOf 0 rows := by unfold agsOf colOf; rw [List.map_map]; exact List.map_congr_left fun r _ => (of_sums r.l).1
    rw [e]; exact this
  · have := h.2.1 (by omega)
    have e : (agsOf rows).map (·.q.s) = colOf 1 rows := by unfold agsOf colOf; rw [List.map_map]; exact List.map_congr_left fun r _ => (of_sums r.l).2.1
    rw [e]; exact this
  · have := h.2.2 (by omega)
    have e : (agsOf rows).map (·.r.s) = colOf 2 rows := by unfold agsOf colOf; rw [List.map_map]; exact List.map_congr_left fun r _ => (of_sums r.l).2.2
    rw [e]; exact this
theorem prt_ok {zs : List Int} (h : ∀ z ∈ zs, I64 z) (i : Nat) : (prtOf zs i).ok := by
  unfold prtOf
  cases hg : zs[i]? with
  | none => exact ⟨by unfold I64; simp [Prt.zero], by unfold I64; simp [Prt.zero], by unfold I64; simp [Prt.zero]⟩
  | some z => have := h z (List.mem_of_getElem? hg); exact ⟨this, this, this⟩
theorem ags_ok {rows : List (Row Int)} {w : World} (h : ∀ r ∈ rows, r.ok w) {a : Ag} (ha : a ∈ agsOf rows) : a.ok := by
  obtain ⟨r, hr, rfl⟩ := List.mem_map.1 ha
  have := (h r hr).all
  exact ⟨by unfold I64; simp [Ag.of], prt_ok this 0, prt_ok this 1, prt_ok this 2⟩

set_option maxRecDepth 100000 in
set_option maxHeartbeats 4000000 in
theorem aggOrder_main (x : Row (Row Int)) (cut : Nat) (turn : Bool) (w : World) (hx : x.ok w) (hn : x.n ≤ 60) (hc : cut ≤ x.n) :
    Calls Try.prog 6 #[x.v, .int .i64 cut, .bool turn] w fun e w' => e = .returned (.bool true) ∧ Bel w w' := by
  obtain ⟨A, n, c, rows⟩ := x
  simp only [Row.v] at *
  have hlen : Hid (rows.length = n) := hx.len
  have Hx := Lib.hid hx
  clear hx
  have d1 : decide (60 < (n : Int)) = false := by simp; omega
  have d2 : decide ((cut : Int) < 0) = false := by simp
  have d3 : decide (n < cut) = false := by simp; omega
  go_enter Try.func6, Try.ntmps6
  go_wp2
  clear d1 d2 d3
  have C0 : Cols w (w.alloc (.cells #[.slice none 0 0, .slice none 0 0, .slice none 0 0] 44)) w.heap.size (.slice none 0 0) (.slice none 0 0) (.slice none 0 0) (.slice none 0 0) (agsOf (rows.take 0)) (colOf 0 (rows.take 0)) (colOf 1 (rows.take 0)) (colOf 2 (rows.take 0)) := by
    refine ⟨(Bel.refl w).alloc _, Nat.le_refl _, Blk.new w _ _, ?_, ?_, ?_, ?_, apart_nil _, apart_nil _, apart_nil _⟩ <;> exact ⟨by simp [agsOf, colOf, agsCells], .inl ⟨rfl, rfl⟩⟩
  go_loopg [7, 44] n (fun g7 s7 i wr => ∃ (k : Nat) (a0 a1 a2 : Value), g7 = n - k ∧ k ≤ n ∧ i = .int .i64 k ∧ Cols w wr w.heap.size s7 a0 a1 a2 (agsOf (rows.take k)) (colOf 0 (rows.take k)) (colOf 1 (rows.take k)) (colOf 2 (rows.take k)) ∧ Hid (∀ r ∈ rows.take k, r.l.length = 3))
  case atStart => exact ⟨0, _, _, _, rfl, by omega, rfl, C0, fun r h => by simp at h⟩
  case round =>
    clear C0
    obtain ⟨k, a0, a1, a2, hgk, hk, rfl, hC, h3⟩ := hrel
    have Hgk := Lib.hid hgk
    clear hgk
    by_cases hlt : k < n
    · obtain ⟨ad, r, rfl, hrk, hcell⟩ := rd_at1 (α := Row Int) rfl (Hx.out.rd.bel hC.bel) hlt
      replace hcell := hcell _ rfl
      have hro : r.ok w := Hx.out.all r (List.mem_of_getElem? hrk)
      have Hro := Lib.hid hro
      have hrl := hro.len
      have hrn := hro.size
      have Hrk := Lib.hid hrk
      have Hrl := Lib.hid hrl
      clear hrk hro hrl
      obtain ⟨rA, rn, rc, rl⟩ := r
      simp only [Row.v] at *
      by_cases h30 : rn = 3
      · subst h30
        go_wp2_with fail
        refine (of_any rA 3 rc rl _ (Hro.out.mono hC.bel).ints (by omega)).mono ?_; rintro e w1 ⟨rfl, hb⟩
        have hC1 := hC.keep hb
        clear hC hb
        have hal : (agsOf (rows.take k)).length ≤ k := by unfold agsOf; rw [List.length_map]; exact List.length_take_le _ _
        go_wp2_with (first
          | ((with_reducible show wpList _ _ _ (⟨_, .store _ (.tmp 12) _, _, _, _, _⟩ :: _) _ _); refine wpList_store_new rfl rowAg (.tmp 12) (.tmp 55) rfl rfl rfl (Ag.of rl).cs rfl rfl (ag_one _) ?_)
          | ((with_reducible show wpList _ _ _ (⟨some 58, _, _, _, _, _⟩ :: _) _ _); refine wpList_load_blk rfl rowAg (.tmp 12) rfl w1.heap.size rfl (Blk.new w1 _ _) rfl ?_)
          | ((with_reducible show wpList _ _ _ (⟨some 59, _, _, _, _, _⟩ :: _) _ _); refine wpList_buildSlice1 rfl E_ag (.tmp 58) rfl (Ag.of rl).cs rfl rfl (by omega) ?_)
          | ((with_reducible show wpList _ _ _ (⟨some 60, _, _, _, _, _⟩ :: _) _ _); refine wpList_append1 rfl (.tmp 57) (.tmp 59) _ rfl E_ag w (hC1.bel.alloc _ |>.alloc _) u7 (agsOf (rows.take k)).length (agsCells (agsOf (rows.take k))) rfl ((hC1.own.alloc _).alloc _) _ 1 1 (Ag.of rl).cs.toList rfl (rd_new _ _ _ 1 10 rfl) (fun u hu => (Array.all_eq_true_iff_forall_mem.1 (ag_one (Ag.of rl))) u (by simpa using hu)) (by unfold maxLen; omega) (by omega) ?_; intro v2 w2 hown2 hB2 hg2 hat2))
        have hC2 := (((hC1.keep ((Bel.refl _).alloc (.cells (Ag.of rl).cs 35))).keep ((Bel.refl _).alloc (.cells (Ag.of rl).cs 35))).app (bs := agsOf (rows.take (k + 1))) (by rw [ags_snoc Hrk.out, agsCells_snoc]; simpa using hown2) hB2 hg2)
        clear hC1 hown2 hB2 hg2 hat2
        obtain ⟨wo, rfl⟩ : ∃ wo : World, wo = wr := ⟨_, rfl⟩
        have hL0 : ∀ i, (colOf i (rows.take k)).length ≤ 60 := fun i => by unfold colOf; rw [List.length_map]; have := List.length_take_le k rows; omega
        have HL := Lib.hid hL0
        clear hL0
        go_loopg [63] 3 (fun g3 i wr => ∃ (j : Nat) (a0 a1 a2 : Value), g3 = 3 - j ∧ j ≤ 3 ∧ i = .int .i64 j ∧ Cols w wr w.heap.size v2 a0 a1 a2 (agsOf (rows.take (k + 1))) (colOf 0 (rows.take k) ++ [rl.getD 0 0].take j) (colOf 1 (rows.take k) ++ [rl.getD 1 0].take (j - 1)) (colOf 2 (rows.take k) ++ [rl.getD 2 0].take (j - 2)))
        case atStart => exact ⟨0, _, _, _, rfl, by omega, rfl, by simpa using hC2⟩
        case round =>
          clear hC2
          obtain ⟨j, b0, b1, b2, hgj, hj, rfl, hC⟩ := hrel
          have Hgj := Lib.hid hgj
          clear hgj
          by_cases hlt3 : j < 3
          · obtain ⟨ab, ao, z, e', hz, hzI, hcz⟩ := (Hro.out.mono hC.bel).int hlt3
            simp only at e'
            subst e'
            have Hz := Lib.hid hz
            clear hz
            have x0 := hC.blk.cell 0
            have x1 := hC.blk.cell 1
            have x2 := hC.blk.cell 2
            simp at x0 x1 x2
            have y0 := hC.blk.frozen 0
            have y1 := hC.blk.frozen 1
            have y2 := hC.blk.frozen 2
            obtain rfl | rfl | rfl : j = 0 ∨ j = 1 ∨ j = 2 := by omega
            · have hcz0 : wr.cell? ⟨ab, ao, none⟩ = some (.int .i64 z) := hcz
              go_wp2_with (((with_reducible show wpList _ _ _ (⟨some 74, _, _, _, _, _⟩ :: _) _ _); refine wpList_append1 rfl (.tmp 71) (.tmp 73) _ rfl E_i64 w (hC.bel.alloc _) b0 _ _ rfl (hC.o0.alloc _) _ 1 1 [.int .i64 z] rfl (rd_new _ _ _ 1 1 rfl) (by simp [Value.oneCell']) (by unfold maxLen; have := HL.out 0; simp; omega) (by have := HL.out 0; simp; omega) ?_; intro v3 w3 hown3 hB3 hg3 hat3; obtain ⟨vA, vc, rfl, _⟩ := own_slice hown3; have bk := (hC.blk.alloc (.cells #[.int .i64 z] 2)).grown hg3 (own_blk_ne hC.o0 hC.blk (by decide)).symm; have xx := bk.cell 0; have yy := bk.frozen 0; simp at xx))
              have hD := (hC.keep ((Bel.refl _).alloc (.cells #[.int .i64 z] 2))).app0 (x := z) (by simpa using hown3) hB3 hg3 hat3
              have hz2 : z = rl.getD 0 0 := by rw [List.getD_eq_getElem?_getD, Hz.out]; rfl
              have HD : Hid (Cols w (w3.setCell ⟨w.heap.size, 0, none⟩ _) w.heap.size v2 _ _ _ _ _ _ _) := hD
              go_roundg (3 - (0 + 1))
              case rel => exact ⟨0 + 1, _, _, _, rfl, by omega, by go_num, by have := HD.out; rw [hz2] at this; simpa using this⟩
              case measure => rw [Hgj.out]; omega
            · go_wp2_with (((with_reducible show wpList _ _ _ (⟨some 74, _, _, _, _, _⟩ :: _) _ _); refine wpList_append1 rfl (.tmp 71) (.tmp 73) _ rfl E_i64 w (hC.bel.alloc _) b1 _ _ rfl (hC.o1.alloc _) _ 1 1 [.int .i64 z] rfl (rd_new _ _ _ 1 1 rfl) (by simp [Value.oneCell']) (by unfold maxLen; have := HL.out 1; simp; omega) (by have := HL.out 1; simp; omega) ?_; intro v3 w3 hown3 hB3 hg3 hat3; obtain ⟨vA, vc, rfl, _⟩ := own_slice hown3; have bk := (hC.blk.alloc (.cells #[.int .i64 z] 2)).grown hg3 (own_blk_ne hC.o1 hC.blk (by decide)).symm; have xx := bk.cell 1; have yy := bk.frozen 1; simp at xx))
              have hD := (hC.keep ((Bel.refl _).alloc (.cells #[.int .i64 z] 2))).app1 (x := z) (by simpa using hown3) hB3 hg3 hat3
              have hz2 : z = rl.getD 1 0 := by rw [List.getD_eq_getElem?_getD, Hz.out]; rfl
              have HD : Hid (Cols w (w3.setCell ⟨w.heap.size, 1, none⟩ _) w.heap.size v2 _ _ _ _ _ _ _) := hD
              go_roundg (3 - (1 + 1))
              case rel => exact ⟨1 + 1, _, _, _, rfl, by omega, by go_num, by have := HD.out; rw [hz2] at this; simpa using this⟩
              case measure => rw [Hgj.out]; omega
            · go_wp2_with (((with_reducible show wpList _ _ _ (⟨some 74, _, _, _, _, _⟩ :: _) _ _); refine wpList_append1 rfl (.tmp 71) (.tmp 73) _ rfl E_i64 w (hC.bel.alloc _) b2 _ _ rfl (hC.o2.alloc _) _ 1 1 [.int .i64 z] rfl (rd_new _ _ _ 1 1 rfl) (by simp [Value.oneCell']) (by unfold maxLen; have := HL.out 2; simp; omega) (by have := HL.out 2; simp; omega) ?_; intro v3 w3 hown3 hB3 hg3 hat3; obtain ⟨vA, vc, rfl, _⟩ := own_slice hown3; have bk := (hC.blk.alloc (.cells #[.int .i64 z] 2)).grown hg3 (own_blk_ne hC.o2 hC.blk (by decide)).symm; have xx := bk.cell 2; have yy := bk.frozen 2; simp at xx))
              have hD := (hC.keep ((Bel.refl _).alloc (.cells #[.int .i64 z] 2))).app2 (x := z) (by simpa using hown3) hB3 hg3 hat3
              have hz2 : z = rl.getD 2 0 := by rw [List.getD_eq_getElem?_getD, Hz.out]; rfl
              have HD : Hid (Cols w (w3.setCell ⟨w.heap.size, 2, none⟩ _) w.heap.size v2 _ _ _ _ _ _ _) := hD
              go_roundg (3 - (2 + 1))
              case rel => exact ⟨2 + 1, _, _, _, rfl, by omega, by go_num, by have := HD.out; rw [hz2] at this; simpa using this⟩
              case measure => rw [Hgj.out]; omega
          · obtain rfl : j = 3 := by omega
            have hD : Cols w wr w.heap.size v2 b0 b1 b2 (agsOf (rows.take (k + 1))) (colOf 0 (rows.take (k + 1))) (colOf 1 (rows.take (k + 1))) (colOf 2 (rows.take (k + 1))) := by
              rw [col_snoc Hrk.out 0, col_snoc Hrk.out 1, col_snoc Hrk.out 2]; exact hC
            clear hC
            have H3 : Hid (∀ r ∈ rows.take (k + 1), r.l.length = 3) := by
              intro r hr
              rw [List.take_add_one, Hrk.out] at hr
              simp at hr
              rcases hr with hr | rfl
              · exact h3.out r hr
              · exact Hrl.out
            go_wp2
            go_roundg (n - (k + 1))
            case rel => exact ⟨k + 1, _, _, _, rfl, by omega, by go_num, hD, H3⟩
            case measure => rw [Hgk.out]; omega
      · have q3 : ((rn : Int) != 3) = true := by rw [bne_iff_ne]; omega
        go_wp2_with fail
        refine (awake06_any _).mono ?_; rintro e w1 ⟨rfl, hb⟩
        go_wp2
        go_ret
        exact ⟨rfl, hC.bel.trans hb⟩
    · obtain rfl : k = n := by omega
      have Hk : Hid (rows.take k = rows) := by show _ = _; rw [List.take_of_length_le (by have := hlen.out; omega)]
      rw [Hk.out] at hC h3
      clear hlt hk Hk Hgk
      have Hcol : Hid (∀ i, ∀ z ∈ colOf i rows, I64 z) := fun i z hz => col_i64 (fun r hr => Hx.out.all r hr) hz
      have Hlc : Hid (∀ i, (colOf i rows).length = k) := fun i => by unfold colOf; rw [List.length_map]; exact hlen.out
      obtain ⟨A0, c0, rfl, _⟩ := own_slice hC.o0
      obtain ⟨A1, c1, rfl, _⟩ := own_slice hC.o1
      obtain ⟨A2, c2, rfl, _⟩ := own_slice hC.o2
      go_wp2
      go_loopg [78] 3 (fun g3 i wx => ∃ j : Nat, g3 = 3 - j ∧ j ≤ 3 ∧ i = .int .i64 j ∧ wx = wr ∧ Hid (FitUpto rows j))
      case atStart => exact ⟨0, rfl, by omega, rfl, rfl, by refine ⟨?_, ?_, ?_⟩ <;> (intro h; omega)⟩
      case round =>
        obtain ⟨j, hgj, hj, rfl, rfl, hfit⟩ := hrel
        have Hgj := Lib.hid hgj
        clear hgj
        by_cases hlt3 : j < 3
        · have x0 := hC.blk.cell 0
          have x1 := hC.blk.cell 1
          have x2 := hC.blk.cell 2
          simp at x0 x1 x2
          obtain rfl | rfl | rfl : j = 0 ∨ j = 1 ∨ j = 2 := by omega
          · cases hf : fitsB (colOf 0 rows) with
            | false =>
              have Hf := Lib.hid hf
              clear hf
              go_wp2_with fail
              refine (fits_any _ _ _ _ _ (Rd.of_own hC.o0) (Hcol.out 0) (by rw [Hlc.out 0]; omega)).mono ?_; rintro e w1 ⟨rfl, rfl⟩
              rw [Hf.out]
              go_wp2_with fail
              refine (awake06_any _).mono ?_; rintro e w1 ⟨rfl, hb⟩
              go_wp2
              go_ret
              exact ⟨rfl, hC.bel.trans hb⟩
            | true =>
              have Hf := Lib.hid hf
              clear hf
              go_wp2_with fail
              refine (fits_any _ _ _ _ _ (Rd.of_own hC.o0) (Hcol.out 0) (by rw [Hlc.out 0]; omega)).mono ?_; rintro e w1 ⟨rfl, rfl⟩
              rw [Hf.out]
              go_wp2
              go_roundg (3 - (0 + 1))
              case rel => exact ⟨0 + 1, rfl, by omega, by go_num, rfl, fit_next0 hfit.out Hf.out⟩
              case measure => rw [Hgj.out]; omega
          · cases hf : fitsB (colOf 1 rows) with
            | false =>
              have Hf := Lib.hid hf
              clear hf
              go_wp2_with fail
              refine (fits_any _ _ _ _ _ (Rd.of_own hC.o1) (Hcol.out 1) (by rw [Hlc.out 1]; omega)).mono ?_; rintro e w1 ⟨rfl, rfl⟩
              rw [Hf.out]
              go_wp2_with fail
              refine (awake06_any _).mono ?_; rintro e w1 ⟨rfl, hb⟩
              go_wp2
              go_ret
              exact ⟨rfl, hC.bel.trans hb⟩
            | true =>
              have Hf := Lib.hid hf
              clear hf
              go_wp2_with fail
              refine (fits_any _ _ _ _ _ (Rd.of_own hC.o1) (Hcol.out 1) (by rw [Hlc.out 1]; omega)).mono ?_; rintro e w1 ⟨rfl, rfl⟩
              rw [Hf.out]
              go_wp2
              go_roundg (3 - (1 + 1))
              case rel => exact ⟨1 + 1, rfl, by omega, by go_num, rfl, fit_next1 hfit.out Hf.out⟩
              case measure => rw [Hgj.out]; omega
          · cases hf : fitsB (colOf 2 rows) with
            | false =>
              have Hf := Lib.hid hf
              clear hf
              go_wp2_with fail
              refine (fits_any _ _ _ _ _ (Rd.of_own hC.o2) (Hcol.out 2) (by rw [Hlc.out 2]; omega)).mono ?_; rintro e w1 ⟨rfl, rfl⟩
              rw [Hf.out]
              go_wp2_with fail
              refine (awake06_any _).mono ?_; rintro e w1 ⟨rfl, hb⟩
              go_wp2
              go_ret
              exact ⟨rfl, hC.bel.trans hb⟩
            | true =>
              have Hf := Lib.hid hf
              clear hf
              go_wp2_with fail
              refine (fits_any _ _ _ _ _ (Rd.of_own hC.o2) (Hcol.out 2) (by rw [Hlc.out 2]; omega)).mono ?_; rintro e w1 ⟨rfl, rfl⟩
              rw [Hf.out]
              go_wp2
              go_roundg (3 - (2 + 1))
              case rel => exact ⟨2 + 1, rfl, by omega, by go_num, rfl, fit_next2 hfit.out Hf.out⟩
              case measure => rw [Hgj.out]; omega
        · obtain rfl : j = 3 := by omega
          obtain ⟨wx, rfl⟩ : ∃ wx : World, wx = wr := ⟨_, rfl⟩
          have hFA : FitA (agsOf rows) := fit_of hfit.out (by have := hlen.out; omega)
          obtain ⟨A7, c7, rfl, hc7⟩ := own_slice hC.own
          have hk7 : Hid ((agsOf rows).length = k) := by show _ = _; unfold agsOf; rw [List.length_map]; exact hlen.out
          have hr7 : Rd wx 10 A7 k (agsCells (agsOf rows)) := by have := Rd.of_own hC.own; rw [hk7.out] at this; exact this
          rw [hk7.out] at hc7
          have HFA := Lib.hid hFA
          have Hok : Hid (∀ a ∈ agsOf rows, a.ok) := fun a ha => ags_ok (fun r hr => Hx.out.all r hr) ha
          have hB7 := hC.bel
          clear hFA hfit hC Hcol Hlc Hgj hlt3 hj
          rw [hk7.out]
          generalize agsOf rows = aa at *
          clear h3 hlen Hx
          go_wp2
          go_loopg [8, 90] k (fun g8 s8 i wy => ∃ m : Nat, g8 = k - m ∧ m ≤ k ∧ i = .int .i64 m ∧ Bel wx wy ∧ wy.ownsRow wx.heap.size 35 10 s8 m (agsCells (aa.reverse.take m)))
          case atStart => exact ⟨0, rfl, by omega, rfl, Bel.refl _, ⟨by simp [agsCells], .inl ⟨rfl, rfl⟩⟩⟩
          case round =>
            obtain ⟨m, hgm, hm, rfl, hBy, hown⟩ := hrel
            have Hgm := Lib.hid hgm
            clear hgm
            by_cases hlt4 : m < k
            · obtain ⟨b, o, a, e7, ha, hrg⟩ := ag_range (hr7.bel hBy) (k := k - 1 - m) (by omega)
              subst e7
              have Ha := Lib.hid ha
              clear ha
              have w1 : IntKind.i64.wrap ((k : Int) - 1) = (k : Int) - 1 := IntWalk.i64_in _ (by omega)
              have HR : Hid (agsCells (aa.reverse.take (m + 1)) = agsCells (aa.reverse.take m) ++ a.cs.toList) := by
                show _ = _
                rw [List.take_add_one, List.getElem?_reverse (by have := hk7.out; omega), show aa.length - 1 - m = k - 1 - m by rw [hk7.out], Ha.out]
                exact agsCells_snoc _ _
              go_wp2_with (first
                | ((with_reducible show wpList _ _ _ (⟨some 101, _, _, _, _, _⟩ :: _) _ _); refine wpList_load_row_at rfl rowAg (.tmp 100) rfl b (o + (k - 1 - m) * 10) rfl a.cs rfl hrg ?_)
                | ((with_reducible show wpList _ _ _ (⟨some 102, _, _, _, _, _⟩ :: _) _ _); refine wpList_buildSlice1 rfl E_ag (.tmp 101) rfl a.cs rfl rfl (by omega) ?_)
                | ((with_reducible show wpList _ _ _ (⟨some 103, _, _, _, _, _⟩ :: _) _ _); refine wpList_append1 rfl (.tmp 93) (.tmp 102) _ rfl E_ag wx (hBy.alloc _) u8 m _ rfl (hown.alloc _) _ 1 1 a.cs.toList rfl (rd_new _ _ _ 1 10 rfl) (fun u hu => (Array.all_eq_true_iff_forall_mem.1 (ag_one a)) u (by simpa using hu)) (by unfold maxLen; omega) (by omega) ?_; intro v2 w2 hown2 hB2 hg2 hat2))
              rw [← HR.out] at hown2
              have Hown2 := Lib.hid hown2
              clear hown2 hg2 hat2
              go_roundg (k - (m + 1))
              case rel => exact ⟨m + 1, rfl, by omega, by go_num, hB2, Hown2.out⟩
              case measure => rw [Hgm.out]; omega
            · obtain rfl : m = k := by omega
              have Hrev : Hid (aa.reverse.take m = aa.reverse) := by show _ = _; rw [List.take_of_length_le (by rw [List.length_reverse, hk7.out]; exact Nat.le_refl _)]
              rw [Hrev.out] at hown
              obtain ⟨A8, c8, rfl, hc8⟩ := own_slice hown
              have hr8 := Rd.of_own hown
              replace hr7 := hr7.bel hBy
              replace hB7 := hB7.trans hBy
              have Hok8 : Hid (∀ a ∈ aa.reverse, a.ok) := fun a ha => Hok.out a (List.mem_reverse.1 ha)
              obtain ⟨X, P, Q, p1, p2, p3, p4, p5, p6, p7, p8⟩ := order_facts HFA.out Hok.out cut
              have P1 := Lib.hid p1
              have P2 := Lib.hid p2
              have P3 := Lib.hid p3
              have P4 := Lib.hid p4
              have P5 := Lib.hid p5
              have P6 := Lib.hid p6
              have P7 := Lib.hid p7
              have P8 := Lib.hid p8
              clear hown hBy Hgm Hrev hlt4 hm p1 p2 p3 p4 p5 p6 p7 p8
              have hrP := hr7.take (k := cut) (by omega)
              rw [ags_take] at hrP
              have hrQ := hr7.drop (k := cut) (cap := c7) (by omega) hc7
              rw [ags_drop] at hrQ
              obtain ⟨W0, rfl⟩ : ∃ W0 : World, W0 = wr := ⟨_, rfl⟩
              go_wp2_with fail
              refine (all_any A7 m c7 aa _ hr7 Hok.out (by omega)).mono ?_; rintro e W1 ⟨rfl, h1⟩
              rw [P1.out]
              go_wp2_with ((with_reducible show wpList _ _ _ (⟨_, .store _ (.tmp 18) _, _, _, _, _⟩ :: _) _ _); refine wpList_store_new rfl rowAg (.tmp 18) (.tmp 108) rfl rfl rfl X.cs rfl rfl (ag_one _) ?_)
              have b1 : Blk (W1.alloc (.cells X.cs 35)) W1.heap.size 35 X.cs := Blk.new W1 _ _
              have s1 := h1.size
              replace h1 := h1.alloc (.cells X.cs 35)
              refine (all_any A8 m c8 aa.reverse _ (hr8.bel h1) Hok8.out (by omega)).mono ?_; rintro e W2 ⟨rfl, h2⟩
              rw [P2.out]
              go_wp2_with ((with_reducible show wpList _ _ _ (⟨_, .store _ (.tmp 20) _, _, _, _, _⟩ :: _) _ _); refine wpList_store_new rfl rowAg (.tmp 20) (.tmp 113) rfl rfl rfl X.cs rfl rfl (ag_one _) ?_)
              have b2 : Blk (W2.alloc (.cells X.cs 35)) W2.heap.size 35 X.cs := Blk.new W2 _ _
              have s2 := h2.size
              rw [World.size_alloc] at s2
              replace h2 := h2.alloc (.cells X.cs 35)
              refine (all_any A7 cut c7 (aa.take cut) _ ((hrP.bel h1).bel h2) (fun a ha => Hok.out a (List.mem_of_mem_take ha)) (by omega)).mono ?_; rintro e W3 ⟨rfl, h3⟩
              rw [P3.out]
              go_wp2_with ((with_reducible show wpList _ _ _ (⟨_, .store _ (.tmp 22) _, _, _, _, _⟩ :: _) _ _); refine wpList_store_new rfl rowAg (.tmp 22) (.tmp 120) rfl rfl rfl P.cs rfl rfl (ag_one _) ?_)
              all_goals
                have b3 : Blk (W3.alloc (.cells P.cs 35)) W3.heap.size 35 P.cs := Blk.new W3 _ _
                have s3 := h3.size
                rw [World.size_alloc] at s3
                replace h3 := h3.alloc (.cells P.cs 35)
                first | rw [if_pos ‹c7 = cut›] at hrQ | rw [if_neg ‹¬ c7 = cut›] at hrQ
                refine (all_any _ _ _ (aa.drop cut) _ (((hrQ.bel h1).bel h2).bel h3) (fun a ha => Hok.out a (List.mem_of_mem_drop ha)) (by omega)).mono ?_; rintro e W4 ⟨rfl, h4⟩
                rw [P4.out]
                replace b3 := (b3.bel h4).alloc (.cells Q.cs 35)
                have b4 : Blk (W4.alloc (.cells Q.cs 35)) W4.heap.size 35 Q.cs := Blk.new W4 _ _
                have s4 := h4.size
                rw [World.size_alloc] at s4
                replace h4 := h4.alloc (.cells Q.cs 35)
                replace b1 := ((b1.bel h2).bel h3).bel h4
                replace b2 := (b2.bel h3).bel h4
                have hB4 : Bel w (W4.alloc (.cells Q.cs 35)) := (((hB7.trans h1).trans h2).trans h3).trans h4
                have hz3 : w.heap.size ≤ W3.heap.size := by have := hB7.size; omega
                clear h1 h2 h3 h4 hrQ hrP hr7 hr8 hB7
                cases turn with
                | false =>
                  go_wp2_with (first
                    | ((with_reducible show wpList _ _ _ (⟨_, .store _ (.tmp 24) _, _, _, _, _⟩ :: _) _ _); refine wpList_store_new rfl rowAg (.tmp 24) (.tmp 127) rfl rfl rfl Q.cs rfl rfl (ag_one _) ?_)
                    | ((with_reducible show wpList _ _ _ (⟨some 133, _, _, _, _, _⟩ :: _) _ _); refine wpList_load_blk rfl rowAg (.tmp 22) rfl W3.heap.size rfl b3 rfl ?_)
                    | ((with_reducible show wpList _ _ _ (⟨some 134, _, _, _, _, _⟩ :: _) _ _); refine wpList_load_blk rfl rowAg (.tmp 24) rfl W4.heap.size rfl b4 rfl ?_))
                  refine (join_any P Q _ P7.out P8.out).mono ?_; rintro e W7 ⟨rfl, h7⟩
                  rw [P5.out]
                  go_wp2_with (first
                    | ((with_reducible show wpList _ _ _ (⟨_, .store _ (.tmp 26) _, _, _, _, _⟩ :: _) _ _); refine wpList_store_new rfl rowAg (.tmp 26) (.tmp 136) rfl rfl rfl X.cs rfl rfl (ag_one _) ?_; have bX1 := (b1.bel h7).alloc (.cells X.cs 35); have bX2 := (b2.bel h7).alloc (.cells X.cs 35); have bX7 := Blk.new W7 35 X.cs)
                    | ((with_reducible show wpList _ _ _ (⟨some 152, _, _, _, _, _⟩ :: _) _ _); refine wpList_load_blkG (by first | rfl | go_simp) rowAg (.tmp 18) (by rfl) W1.heap.size (by rfl) bX1 rfl ?_)
                    | ((with_reducible show wpList _ _ _ (⟨some 153, _, _, _, _, _⟩ :: _) _ _); refine wpList_load_blkG (by first | rfl | go_simp) rowAg (.tmp 20) (by rfl) W2.heap.size (by rfl) bX2 rfl ?_)
                    | ((with_reducible show wpList _ _ _ (⟨some 154, _, _, _, _, _⟩ :: _) _ _); refine wpList_cmp_row (by first | rfl | go_simp) .eql 35 35 (.tmp 152) (.tmp 153) (by rfl) (by rfl) (by rfl) guard_ag (eql_ag X _) ?_)
                    | ((with_reducible show wpList _ _ _ (⟨some 157, _, _, _, _, _⟩ :: _) _ _); refine wpList_load_blkG (by first | rfl | go_simp) rowAg (.tmp 18) (by rfl) W1.heap.size (by rfl) bX1 rfl ?_)
                    | ((with_reducible show wpList _ _ _ (⟨some 158, _, _, _, _, _⟩ :: _) _ _); refine wpList_load_blkG (by first | rfl | go_simp) rowAg (.tmp 26) (by rfl) W7.heap.size (by rfl) bX7 rfl ?_)
                    | ((with_reducible show wpList _ _ _ (⟨some 159, _, _, _, _, _⟩ :: _) _ _); refine wpList_cmp_row (by first | rfl | go_simp) .eql 35 35 (.tmp 157) (.tmp 158) (by rfl) (by rfl) (by rfl) guard_ag (eql_ag X _) ?_))
                  have hB8 := (hB4.trans h7).alloc (.cells X.cs 35)
                  refine (awake06_any _).mono ?_; rintro e W9 ⟨rfl, h9⟩
                  go_wp2
                  go_ret
                  exact ⟨rfl, hB8.trans h9⟩
                | true =>
                  go_wp2_with (first
                    | ((with_reducible show wpList _ _ _ (⟨_, .store _ (.tmp 24) (.tmp 127), _, _, _, _⟩ :: _) _ _); refine wpList_store_new rfl rowAg (.tmp 24) (.tmp 127) rfl rfl rfl Q.cs rfl rfl (ag_one _) ?_)
                    | ((with_reducible show wpList _ _ _ (⟨some 130, _, _, _, _, _⟩ :: _) _ _); refine wpList_load_blk rfl rowAg (.tmp 24) rfl W4.heap.size rfl b4 rfl ?_)
                    | ((with_reducible show wpList _ _ _ (⟨some 131, _, _, _, _, _⟩ :: _) _ _); refine wpList_load_blk rfl rowAg (.tmp 22) rfl W3.heap.size rfl b3 rfl ?_)
                    | ((with_reducible show wpList _ _ _ (⟨_, .store _ (.tmp 22) (.tmp 130), _, _, _, _⟩ :: _) _ _); refine wpList_store_blk rfl rowAg (.tmp 22) (.tmp 130) rfl W3.heap.size rfl b3 rfl Q.cs rfl rfl (ag_one _) ?_; intro W5 b5 g5; replace b1 := b1.grown g5 (by simp; omega); replace b2 := b2.grown g5 (by simp; omega); replace b4 := b4.grown g5 (by simp; omega))
                    | ((with_reducible show wpList _ _ _ (⟨_, .store _ (.tmp 24) (.tmp 131), _, _, _, _⟩ :: _) _ _); refine wpList_store_blk rfl rowAg (.tmp 24) (.tmp 131) rfl W4.heap.size rfl b4 rfl P.cs rfl rfl (ag_one _) ?_; intro W6 b6 g6; replace b1 := b1.grown g6 (by simp; omega); replace b2 := b2.grown g6 (by simp; omega); replace b5 := b5.grown g6 (by simp; omega))
                    | ((with_reducible show wpList _ _ _ (⟨some 133, _, _, _, _, _⟩ :: _) _ _); refine wpList_load_blk rfl rowAg (.tmp 22) rfl W3.heap.size rfl b5 rfl ?_)
                    | ((with_reducible show wpList _ _ _ (⟨some 134, _, _, _, _, _⟩ :: _) _ _); refine wpList_load_blk rfl rowAg (.tmp 24) rfl W4.heap.size rfl b6 rfl ?_))
                  replace hB4 := (hB4.grownAt g5 hz3).grownAt g6 (by omega)
                  refine (join_any Q P _ P8.out P7.out).mono ?_; rintro e W7 ⟨rfl, h7⟩
                  rw [P6.out]
                  go_wp2_with (first
                    | ((with_reducible show wpList _ _ _ (⟨_, .store _ (.tmp 26) _, _, _, _, _⟩ :: _) _ _); refine wpList_store_new rfl rowAg (.tmp 26) (.tmp 136) rfl rfl rfl X.cs rfl rfl (ag_one _) ?_; have bX1 := (b1.bel h7).alloc (.cells X.cs 35); have bX2 := (b2.bel h7).alloc (.cells X.cs 35); have bX7 := Blk.new W7 35 X.cs)
                    | ((with_reducible show wpList _ _ _ (⟨some 152, _, _, _, _, _⟩ :: _) _ _); refine wpList_load_blkG (by first | rfl | go_simp) rowAg (.tmp 18) (by rfl) W1.heap.size (by rfl) bX1 rfl ?_)
                    | ((with_reducible show wpList _ _ _ (⟨some 153, _, _, _, _, _⟩ :: _) _ _); refine wpList_load_blkG (by first | rfl | go_simp) rowAg (.tmp 20) (by rfl) W2.heap.size (by rfl) bX2 rfl ?_)
                    | ((with_reducible show wpList _ _ _ (⟨some 154, _, _, _, _, _⟩ :: _) _ _); refine wpList_cmp_row (by first | rfl | go_simp) .eql 35 35 (.tmp 152) (.tmp 153) (by rfl) (by rfl) (by rfl) guard_ag (eql_ag X _) ?_)
                    | ((with_reducible show wpList _ _ _ (⟨some 157, _, _, _, _, _⟩ :: _) _ _); refine wpList_load_blkG (by first | rfl | go_simp) rowAg (.tmp 18) (by rfl) W1.heap.size (by rfl) bX1 rfl ?_)
                    | ((with_reducible show wpList _ _ _ (⟨some 158, _, _, _, _, _⟩ :: _) _ _); refine wpList_load_blkG (by first | rfl | go_simp) rowAg (.tmp 26) (by rfl) W7.heap.size (by rfl) bX7 rfl ?_)
                    | ((with_reducible show wpList _ _ _ (⟨some 159, _, _, _, _, _⟩ :: _) _ _); refine wpList_cmp_row (by first | rfl | go_simp) .eql 35 35 (.tmp 157) (.tmp 158) (by rfl) (by rfl) (by rfl) guard_ag (eql_ag X _) ?_))
                  have hB8 := (hB4.trans h7).alloc (.cells X.cs 35)
                  refine (awake06_any _).mono ?_; rintro e W9 ⟨rfl, h9⟩
                  go_wp2
                  go_ret
                  exact ⟨rfl, hB8.trans h9⟩

end Go.Proofs.Ytbociponcacmpaa
