/- The document's All (over a contract of its Join), and the chapter's example. -/
import Derived.Test.YtbociponcacmpaaAggO
import Derived.Test.YtbociponcacmpaaMem
import Derived.Deep.DeepCutAuto
namespace Go.Proofs.Ytbociponcacmpaa
open Go.RowKit
set_option linter.unusedVariables false

/-- The document's Join does what agg.Join does. -/
def RJoinSaid : Prop := ∀ (a b : Ag) (w : World), a.ok → b.ok →
    Calls Try.prog 27 #[.agg a.cs, .agg b.cs] w fun e w' => e = .returned (.tuple #[.agg (a.join b).1.cs, .bool (a.join b).2]) ∧ Bel w w'

theorem rowAg : RowTy Try.prog 35 10 := ⟨⟨_, Try.underlying35, rfl⟩, by kernel_rfl⟩
theorem rowPart : RowTy Try.prog 32 3 := ⟨⟨_, Try.underlying32, rfl⟩, by kernel_rfl⟩
theorem ag_one (m : Ag) : m.cs.all (·.oneCell') = true := by simp [Ag.cs, Value.oneCell']
theorem ag_range {w : World} {A : Option Addr} {n k : Nat} {l : List Ag} (h : Rd w 10 A n (agsCells l)) (hk : k < n) :
    ∃ b o a, A = some ⟨b, o, none⟩ ∧ l[k]? = some a ∧ w.rangeAt b (o + k * 10) a.cs.toList := by
  obtain ⟨b, o, a, e, ha, hc⟩ := h.ag hk
  refine ⟨b, o, a, e, ha, fun j v hv => ?_⟩
  have hj : j < 10 := by
    rcases Nat.lt_or_ge j 10 with h' | h'
    · exact h'
    · rw [List.getElem?_eq_none (by simp [Ag.cs]; omega)] at hv; cases hv
  rw [hc j hj]
  simpa using hv

set_option maxRecDepth 100000 in
set_option maxHeartbeats 1000000 in
theorem rall_any (RJ : RJoinSaid) (A : Option Addr) (n c : Nat) (l : List Ag) (w : World) (hr : Rd w 10 A n (agsCells l)) (hl : ∀ a ∈ l, a.ok) (hn : n ≤ 1000000) :
    Calls Try.prog 29 #[.slice A n c] w fun e w' => e = .returned (.tuple #[.agg (Ag.all .zero l).1.cs, .bool (Ag.all .zero l).2]) ∧ Bel w w' := by
  have hlen : Hid (l.length = n) := by have := hr.1; rw [agsCells_length] at this; show _ = _; omega
  have Hl := Lib.hid hl
  clear hl
  go_enter Try.func29, Try.ntmps29
  go_wp2
  have BB : Bel w ((w.alloc (.cells Ag.zero.cs 35)).alloc (.cells Ag.zero.cs 35)) := ((Bel.refl w).alloc _).alloc _
  have B0 : Blk ((w.alloc (.cells Ag.zero.cs 35)).alloc (.cells Ag.zero.cs 35)) w.heap.size 35 Ag.zero.cs := (Blk.new w _ _).alloc _
  have B1 : Blk ((w.alloc (.cells Ag.zero.cs 35)).alloc (.cells Ag.zero.cs 35)) (w.heap.size + 1) 35 Ag.zero.cs := by
    have := Blk.new (w.alloc (.cells Ag.zero.cs 35)) 35 Ag.zero.cs
    simpa using this
  go_loopg [5] n (fun g i wr => ∃ (k : Nat) (m : Ag), g = n - k ∧ k ≤ n ∧ i = .int .i64 k ∧ Bel w wr ∧ Blk wr w.heap.size 35 Ag.zero.cs ∧ Blk wr (w.heap.size + 1) 35 m.cs ∧ m.ok ∧ Hid (Ag.all .zero (l.take k) = (m, true)))
  case atStart => exact ⟨0, .zero, rfl, by omega, rfl, BB, B0, B1, zero_ok, rfl⟩
  case round =>
    clear B0 B1 BB
    obtain ⟨k, m, hgk, hk, rfl, hB, b0, b1, hm, hF⟩ := hrel
    have Hgk := Lib.hid hgk
    have Hm := Lib.hid hm
    clear hgk hm
    by_cases hlt : k < n
    · obtain ⟨bb, oo, a, rfl, hka, hc⟩ := (hr.bel hB).ag hlt
      have Hka := Lib.hid hka
      have Hao := Lib.hid (Hl.out a (List.mem_of_getElem? hka))
      clear hka
      have c0 := hc 0 (by omega)
      have c1 := hc 1 (by omega)
      have c2 := hc 2 (by omega)
      have c3 := hc 3 (by omega)
      have c4 := hc 4 (by omega)
      have c5 := hc 5 (by omega)
      have c6 := hc 6 (by omega)
      have c7 := hc 7 (by omega)
      have c8 := hc 8 (by omega)
      have c9 := hc 9 (by omega)
      have d0 := b1.cell 0
      have d1 := b1.cell 1
      have d2 := b1.cell 2
      have d3 := b1.cell 3
      have d4 := b1.cell 4
      have d5 := b1.cell 5
      have d6 := b1.cell 6
      have d7 := b1.cell 7
      have d8 := b1.cell 8
      have d9 := b1.cell 9
      simp only [Ag.cs, Nat.add_zero] at c0 c1 c2 c3 c4 c5 c6 c7 c8 c9 d0 d1 d2 d3 d4 d5 d6 d7 d8 d9
      simp at c0 c1 c2 c3 c4 c5 c6 c7 c8 c9 d0 d1 d2 d3 d4 d5 d6 d7 d8 d9
      have hsz : w.heap.size + 1 < wr.heap.size := b1.lt
      have hbb : bb < wr.heap.size := World.block_lt_of_cell? _ _ c0
      have hbn : ¬ bb = wr.heap.size := by omega
      have hsn : ¬ w.heap.size + 1 = wr.heap.size := by omega
      have k0 : (0 : Int) ≤ (k : Int) := by omega
      have k1 : (k : Int) < (n : Int) := by omega
      clear hc
      obtain ⟨⟨m', ok⟩, Hj⟩ : ∃ x, Hid (m.join a = x) := ⟨_, rfl⟩
      have Hok' : Hid (m'.ok) := by have := join_ok Hm.out Hao.out; rw [Hj.out] at this; exact this
      have HF : Hid (Ag.all .zero (l.take (k + 1)) = if ok = true then (m', true) else (.zero, false)) := by
        show _ = _
        rw [List.take_add_one, Hka.out]
        simp only [Option.toList_some]
        rw [all_snoc, hF.out]
        simp only [if_pos]
        rw [Hj.out]
        cases ok <;> simp
      clear hF
      go_upto_region 5 with fail
      go_cut [6, 7] (fun s6 s7 wx => ∃ g : Nat, s6 = .pointer (some ⟨g, 0, none⟩) ∧ s7 = .bool ok ∧ w.heap.size + 1 < g ∧ Bel w wx ∧ Blk wx g 35 m'.cs ∧ Blk wx w.heap.size 35 Ag.zero.cs ∧ Blk wx (w.heap.size + 1) 35 m.cs)
      case first =>
        go_region_with (go_at_call 27; refine (RJ m a _ Hm.out Hao.out).mono ?_; rintro e w1 ⟨rfl, hb1⟩; rw [Hj.out, show m'.cs = #[.int .i64 m'.c, .int .i64 m'.p.s, .int .i64 m'.p.mn, .int .i64 m'.p.mx, .int .i64 m'.q.s, .int .i64 m'.q.mn, .int .i64 m'.q.mx, .int .i64 m'.r.s, .int .i64 m'.r.mn, .int .i64 m'.r.mx] from rfl]; first | (have q := ((Blk.new wr 35 Ag.zero.cs).drew).bel hb1; have x0 := q.cell 0; have x1 := q.cell 1; have x2 := q.cell 2; have x3 := q.cell 3; have x4 := q.cell 4; have x5 := q.cell 5; have x6 := q.cell 6; have x7 := q.cell 7; have x8 := q.cell 8; have x9 := q.cell 9; have y0 := q.frozen 0; have y1 := q.frozen 1; have y2 := q.frozen 2; have y3 := q.frozen 3; have y4 := q.frozen 4; have y5 := q.frozen 5; have y6 := q.frozen 6; have y7 := q.frozen 7; have y8 := q.frozen 8; have y9 := q.frozen 9; simp only [Ag.zero, Prt.zero, Ag.cs] at x0 x1 x2 x3 x4 x5 x6 x7 x8 x9; simp at x0 x1 x2 x3 x4 x5 x6 x7 x8 x9) | skip)
        all_goals
          go_wp2_with fail
          go_meet
          first
            | exact ⟨wr.heap.size, rfl, rfl, hsz, (((hB.alloc _).drew).trans hb1).agSet (by omega) m', q.agSet rfl m', ((b0.alloc _).drew.bel hb1).agFar (by have := b0.lt; omega) m', ((b1.alloc _).drew.bel hb1).agFar (by omega) m'⟩
            | exact ⟨w1.heap.size, rfl, rfl, Nat.lt_of_lt_of_le hsz hb1.size, ((hB.drew).trans hb1).alloc _, Blk.new w1 _ m'.cs, ((b0.drew).bel hb1).alloc _, ((b1.drew).bel hb1).alloc _⟩
      case rest =>
        clear c0 c1 c2 c3 c4 c5 c6 c7 c8 c9 d0 d1 d2 d3 d4 d5 d6 d7 d8 d9 hsz hbb hbn hsn b0 b1 hB
        obtain ⟨g, rfl, rfl, hg, hB, bg, b0, b1⟩ := hcut
        cases ok
        · have HE : Hid (Ag.all .zero l = (.zero, false)) := by
            show _ = _
            rw [← List.take_append_drop (k + 1) l]
            exact all_false (by rw [HF.out]; rfl)
          go_wp2_with ((with_reducible show wpList _ _ _ (⟨_, .store _ (.tmp 2) _, _, _, _, _⟩ :: _) _ _); refine wpList_store_blk rfl rowAg (.tmp 2) (.tmp 25) rfl w.heap.size rfl b0 rfl Ag.zero.cs rfl rfl (ag_one _) ?_; intro w2 b0' hg2)
          refine bodyPost_ret (results_blk rfl rowAg rfl b0' rfl) rfl ?_
          rw [HE.out]
          exact ⟨rfl, hB.grownAt hg2 (by omega)⟩
        · go_wp2_with (first
            | ((with_reducible show wpList _ _ _ (⟨some 26, _, _, _, _, _⟩ :: _) _ _); refine wpList_load_blk rfl rowAg (.tmp 6) rfl g rfl bg (ag_size m') ?_)
            | ((with_reducible show wpList _ _ _ (⟨_, .store _ (.tmp 4) _, _, _, _, _⟩ :: _) _ _); refine wpList_store_blk rfl rowAg (.tmp 4) (.tmp 26) rfl (w.heap.size + 1) rfl b1 rfl m'.cs rfl rfl (ag_one _) ?_; intro w2 b1' hg2))
          go_roundg (n - (k + 1))
          case rel => exact ⟨k + 1, m', rfl, by omega, by go_num, hB.grownAt hg2 (by omega), b0.grown hg2 (by simp), b1', Hok'.out, HF.out⟩
          case measure => rw [Hgk.out]; omega
    · have HE : Hid (Ag.all .zero l = (m, true)) := by
        show _ = _
        rw [← hF.out, List.take_of_length_le (by have := hlen.out; omega)]
      clear hF
      go_wp2_with (first
            | ((with_reducible show wpList _ _ _ (⟨some 27, _, _, _, _, _⟩ :: _) _ _); refine wpList_load_blk rfl rowAg (.tmp 4) rfl (w.heap.size + 1) rfl b1 (ag_size m) ?_)
            | ((with_reducible show wpList _ _ _ (⟨_, .store _ (.tmp 2) _, _, _, _, _⟩ :: _) _ _); refine wpList_store_blk rfl rowAg (.tmp 2) (.tmp 27) rfl w.heap.size rfl b0 rfl m.cs rfl rfl (ag_one _) ?_; intro w2 b0' hg2))
      refine bodyPost_ret (results_blk rfl rowAg rfl b0' rfl) rfl ?_
      rw [HE.out]
      exact ⟨rfl, hB.grownAt hg2 (by omega)⟩

end Go.Proofs.Ytbociponcacmpaa
