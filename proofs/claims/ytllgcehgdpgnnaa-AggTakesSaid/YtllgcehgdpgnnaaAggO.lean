/- Walks of agg.Of, agg.Mean. -/
import Derived.Test.YtllgcehgdpgnnaaAggA
import Derived.OpenShut
namespace Go.Proofs.Ytllgcehgdpgnnaa
open Go.RowKit
set_option linter.unusedVariables false

theorem Bel.set3 {a w : World} {g x y z : Nat} (h : Bel a w) (hg : a.heap.size ≤ g) (u u' u'' : Value) : Bel a (((w.setCell ⟨g, x, none⟩ u).setCell ⟨g, y, none⟩ u').setCell ⟨g, z, none⟩ u'') :=
  ((h.setCell hg _).setCell hg _).setCell hg _
theorem Blk.far3 {w : World} {g' g x y z : Nat} {t : TypeId} {cs : Array Value} (h : Blk w g' t cs) (hne : g' ≠ g) (u u' u'' : Value) : Blk (((w.setCell ⟨g, x, none⟩ u).setCell ⟨g, y, none⟩ u').setCell ⟨g, z, none⟩ u'') g' t cs :=
  ((h.far (p := ⟨g, x, none⟩) hne _).far (p := ⟨g, y, none⟩) hne _).far (p := ⟨g, z, none⟩) hne _
theorem Blk.set3 {w : World} {g : Nat} {t : TypeId} {cs cs' : Array Value} (h : Blk w g t cs) (x y z : Nat) (u u' u'' : Value) (e : ((cs.setIfInBounds x u).setIfInBounds y u').setIfInBounds z u'' = cs') : Blk (((w.setCell ⟨g, x, none⟩ u).setCell ⟨g, y, none⟩ u').setCell ⟨g, z, none⟩ u'') g t cs' := by
  have := ((h.set_ x u).set_ y u').set_ z u''
  rw [e] at this
  exact this

theorem Rd.intAt {w : World} {A : Option Addr} {n k : Nat} {kd : IntKind} {zs : List Int} (h : Rd w 1 A n (zs.map (Value.int kd))) (hk : k < n) :
    ∃ b o z, A = some ⟨b, o, none⟩ ∧ zs[k]? = some z ∧ w.cell? ⟨b, o + k, none⟩ = some (.int kd z) := by
  obtain ⟨ad, z, e, hz, hc⟩ := h.int hk
  obtain ⟨ad', z', e', _, hc'⟩ := h.int (k := 0) (by omega)
  rw [e] at e'
  injection e' with e'
  subst e'
  have hs := spot_none hc'
  refine ⟨ad.block, ad.off, z, by rw [e, ← hs], hz, ?_⟩
  rw [hs, Addr.add_mid] at hc
  exact hc

/-- One value's part. -/
def prtOf (zs : List Int) (i : Nat) : Prt := match zs[i]? with | some v => ⟨v, v, v⟩ | none => .zero
/-- The aggregate of one row's values. -/
def Ag.of (zs : List Int) : Ag := ⟨1, prtOf zs 0, prtOf zs 1, prtOf zs 2⟩
theorem prtOf_some {zs : List Int} {i : Nat} {v : Int} (h : zs[i]? = some v) : prtOf zs i = ⟨v, v, v⟩ := by simp only [prtOf, h]
theorem prtOf_none {zs : List Int} {i : Nat} (h : zs[i]? = none) : prtOf zs i = .zero := by simp only [prtOf, h]
theorem prtOf_take {zs : List Int} {i k : Nat} : prtOf (zs.take k) i = if i < k then prtOf zs i else .zero := by
  by_cases h : i < k
  · rw [if_pos h]; simp only [prtOf, List.getElem?_take_of_lt h]
  · rw [if_neg h]; exact prtOf_none (by rw [List.getElem?_take, if_neg h])

theorem prtOf_nil (i : Nat) : prtOf [] i = .zero := prtOf_none (by simp)
theorem of_step0 (zs : List Int) (x : Int) (h : zs[0]? = some x) : (((Ag.of (zs.take 0)).cs.setIfInBounds 1 (.int .i64 x)).setIfInBounds 2 (.int .i64 x)).setIfInBounds 3 (.int .i64 x) = (Ag.of (zs.take 1)).cs := by
  rw [List.take_zero]
  simp [Ag.of, Ag.cs, prtOf_take, prtOf_some h, prtOf_nil]
theorem of_step1 (zs : List Int) (x : Int) (h : zs[1]? = some x) : (((Ag.of (zs.take 1)).cs.setIfInBounds 4 (.int .i64 x)).setIfInBounds 5 (.int .i64 x)).setIfInBounds 6 (.int .i64 x) = (Ag.of (zs.take 2)).cs := by
  simp [Ag.of, Ag.cs, prtOf_take, prtOf_some h]
theorem of_step2 (zs : List Int) (x : Int) (h : zs[2]? = some x) : (((Ag.of (zs.take 2)).cs.setIfInBounds 7 (.int .i64 x)).setIfInBounds 8 (.int .i64 x)).setIfInBounds 9 (.int .i64 x) = (Ag.of (zs.take 3)).cs := by
  simp [Ag.of, Ag.cs, prtOf_take, prtOf_some h]
theorem of_zero (zs : List Int) : (Ag.of (zs.take 0)).cs = #[.int .i64 1, .int .i64 0, .int .i64 0, .int .i64 0, .int .i64 0, .int .i64 0, .int .i64 0, .int .i64 0, .int .i64 0, .int .i64 0] := by
  rw [List.take_zero]
  rfl
theorem of_ok {zs : List Int} (h : ∀ z ∈ zs, I64 z) : (Ag.of zs).ok := by
  have hp : ∀ i, (prtOf zs i).ok := by
    intro i
    cases hz : zs[i]? with
    | none => rw [prtOf_none hz]; exact prt_zero_ok
    | some v => rw [prtOf_some hz]; have := h v (List.mem_of_getElem? hz); exact ⟨this, this, this⟩
  exact ⟨by unfold I64 Ag.of; simp, hp 0, hp 1, hp 2⟩

set_option maxRecDepth 100000 in
set_option maxHeartbeats 1000000 in
theorem of_many (A : Option Addr) (n c : Nat) (w : World) (hn : 3 < n) (hm : n ≤ 9223372036854775807) :
    Calls Try.prog 123 #[.slice A n c] w fun e w' => e = .returned (.tuple #[.agg Ag.zero.cs, .int .i64 5]) ∧ Bel w w' := by
  go_enter Try.func123, Try.ntmps123
  go_wp2
  refine bodyPost_ret (v := .tuple #[.agg Ag.zero.cs, .int .i64 5]) (by simp [results, Try.results123, go_sem, Ag.cs, Ag.zero, Prt.zero]) rfl ⟨rfl, ?_⟩
  exact (Bel.refl _).alloc _

set_option maxRecDepth 100000 in
set_option maxHeartbeats 4000000 in
theorem of_any (A : Option Addr) (n c : Nat) (zs : List Int) (w : World) (hr : Rd w 1 A n (zs.map (Value.int .i64))) (hn : n ≤ 3) :
    Calls Try.prog 123 #[.slice A n c] w fun e w' => e = .returned (.tuple #[.agg (Ag.of zs).cs, .int .i64 0]) ∧ Bel w w' := by
  have hlen : Hid (zs.length = n) := by have := hr.len; show _ = _; simpa using this
  have dn : decide (3 < (n : Int)) = false := by simp; omega
  go_enter Try.func123, Try.ntmps123
  go_wp2
  rw [← of_zero zs]
  have BB : Bel w ((w.alloc (.cells Ag.zero.cs 92)).alloc (.cells (Ag.of (zs.take 0)).cs 92)) := ((Bel.refl w).alloc _).alloc _
  have B0 : Blk ((w.alloc (.cells Ag.zero.cs 92)).alloc (.cells (Ag.of (zs.take 0)).cs 92)) w.heap.size 92 Ag.zero.cs := (Blk.new w _ _).alloc _
  have B1 : Blk ((w.alloc (.cells Ag.zero.cs 92)).alloc (.cells (Ag.of (zs.take 0)).cs 92)) (w.heap.size + 1) 92 (Ag.of (zs.take 0)).cs := by
    have := Blk.new (w.alloc (.cells Ag.zero.cs 92)) 92 (Ag.of (zs.take 0)).cs
    rw [World.size_alloc] at this
    exact this
  go_loopg [14] n (fun g i wr => ∃ k : Nat, g = n - k ∧ k ≤ n ∧ k ≤ 3 ∧ i = .int .i64 k ∧ Bel w wr ∧ Blk wr w.heap.size 92 Ag.zero.cs ∧ Blk wr (w.heap.size + 1) 92 (Ag.of (zs.take k)).cs)
  case atStart => exact ⟨0, rfl, by omega, by omega, rfl, BB, B0, B1⟩
  case round =>
    clear B0 B1 BB
    obtain ⟨k, hgk, hk, hk3, rfl, hB, b0, b1⟩ := hrel
    by_cases hlt : k < n
    · obtain ⟨bb, oo, x, rfl, hx, hcx⟩ := (hr.bel hB).intAt hlt
      have Hx := Lib.hid hx
      clear hx
      rcases (show k = 0 ∨ k = 1 ∨ k = 2 by omega) with rfl | rfl | rfl
      · have f0 := b1.cell 1
        have f1 := b1.cell 2
        have f2 := b1.cell 3
        have z0 := b1.frozen 1
        have z1 := b1.frozen 2
        have z2 := b1.frozen 3
        simp [Ag.cs] at f0 f1 f2
        try simp only [Nat.add_zero] at hcx
        rw [show ((0 : Nat) : Int) = 0 from rfl]
        go_wp2
        go_roundg (n - 1)
        case rel => exact ⟨1, rfl, by omega, by omega, rfl, Bel.set3 hB (by omega) _ _ _, Blk.far3 b0 (by omega) _ _ _, Blk.set3 b1 1 2 3 (.int .i64 x) (.int .i64 x) (.int .i64 x) (of_step0 zs x Hx.out)⟩
        case measure => omega
      · have f0 := b1.cell 4
        have f1 := b1.cell 5
        have f2 := b1.cell 6
        have z0 := b1.frozen 4
        have z1 := b1.frozen 5
        have z2 := b1.frozen 6
        simp [Ag.cs] at f0 f1 f2
        try simp only [Nat.add_zero] at hcx
        rw [show ((1 : Nat) : Int) = 1 from rfl]
        go_wp2
        go_roundg (n - 2)
        case rel => exact ⟨2, rfl, by omega, by omega, rfl, Bel.set3 hB (by omega) _ _ _, Blk.far3 b0 (by omega) _ _ _, Blk.set3 b1 4 5 6 (.int .i64 x) (.int .i64 x) (.int .i64 x) (of_step1 zs x Hx.out)⟩
        case measure => omega
      · have f0 := b1.cell 7
        have f1 := b1.cell 8
        have f2 := b1.cell 9
        have z0 := b1.frozen 7
        have z1 := b1.frozen 8
        have z2 := b1.frozen 9
        simp [Ag.cs] at f0 f1 f2
        try simp only [Nat.add_zero] at hcx
        rw [show ((2 : Nat) : Int) = 2 from rfl]
        go_wp2
        go_roundg (n - 3)
        case rel => exact ⟨3, rfl, by omega, by omega, rfl, Bel.set3 hB (by omega) _ _ _, Blk.far3 b0 (by omega) _ _ _, Blk.set3 b1 7 8 9 (.int .i64 x) (.int .i64 x) (.int .i64 x) (of_step2 zs x Hx.out)⟩
        case measure => omega
    · have HE : Hid (zs.take k = zs) := by show _ = _; exact List.take_of_length_le (by have := hlen.out; omega)
      rw [HE.out] at b1
      obtain ⟨m, Hm⟩ : ∃ m, Hid (Ag.of zs = m) := ⟨_, rfl⟩
      rw [Hm.out] at b1
      clear HE
      have x0 := b0.cell 0
      have x1 := b0.cell 1
      have x2 := b0.cell 2
      have x3 := b0.cell 3
      have x4 := b0.cell 4
      have x5 := b0.cell 5
      have x6 := b0.cell 6
      have x7 := b0.cell 7
      have x8 := b0.cell 8
      have x9 := b0.cell 9
      have y0 := b0.frozen 0
      have y1 := b0.frozen 1
      have y2 := b0.frozen 2
      have y3 := b0.frozen 3
      have y4 := b0.frozen 4
      have y5 := b0.frozen 5
      have y6 := b0.frozen 6
      have y7 := b0.frozen 7
      have y8 := b0.frozen 8
      have y9 := b0.frozen 9
      have d0 := b1.cell 0
      have d1 := b1.cell 1
      have d2 := b1.cell 2
      have d3 := b1.cell 3
      have d4 := b1.cell 4
      have d5 := b1.cell 5
      have d6 := b1.cell 6
      have d7 := b1.cell 7
      have d8 := b1.cell 8
      have d9 := b1.cell 9
      simp only [Ag.zero, Prt.zero, Ag.cs] at x0 x1 x2 x3 x4 x5 x6 x7 x8 x9 d0 d1 d2 d3 d4 d5 d6 d7 d8 d9
      simp at x0 x1 x2 x3 x4 x5 x6 x7 x8 x9 d0 d1 d2 d3 d4 d5 d6 d7 d8 d9
      go_wp2
      refine bodyPost_ret (v := .tuple #[.agg m.cs, .int .i64 0]) (by simp [results, Try.results123, go_sem, Ag.cs, x0, x1, x2, x3, x4, x5, x6, x7, x8, x9]) rfl ?_
      rw [Hm.out]
      exact ⟨rfl, hB.agSet (g := w.heap.size) (by omega) m⟩

end Go.Proofs.Ytllgcehgdpgnnaa
