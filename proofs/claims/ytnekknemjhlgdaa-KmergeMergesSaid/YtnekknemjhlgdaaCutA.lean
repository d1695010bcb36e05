/- run.Cut at every input. -/
import Derived.Test.YtnekknemjhlgdaaCut
namespace Go.Proofs.Ytnekknemjhlgdaa
open Go.RowKit Go.Shelf
set_option linter.unusedVariables false
attribute [local go_sem] Oper.semAt_some

theorem chunk_nil_stops (n Bs Bn : Nat) (A : Option Addr) (c : Nat) (w0 w : World) (hs : Bs < w.heap.size) (hBs : w.cell? ⟨Bs, 0, none⟩ = some (.slice A 0 c)) :
    SeqStopsK Fence.wide n Try.prog 232 #[.pointer (some ⟨Bs, 0, none⟩), .pointer (some ⟨Bn, 0, none⟩)] (fun x : PieceOf w0 => #[x.1.v]) (KeepC Bs Bn)
      (fun xs => xs = []) (fun _ => True) 0 w := fun lp J Jx W hW hJ _ hY h0 => by
  refine (chunk1_nil_in n lp Bs Bn J A c W ((hW.cell (p := ⟨Bs, 0, none⟩) hs).trans hBs) h0).mono ?_
  rintro e W' ⟨he, hj⟩
  exact ⟨he, .inl ⟨_, rfl, hj⟩⟩

set_option maxRecDepth 100000 in
set_option maxHeartbeats 1000000 in
theorem cut_nil_in (n : Nat) (hn : 3 ≤ n) (A : Option Addr) (c m : Nat) (w : World) (hm1 : 1 ≤ m) :
    CallsIn Fence.wide n Try.prog 175 #[.int .i64 m, .slice A 0 c] w fun e w' => CutPost [] w e w' := by
  have h1 : 1 ≤ n := by omega
  have d : decide ((m : Int) < 1) = false := by simp; omega
  refine callsIn_of_wp_marks Try.func175 rfl trivial ?_ rfl
  simp only [Try.ntmps175, List.size_toArray, List.length_cons, List.length_nil, Nat.reduceAdd, Nat.reduceSub, Array.replicate_succ, Array.replicate_zero, List.push_toArray, List.append_toArray, List.nil_append, List.cons_append]
  gi_wp2_with fail
  refine ⟨trivial, ?_⟩
  refine (chunk_in (n - 1) _ _ _ m hm1 _).mono ?_; rintro e w' ⟨rfl, rfl⟩
  gi_wp2
  have bO := ((Boxed.new w 94 (.slice none 0 0)).alloc (.cells #[.slice A 0 c] 75)).alloc (.cells #[.int .i64 m] 3)
  have bS := (Boxed.new (w.alloc (.cells #[.slice none 0 0] 94)) 75 (.slice A 0 c)).alloc (.cells #[.int .i64 m] 3)
  have bN := Boxed.new ((w.alloc (.cells #[.slice none 0 0] 94)).alloc (.cells #[.slice A 0 c] 75)) 3 (.int .i64 m)
  rw [World.size_alloc, World.size_alloc] at bN
  rw [World.size_alloc] at bS
  have hB0 : Bel w (((w.alloc (.cells #[.slice none 0 0] 94)).alloc (.cells #[.slice A 0 c] 75)).alloc (.cells #[.int .i64 m] 3)) := (((Bel.refl w).alloc _).alloc _).alloc _
  have hsz : (((w.alloc (.cells #[.slice none 0 0] 94)).alloc (.cells #[.slice A 0 c] 75)).alloc (.cells #[.int .i64 m] 3)).heap.size = w.heap.size + 3 := by simp
  generalize ((w.alloc (.cells #[.slice none 0 0] 94)).alloc (.cells #[.slice A 0 c] 75)).alloc (.cells #[.int .i64 m] 3) = W0 at *
  have HsO := Lib.hid bO
  obtain ⟨i0, hi0, hz0, hz1, hz2⟩ := info_parts info_fcts
  have Hi0 := Lib.hid hi0
  have Hz0 := Lib.hid hz0
  have Hz1 := Lib.hid hz1
  have Hz2 := Lib.hid hz2
  clear hi0 hz0 hz1 hz2
  have P0 : Parts W0 W0 w.heap.size (.slice none 0 0) [] := ⟨bO, ⟨rfl, .inl ⟨rfl, rfl⟩⟩, by simp, by simp, by simp⟩
  have hne1 : w.heap.size + 1 < W0.heap.size := by omega
  have hne2 : w.heap.size + 1 + 1 < W0.heap.size := by omega
  have Hsz := Lib.hid hsz
  clear hsz bO
  refine wpIn_rangeFunc_ownG rfl h1 (gf := 232) (lb := #[.pointer (some ⟨w.heap.size + 1, 0, none⟩), .pointer (some ⟨w.heap.size + 1 + 1, 0, none⟩)]) rfl trivial (enters_of Try.func232 (by kernel_rfl) rfl)
    (chunk_nil_stops (n - 1) (w.heap.size + 1) (w.heap.size + 1 + 1) A c w W0 hne1 bS.cell) KeepC.trans (fun W l o o' hl _ _ _ => keepC_putObj (by omega) (by omega)) (Below.refl _ _) (fun _ => rfl)
    (fun pre W => (∃ v rs, Parts W0 W w.heap.size v rs ∧ Hid (rs.map (fun r => cons r.l) = pre.map (fun x => cons x.1.l)) ∧ Hid (∀ r ∈ rs, r.n ≤ 1000)) ∧ Below w.heap.size w W ∧ W0.heap.size ≤ W.heap.size)
    (fun _ _ _ => False)
    (fun s A B row hs hg hr => by
      obtain ⟨⟨v, rs, h1, h2, h3⟩, h4, h5⟩ := hs
      exact ⟨⟨v, rs, h1.kept hg (fun r e => (hr r e).2), h2, h3⟩, h4.grown hg h4.size (fun k e => Nat.le_trans (by omega) (hr k e).1), Nat.le_trans h5 hg.size⟩)
    (fun _ _ _ _ _ hs _ _ => hs)
    ⟨⟨_, [], P0, rfl, fun r h => by simp at h⟩, hB0, Nat.le_refl _⟩
    (fun x => { tmps := #[.int .i64 m, .slice A 0 c, undef, undef, .slice none 0 0, .int .i64 0, .pointer (some ⟨w.heap.size, 0, none⟩), x.1.v, .int .i64 m, .bool false, .slice A 0 c, .int .i64 m, .func (.func 232) #[] #[.pointer (some ⟨w.heap.size + 1, 0, none⟩), .pointer (some ⟨w.heap.size + 1 + 1, 0, none⟩)], x.1.v, undef, undef, undef, undef, undef, undef], defers := [] }) ?assign ?body ?done ?stop
  case assign =>
    intro l x W K hK
    gi_wp2
    exact hK
  case body =>
    rintro lp pre x W _ hlt
    exact absurd hlt (Nat.not_lt_zero _)
  case done =>
    rintro D ys W hD rfl ⟨⟨v, rs, hP, hcon, hrn⟩, hB, hW0⟩ hK
    have hc := hP.box.cell
    gi_wp2
    refine ⟨by simp, .inl ⟨_, _, rfl, run_takeDeferred hK, ?_⟩⟩
    refine ⟨.tuple #[v, .int .i64 0], ?_, v, rs, rfl, ?_, ?_, ?_, ?_⟩
    · kernel_rfl
    · have hq := ownsRow_putObj hP.own (.deferred none) hK rfl
      refine ⟨hq.1, ?_⟩
      rcases hq.2 with h0 | ⟨g, cap, cur, q1, q2, q3⟩
      · exact .inl h0
      · exact .inr ⟨g, cap, cur, q1, Nat.le_trans hB0.size q2, q3⟩
    · have hP' := hP.kept (grownBy_putObj' W D (.deferred none)) (fun r e => by injection e with e; subst e; exact ⟨_, hK, rfl⟩)
      exact fun r hr => ⟨hP'.ok r hr, hrn.out r hr, hP'.offV r hr⟩
    · rw [hcon.out]; rfl
    · exact Below.trans hB (belowK_b (w := w) (Nat.le_refl _) W D _ _ (show w.heap.size ≤ D by omega) hK rfl rfl)
  case stop =>
    rintro D c pre W _ _ h _
    exact h.elim

/-- .. of a size below 1: none. -/
theorem cut_not (m : Int) (hm : m < 1) (v : Value) (w : World) : Calls Try.prog 175 #[.int .i64 m, v] w fun e w' => e = .returned (.tuple #[.slice none 0 0, .int .i64 2]) ∧ Bel w w' := by
  have d : decide (m < 1) = true := by simp; omega
  go_enter Try.func175, Try.ntmps175
  go_wp2
  refine bodyPost_ret (v := .tuple #[.slice none 0 0, .int .i64 2]) (by kernel_rfl) rfl ⟨rfl, ?_⟩
  exact Bel.refl w

theorem cut_any (m : Nat) (hm1 : 1 ≤ m) (hm2 : m ≤ 9223372036854775807) (x : Row Fct) (w : World) (hx : x.ok w) (hn : x.n ≤ 1000) :
    Calls Try.prog 175 #[.int .i64 m, x.v] w fun e w' => ∃ k, x.l.length ≤ k * m ∧ (k = 0 ∨ (k - 1) * m < x.l.length) ∧ CutPost (upto (fun j => cons ((x.l.drop (j * m)).take m)) k) w e w' := by
  obtain ⟨A, n, c, l⟩ := x
  rcases Nat.eq_zero_or_pos n with rfl | hpos
  · have hl : l.length = 0 := hx.len
    refine (callsIn_wide.1 (cut_nil_in 3 (Nat.le_refl _) A c m w hm1)).mono ?_
    intro e w' h
    exact ⟨0, by simp only; omega, .inl rfl, h⟩
  · obtain ⟨b, o, f, hA, _⟩ := hx.fct hpos
    simp only at hA
    subst hA
    exact callsIn_wide.1 (cut_in 3 (Nat.le_refl _) b o n c m l w hx hn hm1 hm2)

end Go.Proofs.Ytnekknemjhlgdaa
