/- plan.pass. -/
import Derived.Test.YtelnhhbefdfeoaaPlanG
import Derived.Test.YtelnhhbefdfeoaaPlanA
namespace Go.Proofs.Ytelnhhbefdfeoaa
open Go.RowKit
set_option linter.unusedVariables false
set_option linter.unusedSimpArgs false


/-- A function that tells which members are let through; what it has caught is new memory. -/
abbrev rPass (w0 : World) (F : FuncId) (caps : Array Value) (D : Nat → Prop) (n : Nat) (f : Nat → Bool) : Res := ⟨D, fun w' => Bel w0 w' → ∀ k : Nat, k < n → Calls Try.prog F (#[.int .i64 k] ++ caps) w' fun e w'' => e = .returned (.bool (f k)) ∧ Bel w' w''⟩
def PassPost (w0 : World) (n : Nat) (f : Nat → Bool) (w : World) (e : Ending) (w' : World) : Prop :=
  ∃ F caps D, e = .returned (.func (.func F) #[] caps) ∧ (∀ args w, (callFunc F args).run Try.prog w = .ok (.enter F args) w) ∧ Bel w w' ∧ NewR w w' (rPass w0 F caps D n f)
set_option maxRecDepth 100000 in
theorem cf90 : ∀ args w, (callFunc 90 args).run Try.prog w = .ok (.enter 90 args) w := fun _ _ => by kernel_rfl
set_option maxRecDepth 100000 in
theorem cf92 : ∀ args w, (callFunc 92 args).run Try.prog w = .ok (.enter 92 args) w := fun _ _ => by kernel_rfl
set_option maxRecDepth 100000 in
theorem cf93 : ∀ args w, (callFunc 93 args).run Try.prog w = .ok (.enter 93 args) w := fun _ _ => by kernel_rfl
set_option maxRecDepth 100000 in
set_option maxHeartbeats 2000000 in
theorem pass_any (w0 w : World) (hb0 : Bel w0 w) (D : Dm) (p : Pk) (hD : D.rd w0) (hp : p.rd w0) (M : Nat) (T : Tir) (hT : D.tr.l[M]? = some T) (hr : RiseT T.ts.l) (hn : T.ts.n ≤ 1000000) (hM : p.f ≠ 0 → p.t = M) (hf : p.f = 0 ∨ p.f = 1 ∨ p.f = 2) :
    Calls Try.prog 70 #[.agg D.cs, .agg p.cs] w (PassPost w0 T.ts.n (fun k => letsT p.con ((T.ts.l[k]?).getD [])) w) := by
  have hmf : ∀ (fn : Fn) (first cap : Array Value) (w : World), (Instr.makeFunc fn first cap).run Try.prog w = .ok (.func fn first cap) w := fun _ _ _ _ => rfl
  have hTl : T.ts.l.length = T.ts.n := (hD.tr.all T (List.mem_of_getElem? hT)).ts.len
  have H := Lib.hid (((SL.start No w).alloc D.cs 66).alloc p.cs 59)
  (try simp only [List.set_cons_zero, List.set_cons_succ, List.cons_append, List.nil_append, List.eraseIdx_cons_zero, List.eraseIdx_cons_succ, List.setIfInBounds_toArray, World.size_alloc, selR, List.getD_cons_zero, List.getD_cons_succ] at H)
  by_cases f0 : p.f = 0
  · have c0 := (H.out.blk 1 rfl).cell 0
    change _ = some (Value.int .i64 p.f) at c0
    have e0 : (p.f == 0) = true := by simpa using f0
    have hl : ∀ u, letsT p.con u = true := fun u => by unfold letsT; rw [if_pos (show p.con.f = 0 from f0)]
    have HQ : Hid (PassPost w0 T.ts.n (fun k => letsT p.con ((T.ts.l[k]?).getD [])) w (.returned (.func (.func 90) #[] #[])) ((w.alloc (.cells D.cs 66)).alloc (.cells p.cs 59))) :=
      ⟨90, #[], fun _ => False, rfl, cf90, H.out.to, ⟨fun g h => h.elim, fun w' _ _ _ k _ => by simp only [hl]; exact pass1_any k w'⟩, fun g h => h.elim⟩
    clear hD hp hT hr hM hf f0 hTl hl
    obtain ⟨pf, pt, lo, hi, ⟨A, n, c, set⟩, gg, pb⟩ := p
    obtain ⟨nm, ⟨A2, n2, cp2, trs⟩⟩ := D
    simp only [Pk.cs, Dm.cs] at *
    go_enter Try.func70, Try.ntmps70
    go_wp2
    go_ret
    exact HQ.out
  · have hM0 := hM f0
    have hMn : M < D.tr.n := by have := (List.getElem?_eq_some_iff.1 hT).1; rw [hD.tr.len] at this; exact this
    obtain ⟨bt, ot, T', hA, hbt, hT', hTr, hrg⟩ := (hD.tr.mono hb0).tirAt (k := M) hMn
    obtain rfl : T = T' := by rw [hT] at hT'; injection hT'
    have HP := Lib.hid (fun w' (hb : Bel w0 w') => hp.mono hb)
    have HBT := Lib.hid (fun w' (hb : Bel w w') => between_any T.ts p.lo p.hi w' (hTr.ts.mono hb) hr hn)
    have HY := Lib.hid (fun w' (hb : Bel w0 w') => (hD.tr.all T (List.mem_of_getElem? hT)).ts.mono hb)
    have hrc := ((((Bel.refl w).alloc (.cells D.cs 66)).alloc (.cells p.cs 59)).cell (p := ⟨bt, ot + M * 3 + 1, none⟩) hbt).trans (hrg 1 (.slice T.ts.A T.ts.n T.ts.c) rfl)
    have HTl := Lib.hid hTl
    have i0 : (0 : Int) ≤ M := by omega
    have i1 : (M : Int) < D.tr.n := by omega
    have e0 : (p.f == 0) = false := by simpa using f0
    have hl1 : p.f = 1 → ∀ u, letsT p.con u = within p.lo p.hi u := fun hf u => by unfold letsT; rw [if_neg (show ¬ p.con.f = 0 from f0), if_pos (show p.con.f = 1 from hf)]
    have hl2 : p.f = 2 → ∀ u, letsT p.con u = (posOf u p.set.l).isSome := fun hf u => by unfold letsT; rw [if_neg (show ¬ p.con.f = 0 from f0), if_neg (show ¬ p.con.f = 1 by rw [show p.con.f = p.f from rfl, hf]; decide)]
    have f12 : p.f = 1 ∨ p.f = 2 := hf.resolve_left f0
    clear hp hD hT hr hn hM hf f0 hTl hTr hrg hT' hb0 hMn
    obtain ⟨tnm, ⟨TA, tn, tc, ts⟩, tup⟩ := T
    obtain ⟨pf, pt, lo, hi, ⟨A, n, c, set⟩, gg, pb⟩ := p
    obtain ⟨nm, ⟨A2, n2, cp2, trs⟩⟩ := D
    simp only [Pk.cs, Dm.cs] at *
    subst hA hM0
    go_enter Try.func70, Try.ntmps70
    go_upto_region 1 with fail
    generalize w.heap.size + 1 = y at *
    generalize w.heap.size = x at *
    generalize World.alloc (World.alloc _ _) _ = w1 at *
    have c0 := (H.out.blk 1 rfl).cell 0
    have c1 := (H.out.blk 1 rfl).cell 1
    have c2 := (H.out.blk 1 rfl).cell 2
    have c3 := (H.out.blk 1 rfl).cell 3
    have c9 := (H.out.blk 0 rfl).cell 1
    simp only [List.getElem?_toArray, List.getElem?_cons_zero, List.getElem?_cons_succ] at c0 c1 c2 c3 c9
    go_upto_region 4 with fail
    clear c0 c1 c2 c3 c9 hrc
    replace H := Lib.hid (H.out.alloc #[.slice TA tn tc] 23); (try simp only [List.set_cons_zero, List.set_cons_succ, List.cons_append, List.nil_append, List.eraseIdx_cons_zero, List.eraseIdx_cons_succ, List.setIfInBounds_toArray, World.size_alloc, selR, List.getD_cons_zero, List.getD_cons_succ] at H)
    generalize w1.heap.size = z at *
    generalize World.alloc w1 _ = w2 at *
    have c0 := (H.out.blk 1 rfl).cell 0
    have c2 := (H.out.blk 1 rfl).cell 2
    have c3 := (H.out.blk 1 rfl).cell 3
    have c4 := (H.out.blk 2 rfl).cell 0
    simp only [List.getElem?_toArray, List.getElem?_cons_zero, List.getElem?_cons_succ] at c0 c2 c3 c4
    rcases f12 with rfl | rfl
    · have HL := Lib.hid (hl1 rfl)
      clear hl1 hl2
      go_wp2_with fail
      refine (HBT.out _ H.out.to).mono ?_; rintro e w3 ⟨ka, kb, rfl, rfl, hka, hkb, hkk⟩
      have HKK := Lib.hid hkk
      clear hkk HBT c0 c2 c3 c4
      go_upto_region 6 with fail
      replace H := Lib.hid ((H.out.alloc #[.int .i64 ka] 3).alloc #[.int .i64 kb] 3); (try simp only [List.set_cons_zero, List.set_cons_succ, List.cons_append, List.nil_append, List.eraseIdx_cons_zero, List.eraseIdx_cons_succ, List.setIfInBounds_toArray, World.size_alloc, selR, List.getD_cons_zero, List.getD_cons_succ] at H)
      have HQ : Hid (PassPost w0 tn (fun k => letsT (Pk.mk 1 M lo hi ⟨A, n, c, set⟩ gg pb).con ((ts[k]?).getD [])) w (.returned (.func (.func 92) #[] #[.pointer (some ⟨w2.heap.size, 0, none⟩), .pointer (some ⟨w2.heap.size + 1, 0, none⟩)])) ((w2.alloc (.cells #[.int .i64 ka] 3)).alloc (.cells #[.int .i64 kb] 3))) := by
        refine ⟨92, #[.pointer (some ⟨w2.heap.size, 0, none⟩), .pointer (some ⟨w2.heap.size + 1, 0, none⟩)], fun g => g = w2.heap.size ∨ g = w2.heap.size + 1, rfl, cf92, H.out.to, ⟨?_, fun w' hs hk hb k hkn => ?_⟩, ?_⟩
        · rintro g (rfl | rfl)
          · exact (H.out.get 3 rfl).1 _ rfl
          · exact (H.out.get 4 rfl).1 _ rfl
        · have hkn2 : k < ts.length := by rw [HTl.out]; exact hkn
          have hw := HKK.out k _ (List.getElem?_eq_getElem hkn2)
          simp only [List.getElem?_eq_getElem hkn2, Option.getD_some, HL.out, hw]
          refine (pass2_any k ka kb w2.heap.size (w2.heap.size + 1) w' ((H.out.get 3 rfl).2 w' hs (fun g hg => hk g (.inl hg))) ((H.out.get 4 rfl).2 w' hs (fun g hg => hk g (.inr hg)))).mono ?_
          rintro e w9 ⟨rfl, hb9⟩
          refine ⟨?_, hb9⟩
          congr 2
          by_cases q1 : ka ≤ k <;> by_cases q2 : k < kb <;> simp [q1, q2]
        · rintro g (rfl | rfl)
          · exact H.out.new 3 rfl _ rfl
          · exact H.out.new 4 rfl _ rfl
      go_wp2_with fail
      go_ret
      exact HQ.out
    · have HL := Lib.hid (hl2 rfl)
      clear hl1 hl2
      have HQ : Hid (PassPost w0 tn (fun k => letsT (Pk.mk 2 M lo hi ⟨A, n, c, set⟩ gg pb).con ((ts[k]?).getD [])) w (.returned (.func (.func 93) #[] #[.pointer (some ⟨y, 0, none⟩), .pointer (some ⟨z, 0, none⟩)])) w2) := by
        refine ⟨93, #[.pointer (some ⟨y, 0, none⟩), .pointer (some ⟨z, 0, none⟩)], fun g => g = y ∨ g = z, rfl, cf93, H.out.to, ⟨?_, fun w' hs hk hb k hkn => ?_⟩, ?_⟩
        · rintro g (rfl | rfl)
          · exact (H.out.get 1 rfl).1 _ rfl
          · exact (H.out.get 2 rfl).1 _ rfl
        · have hkn2 : k < ts.length := by rw [HTl.out]; exact hkn
          simp only [List.getElem?_eq_getElem hkn2, Option.getD_some, HL.out]
          exact pass3_any ⟨2, M, lo, hi, ⟨A, n, c, set⟩, gg, pb⟩ ⟨TA, tn, tc, ts⟩ k ts[k] y z w' ((H.out.get 1 rfl).2 w' hs (fun g hg => hk g (.inl hg))) ((H.out.get 2 rfl).2 w' hs (fun g hg => hk g (.inr hg))) (HP.out w' hb) (HY.out w' hb) hkn (List.getElem?_eq_getElem hkn2)
        · rintro g (rfl | rfl)
          · exact H.out.new 1 rfl _ rfl
          · exact H.out.new 2 rfl _ rfl
      go_wp2_with fail
      go_ret
      exact HQ.out

end Go.Proofs.Ytelnhhbefdfeoaa
