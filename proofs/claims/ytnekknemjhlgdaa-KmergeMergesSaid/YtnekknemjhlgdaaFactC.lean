/- Walks of fact.Compare, the document's Less, slices.Clone. -/
import Derived.Test.YtnekknemjhlgdaaFact
namespace Go.Proofs.Ytnekknemjhlgdaa
open Go.RowKit
set_option linter.unusedVariables false

@[local go_sem] theorem fct_get0 (f : Fct) : f.cs[0]? = some f.ks.v := rfl

set_option maxRecDepth 100000 in
set_option maxHeartbeats 1000000 in
theorem fcompare_any (f g : Fct) (w : World) (hf : f.ok w) (hg : g.ok w) :
    Calls Try.prog 109 #[.agg f.cs, .agg g.cs] w fun e w' => e = .returned (.int .i64 (cmpK f.ks.l g.ks.l)) ∧ Bel w w' := by
  have Hf := Lib.hid hf
  have Hg := Lib.hid hg
  clear hf hg
  go_enter Try.func109, Try.ntmps109
  go_wp2_with fail
  have hB : Bel w ((w.alloc (.cells f.cs 174)).alloc (.cells g.cs 174)) := ((Bel.refl w).alloc _).alloc _
  refine (compare_any _ _ _ (Hf.out.ks.mono hB) (Hg.out.ks.mono hB)).mono ?_; rintro e w1 ⟨rfl, rfl⟩
  go_wp2
  go_ret
  exact ⟨rfl, hB⟩

theorem less_of {x y : List Int} {r : Int} (h : cmpK x y = r) : lessK x y = (r == -1) := by unfold lessK; rw [h]

set_option maxRecDepth 100000 in
set_option maxHeartbeats 1000000 in
theorem less_any (f g : Fct) (w : World) (hf : f.ok w) (hg : g.ok w) :
    Calls Try.prog 106 #[.agg f.cs, .agg g.cs] w fun e w' => e = .returned (.bool (lessK f.ks.l g.ks.l)) ∧ Bel w w' := by
  have hxn := hf.ks.size
  have hyn := hg.ks.size
  have Hxl := Lib.hid hf.ks.len
  have Hyl := Lib.hid hg.ks.len
  have Hx := Lib.hid hf.ks
  have Hy := Lib.hid hg.ks
  clear hf hg
  have b1 : Blk ((w.alloc (.cells f.cs 174)).alloc (.cells g.cs 174)) w.heap.size 174 f.cs := (Blk.new w _ _).alloc _
  have b2 : Blk ((w.alloc (.cells f.cs 174)).alloc (.cells g.cs 174)) (w.heap.size + 1) 174 g.cs := by
    have := Blk.new (w.alloc (.cells f.cs 174)) 174 g.cs
    rw [World.size_alloc] at this
    exact this
  have hB0 : Bel w ((w.alloc (.cells f.cs 174)).alloc (.cells g.cs 174)) := ((Bel.refl w).alloc _).alloc _
  have C1 := b1.cell 0
  have C2 := b2.cell 0
  clear b1 b2
  obtain ⟨⟨xA, xn, xc, xl⟩, fa⟩ := f
  obtain ⟨⟨yA, yn, yc, yl⟩, ga⟩ := g
  simp only [fct_get0, Row.v] at *
  go_enter Try.func106, Try.ntmps106
  go_wp2
  generalize ((w.alloc (.cells (Fct.mk ⟨xA, xn, xc, xl⟩ fa).cs 174)).alloc (.cells (Fct.mk ⟨yA, yn, yc, yl⟩ ga).cs 174)) = W at *
  go_loopg [5] xn (fun g i wr => ∃ k m : Nat, g = xn - k ∧ k ≤ xn ∧ k ≤ yn ∧ i = .int .i64 k ∧ wr = W.drewN m ∧ Hid (cmpK xl yl = cmpK (xl.drop k) (yl.drop k)))
  case atStart => exact ⟨0, 0, rfl, by omega, by omega, rfl, rfl, rfl⟩
  case round =>
    obtain ⟨k, m, hgk, hk, hky, rfl, rfl, hF⟩ := hrel
    have Hgk := Lib.hid hgk
    clear hgk
    by_cases hlt : k < xn
    · obtain ⟨xb, xo, a, rfl, ha, hai, hca⟩ := (Hx.out.mono hB0).int hlt
      have Ha := Lib.hid ha
      clear ha
      have dx : decide ((k : Int) < (xn : Int)) = true := by simp; omega
      have dx' : decide (k < xn) = true := by simp; omega
      by_cases hlty : k < yn
      · obtain ⟨yb, yo, b, rfl, hb, hbi, hcb⟩ := (Hy.out.mono hB0).int hlty
        have Hb := Lib.hid hb
        clear hb
        have dy : decide ((k : Int) < (yn : Int)) = true := by simp; omega
        have dy' : decide (k < yn) = true := by simp; omega
        have HD := Lib.hid (cmpK_drop Ha.out Hb.out)
        by_cases h1 : a < b
        · have HR : Hid (lessK xl yl = true) := by show _ = _; rw [less_of (hF.out.trans (HD.out.trans (if_pos h1)))]; rfl
          have q : (a != b) = true := by rw [bne_iff_ne]; omega
          have q2 : decide (a < b) = true := by simp; omega
          clear hF HD
          go_wp2_with fail
          go_quiet (fail)
          go_wp2_with fail
          go_quiet (fail)
          go_wp2
          go_ret
          rw [HR.out]
          exact ⟨rfl, ((hB0.drewN _).drewN _).drewN _⟩
        · by_cases h2 : b < a
          · have HR : Hid (lessK xl yl = false) := by show _ = _; rw [less_of (hF.out.trans (HD.out.trans ((if_neg h1).trans (if_pos h2))))]; rfl
            have q : (a != b) = true := by rw [bne_iff_ne]; omega
            have q2 : decide (a < b) = false := by simp; omega
            clear hF HD
            go_wp2_with fail
            go_quiet (fail)
            go_wp2_with fail
            go_quiet (fail)
            go_wp2
            go_ret
            rw [HR.out]
            exact ⟨rfl, ((hB0.drewN _).drewN _).drewN _⟩
          · have HR : Hid (cmpK xl yl = cmpK (xl.drop (k + 1)) (yl.drop (k + 1))) := by show _ = _; rw [hF.out, HD.out, if_neg h1, if_neg h2]
            have q : (a != b) = false := by rw [bne_eq_false_iff_eq]; omega
            clear hF HD
            go_wp2_with fail
            go_quiet (fail)
            go_wp2
            go_roundg (xn - (k + 1))
            case rel => exact ⟨k + 1, _, rfl, by omega, by omega, by go_num, rfl, HR⟩
            case measure => rw [Hgk.out]; omega
      · have HR : Hid (lessK xl yl = false) := by show _ = _; rw [less_of (hF.out.trans (cmpK_short (by have := Hxl.out; omega) (by have := Hyl.out; omega)))]; rfl
        have dy : decide ((k : Int) < (yn : Int)) = false := by simp; omega
        have dy' : decide (k < yn) = false := by simp; omega
        have dz : decide (xn < yn) = false := by simp; omega
        clear hF
        go_wp2
        go_ret
        rw [HR.out]
        exact ⟨rfl, hB0.drewN _⟩
    · have dx : decide ((k : Int) < (xn : Int)) = false := by simp; omega
      have dx' : decide (k < xn) = false := by simp; omega
      by_cases hlty : k < yn
      · have HR : Hid (lessK xl yl = true) := by show _ = _; rw [less_of (hF.out.trans (cmpK_end (by have := Hxl.out; omega) (by have := Hyl.out; omega)))]; rfl
        have dz : decide (xn < yn) = true := by simp; omega
        clear hF
        go_wp2
        go_ret
        rw [HR.out]
        exact ⟨rfl, hB0.drewN _⟩
      · have HR : Hid (lessK xl yl = false) := by show _ = _; rw [less_of (hF.out.trans (cmpK_both (by have := Hxl.out; omega) (by have := Hyl.out; omega)))]; rfl
        have dz : decide (xn < yn) = false := by simp; omega
        clear hF
        go_wp2
        go_ret
        rw [HR.out]
        exact ⟨rfl, hB0.drewN _⟩

theorem own_cap {w : World} {base : Nat} {e : TypeId} {size n : Nat} {v : Value} {xs : List Value} (h : w.ownsRow base e size v n xs) : ∀ A c, v = .slice A n c → c ≤ maxLen := by
  intro A c hv
  rcases h.2 with ⟨rfl, _⟩ | ⟨g, cap, cur, rfl, _, _, _, hc, _⟩
  · injection hv with _ _ h3; rw [← h3]; exact Nat.zero_le _
  · injection hv with _ _ h3; rw [← h3]; exact hc

/-- A row of numbers in new memory. -/
structure NewInts (w w' : World) (zs : List Int) (x : Row Int) : Prop where
  l : x.l = zs
  ok : x.ok w'
  new : 0 < x.n → ∀ ad, x.A = some ad → w.heap.size ≤ ad.block
def NewIntsV (w w' : World) (zs : List Int) (e : Ending) : Prop := ∃ x : Row Int, e = .returned x.v ∧ NewInts w w' zs x

set_option maxRecDepth 100000 in
set_option maxHeartbeats 1000000 in
theorem cloneInts_any (x : Row Int) (w : World) (hx : x.ok w) :
    Calls Try.prog 121 #[x.v] w fun e w' => NewIntsV w w' x.l e ∧ Bel w w' := by
  obtain ⟨A, n, c, l⟩ := x
  have Hx := Lib.hid hx
  have hr : Rd w 1 A n (l.map (Value.int .i64)) := hx.ints
  have hlen : Hid (l.length = n) := hx.len
  have hc : Hid (n ≤ c ∧ c ≤ maxLen) := ⟨hx.le, hx.cap⟩
  have hn : n * 8 ≤ 140737488351232 := hx.reach
  clear hx
  simp only [Row.v] at *
  cases A with
  | none =>
    obtain rfl : n = 0 := by
      rcases Nat.eq_zero_or_pos n with h | h
      · exact h
      · obtain ⟨ad, e, _⟩ := hr.2 h; cases e
    have hl : l = [] := List.eq_nil_of_length_eq_zero hlen.out
    subst hl
    have he := fun (c : Nat) (w : World) => Lib.run_eql_slice_nil (P := Try.prog) w 58 3 none 0 c 0 0 Try.underlying58
    go_enter Try.func121, Try.ntmps121
    go_wp2
    go_ret
    exact ⟨⟨⟨none, 0, 0, []⟩, rfl, ⟨rfl, ⟨Rd.nil, by simp, Nat.le_refl _, Nat.zero_le _, Nat.zero_le _⟩, fun h => absurd h (by simp)⟩⟩, Bel.refl _⟩
  | some ad =>
    have he := fun (n c : Nat) (w : World) => Lib.run_eql_slice_nil (P := Try.prog) w 58 3 (some ad) n c 0 0 Try.underlying58
    have hbs : ∀ w : World, (Instr.buildSlice 58 0 #[]).run Try.prog w = .ok (.slice (some ⟨w.heap.size, 0, none⟩) 0 0) (w.alloc (.cells #[] 3)) := fun _ => by kernel_rfl
    have hown : (w.alloc (.cells #[] 3)).ownsRow w.heap.size 3 1 (.slice (some ⟨w.heap.size, 0, none⟩) 0 0) 0 [] := ⟨rfl, .inr ⟨w.heap.size, 0, #[], rfl, Nat.le_refl _, heap_alloc_new w _, Nat.le_refl _, Nat.zero_le _, rfl, rfl⟩⟩
    go_enter Try.func121, Try.ntmps121
    go_wp2_with ((with_reducible show wpList _ _ _ (⟨some 7, _, _, _, _, _⟩ :: _) _ _); refine wpList_append1 rfl (.tmp 5) (.tmp 6) _ rfl E_int w ((Bel.refl w).alloc _) _ 0 [] rfl hown (some ad) n c (l.map (Value.int .i64)) rfl (hr.bel ((Bel.refl w).alloc _)) (by simp [Value.oneCell']) (by unfold maxLen; omega) (by omega) ?_; intro v2 w2 hown2 hB2 hg2 hat2)
    go_ret
    simp only [Nat.zero_add, List.nil_append] at hown2
    refine ⟨?_, hB2⟩
    have hcap := own_cap hown2
    obtain ⟨A2, c2, rfl, hc2⟩ := own_slice hown2
    refine ⟨⟨A2, n, c2, l⟩, rfl, ⟨rfl, ⟨?_, Hx.out.all, hc2, hcap _ _ rfl, Hx.out.reach⟩, fun _ a ha => ?_⟩⟩
    · rw [flat_ints]; exact Rd.of_own hown2
    · subst ha
      exact own_ge hown2 rfl

end Go.Proofs.Ytnekknemjhlgdaa
