/- Texts laid together: XAreA XAreB XAreC XNodE XFocus XAreD XNodF XNodG XAreJ XAreP XAreE XAreF XAreG XAreH XAreI XAreL XLokA XLokB XAreO XLokC. -/
import Derived.Test.YtlclllkjnhgbjaaBt
import Derived.Test.YtlclllkjnhgbjaaBs
import Derived.Test.YtlclllkjnhgbjaaAskR
import Derived.Test.YtlclllkjnhgbjaaBb
import Derived.Test.YtlclllkjnhgbjaaSep
import Derived.Lib.AppendZeros
import Derived.Test.YtlclllkjnhgbjaaBl

namespace Go.Proofs.Ytlclllkjnhgbjaa
open Go.RowKit
set_option linter.unusedVariables false
set_option linter.unusedSimpArgs false


/-- May the tier's size stand there? -/
def tierAt (l : List Int) (k : Nat) : Bool := decide (1 ≤ (l[k]?).getD 0) && decide ((l[k]?).getD 0 ≤ 200) && (decide (k = 0) || decide ((l[k]?).getD 0 ≤ (l[k - 1]?).getD 0))
theorem tier_len {l : List Int} (h : l.length < 1 ∨ 4 < l.length) : tierShape l = false := by
  cases hb : tierShape l with
  | false => rfl
  | true => exfalso; simp only [tierShape, Bool.and_eq_true, decide_eq_true_eq] at hb; omega
theorem tier_at {l : List Int} {k : Nat} (hk : k < l.length) (h : tierAt l k = false) : tierShape l = false := by
  cases hb : tierShape l with
  | false => rfl
  | true =>
    exfalso
    simp only [tierShape, Bool.and_eq_true] at hb
    have h2 : tierAt l k = true := List.all_eq_true.1 hb.2 k (List.mem_range.2 hk)
    rw [h] at h2
    cases h2
theorem tier_yes {l : List Int} (h1 : 1 ≤ l.length) (h2 : l.length ≤ 4) (h : ∀ k, k < l.length → tierAt l k = true) : tierShape l = true := by
  simp only [tierShape, Bool.and_eq_true, decide_eq_true_eq]
  exact ⟨⟨h1, h2⟩, List.all_eq_true.2 fun k hk => h k (List.mem_range.1 hk)⟩
theorem shape_no {xs : List (List Int)} {ms : Int} (h : xs.length < 1 ∨ 16 < xs.length ∨ ms < 1 ∨ 3 < ms) : shapeOk xs ms = false := by
  cases hb : shapeOk xs ms with
  | false => rfl
  | true => exfalso; simp only [shapeOk, Bool.and_eq_true, decide_eq_true_eq] at hb; omega
theorem shape_at {xs : List (List Int)} {ms : Int} {l : List Int} (hl : l ∈ xs) (h : tierShape l = false) : shapeOk xs ms = false := by
  cases hb : shapeOk xs ms with
  | false => rfl
  | true =>
    exfalso
    simp only [shapeOk, Bool.and_eq_true] at hb
    have := List.all_eq_true.1 hb.2 l hl
    rw [h] at this
    cases this
theorem shape_yes {xs : List (List Int)} {ms : Int} (h1 : 1 ≤ xs.length) (h2 : xs.length ≤ 16) (h3 : 1 ≤ ms) (h4 : ms ≤ 3) (h : ∀ l ∈ xs, tierShape l = true) : shapeOk xs ms = true := by
  simp only [shapeOk, Bool.and_eq_true, decide_eq_true_eq]
  exact ⟨⟨⟨⟨h1, h2⟩, h3⟩, h4⟩, List.all_eq_true.2 h⟩
theorem tierAt_some {l : List Int} {k : Nat} {v : Int} (h : l[k]? = some v) : tierAt l k = (decide (1 ≤ v) && decide (v ≤ 200) && (decide (k = 0) || decide (v ≤ (l[k - 1]?).getD 0))) := by unfold tierAt; rw [h]; rfl

set_option maxRecDepth 100000 in
set_option maxHeartbeats 4000000 in
theorem amay_any (s : Shp) (w : World) (hs : s.rd w) :
    Calls Try.prog 86 #[.agg s.cs] w fun e w' => e = .returned (.bool (shapeOk s.con s.ms)) ∧ Bel w w' := by
  have HSZ := Lib.hid (fun w' (hb : Bel w w') => hs.sz.mono hb)
  have hl1 : Hid (s.sz.l.length = s.sz.n) := hs.sz.len
  have n63 := hs.sz.n63
  have m64 := hs.ms
  unfold I64 at m64
  have H := Lib.hid ((SL.start No w).alloc s.cs 24)
  (try simp only [List.set_cons_zero, List.set_cons_succ, List.cons_append, List.nil_append, List.eraseIdx_cons_zero, List.eraseIdx_cons_succ, List.setIfInBounds_toArray, World.size_alloc, selR, List.getD_cons_zero, List.getD_cons_succ] at H)
  obtain ⟨⟨A, n, c, X⟩, ms⟩ := s
  simp only [Shp.cs, Shp.con] at *
  clear hs
  obtain ⟨E, hE⟩ : ∃ E, E = shapeOk (X.map Row.l) ms := ⟨_, rfl⟩
  rw [← hE]
  have HE := Lib.hid hE
  clear hE
  by_cases h1 : n < 1
  · have HV : Hid (E = false) := by show _ = _; rw [HE.out]; exact shape_no (by rw [List.length_map, hl1.out]; omega)
    have d1 : decide ((n : Int) < 1) = true := by simp <;> omega
    have d1n : decide (n < 1) = true := by simp <;> omega
    clear HE h1
    go_enter Try.func86, Try.ntmps86
    go_wp2_with fail
    go_ret
    (try rw [HV.out])
    exact ⟨rfl, H.out.to⟩
  have d1 : decide ((n : Int) < 1) = false := by simp <;> omega
  have d1n : decide (n < 1) = false := by simp <;> omega
  by_cases h2 : 16 < n
  · have HV : Hid (E = false) := by show _ = _; rw [HE.out]; exact shape_no (by rw [List.length_map, hl1.out]; omega)
    have d2 : decide ((16 : Int) < (n : Int)) = true := by simp <;> omega
    have d2n : decide (16 < n) = true := by simp <;> omega
    clear HE h2
    go_enter Try.func86, Try.ntmps86
    go_wp2_with fail
    go_ret
    (try rw [HV.out])
    exact ⟨rfl, H.out.to⟩
  have d2 : decide ((16 : Int) < (n : Int)) = false := by simp <;> omega
  have d2n : decide (16 < n) = false := by simp <;> omega
  by_cases h3 : ms < 1
  · have HV : Hid (E = false) := by show _ = _; rw [HE.out]; exact shape_no (by rw [List.length_map, hl1.out]; omega)
    have d3 : decide (ms < 1) = true := by simp <;> omega
    clear HE h3
    go_enter Try.func86, Try.ntmps86
    go_wp2_with fail
    go_ret
    (try rw [HV.out])
    exact ⟨rfl, H.out.to⟩
  have d3 : decide (ms < 1) = false := by simp <;> omega
  by_cases h4 : 3 < ms
  · have HV : Hid (E = false) := by show _ = _; rw [HE.out]; exact shape_no (by rw [List.length_map, hl1.out]; omega)
    have d4 : decide (3 < ms) = true := by simp <;> omega
    clear HE h4
    go_enter Try.func86, Try.ntmps86
    go_wp2_with fail
    go_ret
    (try rw [HV.out])
    exact ⟨rfl, H.out.to⟩
  have d4 : decide (3 < ms) = false := by simp <;> omega
  go_enter Try.func86, Try.ntmps86
  go_upto_region 4 with fail
  generalize w.heap.size = x at *
  generalize World.alloc _ _ = w1 at *
  clear d1 d1n d2 d2n d3 d4
  have HA : Hid (∀ i y, i < 0 → X[i]? = some y → tierShape y.l = true) := fun i t hi => absurd hi (by omega)
  go_loopg [30] n (fun gg s30 wr => ∃ (k : Nat), gg = n - k ∧ k ≤ n ∧ s30 = .int .i64 k ∧ Hid (∀ i y, i < k → X[i]? = some y → tierShape y.l = true) ∧ Hid (SL No w wr [rBlk x 24 #[.slice A n c, .int .i64 ms]]))
  case atStart => exact ⟨0, rfl, by omega, rfl, HA, H⟩
  case round =>
    clear H HA
    obtain ⟨k, hgk, hk, rfl, HA, H⟩ := hrel
    have Hgk := Lib.hid hgk
    clear hgk
    by_cases hlt : k < n
    · obtain ⟨bb, oo, y, hA, hyk, hyr, q1⟩ := (HSZ.out _ H.out.to).slAt (k := k) hlt
      simp only at hA
      subst hA
      have HYL : Hid (y.l.length = y.n) := hyr.len
      have HYR := Lib.hid (fun w' (hb : Bel wr w') => hyr.rds.mono hb)
      have HBAD : Hid (tierShape y.l = false → E = false) := fun h => by rw [HE.out]; exact shape_at (List.mem_map.2 ⟨y, List.mem_of_getElem? hyk, rfl⟩) h
      have HNX : Hid (tierShape y.l = true → ∀ i y, i < k + 1 → X[i]? = some y → tierShape y.l = true) := by
        intro h i d' hi hid
        rcases (show i < k ∨ i = k by omega) with h' | h'
        · exact HA.out i d' h' hid
        · subst h'
          rw [hyk] at hid
          injection hid with hid
          subst hid
          exact h
      have y63 := hyr.rds.n63
      have i0 : (0 : Int) ≤ k := by omega
      have i1 : (k : Int) < n := by omega
      clear hyk hyr HA
      by_cases g1 : y.n < 1
      · have HV : Hid (E = false) := HBAD.out (tier_len (by rw [HYL.out]; omega))
        have d1 : decide ((y.n : Int) < 1) = true := by simp <;> omega
        have d1n : decide (y.n < 1) = true := by simp <;> omega
        clear HE g1 HBAD HNX
        go_wp2_with fail
        go_ret
        (try rw [HV.out])
        exact ⟨rfl, H.out.to⟩
      have d1 : decide ((y.n : Int) < 1) = false := by simp <;> omega
      have d1n : decide (y.n < 1) = false := by simp <;> omega
      by_cases g2 : 4 < y.n
      · have HV : Hid (E = false) := HBAD.out (tier_len (by rw [HYL.out]; omega))
        have d2 : decide ((4 : Int) < (y.n : Int)) = true := by simp <;> omega
        have d2n : decide (4 < y.n) = true := by simp <;> omega
        clear HE g2 HBAD HNX
        go_wp2_with fail
        go_ret
        (try rw [HV.out])
        exact ⟨rfl, H.out.to⟩
      have d2 : decide ((4 : Int) < (y.n : Int)) = false := by simp <;> omega
      have d2n : decide (4 < y.n) = false := by simp <;> omega
      obtain ⟨bz, oz, _, hAz, _, _, _⟩ := (HYR.out _ (Bel.refl _)).intAt (k := 0) (by omega)
      rw [hAz] at q1
      have HAZ := Lib.hid hAz
      clear hAz
      go_upto_region 9 with fail
      clear d1 d1n d2 d2n q1
      have HOK : Hid (∀ i, i < 0 → tierAt y.l i = true) := fun i hi => absurd hi (by omega)
      obtain ⟨W0, hW0⟩ : ∃ W0, W0 = wr := ⟨_, rfl⟩
      subst hW0
      have HW : Hid (Bel W0 W0) := Bel.refl _
      go_loopg [44] y.n (fun gg s44 wr => ∃ (i : Nat), gg = y.n - i ∧ i ≤ y.n ∧ s44 = .int .i64 i ∧ Hid (∀ j, j < i → tierAt y.l j = true) ∧ Hid (SL No w wr [rBlk x 24 #[.slice (some ⟨bb, oo, none⟩) n c, .int .i64 ms]]) ∧ Hid (Bel W0 wr))
      case atStart => exact ⟨0, rfl, by omega, rfl, HOK, H, HW⟩
      case round =>
        clear HOK H HW
        obtain ⟨i, hgi, hi, rfl, HOK, H, HW⟩ := hrel
        have Hgi := Lib.hid hgi
        clear hgi
        by_cases hli : i < y.n
        · obtain ⟨b2, o2, v, hA2, hvk, hv64, hvc⟩ := (HYR.out _ HW.out).intAt (k := i) hli
          rw [HAZ.out] at hA2
          injection hA2 with hA2
          injection hA2 with e1 e2
          subst e1 e2
          have v64 := hv64
          unfold I64 at v64
          have HAT := Lib.hid (tierAt_some hvk)
          have HB1 : Hid (tierAt y.l i = false → E = false) := fun h => HBAD.out (tier_at (by rw [HYL.out]; exact hli) h)
          have HN1 : Hid (tierAt y.l i = true → ∀ j, j < i + 1 → tierAt y.l j = true) := fun h j hj => by
            rcases (show j < i ∨ j = i by omega) with h' | h'
            · exact HOK.out j h'
            · subst h'
              exact h
          have j0 : (0 : Int) ≤ i := by omega
          have j1 : (i : Int) < y.n := by omega
          clear hvk hv64 HOK
          by_cases g1 : v < 1
          · have HV : Hid (E = false) := HB1.out (by rw [HAT.out]; simp; omega)
            have d1 : decide (v < 1) = true := by simp <;> omega
            clear HE g1 HB1 HN1 HAT HBAD HNX
            go_wp2_with fail
            go_ret
            (try rw [HV.out])
            exact ⟨rfl, H.out.to⟩
          have d1 : decide (v < 1) = false := by simp <;> omega
          by_cases g2 : 200 < v
          · have HV : Hid (E = false) := HB1.out (by rw [HAT.out]; simp; omega)
            have d2 : decide (200 < v) = true := by simp <;> omega
            clear HE g2 HB1 HN1 HAT HBAD HNX
            go_wp2_with fail
            go_ret
            (try rw [HV.out])
            exact ⟨rfl, H.out.to⟩
          have d2 : decide (200 < v) = false := by simp <;> omega
          by_cases hi0 : i = 0
          · subst hi0
            have HOK2 : Hid (∀ j, j < 0 + 1 → tierAt y.l j = true) := HN1.out (by rw [HAT.out]; simp; omega)
            clear HB1 HN1 HAT g1 g2
            rw [Nat.add_zero] at hvc
            go_wp2_with fail
            go_roundg (y.n - (0 + 1))
            case rel => exact ⟨0 + 1, rfl, by omega, by go_num, HOK2, H, HW⟩
            case measure => rw [Hgi.out]; omega
          · obtain ⟨j, rfl⟩ : ∃ j, i = j + 1 := ⟨i - 1, by omega⟩
            obtain ⟨b2, o2, p, hA2, hpk, hp64, hpc⟩ := (HYR.out _ HW.out).intAt (k := j) (by omega)
            rw [HAZ.out] at hA2
            injection hA2 with hA2
            injection hA2 with e1 e2
            subst e1 e2
            have HAT2 : Hid (tierAt y.l (j + 1) = (decide (1 ≤ v) && decide (v ≤ 200) && decide (v ≤ p))) := by
              show _ = _
              rw [HAT.out, show j + 1 - 1 = j from rfl, hpk]
              simp
            have e1 : (((j + 1 : Nat) : Int)) - 1 = j := by omega
            have m0 : (0 : Int) ≤ j := by omega
            have m1 : (j : Int) < y.n := by omega
            have e2 : decide ((0 : Int) < ((j + 1 : Nat) : Int)) = true := by simp <;> omega
            clear hpk hp64 HAT
            by_cases g3 : p < v
            · have HV : Hid (E = false) := HB1.out (by rw [HAT2.out]; simp; omega)
              have d3 : decide (p < v) = true := by simp <;> omega
              clear HE g3 HB1 HN1 HAT2 HBAD HNX
              go_wp2_with fail
              go_ret
              (try rw [HV.out])
              exact ⟨rfl, H.out.to⟩
            · have HOK2 : Hid (∀ i, i < j + 1 + 1 → tierAt y.l i = true) := HN1.out (by rw [HAT2.out]; simp; omega)
              have d3 : decide (p < v) = false := by simp <;> omega
              clear HB1 HN1 HAT2 g1 g2 g3
              go_wp2_with fail
              go_roundg (y.n - (j + 1 + 1))
              case rel => exact ⟨j + 1 + 1, rfl, by omega, by go_num, HOK2, H, HW⟩
              case measure => rw [Hgi.out]; omega
        · obtain rfl : i = y.n := by omega
          have HN2 := Lib.hid (HNX.out (tier_yes (by rw [HYL.out]; omega) (by rw [HYL.out]; omega) (by rw [HYL.out]; exact HOK.out)))
          clear HNX HOK
          go_wp2_with fail
          go_roundg (n - (k + 1))
          case rel => exact ⟨k + 1, rfl, by omega, by go_num, HN2, H⟩
          case measure => rw [Hgk.out]; omega
    · obtain rfl : k = n := by omega
      have HV : Hid (E = true) := by
        show _ = _
        rw [HE.out]
        refine shape_yes (by rw [List.length_map, hl1.out]; omega) (by rw [List.length_map, hl1.out]; omega) (by omega) (by omega) fun l hl => ?_
        obtain ⟨y, hy, rfl⟩ := List.mem_map.1 hl
        obtain ⟨i, hi⟩ := List.mem_iff_getElem?.1 hy
        exact HA.out i y (by have := (List.getElem?_eq_some_iff.1 hi).1; rw [hl1.out] at this; exact this) hi
      clear HE HA
      go_wp2_with fail
      go_ret
      (try rw [HV.out])
      exact ⟨rfl, H.out.to⟩

end Go.Proofs.Ytlclllkjnhgbjaa

namespace Go.Proofs.Ytlclllkjnhgbjaa
open Go.RowKit
set_option linter.unusedVariables false
set_option linter.unusedSimpArgs false

theorem wpList_build2N {ops : Array Oper} {rest : List Oper} {o : Oper} {a : Act} {w : World} {Q : Exit → Act → World → Prop} (hgd : o.guard = none) {t : TypeId} (x y : Operand) {i j : Nat} (ho : o.op = .build t #[(i, x), (j, y)])
    {vx vy v : Value} (hx : a.eval x = vx) (hy : a.eval y = vy) (hr : ∀ w : World, (Instr.build t #[(i, vx), (j, vy)]).run Try.prog w = .ok v w)
    (h : wpList Try.prog ops Q rest (a.put o.dst v) w) : wpList Try.prog ops Q (o :: rest) a w := by
  refine wpList_plain hgd fun K hK => ?_
  unfold Oper.wp execOp
  simp only [ho, List.map_toArray, List.map_cons, List.map_nil, hx, hy, Sem.run_bind, hr, Result.andThen_ok, Sem.run_pure]
  exact hK _ _ h

theorem E_intssA : ElemInfo Try.prog 22 59 1 24 := ElemInfo.mk' (z := .slice none 0 0) Try.underlying22 (by kernel_rfl) rfl (by omega)
theorem own_emptyI (w : World) (e : TypeId) (size : Nat) : (w.alloc (.cells #[] e)).ownsRow w.heap.size e size (.slice (some ⟨w.heap.size, 0, none⟩) 0 0) 0 [] :=
  World.ownsRow_made w #[] 0 (Nat.le_refl _) (by unfold maxLen; omega) (by simp)
set_option maxRecDepth 100000 in
set_option maxHeartbeats 1000000 in
theorem iclone_any (x : Row Int) (w : World) (hx : x.rd w) (hn : x.n ≤ 1000000) :
    Calls Try.prog 87 #[.slice x.A x.n x.c] w fun e w' => ∃ (A : Option Addr) (c : Nat), e = .returned (.slice A x.n c) ∧ Bel w w' ∧ w'.ownsRow w.heap.size 3 1 (.slice A x.n c) x.n (x.l.map (Value.int .i64)) := by
  have hr : Rd w 1 x.A x.n (x.l.map (Value.int .i64)) := hx.ints
  have hlen : Hid (x.l.length = x.n) := hx.len
  obtain ⟨A, n, c, l⟩ := x
  simp only at *
  clear hx
  cases A with
  | none =>
    obtain rfl : n = 0 := by
      rcases Nat.eq_zero_or_pos n with h | h
      · exact h
      · obtain ⟨ad, e, _⟩ := hr.2 (by omega); cases e
    have hl : l = [] := List.eq_nil_of_length_eq_zero hlen.out
    subst hl
    have he := fun (c : Nat) (w : World) => Lib.run_eql_slice_nil (P := Try.prog) w 59 3 none 0 c 0 0 Try.underlying59
    go_enter Try.func87, Try.ntmps87
    go_wp2
    go_ret
    exact ⟨none, 0, rfl, Bel.refl _, World.ownsRow_nil _ _ _ _⟩
  | some ad =>
    have he := fun (n c : Nat) (w : World) => Lib.run_eql_slice_nil (P := Try.prog) w 59 3 (some ad) n c 0 0 Try.underlying59
    have HRR := Lib.hid (fun w' (hb : Bel w w') => hr.bel hb)
    have H := Lib.hid ((SL.start No w).addRow ((Bel.refl _).alloc _) (own_emptyI w 3 1))
    (try simp only [List.set_cons_zero, List.set_cons_succ, List.cons_append, List.nil_append, List.eraseIdx_cons_zero, List.eraseIdx_cons_succ, List.setIfInBounds_toArray, World.size_alloc, selR, List.getD_cons_zero, List.getD_cons_succ] at H)
    go_enter Try.func87, Try.ntmps87
    go_wp2_with ((with_reducible show wpList _ _ _ (⟨some 7, _, _, _, _, _⟩ :: _) _ _); (refine wpList_append0 rfl (.tmp 5) (.tmp 6) _ rfl E_num 0 (Nat.zero_le _) _ 0 _ rfl (H.out.row 0 rfl) (some ad) n c (l.map (Value.int .i64)) rfl (HRR.out _ H.out.to) (by simp [Value.oneCell']) (by unfold maxLen; omega) (by omega) ?_; intro vq wq howq hgq hatq; replace H := Lib.hid (H.out.setRow 0 rfl hgq howq hatq); (try simp only [List.set_cons_zero, List.set_cons_succ, List.cons_append, List.nil_append, List.eraseIdx_cons_zero, List.eraseIdx_cons_succ, List.setIfInBounds_toArray, World.size_alloc, selR, List.getD_cons_zero, List.getD_cons_succ] at H); clear howq hgq hatq; obtain ⟨A2, c2, rfl, _⟩ := own_slice (H.out.row 0 rfl); simp only [Nat.zero_add, List.nil_append] at H ⊢))
    go_ret
    exact ⟨A2, c2, rfl, H.out.to, H.out.rowB 0 rfl⟩
/-- A row of numbers of the call's own. -/
abbrev rIs (x : Row Int) : Res := rRow 3 1 (.slice x.A x.n x.c) x.n (x.l.map (Value.int .i64))
theorem tier_le {l : List Int} (h : tierShape l = true) : l.length ≤ 4 := by simp only [tierShape, Bool.and_eq_true, decide_eq_true_eq] at h; omega
theorem shape_le {xs : List (List Int)} {ms : Int} (h : shapeOk xs ms = true) : (1 ≤ xs.length ∧ xs.length ≤ 16) ∧ (1 ≤ ms ∧ ms ≤ 3) ∧ ∀ l ∈ xs, l.length ≤ 4 := by
  simp only [shapeOk, Bool.and_eq_true, decide_eq_true_eq] at h
  exact ⟨h.1.1.1, ⟨h.1.1.2, h.1.2⟩, fun l hl => tier_le (List.all_eq_true.1 h.2 l hl)⟩
def NewPost (s : Shp) (most : Int) (w : World) (e : Ending) (w' : World) : Prop :=
  if shapeOk s.con s.ms = true ∧ 0 ≤ most ∧ most ≤ 131072 then ∃ (b : Nat) (A : Option Addr) (c : Nat) (L : List (Row Int)), e = .returned (.tuple #[.pointer (some ⟨b, 0, none⟩), .int .i64 0]) ∧ L.map Row.l = s.con ∧ L.length = s.sz.n ∧ SL No w w' [rBlk b 117 #[.slice A s.sz.n c, .int .i64 s.ms, .slice none 0 0, .int .i64 most], rRow 59 1 (.slice A s.sz.n c) s.sz.n (L.map Row.v), rListD rIs L]
  else e = .returned (.tuple #[.pointer none, .int .i64 2]) ∧ Bel w w'
set_option maxRecDepth 100000 in
set_option maxHeartbeats 4000000 in
theorem anew_any (s : Shp) (most : Int) (w : World) (hs : s.rd w) (hm : I64 most) :
    Calls Try.prog 50 #[.agg s.cs, .int .i64 most] w (NewPost s most w) := by
  have HM := Lib.hid (fun w' (hb : Bel w w') => amay_any s w' (hs.mono hb))
  have HSZ := Lib.hid (fun w' (hb : Bel w w') => hs.sz.mono hb)
  have hl1 : Hid (s.sz.l.length = s.sz.n) := hs.sz.len
  have H := Lib.hid ((SL.start No w).alloc s.cs 24)
  (try simp only [List.set_cons_zero, List.set_cons_succ, List.cons_append, List.nil_append, List.eraseIdx_cons_zero, List.eraseIdx_cons_succ, List.setIfInBounds_toArray, World.size_alloc, selR, List.getD_cons_zero, List.getD_cons_succ] at H)
  unfold I64 at hm
  have hcs : s.cs = #[.slice s.sz.A s.sz.n s.sz.c, .int .i64 s.ms] := rfl
  have HCS := Lib.hid hcs
  clear hcs hs
  go_enter Try.func50, Try.ntmps50
  (try rw [← HCS.out] at *)
  go_wp2_with ((with_reducible show wpList _ _ _ (⟨some 9, _, _, _, _, _⟩ :: _) _ _); (refine wpList_load_blk rfl rowShp2 (.tmp 2) rfl _ rfl (H.out.blk 0 rfl) rfl ?_))
  refine (HM.out _ H.out.to).mono ?_; rintro e w1 ⟨rfl, hb1⟩
  replace H := Lib.hid (H.out.bel hb1); (try simp only [List.set_cons_zero, List.set_cons_succ, List.cons_append, List.nil_append, List.eraseIdx_cons_zero, List.eraseIdx_cons_succ, List.setIfInBounds_toArray, World.size_alloc, selR, List.getD_cons_zero, List.getD_cons_succ] at H)
  clear hb1 HM
  generalize w.heap.size = x at *
  cases hok : shapeOk s.con s.ms with
  | false =>
    have HP : Hid (∀ e w', e = .returned (.tuple #[.pointer none, .int .i64 2]) → Bel w w' → NewPost s most w e w') := fun e w' he hb => by unfold NewPost; rw [if_neg (by rw [hok]; simp)]; exact ⟨he, hb⟩
    clear hok
    go_wp2_with fail
    refine bodyPost_ret (v := .tuple #[.pointer none, .int .i64 2]) (by kernel_rfl) rfl ?_
    exact HP.out _ _ rfl H.out.to
  | true =>
    have hle := shape_le hok
    by_cases g1 : most < 0
    · have HP : Hid (∀ e w', e = .returned (.tuple #[.pointer none, .int .i64 2]) → Bel w w' → NewPost s most w e w') := fun e w' he hb => by unfold NewPost; rw [if_neg (by omega)]; exact ⟨he, hb⟩
      have d1 : decide (most < 0) = true := by simp <;> omega
      clear hok g1 hle
      go_wp2_with fail
      refine bodyPost_ret (v := .tuple #[.pointer none, .int .i64 2]) (by kernel_rfl) rfl ?_
      exact HP.out _ _ rfl H.out.to
    have d1 : decide (most < 0) = false := by simp <;> omega
    by_cases g2 : 131072 < most
    · have HP : Hid (∀ e w', e = .returned (.tuple #[.pointer none, .int .i64 2]) → Bel w w' → NewPost s most w e w') := fun e w' he hb => by unfold NewPost; rw [if_neg (by omega)]; exact ⟨he, hb⟩
      have d2 : decide (131072 < most) = true := by simp <;> omega
      clear hok g1 g2 hle
      go_wp2_with fail
      refine bodyPost_ret (v := .tuple #[.pointer none, .int .i64 2]) (by kernel_rfl) rfl ?_
      exact HP.out _ _ rfl H.out.to
    have d2 : decide (131072 < most) = false := by simp <;> omega
    have HPost : Hid (∀ b A c L w', L.map Row.l = s.con → L.length = s.sz.n → SL No w w' [rBlk b 117 #[.slice A s.sz.n c, .int .i64 s.ms, .slice none 0 0, .int .i64 most], rRow 59 1 (.slice A s.sz.n c) s.sz.n (L.map Row.v), rListD rIs L] → NewPost s most w (.returned (.tuple #[.pointer (some ⟨b, 0, none⟩), .int .i64 0])) w') := fun b A c L w' h1 h2 h3 => by unfold NewPost; rw [if_pos ⟨hok, by omega, by omega⟩]; exact ⟨b, A, c, L, rfl, h1, h2, h3⟩
    have hn16 : s.sz.n ≤ 16 := by have h := hle.1.2; rw [List.length_map, hl1.out] at h; exact h
    have HV4 : Hid (∀ v ∈ s.sz.l, v.l.length ≤ 4) := fun v hv => hle.2.2 _ (List.mem_map.2 ⟨v, hv, rfl⟩)
    clear hle hok g1 g2
    have cm : w1.cell? ⟨x, 1, none⟩ = some (.int .i64 s.ms) := (H.out.blk 0 rfl).cell 1
    go_upto_region 4 with (first | ((with_reducible show wpList _ _ _ (⟨some 22, _, _, _, _, _⟩ :: _) _ _); refine wpList_build1 (vx := .int .i64 s.ms) (v := .agg #[.slice none 0 0, .int .i64 s.ms]) rfl (.tmp 21) rfl rfl (by intro w; kernel_rfl) ?_) | ((with_reducible show wpList _ _ _ (⟨_, .store _ (.tmp 6) _, _, _, _, _⟩ :: _) _ _); (refine wpList_store_new rfl rowShp2 (.tmp 6) (.tmp 22) rfl rfl rfl (#[.slice none 0 0, .int .i64 s.ms]) rfl rfl (by simp [Value.oneCell']) ?_; replace H := Lib.hid (H.out.alloc (#[.slice none 0 0, .int .i64 s.ms]) 24); (try simp only [List.set_cons_zero, List.set_cons_succ, List.cons_append, List.nil_append, List.eraseIdx_cons_zero, List.eraseIdx_cons_succ, List.setIfInBounds_toArray, World.size_alloc, selR, List.getD_cons_zero, List.getD_cons_succ] at H))))
    (try simp only [Act.put, List.setIfInBounds_toArray, List.set_cons_zero, List.set_cons_succ])
    clear cm d1 d2
    generalize w1.heap.size = z at *
    generalize World.alloc w1 _ = w2 at *
    replace H := Lib.hid (H.out.addNil 59 1); (try simp only [List.set_cons_zero, List.set_cons_succ, List.cons_append, List.nil_append, List.eraseIdx_cons_zero, List.eraseIdx_cons_succ, List.setIfInBounds_toArray, World.size_alloc, selR, List.getD_cons_zero, List.getD_cons_succ] at H)
    replace H := Lib.hid (H.out.add (Bel.refl _) (rListD rIs []) (holds_listD_nil _ _) listD_nil_D); (try simp only [List.set_cons_zero, List.set_cons_succ, List.cons_append, List.nil_append, List.eraseIdx_cons_zero, List.eraseIdx_cons_succ, List.setIfInBounds_toArray, World.size_alloc, selR, List.getD_cons_zero, List.getD_cons_succ] at H)
    have cl : w2.cell? ⟨x, 0, none⟩ = some (.slice s.sz.A s.sz.n s.sz.c) := (H.out.blk 0 rfl).cell 0
    have HL : Hid (([] : List (Row Int)).map Row.l = (s.sz.l.map Row.l).take 0) := rfl
    have hL0 : Hid (([] : List (Row Int)).length = 0) := rfl
    go_upto_region 5 with fail
    clear cl
    go_loopg [26] s.sz.n (fun gg s26 wr => ∃ (k : Nat) (B : Option Addr) (d : Nat) (L : List (Row Int)), gg = s.sz.n - k ∧ k ≤ s.sz.n ∧ s26 = .int .i64 k ∧ Hid (L.length = k) ∧ Hid (SL No w wr [rBlk x 24 s.cs, rBlk z 24 #[.slice B k d, .int .i64 s.ms], rRow 59 1 (.slice B k d) k (L.map Row.v), rListD rIs L]) ∧ Hid (L.map Row.l = (s.sz.l.map Row.l).take k))
    case atStart => exact ⟨0, none, 0, [], rfl, by omega, rfl, hL0, H, HL⟩
    case round =>
      clear H HL hL0
      obtain ⟨k, B, d, L, hgk, hk, rfl, hLk, H, HL⟩ := hrel
      have Hgk := Lib.hid hgk
      clear hgk
      by_cases hlt : k < s.sz.n
      · obtain ⟨bl, ol, v, hAl, hvk, hvok, hvc⟩ := (HSZ.out _ H.out.to).slAt (k := k) hlt
        have hvm := List.mem_of_getElem? hvk
        have hvn : v.n ≤ 4 := by have h := HV4.out v hvm; rw [hvok.rds.len] at h; exact h
        have HTK := Lib.hid (take_snoc_get (l := s.sz.l.map Row.l) (k := k) (x := v.l) (by rw [List.getElem?_map, hvk]; rfl))
        have HCL := Lib.hid (fun w' (hb : Bel w w') => iclone_any v w' (Row.ok.rds ((HSZ.out w' hb).all v hvm)) (by omega))
        have k0 : (0 : Int) ≤ k := by omega
        have k1 : (k : Int) < s.sz.n := by omega
        have HL2 : Hid (∀ CA cc, (L ++ [Row.mk CA v.n cc v.l]).map Row.l = (s.sz.l.map Row.l).take (k + 1)) := fun CA cc => by rw [HTK.out, List.map_append, HL.out]; rfl
        have HAL := Lib.hid hAl
        rw [hAl]
        clear hvk hvok HTK HL hvm
        go_upto_region 7 with fail
        clear hvc
        refine wp_region_held_drew (S := fun _ => True) (by kernel_rfl) trivial (fun hHeld => ?_)
        replace H := Lib.hid (H.out.drew); (try simp only [List.set_cons_zero, List.set_cons_succ, List.cons_append, List.nil_append, List.eraseIdx_cons_zero, List.eraseIdx_cons_succ, List.setIfInBounds_toArray, World.size_alloc, selR, List.getD_cons_zero, List.getD_cons_succ] at H)
        generalize World.drew _ = w8 at *
        refine wpAnyH_take (i := 0) (v := ?vq7_0) (get_o0) (by kernel_rfl) (by kernel_rfl) (by kernel_rfl) (by exact fun _ _ _ h => h) (Or.inl ⟨by rfl, ?hyq7_0⟩) (by assumption) ?_
        case hyq7_0 => (intro w hSw; (try dsimp only at hSw); go_simp) <;> with_reducible rfl
        try simp only [Act.put, List.setIfInBounds_toArray, List.set_cons_zero, List.set_cons_succ]
        refine wpAnyH_take (i := 2) (v := ?vq7_2) (get_os (get_os (get_o0))) (by kernel_rfl) (by kernel_rfl) (by kernel_rfl) (by exact fun _ _ _ h => h) (Or.inl ⟨by rfl, ?hyq7_2⟩) (by assumption) ?_
        case hyq7_2 => (intro w hSw; (try dsimp only at hSw); go_simp) <;> with_reducible rfl
        try simp only [Act.put, List.setIfInBounds_toArray, List.set_cons_zero, List.set_cons_succ]
        refine wpAnyH_ready (rs := [1, 3]) (by kernel_rfl) (by simp) ?_
        refine (AllReadyH.cons (get_os (get_o0)) (fun KK hKK => ?_) (AllReadyH.cons (get_os (get_os (get_os (get_o0)))) (fun KK hKK => ?_) AllReadyH.nil))
        · have ca1 := (H.out.blk 1 rfl).cell 0; simp only [List.getElem?_toArray, List.getElem?_cons_zero, List.getElem?_cons_succ] at ca1
          go_simp
          clear ca1
          refine hKK.out _ _ trivial (fun hHeld => ?_)
          clear hKK KK
          try simp only [Act.put, List.setIfInBounds_toArray, List.set_cons_zero, List.set_cons_succ]
          refine wpAnyH_ready (rs := [3]) (by kernel_rfl) (by simp) ?_
          refine (AllReadyH.cons (get_os (get_os (get_os (get_o0)))) (fun KK hKK => ?_) AllReadyH.nil)
          go_simp
          refine (HCL.out _ H.out.to).mono ?_; rintro e' w9 ⟨CA, cc, rfl, hb9, ho9⟩
          replace H := Lib.hid (H.out.addRow hb9 ho9); (try simp only [List.set_cons_zero, List.set_cons_succ, List.cons_append, List.nil_append, List.eraseIdx_cons_zero, List.eraseIdx_cons_succ, List.setIfInBounds_toArray, World.size_alloc, selR, List.getD_cons_zero, List.getD_cons_succ] at H)
          clear hb9 ho9
          refine hKK.out _ _ trivial (fun hHeld => ?_)
          clear hKK KK
          try simp only [Act.put, List.setIfInBounds_toArray, List.set_cons_zero, List.set_cons_succ]
          refine wpAnyH_ready (rs := [4]) (by kernel_rfl) (by simp) ?_
          refine (AllReadyH.cons (get_os (get_os (get_os (get_os (get_o0))))) (fun KK hKK => ?_) AllReadyH.nil)
          refine step_buildSlice1v rfl E_intssA (.tmp 33) rfl (.slice CA v.n cc) rfl #[.slice CA v.n cc] rfl rfl (by omega) ?_
          replace H := Lib.hid (H.out.alloc #[.slice CA v.n cc] 59); (try simp only [List.set_cons_zero, List.set_cons_succ, List.cons_append, List.nil_append, List.eraseIdx_cons_zero, List.eraseIdx_cons_succ, List.setIfInBounds_toArray, World.size_alloc, selR, List.getD_cons_zero, List.getD_cons_succ] at H)
          refine hKK.out _ _ trivial (fun hHeld => ?_)
          clear hKK KK
          try simp only [Act.put, List.setIfInBounds_toArray, List.set_cons_zero, List.set_cons_succ]
          refine wpAnyH_ready (rs := [5]) (by kernel_rfl) (by simp) ?_
          refine (AllReadyH.cons (get_os (get_os (get_os (get_os (get_os (get_o0)))))) (fun KK hKK => ?_) AllReadyH.nil)
          refine step_append0 rfl (.tmp 31) (.tmp 34) _ rfl E_intssA 0 (Nat.zero_le _) _ k _ rfl (H.out.row 2 rfl) _ 1 1 [.slice CA v.n cc] rfl (reads_of_block (H.out.blk 5 rfl) rfl) (by simp [Value.oneCell']) (by unfold maxLen; omega) (by omega) ?_
          intro vq wq howq hgq hatq
          replace H := Lib.hid (H.out.setRow 2 rfl hgq howq hatq); (try simp only [List.set_cons_zero, List.set_cons_succ, List.cons_append, List.nil_append, List.eraseIdx_cons_zero, List.eraseIdx_cons_succ, List.setIfInBounds_toArray, World.size_alloc, selR, List.getD_cons_zero, List.getD_cons_succ] at H)
          clear howq hgq hatq
          obtain ⟨A2, c2, rfl, _⟩ := own_slice (H.out.row 2 rfl)
          refine hKK.out _ _ trivial (fun hHeld => ?_)
          clear hKK KK
          try simp only [Act.put, List.setIfInBounds_toArray, List.set_cons_zero, List.set_cons_succ]
          refine wpAnyH_take (i := 6) (v := ?vq8_) (get_os (get_os (get_os (get_os (get_os (get_os (get_o0))))))) (by kernel_rfl) (by kernel_rfl) (by kernel_rfl) (by exact fun _ _ _ h => h) (Or.inl ⟨by rfl, ?hyq8_⟩) (by assumption) ?_
          case hyq8_ => (intro w hSw; (try dsimp only at hSw); go_simp) <;> with_reducible rfl
          try simp only [Act.put, List.setIfInBounds_toArray, List.set_cons_zero, List.set_cons_succ]
          refine wpAnyH_ready (rs := [7]) (by kernel_rfl) (by simp) ?_
          refine (AllReadyH.cons (get_os (get_os (get_os (get_os (get_os (get_os (get_os (get_o0)))))))) (fun KK hKK => ?_) AllReadyH.nil)
          have ca7 := (H.out.blk 1 rfl).cell 0; simp only [List.getElem?_toArray, List.getElem?_cons_zero, List.getElem?_cons_succ] at ca7; have fa7 := (H.out.blk 1 rfl).frozen 0
          go_simp
          replace H := Lib.hid (H.out.setCell 1 rfl 0 (.slice A2 (k + 1) c2)); (try simp only [List.set_cons_zero, List.set_cons_succ, List.cons_append, List.nil_append, List.eraseIdx_cons_zero, List.eraseIdx_cons_succ, List.setIfInBounds_toArray, World.size_alloc, selR, List.getD_cons_zero, List.getD_cons_succ] at H)
          clear ca7 fa7
          refine hKK.out _ _ trivial (fun hHeld => ?_)
          clear hKK KK
          try simp only [Act.put, List.setIfInBounds_toArray, List.set_cons_zero, List.set_cons_succ]
          refine wpAnyH_done (by kernel_rfl) ?_ _
          clear hHeld
          replace H := Lib.hid (H.out.snocD 3 4 (a := ⟨CA, v.n, cc, v.l⟩) (by omega) rfl rfl); (try simp only [List.set_cons_zero, List.set_cons_succ, List.cons_append, List.nil_append, List.eraseIdx_cons_zero, List.eraseIdx_cons_succ, List.setIfInBounds_toArray, World.size_alloc, selR, List.getD_cons_zero, List.getD_cons_succ] at H)
          replace H := Lib.hid (H.out.sel [0, 1, 2, 3] (by decide) (by simp)); (try simp only [List.set_cons_zero, List.set_cons_succ, List.cons_append, List.nil_append, List.eraseIdx_cons_zero, List.eraseIdx_cons_succ, List.setIfInBounds_toArray, World.size_alloc, selR, List.getD_cons_zero, List.getD_cons_succ] at H)
          clear HCL
          go_wp2_with fail
          rw [← HAL.out]
          go_roundg (s.sz.n - (k + 1))
          case rel => exact ⟨k + 1, A2, c2, L ++ [⟨CA, v.n, cc, v.l⟩], rfl, by omega, by go_num, by show _ = _; rw [List.length_append, hLk.out]; rfl, by rw [List.map_append]; exact H, Lib.hid (HL2.out CA cc)⟩
          case measure => rw [Hgk.out]; omega
        · go_simp
          refine (HCL.out _ H.out.to).mono ?_; rintro e' w9 ⟨CA, cc, rfl, hb9, ho9⟩
          replace H := Lib.hid (H.out.addRow hb9 ho9); (try simp only [List.set_cons_zero, List.set_cons_succ, List.cons_append, List.nil_append, List.eraseIdx_cons_zero, List.eraseIdx_cons_succ, List.setIfInBounds_toArray, World.size_alloc, selR, List.getD_cons_zero, List.getD_cons_succ] at H)
          clear hb9 ho9
          refine hKK.out _ _ trivial (fun hHeld => ?_)
          clear hKK KK
          try simp only [Act.put, List.setIfInBounds_toArray, List.set_cons_zero, List.set_cons_succ]
          refine wpAnyH_ready (rs := [1, 4]) (by kernel_rfl) (by simp) ?_
          refine (AllReadyH.cons (get_os (get_o0)) (fun KK hKK => ?_) (AllReadyH.cons (get_os (get_os (get_os (get_os (get_o0))))) (fun KK hKK => ?_) AllReadyH.nil))
          · have ca1 := (H.out.blk 1 rfl).cell 0; simp only [List.getElem?_toArray, List.getElem?_cons_zero, List.getElem?_cons_succ] at ca1
            go_simp
            clear ca1
            refine hKK.out _ _ trivial (fun hHeld => ?_)
            clear hKK KK
            try simp only [Act.put, List.setIfInBounds_toArray, List.set_cons_zero, List.set_cons_succ]
            refine wpAnyH_ready (rs := [4]) (by kernel_rfl) (by simp) ?_
            refine (AllReadyH.cons (get_os (get_os (get_os (get_os (get_o0))))) (fun KK hKK => ?_) AllReadyH.nil)
            refine step_buildSlice1v rfl E_intssA (.tmp 33) rfl (.slice CA v.n cc) rfl #[.slice CA v.n cc] rfl rfl (by omega) ?_
            replace H := Lib.hid (H.out.alloc #[.slice CA v.n cc] 59); (try simp only [List.set_cons_zero, List.set_cons_succ, List.cons_append, List.nil_append, List.eraseIdx_cons_zero, List.eraseIdx_cons_succ, List.setIfInBounds_toArray, World.size_alloc, selR, List.getD_cons_zero, List.getD_cons_succ] at H)
            refine hKK.out _ _ trivial (fun hHeld => ?_)
            clear hKK KK
            try simp only [Act.put, List.setIfInBounds_toArray, List.set_cons_zero, List.set_cons_succ]
            refine wpAnyH_ready (rs := [5]) (by kernel_rfl) (by simp) ?_
            refine (AllReadyH.cons (get_os (get_os (get_os (get_os (get_os (get_o0)))))) (fun KK hKK => ?_) AllReadyH.nil)
            refine step_append0 rfl (.tmp 31) (.tmp 34) _ rfl E_intssA 0 (Nat.zero_le _) _ k _ rfl (H.out.row 2 rfl) _ 1 1 [.slice CA v.n cc] rfl (reads_of_block (H.out.blk 5 rfl) rfl) (by simp [Value.oneCell']) (by unfold maxLen; omega) (by omega) ?_
            intro vq wq howq hgq hatq
            replace H := Lib.hid (H.out.setRow 2 rfl hgq howq hatq); (try simp only [List.set_cons_zero, List.set_cons_succ, List.cons_append, List.nil_append, List.eraseIdx_cons_zero, List.eraseIdx_cons_succ, List.setIfInBounds_toArray, World.size_alloc, selR, List.getD_cons_zero, List.getD_cons_succ] at H)
            clear howq hgq hatq
            obtain ⟨A2, c2, rfl, _⟩ := own_slice (H.out.row 2 rfl)
            refine hKK.out _ _ trivial (fun hHeld => ?_)
            clear hKK KK
            try simp only [Act.put, List.setIfInBounds_toArray, List.set_cons_zero, List.set_cons_succ]
            refine wpAnyH_take (i := 6) (v := ?vq9_) (get_os (get_os (get_os (get_os (get_os (get_os (get_o0))))))) (by kernel_rfl) (by kernel_rfl) (by kernel_rfl) (by exact fun _ _ _ h => h) (Or.inl ⟨by rfl, ?hyq9_⟩) (by assumption) ?_
            case hyq9_ => (intro w hSw; (try dsimp only at hSw); go_simp) <;> with_reducible rfl
            try simp only [Act.put, List.setIfInBounds_toArray, List.set_cons_zero, List.set_cons_succ]
            refine wpAnyH_ready (rs := [7]) (by kernel_rfl) (by simp) ?_
            refine (AllReadyH.cons (get_os (get_os (get_os (get_os (get_os (get_os (get_os (get_o0)))))))) (fun KK hKK => ?_) AllReadyH.nil)
            have ca7 := (H.out.blk 1 rfl).cell 0; simp only [List.getElem?_toArray, List.getElem?_cons_zero, List.getElem?_cons_succ] at ca7; have fa7 := (H.out.blk 1 rfl).frozen 0
            go_simp
            replace H := Lib.hid (H.out.setCell 1 rfl 0 (.slice A2 (k + 1) c2)); (try simp only [List.set_cons_zero, List.set_cons_succ, List.cons_append, List.nil_append, List.eraseIdx_cons_zero, List.eraseIdx_cons_succ, List.setIfInBounds_toArray, World.size_alloc, selR, List.getD_cons_zero, List.getD_cons_succ] at H)
            clear ca7 fa7
            refine hKK.out _ _ trivial (fun hHeld => ?_)
            clear hKK KK
            try simp only [Act.put, List.setIfInBounds_toArray, List.set_cons_zero, List.set_cons_succ]
            refine wpAnyH_done (by kernel_rfl) ?_ _
            clear hHeld
            replace H := Lib.hid (H.out.snocD 3 4 (a := ⟨CA, v.n, cc, v.l⟩) (by omega) rfl rfl); (try simp only [List.set_cons_zero, List.set_cons_succ, List.cons_append, List.nil_append, List.eraseIdx_cons_zero, List.eraseIdx_cons_succ, List.setIfInBounds_toArray, World.size_alloc, selR, List.getD_cons_zero, List.getD_cons_succ] at H)
            replace H := Lib.hid (H.out.sel [0, 1, 2, 3] (by decide) (by simp)); (try simp only [List.set_cons_zero, List.set_cons_succ, List.cons_append, List.nil_append, List.eraseIdx_cons_zero, List.eraseIdx_cons_succ, List.setIfInBounds_toArray, World.size_alloc, selR, List.getD_cons_zero, List.getD_cons_succ] at H)
            clear HCL
            go_wp2_with fail
            rw [← HAL.out]
            go_roundg (s.sz.n - (k + 1))
            case rel => exact ⟨k + 1, A2, c2, L ++ [⟨CA, v.n, cc, v.l⟩], rfl, by omega, by go_num, by show _ = _; rw [List.length_append, hLk.out]; rfl, by rw [List.map_append]; exact H, Lib.hid (HL2.out CA cc)⟩
            case measure => rw [Hgk.out]; omega
          · refine step_buildSlice1v rfl E_intssA (.tmp 33) rfl (.slice CA v.n cc) rfl #[.slice CA v.n cc] rfl rfl (by omega) ?_
            replace H := Lib.hid (H.out.alloc #[.slice CA v.n cc] 59); (try simp only [List.set_cons_zero, List.set_cons_succ, List.cons_append, List.nil_append, List.eraseIdx_cons_zero, List.eraseIdx_cons_succ, List.setIfInBounds_toArray, World.size_alloc, selR, List.getD_cons_zero, List.getD_cons_succ] at H)
            refine hKK.out _ _ trivial (fun hHeld => ?_)
            clear hKK KK
            try simp only [Act.put, List.setIfInBounds_toArray, List.set_cons_zero, List.set_cons_succ]
            refine wpAnyH_ready (rs := [1]) (by kernel_rfl) (by simp) ?_
            refine (AllReadyH.cons (get_os (get_o0)) (fun KK hKK => ?_) AllReadyH.nil)
            have ca1 := (H.out.blk 1 rfl).cell 0; simp only [List.getElem?_toArray, List.getElem?_cons_zero, List.getElem?_cons_succ] at ca1
            go_simp
            clear ca1
            refine hKK.out _ _ trivial (fun hHeld => ?_)
            clear hKK KK
            try simp only [Act.put, List.setIfInBounds_toArray, List.set_cons_zero, List.set_cons_succ]
            refine wpAnyH_ready (rs := [5]) (by kernel_rfl) (by simp) ?_
            refine (AllReadyH.cons (get_os (get_os (get_os (get_os (get_os (get_o0)))))) (fun KK hKK => ?_) AllReadyH.nil)
            refine step_append0 rfl (.tmp 31) (.tmp 34) _ rfl E_intssA 0 (Nat.zero_le _) _ k _ rfl (H.out.row 2 rfl) _ 1 1 [.slice CA v.n cc] rfl (reads_of_block (H.out.blk 5 rfl) rfl) (by simp [Value.oneCell']) (by unfold maxLen; omega) (by omega) ?_
            intro vq wq howq hgq hatq
            replace H := Lib.hid (H.out.setRow 2 rfl hgq howq hatq); (try simp only [List.set_cons_zero, List.set_cons_succ, List.cons_append, List.nil_append, List.eraseIdx_cons_zero, List.eraseIdx_cons_succ, List.setIfInBounds_toArray, World.size_alloc, selR, List.getD_cons_zero, List.getD_cons_succ] at H)
            clear howq hgq hatq
            obtain ⟨A2, c2, rfl, _⟩ := own_slice (H.out.row 2 rfl)
            refine hKK.out _ _ trivial (fun hHeld => ?_)
            clear hKK KK
            try simp only [Act.put, List.setIfInBounds_toArray, List.set_cons_zero, List.set_cons_succ]
            refine wpAnyH_take (i := 6) (v := ?vq10_) (get_os (get_os (get_os (get_os (get_os (get_os (get_o0))))))) (by kernel_rfl) (by kernel_rfl) (by kernel_rfl) (by exact fun _ _ _ h => h) (Or.inl ⟨by rfl, ?hyq10_⟩) (by assumption) ?_
            case hyq10_ => (intro w hSw; (try dsimp only at hSw); go_simp) <;> with_reducible rfl
            try simp only [Act.put, List.setIfInBounds_toArray, List.set_cons_zero, List.set_cons_succ]
            refine wpAnyH_ready (rs := [7]) (by kernel_rfl) (by simp) ?_
            refine (AllReadyH.cons (get_os (get_os (get_os (get_os (get_os (get_os (get_os (get_o0)))))))) (fun KK hKK => ?_) AllReadyH.nil)
            have ca7 := (H.out.blk 1 rfl).cell 0; simp only [List.getElem?_toArray, List.getElem?_cons_zero, List.getElem?_cons_succ] at ca7; have fa7 := (H.out.blk 1 rfl).frozen 0
            go_simp
            replace H := Lib.hid (H.out.setCell 1 rfl 0 (.slice A2 (k + 1) c2)); (try simp only [List.set_cons_zero, List.set_cons_succ, List.cons_append, List.nil_append, List.eraseIdx_cons_zero, List.eraseIdx_cons_succ, List.setIfInBounds_toArray, World.size_alloc, selR, List.getD_cons_zero, List.getD_cons_succ] at H)
            clear ca7 fa7
            refine hKK.out _ _ trivial (fun hHeld => ?_)
            clear hKK KK
            try simp only [Act.put, List.setIfInBounds_toArray, List.set_cons_zero, List.set_cons_succ]
            refine wpAnyH_done (by kernel_rfl) ?_ _
            clear hHeld
            replace H := Lib.hid (H.out.snocD 3 4 (a := ⟨CA, v.n, cc, v.l⟩) (by omega) rfl rfl); (try simp only [List.set_cons_zero, List.set_cons_succ, List.cons_append, List.nil_append, List.eraseIdx_cons_zero, List.eraseIdx_cons_succ, List.setIfInBounds_toArray, World.size_alloc, selR, List.getD_cons_zero, List.getD_cons_succ] at H)
            replace H := Lib.hid (H.out.sel [0, 1, 2, 3] (by decide) (by simp)); (try simp only [List.set_cons_zero, List.set_cons_succ, List.cons_append, List.nil_append, List.eraseIdx_cons_zero, List.eraseIdx_cons_succ, List.setIfInBounds_toArray, World.size_alloc, selR, List.getD_cons_zero, List.getD_cons_succ] at H)
            clear HCL
            go_wp2_with fail
            rw [← HAL.out]
            go_roundg (s.sz.n - (k + 1))
            case rel => exact ⟨k + 1, A2, c2, L ++ [⟨CA, v.n, cc, v.l⟩], rfl, by omega, by go_num, by show _ = _; rw [List.length_append, hLk.out]; rfl, by rw [List.map_append]; exact H, Lib.hid (HL2.out CA cc)⟩
            case measure => rw [Hgk.out]; omega
      · obtain rfl : k = s.sz.n := by omega
        have HF : Hid (L.map Row.l = s.con) := by
          show _ = _
          rw [HL.out, List.take_of_length_le (by rw [List.length_map, hl1.out]; exact Nat.le_refl _)]
        have hbd : ∀ w : World, (Instr.build 117 #[(0, .agg #[.slice B s.sz.n d, .int .i64 s.ms]), (2, .int .i64 most)]).run Try.prog w = .ok (.agg #[.slice B s.sz.n d, .int .i64 s.ms, .slice none 0 0, .int .i64 most]) w := fun _ => by kernel_rfl
        go_wp2_with (first | ((with_reducible show wpList _ _ _ (⟨some 38, _, _, _, _, _⟩ :: _) _ _); (refine wpList_load_blk rfl rowShp2 (.tmp 6) rfl _ rfl (H.out.blk 1 rfl) rfl ?_)) | ((with_reducible show wpList _ _ _ (⟨some 40, _, _, _, _, _⟩ :: _) _ _); refine wpList_build2N rfl (.tmp 38) (.tmp 39) rfl rfl rfl hbd ?_))
        refine bodyPost_ret (v := .tuple #[.pointer (some ⟨wr.heap.size, 0, none⟩), .int .i64 0]) (by kernel_rfl) rfl ?_
        replace H := Lib.hid (H.out.alloc #[.slice B s.sz.n d, .int .i64 s.ms, .slice none 0 0, .int .i64 most] 117); (try simp only [List.set_cons_zero, List.set_cons_succ, List.cons_append, List.nil_append, List.eraseIdx_cons_zero, List.eraseIdx_cons_succ, List.setIfInBounds_toArray, World.size_alloc, selR, List.getD_cons_zero, List.getD_cons_succ] at H)
        replace H := Lib.hid (H.out.sel [4, 2, 3] (by decide) (by simp)); (try simp only [List.set_cons_zero, List.set_cons_succ, List.cons_append, List.nil_append, List.eraseIdx_cons_zero, List.eraseIdx_cons_succ, List.setIfInBounds_toArray, World.size_alloc, selR, List.getD_cons_zero, List.getD_cons_succ] at H)
        exact HPost.out _ _ _ _ _ HF.out hLk.out H.out

end Go.Proofs.Ytlclllkjnhgbjaa

namespace Go.Proofs.Ytlclllkjnhgbjaa
open Go.RowKit
set_option linter.unusedVariables false
set_option linter.unusedSimpArgs false


/-- No arena that a call made. -/
def NoA (w : World) (v : Value) : Prop := v = .pointer none ∨ ∃ b, v = .pointer (some ⟨b, 0, none⟩) ∧ w.cell? ⟨b, 0, none⟩ = some (.slice none 0 0)
theorem NoA.mono {w w' : World} {v : Value} (h : NoA w v) (hb : Bel w w') : NoA w' v := by
  rcases h with h | ⟨b, h, hc⟩
  · exact .inl h
  · exact .inr ⟨b, h, (hb.cell (p := ⟨b, 0, none⟩) (World.block_lt_of_cell? _ _ hc)).trans hc⟩
set_option maxRecDepth 100000 in
theorem there_no (v : Value) (w : World) (h : NoA w v) : Calls Try.prog 62 #[v] w fun e w' => e = .returned (.bool false) ∧ Bel w w' := by
  rcases h with rfl | ⟨b, rfl, hc⟩
  · go_enter Try.func62, Try.ntmps62
    go_wp2
    go_ret
    exact ⟨rfl, Bel.refl _⟩
  · go_enter Try.func62, Try.ntmps62
    go_wp2
    go_ret
    exact ⟨rfl, Bel.refl _⟩
set_option maxRecDepth 100000 in
theorem there_yes (b : Nat) (A : Option Addr) (n c : Nat) (w : World) (hn : 0 < n) (hc : w.cell? ⟨b, 0, none⟩ = some (.slice A n c)) : Calls Try.prog 62 #[.pointer (some ⟨b, 0, none⟩)] w fun e w' => e = .returned (.bool true) ∧ Bel w w' := by
  have d1 : decide ((0 : Int) < (n : Int)) = true := by simp <;> omega
  have d1n : decide (0 < n) = true := by simp <;> omega
  go_enter Try.func62, Try.ntmps62
  go_wp2
  go_ret
  exact ⟨rfl, Bel.refl _⟩
set_option maxRecDepth 100000 in
theorem ashape_no (v : Value) (w : World) (h : NoA w v) : Calls Try.prog 52 #[v] w fun e w' => e = .returned (.agg #[.slice none 0 0, .int .i64 0]) ∧ Bel w w' := by
  have H := Lib.hid ((SL.start No w).alloc #[.slice none 0 0, .int .i64 0] 24)
  (try simp only [List.set_cons_zero, List.set_cons_succ, List.cons_append, List.nil_append, List.eraseIdx_cons_zero, List.eraseIdx_cons_succ, List.setIfInBounds_toArray, World.size_alloc, selR, List.getD_cons_zero, List.getD_cons_succ] at H)
  go_enter Try.func52, Try.ntmps52
  go_wp2_with fail
  refine (there_no _ _ (h.mono H.out.to)).mono ?_; rintro e w1 ⟨rfl, hb1⟩
  replace H := Lib.hid (H.out.bel hb1); (try simp only [List.set_cons_zero, List.set_cons_succ, List.cons_append, List.nil_append, List.eraseIdx_cons_zero, List.eraseIdx_cons_succ, List.setIfInBounds_toArray, World.size_alloc, selR, List.getD_cons_zero, List.getD_cons_succ] at H)
  clear hb1
  generalize w.heap.size = x at *
  go_wp2_with ((with_reducible show wpList _ _ _ (⟨_, .store _ (.tmp 2) _, _, _, _, _⟩ :: _) _ _); (refine wpList_store_blk rfl rowShp2 (.tmp 2) (.tmp 9) rfl _ rfl (H.out.blk 0 rfl) rfl (#[.slice none 0 0, .int .i64 0]) rfl rfl (by simp [Value.oneCell']) ?_; intro wq bq hgq; replace H := Lib.hid (H.out.setBlk 0 rfl hgq bq); (try simp only [List.set_cons_zero, List.set_cons_succ, List.cons_append, List.nil_append, List.eraseIdx_cons_zero, List.eraseIdx_cons_succ, List.setIfInBounds_toArray, World.size_alloc, selR, List.getD_cons_zero, List.getD_cons_succ] at H); clear hgq bq))
  refine bodyPost_ret (results_blk1 rfl rowShp2 rfl (H.out.blk 0 rfl) rfl) rfl ?_
  exact ⟨rfl, H.out.to⟩
/-- The shape of the chapters' examples: one tier of one member, one measure. -/
abbrev exShp (a b : Nat) : Shp := ⟨⟨some ⟨b, 0, none⟩, 1, 1, [⟨some ⟨a, 0, none⟩, 1, 1, [1]⟩]⟩, 1⟩
theorem ex_shp {S : Nat → Prop} {w0 w : World} {l : List Res} (H : SL S w0 w l) {a b : Nat} (i j : Nat) (hi : l[i]? = some (rBlk a 3 #[.int .i64 1])) (hj : l[j]? = some (rBlk b 59 #[.slice (some ⟨a, 0, none⟩) 1 1])) : (exShp a b).rd w := by
  refine ⟨⟨reads_of_block (H.blk j hj) rfl, fun y hy => ?_, by show (1 : Nat) ≤ _; omega⟩, by unfold I64; simp only; omega⟩
  simp only [List.mem_singleton] at hy
  subst hy
  exact ⟨reads_of_block (H.blk i hi) rfl, fun z hz => by simp only [List.mem_singleton] at hz; subst hz; show I64 1; unfold I64; omega, Nat.le_refl _, by show (1 : Nat) ≤ _; unfold maxLen; omega, by show 1 * 8 ≤ _; omega⟩
set_option maxRecDepth 100000 in
theorem alen_any (b : Nat) (A D : Option Addr) (n c m d : Nat) (w : World) (hn : 0 < n) (hc : w.cell? ⟨b, 0, none⟩ = some (.slice A n c)) (hd : w.cell? ⟨b, 2, none⟩ = some (.slice D m d)) : Calls Try.prog 106 #[.pointer (some ⟨b, 0, none⟩)] w fun e w' => e = .returned (.int .i64 m) ∧ Bel w w' := by
  go_enter Try.func106, Try.ntmps106
  go_wp2_with fail
  refine (there_yes b A n c w hn hc).mono ?_; rintro e w1 ⟨rfl, hb1⟩
  have hd1 : w1.cell? ⟨b, 2, none⟩ = some (.slice D m d) := (hb1.cell (p := ⟨b, 2, none⟩) (World.block_lt_of_cell? _ _ hd)).trans hd
  go_wp2
  go_ret
  exact ⟨rfl, hb1⟩
set_option maxRecDepth 100000 in
theorem atop_any (b : Nat) (A D : Option Addr) (n c m d : Nat) (w : World) (hn : 0 < n) (hm : m ≤ 1000000) (hc : w.cell? ⟨b, 0, none⟩ = some (.slice A n c)) (hd : w.cell? ⟨b, 2, none⟩ = some (.slice D m d)) : Calls Try.prog 90 #[.pointer (some ⟨b, 0, none⟩)] w fun e w' => e = .returned (.int .i64 (m - 1)) ∧ Bel w w' := by
  go_enter Try.func90, Try.ntmps90
  go_wp2_with fail
  refine (alen_any b A D n c m d w hn hc hd).mono ?_; rintro e w1 ⟨rfl, hb1⟩
  go_wp2
  go_ret
  exact ⟨rfl, hb1⟩
theorem exShape : shapeOk [[1]] 1 = true := by decide
end Go.Proofs.Ytlclllkjnhgbjaa

namespace Go.Proofs.Ytlclllkjnhgbjaa
open Go.RowKit
set_option linter.unusedVariables false
set_option linter.unusedSimpArgs false


theorem own_emptyC (w : World) (e : TypeId) (size : Nat) : (w.alloc (.cells #[] e)).ownsRow w.heap.size e size (.slice (some ⟨w.heap.size, 0, none⟩) 0 0) 0 [] :=
  World.ownsRow_made w #[] 0 (Nat.le_refl _) (by unfold maxLen; omega) (by simp)
theorem cls_one (l : List Cl) : ∀ u ∈ (l.flatMap Cel.cells : List Value), u.oneCell' = true := fun u hu => by
  obtain ⟨c, _, hc⟩ := List.mem_flatMap.1 hu
  exact Array.all_eq_true_iff_forall_mem.1 (cl_one c) u (by simpa [Cel.cells] using hc)
set_option maxRecDepth 100000 in
set_option maxHeartbeats 1000000 in
theorem clclone_any (x : Row Cl) (w : World) (hx : x.rd w) (hn : x.n ≤ 1000000) :
    Calls Try.prog 93 #[.slice x.A x.n x.c] w fun e w' => ∃ (A : Option Addr) (c : Nat), e = .returned (.slice A x.n c) ∧ Bel w w' ∧ w'.ownsRow w.heap.size 32 12 (.slice A x.n c) x.n (x.l.flatMap Cel.cells) := by
  have hr : Rd w 12 x.A x.n (x.l.flatMap Cel.cells) := hx.r
  have hlen : Hid (x.l.length = x.n) := hx.len
  obtain ⟨A, n, c, l⟩ := x
  simp only at *
  clear hx
  cases A with
  | none =>
    obtain rfl : n = 0 := by
      rcases Nat.eq_zero_or_pos n with h | h
      · exact h
      · obtain ⟨ad, e, _⟩ := hr.2 (by omega); cases e
    have hl : l = [] := List.eq_nil_of_length_eq_zero hlen.out
    subst hl
    have he := fun (c : Nat) (w : World) => Lib.run_eql_slice_nil (P := Try.prog) w 44 32 none 0 c 0 0 Try.underlying44
    go_enter Try.func93, Try.ntmps93
    go_wp2
    go_ret
    exact ⟨none, 0, rfl, Bel.refl _, World.ownsRow_nil _ _ _ _⟩
  | some ad =>
    have he := fun (n c : Nat) (w : World) => Lib.run_eql_slice_nil (P := Try.prog) w 44 32 (some ad) n c 0 0 Try.underlying44
    have HRR := Lib.hid (fun w' (hb : Bel w w') => hr.bel hb)
    have H := Lib.hid ((SL.start No w).addRow ((Bel.refl _).alloc _) (own_emptyC w 32 12))
    (try simp only [List.set_cons_zero, List.set_cons_succ, List.cons_append, List.nil_append, List.eraseIdx_cons_zero, List.eraseIdx_cons_succ, List.setIfInBounds_toArray, World.size_alloc, selR, List.getD_cons_zero, List.getD_cons_succ] at H)
    go_enter Try.func93, Try.ntmps93
    go_wp2_with ((with_reducible show wpList _ _ _ (⟨some 7, _, _, _, _, _⟩ :: _) _ _); (refine wpList_append0 rfl (.tmp 5) (.tmp 6) _ rfl E_cl 0 (Nat.zero_le _) _ 0 _ rfl (H.out.row 0 rfl) (some ad) n c (l.flatMap Cel.cells) rfl (HRR.out _ H.out.to) (cls_one l) (by unfold maxLen; omega) (by omega) ?_; intro vq wq howq hgq hatq; replace H := Lib.hid (H.out.setRow 0 rfl hgq howq hatq); (try simp only [List.set_cons_zero, List.set_cons_succ, List.cons_append, List.nil_append, List.eraseIdx_cons_zero, List.eraseIdx_cons_succ, List.setIfInBounds_toArray, World.size_alloc, selR, List.getD_cons_zero, List.getD_cons_succ] at H); clear howq hgq hatq; obtain ⟨A2, c2, rfl, _⟩ := own_slice (H.out.row 0 rfl); simp only [Nat.zero_add, List.nil_append] at H ⊢))
    go_ret
    exact ⟨A2, c2, rfl, H.out.to, H.out.rowB 0 rfl⟩
/-- A row of cells of the call's own. -/
abbrev rCs (x : Row Cl) : Res := rRow 32 12 (.slice x.A x.n x.c) x.n (x.l.flatMap Cel.cells)
def ClonePost (n : Nd) (w : World) (e : Ending) (w' : World) : Prop :=
  ∃ (A : Option Addr) (c : Nat) (L : List (Row Cl)), e = .returned (.agg (Nd.mk n.dim ⟨A, n.ls.n, c, L⟩ n.all).cs) ∧ L.map Row.l = n.ls.l.map Row.l ∧ (∀ x ∈ L, x.n ≤ 1000000 ∧ ∀ c ∈ x.l, c.ok) ∧ L.length = n.ls.n ∧ SL No w w' [rRow 44 1 (.slice A n.ls.n c) n.ls.n (L.map Row.v), rListD rCs L]
set_option maxRecDepth 100000 in
set_option maxHeartbeats 4000000 in
theorem nclone_any (n : Nd) (w : World) (hn : n.rd w) (hb1 : n.ls.n ≤ 1000000) (hb2 : ∀ x ∈ n.ls.l, x.n ≤ 1000000) :
    Calls Try.prog 63 #[.agg n.cs] w (ClonePost n w) := by
  have H := Lib.hid (((SL.start No w).alloc n.cs 34).alloc #[.int .i64 0, .slice none 0 0, .int .i64 0, .int .i64 0, .int .i64 0, .int .i64 0, .int .i64 0, .int .i64 0, .int .i64 0, .int .i64 0, .int .i64 0, .int .i64 0, .int .i64 0, .int .i64 0] 34)
  (try simp only [List.set_cons_zero, List.set_cons_succ, List.cons_append, List.nil_append, List.eraseIdx_cons_zero, List.eraseIdx_cons_succ, List.setIfInBounds_toArray, World.size_alloc, selR, List.getD_cons_zero, List.getD_cons_succ] at H)
  have HN := Lib.hid (fun w' (hb : Bel w w') => hn.ls.mono hb)
  have hll : Hid (n.ls.l.length = n.ls.n) := hn.ls.len
  have HB2 := Lib.hid hb2
  clear hn hb2
  go_enter Try.func63, Try.ntmps63
  go_upto_region 1 with fail
  generalize w.heap.size + 1 = y at *
  generalize w.heap.size = x at *
  generalize World.alloc (World.alloc _ _) _ = w1 at *
  have cd : w1.cell? ⟨x, 0, none⟩ = some (.int .i64 n.dim) := (H.out.blk 0 rfl).cell 0
  have HAL : Hid (w1.rangeAt x 2 n.all.cs.toList) := fun j v hv => by
    have := (H.out.blk 0 rfl).range (j + 2) v (by rw [nd_all]; exact hv)
    rw [show 0 + (j + 2) = 2 + j by omega] at this
    exact this
  have hbd : ∀ w : World, (Instr.build 34 #[(0, .int .i64 n.dim), (2, .agg n.all.cs)]).run Try.prog w = .ok (.agg (Nd.mk n.dim ⟨none, 0, 0, []⟩ n.all).cs) w := fun _ => by kernel_rfl
  go_upto_region 2 with (first | ((with_reducible show wpList _ _ _ (⟨some 9, _, _, _, _, _⟩ :: _) _ _); (refine wpList_load_row_at rfl rowCl (.tmp 8) rfl x (2) rfl n.all.cs rfl HAL.out ?_)) | ((with_reducible show wpList _ _ _ (⟨some 10, _, _, _, _, _⟩ :: _) _ _); refine wpList_build2N rfl (.tmp 7) (.tmp 9) rfl rfl rfl hbd ?_) | ((with_reducible show wpList _ _ _ (⟨_, .store _ (.tmp 3) _, _, _, _, _⟩ :: _) _ _); (refine wpList_store_new rfl rowNd (.tmp 3) (.tmp 10) rfl rfl rfl ((Nd.mk n.dim ⟨none, 0, 0, []⟩ n.all).cs) rfl rfl (nd_one _) ?_; replace H := Lib.hid (H.out.alloc ((Nd.mk n.dim ⟨none, 0, 0, []⟩ n.all).cs) 34); (try simp only [List.set_cons_zero, List.set_cons_succ, List.cons_append, List.nil_append, List.eraseIdx_cons_zero, List.eraseIdx_cons_succ, List.setIfInBounds_toArray, World.size_alloc, selR, List.getD_cons_zero, List.getD_cons_succ] at H))))
  (try simp only [Act.put, List.setIfInBounds_toArray, List.set_cons_zero, List.set_cons_succ])
  clear cd HAL hbd
  generalize w1.heap.size = z at *
  generalize World.alloc w1 _ = w2 at *
  replace H := Lib.hid (H.out.addNil 44 1); (try simp only [List.set_cons_zero, List.set_cons_succ, List.cons_append, List.nil_append, List.eraseIdx_cons_zero, List.eraseIdx_cons_succ, List.setIfInBounds_toArray, World.size_alloc, selR, List.getD_cons_zero, List.getD_cons_succ] at H)
  replace H := Lib.hid (H.out.add (Bel.refl _) (rListD rCs []) (holds_listD_nil _ _) listD_nil_D); (try simp only [List.set_cons_zero, List.set_cons_succ, List.cons_append, List.nil_append, List.eraseIdx_cons_zero, List.eraseIdx_cons_succ, List.setIfInBounds_toArray, World.size_alloc, selR, List.getD_cons_zero, List.getD_cons_succ] at H)
  have cl : w2.cell? ⟨x, 1, none⟩ = some (.slice n.ls.A n.ls.n n.ls.c) := (H.out.blk 0 rfl).cell 1
  have HL : Hid (([] : List (Row Cl)).map Row.l = (n.ls.l.map Row.l).take 0) := rfl
  have HLB : Hid (∀ x ∈ ([] : List (Row Cl)), x.n ≤ 1000000 ∧ ∀ c ∈ x.l, c.ok) := fun x hx => by cases hx
  go_upto_region 3 with fail
  clear cl
  go_loopg [14] n.ls.n (fun gg s14 wr => ∃ (k : Nat) (B : Option Addr) (d : Nat) (L : List (Row Cl)), gg = n.ls.n - k ∧ k ≤ n.ls.n ∧ s14 = .int .i64 k ∧ Hid (L.length = k) ∧ Hid (SL No w wr [rBlk x 34 n.cs, rBlk y 34 Nd.nil.cs, rBlk z 34 (Nd.mk n.dim ⟨B, k, d, L⟩ n.all).cs, rRow 44 1 (.slice B k d) k (L.map Row.v), rListD rCs L]) ∧ Hid (L.map Row.l = (n.ls.l.map Row.l).take k) ∧ Hid (∀ x ∈ L, x.n ≤ 1000000 ∧ ∀ c ∈ x.l, c.ok))
  case atStart => exact ⟨0, none, 0, [], rfl, by omega, rfl, rfl, H, HL, HLB⟩
  case round =>
    clear H HL HLB
    obtain ⟨k, B, d, L, hgk, hk, rfl, hLk, H, HL, HLB⟩ := hrel
    have Hgk := Lib.hid hgk
    clear hgk
    by_cases hlt : k < n.ls.n
    · obtain ⟨bl, ol, v, hAl, hvk, hvok, hvc⟩ := (HN.out _ H.out.to).clsAt (k := k) hlt
      have hvn := HB2.out v (List.mem_of_getElem? hvk)
      have HTK := Lib.hid (take_snoc_get (l := n.ls.l.map Row.l) (k := k) (x := v.l) (by rw [List.getElem?_map, hvk]; rfl))
      have hvm := List.mem_of_getElem? hvk
      have HCL := Lib.hid (fun w' (hb : Bel w w') => clclone_any v w' (Row.ok.rds ((HN.out w' hb).all v hvm)) hvn)
      have HAL := Lib.hid hAl
      have HVO := Lib.hid hvok.all
      have k0 : (0 : Int) ≤ k := by omega
      have k1 : (k : Int) < n.ls.n := by omega
      have HL2 : Hid (∀ CA cc, (L ++ [Row.mk CA v.n cc v.l]).map Row.l = (n.ls.l.map Row.l).take (k + 1)) := fun CA cc => by rw [HTK.out, List.map_append, HL.out]; rfl
      have HLB2 : Hid (∀ CA cc, ∀ x ∈ L ++ [Row.mk CA v.n cc v.l], x.n ≤ 1000000 ∧ ∀ c ∈ x.l, c.ok) := fun CA cc x hx => by
        rcases List.mem_append.1 hx with h | h
        · exact HLB.out x h
        · rw [List.mem_singleton] at h
          subst h
          exact ⟨hvn, HVO.out⟩
      rw [hAl]
      clear hvk hvok HTK HL HLB HVO hvm
      go_upto_region 5 with fail
      clear hvc
      refine wp_region_held_drew (S := fun _ => True) (by kernel_rfl) trivial (fun hHeld => ?_)
      replace H := Lib.hid (H.out.drew); (try simp only [List.set_cons_zero, List.set_cons_succ, List.cons_append, List.nil_append, List.eraseIdx_cons_zero, List.eraseIdx_cons_succ, List.setIfInBounds_toArray, World.size_alloc, selR, List.getD_cons_zero, List.getD_cons_succ] at H)
      generalize World.drew _ = w8 at *
      refine wpAnyH_take (i := 0) (v := ?vq6_0) (get_o0) (by kernel_rfl) (by kernel_rfl) (by kernel_rfl) (by exact fun _ _ _ h => h) (Or.inl ⟨by rfl, ?hyq6_0⟩) (by assumption) ?_
      case hyq6_0 => (intro w hSw; (try dsimp only at hSw); go_simp) <;> with_reducible rfl
      try simp only [Act.put, List.setIfInBounds_toArray, List.set_cons_zero, List.set_cons_succ]
      refine wpAnyH_take (i := 2) (v := ?vq6_2) (get_os (get_os (get_o0))) (by kernel_rfl) (by kernel_rfl) (by kernel_rfl) (by exact fun _ _ _ h => h) (Or.inl ⟨by rfl, ?hyq6_2⟩) (by assumption) ?_
      case hyq6_2 => (intro w hSw; (try dsimp only at hSw); go_simp) <;> with_reducible rfl
      try simp only [Act.put, List.setIfInBounds_toArray, List.set_cons_zero, List.set_cons_succ]
      refine wpAnyH_ready (rs := [1, 3]) (by kernel_rfl) (by simp) ?_
      refine (AllReadyH.cons (get_os (get_o0)) (fun KK hKK => ?_) (AllReadyH.cons (get_os (get_os (get_os (get_o0)))) (fun KK hKK => ?_) AllReadyH.nil))
      · have ca1 := (H.out.blk 2 rfl).cell 1; simp only [List.getElem?_toArray, List.getElem?_cons_zero, List.getElem?_cons_succ] at ca1
        go_simp
        clear ca1
        refine hKK.out _ _ trivial (fun hHeld => ?_)
        clear hKK KK
        try simp only [Act.put, List.setIfInBounds_toArray, List.set_cons_zero, List.set_cons_succ]
        refine wpAnyH_ready (rs := [3]) (by kernel_rfl) (by simp) ?_
        refine (AllReadyH.cons (get_os (get_os (get_os (get_o0)))) (fun KK hKK => ?_) AllReadyH.nil)
        go_simp
        refine (HCL.out _ H.out.to).mono ?_; rintro e' w9 ⟨CA, cc, rfl, hb9, ho9⟩
        replace H := Lib.hid (H.out.addRow hb9 ho9); (try simp only [List.set_cons_zero, List.set_cons_succ, List.cons_append, List.nil_append, List.eraseIdx_cons_zero, List.eraseIdx_cons_succ, List.setIfInBounds_toArray, World.size_alloc, selR, List.getD_cons_zero, List.getD_cons_succ] at H)
        clear hb9 ho9
        refine hKK.out _ _ trivial (fun hHeld => ?_)
        clear hKK KK
        try simp only [Act.put, List.setIfInBounds_toArray, List.set_cons_zero, List.set_cons_succ]
        refine wpAnyH_ready (rs := [4]) (by kernel_rfl) (by simp) ?_
        refine (AllReadyH.cons (get_os (get_os (get_os (get_os (get_o0))))) (fun KK hKK => ?_) AllReadyH.nil)
        refine step_buildSlice1v rfl E_cls (.tmp 21) rfl (.slice CA v.n cc) rfl #[.slice CA v.n cc] rfl rfl (by omega) ?_
        replace H := Lib.hid (H.out.alloc #[.slice CA v.n cc] 44); (try simp only [List.set_cons_zero, List.set_cons_succ, List.cons_append, List.nil_append, List.eraseIdx_cons_zero, List.eraseIdx_cons_succ, List.setIfInBounds_toArray, World.size_alloc, selR, List.getD_cons_zero, List.getD_cons_succ] at H)
        refine hKK.out _ _ trivial (fun hHeld => ?_)
        clear hKK KK
        try simp only [Act.put, List.setIfInBounds_toArray, List.set_cons_zero, List.set_cons_succ]
        refine wpAnyH_ready (rs := [5]) (by kernel_rfl) (by simp) ?_
        refine (AllReadyH.cons (get_os (get_os (get_os (get_os (get_os (get_o0)))))) (fun KK hKK => ?_) AllReadyH.nil)
        refine step_append0 rfl (.tmp 19) (.tmp 22) _ rfl E_cls 0 (Nat.zero_le _) _ k _ rfl (H.out.row 3 rfl) _ 1 1 [.slice CA v.n cc] rfl (reads_of_block (H.out.blk 6 rfl) rfl) (by simp [Value.oneCell']) (by unfold maxLen; omega) (by omega) ?_
        intro vq wq howq hgq hatq
        replace H := Lib.hid (H.out.setRow 3 rfl hgq howq hatq); (try simp only [List.set_cons_zero, List.set_cons_succ, List.cons_append, List.nil_append, List.eraseIdx_cons_zero, List.eraseIdx_cons_succ, List.setIfInBounds_toArray, World.size_alloc, selR, List.getD_cons_zero, List.getD_cons_succ] at H)
        clear howq hgq hatq
        obtain ⟨A2, c2, rfl, _⟩ := own_slice (H.out.row 3 rfl)
        refine hKK.out _ _ trivial (fun hHeld => ?_)
        clear hKK KK
        try simp only [Act.put, List.setIfInBounds_toArray, List.set_cons_zero, List.set_cons_succ]
        refine wpAnyH_take (i := 6) (v := ?vq7_) (get_os (get_os (get_os (get_os (get_os (get_os (get_o0))))))) (by kernel_rfl) (by kernel_rfl) (by kernel_rfl) (by exact fun _ _ _ h => h) (Or.inl ⟨by rfl, ?hyq7_⟩) (by assumption) ?_
        case hyq7_ => (intro w hSw; (try dsimp only at hSw); go_simp) <;> with_reducible rfl
        try simp only [Act.put, List.setIfInBounds_toArray, List.set_cons_zero, List.set_cons_succ]
        refine wpAnyH_ready (rs := [7]) (by kernel_rfl) (by simp) ?_
        refine (AllReadyH.cons (get_os (get_os (get_os (get_os (get_os (get_os (get_os (get_o0)))))))) (fun KK hKK => ?_) AllReadyH.nil)
        have ca7 := (H.out.blk 2 rfl).cell 1; simp only [List.getElem?_toArray, List.getElem?_cons_zero, List.getElem?_cons_succ] at ca7; have fa7 := (H.out.blk 2 rfl).frozen 1
        go_simp
        replace H := Lib.hid (H.out.setCell 2 rfl 1 (.slice A2 (k + 1) c2)); (try simp only [List.set_cons_zero, List.set_cons_succ, List.cons_append, List.nil_append, List.eraseIdx_cons_zero, List.eraseIdx_cons_succ, List.setIfInBounds_toArray, World.size_alloc, selR, List.getD_cons_zero, List.getD_cons_succ] at H)
        clear ca7 fa7
        refine hKK.out _ _ trivial (fun hHeld => ?_)
        clear hKK KK
        try simp only [Act.put, List.setIfInBounds_toArray, List.set_cons_zero, List.set_cons_succ]
        refine wpAnyH_done (by kernel_rfl) ?_ _
        clear hHeld
        replace H := Lib.hid (H.out.snocD 4 5 (a := ⟨CA, v.n, cc, v.l⟩) (by omega) rfl rfl); (try simp only [List.set_cons_zero, List.set_cons_succ, List.cons_append, List.nil_append, List.eraseIdx_cons_zero, List.eraseIdx_cons_succ, List.setIfInBounds_toArray, World.size_alloc, selR, List.getD_cons_zero, List.getD_cons_succ] at H)
        replace H := Lib.hid (H.out.sel [0, 1, 2, 3, 4] (by decide) (by simp)); (try simp only [List.set_cons_zero, List.set_cons_succ, List.cons_append, List.nil_append, List.eraseIdx_cons_zero, List.eraseIdx_cons_succ, List.setIfInBounds_toArray, World.size_alloc, selR, List.getD_cons_zero, List.getD_cons_succ] at H)
        clear HCL
        go_wp2_with fail
        rw [← HAL.out]
        go_roundg (n.ls.n - (k + 1))
        case rel => exact ⟨k + 1, A2, c2, L ++ [⟨CA, v.n, cc, v.l⟩], rfl, by omega, by go_num, by show _ = _; rw [List.length_append, hLk.out]; rfl, by rw [List.map_append]; exact H, Lib.hid (HL2.out CA cc), Lib.hid (HLB2.out CA cc)⟩
        case measure => rw [Hgk.out]; omega
      · go_simp
        refine (HCL.out _ H.out.to).mono ?_; rintro e' w9 ⟨CA, cc, rfl, hb9, ho9⟩
        replace H := Lib.hid (H.out.addRow hb9 ho9); (try simp only [List.set_cons_zero, List.set_cons_succ, List.cons_append, List.nil_append, List.eraseIdx_cons_zero, List.eraseIdx_cons_succ, List.setIfInBounds_toArray, World.size_alloc, selR, List.getD_cons_zero, List.getD_cons_succ] at H)
        clear hb9 ho9
        refine hKK.out _ _ trivial (fun hHeld => ?_)
        clear hKK KK
        try simp only [Act.put, List.setIfInBounds_toArray, List.set_cons_zero, List.set_cons_succ]
        refine wpAnyH_ready (rs := [1, 4]) (by kernel_rfl) (by simp) ?_
        refine (AllReadyH.cons (get_os (get_o0)) (fun KK hKK => ?_) (AllReadyH.cons (get_os (get_os (get_os (get_os (get_o0))))) (fun KK hKK => ?_) AllReadyH.nil))
        · have ca1 := (H.out.blk 2 rfl).cell 1; simp only [List.getElem?_toArray, List.getElem?_cons_zero, List.getElem?_cons_succ] at ca1
          go_simp
          clear ca1
          refine hKK.out _ _ trivial (fun hHeld => ?_)
          clear hKK KK
          try simp only [Act.put, List.setIfInBounds_toArray, List.set_cons_zero, List.set_cons_succ]
          refine wpAnyH_ready (rs := [4]) (by kernel_rfl) (by simp) ?_
          refine (AllReadyH.cons (get_os (get_os (get_os (get_os (get_o0))))) (fun KK hKK => ?_) AllReadyH.nil)
          refine step_buildSlice1v rfl E_cls (.tmp 21) rfl (.slice CA v.n cc) rfl #[.slice CA v.n cc] rfl rfl (by omega) ?_
          replace H := Lib.hid (H.out.alloc #[.slice CA v.n cc] 44); (try simp only [List.set_cons_zero, List.set_cons_succ, List.cons_append, List.nil_append, List.eraseIdx_cons_zero, List.eraseIdx_cons_succ, List.setIfInBounds_toArray, World.size_alloc, selR, List.getD_cons_zero, List.getD_cons_succ] at H)
          refine hKK.out _ _ trivial (fun hHeld => ?_)
          clear hKK KK
          try simp only [Act.put, List.setIfInBounds_toArray, List.set_cons_zero, List.set_cons_succ]
          refine wpAnyH_ready (rs := [5]) (by kernel_rfl) (by simp) ?_
          refine (AllReadyH.cons (get_os (get_os (get_os (get_os (get_os (get_o0)))))) (fun KK hKK => ?_) AllReadyH.nil)
          refine step_append0 rfl (.tmp 19) (.tmp 22) _ rfl E_cls 0 (Nat.zero_le _) _ k _ rfl (H.out.row 3 rfl) _ 1 1 [.slice CA v.n cc] rfl (reads_of_block (H.out.blk 6 rfl) rfl) (by simp [Value.oneCell']) (by unfold maxLen; omega) (by omega) ?_
          intro vq wq howq hgq hatq
          replace H := Lib.hid (H.out.setRow 3 rfl hgq howq hatq); (try simp only [List.set_cons_zero, List.set_cons_succ, List.cons_append, List.nil_append, List.eraseIdx_cons_zero, List.eraseIdx_cons_succ, List.setIfInBounds_toArray, World.size_alloc, selR, List.getD_cons_zero, List.getD_cons_succ] at H)
          clear howq hgq hatq
          obtain ⟨A2, c2, rfl, _⟩ := own_slice (H.out.row 3 rfl)
          refine hKK.out _ _ trivial (fun hHeld => ?_)
          clear hKK KK
          try simp only [Act.put, List.setIfInBounds_toArray, List.set_cons_zero, List.set_cons_succ]
          refine wpAnyH_take (i := 6) (v := ?vq8_) (get_os (get_os (get_os (get_os (get_os (get_os (get_o0))))))) (by kernel_rfl) (by kernel_rfl) (by kernel_rfl) (by exact fun _ _ _ h => h) (Or.inl ⟨by rfl, ?hyq8_⟩) (by assumption) ?_
          case hyq8_ => (intro w hSw; (try dsimp only at hSw); go_simp) <;> with_reducible rfl
          try simp only [Act.put, List.setIfInBounds_toArray, List.set_cons_zero, List.set_cons_succ]
          refine wpAnyH_ready (rs := [7]) (by kernel_rfl) (by simp) ?_
          refine (AllReadyH.cons (get_os (get_os (get_os (get_os (get_os (get_os (get_os (get_o0)))))))) (fun KK hKK => ?_) AllReadyH.nil)
          have ca7 := (H.out.blk 2 rfl).cell 1; simp only [List.getElem?_toArray, List.getElem?_cons_zero, List.getElem?_cons_succ] at ca7; have fa7 := (H.out.blk 2 rfl).frozen 1
          go_simp
          replace H := Lib.hid (H.out.setCell 2 rfl 1 (.slice A2 (k + 1) c2)); (try simp only [List.set_cons_zero, List.set_cons_succ, List.cons_append, List.nil_append, List.eraseIdx_cons_zero, List.eraseIdx_cons_succ, List.setIfInBounds_toArray, World.size_alloc, selR, List.getD_cons_zero, List.getD_cons_succ] at H)
          clear ca7 fa7
          refine hKK.out _ _ trivial (fun hHeld => ?_)
          clear hKK KK
          try simp only [Act.put, List.setIfInBounds_toArray, List.set_cons_zero, List.set_cons_succ]
          refine wpAnyH_done (by kernel_rfl) ?_ _
          clear hHeld
          replace H := Lib.hid (H.out.snocD 4 5 (a := ⟨CA, v.n, cc, v.l⟩) (by omega) rfl rfl); (try simp only [List.set_cons_zero, List.set_cons_succ, List.cons_append, List.nil_append, List.eraseIdx_cons_zero, List.eraseIdx_cons_succ, List.setIfInBounds_toArray, World.size_alloc, selR, List.getD_cons_zero, List.getD_cons_succ] at H)
          replace H := Lib.hid (H.out.sel [0, 1, 2, 3, 4] (by decide) (by simp)); (try simp only [List.set_cons_zero, List.set_cons_succ, List.cons_append, List.nil_append, List.eraseIdx_cons_zero, List.eraseIdx_cons_succ, List.setIfInBounds_toArray, World.size_alloc, selR, List.getD_cons_zero, List.getD_cons_succ] at H)
          clear HCL
          go_wp2_with fail
          rw [← HAL.out]
          go_roundg (n.ls.n - (k + 1))
          case rel => exact ⟨k + 1, A2, c2, L ++ [⟨CA, v.n, cc, v.l⟩], rfl, by omega, by go_num, by show _ = _; rw [List.length_append, hLk.out]; rfl, by rw [List.map_append]; exact H, Lib.hid (HL2.out CA cc), Lib.hid (HLB2.out CA cc)⟩
          case measure => rw [Hgk.out]; omega
        · refine step_buildSlice1v rfl E_cls (.tmp 21) rfl (.slice CA v.n cc) rfl #[.slice CA v.n cc] rfl rfl (by omega) ?_
          replace H := Lib.hid (H.out.alloc #[.slice CA v.n cc] 44); (try simp only [List.set_cons_zero, List.set_cons_succ, List.cons_append, List.nil_append, List.eraseIdx_cons_zero, List.eraseIdx_cons_succ, List.setIfInBounds_toArray, World.size_alloc, selR, List.getD_cons_zero, List.getD_cons_succ] at H)
          refine hKK.out _ _ trivial (fun hHeld => ?_)
          clear hKK KK
          try simp only [Act.put, List.setIfInBounds_toArray, List.set_cons_zero, List.set_cons_succ]
          refine wpAnyH_ready (rs := [1]) (by kernel_rfl) (by simp) ?_
          refine (AllReadyH.cons (get_os (get_o0)) (fun KK hKK => ?_) AllReadyH.nil)
          have ca1 := (H.out.blk 2 rfl).cell 1; simp only [List.getElem?_toArray, List.getElem?_cons_zero, List.getElem?_cons_succ] at ca1
          go_simp
          clear ca1
          refine hKK.out _ _ trivial (fun hHeld => ?_)
          clear hKK KK
          try simp only [Act.put, List.setIfInBounds_toArray, List.set_cons_zero, List.set_cons_succ]
          refine wpAnyH_ready (rs := [5]) (by kernel_rfl) (by simp) ?_
          refine (AllReadyH.cons (get_os (get_os (get_os (get_os (get_os (get_o0)))))) (fun KK hKK => ?_) AllReadyH.nil)
          refine step_append0 rfl (.tmp 19) (.tmp 22) _ rfl E_cls 0 (Nat.zero_le _) _ k _ rfl (H.out.row 3 rfl) _ 1 1 [.slice CA v.n cc] rfl (reads_of_block (H.out.blk 6 rfl) rfl) (by simp [Value.oneCell']) (by unfold maxLen; omega) (by omega) ?_
          intro vq wq howq hgq hatq
          replace H := Lib.hid (H.out.setRow 3 rfl hgq howq hatq); (try simp only [List.set_cons_zero, List.set_cons_succ, List.cons_append, List.nil_append, List.eraseIdx_cons_zero, List.eraseIdx_cons_succ, List.setIfInBounds_toArray, World.size_alloc, selR, List.getD_cons_zero, List.getD_cons_succ] at H)
          clear howq hgq hatq
          obtain ⟨A2, c2, rfl, _⟩ := own_slice (H.out.row 3 rfl)
          refine hKK.out _ _ trivial (fun hHeld => ?_)
          clear hKK KK
          try simp only [Act.put, List.setIfInBounds_toArray, List.set_cons_zero, List.set_cons_succ]
          refine wpAnyH_take (i := 6) (v := ?vq9_) (get_os (get_os (get_os (get_os (get_os (get_os (get_o0))))))) (by kernel_rfl) (by kernel_rfl) (by kernel_rfl) (by exact fun _ _ _ h => h) (Or.inl ⟨by rfl, ?hyq9_⟩) (by assumption) ?_
          case hyq9_ => (intro w hSw; (try dsimp only at hSw); go_simp) <;> with_reducible rfl
          try simp only [Act.put, List.setIfInBounds_toArray, List.set_cons_zero, List.set_cons_succ]
          refine wpAnyH_ready (rs := [7]) (by kernel_rfl) (by simp) ?_
          refine (AllReadyH.cons (get_os (get_os (get_os (get_os (get_os (get_os (get_os (get_o0)))))))) (fun KK hKK => ?_) AllReadyH.nil)
          have ca7 := (H.out.blk 2 rfl).cell 1; simp only [List.getElem?_toArray, List.getElem?_cons_zero, List.getElem?_cons_succ] at ca7; have fa7 := (H.out.blk 2 rfl).frozen 1
          go_simp
          replace H := Lib.hid (H.out.setCell 2 rfl 1 (.slice A2 (k + 1) c2)); (try simp only [List.set_cons_zero, List.set_cons_succ, List.cons_append, List.nil_append, List.eraseIdx_cons_zero, List.eraseIdx_cons_succ, List.setIfInBounds_toArray, World.size_alloc, selR, List.getD_cons_zero, List.getD_cons_succ] at H)
          clear ca7 fa7
          refine hKK.out _ _ trivial (fun hHeld => ?_)
          clear hKK KK
          try simp only [Act.put, List.setIfInBounds_toArray, List.set_cons_zero, List.set_cons_succ]
          refine wpAnyH_done (by kernel_rfl) ?_ _
          clear hHeld
          replace H := Lib.hid (H.out.snocD 4 5 (a := ⟨CA, v.n, cc, v.l⟩) (by omega) rfl rfl); (try simp only [List.set_cons_zero, List.set_cons_succ, List.cons_append, List.nil_append, List.eraseIdx_cons_zero, List.eraseIdx_cons_succ, List.setIfInBounds_toArray, World.size_alloc, selR, List.getD_cons_zero, List.getD_cons_succ] at H)
          replace H := Lib.hid (H.out.sel [0, 1, 2, 3, 4] (by decide) (by simp)); (try simp only [List.set_cons_zero, List.set_cons_succ, List.cons_append, List.nil_append, List.eraseIdx_cons_zero, List.eraseIdx_cons_succ, List.setIfInBounds_toArray, World.size_alloc, selR, List.getD_cons_zero, List.getD_cons_succ] at H)
          clear HCL
          go_wp2_with fail
          rw [← HAL.out]
          go_roundg (n.ls.n - (k + 1))
          case rel => exact ⟨k + 1, A2, c2, L ++ [⟨CA, v.n, cc, v.l⟩], rfl, by omega, by go_num, by show _ = _; rw [List.length_append, hLk.out]; rfl, by rw [List.map_append]; exact H, Lib.hid (HL2.out CA cc), Lib.hid (HLB2.out CA cc)⟩
          case measure => rw [Hgk.out]; omega
    · obtain rfl : k = n.ls.n := by omega
      have HF : Hid (L.map Row.l = n.ls.l.map Row.l) := by
        show _ = _
        rw [HL.out, List.take_of_length_le (by rw [List.length_map, hll.out]; exact Nat.le_refl _)]
      go_wp2_with (first | ((with_reducible show wpList _ _ _ (⟨some 26, _, _, _, _, _⟩ :: _) _ _); (refine wpList_load_blk rfl rowNd (.tmp 3) rfl _ rfl (H.out.blk 2 rfl) rfl ?_)) | ((with_reducible show wpList _ _ _ (⟨_, .store _ (.tmp 2) _, _, _, _, _⟩ :: _) _ _); (refine wpList_store_blk rfl rowNd (.tmp 2) (.tmp 26) rfl _ rfl (H.out.blk 1 rfl) rfl ((Nd.mk n.dim ⟨B, n.ls.n, d, L⟩ n.all).cs) rfl rfl (nd_one _) ?_; intro wq bq hgq; replace H := Lib.hid (H.out.setBlk 1 rfl hgq bq); (try simp only [List.set_cons_zero, List.set_cons_succ, List.cons_append, List.nil_append, List.eraseIdx_cons_zero, List.eraseIdx_cons_succ, List.setIfInBounds_toArray, World.size_alloc, selR, List.getD_cons_zero, List.getD_cons_succ] at H); clear hgq bq)))
      refine bodyPost_ret (results_blk1 rfl rowNd rfl (H.out.blk 1 rfl) rfl) rfl ?_
      replace H := Lib.hid (H.out.sel [3, 4] (by decide) (by simp)); (try simp only [List.set_cons_zero, List.set_cons_succ, List.cons_append, List.nil_append, List.eraseIdx_cons_zero, List.eraseIdx_cons_succ, List.setIfInBounds_toArray, World.size_alloc, selR, List.getD_cons_zero, List.getD_cons_succ] at H)
      exact ⟨B, d, L, rfl, HF.out, HLB.out, hLk.out, H.out⟩

end Go.Proofs.Ytlclllkjnhgbjaa

namespace Go.Proofs.Ytlclllkjnhgbjaa
open Go.RowKit
set_option linter.unusedVariables false
set_option linter.unusedSimpArgs false

/-- Where pieces lie. -/
def DomL (m : List Res) (g : Nat) : Prop := ∃ (i : Nat) (r : Res), m[i]? = some r ∧ r.D g
theorem get_app {l m : List Res} {j : Nat} {q : Res} (hq : (l ++ m)[j]? = some q) : (l[j]? = some q ∧ j < l.length) ∨ (m[j - l.length]? = some q ∧ l.length ≤ j) := by
  rcases Nat.lt_or_ge j l.length with hj | hj
  · rw [List.getElem?_append_left hj] at hq
    exact .inl ⟨hq, hj⟩
  · rw [List.getElem?_append_right hj] at hq
    exact .inr ⟨hq, hj⟩
section
variable {S : Nat → Prop} {w0 w w' : World} {l m m' : List Res}
theorem SL.focus (h : SL S w0 w (l ++ m)) : SL (DomL m) w w m := by
  have key : ∀ (i : Nat) r, m[i]? = some r → (l ++ m)[l.length + i]? = some r := fun i r hi => by rw [List.getElem?_append_right (by omega)]; rw [show l.length + i - l.length = i by omega]; exact hi
  exact ⟨Fr.refl _ _, fun i r hi => h.all _ r (key i r hi), fun i j r q hij hi hj => h.dis (l.length + i) (l.length + j) r q (by omega) (key i r hi) (key j q hj), fun i r hi g hg => .inr ⟨i, r, hi, hg⟩⟩
theorem SL.unfocus (h : SL S w0 w (l ++ m)) (k : SL (DomL m) w w' m') : SL S w0 w' (l ++ m') := by
  have keyl : ∀ (i : Nat) r, l[i]? = some r → (l ++ m)[i]? = some r := fun i r hi => by
    have := (List.getElem?_eq_some_iff.1 hi).1
    rw [List.getElem?_append_left this]; exact hi
  have keym : ∀ (i : Nat) r, m[i]? = some r → (l ++ m)[l.length + i]? = some r := fun i r hi => by rw [List.getElem?_append_right (by omega)]; rw [show l.length + i - l.length = i by omega]; exact hi
  have keep : ∀ (i : Nat) r, l[i]? = some r → ∀ g, r.D g → ¬ DomL m g := fun i r hi g hg ⟨j, q, hj, hq⟩ => by
    have hil := (List.getElem?_eq_some_iff.1 hi).1
    exact h.dis i (l.length + j) r q (by omega) (keyl i r hi) (keym j q hj) g hg hq
  have dom : ∀ g, DomL m g → w0.heap.size ≤ g ∨ S g := fun g ⟨j, q, hj, hq⟩ => h.own _ q (keym j q hj) g hq
  refine ⟨h.fr.trans k.fr (fun g hg => (dom g hg).symm), fun i r hi => ?_, fun i j r q hij hi hj g hg hg' => ?_, fun i r hi g hg => ?_⟩
  · rcases get_app hi with ⟨hi, _⟩ | ⟨hi, _⟩
    · have h1 := h.all _ r (keyl i r hi)
      exact h1.keep k.fr.size fun g hg => k.fr.block g (h1.1 g hg) (keep i r hi g hg)
    · exact k.all _ r hi
  · have cross : ∀ (a b : Nat) r q, l[a]? = some r → m'[b]? = some q → ∀ g, r.D g → ¬ q.D g := fun a b r q ha hb g hg hg' => by
      rcases k.own b q hb g hg' with h1 | h1
      · have := (h.all _ r (keyl a r ha)).1 g hg
        omega
      · exact keep a r ha g hg h1
    rcases get_app hi with ⟨hi, _⟩ | ⟨hi, hi2⟩
    · rcases get_app hj with ⟨hj, _⟩ | ⟨hj, _⟩
      · exact h.dis i j r q hij (keyl i r hi) (keyl j q hj) g hg hg'
      · exact cross i _ r q hi hj g hg hg'
    · rcases get_app hj with ⟨hj, _⟩ | ⟨hj, hj2⟩
      · exact cross j _ q r hj hi g hg' hg
      · exact k.dis (i - l.length) (j - l.length) r q (by omega) hi hj g hg hg'
  · rcases get_app hi with ⟨hi, _⟩ | ⟨hi, _⟩
    · exact h.own i r (keyl i r hi) g hg
    · rcases k.own _ r hi g hg with h1 | h1
      · exact .inl (Nat.le_trans h.fr.size h1)
      · exact dom g h1
end

end Go.Proofs.Ytlclllkjnhgbjaa

namespace Go.Proofs.Ytlclllkjnhgbjaa
open Go.RowKit
set_option linter.unusedVariables false
set_option linter.unusedSimpArgs false


theorem own_capA {w : World} {base : Nat} {e : TypeId} {size n : Nat} {v : Value} {xs : List Value} (h : w.ownsRow base e size v n xs) : ∀ A c, v = .slice A n c → c ≤ maxLen := by
  intro A c hv
  rcases h.2 with ⟨rfl, _⟩ | ⟨g, cap, cur, rfl, _, _, _, hc, _⟩
  · injection hv with _ _ h3; rw [← h3]; exact Nat.zero_le _
  · injection hv with _ _ h3; rw [← h3]; exact hc
theorem flat_vs {α : Type} [Cel α] (l : List (Row α)) : l.flatMap Cel.cells = l.map Row.v := flat_one Row.v l
theorem own_ok {α : Type} [Cel α] {w : World} {e : TypeId} {x : Row α} (h : w.ownsRow 0 e (Cel.size α) (.slice x.A x.n x.c) x.n (x.l.flatMap Cel.cells)) (ha : ∀ a ∈ x.l, Cel.ok w a) (hb : x.n * Cel.bytes α ≤ 140737488351232) : x.ok w := by
  obtain ⟨A, c, hv, hc⟩ := own_slice h
  have hk := own_capA h _ _ rfl
  injection hv with h1 h2 h3
  exact ⟨Rd.of_own h, ha, by rw [h3]; exact hc, hk, hb⟩
theorem nd1_one (n : Nd) : ∀ u ∈ n.cs.toList, u.oneCell' = true := fun u hu => Array.all_eq_true_iff_forall_mem.1 (nd_one n) u (by simpa using hu)
/-- What a node owns. -/
abbrev rNd (n : Nd) : Res := ⟨fun g => (rRow 44 1 (.slice n.ls.A n.ls.n n.ls.c) n.ls.n (n.ls.l.map Row.v)).D g ∨ (rListD rCs n.ls.l).D g,
  fun w => ((rRow 44 1 (.slice n.ls.A n.ls.n n.ls.c) n.ls.n (n.ls.l.map Row.v)).holds w ∧ (rListD rCs n.ls.l).holds w) ∧ (I64 n.dim ∧ n.all.ok) ∧ (∀ y ∈ n.ls.l, y.n ≤ 1000000 ∧ ∀ c ∈ y.l, c.ok) ∧ n.ls.n ≤ 1000000⟩
theorem SL.mkNd {S : Nat → Prop} {w0 w : World} {l : List Res} (h : SL S w0 w l) (i j : Nat) {n : Nd} (hij : i ≠ j) (hi : l[i]? = some (rRow 44 1 (.slice n.ls.A n.ls.n n.ls.c) n.ls.n (n.ls.l.map Row.v))) (hj : l[j]? = some (rListD rCs n.ls.l))
    (h1 : I64 n.dim ∧ n.all.ok) (h2 : ∀ y ∈ n.ls.l, y.n ≤ 1000000 ∧ ∀ c ∈ y.l, c.ok) (h3 : n.ls.n ≤ 1000000) : SL S w0 w ((l.set i (rNd n)).eraseIdx j) := by
  have a := h.get i hi
  have c := h.get j hj
  exact h.both i j hij hi hj (rNd n) ⟨fun g hg => hg.elim (a.1 g) (c.1 g), fun w' hs hk => ⟨⟨a.keep hs fun g hg => hk g (.inl hg), c.keep hs fun g hg => hk g (.inr hg)⟩, h1, h2, h3⟩⟩ (fun g hg => hg)
theorem nd_of_own {w : World} {n : Nd} (h : (rNd n).holds w) : n.rd w := by
  obtain ⟨⟨h1, h2⟩, ⟨h3, h4⟩, h5, h6⟩ := h.now
  have o1 : w.ownsRow 0 44 1 (.slice n.ls.A n.ls.n n.ls.c) n.ls.n (n.ls.l.map Row.v) := h1.now
  refine ⟨h3, ⟨by rw [flat_vs]; exact Rd.of_own o1, fun y hy => ?_, by omega⟩, h4, by omega⟩
  have o2 : w.ownsRow 0 32 12 (.slice y.A y.n y.c) y.n (y.l.flatMap Cel.cells) := (h2.now.1 y hy).now
  exact own_ok o2 (h5 y hy).2 (by show y.n * 96 ≤ _; have := (h5 y hy).1; omega)
/-- An arena. -/
structure Arn where
  sz : Row (Row Int)
  ms : Int
  nd : Row Nd
  most : Int
abbrev Arn.shp (x : Arn) : Shp := ⟨x.sz, x.ms⟩
abbrev Arn.cs (x : Arn) : Array Value := #[.slice x.sz.A x.sz.n x.sz.c, .int .i64 x.ms, .slice x.nd.A x.nd.n x.nd.c, .int .i64 x.most]
structure Arn.ok (x : Arn) : Prop where
  ms : I64 x.ms
  m0 : 0 ≤ x.most
  m1 : x.most ≤ 131072
  s1 : 1 ≤ x.sz.n
  s16 : x.sz.n ≤ 16
  sv : ∀ y ∈ x.sz.l, y.l.length ≤ 4 ∧ ∀ z ∈ y.l, I64 z
  nn : x.nd.n ≤ 131072
/-- What an arena owns. -/
abbrev arP (b : Nat) (x : Arn) : List Res := [rBlk b 117 x.cs, rRow 59 1 (.slice x.sz.A x.sz.n x.sz.c) x.sz.n (x.sz.l.map Row.v), rListD rIs x.sz.l, rRow 34 14 (.slice x.nd.A x.nd.n x.nd.c) x.nd.n (x.nd.l.flatMap Cel.cells), rListD rNd x.nd.l]
theorem ar_shp {w : World} {x : Arn} (ok : x.ok) (h1 : (rRow 59 1 (.slice x.sz.A x.sz.n x.sz.c) x.sz.n (x.sz.l.map Row.v)).holds w) (h2 : (rListD rIs x.sz.l).holds w) : x.shp.rd w := by
  have o1 : w.ownsRow 0 59 1 (.slice x.sz.A x.sz.n x.sz.c) x.sz.n (x.sz.l.map Row.v) := h1.now
  refine ⟨⟨by show Rd _ _ _ _ (x.sz.l.flatMap _); rw [flat_vs]; exact Rd.of_own o1, fun y hy => ?_, by have := ok.s16; show x.sz.n ≤ _; omega⟩, ok.ms⟩
  have o2 : w.ownsRow 0 3 1 (.slice y.A y.n y.c) y.n (y.l.map (Value.int .i64)) := (h2.now.1 y hy).now
  have hl : y.l.length = y.n := by have := o2.1; rw [List.length_map] at this; omega
  have h4 := (ok.sv y hy).1
  exact own_ok (by rw [flat_ints]; exact o2) (ok.sv y hy).2 (by show y.n * 8 ≤ _; omega)
theorem ar_nds {w : World} {x : Arn} (ok : x.ok) (h1 : (rRow 34 14 (.slice x.nd.A x.nd.n x.nd.c) x.nd.n (x.nd.l.flatMap Cel.cells)).holds w) (h2 : (rListD rNd x.nd.l).holds w) : x.nd.rd w := by
  have o1 : w.ownsRow 0 34 14 (.slice x.nd.A x.nd.n x.nd.c) x.nd.n (x.nd.l.flatMap Cel.cells) := h1.now
  exact ⟨Rd.of_own o1, fun y hy => nd_of_own (h2.now.1 y hy), by have := ok.nn; omega⟩
theorem arP_snoc {b : Nat} {x : Arn} {A : Option Addr} {k c : Nat} {n : Nd} : arP b ⟨x.sz, x.ms, ⟨A, k, c, x.nd.l ++ [n]⟩, x.most⟩ = [rBlk b 117 #[.slice x.sz.A x.sz.n x.sz.c, .int .i64 x.ms, .slice A k c, .int .i64 x.most], rRow 59 1 (.slice x.sz.A x.sz.n x.sz.c) x.sz.n (x.sz.l.map Row.v), rListD rIs x.sz.l, rRow 34 14 (.slice A k c) k (x.nd.l.flatMap Cel.cells ++ n.cs.toList), rListD rNd (x.nd.l ++ [n])] := by
  have e : (x.nd.l ++ [n]).flatMap (Cel.cells : Nd → List Value) = x.nd.l.flatMap Cel.cells ++ n.cs.toList := by rw [List.flatMap_append, List.flatMap_cons, List.flatMap_nil, List.append_nil]; rfl
  unfold arP
  rw [e]
/-- What Add says. -/
def addE (lb : Bool) (x : Arn) (n : Nd) : Int := if nodeErr x.shp.con x.ms n.con ≠ 0 then nodeErr x.shp.con x.ms n.con else if lb = false then 9 else if x.most ≤ (x.nd.n : Int) then 7 else 0
def AddPost (b : Nat) (x : Arn) (n : Nd) (lb : Bool) (w : World) (e : Ending) (w' : World) : Prop :=
  if addE lb x n = 0 then ∃ (n2 : Nd) (A : Option Addr) (c : Nat), e = .returned (.tuple #[.int .i64 x.nd.n, .int .i64 0]) ∧ n2.con = n.con ∧ SL (DomL (arP b x)) w w' (arP b ⟨x.sz, x.ms, ⟨A, x.nd.n + 1, c, x.nd.l ++ [n2]⟩, x.most⟩)
  else e = .returned (.tuple #[.int .i64 0, .int .i64 (addE lb x n)]) ∧ Bel w w'
set_option maxRecDepth 100000 in
set_option maxHeartbeats 4000000 in
theorem aadd_any (b : Nat) (x : Arn) (n : Nd) (lb : Bool) (w : World) (HP : SL (DomL (arP b x)) w w (arP b x)) (ok : x.ok) (hn : n.rd w) (hb1 : n.ls.n ≤ 1000000) (hb2 : ∀ y ∈ n.ls.l, y.n ≤ 1000000)
    (hl : nodeErr x.shp.con x.ms n.con = 0 → ∀ w', Bel w w' → Calls Try.prog 88 #[.pointer (some ⟨b, 0, none⟩), .agg n.cs] w' fun e w2 => e = .returned (.bool lb) ∧ Bel w' w2) :
    Calls Try.prog 51 #[.pointer (some ⟨b, 0, none⟩), .agg n.cs] w (AddPost b x n lb w) := by
  have HND : Hid (I64 n.dim ∧ n.all.ok) := ⟨hn.dim, hn.all⟩
  have hsr := ar_shp ok (HP.get 1 rfl) (HP.get 2 rfl)
  have HCK := Lib.hid (fun w' (hb : Bel w w') => ncheck_any x.shp n w' (hsr.mono hb) (hn.mono hb))
  have HCN := Lib.hid (fun w' (hb : Bel w w') => nclone_any n w' (hn.mono hb) hb1 hb2)
  have HLD := Lib.hid hl
  have hcc := (HP.blk 0 rfl).cell 0
  have HC0 : Hid (∀ w', Bel w w' → w'.cell? ⟨b, 0, none⟩ = some (.slice x.sz.A x.sz.n x.sz.c)) := fun w' hb => (hb.cell (p := ⟨b, 0, none⟩) (World.block_lt_of_cell? _ _ hcc)).trans hcc
  have HB := Lib.hid ((Bel.refl w).alloc (.cells n.cs 34))
  have H := Lib.hid (HP.alloc n.cs 34)
  simp only [arP] at H
  (try simp only [List.set_cons_zero, List.set_cons_succ, List.cons_append, List.nil_append, List.eraseIdx_cons_zero, List.eraseIdx_cons_succ, List.setIfInBounds_toArray, World.size_alloc, selR, List.getD_cons_zero, List.getD_cons_succ] at H)
  have hs1 := ok.s1
  have hm0 := ok.m0
  have hm1 := ok.m1
  have hnn := ok.nn
  have hP : arP b x = arP b x := rfl
  clear HP hsr hl hcc hn hb2 hP
  obtain ⟨E, hE⟩ : ∃ E, E = nodeErr x.shp.con x.ms n.con := ⟨_, rfl⟩
  rw [← hE] at HCK
  go_enter Try.func51, Try.ntmps51
  go_wp2_with fail
  refine (there_yes b x.sz.A x.sz.n x.sz.c _ hs1 (HC0.out _ HB.out)).mono ?_; rintro e w1 ⟨rfl, hw1⟩
  replace H := Lib.hid (H.out.bel hw1); (try simp only [List.set_cons_zero, List.set_cons_succ, List.cons_append, List.nil_append, List.eraseIdx_cons_zero, List.eraseIdx_cons_succ, List.setIfInBounds_toArray, World.size_alloc, selR, List.getD_cons_zero, List.getD_cons_succ] at H)
  replace HB := Lib.hid (HB.out.trans hw1)
  clear hw1
  generalize w.heap.size = y at *
  have HR1 : Hid (w1.rangeAt b 0 x.shp.cs.toList) := fun j v hv => by
    match j, hv with
    | 0, hv => exact (H.out.blk 0 rfl).range 0 v hv
    | 1, hv => exact (H.out.blk 0 rfl).range 1 v hv
    | j + 2, hv => simp at hv
  have hbb : b < w1.heap.size := (H.out.blk 0 rfl).lt
  have c0 := HC0.out _ HB.out
  go_upto_region 3 with fail
  have f_c0 := fun u : Over w1 => Over.cell c0 u
  refine wp_region_over (by kernel_rfl) (by kernel_rfl) ?_
  (try simp only [Act.put, List.setIfInBounds_toArray, List.set_cons_zero, List.set_cons_succ])
  repeat (first
    | ((with_reducible show wpQuiet _ _ _ _ (⟨some 13, _, _, _, _, _⟩ :: _) _); refine wpQuiet_load_row (by first | rfl | go_simp) rowShp2 (.tmp 12) rfl b (0) rfl x.shp.cs rfl hbb HR1.out ?_; simp only [Act.put, List.setIfInBounds_toArray, List.set_cons_zero, List.set_cons_succ])
    | ((with_reducible show wpQuiet _ _ _ _ (⟨some 14, _, _, _, _, _⟩ :: _) _); refine wpQuiet_load_row (by first | rfl | go_simp) rowNd (.tmp 3) rfl _ (0) rfl _ rfl (H.out.blk 5 rfl).lt (H.out.blk 5 rfl).range ?_; simp only [Act.put, List.setIfInBounds_toArray, List.set_cons_zero, List.set_cons_succ])
    | go_big_quiet_step (((go_at_call 34; rename_i u; exact calls_over (HCK.out _ (HB.out.trans u.bel))))))
  refine wpQuiet_nil ?_
  rintro w5 ⟨⟨_, hw5⟩, rfl⟩
  (try dsimp only)
  replace H := Lib.hid (H.out.bel hw5); (try simp only [List.set_cons_zero, List.set_cons_succ, List.cons_append, List.nil_append, List.eraseIdx_cons_zero, List.eraseIdx_cons_succ, List.setIfInBounds_toArray, World.size_alloc, selR, List.getD_cons_zero, List.getD_cons_succ] at H)
  clear f_c0 c0
  replace HB := Lib.hid (HB.out.trans hw5)
  clear hw5 HR1 hbb HCK
  by_cases h1 : E ≠ 0
  · have HV : Hid (∀ e w', e = .returned (.tuple #[.int .i64 0, .int .i64 E]) → Bel w w' → AddPost b x n lb w e w') := fun e w' he hb => by unfold AddPost; rw [if_neg (by unfold addE; rw [← hE, if_pos h1]; exact h1), show addE lb x n = E by unfold addE; rw [← hE, if_pos h1]]; exact ⟨he, hb⟩
    have d1 : (E != 0) = true := by simpa using h1
    clear h1 hE HCN HLD
    go_wp2_with fail
    refine bodyPost_ret (v := .tuple #[.int .i64 0, .int .i64 E]) (by kernel_rfl) rfl ?_
    exact HV.out _ _ rfl HB.out
  obtain rfl : E = 0 := Classical.not_not.1 h1
  have HE := Lib.hid hE
  clear h1 hE
  go_wp2_with ((with_reducible show wpList _ _ _ (⟨some 20, _, _, _, _, _⟩ :: _) _ _); (refine wpList_load_blk rfl rowNd (.tmp 3) rfl _ rfl (H.out.blk 5 rfl) rfl ?_))
  refine (HLD.out HE.out.symm _ HB.out).mono ?_; rintro e w6 ⟨rfl, hb6⟩
  replace H := Lib.hid (H.out.bel hb6); (try simp only [List.set_cons_zero, List.set_cons_succ, List.cons_append, List.nil_append, List.eraseIdx_cons_zero, List.eraseIdx_cons_succ, List.setIfInBounds_toArray, World.size_alloc, selR, List.getD_cons_zero, List.getD_cons_succ] at H)
  replace HB := Lib.hid (HB.out.trans hb6)
  clear hb6 HLD
  cases lb with
  | false =>
    have h9 : addE false x n = 9 := by unfold addE; rw [← HE.out]; rfl
    have HV : Hid (∀ e w', e = .returned (.tuple #[.int .i64 0, .int .i64 9]) → Bel w w' → AddPost b x n false w e w') := fun e w' he hb => by unfold AddPost; rw [h9, if_neg (by decide)]; exact ⟨he, hb⟩
    clear HE HCN h9
    go_wp2_with fail
    refine bodyPost_ret (v := .tuple #[.int .i64 0, .int .i64 9]) (by kernel_rfl) rfl ?_
    exact HV.out _ _ rfl HB.out
  | true =>
    have c2 : w6.cell? ⟨b, 2, none⟩ = some (.slice x.nd.A x.nd.n x.nd.c) := (H.out.blk 0 rfl).cell 2
    have c3 : w6.cell? ⟨b, 3, none⟩ = some (.int .i64 x.most) := (H.out.blk 0 rfl).cell 3
    by_cases h7 : x.most ≤ (x.nd.n : Int)
    · have h9 : addE true x n = 7 := by unfold addE; rw [← HE.out, if_neg (by simp), if_neg (by simp), if_pos h7]
      have HV : Hid (∀ e w', e = .returned (.tuple #[.int .i64 0, .int .i64 7]) → Bel w w' → AddPost b x n true w e w') := fun e w' he hb => by unfold AddPost; rw [h9, if_neg (by decide)]; exact ⟨he, hb⟩
      have d1 : decide (x.most ≤ (x.nd.n : Int)) = true := by simpa using h7
      clear HE HCN h9 h7
      go_upto_region 8 with fail
      have f_c2 := fun u : Over w6 => Over.cell c2 u
      have f_c3 := fun u : Over w6 => Over.cell c3 u
      refine wp_region_over (by kernel_rfl) (by kernel_rfl) ?_
      (try simp only [Act.put, List.setIfInBounds_toArray, List.set_cons_zero, List.set_cons_succ])
      repeat (go_big_quiet_step (fail))
      refine wpQuiet_nil ?_
      rintro w5 ⟨⟨_, hw5⟩, rfl⟩
      (try dsimp only)
      replace H := Lib.hid (H.out.bel hw5); (try simp only [List.set_cons_zero, List.set_cons_succ, List.cons_append, List.nil_append, List.eraseIdx_cons_zero, List.eraseIdx_cons_succ, List.setIfInBounds_toArray, World.size_alloc, selR, List.getD_cons_zero, List.getD_cons_succ] at H)
      clear f_c2 f_c3 c2 c3
      replace HB := Lib.hid (HB.out.trans hw5)
      clear hw5
      go_wp2_with fail
      refine bodyPost_ret (v := .tuple #[.int .i64 0, .int .i64 7]) (by kernel_rfl) rfl ?_
      exact HV.out _ _ rfl HB.out
    have h9 : addE true x n = 0 := by unfold addE; rw [← HE.out, if_neg (by simp), if_neg (by simp), if_neg h7]
    have HP2 : Hid (∀ n2 A c w', Nd.con n2 = n.con → SL (DomL (arP b x)) w w' (arP b ⟨x.sz, x.ms, ⟨A, x.nd.n + 1, c, x.nd.l ++ [n2]⟩, x.most⟩) → AddPost b x n true w (.returned (.tuple #[.int .i64 x.nd.n, .int .i64 0])) w') := fun n2 A c w' h2 h3 => by unfold AddPost; rw [h9, if_pos rfl]; exact ⟨n2, A, c, rfl, h2, h3⟩
    have d1 : decide (x.most ≤ (x.nd.n : Int)) = false := by simpa using h7
    have hn7 : x.nd.n < 131072 := by omega
    clear HE h9 h7
    go_upto_region 8 with fail
    have f_c2 := fun u : Over w6 => Over.cell c2 u
    have f_c3 := fun u : Over w6 => Over.cell c3 u
    refine wp_region_over (by kernel_rfl) (by kernel_rfl) ?_
    (try simp only [Act.put, List.setIfInBounds_toArray, List.set_cons_zero, List.set_cons_succ])
    repeat (go_big_quiet_step (fail))
    refine wpQuiet_nil ?_
    rintro w5 ⟨⟨_, hw5⟩, rfl⟩
    (try dsimp only)
    replace H := Lib.hid (H.out.bel hw5); (try simp only [List.set_cons_zero, List.set_cons_succ, List.cons_append, List.nil_append, List.eraseIdx_cons_zero, List.eraseIdx_cons_succ, List.setIfInBounds_toArray, World.size_alloc, selR, List.getD_cons_zero, List.getD_cons_succ] at H)
    clear f_c2 f_c3 c2 c3
    replace HB := Lib.hid (HB.out.trans hw5)
    clear hw5
    go_upto_region 10 with fail
    have HBD : Hid (Bel w (World.drew w5)) := HB.out.drew
    have e1 : ((x.nd.n : Int) + 1) - 1 = x.nd.n := by omega
    clear d1 HB
    refine wp_region_held_drew (S := fun _ => True) (by kernel_rfl) trivial (fun hHeld => ?_)
    replace H := Lib.hid (H.out.drew); (try simp only [List.set_cons_zero, List.set_cons_succ, List.cons_append, List.nil_append, List.eraseIdx_cons_zero, List.eraseIdx_cons_succ, List.setIfInBounds_toArray, World.size_alloc, selR, List.getD_cons_zero, List.getD_cons_succ] at H)
    generalize World.drew _ = w8 at *
    refine wpAnyH_take (i := 0) (v := ?vq7_0) (get_o0) (by kernel_rfl) (by kernel_rfl) (by kernel_rfl) (by exact fun _ _ _ h => h) (Or.inl ⟨by rfl, ?hyq7_0⟩) (by assumption) ?_
    case hyq7_0 => (intro w hSw; (try dsimp only at hSw); go_simp) <;> with_reducible rfl
    try simp only [Act.put, List.setIfInBounds_toArray, List.set_cons_zero, List.set_cons_succ]
    refine wpAnyH_take (i := 1) (v := ?vq7_1) (get_os (get_o0)) (by kernel_rfl) (by kernel_rfl) (by kernel_rfl) (by exact fun _ _ _ h => h) (Or.inl ⟨by rfl, ?hyq7_1⟩) (by assumption) ?_
    case hyq7_1 => (intro w hSw; (try dsimp only at hSw); go_simp) <;> with_reducible rfl
    try simp only [Act.put, List.setIfInBounds_toArray, List.set_cons_zero, List.set_cons_succ]
    refine wpAnyH_take (i := 2) (v := ?vq7_2) (get_os (get_os (get_o0))) (by kernel_rfl) (by kernel_rfl) (by kernel_rfl) (by exact fun _ _ _ h => h) (Or.inl ⟨by rfl, ?hyq7_2⟩) (by assumption) ?_
    case hyq7_2 => (intro w hSw; (try dsimp only at hSw); go_simp) <;> with_reducible rfl
    try simp only [Act.put, List.setIfInBounds_toArray, List.set_cons_zero, List.set_cons_succ]
    refine wpAnyH_take (i := 3) (v := ?vq7_3) (get_os (get_os (get_os (get_o0)))) (by kernel_rfl) (by kernel_rfl) (by kernel_rfl) (by exact fun _ _ _ h => h) (Or.inl ⟨by rfl, ?hyq7_3⟩) (by assumption) ?_
    case hyq7_3 => (intro w hSw; (try dsimp only at hSw); go_simp) <;> with_reducible rfl
    try simp only [Act.put, List.setIfInBounds_toArray, List.set_cons_zero, List.set_cons_succ]
    refine wpAnyH_ready (rs := [4, 5]) (by kernel_rfl) (by simp) ?_
    refine (AllReadyH.cons (get_os (get_os (get_os (get_os (get_o0))))) (fun KK hKK => ?_) (AllReadyH.cons (get_os (get_os (get_os (get_os (get_os (get_o0)))))) (fun KK hKK => ?_) AllReadyH.nil))
    · have ca4 := (H.out.blk 0 rfl).cell 2; simp only [List.getElem?_toArray, List.getElem?_cons_zero, List.getElem?_cons_succ] at ca4
      go_simp
      clear ca4
      refine hKK.out _ _ trivial (fun hHeld => ?_)
      clear hKK KK
      try simp only [Act.put, List.setIfInBounds_toArray, List.set_cons_zero, List.set_cons_succ]
      refine wpAnyH_ready (rs := [5]) (by kernel_rfl) (by simp) ?_
      refine (AllReadyH.cons (get_os (get_os (get_os (get_os (get_os (get_o0)))))) (fun KK hKK => ?_) AllReadyH.nil)
      refine step_load_blk rfl rowNd (.tmp 3) rfl _ rfl (H.out.blk 5 rfl) rfl ?_
      refine hKK.out _ _ trivial (fun hHeld => ?_)
      clear hKK KK
      try simp only [Act.put, List.setIfInBounds_toArray, List.set_cons_zero, List.set_cons_succ]
      refine wpAnyH_ready (rs := [6]) (by kernel_rfl) (by simp) ?_
      refine (AllReadyH.cons (get_os (get_os (get_os (get_os (get_os (get_os (get_o0))))))) (fun KK hKK => ?_) AllReadyH.nil)
      go_simp
      refine (HCN.out _ HBD.out).mono ?_; rintro e' w9 ⟨NA2, nc2, NL, rfl, hNL, hNB, hNn, hN⟩
      replace H := Lib.hid (H.out.join hN); (try simp only [List.set_cons_zero, List.set_cons_succ, List.cons_append, List.nil_append, List.eraseIdx_cons_zero, List.eraseIdx_cons_succ, List.setIfInBounds_toArray, World.size_alloc, selR, List.getD_cons_zero, List.getD_cons_succ] at H)
      have HNL := Lib.hid hNL
      have HNB := Lib.hid hNB
      clear hN hNL hNB hNn
      refine hKK.out _ _ trivial (fun hHeld => ?_)
      clear hKK KK
      try simp only [Act.put, List.setIfInBounds_toArray, List.set_cons_zero, List.set_cons_succ]
      refine wpAnyH_ready (rs := [7]) (by kernel_rfl) (by simp) ?_
      refine (AllReadyH.cons (get_os (get_os (get_os (get_os (get_os (get_os (get_os (get_o0)))))))) (fun KK hKK => ?_) AllReadyH.nil)
      refine step_buildSlice1 rfl E_nd (.tmp 39) rfl ((Nd.mk n.dim ⟨NA2, n.ls.n, nc2, NL⟩ n.all).cs) rfl rfl (by omega) ?_
      replace H := Lib.hid (H.out.addRow ((Bel.refl _).alloc _) (own_made _ 34 ((Nd.mk n.dim ⟨NA2, n.ls.n, nc2, NL⟩ n.all).cs) _ rfl)); (try simp only [List.set_cons_zero, List.set_cons_succ, List.cons_append, List.nil_append, List.eraseIdx_cons_zero, List.eraseIdx_cons_succ, List.setIfInBounds_toArray, World.size_alloc, selR, List.getD_cons_zero, List.getD_cons_succ] at H)
      refine hKK.out _ _ trivial (fun hHeld => ?_)
      clear hKK KK
      try simp only [Act.put, List.setIfInBounds_toArray, List.set_cons_zero, List.set_cons_succ]
      refine wpAnyH_ready (rs := [8]) (by kernel_rfl) (by simp) ?_
      refine (AllReadyH.cons (get_os (get_os (get_os (get_os (get_os (get_os (get_os (get_os (get_o0))))))))) (fun KK hKK => ?_) AllReadyH.nil)
      refine step_append0 rfl (.tmp 37) (.tmp 40) _ rfl E_nd 0 (Nat.zero_le _) _ x.nd.n _ rfl (H.out.row 3 rfl) _ 1 1 _ rfl (Rd.of_own (H.out.row 8 rfl)) (by simp [Value.oneCell']) (by unfold maxLen; omega) (by omega) ?_
      intro vq wq howq hgq hatq
      replace H := Lib.hid (H.out.setRow 3 rfl hgq howq hatq); (try simp only [List.set_cons_zero, List.set_cons_succ, List.cons_append, List.nil_append, List.eraseIdx_cons_zero, List.eraseIdx_cons_succ, List.setIfInBounds_toArray, World.size_alloc, selR, List.getD_cons_zero, List.getD_cons_succ] at H)
      clear howq hgq hatq
      obtain ⟨A2, c2, rfl, _⟩ := own_slice (H.out.row 3 rfl)
      refine hKK.out _ _ trivial (fun hHeld => ?_)
      clear hKK KK
      try simp only [Act.put, List.setIfInBounds_toArray, List.set_cons_zero, List.set_cons_succ]
      refine wpAnyH_take (i := 9) (v := ?vq8_) (get_os (get_os (get_os (get_os (get_os (get_os (get_os (get_os (get_os (get_o0)))))))))) (by kernel_rfl) (by kernel_rfl) (by kernel_rfl) (by exact fun _ _ _ h => h) (Or.inl ⟨by rfl, ?hyq8_⟩) (by assumption) ?_
      case hyq8_ => (intro w hSw; (try dsimp only at hSw); go_simp) <;> with_reducible rfl
      try simp only [Act.put, List.setIfInBounds_toArray, List.set_cons_zero, List.set_cons_succ]
      refine wpAnyH_take (i := 10) (v := ?vq9_) (get_ot (get_o0)) (by kernel_rfl) (by kernel_rfl) (by kernel_rfl) (by exact fun _ _ _ h => h) (Or.inl ⟨by rfl, ?hyq9_⟩) (by assumption) ?_
      case hyq9_ => (intro w hSw; (try dsimp only at hSw); go_simp) <;> with_reducible rfl
      try simp only [Act.put, List.setIfInBounds_toArray, List.set_cons_zero, List.set_cons_succ]
      refine wpAnyH_ready (rs := [11]) (by kernel_rfl) (by simp) ?_
      refine (AllReadyH.cons (get_ot (get_os (get_o0))) (fun KK hKK => ?_) AllReadyH.nil)
      have ca11 := (H.out.blk 0 rfl).cell 2; simp only [List.getElem?_toArray, List.getElem?_cons_zero, List.getElem?_cons_succ] at ca11; have fa11 := (H.out.blk 0 rfl).frozen 2
      go_simp
      replace H := Lib.hid (H.out.setCell 0 rfl 2 (.slice A2 (x.nd.n + 1) c2)); (try simp only [List.set_cons_zero, List.set_cons_succ, List.cons_append, List.nil_append, List.eraseIdx_cons_zero, List.eraseIdx_cons_succ, List.setIfInBounds_toArray, World.size_alloc, selR, List.getD_cons_zero, List.getD_cons_succ] at H)
      clear ca11 fa11
      refine hKK.out _ _ trivial (fun hHeld => ?_)
      clear hKK KK
      try simp only [Act.put, List.setIfInBounds_toArray, List.set_cons_zero, List.set_cons_succ]
      refine wpAnyH_done (by kernel_rfl) ?_ _
      clear hHeld
      replace H := Lib.hid (H.out.mkNd 6 7 (n := (Nd.mk n.dim ⟨NA2, n.ls.n, nc2, NL⟩ n.all)) (by omega) rfl rfl HND.out (fun y hy => HNB.out y hy) hb1); (try simp only [List.set_cons_zero, List.set_cons_succ, List.cons_append, List.nil_append, List.eraseIdx_cons_zero, List.eraseIdx_cons_succ, List.setIfInBounds_toArray, World.size_alloc, selR, List.getD_cons_zero, List.getD_cons_succ] at H)
      replace H := Lib.hid (H.out.snocD 4 6 (a := (Nd.mk n.dim ⟨NA2, n.ls.n, nc2, NL⟩ n.all)) (by omega) rfl rfl); (try simp only [List.set_cons_zero, List.set_cons_succ, List.cons_append, List.nil_append, List.eraseIdx_cons_zero, List.eraseIdx_cons_succ, List.setIfInBounds_toArray, World.size_alloc, selR, List.getD_cons_zero, List.getD_cons_succ] at H)
      replace H := Lib.hid (H.out.sel [0, 1, 2, 3, 4] (by decide) (by simp)); (try simp only [List.set_cons_zero, List.set_cons_succ, List.cons_append, List.nil_append, List.eraseIdx_cons_zero, List.eraseIdx_cons_succ, List.setIfInBounds_toArray, World.size_alloc, selR, List.getD_cons_zero, List.getD_cons_succ] at H)
      clear HBD HCN
      have cz := (H.out.blk 0 rfl).cell 2; simp only [List.getElem?_toArray, List.getElem?_cons_zero, List.getElem?_cons_succ] at cz
      go_wp2_with fail
      (try rw [e1])
      refine bodyPost_ret (v := .tuple #[.int .i64 x.nd.n, .int .i64 0]) (by kernel_rfl) rfl ?_
      exact HP2.out (Nd.mk n.dim ⟨NA2, n.ls.n, nc2, NL⟩ n.all) _ _ _ (by show NC.mk _ _ _ = _; rw [HNL.out]) (by rw [arP_snoc]; exact H.out)
    · refine step_load_blk rfl rowNd (.tmp 3) rfl _ rfl (H.out.blk 5 rfl) rfl ?_
      refine hKK.out _ _ trivial (fun hHeld => ?_)
      clear hKK KK
      try simp only [Act.put, List.setIfInBounds_toArray, List.set_cons_zero, List.set_cons_succ]
      refine wpAnyH_ready (rs := [4, 6]) (by kernel_rfl) (by simp) ?_
      refine (AllReadyH.cons (get_os (get_os (get_os (get_os (get_o0))))) (fun KK hKK => ?_) (AllReadyH.cons (get_os (get_os (get_os (get_os (get_os (get_os (get_o0))))))) (fun KK hKK => ?_) AllReadyH.nil))
      · have ca4 := (H.out.blk 0 rfl).cell 2; simp only [List.getElem?_toArray, List.getElem?_cons_zero, List.getElem?_cons_succ] at ca4
        go_simp
        clear ca4
        refine hKK.out _ _ trivial (fun hHeld => ?_)
        clear hKK KK
        try simp only [Act.put, List.setIfInBounds_toArray, List.set_cons_zero, List.set_cons_succ]
        refine wpAnyH_ready (rs := [6]) (by kernel_rfl) (by simp) ?_
        refine (AllReadyH.cons (get_os (get_os (get_os (get_os (get_os (get_os (get_o0))))))) (fun KK hKK => ?_) AllReadyH.nil)
        go_simp
        refine (HCN.out _ HBD.out).mono ?_; rintro e' w9 ⟨NA2, nc2, NL, rfl, hNL, hNB, hNn, hN⟩
        replace H := Lib.hid (H.out.join hN); (try simp only [List.set_cons_zero, List.set_cons_succ, List.cons_append, List.nil_append, List.eraseIdx_cons_zero, List.eraseIdx_cons_succ, List.setIfInBounds_toArray, World.size_alloc, selR, List.getD_cons_zero, List.getD_cons_succ] at H)
        have HNL := Lib.hid hNL
        have HNB := Lib.hid hNB
        clear hN hNL hNB hNn
        refine hKK.out _ _ trivial (fun hHeld => ?_)
        clear hKK KK
        try simp only [Act.put, List.setIfInBounds_toArray, List.set_cons_zero, List.set_cons_succ]
        refine wpAnyH_ready (rs := [7]) (by kernel_rfl) (by simp) ?_
        refine (AllReadyH.cons (get_os (get_os (get_os (get_os (get_os (get_os (get_os (get_o0)))))))) (fun KK hKK => ?_) AllReadyH.nil)
        refine step_buildSlice1 rfl E_nd (.tmp 39) rfl ((Nd.mk n.dim ⟨NA2, n.ls.n, nc2, NL⟩ n.all).cs) rfl rfl (by omega) ?_
        replace H := Lib.hid (H.out.addRow ((Bel.refl _).alloc _) (own_made _ 34 ((Nd.mk n.dim ⟨NA2, n.ls.n, nc2, NL⟩ n.all).cs) _ rfl)); (try simp only [List.set_cons_zero, List.set_cons_succ, List.cons_append, List.nil_append, List.eraseIdx_cons_zero, List.eraseIdx_cons_succ, List.setIfInBounds_toArray, World.size_alloc, selR, List.getD_cons_zero, List.getD_cons_succ] at H)
        refine hKK.out _ _ trivial (fun hHeld => ?_)
        clear hKK KK
        try simp only [Act.put, List.setIfInBounds_toArray, List.set_cons_zero, List.set_cons_succ]
        refine wpAnyH_ready (rs := [8]) (by kernel_rfl) (by simp) ?_
        refine (AllReadyH.cons (get_os (get_os (get_os (get_os (get_os (get_os (get_os (get_os (get_o0))))))))) (fun KK hKK => ?_) AllReadyH.nil)
        refine step_append0 rfl (.tmp 37) (.tmp 40) _ rfl E_nd 0 (Nat.zero_le _) _ x.nd.n _ rfl (H.out.row 3 rfl) _ 1 1 _ rfl (Rd.of_own (H.out.row 8 rfl)) (by simp [Value.oneCell']) (by unfold maxLen; omega) (by omega) ?_
        intro vq wq howq hgq hatq
        replace H := Lib.hid (H.out.setRow 3 rfl hgq howq hatq); (try simp only [List.set_cons_zero, List.set_cons_succ, List.cons_append, List.nil_append, List.eraseIdx_cons_zero, List.eraseIdx_cons_succ, List.setIfInBounds_toArray, World.size_alloc, selR, List.getD_cons_zero, List.getD_cons_succ] at H)
        clear howq hgq hatq
        obtain ⟨A2, c2, rfl, _⟩ := own_slice (H.out.row 3 rfl)
        refine hKK.out _ _ trivial (fun hHeld => ?_)
        clear hKK KK
        try simp only [Act.put, List.setIfInBounds_toArray, List.set_cons_zero, List.set_cons_succ]
        refine wpAnyH_take (i := 9) (v := ?vq10_) (get_os (get_os (get_os (get_os (get_os (get_os (get_os (get_os (get_os (get_o0)))))))))) (by kernel_rfl) (by kernel_rfl) (by kernel_rfl) (by exact fun _ _ _ h => h) (Or.inl ⟨by rfl, ?hyq10_⟩) (by assumption) ?_
        case hyq10_ => (intro w hSw; (try dsimp only at hSw); go_simp) <;> with_reducible rfl
        try simp only [Act.put, List.setIfInBounds_toArray, List.set_cons_zero, List.set_cons_succ]
        refine wpAnyH_take (i := 10) (v := ?vq11_) (get_ot (get_o0)) (by kernel_rfl) (by kernel_rfl) (by kernel_rfl) (by exact fun _ _ _ h => h) (Or.inl ⟨by rfl, ?hyq11_⟩) (by assumption) ?_
        case hyq11_ => (intro w hSw; (try dsimp only at hSw); go_simp) <;> with_reducible rfl
        try simp only [Act.put, List.setIfInBounds_toArray, List.set_cons_zero, List.set_cons_succ]
        refine wpAnyH_ready (rs := [11]) (by kernel_rfl) (by simp) ?_
        refine (AllReadyH.cons (get_ot (get_os (get_o0))) (fun KK hKK => ?_) AllReadyH.nil)
        have ca11 := (H.out.blk 0 rfl).cell 2; simp only [List.getElem?_toArray, List.getElem?_cons_zero, List.getElem?_cons_succ] at ca11; have fa11 := (H.out.blk 0 rfl).frozen 2
        go_simp
        replace H := Lib.hid (H.out.setCell 0 rfl 2 (.slice A2 (x.nd.n + 1) c2)); (try simp only [List.set_cons_zero, List.set_cons_succ, List.cons_append, List.nil_append, List.eraseIdx_cons_zero, List.eraseIdx_cons_succ, List.setIfInBounds_toArray, World.size_alloc, selR, List.getD_cons_zero, List.getD_cons_succ] at H)
        clear ca11 fa11
        refine hKK.out _ _ trivial (fun hHeld => ?_)
        clear hKK KK
        try simp only [Act.put, List.setIfInBounds_toArray, List.set_cons_zero, List.set_cons_succ]
        refine wpAnyH_done (by kernel_rfl) ?_ _
        clear hHeld
        replace H := Lib.hid (H.out.mkNd 6 7 (n := (Nd.mk n.dim ⟨NA2, n.ls.n, nc2, NL⟩ n.all)) (by omega) rfl rfl HND.out (fun y hy => HNB.out y hy) hb1); (try simp only [List.set_cons_zero, List.set_cons_succ, List.cons_append, List.nil_append, List.eraseIdx_cons_zero, List.eraseIdx_cons_succ, List.setIfInBounds_toArray, World.size_alloc, selR, List.getD_cons_zero, List.getD_cons_succ] at H)
        replace H := Lib.hid (H.out.snocD 4 6 (a := (Nd.mk n.dim ⟨NA2, n.ls.n, nc2, NL⟩ n.all)) (by omega) rfl rfl); (try simp only [List.set_cons_zero, List.set_cons_succ, List.cons_append, List.nil_append, List.eraseIdx_cons_zero, List.eraseIdx_cons_succ, List.setIfInBounds_toArray, World.size_alloc, selR, List.getD_cons_zero, List.getD_cons_succ] at H)
        replace H := Lib.hid (H.out.sel [0, 1, 2, 3, 4] (by decide) (by simp)); (try simp only [List.set_cons_zero, List.set_cons_succ, List.cons_append, List.nil_append, List.eraseIdx_cons_zero, List.eraseIdx_cons_succ, List.setIfInBounds_toArray, World.size_alloc, selR, List.getD_cons_zero, List.getD_cons_succ] at H)
        clear HBD HCN
        have cz := (H.out.blk 0 rfl).cell 2; simp only [List.getElem?_toArray, List.getElem?_cons_zero, List.getElem?_cons_succ] at cz
        go_wp2_with fail
        (try rw [e1])
        refine bodyPost_ret (v := .tuple #[.int .i64 x.nd.n, .int .i64 0]) (by kernel_rfl) rfl ?_
        exact HP2.out (Nd.mk n.dim ⟨NA2, n.ls.n, nc2, NL⟩ n.all) _ _ _ (by show NC.mk _ _ _ = _; rw [HNL.out]) (by rw [arP_snoc]; exact H.out)
      · go_simp
        refine (HCN.out _ HBD.out).mono ?_; rintro e' w9 ⟨NA2, nc2, NL, rfl, hNL, hNB, hNn, hN⟩
        replace H := Lib.hid (H.out.join hN); (try simp only [List.set_cons_zero, List.set_cons_succ, List.cons_append, List.nil_append, List.eraseIdx_cons_zero, List.eraseIdx_cons_succ, List.setIfInBounds_toArray, World.size_alloc, selR, List.getD_cons_zero, List.getD_cons_succ] at H)
        have HNL := Lib.hid hNL
        have HNB := Lib.hid hNB
        clear hN hNL hNB hNn
        refine hKK.out _ _ trivial (fun hHeld => ?_)
        clear hKK KK
        try simp only [Act.put, List.setIfInBounds_toArray, List.set_cons_zero, List.set_cons_succ]
        refine wpAnyH_ready (rs := [4, 7]) (by kernel_rfl) (by simp) ?_
        refine (AllReadyH.cons (get_os (get_os (get_os (get_os (get_o0))))) (fun KK hKK => ?_) (AllReadyH.cons (get_os (get_os (get_os (get_os (get_os (get_os (get_os (get_o0)))))))) (fun KK hKK => ?_) AllReadyH.nil))
        · have ca4 := (H.out.blk 0 rfl).cell 2; simp only [List.getElem?_toArray, List.getElem?_cons_zero, List.getElem?_cons_succ] at ca4
          go_simp
          clear ca4
          refine hKK.out _ _ trivial (fun hHeld => ?_)
          clear hKK KK
          try simp only [Act.put, List.setIfInBounds_toArray, List.set_cons_zero, List.set_cons_succ]
          refine wpAnyH_ready (rs := [7]) (by kernel_rfl) (by simp) ?_
          refine (AllReadyH.cons (get_os (get_os (get_os (get_os (get_os (get_os (get_os (get_o0)))))))) (fun KK hKK => ?_) AllReadyH.nil)
          refine step_buildSlice1 rfl E_nd (.tmp 39) rfl ((Nd.mk n.dim ⟨NA2, n.ls.n, nc2, NL⟩ n.all).cs) rfl rfl (by omega) ?_
          replace H := Lib.hid (H.out.addRow ((Bel.refl _).alloc _) (own_made _ 34 ((Nd.mk n.dim ⟨NA2, n.ls.n, nc2, NL⟩ n.all).cs) _ rfl)); (try simp only [List.set_cons_zero, List.set_cons_succ, List.cons_append, List.nil_append, List.eraseIdx_cons_zero, List.eraseIdx_cons_succ, List.setIfInBounds_toArray, World.size_alloc, selR, List.getD_cons_zero, List.getD_cons_succ] at H)
          refine hKK.out _ _ trivial (fun hHeld => ?_)
          clear hKK KK
          try simp only [Act.put, List.setIfInBounds_toArray, List.set_cons_zero, List.set_cons_succ]
          refine wpAnyH_ready (rs := [8]) (by kernel_rfl) (by simp) ?_
          refine (AllReadyH.cons (get_os (get_os (get_os (get_os (get_os (get_os (get_os (get_os (get_o0))))))))) (fun KK hKK => ?_) AllReadyH.nil)
          refine step_append0 rfl (.tmp 37) (.tmp 40) _ rfl E_nd 0 (Nat.zero_le _) _ x.nd.n _ rfl (H.out.row 3 rfl) _ 1 1 _ rfl (Rd.of_own (H.out.row 8 rfl)) (by simp [Value.oneCell']) (by unfold maxLen; omega) (by omega) ?_
          intro vq wq howq hgq hatq
          replace H := Lib.hid (H.out.setRow 3 rfl hgq howq hatq); (try simp only [List.set_cons_zero, List.set_cons_succ, List.cons_append, List.nil_append, List.eraseIdx_cons_zero, List.eraseIdx_cons_succ, List.setIfInBounds_toArray, World.size_alloc, selR, List.getD_cons_zero, List.getD_cons_succ] at H)
          clear howq hgq hatq
          obtain ⟨A2, c2, rfl, _⟩ := own_slice (H.out.row 3 rfl)
          refine hKK.out _ _ trivial (fun hHeld => ?_)
          clear hKK KK
          try simp only [Act.put, List.setIfInBounds_toArray, List.set_cons_zero, List.set_cons_succ]
          refine wpAnyH_take (i := 9) (v := ?vq12_) (get_os (get_os (get_os (get_os (get_os (get_os (get_os (get_os (get_os (get_o0)))))))))) (by kernel_rfl) (by kernel_rfl) (by kernel_rfl) (by exact fun _ _ _ h => h) (Or.inl ⟨by rfl, ?hyq12_⟩) (by assumption) ?_
          case hyq12_ => (intro w hSw; (try dsimp only at hSw); go_simp) <;> with_reducible rfl
          try simp only [Act.put, List.setIfInBounds_toArray, List.set_cons_zero, List.set_cons_succ]
          refine wpAnyH_take (i := 10) (v := ?vq13_) (get_ot (get_o0)) (by kernel_rfl) (by kernel_rfl) (by kernel_rfl) (by exact fun _ _ _ h => h) (Or.inl ⟨by rfl, ?hyq13_⟩) (by assumption) ?_
          case hyq13_ => (intro w hSw; (try dsimp only at hSw); go_simp) <;> with_reducible rfl
          try simp only [Act.put, List.setIfInBounds_toArray, List.set_cons_zero, List.set_cons_succ]
          refine wpAnyH_ready (rs := [11]) (by kernel_rfl) (by simp) ?_
          refine (AllReadyH.cons (get_ot (get_os (get_o0))) (fun KK hKK => ?_) AllReadyH.nil)
          have ca11 := (H.out.blk 0 rfl).cell 2; simp only [List.getElem?_toArray, List.getElem?_cons_zero, List.getElem?_cons_succ] at ca11; have fa11 := (H.out.blk 0 rfl).frozen 2
          go_simp
          replace H := Lib.hid (H.out.setCell 0 rfl 2 (.slice A2 (x.nd.n + 1) c2)); (try simp only [List.set_cons_zero, List.set_cons_succ, List.cons_append, List.nil_append, List.eraseIdx_cons_zero, List.eraseIdx_cons_succ, List.setIfInBounds_toArray, World.size_alloc, selR, List.getD_cons_zero, List.getD_cons_succ] at H)
          clear ca11 fa11
          refine hKK.out _ _ trivial (fun hHeld => ?_)
          clear hKK KK
          try simp only [Act.put, List.setIfInBounds_toArray, List.set_cons_zero, List.set_cons_succ]
          refine wpAnyH_done (by kernel_rfl) ?_ _
          clear hHeld
          replace H := Lib.hid (H.out.mkNd 6 7 (n := (Nd.mk n.dim ⟨NA2, n.ls.n, nc2, NL⟩ n.all)) (by omega) rfl rfl HND.out (fun y hy => HNB.out y hy) hb1); (try simp only [List.set_cons_zero, List.set_cons_succ, List.cons_append, List.nil_append, List.eraseIdx_cons_zero, List.eraseIdx_cons_succ, List.setIfInBounds_toArray, World.size_alloc, selR, List.getD_cons_zero, List.getD_cons_succ] at H)
          replace H := Lib.hid (H.out.snocD 4 6 (a := (Nd.mk n.dim ⟨NA2, n.ls.n, nc2, NL⟩ n.all)) (by omega) rfl rfl); (try simp only [List.set_cons_zero, List.set_cons_succ, List.cons_append, List.nil_append, List.eraseIdx_cons_zero, List.eraseIdx_cons_succ, List.setIfInBounds_toArray, World.size_alloc, selR, List.getD_cons_zero, List.getD_cons_succ] at H)
          replace H := Lib.hid (H.out.sel [0, 1, 2, 3, 4] (by decide) (by simp)); (try simp only [List.set_cons_zero, List.set_cons_succ, List.cons_append, List.nil_append, List.eraseIdx_cons_zero, List.eraseIdx_cons_succ, List.setIfInBounds_toArray, World.size_alloc, selR, List.getD_cons_zero, List.getD_cons_succ] at H)
          clear HBD HCN
          have cz := (H.out.blk 0 rfl).cell 2; simp only [List.getElem?_toArray, List.getElem?_cons_zero, List.getElem?_cons_succ] at cz
          go_wp2_with fail
          (try rw [e1])
          refine bodyPost_ret (v := .tuple #[.int .i64 x.nd.n, .int .i64 0]) (by kernel_rfl) rfl ?_
          exact HP2.out (Nd.mk n.dim ⟨NA2, n.ls.n, nc2, NL⟩ n.all) _ _ _ (by show NC.mk _ _ _ = _; rw [HNL.out]) (by rw [arP_snoc]; exact H.out)
        · refine step_buildSlice1 rfl E_nd (.tmp 39) rfl ((Nd.mk n.dim ⟨NA2, n.ls.n, nc2, NL⟩ n.all).cs) rfl rfl (by omega) ?_
          replace H := Lib.hid (H.out.addRow ((Bel.refl _).alloc _) (own_made _ 34 ((Nd.mk n.dim ⟨NA2, n.ls.n, nc2, NL⟩ n.all).cs) _ rfl)); (try simp only [List.set_cons_zero, List.set_cons_succ, List.cons_append, List.nil_append, List.eraseIdx_cons_zero, List.eraseIdx_cons_succ, List.setIfInBounds_toArray, World.size_alloc, selR, List.getD_cons_zero, List.getD_cons_succ] at H)
          refine hKK.out _ _ trivial (fun hHeld => ?_)
          clear hKK KK
          try simp only [Act.put, List.setIfInBounds_toArray, List.set_cons_zero, List.set_cons_succ]
          refine wpAnyH_ready (rs := [4]) (by kernel_rfl) (by simp) ?_
          refine (AllReadyH.cons (get_os (get_os (get_os (get_os (get_o0))))) (fun KK hKK => ?_) AllReadyH.nil)
          have ca4 := (H.out.blk 0 rfl).cell 2; simp only [List.getElem?_toArray, List.getElem?_cons_zero, List.getElem?_cons_succ] at ca4
          go_simp
          clear ca4
          refine hKK.out _ _ trivial (fun hHeld => ?_)
          clear hKK KK
          try simp only [Act.put, List.setIfInBounds_toArray, List.set_cons_zero, List.set_cons_succ]
          refine wpAnyH_ready (rs := [8]) (by kernel_rfl) (by simp) ?_
          refine (AllReadyH.cons (get_os (get_os (get_os (get_os (get_os (get_os (get_os (get_os (get_o0))))))))) (fun KK hKK => ?_) AllReadyH.nil)
          refine step_append0 rfl (.tmp 37) (.tmp 40) _ rfl E_nd 0 (Nat.zero_le _) _ x.nd.n _ rfl (H.out.row 3 rfl) _ 1 1 _ rfl (Rd.of_own (H.out.row 8 rfl)) (by simp [Value.oneCell']) (by unfold maxLen; omega) (by omega) ?_
          intro vq wq howq hgq hatq
          replace H := Lib.hid (H.out.setRow 3 rfl hgq howq hatq); (try simp only [List.set_cons_zero, List.set_cons_succ, List.cons_append, List.nil_append, List.eraseIdx_cons_zero, List.eraseIdx_cons_succ, List.setIfInBounds_toArray, World.size_alloc, selR, List.getD_cons_zero, List.getD_cons_succ] at H)
          clear howq hgq hatq
          obtain ⟨A2, c2, rfl, _⟩ := own_slice (H.out.row 3 rfl)
          refine hKK.out _ _ trivial (fun hHeld => ?_)
          clear hKK KK
          try simp only [Act.put, List.setIfInBounds_toArray, List.set_cons_zero, List.set_cons_succ]
          refine wpAnyH_take (i := 9) (v := ?vq14_) (get_os (get_os (get_os (get_os (get_os (get_os (get_os (get_os (get_os (get_o0)))))))))) (by kernel_rfl) (by kernel_rfl) (by kernel_rfl) (by exact fun _ _ _ h => h) (Or.inl ⟨by rfl, ?hyq14_⟩) (by assumption) ?_
          case hyq14_ => (intro w hSw; (try dsimp only at hSw); go_simp) <;> with_reducible rfl
          try simp only [Act.put, List.setIfInBounds_toArray, List.set_cons_zero, List.set_cons_succ]
          refine wpAnyH_take (i := 10) (v := ?vq15_) (get_ot (get_o0)) (by kernel_rfl) (by kernel_rfl) (by kernel_rfl) (by exact fun _ _ _ h => h) (Or.inl ⟨by rfl, ?hyq15_⟩) (by assumption) ?_
          case hyq15_ => (intro w hSw; (try dsimp only at hSw); go_simp) <;> with_reducible rfl
          try simp only [Act.put, List.setIfInBounds_toArray, List.set_cons_zero, List.set_cons_succ]
          refine wpAnyH_ready (rs := [11]) (by kernel_rfl) (by simp) ?_
          refine (AllReadyH.cons (get_ot (get_os (get_o0))) (fun KK hKK => ?_) AllReadyH.nil)
          have ca11 := (H.out.blk 0 rfl).cell 2; simp only [List.getElem?_toArray, List.getElem?_cons_zero, List.getElem?_cons_succ] at ca11; have fa11 := (H.out.blk 0 rfl).frozen 2
          go_simp
          replace H := Lib.hid (H.out.setCell 0 rfl 2 (.slice A2 (x.nd.n + 1) c2)); (try simp only [List.set_cons_zero, List.set_cons_succ, List.cons_append, List.nil_append, List.eraseIdx_cons_zero, List.eraseIdx_cons_succ, List.setIfInBounds_toArray, World.size_alloc, selR, List.getD_cons_zero, List.getD_cons_succ] at H)
          clear ca11 fa11
          refine hKK.out _ _ trivial (fun hHeld => ?_)
          clear hKK KK
          try simp only [Act.put, List.setIfInBounds_toArray, List.set_cons_zero, List.set_cons_succ]
          refine wpAnyH_done (by kernel_rfl) ?_ _
          clear hHeld
          replace H := Lib.hid (H.out.mkNd 6 7 (n := (Nd.mk n.dim ⟨NA2, n.ls.n, nc2, NL⟩ n.all)) (by omega) rfl rfl HND.out (fun y hy => HNB.out y hy) hb1); (try simp only [List.set_cons_zero, List.set_cons_succ, List.cons_append, List.nil_append, List.eraseIdx_cons_zero, List.eraseIdx_cons_succ, List.setIfInBounds_toArray, World.size_alloc, selR, List.getD_cons_zero, List.getD_cons_succ] at H)
          replace H := Lib.hid (H.out.snocD 4 6 (a := (Nd.mk n.dim ⟨NA2, n.ls.n, nc2, NL⟩ n.all)) (by omega) rfl rfl); (try simp only [List.set_cons_zero, List.set_cons_succ, List.cons_append, List.nil_append, List.eraseIdx_cons_zero, List.eraseIdx_cons_succ, List.setIfInBounds_toArray, World.size_alloc, selR, List.getD_cons_zero, List.getD_cons_succ] at H)
          replace H := Lib.hid (H.out.sel [0, 1, 2, 3, 4] (by decide) (by simp)); (try simp only [List.set_cons_zero, List.set_cons_succ, List.cons_append, List.nil_append, List.eraseIdx_cons_zero, List.eraseIdx_cons_succ, List.setIfInBounds_toArray, World.size_alloc, selR, List.getD_cons_zero, List.getD_cons_succ] at H)
          clear HBD HCN
          have cz := (H.out.blk 0 rfl).cell 2; simp only [List.getElem?_toArray, List.getElem?_cons_zero, List.getElem?_cons_succ] at cz
          go_wp2_with fail
          (try rw [e1])
          refine bodyPost_ret (v := .tuple #[.int .i64 x.nd.n, .int .i64 0]) (by kernel_rfl) rfl ?_
          exact HP2.out (Nd.mk n.dim ⟨NA2, n.ls.n, nc2, NL⟩ n.all) _ _ _ (by show NC.mk _ _ _ = _; rw [HNL.out]) (by rw [arP_snoc]; exact H.out)

end Go.Proofs.Ytlclllkjnhgbjaa

namespace Go.Proofs.Ytlclllkjnhgbjaa
open Go.RowKit
set_option linter.unusedVariables false
set_option linter.unusedSimpArgs false

theorem wpList_sliceK {P : Program} {ops : Array Oper} {rest : List Oper} {o : Oper} {a : Act} {w : World} {Q : Exit → Act → World → Prop} (hgd : o.guard = none) {t : TypeId} (x : Operand) (lo hi : Option Operand) (ho : o.op = .slice t x lo hi none) {v : Value}
    (hr : ∀ w, (Instr.sliceAt t (a.eval x) (lo.map a.eval) (hi.map a.eval) none).run P w = .ok v w) (h : wpList P ops Q rest (a.put o.dst v) w) : wpList P ops Q (o :: rest) a w := by
  refine wpList_plain hgd fun K hK => ?_
  unfold Oper.wp execOp
  simp only [ho, Option.map_none, Sem.run_bind, hr, Result.andThen_ok, Sem.run_pure]
  exact hK _ _ h

set_option maxRecDepth 100000 in
theorem u_clsF : Try.prog.underlying 44 = some (.slice (Try.prog.elem 44)) := by kernel_rfl
set_option maxRecDepth 100000 in
theorem cls_cutF (A : Option Addr) (n c j : Nat) (hj : j = 0) (hc : A = none → c = 0) (hc2 : A ≠ none → c ≠ 0) (w : World) : (Instr.sliceAt 44 (.slice A n c) none (some (.int .i64 j)) none).run Try.prog w = .ok (.slice A 0 c) w := by
  have hz : ∀ w, (sizeOf (Try.prog.elem 44)).run Try.prog w = .ok 12 w := fun _ => by kernel_rfl
  subst hj
  rw [run_sliceAt_slice (h := u_clsF), run_slice_h (ht := u_clsF) (h0 := by omega) (h2 := by omega), hz]
  cases A with
  | none => have := hc rfl; subst this; simp [sliced]
  | some ad => have := hc2 (by simp); simp [sliced, Addr.add, this]
set_option maxRecDepth 100000 in
theorem append_zerosF (w : World) (ty : TypeId) (n : Nat) (h0 : 0 < n) (hn : n ≤ 1000000) : ∃ (c : Nat) (cur : Array Value), n ≤ c ∧ c ≤ maxLen ∧ cur.size = c * 12 ∧ (Builtin.append_ #[44, 3] ty #[.slice none 0 0, .int .i64 n]).run Try.prog w = .ok (.slice (some ⟨w.heap.size, 0, none⟩) n c) (w.drew.alloc (.cells cur 32)) := by
  obtain ⟨i, z, hi, hz, h1, h2, h3⟩ := E_cl.hi
  refine ⟨_, _, grownCap_ge w n 0 32, grownCap_le_maxLen w n 0 32 (by unfold maxLen; omega), ?_, Lib.run_append_nil_zeros (P := Try.prog) w 44 3 ty 32 i z .i64 .i64 E_cl.ht Try.underlying3 hi hz n h0 (by omega) (by omega) (by rw [h2]; omega)⟩
  have hge := grownCap_ge w n 0 32
  rw [Array.size_append, size_zeroCells, size_zeroCells, h3, ← Nat.add_mul]
  congr 1
  omega
set_option maxRecDepth 100000 in
set_option maxHeartbeats 1000000 in
theorem grow_any (n : Nat) (w : World) (hn : n ≤ 1000000) :
    Calls Try.prog 113 #[.slice none 0 0, .int .i64 n] w fun e w' => ∃ (A : Option Addr) (c : Nat), e = .returned (.slice A 0 c) ∧ Bel w w' ∧ w'.ownsRow w.heap.size 32 12 (.slice A 0 c) 0 [] := by
  have d0 : decide ((n : Int) < 0) = false := by simp <;> omega
  by_cases h0 : n = 0
  · subst h0
    go_enter Try.func113, Try.ntmps113
    go_wp2
    go_ret
    exact ⟨none, 0, rfl, Bel.refl _, World.ownsRow_nil _ _ _ _⟩
  have d1 : decide ((0 : Int) < (n : Int)) = true := by simp <;> omega
  have d1n : decide (0 < n) = true := by simp <;> omega
  obtain ⟨c, cur, hnc, hcm, hsz, hap⟩ := append_zerosF w 44 n (by omega) hn
  have HAP := Lib.hid hap
  have hs1 := cls_cutF none 0 0 0 rfl (fun _ => rfl) (fun h => absurd rfl h)
  have hs2 := cls_cutF (some ⟨w.heap.size, 0, none⟩) n c 0 rfl (fun h => by cases h) (fun _ => by omega)
  clear hap
  go_enter Try.func113, Try.ntmps113
  go_wp2_with (first | ((with_reducible show wpList _ _ _ (⟨some 20, _, _, _, _, _⟩ :: _) _ _); refine wpList_sliceK rfl (.tmp 17) none (some (.tmp 19)) rfl (v := .slice none 0 0) hs1 ?_) | ((with_reducible show wpList _ _ _ (⟨some 22, _, _, _, _, _⟩ :: _) _ _); refine Lib.wpList_append_run w rfl (.tmp 20) (.tmp 21) _ _ rfl _ _ rfl rfl _ _ HAP.out ?_) | ((with_reducible show wpList _ _ _ (⟨some 25, _, _, _, _, _⟩ :: _) _ _); refine wpList_sliceK rfl (.tmp 22) none (some (.tmp 24)) rfl (v := .slice (some ⟨w.heap.size, 0, none⟩) 0 c) hs2 ?_))
  go_ret
  exact ⟨some ⟨w.heap.size, 0, none⟩, c, rfl, (Bel.refl w).drew.alloc _, ⟨rfl, .inr ⟨w.heap.size, c, cur, rfl, Nat.le_refl _, heap_alloc_new _ _, Nat.zero_le _, hcm, hsz, by simp⟩⟩⟩

end Go.Proofs.Ytlclllkjnhgbjaa

namespace Go.Proofs.Ytlclllkjnhgbjaa
open Go.RowKit
set_option linter.unusedVariables false
set_option linter.unusedSimpArgs false


theorem flat_nextG {L : List (List Cl)} {k : Nat} {l : List Cl} (h : L[k]? = some l) : (L.take (k + 1)).flatten = (L.take k).flatten ++ l := by
  rw [take_snoc_get h, List.flatten_append]; simp
theorem flat_leG (L : List (List Cl)) (k : Nat) : (L.take k).flatten.length ≤ L.flatten.length := by
  conv => rhs; rw [← List.take_append_drop k L, List.flatten_append, List.length_append]
  omega
set_option maxRecDepth 100000 in
set_option maxHeartbeats 2000000 in
theorem concat_any (x : Row (Row Cl)) (w : World) (hx : x.rd w) (ht : (x.l.map Row.l).flatten.length ≤ 1000000) :
    Calls Try.prog 105 #[.slice x.A x.n x.c] w fun e w' => ∃ (A : Option Addr) (c : Nat), e = .returned (.slice A (x.l.map Row.l).flatten.length c) ∧ Bel w w' ∧ w'.ownsRow w.heap.size 32 12 (.slice A (x.l.map Row.l).flatten.length c) (x.l.map Row.l).flatten.length ((x.l.map Row.l).flatten.flatMap Cel.cells) := by
  have HX := Lib.hid (fun w' (hb : Bel w w') => hx.mono hb)
  have hll : Hid (x.l.length = x.n) := hx.len
  have n63 := hx.n63
  have H := Lib.hid (SL.start No w)
  have HT := Lib.hid ht
  have HS0 : Hid (0 = ((x.l.map Row.l).take (0)).flatten.length) := rfl
  clear hx ht
  go_enter Try.func105, Try.ntmps105
  go_upto_region 3 with fail
  go_loopg [3, 11] x.n (fun gg s3 s11 wr => ∃ (k m : Nat), gg = x.n - k ∧ k ≤ x.n ∧ s3 = .int .i64 m ∧ s11 = .int .i64 k ∧ Hid (m = ((x.l.map Row.l).take (k)).flatten.length) ∧ Hid (SL No w wr []))
  case atStart => exact ⟨0, 0, rfl, by omega, rfl, rfl, HS0, H⟩
  case round =>
    clear H
    obtain ⟨k, m, hgk, hk, rfl, rfl, HM, H⟩ := hrel
    have Hgk := Lib.hid hgk
    clear hgk
    by_cases hlt : k < x.n
    · obtain ⟨bl, ol, v, hAl, hvk, hvok, hvc⟩ := (HX.out _ H.out.to).clsAt (k := k) hlt
      have hvl : v.l.length = v.n := hvok.rds.len
      have hnx := flat_nextG (L := x.l.map Row.l) (k := k) (l := v.l) (by rw [List.getElem?_map, hvk]; rfl)
      have hle := flat_leG (x.l.map Row.l) (k + 1)
      have HM2 : Hid (m + v.n = ((x.l.map Row.l).take (k + 1)).flatten.length) := by show _ = _; rw [hnx, List.length_append, ← HM.out, hvl]
      have hm2 : m + v.n ≤ 1000000 := by have := HM2.out; have := HT.out; omega
      have k0 : (0 : Int) ≤ k := by omega
      have k1 : (k : Int) < x.n := by omega
      have d0 : decide ((m : Int) + (v.n : Int) < 0) = false := by simp <;> omega
      have HAL := Lib.hid hAl
      rw [hAl]
      clear hvk hvok hvl hnx hle hAl HM
      go_wp2_with fail
      rw [← HAL.out]
      go_roundg (x.n - (k + 1))
      case rel => exact ⟨k + 1, m + v.n, rfl, by omega, by go_num, by go_num, HM2, H⟩
      case measure => rw [Hgk.out]; omega
    · obtain rfl : k = x.n := by omega
      have HMT : Hid (m = (x.l.map Row.l).flatten.length) := by show _ = _; rw [HM.out, List.take_of_length_le (by rw [List.length_map, hll.out]; exact Nat.le_refl _)]
      have hmm : m ≤ 1000000 := by have := HMT.out; have := HT.out; omega
      clear HM
      go_wp2_with fail
      refine (grow_any m _ hmm).mono ?_; rintro e w2 ⟨A, c, rfl, hb2, ho2⟩
      replace H := Lib.hid (H.out.addRow hb2 ho2); (try simp only [List.set_cons_zero, List.set_cons_succ, List.cons_append, List.nil_append, List.eraseIdx_cons_zero, List.eraseIdx_cons_succ, List.setIfInBounds_toArray, World.size_alloc, selR, List.getD_cons_zero, List.getD_cons_succ] at H)
      clear hb2 ho2 HMT
      go_upto_region 11 with fail
      have HR0 : Hid (SL No w w2 [rRow 32 12 (.slice A 0 c) 0 (((x.l.map Row.l).take (0)).flatten.flatMap Cel.cells)]) := H
      go_loopg [6, 27] x.n (fun gg s6 s27 wr => ∃ (k m : Nat) (B : Option Addr) (d : Nat), gg = x.n - k ∧ k ≤ x.n ∧ s6 = .slice B m d ∧ s27 = .int .i64 k ∧ Hid (m = ((x.l.map Row.l).take (k)).flatten.length) ∧ Hid (SL No w wr [rRow 32 12 (.slice B m d) m (((x.l.map Row.l).take (k)).flatten.flatMap Cel.cells)]))
      case atStart => exact ⟨0, 0, A, c, rfl, by omega, rfl, rfl, HS0, HR0⟩
      case round =>
        clear H HR0
        obtain ⟨k, m, B, d, hgk, hk, rfl, rfl, HM, H⟩ := hrel
        have Hgk := Lib.hid hgk
        clear hgk
        by_cases hlt : k < x.n
        · obtain ⟨bl, ol, v, hAl, hvk, hvok, hvc⟩ := (HX.out _ H.out.to).clsAt (k := k) hlt
          have hvl : v.l.length = v.n := hvok.rds.len
          have hnx := flat_nextG (L := x.l.map Row.l) (k := k) (l := v.l) (by rw [List.getElem?_map, hvk]; rfl)
          have hle := flat_leG (x.l.map Row.l) (k + 1)
          have HM2 : Hid (m + v.n = ((x.l.map Row.l).take (k + 1)).flatten.length) := by show _ = _; rw [hnx, List.length_append, ← HM.out, hvl]
          have hm2 : m + v.n ≤ 1000000 := by have := HM2.out; have := HT.out; omega
          have HFM : Hid ((((x.l.map Row.l).take (k + 1)).flatten.flatMap Cel.cells : List Value) = ((x.l.map Row.l).take (k)).flatten.flatMap Cel.cells ++ v.l.flatMap Cel.cells) := by show _ = _; rw [hnx, List.flatMap_append]
          have HRR := Lib.hid hvok.rds.r
          have k0 : (0 : Int) ≤ k := by omega
          have k1 : (k : Int) < x.n := by omega
          have HAL := Lib.hid hAl
          rw [hAl]
          clear hvk hvok hvl hnx hle hAl HM
          go_wp2_with ((with_reducible show wpList _ _ _ (⟨some 33, _, _, _, _, _⟩ :: _) _ _); (refine wpList_append0 rfl (.tmp 31) (.tmp 32) _ rfl E_cl 0 (Nat.zero_le _) _ m _ rfl (H.out.row 0 rfl) v.A v.n v.c (v.l.flatMap Cel.cells) rfl (HRR.out) (cls_one v.l) (by unfold maxLen; omega) (by omega) ?_; intro vq wq howq hgq hatq; replace H := Lib.hid (H.out.setRow 0 rfl hgq howq hatq); (try simp only [List.set_cons_zero, List.set_cons_succ, List.cons_append, List.nil_append, List.eraseIdx_cons_zero, List.eraseIdx_cons_succ, List.setIfInBounds_toArray, World.size_alloc, selR, List.getD_cons_zero, List.getD_cons_succ] at H); clear howq hgq hatq; obtain ⟨A2, c2, rfl, _⟩ := own_slice (H.out.row 0 rfl)))
          rw [← HAL.out]
          rw [← HFM.out] at H
          go_roundg (x.n - (k + 1))
          case rel => exact ⟨k + 1, m + v.n, A2, c2, rfl, by omega, by rfl, by go_num, HM2, H⟩
          case measure => rw [Hgk.out]; omega
        · obtain rfl : k = x.n := by omega
          have hT : (x.l.map Row.l).take x.n = x.l.map Row.l := List.take_of_length_le (by rw [List.length_map, hll.out]; exact Nat.le_refl _)
          rw [hT] at H HM
          have HMM := Lib.hid HM.out
          clear hT HM
          go_wp2_with fail
          go_ret
          rw [HMM.out] at H ⊢
          exact ⟨B, d, rfl, H.out.to, H.out.rowB 0 rfl⟩
set_option maxRecDepth 100000 in
set_option maxHeartbeats 1000000 in
theorem each_any (n : Nd) (w : World) (hn : n.rd w) (ht : (n.ls.l.map Row.l).flatten.length ≤ 999999) :
    Calls Try.prog 89 #[.agg n.cs] w fun e w' => ∃ (A : Option Addr) (c : Nat), e = .returned (.slice A (eachN n.con).length c) ∧ Bel w w' ∧ w'.ownsRow w.heap.size 32 12 (.slice A (eachN n.con).length c) (eachN n.con).length ((eachN n.con).flatMap Cel.cells) := by
  have HC := Lib.hid (fun w' (hb : Bel w w') => concat_any n.ls w' (hn.ls.mono hb) (by omega))
  have H := Lib.hid ((SL.start No w).alloc n.cs 34)
  (try simp only [List.set_cons_zero, List.set_cons_succ, List.cons_append, List.nil_append, List.eraseIdx_cons_zero, List.eraseIdx_cons_succ, List.setIfInBounds_toArray, World.size_alloc, selR, List.getD_cons_zero, List.getD_cons_succ] at H)
  obtain ⟨m, hm⟩ : ∃ m, m = (n.ls.l.map Row.l).flatten.length := ⟨_, rfl⟩
  have he1 : (eachN n.con).length = m + 1 := by unfold eachN; rw [List.length_append, ← hm]; rfl
  have he2 : ((eachN n.con).flatMap Cel.cells : List Value) = (n.ls.l.map Row.l).flatten.flatMap Cel.cells ++ n.all.cs.toList := by unfold eachN; rw [List.flatMap_append]; simp [Cel.cells]
  rw [he1, he2]
  rw [← hm] at HC ht
  clear hn he1 he2 hm
  go_enter Try.func89, Try.ntmps89
  go_upto_region 1 with fail
  generalize w.heap.size = x at *
  generalize World.alloc w _ = w1 at *
  have cl : w1.cell? ⟨x, 1, none⟩ = some (.slice n.ls.A n.ls.n n.ls.c) := (H.out.blk 0 rfl).cell 1
  go_wp2_with fail
  refine (HC.out _ H.out.to).mono ?_; rintro e w2 ⟨A, c, rfl, hb2, ho2⟩
  replace H := Lib.hid (H.out.addRow hb2 ho2); (try simp only [List.set_cons_zero, List.set_cons_succ, List.cons_append, List.nil_append, List.eraseIdx_cons_zero, List.eraseIdx_cons_succ, List.setIfInBounds_toArray, World.size_alloc, selR, List.getD_cons_zero, List.getD_cons_succ] at H)
  clear hb2 ho2 cl
  have HAL : Hid (w2.rangeAt x 2 n.all.cs.toList) := fun j v hv => by
    have := (H.out.blk 0 rfl).range (j + 2) v (by rw [nd_all]; exact hv)
    rw [show 0 + (j + 2) = 2 + j by omega] at this
    exact this
  go_wp2_with (first | ((with_reducible show wpList _ _ _ (⟨some 9, _, _, _, _, _⟩ :: _) _ _); (refine wpList_load_row_at rfl rowCl (.tmp 8) rfl x (2) rfl n.all.cs rfl HAL.out ?_)) | ((with_reducible show wpList _ _ _ (⟨some 10, _, _, _, _, _⟩ :: _) _ _); (refine wpList_buildSlice1 rfl E_cl (.tmp 9) rfl (n.all.cs) rfl rfl (by omega) ?_; replace H := Lib.hid (H.out.addRow ((Bel.refl _).alloc _) (own_made _ 32 (n.all.cs) _ rfl)); (try simp only [List.set_cons_zero, List.set_cons_succ, List.cons_append, List.nil_append, List.eraseIdx_cons_zero, List.eraseIdx_cons_succ, List.setIfInBounds_toArray, World.size_alloc, selR, List.getD_cons_zero, List.getD_cons_succ] at H))) | ((with_reducible show wpList _ _ _ (⟨some 11, _, _, _, _, _⟩ :: _) _ _); (refine wpList_append0 rfl (.tmp 7) (.tmp 10) _ rfl E_cl 0 (Nat.zero_le _) _ m _ rfl (H.out.row 1 rfl) _ 1 1 _ rfl (Rd.of_own (H.out.row 2 rfl)) (by simp [Value.oneCell']) (by unfold maxLen; omega) (by omega) ?_; intro vq wq howq hgq hatq; replace H := Lib.hid (H.out.setRow 1 rfl hgq howq hatq); (try simp only [List.set_cons_zero, List.set_cons_succ, List.cons_append, List.nil_append, List.eraseIdx_cons_zero, List.eraseIdx_cons_succ, List.setIfInBounds_toArray, World.size_alloc, selR, List.getD_cons_zero, List.getD_cons_succ] at H); clear howq hgq hatq; obtain ⟨A2, c2, rfl, _⟩ := own_slice (H.out.row 1 rfl))))
  go_ret
  exact ⟨A2, c2, rfl, H.out.to, H.out.rowB 1 rfl⟩

end Go.Proofs.Ytlclllkjnhgbjaa

namespace Go.Proofs.Ytlclllkjnhgbjaa
open Go.RowKit
set_option linter.unusedVariables false
set_option linter.unusedSimpArgs false


theorem firstErr_inv {f : Nat → Int} : ∀ {m j : Nat}, firstErr f m j = 0 → ∀ i, j ≤ i → i < j + m → f i = 0
  | 0, j, _, i, h1, h2 => by omega
  | m + 1, j, h, i, h1, h2 => by
    rw [firstErr] at h
    by_cases h0 : f j = 0
    · rw [if_neg (by omega)] at h
      rcases Nat.eq_or_lt_of_le h1 with e | e
      · rw [← e]; exact h0
      · exact firstErr_inv h i e (by omega)
    · rw [if_pos h0] at h; exact absurd h h0
theorem listErr_cells {nd : Nat} {ms dim size : Int} {l : List Cl} (h : listErr nd ms dim size l = 0) : ∀ c ∈ l, cellOk nd ms dim c = true := fun c hc => by
  unfold listErr at h
  by_cases h0 : l.length = 0
  · rw [if_pos h0] at h; omega
  rw [if_neg h0] at h
  obtain ⟨i, hi, hci⟩ := List.getElem_of_mem hc
  have h1 := firstErr_inv h i (Nat.zero_le _) (by omega)
  unfold cellAt at h1
  rw [List.getElem?_eq_getElem hi, hci] at h1
  simp only at h1
  cases hk : cellOk nd ms dim c with
  | true => rfl
  | false =>
    rw [hk] at h1
    simp only [if_true] at h1
    split at h1
    · omega
    · split at h1 <;> omega
/-- What a node that may be says of its cells. -/
theorem nodeErr_cells {xs : List (List Int)} {ms : Int} {n : NC} (h : nodeErr xs ms n = 0) : (0 ≤ n.dim ∧ n.dim < xs.length) ∧ ∀ c ∈ eachN n, cellOk xs.length ms n.dim c = true := by
  by_cases h1 : n.dim < 0
  · rw [nodeErr_neg h1] at h; omega
  by_cases h2 : xs.length ≤ n.dim.toNat
  · rw [nodeErr_none h1 h2] at h; omega
  have hs : xs[n.dim.toNat]? = some (xs[n.dim.toNat]'(by omega)) := List.getElem?_eq_getElem (by omega)
  rw [nodeErr_some h1 hs] at h
  generalize xs[n.dim.toNat]'(by omega) = sz at h
  by_cases h3 : sz.length = 0 ∨ n.ls.length ≠ sz.length
  · rw [if_pos h3] at h; omega
  rw [if_neg h3] at h
  by_cases h4 : firstErr (listAt xs.length ms n.dim sz n.ls) n.ls.length 0 ≠ 0
  · rw [if_pos h4] at h; exact absurd h h4
  rw [if_neg h4] at h
  have h4 := Classical.not_not.1 h4
  by_cases h5 : n.all.key ≠ 0 ∨ cellOk xs.length ms n.dim n.all = false
  · rw [if_pos h5] at h; omega
  refine ⟨⟨by omega, by omega⟩, fun c hc => ?_⟩
  rcases List.mem_append.1 hc with hc | hc
  · obtain ⟨l, hl, hcl⟩ := List.mem_flatten.1 hc
    obtain ⟨k, hk, hkl⟩ := List.getElem_of_mem hl
    have h6 := firstErr_inv h4 k (Nat.zero_le _) (by omega)
    have hlen : n.ls.length = sz.length := Classical.byContradiction fun e => h3 (.inr e)
    have hz : sz[k]? = some (sz[k]'(by omega)) := List.getElem?_eq_getElem (by omega)
    rw [listAt_some (List.getElem?_eq_getElem hk) hz, hkl] at h6
    by_cases h7 : listErr xs.length ms n.dim (sz[k]'(by omega)) l ≠ 0
    · rw [if_pos h7] at h6; exact absurd h6 h7
    · exact listErr_cells (Classical.not_not.1 h7) c hcl
  · rw [List.mem_singleton] at hc
    subst hc
    cases hk : cellOk xs.length ms n.dim n.all with
    | true => rfl
    | false => exact absurd (.inr hk) h5
theorem cellOk_ch {nd : Nat} {ms dim : Int} {c : Cl} (h : cellOk nd ms dim c = true) : 0 ≤ c.ch := by
  unfold cellOk at h
  split at h
  · simp only [Bool.and_eq_true, decide_eq_true_eq] at h; omega
  · simp only [Bool.and_eq_true, decide_eq_true_eq] at h; exact h.1
/-- So few cells that each count fits. -/
structure SmN (n : Nd) : Prop where
  a : n.ls.n ≤ 1000000
  b : ∀ y ∈ n.ls.l, y.n ≤ 1000000
  t : (n.ls.l.map Row.l).flatten.length ≤ 999999
theorem nd_cells {w : World} {n : Nd} (hn : n.rd w) : ∀ c ∈ eachN n.con, c.ok := fun c hc => by
  rcases List.mem_append.1 hc with hc | hc
  · obtain ⟨l, hl, hcl⟩ := List.mem_flatten.1 hc
    obtain ⟨y, hy, rfl⟩ := List.mem_map.1 hl
    exact (hn.ls.all y hy).all c hcl
  · rw [List.mem_singleton] at hc
    subst hc
    exact hn.all
set_option maxRecDepth 100000 in
set_option maxHeartbeats 2000000 in
theorem leads1_any (b x y : Nat) (nd : Row Nd) (dim : Int) (c : Cl) (w : World) (hx : w.cell? ⟨x, 0, none⟩ = some (.pointer (some ⟨b, 0, none⟩))) (hb : w.cell? ⟨b, 2, none⟩ = some (.slice nd.A nd.n nd.c)) (hy : w.cell? ⟨y, 0, none⟩ = some (.int .i64 dim)) (hnd : nd.rd w) (hd0 : 0 ≤ dim) (hd1 : dim ≤ 1000000) (hc : c.ok) (h0 : 0 ≤ c.ch) :
    Calls Try.prog 104 #[.agg c.cs, .pointer (some ⟨x, 0, none⟩), .pointer (some ⟨y, 0, none⟩)] w fun e w' => e = .returned (.bool (aheadC (nd.l.map Nd.con) dim c)) ∧ Bel w w' := by
  have HCx : Hid (∀ w', Bel w w' → w'.cell? ⟨x, 0, none⟩ = some (.pointer (some ⟨b, 0, none⟩))) := fun w' hb => (hb.cell (p := ⟨x, 0, none⟩) (World.block_lt_of_cell? _ _ hx)).trans hx
  have HCb : Hid (∀ w', Bel w w' → w'.cell? ⟨b, 2, none⟩ = some (.slice nd.A nd.n nd.c)) := fun w' h => (h.cell (p := ⟨b, 2, none⟩) (World.block_lt_of_cell? _ _ hb)).trans hb
  have HCy : Hid (∀ w', Bel w w' → w'.cell? ⟨y, 0, none⟩ = some (.int .i64 dim)) := fun w' hb => (hb.cell (p := ⟨y, 0, none⟩) (World.block_lt_of_cell? _ _ hy)).trans hy
  have HND := Lib.hid (fun w' (hb : Bel w w') => hnd.mono hb)
  have n63 := hnd.n63
  have hnl : Hid (nd.l.length = nd.n) := hnd.len
  have H := Lib.hid ((SL.start No w).alloc c.cs 32)
  (try simp only [List.set_cons_zero, List.set_cons_succ, List.cons_append, List.nil_append, List.eraseIdx_cons_zero, List.eraseIdx_cons_succ, List.setIfInBounds_toArray, World.size_alloc, selR, List.getD_cons_zero, List.getD_cons_succ] at H)
  obtain ⟨k, hk⟩ : ∃ k : Nat, c.ch = k := ⟨c.ch.toNat, by omega⟩
  have HK := Lib.hid hk
  have HCS := Lib.hid (rfl : c.cs = Cl.cs c)
  obtain ⟨R, hR⟩ : ∃ R, R = aheadC (nd.l.map Nd.con) dim c := ⟨_, rfl⟩
  have HR := Lib.hid hR
  rw [← hR]
  have k64 := hc.ch
  unfold I64 at k64
  rw [hk] at k64
  clear hx hb hy hnd hc hR
  go_enter Try.func104, Try.ntmps104
  go_upto_region 1 with fail
  generalize w.heap.size = z at *
  generalize World.alloc w _ = w1 at *
  have cc : w1.cell? ⟨z, 1, none⟩ = some (.int .i64 k) := by have h := (H.out.blk 0 rfl).cell 1; rw [← HK.out]; exact h
  have cx := HCx.out _ H.out.to
  have cy := HCy.out _ H.out.to
  have cb := HCb.out _ H.out.to
  by_cases hlt : k < nd.n
  · obtain ⟨bl, ol, t, hAl, hbl, htk, htr, hrg⟩ := (HND.out _ H.out.to).ndAt (k := k) hlt
    have ct : w1.cell? ⟨bl, ol + k * 14, none⟩ = some (.int .i64 t.dim) := hrg 0 _ rfl
    have HRV : Hid (R = (t.dim == dim + 1)) := by
      show _ = _
      rw [HR.out]
      unfold aheadC
      rw [HK.out, Int.toNat_natCast, List.getElem?_map, htk]
      exact Bool.eq_iff_iff.2 (by simp)
    have d1 : decide ((k : Int) < (nd.n : Int)) = true := by simp <;> omega
    have d1n : decide (k < nd.n) = true := by simp <;> omega
    have k0 : (0 : Int) ≤ k := by omega
    have k1 : (k : Int) < nd.n := by omega
    have t64 := htr.dim
    unfold I64 at t64
    rw [hAl] at cb
    clear hk HR htk htr hrg hAl hbl hlt
    have f_cc := fun u : Over w1 => Over.cell cc u
    have f_cx := fun u : Over w1 => Over.cell cx u
    have f_cy := fun u : Over w1 => Over.cell cy u
    have f_cb := fun u : Over w1 => Over.cell cb u
    have f_ct := fun u : Over w1 => Over.cell ct u
    refine wp_region_over (by kernel_rfl) (by kernel_rfl) ?_
    (try simp only [Act.put, List.setIfInBounds_toArray, List.set_cons_zero, List.set_cons_succ])
    repeat (go_big_quiet_step (fail))
    refine wpQuiet_nil ?_
    rintro w5 ⟨⟨_, hw5⟩, rfl⟩
    (try dsimp only)
    replace H := Lib.hid (H.out.bel hw5); (try simp only [List.set_cons_zero, List.set_cons_succ, List.cons_append, List.nil_append, List.eraseIdx_cons_zero, List.eraseIdx_cons_succ, List.setIfInBounds_toArray, World.size_alloc, selR, List.getD_cons_zero, List.getD_cons_succ] at H)
    clear f_cc f_cx f_cy f_cb f_ct cc cx cy cb ct
    go_wp2_with fail
    go_ret
    rw [HRV.out]
    exact ⟨rfl, H.out.to⟩
  · have HRV : Hid (R = false) := by
      show _ = _
      rw [HR.out]
      unfold aheadC
      rw [HK.out, Int.toNat_natCast, List.getElem?_map, List.getElem?_eq_none (by rw [hnl.out]; omega)]
      rfl
    have d1 : decide ((k : Int) < (nd.n : Int)) = false := by simp <;> omega
    have d1n : decide (k < nd.n) = false := by simp <;> omega
    clear hk HR hlt
    have f_cc := fun u : Over w1 => Over.cell cc u
    have f_cx := fun u : Over w1 => Over.cell cx u
    have f_cy := fun u : Over w1 => Over.cell cy u
    have f_cb := fun u : Over w1 => Over.cell cb u
    refine wp_region_over (by kernel_rfl) (by kernel_rfl) ?_
    (try simp only [Act.put, List.setIfInBounds_toArray, List.set_cons_zero, List.set_cons_succ])
    repeat (go_big_quiet_step (fail))
    refine wpQuiet_nil ?_
    rintro w5 ⟨⟨_, hw5⟩, rfl⟩
    (try dsimp only)
    replace H := Lib.hid (H.out.bel hw5); (try simp only [List.set_cons_zero, List.set_cons_succ, List.cons_append, List.nil_append, List.eraseIdx_cons_zero, List.eraseIdx_cons_succ, List.setIfInBounds_toArray, World.size_alloc, selR, List.getD_cons_zero, List.getD_cons_succ] at H)
    clear f_cc f_cx f_cy f_cb cc cx cy cb
    go_wp2_with fail
    go_ret
    rw [HRV.out]
    exact ⟨rfl, H.out.to⟩
set_option maxRecDepth 100000 in
set_option maxHeartbeats 2000000 in
theorem aleads_any (b : Nat) (x : Arn) (n : Nd) (w : World) (HP : SL (DomL (arP b x)) w w (arP b x)) (ok : x.ok) (hn : n.rd w) (ht : (n.ls.l.map Row.l).flatten.length ≤ 999999) (hz : nodeErr x.shp.con x.ms n.con = 0) :
    Calls Try.prog 88 #[.pointer (some ⟨b, 0, none⟩), .agg n.cs] w fun e w' => e = .returned (.bool (leadsN x.sz.n (x.nd.l.map Nd.con) n.con)) ∧ Bel w w' := by
  have hsr := ar_shp ok (HP.get 1 rfl) (HP.get 2 rfl)
  have HLS := Lib.hid (fun w' (hb : Bel w w') => last_any x.shp n.dim w' (hsr.mono hb) hn.dim)
  have hcc := (HP.blk 0 rfl).cell 2
  have HC2 : Hid (∀ w', Bel w w' → w'.cell? ⟨b, 2, none⟩ = some (.slice x.nd.A x.nd.n x.nd.c)) := fun w' hb => (hb.cell (p := ⟨b, 2, none⟩) (World.block_lt_of_cell? _ _ hcc)).trans hcc
  have hndr := ar_nds ok (HP.get 3 rfl) (HP.get 4 rfl)
  have HND := Lib.hid (fun w' (hb : Bel w w') => hndr.mono hb)
  have HEA := Lib.hid (fun w' (hb : Bel w w') => each_any n w' (hn.mono hb) ht)
  have hbb := (HP.blk 0 rfl).lt
  have hr : w.rangeAt b 0 x.shp.cs.toList := fun j v hv => by
    match j, hv with
    | 0, hv => exact (HP.blk 0 rfl).range 0 v hv
    | 1, hv => exact (HP.blk 0 rfl).range 1 v hv
    | j + 2, hv => simp at hv
  have HR0 := Lib.hid (fun w' (hx : Bel w w') => (fun j v hv => (hx.cell (p := ⟨b, 0 + j, none⟩) hbb).trans (hr j v hv) : w'.rangeAt b 0 x.shp.cs.toList))
  have HBB := Lib.hid (fun w' (hx : Bel w w') => Nat.lt_of_lt_of_le hbb hx.size)
  have hcl := nodeErr_cells hz
  have hxn : x.shp.con.length = x.sz.n := by rw [List.length_map]; exact hsr.sz.len
  rw [hxn] at hcl
  have HOK := Lib.hid (nd_cells hn)
  have HCH := Lib.hid (fun c hc => cellOk_ch (hcl.2 c hc))
  have hdim0 : 0 ≤ n.dim := hcl.1.1
  have hdim1 : n.dim < x.sz.n := hcl.1.2
  have hs16 := ok.s16
  have hel : (eachN n.con).length ≤ 1000000 := by unfold eachN; rw [List.length_append]; show _ + 1 ≤ _; have : n.con.ls = n.ls.l.map Row.l := rfl; rw [this]; omega
  obtain ⟨R, hR⟩ : ∃ R, R = leadsN x.sz.n (x.nd.l.map Nd.con) n.con := ⟨_, rfl⟩
  have HR : Hid (R = (decide (n.dim = (x.sz.n : Int) - 1) || (eachN n.con).all (aheadC (x.nd.l.map Nd.con) n.dim))) := hR
  rw [← hR]
  have H := Lib.hid (((SL.start No w).alloc #[.pointer (some ⟨b, 0, none⟩)] 64).alloc n.cs 34)
  (try simp only [List.set_cons_zero, List.set_cons_succ, List.cons_append, List.nil_append, List.eraseIdx_cons_zero, List.eraseIdx_cons_succ, List.setIfInBounds_toArray, World.size_alloc, selR, List.getD_cons_zero, List.getD_cons_succ] at H)
  clear HP hsr hcc hndr hn ht hbb hr hcl hxn hz hR
  go_enter Try.func88, Try.ntmps88
  go_upto_region 1 with fail
  generalize w.heap.size + 1 = y at *
  generalize w.heap.size = z at *
  generalize World.alloc (World.alloc _ _) _ = w1 at *
  have hbb := HBB.out _ H.out.to
  have HR1 := Lib.hid (HR0.out _ H.out.to)
  have c0 : w1.cell? ⟨z, 0, none⟩ = some (.pointer (some ⟨b, 0, none⟩)) := (H.out.blk 0 rfl).cell 0
  have c1 : w1.cell? ⟨y, 0, none⟩ = some (.int .i64 n.dim) := (H.out.blk 1 rfl).cell 0
  go_upto_region 1 with fail
  have f_c0 := fun u : Over w1 => Over.cell c0 u
  have f_c1 := fun u : Over w1 => Over.cell c1 u
  refine wp_region_over (by kernel_rfl) (by kernel_rfl) ?_
  (try simp only [Act.put, List.setIfInBounds_toArray, List.set_cons_zero, List.set_cons_succ])
  repeat (first
    | ((with_reducible show wpQuiet _ _ _ _ (⟨some 11, _, _, _, _, _⟩ :: _) _); refine wpQuiet_load_row (by first | rfl | go_simp) rowShp2 (.tmp 10) rfl b (0) rfl x.shp.cs rfl hbb HR1.out ?_; simp only [Act.put, List.setIfInBounds_toArray, List.set_cons_zero, List.set_cons_succ])
    | go_big_quiet_step (((go_at_call 69; rename_i u; exact calls_over (HLS.out _ (H.out.to.trans u.bel))))))
  refine wpQuiet_nil ?_
  rintro w5 ⟨⟨_, hw5⟩, rfl⟩
  (try dsimp only)
  replace H := Lib.hid (H.out.bel hw5); (try simp only [List.set_cons_zero, List.set_cons_succ, List.cons_append, List.nil_append, List.eraseIdx_cons_zero, List.eraseIdx_cons_succ, List.setIfInBounds_toArray, World.size_alloc, selR, List.getD_cons_zero, List.getD_cons_succ] at H)
  clear f_c0 f_c1 c0 c1
  clear HLS HR0 HBB hbb HR1
  cases hl : (n.dim == (x.sz.n : Int) - 1) with
  | true =>
    have HRV : Hid (R = true) := by show _ = _; rw [HR.out]; simp only [beq_iff_eq] at hl; rw [hl]; simp
    clear HR
    go_wp2_with fail
    go_ret
    rw [HRV.out]
    exact ⟨rfl, H.out.to⟩
  | false =>
    have HRA : Hid (R = (eachN n.con).all (aheadC (x.nd.l.map Nd.con) n.dim)) := by show _ = _; rw [HR.out]; simp only [beq_eq_false_iff_ne, ne_eq] at hl; simp [hl]
    clear HR
    go_wp2_with ((with_reducible show wpList _ _ _ (⟨some 16, _, _, _, _, _⟩ :: _) _ _); (refine wpList_load_blk rfl rowNd (.tmp 3) rfl _ rfl (H.out.blk 1 rfl) rfl ?_))
    refine (HEA.out _ H.out.to).mono ?_; rintro e w6 ⟨A, cp, rfl, hb6, ho6⟩
    replace H := Lib.hid (H.out.addRow hb6 ho6); (try simp only [List.set_cons_zero, List.set_cons_succ, List.cons_append, List.nil_append, List.eraseIdx_cons_zero, List.eraseIdx_cons_succ, List.setIfInBounds_toArray, World.size_alloc, selR, List.getD_cons_zero, List.getD_cons_succ] at H)
    clear hb6 ho6 HEA hl
    obtain ⟨m, hm⟩ : ∃ m, m = (eachN n.con).length := ⟨_, rfl⟩
    rw [← hm] at H hel ⊢
    have HM := Lib.hid hm
    clear hm
    have HLR : Hid (∀ w', SL No w w' [rBlk z 64 #[.pointer (some ⟨b, 0, none⟩)], rBlk y 34 n.cs, rRow 32 12 (.slice A m cp) m ((eachN n.con).flatMap Cel.cells)] → (Row.mk A m cp (eachN n.con) : Row Cl).rd w') := fun w' h => Row.ok.rds (own_ok (x := ⟨A, m, cp, eachN n.con⟩) (h.row 2 rfl) HOK.out (by show m * 96 ≤ _; omega))
    have HF : Hid (∀ j c, j < 0 → (eachN n.con)[j]? = some c → aheadC (x.nd.l.map Nd.con) n.dim c = true) := fun j c h => by omega
    go_upto_region 5 with fail
    go_loopg [19] m (fun gg s19 wr => ∃ (k : Nat), gg = m - k ∧ k ≤ m ∧ s19 = .int .i64 k ∧ Hid (∀ j c, j < k → (eachN n.con)[j]? = some c → aheadC (x.nd.l.map Nd.con) n.dim c = true) ∧ Hid (SL No w wr [rBlk z 64 #[.pointer (some ⟨b, 0, none⟩)], rBlk y 34 n.cs, rRow 32 12 (.slice A m cp) m ((eachN n.con).flatMap Cel.cells)]))
    case atStart => exact ⟨0, rfl, by omega, rfl, HF, H⟩
    case round =>
      clear H HF
      obtain ⟨k, hgk, hk, rfl, HF, H⟩ := hrel
      have Hgk := Lib.hid hgk
      clear hgk
      by_cases hlt : k < m
      · obtain ⟨bl, ol, c, hAl, hbl, hck, hcok, hrg⟩ := (HLR.out _ H.out).clAt (k := k) hlt
        simp only at hAl hck
        have hcm := List.mem_of_getElem? hck
        have HCK := Lib.hid hck
        have HCO := Lib.hid hcok
        have HRG := Lib.hid hrg
        have hch := HCH.out c hcm
        have k0 : (0 : Int) ≤ k := by omega
        have k1 : (k : Int) < m := by omega
        have HAL := Lib.hid hAl
        rw [hAl]
        clear hck hcok hrg hAl hcm
        go_upto_region 7 with (first | ((with_reducible show wpList _ _ _ (⟨some 22, _, _, _, _, _⟩ :: _) _ _); (refine wpList_load_row_at rfl rowCl (.tmp 21) rfl bl (ol + k * 12) rfl c.cs rfl HRG.out ?_)) | ((with_reducible show wpList _ _ _ (⟨_, .store _ (.tmp 7) _, _, _, _, _⟩ :: _) _ _); (refine wpList_store_new rfl rowCl (.tmp 7) (.tmp 22) rfl rfl rfl (c.cs) rfl rfl (cl_one c) ?_; replace H := Lib.hid (H.out.alloc (c.cs) 32); (try simp only [List.set_cons_zero, List.set_cons_succ, List.cons_append, List.nil_append, List.eraseIdx_cons_zero, List.eraseIdx_cons_succ, List.setIfInBounds_toArray, World.size_alloc, selR, List.getD_cons_zero, List.getD_cons_succ] at H))))
        (try simp only [Act.put, List.setIfInBounds_toArray, List.set_cons_zero, List.set_cons_succ])
        clear HRG hbl
        generalize wr.heap.size = u at *
        generalize World.alloc wr _ = w2 at *
        go_wp2_with ((with_reducible show wpList _ _ _ (⟨some 24, _, _, _, _, _⟩ :: _) _ _); (refine wpList_load_blk rfl rowCl (.tmp 7) rfl _ rfl (H.out.blk 3 rfl) rfl ?_))
        refine (leads1_any b z y x.nd n.dim c w2 ((H.out.blk 0 rfl).cell 0) (HC2.out _ H.out.to) ((H.out.blk 1 rfl).cell 0) (HND.out _ H.out.to) hdim0 (by omega) HCO.out hch).mono ?_; rintro e w9 ⟨rfl, hb9⟩
        replace H := Lib.hid (H.out.bel hb9); (try simp only [List.set_cons_zero, List.set_cons_succ, List.cons_append, List.nil_append, List.eraseIdx_cons_zero, List.eraseIdx_cons_succ, List.setIfInBounds_toArray, World.size_alloc, selR, List.getD_cons_zero, List.getD_cons_succ] at H)
        clear hb9
        replace H := Lib.hid (H.out.sel [0, 1, 2] (by decide) (by simp)); (try simp only [List.set_cons_zero, List.set_cons_succ, List.cons_append, List.nil_append, List.eraseIdx_cons_zero, List.eraseIdx_cons_succ, List.setIfInBounds_toArray, World.size_alloc, selR, List.getD_cons_zero, List.getD_cons_succ] at H)
        cases ha : aheadC (x.nd.l.map Nd.con) n.dim c with
        | true =>
          have HF2 : Hid (∀ j c, j < k + 1 → (eachN n.con)[j]? = some c → aheadC (x.nd.l.map Nd.con) n.dim c = true) := fun j c' hj hc' => by
            rcases (show j < k ∨ j = k by omega) with h | h
            · exact HF.out j c' h hc'
            · subst h
              rw [HCK.out] at hc'
              injection hc' with hc'
              subst hc'
              exact ha
          clear HF ha hch
          go_wp2_with fail
          rw [← HAL.out]
          go_roundg (m - (k + 1))
          case rel => exact ⟨k + 1, rfl, by omega, by go_num, HF2, H⟩
          case measure => rw [Hgk.out]; omega
        | false =>
          have HRV : Hid (R = false) := by
            show _ = _
            rw [HRA.out, List.all_eq_false]
            exact ⟨c, List.mem_of_getElem? HCK.out, by rw [ha]; simp⟩
          clear HF ha hch HRA
          go_wp2_with fail
          go_ret
          rw [HRV.out]
          exact ⟨rfl, H.out.to⟩
      · obtain rfl : k = m := by omega
        have HRV : Hid (R = true) := by
          show _ = _
          rw [HRA.out, List.all_eq_true]
          intro c hc
          obtain ⟨i, hi, hci⟩ := List.getElem_of_mem hc
          exact HF.out i c (by rw [HM.out]; exact hi) (by rw [List.getElem?_eq_getElem hi, hci])
        clear HF HRA
        go_wp2_with fail
        go_ret
        rw [HRV.out]
        exact ⟨rfl, H.out.to⟩

end Go.Proofs.Ytlclllkjnhgbjaa

namespace Go.Proofs.Ytlclllkjnhgbjaa
open Go.RowKit
set_option linter.unusedVariables false
set_option linter.unusedSimpArgs false


/-- What nodes say that Add took, one behind the other. -/
def GoodN (xs : List (List Int)) (ms : Int) (l : List NC) : Prop := ∀ k n, l[k]? = some n → nodeErr xs ms n = 0 ∧ leadsN xs.length (l.take k) n = true
theorem goodN_nil (xs : List (List Int)) (ms : Int) : GoodN xs ms [] := fun k n h => by simp at h
theorem goodN_snoc {xs : List (List Int)} {ms : Int} {l : List NC} {n : NC} (h : GoodN xs ms l) (h1 : nodeErr xs ms n = 0) (h2 : leadsN xs.length l n = true) : GoodN xs ms (l ++ [n]) := fun k m hk => by
  rcases Nat.lt_trichotomy k l.length with hl | hl | hl
  · rw [List.getElem?_append_left hl] at hk
    have := h k m hk
    rw [List.take_append_of_le_length (by omega)]
    exact this
  · subst hl
    rw [List.getElem?_append_right (Nat.le_refl _), Nat.sub_self] at hk
    injection hk with hk
    subst hk
    rw [List.take_append_of_le_length (Nat.le_refl _), List.take_length]
    exact ⟨h1, h2⟩
  · rw [List.getElem?_append_right (by omega)] at hk
    have : k - l.length < 1 := by have := (List.getElem?_eq_some_iff.1 hk).1; simpa using this
    omega
theorem goodN_dim {xs : List (List Int)} {ms : Int} {l : List NC} (h : GoodN xs ms l) : ∀ n ∈ l, 0 ≤ n.dim ∧ n.dim < xs.length := fun n hn => by
  obtain ⟨k, hk⟩ := List.mem_iff_getElem?.1 hn
  exact (nodeErr_cells (h k n hk).1).1
theorem goodN_ch {xs : List (List Int)} {ms : Int} {l : List NC} (h : GoodN xs ms l) {k : Nat} {n : NC} (hk : l[k]? = some n) (hd : n.dim ≠ (xs.length : Int) - 1) : ∀ c ∈ eachN n, 0 ≤ c.ch ∧ c.ch < k ∧ ∃ m, l[c.ch.toNat]? = some m ∧ m.dim = n.dim + 1 := fun c hc => by
  obtain ⟨h1, h2⟩ := h k n hk
  have h3 := cellOk_ch ((nodeErr_cells h1).2 c hc)
  unfold leadsN at h2
  rw [decide_eq_false hd, Bool.false_or, List.all_eq_true] at h2
  have h4 := h2 c hc
  unfold aheadC at h4
  rw [List.getElem?_take] at h4
  by_cases hl : c.ch.toNat < k
  · rw [if_pos hl] at h4
    cases hm : l[c.ch.toNat]? with
    | none => rw [hm] at h4; cases h4
    | some m => rw [hm] at h4; exact ⟨h3, by omega, m, rfl, of_decide_eq_true h4⟩
  · rw [if_neg hl] at h4; cases h4
/-- Where a number stands in a row, from k on. -/
def idxI (v : Int) : List Int → Int → Int
  | [], _ => -1
  | x :: l, k => if v = x then k else idxI v l (k + 1)
theorem idxI_neg {v : Int} : ∀ {l : List Int} {k : Int}, 0 ≤ k → (idxI v l k < 0 ↔ v ∉ l)
  | [], k, h => by simp [idxI]
  | x :: l, k, h => by
    rw [idxI]
    by_cases e : v = x
    · rw [if_pos e]; simp [e]; omega
    · rw [if_neg e, idxI_neg (by omega)]; simp [e]
theorem drop_consI {α : Type} {l : List α} {i : Nat} {x : α} (h : l[i]? = some x) : l.drop i = x :: l.drop (i + 1) := by
  have hl := (List.getElem?_eq_some_iff.1 h).1
  rw [List.drop_eq_getElem_cons hl, (List.getElem?_eq_some_iff.1 h).2]
/-- Led to so far: by the first nodes, and by the first cells of the next one. -/
def ledSo (nd : Nat) (l : List NC) (k j i : Nat) : Bool := ledTo nd (l.take k) i || (match l[k]? with | none => false | some n => decide (n.dim ≠ (nd : Int) - 1) && ((eachN n).take j).any fun c => decide (c.ch = (i : Int)))
theorem ledSo_zero (nd : Nat) (l : List NC) (i : Nat) : ledSo nd l 0 0 i = false := by
  unfold ledSo ledTo
  cases l[0]? <;> simp
theorem ledSo_next {nd : Nat} {l : List NC} {k : Nat} {n : NC} (h : l[k]? = some n) (i : Nat) : ledSo nd l (k + 1) 0 i = ledSo nd l k (eachN n).length i := by
  unfold ledSo ledTo
  rw [take_snoc_get h, List.any_append, h]
  simp only [List.take_length]
  cases l[k + 1]? <;> simp
theorem ledSo_last {nd : Nat} {l : List NC} {k : Nat} {n : NC} (h : l[k]? = some n) (hd : n.dim = (nd : Int) - 1) (i : Nat) : ledSo nd l (k + 1) 0 i = ledSo nd l k 0 i := by
  unfold ledSo ledTo
  rw [take_snoc_get h, List.any_append, h]
  cases l[k + 1]? <;> simp [hd]
theorem ledSo_cell {nd : Nat} {l : List NC} {k j : Nat} {n : NC} {c : Cl} (h : l[k]? = some n) (hc : (eachN n)[j]? = some c) (i : Nat) : ledSo nd l k (j + 1) i = (ledSo nd l k j i || (decide (n.dim ≠ (nd : Int) - 1) && decide (c.ch = (i : Int)))) := by
  unfold ledSo
  rw [h]
  simp only [take_snoc_get hc, List.any_append, List.any_cons, List.any_nil, Bool.or_false]
  rw [Bool.and_or_distrib_left, Bool.or_assoc]
theorem ledSo_all {nd : Nat} {l : List NC} (i : Nat) : ledSo nd l l.length 0 i = ledTo nd l i := by
  unfold ledSo
  rw [List.take_length, List.getElem?_eq_none (Nat.le_refl _)]
  simp
theorem getLast_get {α : Type} {l : List α} (h : l ≠ []) : ∃ n, l[l.length - 1]? = some n ∧ l.getLast? = some n := by
  have hl : 0 < l.length := List.length_pos_iff.2 h
  refine ⟨l[l.length - 1]'(by omega), List.getElem?_eq_getElem (by omega), ?_⟩
  rw [List.getLast?_eq_getElem?, List.getElem?_eq_getElem (by omega)]
theorem wholeC_some {nd : Nat} {l : List NC} {n : NC} (h : l.getLast? = some n) : wholeC nd l = (decide (n.dim = 0) && (List.range (l.length - 1)).all (ledTo nd l)) := by unfold wholeC; rw [h]

end Go.Proofs.Ytlclllkjnhgbjaa

namespace Go.Proofs.Ytlclllkjnhgbjaa
open Go.RowKit
set_option linter.unusedVariables false
set_option linter.unusedSimpArgs false


/-- What Load meets at a node. -/
def loadAt (xs : List (List Int)) (ms : Int) (l : List NC) (k : Nat) : Int := addErr xs ms 131072 (l.take k) ((l[k]?).getD .nil)
def LoadPost (s : Shp) (l : List NC) (w : World) (e : Ending) (w' : World) : Prop :=
  if shapeOk s.con s.ms = false then e = .returned (.tuple #[.pointer none, .int .i64 2]) ∧ Bel w w'
  else if firstErr (loadAt s.con s.ms l) l.length 0 ≠ 0 then e = .returned (.tuple #[.pointer none, .int .i64 (firstErr (loadAt s.con s.ms l) l.length 0)]) ∧ Bel w w'
  else ∃ (b : Nat) (x : Arn), e = .returned (.tuple #[.pointer (some ⟨b, 0, none⟩), .int .i64 0]) ∧ (x.ok ∧ x.sz.n = s.sz.n ∧ x.shp.con = s.con ∧ x.ms = s.ms) ∧ x.nd.l.map Nd.con = l ∧ SL No w w' (arP b x)
set_option maxRecDepth 100000 in
set_option maxHeartbeats 4000000 in
theorem aload_any (s : Shp) (l : Row Nd) (w : World) (hs : s.rd w) (hl : l.rd w) (hn : l.n ≤ 131072) (hb1 : ∀ n ∈ l.l, SmN n) :
    Calls Try.prog 25 #[.agg s.cs, .slice l.A l.n l.c] w (LoadPost s (l.l.map Nd.con) w) := by
  have HN := Lib.hid (fun w' (hb : Bel w w') => anew_any s 131072 w' (hs.mono hb) (by unfold I64; omega))
  have HLR := Lib.hid (fun w' (hb : Bel w w') => hl.mono hb)
  have hll : Hid (l.l.length = l.n) := hl.len
  have HB1 := Lib.hid hb1
  have H := Lib.hid ((SL.start No w).alloc s.cs 24)
  (try simp only [List.set_cons_zero, List.set_cons_succ, List.cons_append, List.nil_append, List.eraseIdx_cons_zero, List.eraseIdx_cons_succ, List.setIfInBounds_toArray, World.size_alloc, selR, List.getD_cons_zero, List.getD_cons_succ] at H)
  have hcs : s.cs = #[.slice s.sz.A s.sz.n s.sz.c, .int .i64 s.ms] := rfl
  have HCS := Lib.hid hcs
  have HSLN : Hid (s.sz.l.length = s.sz.n) := hs.sz.len
  have HSI : Hid (∀ y ∈ s.sz.l, ∀ z ∈ y.l, I64 z) := fun y hy => (hs.sz.all y hy).all
  clear hcs hs hl hb1
  go_enter Try.func25, Try.ntmps25
  (try rw [← HCS.out] at *)
  go_wp2_with ((with_reducible show wpList _ _ _ (⟨some 14, _, _, _, _, _⟩ :: _) _ _); (refine wpList_load_blk rfl rowShp2 (.tmp 2) rfl _ rfl (H.out.blk 0 rfl) rfl ?_))
  refine (HN.out _ H.out.to).mono ?_; intro e w1 hnew
  clear HN
  unfold NewPost at hnew
  generalize w.heap.size = x at *
  cases hok : shapeOk s.con s.ms with
  | false =>
    rw [hok, if_neg (by simp)] at hnew
    obtain ⟨rfl, hw1⟩ := hnew
    have HV : Hid (∀ w', Bel w w' → LoadPost s (l.l.map Nd.con) w (.returned (.tuple #[.pointer none, .int .i64 2])) w') := fun w' hb => by unfold LoadPost; rw [hok, if_pos rfl]; exact ⟨rfl, hb⟩
    replace H := Lib.hid (H.out.bel hw1); (try simp only [List.set_cons_zero, List.set_cons_succ, List.cons_append, List.nil_append, List.eraseIdx_cons_zero, List.eraseIdx_cons_succ, List.setIfInBounds_toArray, World.size_alloc, selR, List.getD_cons_zero, List.getD_cons_succ] at H)
    clear hw1 hok
    go_wp2_with fail
    refine bodyPost_ret (v := .tuple #[.pointer none, .int .i64 2]) (by kernel_rfl) rfl ?_
    exact HV.out _ H.out.to
  | true =>
    rw [hok, if_pos ⟨rfl, by omega, by omega⟩] at hnew
    obtain ⟨b, A, c, L, rfl, hLc, hLn, hnew⟩ := hnew
    have hle := shape_le hok
    have h16 : s.sz.n ≤ 16 := by have h := hle.1.2; rw [List.length_map] at h; have := congrArg List.length hLc; rw [List.length_map, List.length_map] at this; omega
    have h01 : 1 ≤ s.sz.n := by have h := hle.1.1; rw [List.length_map] at h; have := congrArg List.length hLc; rw [List.length_map, List.length_map] at this; omega
    have hok0 : Hid (Arn.ok (Arn.mk ⟨A, s.sz.n, c, L⟩ s.ms ⟨none, 0, 0, []⟩ 131072)) := by
      refine ⟨by have := hle.2.1; show I64 s.ms; unfold I64; omega, by show (0 : Int) ≤ 131072; omega, by show (131072 : Int) ≤ 131072; omega, h01, h16, fun y hy => ?_, Nat.zero_le _⟩
      have hm : y.l ∈ s.con := by rw [← hLc]; exact List.mem_map.2 ⟨y, hy, rfl⟩
      obtain ⟨y', hy', e⟩ := List.mem_map.1 hm
      exact ⟨hle.2.2 _ hm, by rw [← e]; exact HSI.out y' hy'⟩
    replace H := Lib.hid (H.out.join hnew); (try simp only [List.set_cons_zero, List.set_cons_succ, List.cons_append, List.nil_append, List.eraseIdx_cons_zero, List.eraseIdx_cons_succ, List.setIfInBounds_toArray, World.size_alloc, selR, List.getD_cons_zero, List.getD_cons_succ] at H)
    replace H := Lib.hid (H.out.addNil 34 14); (try simp only [List.set_cons_zero, List.set_cons_succ, List.cons_append, List.nil_append, List.eraseIdx_cons_zero, List.eraseIdx_cons_succ, List.setIfInBounds_toArray, World.size_alloc, selR, List.getD_cons_zero, List.getD_cons_succ] at H)
    replace H := Lib.hid (H.out.add (Bel.refl _) (rListD rNd []) (holds_listD_nil _ _) listD_nil_D); (try simp only [List.set_cons_zero, List.set_cons_succ, List.cons_append, List.nil_append, List.eraseIdx_cons_zero, List.eraseIdx_cons_succ, List.setIfInBounds_toArray, World.size_alloc, selR, List.getD_cons_zero, List.getD_cons_succ] at H)
    have HX : Hid (Arn.shp (Arn.mk ⟨A, s.sz.n, c, L⟩ s.ms ⟨none, 0, 0, []⟩ 131072) = Arn.shp (Arn.mk ⟨A, s.sz.n, c, L⟩ s.ms ⟨none, 0, 0, []⟩ 131072) ∧ L.map Row.l = s.con) := ⟨rfl, hLc⟩
    obtain ⟨x0, hx0⟩ : ∃ x0, x0 = (Arn.mk ⟨A, s.sz.n, c, L⟩ s.ms ⟨none, 0, 0, []⟩ 131072) := ⟨_, rfl⟩
    have H0 : Hid (SL No w w1 ([rBlk x 24 s.cs] ++ arP b x0)) := by rw [hx0]; exact H.out
    have F0 : Hid (x0.ok ∧ x0.sz.n = s.sz.n ∧ x0.shp.con = s.con ∧ x0.ms = s.ms) := by rw [hx0]; exact ⟨hok0.out, rfl, hLc, rfl⟩
    have M0 : Hid (x0.most = 131072) := by show _ = _; rw [hx0]
    have N0 : Hid (x0.nd.n = 0 ∧ x0.nd.l.map Nd.con = (l.l.map Nd.con).take 0) := by rw [hx0]; exact ⟨rfl, rfl⟩
    obtain ⟨E, hE⟩ : ∃ E, E = firstErr (loadAt s.con s.ms (l.l.map Nd.con)) (l.l.map Nd.con).length 0 := ⟨_, rfl⟩
    have HPE : Hid (E ≠ 0 → ∀ w', Bel w w' → LoadPost s (l.l.map Nd.con) w (.returned (.tuple #[.pointer none, .int .i64 E])) w') := fun h w' hb => by unfold LoadPost; rw [hok, if_neg (by simp), ← hE, if_pos h]; exact ⟨rfl, hb⟩
    have HPO : Hid (E = 0 → ∀ x w', (x.ok ∧ x.sz.n = s.sz.n ∧ x.shp.con = s.con ∧ x.ms = s.ms) → x.nd.l.map Nd.con = l.l.map Nd.con → SL No w w' (arP b x) → LoadPost s (l.l.map Nd.con) w (.returned (.tuple #[.pointer (some ⟨b, 0, none⟩), .int .i64 0])) w') := fun h x w' h1 h2 h3 => by unfold LoadPost; rw [hok, if_neg (by simp), ← hE, if_neg (by rw [h]; simp)]; exact ⟨b, x, rfl, h1, h2, h3⟩
    have HE : Hid (E = firstErr (loadAt s.con s.ms (l.l.map Nd.con)) (l.n - 0) 0) := by show _ = _; rw [hE, List.length_map, hll.out]; rfl
    clear H hx0 hnew hLc hLn hle h16 h01 hok0 hok HX hE HSI
    go_upto_region 6 with fail
    go_loopg [25] l.n (fun gg s25 wr => ∃ (k : Nat) (z : Arn), gg = l.n - k ∧ k ≤ l.n ∧ s25 = .int .i64 k ∧ Hid (E = firstErr (loadAt s.con s.ms (l.l.map Nd.con)) (l.n - k) k) ∧ Hid (SL No w wr ([rBlk x 24 s.cs] ++ arP b z)) ∧ Hid (z.ok ∧ z.sz.n = s.sz.n ∧ z.shp.con = s.con ∧ z.ms = s.ms) ∧ Hid (z.most = 131072) ∧ Hid (z.nd.n = k ∧ z.nd.l.map Nd.con = (l.l.map Nd.con).take k))
    case atStart => exact ⟨0, x0, rfl, by omega, rfl, HE, H0, F0, M0, N0⟩
    case round =>
      clear H0 F0 M0 N0 HE
      obtain ⟨k, z, hgk, hk, rfl, HE, H, F0, M0, N0⟩ := hrel
      have Hgk := Lib.hid hgk
      clear hgk
      by_cases hlt : k < l.n
      · obtain ⟨bl, ol, n, hAl, hbl, hnk, hnr, hrg⟩ := (HLR.out _ H.out.to).ndAt (k := k) hlt
        have hnm := List.mem_of_getElem? hnk
        have hkk : (l.l.map Nd.con)[k]? = some n.con := by rw [List.getElem?_map, hnk]; rfl
        have HTK := Lib.hid (take_snoc_get (l := l.l.map Nd.con) (k := k) (x := n.con) hkk)
        have HAT : Hid (loadAt s.con s.ms (l.l.map Nd.con) k = addE (leadsN z.sz.n (z.nd.l.map Nd.con) n.con) z n) := by
          show _ = _
          unfold loadAt addE addErr
          rw [hkk, F0.out.2.2.1, F0.out.2.2.2, M0.out, N0.out.1, N0.out.2, F0.out.2.1]
          have e1 : s.con.length = s.sz.n := by rw [List.length_map]; exact HSLN.out
          have e2 : ((l.l.map Nd.con).take k).length = k := by rw [List.length_take, List.length_map, hll.out]; omega
          rw [e1, e2]
          rfl
        have HRG := Lib.hid hrg
        have HNB := Lib.hid (HB1.out n hnm)
        have HNR := Lib.hid (fun w' (hb : Bel w w') => ((HLR.out w' hb).all n hnm : n.rd w'))
        have HLN := Lib.hid (fun w' h1 h2 hz => aleads_any b z n w' h1 F0.out.1 h2 HNB.out.t hz)
        have k0 : (0 : Int) ≤ k := by omega
        have k1 : (k : Int) < l.n := by omega
        have HAL := Lib.hid hAl
        rw [hAl]
        clear hnk hkk hnm hnr hrg hAl
        simp only [arP, List.cons_append, List.nil_append] at H
        go_upto_region 8 with (first | ((with_reducible show wpList _ _ _ (⟨some 28, _, _, _, _, _⟩ :: _) _ _); (refine wpList_load_row_at rfl rowNd (.tmp 27) rfl bl (ol + k * 14) rfl n.cs rfl HRG.out ?_)) | ((with_reducible show wpList _ _ _ (⟨_, .store _ (.tmp 10) _, _, _, _, _⟩ :: _) _ _); (refine wpList_store_new rfl rowNd (.tmp 10) (.tmp 28) rfl rfl rfl (n.cs) rfl rfl (nd_one n) ?_; replace H := Lib.hid (H.out.alloc (n.cs) 34); (try simp only [List.set_cons_zero, List.set_cons_succ, List.cons_append, List.nil_append, List.eraseIdx_cons_zero, List.eraseIdx_cons_succ, List.setIfInBounds_toArray, World.size_alloc, selR, List.getD_cons_zero, List.getD_cons_succ] at H))))
        (try simp only [Act.put, List.setIfInBounds_toArray, List.set_cons_zero, List.set_cons_succ])
        clear HRG hbl
        generalize wr.heap.size = y at *
        generalize World.alloc wr _ = w2 at *
        replace H := Lib.hid (H.out.sel [0, 6, 1, 2, 3, 4, 5] (by decide) (by simp)); (try simp only [List.set_cons_zero, List.set_cons_succ, List.cons_append, List.nil_append, List.eraseIdx_cons_zero, List.eraseIdx_cons_succ, List.setIfInBounds_toArray, World.size_alloc, selR, List.getD_cons_zero, List.getD_cons_succ] at H)
        go_wp2_with ((with_reducible show wpList _ _ _ (⟨some 31, _, _, _, _, _⟩ :: _) _ _); (refine wpList_load_blk rfl rowNd (.tmp 10) rfl _ rfl (H.out.blk 1 rfl) rfl ?_))
        refine (aadd_any b z n _ w2 (show SL No w w2 ([rBlk x 24 s.cs, rBlk y 34 n.cs] ++ arP b z) from H.out).focus F0.out.1 (HNR.out _ H.out.to) HNB.out.a HNB.out.b (fun hz w' hb => HLN.out w' ((show SL No w w2 ([rBlk x 24 s.cs, rBlk y 34 n.cs] ++ arP b z) from H.out).bel hb).focus (HNR.out w' (H.out.to.trans hb)) hz)).mono ?_
        intro e w3 hp
        unfold AddPost at hp
        rw [← HAT.out] at hp
        obtain ⟨F, hF⟩ : ∃ F, F = loadAt s.con s.ms (l.l.map Nd.con) k := ⟨_, rfl⟩
        rw [← hF] at hp
        have HFE := Lib.hid hF
        clear hF HAT
        by_cases hz : F = 0
        · rw [if_pos hz] at hp
          obtain ⟨n2, A2, c2, rfl, hn2, h3⟩ := hp
          replace H := Lib.hid ((show SL No w w2 ([rBlk x 24 s.cs, rBlk y 34 n.cs] ++ arP b z) from H.out).unfocus h3)
          have HE2 : Hid (E = firstErr (loadAt s.con s.ms (l.l.map Nd.con)) (l.n - (k + 1)) (k + 1)) := by show _ = _; rw [HE.out]; exact firstErr_next hlt (by rw [← HFE.out]; exact hz)
          have hz1 := F0.out.1
          have F2 : Hid (Arn.ok ⟨z.sz, z.ms, ⟨A2, z.nd.n + 1, c2, z.nd.l ++ [n2]⟩, z.most⟩ ∧ z.sz.n = s.sz.n ∧ z.shp.con = s.con ∧ z.ms = s.ms) := ⟨⟨hz1.ms, hz1.m0, hz1.m1, hz1.s1, hz1.s16, hz1.sv, by have := N0.out.1; show z.nd.n + 1 ≤ _; omega⟩, F0.out.2⟩
          have N2 : Hid (z.nd.n + 1 = k + 1 ∧ (z.nd.l ++ [n2]).map Nd.con = (l.l.map Nd.con).take (k + 1)) := ⟨by rw [N0.out.1], by rw [HTK.out, List.map_append, N0.out.2, List.map_cons, List.map_nil, hn2]⟩
          clear h3 HE hz1 HTK HFE hz hn2
          simp only [arP, List.cons_append, List.nil_append] at H
          replace H := Lib.hid (H.out.sel [0, 2, 3, 4, 5, 6] (by decide) (by simp)); (try simp only [List.set_cons_zero, List.set_cons_succ, List.cons_append, List.nil_append, List.eraseIdx_cons_zero, List.eraseIdx_cons_succ, List.setIfInBounds_toArray, World.size_alloc, selR, List.getD_cons_zero, List.getD_cons_succ] at H)
          go_wp2_with fail
          rw [← HAL.out]
          go_roundg (l.n - (k + 1))
          case rel => exact ⟨k + 1, ⟨z.sz, z.ms, ⟨A2, z.nd.n + 1, c2, z.nd.l ++ [n2]⟩, z.most⟩, rfl, by omega, by go_num, HE2, H, F2, M0, N2⟩
          case measure => rw [Hgk.out]; omega
        · rw [if_neg hz] at hp
          obtain ⟨rfl, hb3⟩ := hp
          replace H := Lib.hid (H.out.bel hb3); (try simp only [List.set_cons_zero, List.set_cons_succ, List.cons_append, List.nil_append, List.eraseIdx_cons_zero, List.eraseIdx_cons_succ, List.setIfInBounds_toArray, World.size_alloc, selR, List.getD_cons_zero, List.getD_cons_succ] at H)
          have HEF : Hid (E = F) := by show _ = _; rw [HE.out]; exact firstErr_hit hlt HFE.out.symm hz
          have HV : Hid (∀ w', Bel w w' → LoadPost s (l.l.map Nd.con) w (.returned (.tuple #[.pointer none, .int .i64 F])) w') := by rw [← HEF.out]; exact HPE.out (by rw [HEF.out]; exact hz)
          have d1 : (F != 0) = true := by simpa using hz
          clear hb3 HEF HPE HE HTK HFE hz
          go_wp2_with fail
          refine bodyPost_ret (v := .tuple #[.pointer none, .int .i64 F]) (by kernel_rfl) rfl ?_
          exact HV.out _ H.out.to
      · obtain rfl : k = l.n := by omega
        have hE0 : E = 0 := by rw [HE.out, Nat.sub_self]; rfl
        have HF : Hid (z.nd.l.map Nd.con = l.l.map Nd.con) := by
          show _ = _
          rw [N0.out.2, List.take_of_length_le (by rw [List.length_map, hll.out]; exact Nat.le_refl _)]
        have HPV := Lib.hid (HPO.out hE0)
        clear hE0 HPO HPE HE
        simp only [arP, List.cons_append, List.nil_append] at H
        go_wp2_with fail
        refine bodyPost_ret (v := .tuple #[.pointer (some ⟨b, 0, none⟩), .int .i64 0]) (by kernel_rfl) rfl ?_
        replace H := Lib.hid (H.out.sel [1, 2, 3, 4, 5] (by decide) (by simp)); (try simp only [List.set_cons_zero, List.set_cons_succ, List.cons_append, List.nil_append, List.eraseIdx_cons_zero, List.eraseIdx_cons_succ, List.setIfInBounds_toArray, World.size_alloc, selR, List.getD_cons_zero, List.getD_cons_succ] at H)
        exact HPV.out z _ F0.out HF.out H.out

end Go.Proofs.Ytlclllkjnhgbjaa

namespace Go.Proofs.Ytlclllkjnhgbjaa
open Go.RowKit
set_option linter.unusedVariables false
set_option linter.unusedSimpArgs false


/-- A function's three results, the first a struct in memory. -/
theorem results_blk3 {P : Program} {fn : Func} {p u v : Tmp} {ty : TypeId} {n : Nat} (h : fn.results = #[.cell p ty, .tmp u, .tmp v]) (R : RowTy P ty n) {tmps : Array Value} {w : World} {g : Nat} {t : TypeId} {cs : Array Value}
    (hp : tmps.getD p undef = .pointer (some ⟨g, 0, none⟩)) (hb : Blk w g t cs) (hn : cs.size = n) :
    (results fn tmps).run P w = .ok (.tuple #[.agg cs, tmps.getD u undef, tmps.getD v undef]) w := by
  obtain ⟨d, hu, hd⟩ := R.hu
  have hp' : tmps[p]?.getD undef = .pointer (some ⟨g, 0, none⟩) := by simpa using hp
  have hl := run_loadVar_mid (P := P) w g 0 ty cs.toList d hb.range hu hd (by rw [R.hi]; simp [hn])
  simp [results, h, hp', asAddr, hl]
end Go.Proofs.Ytlclllkjnhgbjaa

namespace Go.Proofs.Ytlclllkjnhgbjaa
open Go.RowKit
set_option linter.unusedVariables false
set_option linter.unusedSimpArgs false


section
variable {P : Program} {w : World}
theorem step_store_blkA {ops : Array Oper} {o : Oper} {a : Act} {K : Act → World → Prop} {Q : Exit → Act → World → Prop} {X : Prop} (hgd : o.guard = none) {ty : TypeId} {n : Nat} (R : RowTy P ty n) (x y : Operand) (ho : o.op = .store ty x y)
    (g : Nat) (hx : a.eval x = .pointer (some ⟨g, 0, none⟩)) {t : TypeId} {cs : Array Value} (hb : Blk w g t cs) (hn : cs.size = n) (cs' : Array Value) (hn' : cs'.size = n) (hy : a.eval y = .agg cs') (h1 : cs'.all (·.oneCell') = true)
    (h : ∀ w', Blk w' g t cs' → w.grownBy w' (some g) → K (a.put o.dst undef) w') : if Region.wanted o (yielded ops a.tmps) = true then Oper.wp P o a w K Q else X := by
  have hw : Region.wanted o (yielded ops a.tmps) = true := by simp [Region.wanted, hgd]
  rw [if_pos hw]
  refine wp_store_mid ty x y ho g 0 cs' hx hy (hb.there (by omega)) (by rw [R.hi, hn']) h1 (h _ ?_ (setCells_grown w g _ _))
  have := Blk.setAll cs'.toList 0 hb
  rwa [setAll_all cs cs' (by omega)] at this
end
end Go.Proofs.Ytlclllkjnhgbjaa

namespace Go.Proofs.Ytlclllkjnhgbjaa
open Go.RowKit
set_option linter.unusedVariables false
set_option linter.unusedSimpArgs false


abbrev exAg : Ag := ⟨1, ⟨0, 0, 0⟩, ⟨0, 0, 0⟩, ⟨0, 0, 0⟩⟩
abbrev exCl : Cl := ⟨0, 0, exAg⟩
/-- The node of the chapters' examples: one list of one cell, of no dimension more. -/
abbrev exNd (d e : Nat) : Nd := ⟨0, ⟨some ⟨e, 0, none⟩, 1, 1, [⟨some ⟨d, 0, none⟩, 1, 1, [exCl]⟩]⟩, exCl⟩
abbrev exNds (d e f : Nat) : Row Nd := ⟨some ⟨f, 0, none⟩, 1, 1, [exNd d e]⟩
theorem exCl_ok : exCl.ok := by
  have z : I64 0 := z_i64
  have o : I64 1 := by unfold I64; omega
  exact ⟨z, z, ⟨o, ⟨z, z, z⟩, ⟨z, z, z⟩, ⟨z, z, z⟩⟩⟩
theorem ex_nds {w : World} {d e f : Nat} (h1 : w.ownsRow 0 32 12 (.slice (some ⟨d, 0, none⟩) 1 1) 1 exCl.cs.toList) (h2 : Blk w e 44 #[.slice (some ⟨d, 0, none⟩) 1 1])
    (h3 : w.ownsRow 0 34 14 (.slice (some ⟨f, 0, none⟩) 1 1) 1 (exNd d e).cs.toList) : (exNds d e f).rd w := by
  refine ⟨Rd.of_own (size := 14) (e := 34) h3, fun n hn => ?_, by show (1 : Nat) ≤ _; omega⟩
  simp only [List.mem_singleton] at hn
  subst hn
  refine ⟨z_i64, ⟨reads_of_block h2 rfl, fun y hy => ?_, by show (1 : Nat) ≤ _; omega⟩, exCl_ok, by show (1 : Nat) ≤ _; omega⟩
  simp only [List.mem_singleton] at hy
  subst hy
  exact own_ok (e := 32) (show w.ownsRow 0 32 12 (.slice (some ⟨d, 0, none⟩) 1 1) 1 exCl.cs.toList from h1) (fun c hc => by simp only [List.mem_singleton] at hc; subst hc; exact exCl_ok) (by show 1 * 96 ≤ _; omega)
theorem ex_load : firstErr (loadAt [[1]] 1 [⟨0, [[exCl]], exCl⟩]) 1 0 = 0 := by kernel_rfl
end Go.Proofs.Ytlclllkjnhgbjaa

namespace Go.Proofs.Ytlclllkjnhgbjaa
open Go.RowKit
set_option linter.unusedVariables false
set_option linter.unusedSimpArgs false


end Go.Proofs.Ytlclllkjnhgbjaa

namespace Go.Proofs.Ytlclllkjnhgbjaa
open Go.RowKit
set_option linter.unusedVariables false
set_option linter.unusedSimpArgs false


/-- A place of a member. -/
structure Ps where
  t : Int
  k : Int
abbrev Ps.cs (p : Ps) : Array Value := #[.int .i64 p.t, .int .i64 p.k]
structure Ps.ok (p : Ps) : Prop where
  t : I64 p.t
  k : I64 p.k
instance instCelPs : Cel Ps where
  size := 2
  bytes := 16
  cells x := x.cs.toList
  ok w x := x.ok
  len _ := rfl
  pos := by omega
  mono hb h := h
end Go.Proofs.Ytlclllkjnhgbjaa

namespace Go.Proofs.Ytlclllkjnhgbjaa
open Go.RowKit
set_option linter.unusedVariables false
set_option linter.unusedSimpArgs false


end Go.Proofs.Ytlclllkjnhgbjaa

namespace Go.Proofs.Ytlclllkjnhgbjaa
open Go.RowKit
set_option linter.unusedVariables false
set_option linter.unusedSimpArgs false


end Go.Proofs.Ytlclllkjnhgbjaa

namespace Go.Proofs.Ytlclllkjnhgbjaa
open Go.RowKit
set_option linter.unusedVariables false
set_option linter.unusedSimpArgs false


/-- An arena is there, to be read. -/
structure ArAt (b : Nat) (x : Arn) (w : World) : Prop where
  c0 : w.cell? ⟨b, 0, none⟩ = some (.slice x.sz.A x.sz.n x.sz.c)
  c1 : w.cell? ⟨b, 1, none⟩ = some (.int .i64 x.ms)
  c2 : w.cell? ⟨b, 2, none⟩ = some (.slice x.nd.A x.nd.n x.nd.c)
  c3 : w.cell? ⟨b, 3, none⟩ = some (.int .i64 x.most)
  shp : x.shp.rd w
  nd : x.nd.rd w
  bd : ∀ n ∈ x.nd.l, n.ls.n ≤ 1000000 ∧ ∀ y ∈ n.ls.l, y.n ≤ 1000000
theorem cell_bel {w w' : World} (hb : Bel w w') {b o : Nat} {v : Value} (h : w.cell? ⟨b, o, none⟩ = some v) : w'.cell? ⟨b, o, none⟩ = some v := (hb.cell (p := ⟨b, o, none⟩) (World.block_lt_of_cell? _ _ h)).trans h
theorem ArAt.mono {b : Nat} {x : Arn} {w w' : World} (h : ArAt b x w) (hb : Bel w w') : ArAt b x w' := ⟨cell_bel hb h.c0, cell_bel hb h.c1, cell_bel hb h.c2, cell_bel hb h.c3, h.shp.mono hb, h.nd.mono hb, h.bd⟩
theorem ar_at {S : Nat → Prop} {w0 w : World} {b : Nat} {x : Arn} (ok : x.ok) (h : SL S w0 w (arP b x)) : ArAt b x w :=
  ⟨(h.blk 0 rfl).cell 0, (h.blk 0 rfl).cell 1, (h.blk 0 rfl).cell 2, (h.blk 0 rfl).cell 3, ar_shp ok (h.get 1 rfl) (h.get 2 rfl), ar_nds ok (h.get 3 rfl) (h.get 4 rfl), fun n hn => by
    have h1 : (rListD rNd x.nd.l).holds w := h.get 4 rfl
    have h2 := (h1.now.1 n hn).now
    exact ⟨h2.2.2.2, fun y hy => (h2.2.2.1 y hy).1⟩⟩
set_option maxRecDepth 100000 in
set_option maxHeartbeats 4000000 in
theorem anodes_any (b : Nat) (x : Arn) (w : World) (ok : x.ok) (ha : ArAt b x w) :
    Calls Try.prog 32 #[.pointer (some ⟨b, 0, none⟩)] w fun e w' => ∃ l2 : Row Nd, e = .returned (.slice l2.A l2.n l2.c) ∧ l2.l.map Nd.con = x.nd.l.map Nd.con ∧ l2.rd w' ∧ Bel w w' := by
  have HA := Lib.hid (fun w' (hb : Bel w w') => ha.mono hb)
  have hll : Hid (x.nd.l.length = x.nd.n) := ha.nd.len
  have hnn := ok.nn
  have hs1 := ok.s1
  have H := Lib.hid (SL.start No w)
  have HBD := Lib.hid ha.bd
  clear ha
  go_enter Try.func32, Try.ntmps32
  go_wp2_with fail
  refine (there_yes b x.sz.A x.sz.n x.sz.c _ hs1 (HA.out _ H.out.to).c0).mono ?_; rintro e w1 ⟨rfl, hw1⟩
  replace H := Lib.hid (H.out.bel hw1); (try simp only [List.set_cons_zero, List.set_cons_succ, List.cons_append, List.nil_append, List.eraseIdx_cons_zero, List.eraseIdx_cons_succ, List.setIfInBounds_toArray, World.size_alloc, selR, List.getD_cons_zero, List.getD_cons_succ] at H)
  clear hw1
  have c2 := (HA.out _ H.out.to).c2
  replace H := Lib.hid (H.out.addNil 34 14); (try simp only [List.set_cons_zero, List.set_cons_succ, List.cons_append, List.nil_append, List.eraseIdx_cons_zero, List.eraseIdx_cons_succ, List.setIfInBounds_toArray, World.size_alloc, selR, List.getD_cons_zero, List.getD_cons_succ] at H)
  replace H := Lib.hid (H.out.add (Bel.refl _) (rListD rNd []) (holds_listD_nil _ _) listD_nil_D); (try simp only [List.set_cons_zero, List.set_cons_succ, List.cons_append, List.nil_append, List.eraseIdx_cons_zero, List.eraseIdx_cons_succ, List.setIfInBounds_toArray, World.size_alloc, selR, List.getD_cons_zero, List.getD_cons_succ] at H)
  have HL : Hid (([] : List Nd).map Nd.con = (x.nd.l.map Nd.con).take 0) := rfl
  go_upto_region 5 with fail
  clear c2
  go_loopg [3, 14] x.nd.n (fun gg s3 s14 wr => ∃ (k : Nat) (B : Option Addr) (d : Nat) (L : List Nd), gg = x.nd.n - k ∧ k ≤ x.nd.n ∧ s3 = .slice B k d ∧ s14 = .int .i64 k ∧ Hid (SL No w wr [rRow 34 14 (.slice B k d) k (L.flatMap Cel.cells), rListD rNd L]) ∧ Hid (L.map Nd.con = (x.nd.l.map Nd.con).take k))
  case atStart => exact ⟨0, none, 0, [], rfl, by omega, rfl, rfl, H, HL⟩
  case round =>
    clear H HL
    obtain ⟨k, B, d, L, hgk, hk, rfl, rfl, H, HL⟩ := hrel
    have Hgk := Lib.hid hgk
    clear hgk
    by_cases hlt : k < x.nd.n
    · obtain ⟨bl, ol, n, hAl, hbl, hnk, hnr, hrg⟩ := (HA.out _ H.out.to).nd.ndAt (k := k) hlt
      have hnm := List.mem_of_getElem? hnk
      have hnb := HBD.out n hnm
      have HTK := Lib.hid (take_snoc_get (l := x.nd.l.map Nd.con) (k := k) (x := n.con) (by rw [List.getElem?_map, hnk]; rfl))
      have HCN := Lib.hid (fun w' (hb : Bel w w') => nclone_any n w' ((HA.out w' hb).nd.all n hnm) hnb.1 hnb.2)
      have HND : Hid (I64 n.dim ∧ n.all.ok) := ⟨hnr.dim, hnr.all⟩
      have HN1 := Lib.hid hnb.1
      have HRG := Lib.hid hrg
      have k0 : (0 : Int) ≤ k := by omega
      have k1 : (k : Int) < x.nd.n := by omega
      have HAL := Lib.hid hAl
      rw [hAl]
      clear hnk hnr hrg hAl hnm hnb
      go_upto_region 7 with (first | ((with_reducible show wpList _ _ _ (⟨some 17, _, _, _, _, _⟩ :: _) _ _); (refine wpList_load_row_at rfl rowNd (.tmp 16) rfl bl (ol + k * 14) rfl n.cs rfl HRG.out ?_)) | ((with_reducible show wpList _ _ _ (⟨_, .store _ (.tmp 5) _, _, _, _, _⟩ :: _) _ _); (refine wpList_store_new rfl rowNd (.tmp 5) (.tmp 17) rfl rfl rfl (n.cs) rfl rfl (nd_one n) ?_; replace H := Lib.hid (H.out.alloc (n.cs) 34); (try simp only [List.set_cons_zero, List.set_cons_succ, List.cons_append, List.nil_append, List.eraseIdx_cons_zero, List.eraseIdx_cons_succ, List.setIfInBounds_toArray, World.size_alloc, selR, List.getD_cons_zero, List.getD_cons_succ] at H))))
      (try simp only [Act.put, List.setIfInBounds_toArray, List.set_cons_zero, List.set_cons_succ])
      clear HRG hbl
      generalize wr.heap.size = u at *
      generalize World.alloc wr _ = w2 at *
      go_wp2_with ((with_reducible show wpList _ _ _ (⟨some 19, _, _, _, _, _⟩ :: _) _ _); (refine wpList_load_blk rfl rowNd (.tmp 5) rfl _ rfl (H.out.blk 2 rfl) rfl ?_))
      refine (HCN.out _ H.out.to).mono ?_; rintro e' w9 ⟨NA2, nc2, NL, rfl, hNL, hNB, hNn, hN⟩
      replace H := Lib.hid (H.out.join hN); (try simp only [List.set_cons_zero, List.set_cons_succ, List.cons_append, List.nil_append, List.eraseIdx_cons_zero, List.eraseIdx_cons_succ, List.setIfInBounds_toArray, World.size_alloc, selR, List.getD_cons_zero, List.getD_cons_succ] at H)
      have HNL := Lib.hid hNL
      have HNB := Lib.hid hNB
      clear hN hNL hNB hNn HCN
      go_wp2_with (first | ((with_reducible show wpList _ _ _ (⟨some 21, _, _, _, _, _⟩ :: _) _ _); (refine wpList_buildSlice1 rfl E_nd (.tmp 20) rfl ((Nd.mk n.dim ⟨NA2, n.ls.n, nc2, NL⟩ n.all).cs) rfl rfl (by omega) ?_; replace H := Lib.hid (H.out.addRow ((Bel.refl _).alloc _) (own_made _ 34 ((Nd.mk n.dim ⟨NA2, n.ls.n, nc2, NL⟩ n.all).cs) _ rfl)); (try simp only [List.set_cons_zero, List.set_cons_succ, List.cons_append, List.nil_append, List.eraseIdx_cons_zero, List.eraseIdx_cons_succ, List.setIfInBounds_toArray, World.size_alloc, selR, List.getD_cons_zero, List.getD_cons_succ] at H))) | ((with_reducible show wpList _ _ _ (⟨some 22, _, _, _, _, _⟩ :: _) _ _); (refine wpList_append0 rfl (.tmp 18) (.tmp 21) _ rfl E_nd 0 (Nat.zero_le _) _ k _ rfl (H.out.row 0 rfl) _ 1 1 _ rfl (Rd.of_own (H.out.row 5 rfl)) (by simp [Value.oneCell']) (by unfold maxLen; omega) (by omega) ?_; intro vq wq howq hgq hatq; replace H := Lib.hid (H.out.setRow 0 rfl hgq howq hatq); (try simp only [List.set_cons_zero, List.set_cons_succ, List.cons_append, List.nil_append, List.eraseIdx_cons_zero, List.eraseIdx_cons_succ, List.setIfInBounds_toArray, World.size_alloc, selR, List.getD_cons_zero, List.getD_cons_succ] at H); clear howq hgq hatq; obtain ⟨A2, c2, rfl, _⟩ := own_slice (H.out.row 0 rfl))))
      replace H := Lib.hid (H.out.mkNd 3 4 (n := (Nd.mk n.dim ⟨NA2, n.ls.n, nc2, NL⟩ n.all)) (by omega) rfl rfl HND.out (fun y hy => HNB.out y hy) HN1.out); (try simp only [List.set_cons_zero, List.set_cons_succ, List.cons_append, List.nil_append, List.eraseIdx_cons_zero, List.eraseIdx_cons_succ, List.setIfInBounds_toArray, World.size_alloc, selR, List.getD_cons_zero, List.getD_cons_succ] at H)
      replace H := Lib.hid (H.out.snocD 1 3 (a := (Nd.mk n.dim ⟨NA2, n.ls.n, nc2, NL⟩ n.all)) (by omega) rfl rfl); (try simp only [List.set_cons_zero, List.set_cons_succ, List.cons_append, List.nil_append, List.eraseIdx_cons_zero, List.eraseIdx_cons_succ, List.setIfInBounds_toArray, World.size_alloc, selR, List.getD_cons_zero, List.getD_cons_succ] at H)
      replace H := Lib.hid (H.out.sel [0, 1] (by decide) (by simp)); (try simp only [List.set_cons_zero, List.set_cons_succ, List.cons_append, List.nil_append, List.eraseIdx_cons_zero, List.eraseIdx_cons_succ, List.setIfInBounds_toArray, World.size_alloc, selR, List.getD_cons_zero, List.getD_cons_succ] at H)
      have HL2 : Hid ((L ++ [(Nd.mk n.dim ⟨NA2, n.ls.n, nc2, NL⟩ n.all)]).map Nd.con = (x.nd.l.map Nd.con).take (k + 1)) := by
        show _ = _
        rw [HTK.out, List.map_append, HL.out, List.map_cons, List.map_nil]
        show _ ++ [NC.mk _ _ _] = _
        rw [HNL.out]
      have HF2 : Hid (∀ W, SL No w W [rRow 34 14 (.slice A2 (k + 1) c2) (k + 1) (L.flatMap Cel.cells ++ (Nd.mk n.dim ⟨NA2, n.ls.n, nc2, NL⟩ n.all).cs.toList), rListD rNd (L ++ [(Nd.mk n.dim ⟨NA2, n.ls.n, nc2, NL⟩ n.all)])] → SL No w W [rRow 34 14 (.slice A2 (k + 1) c2) (k + 1) ((L ++ [(Nd.mk n.dim ⟨NA2, n.ls.n, nc2, NL⟩ n.all)]).flatMap Cel.cells), rListD rNd (L ++ [(Nd.mk n.dim ⟨NA2, n.ls.n, nc2, NL⟩ n.all)])]) := fun W h => by
        have e : (L ++ [(Nd.mk n.dim ⟨NA2, n.ls.n, nc2, NL⟩ n.all)]).flatMap (Cel.cells : Nd → List Value) = L.flatMap Cel.cells ++ (Nd.mk n.dim ⟨NA2, n.ls.n, nc2, NL⟩ n.all).cs.toList := by rw [List.flatMap_append, List.flatMap_cons, List.flatMap_nil, List.append_nil]; rfl
        rw [e]; exact h
      clear HL HTK HNL HNB HND
      rw [← HAL.out]
      go_wp2_with fail
      go_roundg (x.nd.n - (k + 1))
      case rel => exact ⟨k + 1, A2, c2, L ++ [(Nd.mk n.dim ⟨NA2, n.ls.n, nc2, NL⟩ n.all)], rfl, by omega, by rfl, by go_num, Lib.hid (HF2.out _ H.out), HL2⟩
      case measure => rw [Hgk.out]; omega
    · obtain rfl : k = x.nd.n := by omega
      have HF : Hid (L.map Nd.con = x.nd.l.map Nd.con) := by
        show _ = _
        rw [HL.out, List.take_of_length_le (by rw [List.length_map, hll.out]; exact Nat.le_refl _)]
      clear HL
      go_wp2_with fail
      go_ret
      have h1 : (rListD rNd L).holds wr := H.out.get 1 rfl
      exact ⟨⟨B, x.nd.n, d, L⟩, rfl, HF.out, ⟨Rd.of_own (H.out.row 0 rfl), fun y hy => nd_of_own (h1.now.1 y hy), by show x.nd.n ≤ _; omega⟩, H.out.to⟩
end Go.Proofs.Ytlclllkjnhgbjaa

namespace Go.Proofs.Ytlclllkjnhgbjaa
open Go.RowKit
set_option linter.unusedVariables false
set_option linter.unusedSimpArgs false


theorem drop_consL {α : Type} {l : List α} {i : Nat} {x : α} (h : l[i]? = some x) : l.drop i = x :: l.drop (i + 1) := by
  have hl := (List.getElem?_eq_some_iff.1 h).1
  rw [List.drop_eq_getElem_cons hl, (List.getElem?_eq_some_iff.1 h).2]
end Go.Proofs.Ytlclllkjnhgbjaa
