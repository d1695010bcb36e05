/- Texts laid together: XAggS XAggT XAggU XAggV XAggX. -/
import Derived.Test.YtlclllkjnhgbjaaAggM
import Derived.Test.YtlclllkjnhgbjaaBd
import Derived.Test.YtlclllkjnhgbjaaBg
import Derived.Test.YtlclllkjnhgbjaaAggN
import Derived.Test.YtlclllkjnhgbjaaBb
import Derived.Test.YtlclllkjnhgbjaaBc

namespace Go.Proofs.Ytlclllkjnhgbjaa
open Go.RowKit
set_option linter.unusedVariables false
set_option linter.unusedSimpArgs false

theorem q_pint {x : Int} (hx : I64 x) (t : List UInt8) : pint (nput (nfold x) ++ t) = .ok (x, t) := by
  unfold pint
  rw [q_pnumber (nfold_lt hx.1 hx.2)]
  simp only
  rw [nunfold_nfold]
theorem q_pint_back {l r : List UInt8} {x : Int} (h : pint l = .ok (x, r)) : l = nput (nfold x) ++ r ∧ I64 x := by
  unfold pint at h
  rcases pnumber_cases (l := l) with ⟨hp, hn⟩ | ⟨n, z, hn, hz, hlt, hp⟩
  · rw [hp] at h; cases h
  · rw [hp] at h
    injection h with h
    injection h with h1 h2
    subst h1
    subst h2
    have := ntake_true (l := l) (by rw [hn])
    rw [hn] at this
    rw [nfold_nunfold, ← this.1, List.take_append_drop]
    exact ⟨rfl, nunfold_in hlt⟩
theorem q_pint_err {l : List UInt8} {k : Int} (h : pint l = .error k) : k = 3 := by
  unfold pint at h
  rcases pnumber_cases (l := l) with ⟨hp, hn⟩ | ⟨n, z, hn, hz, hlt, hp⟩
  · rw [hp] at h; injection h with h; exact h.symm
  · rw [hp] at h; cases h

def Ag.prt (a : Ag) : Nat → Prt
  | 0 => a.p
  | 1 => a.q
  | _ => a.r
def Ag.set (a : Ag) (k : Nat) (x : Prt) : Ag :=
  match k with
  | 0 => { a with p := x }
  | 1 => { a with q := x }
  | _ => { a with r := x }
theorem Ag.set_c (a : Ag) (k : Nat) (x : Prt) : (a.set k x).c = a.c := by unfold Ag.set; split <;> rfl
/-- A part's bytes; and those of so many from one on. -/
def prtPut (c : Int) (x : Prt) : List UInt8 := nput (nfold x.s) ++ (if 1 < c then nput (nfold x.mn) ++ nput (nfold x.mx) else [])
def putsFrom (a : Ag) : Nat → Nat → List UInt8
  | _, 0 => []
  | k, n + 1 => prtPut a.c (a.prt k) ++ putsFrom a (k + 1) n
def agPut (m : Nat) (a : Ag) : List UInt8 := nput (nfold a.c) ++ putsFrom a 0 m
def agPutV (m : Int) (a : Ag) : List UInt8 × Int := if mayAg m a then (agPut m.toNat a, 0) else ([], 2)
/-- A part read; so many from one on; an aggregate. -/
def pprt (c : Int) (l : List UInt8) : PR Prt :=
  match pint l with
  | .error k => .error k
  | .ok (s, r) =>
    if 1 < c then
      match pint r with
      | .error k => .error k
      | .ok (x, r) =>
        match pint r with
        | .error k => .error k
        | .ok (y, r) => .ok (⟨s, x, y⟩, r)
    else .ok (⟨s, s, s⟩, r)
def prtsFrom : Nat → Nat → Ag → List UInt8 → PR Ag
  | _, 0, a, l => .ok (a, l)
  | k, n + 1, a, l =>
    match pprt a.c l with
    | .error e => .error e
    | .ok (x, r) => prtsFrom (k + 1) n (a.set k x) r
def mayC (m c : Int) : Bool := decide (0 ≤ m) && decide (m ≤ 3) && decide (1 ≤ c)
def pag (m : Int) (l : List UInt8) : PR Ag :=
  match pint l with
  | .error k => .error k
  | .ok (c, r) =>
    if mayC m c then
      match prtsFrom 0 m.toNat ⟨c, .zero, .zero, .zero⟩ r with
      | .error e => .error e
      | .ok (a, r) => if mayAg m a then .ok (a, r) else .error 3
    else .error 3

theorem pprt_put {c : Int} {x : Prt} (hx : x.ok) (h : 1 < c ∨ (x.s = x.mn ∧ x.s = x.mx)) (t : List UInt8) : pprt c (prtPut c x ++ t) = .ok (x, t) := by
  unfold pprt prtPut
  by_cases hc : 1 < c
  · rw [if_pos hc, List.append_assoc, q_pint hx.s]
    simp only
    rw [if_pos hc, List.append_assoc, q_pint hx.mn]
    simp only
    rw [q_pint hx.mx]
  · rw [if_neg hc, List.append_assoc, q_pint hx.s]
    simp only
    rw [if_neg hc]
    obtain ⟨s, mn, mx⟩ := x
    simp only at h
    rcases h with h | ⟨h1, h2⟩
    · exact absurd h hc
    · subst h1
      subst h2
      rfl
theorem pprt_back {c : Int} {x : Prt} {l r : List UInt8} (h : pprt c l = .ok (x, r)) : l = prtPut c x ++ r ∧ x.ok := by
  unfold pprt at h
  split at h
  · cases h
  · rename_i s r1 h1
    obtain ⟨e1, o1⟩ := q_pint_back h1
    split at h
    · rename_i hc
      split at h
      · cases h
      · rename_i y r2 h2
        obtain ⟨e2, o2⟩ := q_pint_back h2
        split at h
        · cases h
        · rename_i z r3 h3
          obtain ⟨e3, o3⟩ := q_pint_back h3
          injection h with h
          injection h with h4 h5
          subst h4
          subst h5
          unfold prtPut
          rw [if_pos hc, e1, e2, e3]
          simp only [List.append_assoc]
          exact ⟨trivial, o1, o2, o3⟩
    · rename_i hc
      injection h with h
      injection h with h4 h5
      subst h4
      subst h5
      unfold prtPut
      rw [if_neg hc, e1]
      simp only [List.append_nil]
      exact ⟨trivial, o1, o1, o1⟩
theorem prtMay_in {c : Int} {x : Prt} (hc : 1 ≤ c) (h : prtMay true c x = true) : 1 < c ∨ (x.s = x.mn ∧ x.s = x.mx) := by
  unfold prtMay at h
  simp at h
  omega
theorem prtMay_out {c : Int} {x : Prt} (h : prtMay false c x = true) : x = .zero := by
  unfold prtMay at h
  simpa using h
theorem mayAg_parts {m : Int} {a : Ag} (h : mayAg m a = true) : 0 ≤ m ∧ m ≤ 3 ∧ 1 ≤ a.c ∧ prtMay (decide (0 < m)) a.c a.p = true ∧ prtMay (decide (1 < m)) a.c a.q = true ∧ prtMay (decide (2 < m)) a.c a.r = true := by
  unfold mayAg at h
  simp only [Bool.and_eq_true, decide_eq_true_eq] at h
  obtain ⟨⟨⟨⟨⟨h1, h2⟩, h3⟩, h4⟩, h5⟩, h6⟩ := h
  exact ⟨h1, h2, h3, h4, h5, h6⟩
theorem pag_agPut {m : Int} {a : Ag} (ha : a.ok) (h : mayAg m a = true) (t : List UInt8) : pag m (agPut m.toNat a ++ t) = .ok (a, t) := by
  obtain ⟨h0, h3, hc, hp, hq, hr⟩ := mayAg_parts h
  have hm : mayC m a.c = true := by unfold mayC; simp [h0, h3, hc]
  unfold pag agPut
  rw [List.append_assoc, q_pint ha.c]
  simp only
  rw [if_pos hm]
  have key : prtsFrom 0 m.toNat ⟨a.c, .zero, .zero, .zero⟩ (putsFrom a 0 m.toNat ++ t) = .ok (a, t) := by
    obtain ⟨c, p, q, r⟩ := a
    simp only at *
    rcases (show m = 0 ∨ m = 1 ∨ m = 2 ∨ m = 3 by omega) with rfl | rfl | rfl | rfl
    · rw [prtMay_out hp, prtMay_out hq, prtMay_out hr]
      rfl
    · have e1 := fun t => pprt_put ha.p (prtMay_in hc hp) t
      simp only at e1
      rw [prtMay_out hq, prtMay_out hr]
      simp only [show (1 : Int).toNat = 1 from rfl, putsFrom, prtsFrom, Ag.prt, List.append_assoc, e1, Ag.set, List.nil_append]
    · have e1 := fun t => pprt_put ha.p (prtMay_in hc hp) t
      have e2 := fun t => pprt_put ha.q (prtMay_in hc hq) t
      simp only at e1 e2
      rw [prtMay_out hr]
      simp only [show (2 : Int).toNat = 2 from rfl, putsFrom, prtsFrom, Ag.prt, List.append_assoc, e1, e2, Ag.set, List.nil_append]
    · have e1 := fun t => pprt_put ha.p (prtMay_in hc hp) t
      have e2 := fun t => pprt_put ha.q (prtMay_in hc hq) t
      have e3 := fun t => pprt_put ha.r (prtMay_in hc hr) t
      simp only at e1 e2 e3
      simp only [show (3 : Int).toNat = 3 from rfl, putsFrom, prtsFrom, Ag.prt, List.append_assoc, e1, e2, e3, Ag.set, List.nil_append]
  rw [key]
  simp only
  rw [if_pos h]
theorem prtsFrom_back {n : Nat} : ∀ {k : Nat} {a b : Ag} {l r : List UInt8}, prtsFrom k n a l = .ok (b, r) → k + n ≤ 3 → a.ok → l = putsFrom b k n ++ r ∧ b.ok ∧ b.c = a.c ∧ ∀ j, j < k → b.prt j = a.prt j := by
  induction n with
  | zero =>
    intro k a b l r h hk ha
    injection h with h
    injection h with h1 h2
    subst h1
    subst h2
    exact ⟨rfl, ha, rfl, fun _ _ => rfl⟩
  | succ n ih =>
    intro k a b l r h hk ha
    rw [prtsFrom] at h
    split at h
    · cases h
    · rename_i x r1 h1
      obtain ⟨e1, o1⟩ := pprt_back h1
      obtain ⟨e2, o2, e3, e4⟩ := ih h (by omega) (by
        rcases (show k = 0 ∨ k = 1 ∨ k = 2 by omega) with rfl | rfl | rfl
        · exact ⟨ha.c, o1, ha.q, ha.r⟩
        · exact ⟨ha.c, ha.p, o1, ha.r⟩
        · exact ⟨ha.c, ha.p, ha.q, o1⟩)
      rw [Ag.set_c] at e3
      have e5 : b.prt k = x := by
        rw [e4 k (by omega)]
        rcases (show k = 0 ∨ k = 1 ∨ k = 2 by omega) with rfl | rfl | rfl <;> rfl
      refine ⟨?_, o2, e3, fun j hj => ?_⟩
      · rw [putsFrom, e5, e3, e1, e2, List.append_assoc]
      · rw [e4 j (by omega)]
        rcases (show (k = 1 ∧ j = 0) ∨ (k = 2 ∧ j = 0) ∨ (k = 2 ∧ j = 1) by omega) with ⟨rfl, rfl⟩ | ⟨rfl, rfl⟩ | ⟨rfl, rfl⟩ <;> rfl
theorem pag_back {m : Int} {a : Ag} {l r : List UInt8} (h : pag m l = .ok (a, r)) : l = agPut m.toNat a ++ r ∧ mayAg m a = true ∧ a.ok := by
  unfold pag at h
  split at h
  · cases h
  · rename_i c r1 h1
    obtain ⟨e1, o1⟩ := q_pint_back h1
    split at h
    · rename_i hm
      unfold mayC at hm
      simp only [Bool.and_eq_true, decide_eq_true_eq] at hm
      split at h
      · cases h
      · rename_i b r2 h2
        obtain ⟨e2, o2, e3, _⟩ := prtsFrom_back h2 (by omega) ⟨o1, prt_zero_ok, prt_zero_ok, prt_zero_ok⟩
        split at h
        · rename_i hmay
          injection h with h
          injection h with h3 h4
          subst h3
          subst h4
          refine ⟨?_, hmay, o2⟩
          unfold agPut
          rw [e3, e1, e2, List.append_assoc]
        · cases h
    · cases h
theorem pprt_err {c k : Int} {l : List UInt8} (h : pprt c l = .error k) : k = 3 := by
  unfold pprt at h
  split at h
  · rename_i h1
    injection h with h
    subst h
    exact q_pint_err h1
  · split at h
    · split at h
      · rename_i h1
        injection h with h
        subst h
        exact q_pint_err h1
      · split at h
        · rename_i h1
          injection h with h
          subst h
          exact q_pint_err h1
        · cases h
    · cases h
theorem prtsFrom_err {n : Nat} : ∀ {j : Nat} {a : Ag} {l : List UInt8} {k : Int}, prtsFrom j n a l = .error k → k = 3 := by
  induction n with
  | zero => intro j a l k h; cases h
  | succ n ih =>
    intro j a l k h
    rw [prtsFrom] at h
    split at h
    · rename_i h1
      injection h with h
      subst h
      exact pprt_err h1
    · exact ih h
theorem pag_err {m k : Int} {l : List UInt8} (h : pag m l = .error k) : k = 3 := by
  unfold pag at h
  split at h
  · rename_i h1
    injection h with h
    subst h
    exact q_pint_err h1
  · split at h
    · split at h
      · rename_i h1
        injection h with h
        subst h
        exact prtsFrom_err h1
      · split at h
        · cases h
        · injection h with h; exact h.symm
    · injection h with h; exact h.symm
end Go.Proofs.Ytlclllkjnhgbjaa

namespace Go.Proofs.Ytlclllkjnhgbjaa
open Go.RowKit
set_option linter.unusedVariables false
set_option linter.unusedSimpArgs false

theorem prt_range {w : World} {g : Nat} {t : TypeId} {a : Ag} (h : Blk w g t a.cs) {k : Nat} (hk : k < 3) : w.rangeAt g (1 + k * 3) [.int .i64 (a.prt k).s, .int .i64 (a.prt k).mn, .int .i64 (a.prt k).mx] := by
  intro j v hv
  have hc := fun i => h.cell i
  rcases (show k = 0 ∨ k = 1 ∨ k = 2 by omega) with rfl | rfl | rfl <;>
  · rcases (show j = 0 ∨ j = 1 ∨ j = 2 ∨ 3 ≤ j by omega) with rfl | rfl | rfl | hj
    · rw [hc]; simpa [Ag.cs, Ag.prt] using hv
    · rw [hc]; simpa [Ag.cs, Ag.prt] using hv
    · rw [hc]; simpa [Ag.cs, Ag.prt] using hv
    · rw [List.getElem?_eq_none (by simpa using hj)] at hv; cases hv
theorem prt_ok {a : Ag} (h : a.ok) (k : Nat) : (a.prt k).ok := by
  unfold Ag.prt
  split
  · exact h.p
  · exact h.q
  · exact h.r
theorem putsFrom_step {a : Ag} {k m : Nat} (h : k < m) : putsFrom a k (m - k) = prtPut a.c (a.prt k) ++ putsFrom a (k + 1) (m - (k + 1)) := by
  rw [show m - k = (m - (k + 1)) + 1 by omega]
  rfl

set_option maxRecDepth 100000 in
set_option maxHeartbeats 1000000 in
theorem aput_any (a : Ag) (m : Int) (w : World) (ha : a.ok) (hm : I64 m) :
    Calls Try.prog 70 #[.int .i64 m, .agg a.cs] w fun e w' => e = .returned (.tuple #[.string ⟨(agPutV m a).1.toArray⟩, .int .i64 (agPutV m a).2]) ∧ Bel w w' := by
  have HM := Lib.hid (fun w => may_any a m w hm)
  have Ha := Lib.hid ha
  have hc0 := ha.c
  have ea : a.cs = #[.int .i64 a.c, .int .i64 a.p.s, .int .i64 a.p.mn, .int .i64 a.p.mx, .int .i64 a.q.s, .int .i64 a.q.mn, .int .i64 a.q.mx, .int .i64 a.r.s, .int .i64 a.r.mn, .int .i64 a.r.mx] := rfl
  have b0 := Blk.new w 30 a.cs
  have hW := (Bel.refl w).alloc (.cells a.cs 30)
  cases hA : mayAg m a with
  | false =>
    have HV : Hid (agPutV m a = ([], 2)) := by show _ = _; unfold agPutV; rw [hA]; rfl
    rw [hA] at HM
    rw [ea] at *
    clear hA ea b0
    go_enter Try.func70, Try.ntmps70
    go_wp2_with fail
    refine (HM.out _).mono ?_; rintro e w1 ⟨rfl, hb⟩
    go_wp2
    go_ret2
    rw [HV.out]
    exact ⟨rfl, hW.trans hb⟩
  | true =>
    obtain ⟨h0, h3, h1, _⟩ := mayAg_parts hA
    obtain ⟨n, rfl⟩ : ∃ n : Nat, m = n := ⟨m.toNat, by omega⟩
    have HV : Hid (agPutV n a = (agPut n a, 0)) := by show _ = _; unfold agPutV; rw [if_pos hA, Int.toNat_natCast]
    rw [hA] at HM
    have B0 := Lib.hid b0
    have HW := Lib.hid hW
    rw [ea] at HM
    rw [ea]
    clear hA ea b0 hW
    go_enter Try.func70, Try.ntmps70
    go_wp2_with fail
    refine (HM.out _).mono ?_; rintro e w1 ⟨rfl, hb⟩
    have b1 := B0.out.bel hb
    have c1 := b1.cell 0
    simp [Ag.cs] at c1
    have HB1 := Lib.hid b1
    have HW1 := Lib.hid (HW.out.trans hb)
    clear hb b1 B0 HW HM
    go_wp2_with fail
    refine (pputInt_any a.c _ hc0.1 hc0.2).mono ?_; rintro e w2 ⟨rfl, hb⟩
    have HB2 := Lib.hid (HB1.out.bel hb)
    have HW2 := Lib.hid (HW1.out.trans hb)
    clear hb HB1 HW1 c1
    go_wp2_with fail
    have HO : Hid (agPut n a = nput (nfold a.c) ++ putsFrom a 0 (n - 0)) := rfl
    go_loopg [6, 20] n (fun g o i wr => ∃ (k : Nat) (l : List UInt8), g = n - k ∧ k ≤ n ∧ i = .int .i64 k ∧ o = .string ⟨l.toArray⟩ ∧ l.length ≤ 9 + 27 * k ∧ Bel w wr ∧ Blk wr w.heap.size 30 a.cs ∧ Hid (agPut n a = l ++ putsFrom a k (n - k)))
    case atStart => exact ⟨0, _, rfl, by omega, rfl, rfl, by have := nput_le9 (nfold a.c); omega, HW2.out, HB2.out, HO⟩
    case round =>
      clear HB2 HW2 HO
      obtain ⟨k, l, hgk, hk, rfl, rfl, hl, hB, hb, hO⟩ := hrel
      have Hgk := Lib.hid hgk
      have HB := Lib.hid hB
      have Hb := Lib.hid hb
      have hlt0 := hb.lt
      have c1 := hb.cell 0
      simp [Ag.cs] at c1
      clear hgk hB
      by_cases hlt : k < n
      · have HR := Lib.hid (prt_range hb (k := k) (by omega))
        have HX := Lib.hid (prt_ok Ha.out k)
        have HN : Hid (agPut n a = (l ++ prtPut a.c (a.prt k)) ++ putsFrom a (k + 1) (n - (k + 1))) := by show _ = _; rw [hO.out, putsFrom_step hlt, List.append_assoc]
        generalize a.prt k = x at *
        clear hb hO
        have hx := HX.out.s
        have hx1 := HX.out.mn
        have hx2 := HX.out.mx
        have l1 := nput_le9 (nfold x.s)
        have l2 := nput_le9 (nfold x.mn)
        have l3 := nput_le9 (nfold x.mx)
        go_wp2_with (first | ((with_reducible show wpList _ _ _ (⟨some 23, _, _, _, _, _⟩ :: _) _ _); refine wpList_load_row_at rfl rowPart (.tmp 22) rfl w.heap.size (1 + k * 3) rfl #[.int .i64 x.s, .int .i64 x.mn, .int .i64 x.mx] rfl HR.out ?_) | ((with_reducible show wpList _ _ _ (⟨_, .store _ (.tmp 8) _, _, _, _, _⟩ :: _) _ _); refine wpList_store_new rfl rowPart (.tmp 8) (.tmp 23) rfl rfl rfl #[.int .i64 x.s, .int .i64 x.mn, .int .i64 x.mx] rfl rfl (by simp [Value.oneCell']) ?_))
        refine (pputInt_any x.s _ hx.1 hx.2).mono ?_; rintro e w3 ⟨rfl, hb3⟩
        have q3 := (Blk.new wr 27 #[.int .i64 x.s, .int .i64 x.mn, .int .i64 x.mx]).bel hb3
        obtain ⟨d0, d1, d2, _, _, _⟩ := q3.three
        have B3 := Lib.hid ((HB.out.alloc (.cells #[.int .i64 x.s, .int .i64 x.mn, .int .i64 x.mx] 27)).trans hb3)
        have b3 := (Hb.out.alloc (.cells #[.int .i64 x.s, .int .i64 x.mn, .int .i64 x.mx] 27)).bel hb3
        have c3 := b3.cell 0
        simp [Ag.cs] at c3
        have Hb3 := Lib.hid b3
        clear c1 hb3 q3 b3 HB Hb
        by_cases hc : 1 < a.c
        · have HP : Hid (prtPut a.c x = nput (nfold x.s) ++ (nput (nfold x.mn) ++ nput (nfold x.mx))) := by show _ = _; unfold prtPut; rw [if_pos hc]
          go_wp2_with fail
          have f1 := fun u : Over w3 => Over.cell d1 u
          have f2 := fun u : Over w3 => Over.cell d2 u
          refine wp_region_over (by kernel_rfl) (by kernel_rfl) ?_
          repeat (go_big_quiet_step ((go_at_call 96; exact calls_over (pputInt_any _ _ (by first | exact hx1.1 | exact hx2.1) (by first | exact hx1.2 | exact hx2.2)))))
          refine wpQuiet_nil ?_
          rintro _ ⟨u, rfl⟩
          clear f1 f2
          go_wp2
          go_roundg (n - (k + 1))
          case rel => exact ⟨k + 1, l ++ prtPut a.c x, rfl, by omega, by go_num, by rw [HP.out]; simp only [str_append, List.append_assoc], by rw [HP.out]; simp only [List.length_append]; omega, B3.out.trans u.bel, Hb3.out.bel u.bel, HN⟩
          case measure => rw [Hgk.out]; omega
        · have HP : Hid (prtPut a.c x = nput (nfold x.s)) := by show _ = _; unfold prtPut; rw [if_neg hc, List.append_nil]
          go_wp2
          go_roundg (n - (k + 1))
          case rel => exact ⟨k + 1, l ++ prtPut a.c x, rfl, by omega, by go_num, by rw [HP.out]; simp only [str_append], by rw [HP.out]; simp only [List.length_append]; omega, B3.out, Hb3.out, HN⟩
          case measure => rw [Hgk.out]; omega
      · have HN : Hid (agPut n a = l) := by show _ = _; rw [hO.out, show n - k = 0 by omega]; simp [putsFrom]
        clear hO
        go_wp2
        go_ret2
        rw [HV.out, HN.out]
        exact ⟨rfl, HB.out⟩

set_option maxRecDepth 100000 in
set_option maxHeartbeats 1000000 in
theorem raput_any (a : Ag) (m : Int) (w : World) (ha : a.ok) (hm : I64 m) (hA : mayAg m a = true) :
    Calls Try.prog 73 #[.int .i64 m, .agg a.cs] w fun e w' => e = .returned (.string ⟨(agPut m.toNat a).toArray⟩) ∧ Bel w w' := by
  have HM := Lib.hid (fun w => rmay_any a m w hm)
  have Ha := Lib.hid ha
  have hc0 := ha.c
  have ea : a.cs = #[.int .i64 a.c, .int .i64 a.p.s, .int .i64 a.p.mn, .int .i64 a.p.mx, .int .i64 a.q.s, .int .i64 a.q.mn, .int .i64 a.q.mx, .int .i64 a.r.s, .int .i64 a.r.mn, .int .i64 a.r.mx] := rfl
  have b0 := Blk.new w 30 a.cs
  have hW := (Bel.refl w).alloc (.cells a.cs 30)
  obtain ⟨h0, h3, h1, _⟩ := mayAg_parts hA
  obtain ⟨n, rfl⟩ : ∃ n : Nat, m = n := ⟨m.toNat, by omega⟩
  rw [Int.toNat_natCast]
  rw [hA] at HM
  have B0 := Lib.hid b0
  have HW := Lib.hid hW
  rw [ea] at HM
  rw [ea]
  clear hA ea b0 hW
  go_enter Try.func73, Try.ntmps73
  go_wp2_with fail
  refine (HM.out _).mono ?_; rintro e w1 ⟨rfl, hb⟩
  have b1 := B0.out.bel hb
  have c1 := b1.cell 0
  simp [Ag.cs] at c1
  have HB1 := Lib.hid b1
  have HW1 := Lib.hid (HW.out.trans hb)
  clear hb b1 B0 HW HM
  go_wp2_with fail
  refine (rputInt_any a.c _ hc0.1 hc0.2).mono ?_; rintro e w2 ⟨rfl, hb⟩
  have HB2 := Lib.hid (HB1.out.bel hb)
  have HW2 := Lib.hid (HW1.out.trans hb)
  clear hb HB1 HW1 c1
  go_wp2_with fail
  have HO : Hid (agPut n a = nput (nfold a.c) ++ putsFrom a 0 (n - 0)) := rfl
  go_loopg [5, 6] n (fun g o i wr => ∃ (k : Nat) (l : List UInt8), g = n - k ∧ k ≤ n ∧ i = .int .i64 k ∧ o = .string ⟨l.toArray⟩ ∧ l.length ≤ 9 + 27 * k ∧ Bel w wr ∧ Blk wr w.heap.size 30 a.cs ∧ Hid (agPut n a = l ++ putsFrom a k (n - k)))
  case atStart => exact ⟨0, _, rfl, by omega, rfl, rfl, by have := nput_le9 (nfold a.c); omega, HW2.out, HB2.out, HO⟩
  case round =>
    clear HB2 HW2 HO
    obtain ⟨k, l, hgk, hk, rfl, rfl, hl, hB, hb, hO⟩ := hrel
    have Hgk := Lib.hid hgk
    have HB := Lib.hid hB
    have Hb := Lib.hid hb
    have hlt0 := hb.lt
    have c1 := hb.cell 0
    simp [Ag.cs] at c1
    clear hgk hB
    by_cases hlt : k < n
    · have hR := prt_range hb (k := k) (by omega)
      have HX := Lib.hid (prt_ok Ha.out k)
      have HN : Hid (agPut n a = (l ++ prtPut a.c (a.prt k)) ++ putsFrom a (k + 1) (n - (k + 1))) := by show _ = _; rw [hO.out, putsFrom_step hlt, List.append_assoc]
      generalize a.prt k = x at *
      have d0 := hR 0 _ rfl
      have d1 := hR 1 _ rfl
      have d2 := hR 2 _ rfl
      simp only [Nat.add_zero] at d0
      clear hb hO hR
      have hx := HX.out.s
      have hx1 := HX.out.mn
      have hx2 := HX.out.mx
      have l1 := nput_le9 (nfold x.s)
      have l2 := nput_le9 (nfold x.mn)
      have l3 := nput_le9 (nfold x.mx)
      have i0 : (0 : Int) ≤ k := by omega
      have i1 : (k : Int) < 3 := by omega
      go_wp2_with fail
      refine (rputInt_any x.s _ hx.1 hx.2).mono ?_; rintro e w3 ⟨rfl, hb3⟩
      have B3 := Lib.hid (HB.out.trans hb3)
      have b3 := Hb.out.bel hb3
      have c3 := b3.cell 0
      simp [Ag.cs] at c3
      have Hb3 := Lib.hid b3
      replace d1 := (hb3.cell (World.block_lt_of_cell? _ _ d1)).trans d1
      replace d2 := (hb3.cell (World.block_lt_of_cell? _ _ d2)).trans d2
      clear c1 hb3 b3 HB Hb d0
      by_cases hc : 1 < a.c
      · have HP : Hid (prtPut a.c x = nput (nfold x.s) ++ (nput (nfold x.mn) ++ nput (nfold x.mx))) := by show _ = _; unfold prtPut; rw [if_pos hc]
        go_wp2_with fail
        have f1 := fun u : Over w3 => Over.cell d1 u
        have f2 := fun u : Over w3 => Over.cell d2 u
        refine wp_region_over (by kernel_rfl) (by kernel_rfl) ?_
        repeat (go_big_quiet_step ((go_at_call 98; exact calls_over (rputInt_any _ _ (by first | exact hx1.1 | exact hx2.1) (by first | exact hx1.2 | exact hx2.2)))))
        refine wpQuiet_nil ?_
        rintro _ ⟨u, rfl⟩
        clear f1 f2
        go_wp2
        go_roundg (n - (k + 1))
        case rel => exact ⟨k + 1, l ++ prtPut a.c x, rfl, by omega, by go_num, by rw [HP.out]; simp only [str_append, List.append_assoc], by rw [HP.out]; simp only [List.length_append]; omega, B3.out.trans u.bel, Hb3.out.bel u.bel, HN⟩
        case measure => rw [Hgk.out]; omega
      · have HP : Hid (prtPut a.c x = nput (nfold x.s)) := by show _ = _; unfold prtPut; rw [if_neg hc, List.append_nil]
        go_wp2
        go_roundg (n - (k + 1))
        case rel => exact ⟨k + 1, l ++ prtPut a.c x, rfl, by omega, by go_num, by rw [HP.out]; simp only [str_append], by rw [HP.out]; simp only [List.length_append]; omega, B3.out, Hb3.out, HN⟩
        case measure => rw [Hgk.out]; omega
    · have HN : Hid (agPut n a = l) := by show _ = _; rw [hO.out, show n - k = 0 by omega]; simp [putsFrom]
      clear hO
      go_wp2
      go_ret
      rw [HN.out]
      exact ⟨rfl, HB.out⟩

end Go.Proofs.Ytlclllkjnhgbjaa

namespace Go.Proofs.Ytlclllkjnhgbjaa
open Go.RowKit
set_option linter.unusedVariables false
set_option linter.unusedSimpArgs false

theorem ag_set_cs (a : Ag) (x : Prt) {k : Nat} (hk : k < 3) : setAll a.cs (1 + k * 3) [.int .i64 x.s, .int .i64 x.mn, .int .i64 x.mx] = (a.set k x).cs := by
  rcases (show k = 0 ∨ k = 1 ∨ k = 2 by omega) with rfl | rfl | rfl <;> rfl

/-- A reading of an aggregate under way: the blocks of the result and of what was read so far. -/
structure AgRd (w : World) (b z y : Nat) (s l : List UInt8) (a : Ag) (wr : World) : Prop where
  g : w.grownBy wr (some b)
  r : Rdr wr b s l
  Z : Blk wr z 30 Ag.zero.cs
  A : Blk wr y 30 a.cs
section
variable {w w1 w2 : World} {b z y : Nat} {s l l' : List UInt8} {a a' : Ag}
theorem AgRd.read (h : AgRd w b z y s l a w1) (hz : z ≠ b) (hgb : y ≠ b) (hg : w1.grownBy w2 (some b)) (hr : Rdr w2 b s l') : AgRd w b z y s l' a w2 :=
  ⟨h.g.trans hg, hr, h.Z.grown hg (by simpa using hz), h.A.grown hg (by simpa using hgb)⟩
theorem AgRd.more (h : AgRd w b z y s l a w1) (hb : Bel w1 w2) : AgRd w b z y s l a w2 :=
  ⟨h.g.trans (grown_of_bel hb _), h.r.bel hb, h.Z.bel hb, h.A.bel hb⟩
theorem AgRd.kept (h : AgRd w b z y s l a w1) {j : Nat} (hg : w1.grownBy w2 (some j)) (hj : w.heap.size ≤ j) (h1 : j ≠ b) (h2 : j ≠ z) (h3 : j ≠ y) : AgRd w b z y s l a w2 :=
  ⟨h.g.andThen hg (fun k e => by injection e with e; exact .inl (by omega)), h.r.grown hg (by simp; omega), h.Z.grown hg (by simp; omega), h.A.grown hg (by simp; omega)⟩
theorem AgRd.set (h : AgRd w b z y s l a w1) (hg : w1.grownBy w2 (some y)) (hj : w.heap.size ≤ y) (h1 : y ≠ b) (h2 : y ≠ z) (hA : Blk w2 y 30 a'.cs) : AgRd w b z y s l a' w2 :=
  ⟨h.g.andThen hg (fun k e => by injection e with e; exact .inl (by omega)), h.r.grown hg (by simp; omega), h.Z.grown hg (by simp; omega), hA⟩
end

/-- How a reading ends behind the parts. -/
def pend (m : Int) (o : PR Ag) : PR Ag := match o with | .error e => .error e | .ok (a, r) => if mayAg m a then .ok (a, r) else .error 3
def pnext (k n : Nat) (a : Ag) (o : PR Prt) : PR Ag := match o with | .error e => .error e | .ok (x, r) => prtsFrom (k + 1) n (a.set k x) r
theorem prtsFrom_next (k n : Nat) (a : Ag) (l : List UInt8) : prtsFrom k (n + 1) a l = pnext k n a (pprt a.c l) := by
  rw [prtsFrom]
  unfold pnext
  cases pprt a.c l <;> rfl
theorem pag_ok {m c : Int} {l r : List UInt8} (h : pint l = .ok (c, r)) (hm : mayC m c = true) : pag m l = pend m (prtsFrom 0 m.toNat ⟨c, .zero, .zero, .zero⟩ r) := by
  unfold pag pend
  rw [h]
  simp only
  rw [if_pos hm]
  all_goals (cases prtsFrom 0 m.toNat ⟨c, .zero, .zero, .zero⟩ r <;> rfl)

set_option maxRecDepth 100000 in
set_option maxHeartbeats 1000000 in
theorem aread_any (b : Nat) (s l : List UInt8) (m : Int) (w : World) (hR : Rdr w b s l) (hm : I64 m) :
    Calls Try.prog 102 #[.pointer (some ⟨b, 0, none⟩), .int .i64 m] w (RPost b s (pag m l) (fun a => .agg a.cs) w) := by
  have hb := hR.lt
  have HM := Lib.hid (fun a w => may_any a m w hm)
  obtain ⟨m0, m1⟩ := hm
  have bz := Blk.new w 30 Ag.zero.cs
  have HN := Lib.hid (int_any b s l (w.alloc (.cells Ag.zero.cs 30)) (hR.bel ((Bel.refl w).alloc _)))
  have ez : Ag.zero.cs = #[.int .i64 0, .int .i64 0, .int .i64 0, .int .i64 0, .int .i64 0, .int .i64 0, .int .i64 0, .int .i64 0, .int .i64 0, .int .i64 0] := rfl
  have HZ := Lib.hid bz
  have hgz : w.grownBy (w.alloc (.cells Ag.zero.cs 30)) (some b) := grown_of_bel ((Bel.refl w).alloc _) _
  have HG := Lib.hid hgz
  clear bz hgz hR
  go_enter Try.func102, Try.ntmps102
  go_wp2_with fail
  rw [ez] at HN HG
  cases hp : pint l with
  | error k =>
    have HE : Hid (pag m l = .error k) := by show _ = _; unfold pag; rw [hp]
    rw [hp] at HN
    refine HN.out.mono ?_; rintro e w1 ⟨rfl, hg, hr⟩
    clear hp
    go_wp2
    refine ⟨rfl, ?_⟩
    rw [HE.out]
    exact ⟨rfl, HG.out.trans hg, hr⟩
  | ok q =>
    obtain ⟨c, r⟩ := q
    have hc := (q_pint_back hp).2
    have Hp := Lib.hid hp
    rw [hp] at HN
    refine HN.out.mono ?_; rintro e w1 ⟨rfl, hg, hr⟩
    rw [← ez] at HG
    have H1 : Hid (AgRd w b w.heap.size w1.heap.size s r ⟨c, .zero, .zero, .zero⟩ (w1.alloc (.cells (Ag.mk c .zero .zero .zero).cs 30))) :=
      ⟨(HG.out.trans hg).trans (grown_of_bel ((Bel.refl _).alloc _) _), hr.bel ((Bel.refl _).alloc _), (HZ.out.grown hg (by simp; omega)).alloc _, Blk.new w1 _ _⟩
    have ec : (Ag.mk c .zero .zero .zero).cs = #[.int .i64 c, .int .i64 0, .int .i64 0, .int .i64 0, .int .i64 0, .int .i64 0, .int .i64 0, .int .i64 0, .int .i64 0, .int .i64 0] := rfl
    rw [ec] at H1
    clear ec
    have hz1 : w.heap.size < w1.heap.size := by have := hg.size; simp at this; omega
    clear hp hg hr HN HG HZ
    cases hmc : mayC m c with
    | false =>
      have HE : Hid (pag m l = .error 3) := by show _ = _; unfold pag; rw [Hp.out]; simp [hmc]
      have hcase : m < 0 ∨ (0 ≤ m ∧ 3 < m) ∨ (0 ≤ m ∧ m ≤ 3 ∧ c < 1) := by
        unfold mayC at hmc
        simp at hmc
        omega
      clear hmc
      rcases hcase with h | ⟨h, h'⟩ | ⟨h, h', h''⟩
      rotate_left 2
      · have dc : decide (1 ≤ c) = false := by simp; omega
        go_wp2_with fail
        refine (want_no b s r 3 _ H1.out.r).mono ?_; rintro e w2 ⟨rfl, rfl⟩
        go_wp2_with fail
        refine ⟨rfl, ?_⟩
        rw [HE.out]
        exact ⟨rfl, H1.out.g, _, H1.out.r⟩
      all_goals
        go_wp2_with fail
        refine (want_no b s r 3 _ H1.out.r).mono ?_; rintro e w2 ⟨rfl, rfl⟩
        go_wp2_with fail
        refine ⟨rfl, ?_⟩
        rw [HE.out]
        exact ⟨rfl, H1.out.g, _, H1.out.r⟩
    | true =>
      have HE := Lib.hid (pag_ok Hp.out hmc)
      obtain ⟨h0, h3, h1⟩ : 0 ≤ m ∧ m ≤ 3 ∧ 1 ≤ c := by
        unfold mayC at hmc
        simp only [Bool.and_eq_true, decide_eq_true_eq] at hmc
        omega
      obtain ⟨n, rfl⟩ : ∃ n : Nat, m = n := ⟨m.toNat, by omega⟩
      rw [Int.toNat_natCast] at HE
      have dc : decide (1 ≤ c) = true := by simp; omega
      clear hmc
      go_wp2_with fail
      clear dc
      refine (want_yes b s r 3 _ H1.out.r).mono ?_; rintro e w2 ⟨rfl, rfl⟩
      have q1 : max (n : Int) 0 = n := by omega
      have q2 : min (n : Int) 3 = n := by omega
      go_wp2_with fail
      clear q1 q2
      have hzb : w.heap.size ≠ b := by omega
      have hyb : w1.heap.size ≠ b := by omega
      go_loopg [27] n (fun g i wr => ∃ (k : Nat) (a : Ag) (lr : List UInt8), g = n - k ∧ k ≤ n ∧ i = .int .i64 k ∧ Hid (a.c = c) ∧ Hid (AgRd w b w.heap.size w1.heap.size s lr a wr) ∧ Hid (pag n l = pend n (prtsFrom k (n - k) a lr)))
      case atStart => exact ⟨0, ⟨c, .zero, .zero, .zero⟩, r, rfl, by omega, rfl, (by show _ = _; rfl), H1, HE⟩
      case round =>
        clear H1 HE Hp
        obtain ⟨k, a, lr, hgk, hk, rfl, hac, H, hE⟩ := hrel
        have Hgk := Lib.hid hgk
        clear hgk
        by_cases hlt : k < n
        · have hE2 : pag n l = pend n (pnext k (n - (k + 1)) a (pprt c lr)) := by
            rw [hE.out, show n - k = (n - (k + 1)) + 1 by omega, prtsFrom_next, hac.out]
          have HE2 := Lib.hid hE2
          have HI := Lib.hid (fun w l (h : Rdr w b s l) => int_any b s l w h)
          have i0 : (0 : Int) ≤ k := by omega
          have i1 : (k : Int) < 3 := by omega
          clear hE hE2
          go_wp2_with fail
          have HI1 := Lib.hid (HI.out _ _ H.out.r)
          cases hp : pint lr with
          | error e =>
            have HN : Hid (pag n l = .error e) := by show _ = _; rw [HE2.out]; unfold pprt; rw [hp]; rfl
            rw [hp] at HI1
            refine HI1.out.mono ?_; rintro e' w2 ⟨rfl, hg, hr⟩
            clear hp
            go_wp2_with fail
            refine ⟨rfl, ?_⟩
            rw [HN.out]
            exact ⟨rfl, H.out.g.trans hg, hr⟩
          | ok q =>
            obtain ⟨x, r1⟩ := q
            have Hp := Lib.hid hp
            rw [hp] at HI1
            refine HI1.out.mono ?_; rintro e' w3 ⟨rfl, hg, hr⟩
            have H3 := Lib.hid (H.out.read hzb hyb hg hr)
            have cy := H3.out.A.cell 0
            simp [Ag.cs] at cy
            rw [hac.out] at cy
            have hy3 : w1.heap.size < w3.heap.size := H3.out.A.lt
            clear hp hg hr HI1 H
            by_cases hc1 : 1 < c
            · go_wp2_with (first | ((with_reducible show wpList _ _ _ (⟨_, .store _ (.tmp 7) _, _, _, _, _⟩ :: _) _ _); refine wpList_store_new rfl rowPart (.tmp 7) (.tmp 32) rfl rfl rfl #[.int .i64 x, .int .i64 0, .int .i64 0] rfl rfl (by simp [Value.oneCell']) ?_))
              have H4 := Lib.hid (H3.out.more ((Bel.refl _).alloc (.cells #[.int .i64 x, .int .i64 x, .int .i64 x] 27)))
              have B4 := Lib.hid (Blk.new w3 27 #[.int .i64 x, .int .i64 x, .int .i64 x])
              have HI2 := Lib.hid (HI.out _ _ H4.out.r)
              cases hp2 : pint r1 with
              | error e =>
                have HN : Hid (pag n l = .error e) := by show _ = _; rw [HE2.out]; unfold pprt; rw [Hp.out]; simp only; rw [if_pos hc1, hp2]; rfl
                rw [hp2] at HI2
                refine HI2.out.mono ?_; rintro e' w2 ⟨rfl, hg, hr⟩
                clear hp2
                go_wp2_with fail
                refine ⟨rfl, ?_⟩
                rw [HN.out]
                exact ⟨rfl, H4.out.g.trans hg, hr⟩
              | ok q =>
                obtain ⟨x2, r2⟩ := q
                have Hp2 := Lib.hid hp2
                rw [hp2] at HI2
                refine HI2.out.mono ?_; rintro e' w4 ⟨rfl, hg, hr⟩
                have H5 := Lib.hid (H4.out.read hzb hyb hg hr)
                have B5 := Lib.hid (B4.out.grown hg (by simp; omega))
                clear hp2 hg hr HI2 H4 B4 H3 cy
                go_wp2_with fail
                have HI3 := Lib.hid (HI.out _ _ H5.out.r)
                cases hp3 : pint r2 with
                | error e =>
                  have HN : Hid (pag n l = .error e) := by show _ = _; rw [HE2.out]; unfold pprt; rw [Hp.out]; simp only; rw [if_pos hc1, Hp2.out]; simp only; rw [hp3]; rfl
                  rw [hp3] at HI3
                  refine HI3.out.mono ?_; rintro e' w2 ⟨rfl, hg, hr⟩
                  clear hp3
                  go_wp2_with fail
                  refine ⟨rfl, ?_⟩
                  rw [HN.out]
                  exact ⟨rfl, H5.out.g.trans hg, hr⟩
                | ok q =>
                  obtain ⟨x3, r3⟩ := q
                  have HN : Hid (pag n l = pend n (prtsFrom (k + 1) (n - (k + 1)) (a.set k ⟨x, x2, x3⟩) r3)) := by show _ = _; rw [HE2.out]; unfold pprt; rw [Hp.out]; simp only; rw [if_pos hc1, Hp2.out]; simp only; rw [hp3]; rfl
                  rw [hp3] at HI3
                  refine HI3.out.mono ?_; rintro e' w5 ⟨rfl, hg, hr⟩
                  have H6 := Lib.hid (H5.out.read hzb hyb hg hr)
                  have b6 := B5.out.grown hg (by simp; omega)
                  have hw5 := b6.lt
                  obtain ⟨d0, d1, d2, f0, f1, f2⟩ := b6.three
                  clear hp3 hg hr HI3 H5 B5 b6 HE2 Hp Hp2
                  go_wp2_with (((with_reducible show wpList _ _ _ (⟨_, .store _ (.tmp 51) _, _, _, _, _⟩ :: _) _ _); refine wpList_store_at rfl rowPart (.tmp 51) (.tmp 49) rfl w1.heap.size (1 + k * 3) rfl ((H6.out.A.far (p := ⟨w3.heap.size, 1, none⟩) (by simp; omega) _).far (p := ⟨w3.heap.size, 2, none⟩) (by simp; omega) _) #[.int .i64 x, .int .i64 x2, .int .i64 x3] rfl (by simp [Ag.cs]; omega) rfl (by simp [Value.oneCell']) ?_; intro w9 hA9 hg9))
                  go_roundg (n - (k + 1))
                  case rel => exact ⟨k + 1, a.set k ⟨x, x2, x3⟩, r3, rfl, by omega, by go_num, by show _ = _; rw [Ag.set_c]; exact hac.out, (((H6.out.kept (grownBy_setCell _ _ _ _) (by omega) (by omega) (by omega) (by omega)).kept (grownBy_setCell _ _ _ _) (by omega) (by omega) (by omega) (by omega)).set hg9 (by omega) hyb (by omega) (by rw [← ag_set_cs a ⟨x, x2, x3⟩ (by omega)]; exact hA9)), HN⟩
                  case measure => rw [Hgk.out]; omega
            · have HN : Hid (pag n l = pend n (prtsFrom (k + 1) (n - (k + 1)) (a.set k ⟨x, x, x⟩) r1)) := by show _ = _; rw [HE2.out]; unfold pprt; rw [Hp.out]; simp only; rw [if_neg hc1]; rfl
              have H4 := Lib.hid (H3.out.more ((Bel.refl _).alloc (.cells #[.int .i64 x, .int .i64 x, .int .i64 x] 27)))
              clear HE2 Hp H3
              go_wp2_with (first | ((with_reducible show wpList _ _ _ (⟨_, .store _ (.tmp 7) _, _, _, _, _⟩ :: _) _ _); refine wpList_store_new rfl rowPart (.tmp 7) (.tmp 32) rfl rfl rfl #[.int .i64 x, .int .i64 0, .int .i64 0] rfl rfl (by simp [Value.oneCell']) ?_) | ((with_reducible show wpList _ _ _ (⟨_, .store _ (.tmp 51) _, _, _, _, _⟩ :: _) _ _); refine wpList_store_at rfl rowPart (.tmp 51) (.tmp 49) rfl w1.heap.size (1 + k * 3) rfl H4.out.A #[.int .i64 x, .int .i64 x, .int .i64 x] rfl (by simp [Ag.cs]; omega) rfl (by simp [Value.oneCell']) ?_; intro w9 hA9 hg9))
              go_roundg (n - (k + 1))
              case rel => exact ⟨k + 1, a.set k ⟨x, x, x⟩, r1, rfl, by omega, by go_num, by show _ = _; rw [Ag.set_c]; exact hac.out, (H4.out.set hg9 (by omega) hyb (by omega) (by rw [← ag_set_cs a ⟨x, x, x⟩ (by omega)]; exact hA9)), HN⟩
              case measure => rw [Hgk.out]; omega
        · have HN : Hid (pag n l = pend n (.ok (a, lr))) := by show _ = _; rw [hE.out, show n - k = 0 by omega]; rfl
          have bA := H.out.A
          have HMa := Lib.hid (fun w => HM.out a w)
          clear hE
          go_wp2_with ((with_reducible show wpList _ _ _ (⟨some 55, _, _, _, _, _⟩ :: _) _ _); refine wpList_load_blk rfl rowAg (.tmp 5) rfl w1.heap.size rfl bA rfl ?_)
          refine (HMa.out _).mono ?_; rintro e w5 ⟨rfl, hb5⟩
          have H5 := Lib.hid (H.out.more hb5)
          clear hb5 H bA HMa
          cases hA : mayAg n a with
          | false =>
            replace HN := Lib.hid (HN.out.trans (show pend n (.ok (a, lr)) = .error 3 by unfold pend; simp [hA]))
            go_wp2_with fail
            refine (want_no b s lr 3 _ H5.out.r).mono ?_; rintro e w2 ⟨rfl, rfl⟩
            go_wp2_with fail
            refine ⟨rfl, ?_⟩
            rw [HN.out]
            exact ⟨rfl, H5.out.g, _, H5.out.r⟩
          | true =>
            replace HN := Lib.hid (HN.out.trans (show pend n (.ok (a, lr)) = .ok (a, lr) by unfold pend; simp [hA]))
            go_wp2_with fail
            refine (want_yes b s lr 3 _ H5.out.r).mono ?_; rintro e w2 ⟨rfl, rfl⟩
            have bA := H5.out.A
            have bZ := H5.out.Z
            go_wp2_with (first | ((with_reducible show wpList _ _ _ (⟨some 58, _, _, _, _, _⟩ :: _) _ _); refine wpList_load_blk rfl rowAg (.tmp 5) rfl w1.heap.size rfl bA rfl ?_) | ((with_reducible show wpList _ _ _ (⟨_, .store _ (.tmp 4) _, _, _, _, _⟩ :: _) _ _); refine wpList_store_blk rfl rowAg (.tmp 4) (.tmp 58) rfl w.heap.size rfl bZ rfl a.cs rfl rfl (ag_one a) ?_; intro w7 bC hg7))
            refine bodyPost_ret (results_blk1 rfl rowAg rfl bC rfl) rfl ?_
            rw [HN.out]
            exact ⟨rfl, H5.out.g.andThen hg7 (fun k e => by injection e with e; exact .inl (by omega)), H5.out.r.grown hg7 (by simp; omega)⟩

end Go.Proofs.Ytlclllkjnhgbjaa

namespace Go.Proofs.Ytlclllkjnhgbjaa
open Go.RowKit
set_option linter.unusedVariables false
set_option linter.unusedSimpArgs false

end Go.Proofs.Ytlclllkjnhgbjaa

namespace Go.Proofs.Ytlclllkjnhgbjaa
open Go.RowKit
set_option linter.unusedVariables false
set_option linter.unusedSimpArgs false

def andInt {α : Type} (o : PR α) : PR (α × Int) := pbind o fun x r => pbind (pint r) fun y r => .ok ((x, y), r)
theorem rint_next {α : Type} (s : List UInt8) (o : PR α) (t k : Int) (x : α) (h : SRes s o t k x) (hs : s.length ≤ 1000001) (w : World) :
    Calls Try.prog 103 #[scn s t k] w fun e w' => ∃ (t' k' y : Int), e = .returned (.tuple #[scn s t' k', .int .i64 y]) ∧ Bel w w' ∧ I64 y ∧ Hid (SRes s (andInt o) t' k' (x, y)) := by
  rcases h with ⟨hk, ho⟩ | ⟨rfl, tn, rfl, ht, ho⟩
  · refine (rint_bad s t k hk w).mono ?_
    rintro e w' ⟨rfl, hb⟩
    refine ⟨t, k, 0, rfl, hb, by unfold I64; omega, .inl ⟨hk, ?_⟩⟩
    rw [ho]
    rfl
  · refine (rint_any s tn hs ht w).mono ?_
    rintro e w' ⟨hb, hm⟩
    cases hp : pint (s.drop tn) with
    | error k =>
      rw [hp] at hm
      obtain ⟨t', rfl⟩ := hm
      have := q_pint_err hp
      refine ⟨t', k, 0, rfl, hb, by unfold I64; omega, .inl ⟨by omega, ?_⟩⟩
      rw [ho]
      show pbind (pint (s.drop tn)) _ = _
      rw [hp]
      rfl
    | ok q =>
      obtain ⟨y, l⟩ := q
      rw [hp] at hm
      obtain ⟨t', ht', hl, rfl⟩ := hm
      subst hl
      refine ⟨t', 0, y, rfl, hb, (q_pint_back hp).2, .inr ⟨rfl, t', rfl, ht', ?_⟩⟩
      rw [ho]
      show pbind (pint (s.drop tn)) _ = _
      rw [hp]
      rfl
theorem andInt_start (l : List UInt8) : andInt (.ok ((), l)) = pbind (pint l) fun y r => .ok (((), y), r) := rfl
theorem SRes.prt1 {s : List UInt8} {tn : Nat} {c t k x : Int} (h : SRes s (andInt (.ok ((), s.drop tn))) t k ((), x)) (hc : ¬ 1 < c) : SRes s (pprt c (s.drop tn)) t k ⟨x, x, x⟩ := by
  rw [andInt_start] at h
  unfold pprt
  cases hp : pint (s.drop tn) with
  | error e => 
    rw [hp] at h
    rcases h with ⟨h1, h2⟩ | ⟨h1, _, _, _, h2⟩
    · injection h2 with h2; subst h2; exact .inl ⟨h1, rfl⟩
    · cases h2
  | ok q =>
    obtain ⟨y, r⟩ := q
    rw [hp] at h
    rcases h with ⟨h1, h2⟩ | ⟨h1, tn', h3, h4, h2⟩
    · cases h2
    · injection h2 with h2
      injection h2 with h5 h6
      injection h5 with h7 h8
      subst h8
      subst h6
      refine .inr ⟨h1, tn', h3, h4, ?_⟩
      simp only
      rw [if_neg hc]
theorem SRes.prt3 {s : List UInt8} {tn : Nat} {c t k x y z : Int} (h : SRes s (andInt (andInt (andInt (.ok ((), s.drop tn))))) t k ((((), x), y), z)) (hc : 1 < c) : SRes s (pprt c (s.drop tn)) t k ⟨x, y, z⟩ := by
  unfold pprt
  unfold andInt at h
  cases hp : pint (s.drop tn) with
  | error e => 
    simp only [pbind, hp] at h
    rcases h with ⟨h1, h2⟩ | ⟨h1, _, _, _, h2⟩
    · injection h2 with h2; subst h2; exact .inl ⟨h1, rfl⟩
    · cases h2
  | ok q =>
    obtain ⟨x', r⟩ := q
    simp only [pbind, hp] at h
    simp only
    rw [if_pos hc]
    cases hp2 : pint r with
    | error e =>
      simp only [hp2] at h
      rcases h with ⟨h1, h2⟩ | ⟨h1, _, _, _, h2⟩
      · injection h2 with h2; subst h2; exact .inl ⟨h1, rfl⟩
      · cases h2
    | ok q =>
      obtain ⟨y', r2⟩ := q
      simp only [hp2] at h
      simp only
      cases hp3 : pint r2 with
      | error e =>
        simp only [hp3] at h
        rcases h with ⟨h1, h2⟩ | ⟨h1, _, _, _, h2⟩
        · injection h2 with h2; subst h2; exact .inl ⟨h1, rfl⟩
        · cases h2
      | ok q =>
        obtain ⟨z', r3⟩ := q
        simp only [hp3] at h
        rcases h with ⟨h1, h2⟩ | ⟨h1, tn', h3, h4, h2⟩
        · cases h2
        · injection h2 with h2
          injection h2 with h5 h6
          injection h5 with h5 h7
          injection h5 with h5 h8
          injection h5 with h5 h9
          subst h6
          subst h7
          subst h8
          subst h9
          exact .inr ⟨h1, tn', h3, h4, rfl⟩

/-- Where the document's Read stands: behind k parts. -/
def AgInv (s : List UInt8) (m : Int) (n k : Nat) (a : Ag) (t kk : Int) : Prop :=
  (kk ≠ 0 ∧ pag m s = .error kk) ∨ (kk = 0 ∧ m ≤ 3 ∧ ∃ tn : Nat, t = tn ∧ tn ≤ s.length ∧ pag m s = pend m (prtsFrom k (n - k) a (s.drop tn)))
theorem AgInv.step {s : List UInt8} {m : Int} {n k : Nat} {a : Ag} {tn : Nat} {t kk : Int} {x : Prt} (hm3 : m ≤ 3) (hk : k < n) (hE : pag m s = pend m (prtsFrom k (n - k) a (s.drop tn))) (h : SRes s (pprt a.c (s.drop tn)) t kk x) : AgInv s m n (k + 1) (a.set k x) t kk := by
  rw [show n - k = (n - (k + 1)) + 1 by omega, prtsFrom_next] at hE
  rcases h with ⟨h1, h2⟩ | ⟨h1, tn', h3, h4, h2⟩
  · exact .inl ⟨h1, by rw [hE, h2]; rfl⟩
  · exact .inr ⟨h1, hm3, tn', h3, h4, by rw [hE, h2]; rfl⟩
theorem AgInv.start {s : List UInt8} {m c t kk : Int} (h : SRes s (andInt (.ok ((), s))) t kk ((), c)) : AgInv s m m.toNat 0 ⟨c, .zero, .zero, .zero⟩ t (wantK kk (mayC m c) 3) := by
  rw [andInt_start] at h
  cases hp : pint s with
  | error e =>
    rw [hp] at h
    rcases h with ⟨h1, h2⟩ | ⟨h1, _, _, _, h2⟩
    · injection h2 with h2
      subst h2
      have : wantK e (mayC m c) 3 = e := by unfold wantK; rw [if_pos h1]
      rw [this]
      exact .inl ⟨h1, by unfold pag; rw [hp]⟩
    · cases h2
  | ok q =>
    obtain ⟨y, r⟩ := q
    rw [hp] at h
    rcases h with ⟨h1, h2⟩ | ⟨h1, tn', h3, h4, h2⟩
    · cases h2
    · injection h2 with h2
      injection h2 with h5 h6
      injection h5 with h7 h8
      subst h8
      subst h6
      subst h1
      cases hm : mayC m y with
      | false => exact .inl ⟨by decide, by unfold pag; rw [hp]; simp [hm]; rfl⟩
      | true => exact .inr ⟨rfl, by unfold mayC at hm; simp at hm; omega, tn', h3, h4, by rw [Nat.sub_zero]; exact pag_ok hp hm⟩
/-- What the document's Read ends with. -/
def AgPost (s : List UInt8) (o : PR Ag) (w : World) (e : Ending) (w' : World) : Prop :=
  Bel w w' ∧ ∃ (t : Int) (x : Ag), e = .returned (.tuple #[scn s t (prErr o), .agg x.cs]) ∧ ∀ a l, o = .ok (a, l) → x = a ∧ ∃ tn : Nat, t = tn ∧ tn ≤ s.length ∧ l = s.drop tn
theorem AgInv.done {s : List UInt8} {m : Int} {n k : Nat} {a : Ag} {t kk : Int} (h : AgInv s m n k a t kk) (hk : n - k = 0) : wantK kk (kk != 0 || mayAg m a) 3 = prErr (pag m s) ∧ ∀ b l, pag m s = .ok (b, l) → a = b ∧ ∃ tn : Nat, t = tn ∧ tn ≤ s.length ∧ l = s.drop tn := by
  rcases h with ⟨h1, h2⟩ | ⟨h1, _, tn, h3, h4, h2⟩
  · rw [h2]
    refine ⟨?_, fun _ _ h => by cases h⟩
    unfold wantK
    rw [if_pos h1]
    rfl
  · subst h1
    rw [hk] at h2
    rw [h2]
    cases hA : mayAg m a with
    | false =>
      refine ⟨?_, fun b l h => ?_⟩
      · simp [wantK, wantErr, prErr, pend, prtsFrom, hA]
      · simp [pend, prtsFrom, hA] at h
    | true =>
      refine ⟨?_, fun b l h => ?_⟩
      · simp [wantK, wantErr, prErr, pend, prtsFrom, hA]
      · simp [pend, prtsFrom, hA] at h
        exact ⟨h.1, tn, h3, h4, h.2.symm⟩
theorem AgInv.bad {s : List UInt8} {m : Int} {n k : Nat} {a : Ag} {t kk : Int} (h : AgInv s m n k a t kk) (hk : kk ≠ 0) : wantK kk (kk != 0 || mayAg m a) 3 = prErr (pag m s) ∧ ∀ b l, pag m s = .ok (b, l) → a = b ∧ ∃ tn : Nat, t = tn ∧ tn ≤ s.length ∧ l = s.drop tn := by
  rcases h with ⟨h1, h2⟩ | ⟨h1, _⟩
  · rw [h2]
    refine ⟨?_, fun _ _ h => by cases h⟩
    unfold wantK
    rw [if_pos h1]
    rfl
  · exact absurd h1 hk

/-- Memory in the document's Read of aggregates. -/
structure AgW (w : World) (s : List UInt8) (t k : Int) (a : Ag) (wr : World) : Prop where
  bel : Bel w wr
  A : Blk wr w.heap.size 92 (scs s t k)
  R : Blk wr (w.heap.size + 1) 92 (scs [] 0 0)
  Z : Blk wr (w.heap.size + 2) 30 Ag.zero.cs
  G : Blk wr (w.heap.size + 3) 30 a.cs
section
variable {w w1 w2 : World} {s : List UInt8} {t k t' k' : Int} {a a' : Ag}
theorem AgW.more (h : AgW w s t k a w1) (hb : Bel w1 w2) : AgW w s t k a w2 := ⟨h.bel.trans hb, h.A.bel hb, h.R.bel hb, h.Z.bel hb, h.G.bel hb⟩
theorem AgW.setA (h : AgW w s t k a w1) (hg : w1.grownBy w2 (some w.heap.size)) (hA : Blk w2 w.heap.size 92 (scs s t' k')) : AgW w s t' k' a w2 :=
  ⟨h.bel.grownAt hg (Nat.le_refl _), hA, h.R.grown hg (by simp), h.Z.grown hg (by simp), h.G.grown hg (by simp)⟩
theorem AgW.setG (h : AgW w s t k a w1) (hg : w1.grownBy w2 (some (w.heap.size + 3))) (hG : Blk w2 (w.heap.size + 3) 30 a'.cs) : AgW w s t k a' w2 :=
  ⟨h.bel.grownAt hg (by omega), h.A.grown hg (by simp), h.R.grown hg (by simp), h.Z.grown hg (by simp), hG⟩
theorem AgW.far (h : AgW w s t k a w1) {g : Nat} (hg : w1.grownBy w2 (some g)) (h1 : w.heap.size + 3 < g) : AgW w s t k a w2 :=
  ⟨h.bel.grownAt hg (by omega), h.A.grown hg (by simp; omega), h.R.grown hg (by simp; omega), h.Z.grown hg (by simp; omega), h.G.grown hg (by simp; omega)⟩
end

end Go.Proofs.Ytlclllkjnhgbjaa
