/- Searches among cells. -/
import Derived.Test.YtjiphfobengdlaaAreF
import Derived.Test.YtjiphfobengdlaaAreL
import Derived.Test.YtjiphfobengdlaaBl
namespace Go.Proofs.Ytjiphfobengdlaa
open Go.RowKit
set_option linter.unusedVariables false
set_option linter.unusedSimpArgs false


/-- Keys rise. -/
def RiseL (l : List Cl) : Prop := ∀ (i j : Nat) a b, i < j → l[i]? = some a → l[j]? = some b → a.key < b.key
/-- The cell of a place of a member. -/
def pfind (n : NC) (t k : Int) : Option Cl := if n.ls.length = 0 ∨ (n.ls.length : Int) ≤ t then none else if t < 0 then some n.all else ((n.ls[t.toNat]?).getD []).find? (fun c => c.key == k)
/-- Where a key stands, or would stand. -/
structure IsAtC (l : List Cl) (k : Int) (p : Nat) : Prop where
  le : p ≤ l.length
  lo : ∀ m c, m < p → l[m]? = some c → c.key < k
  hi : ∀ m c, p ≤ m → l[m]? = some c → k ≤ c.key
def metC (l : List Cl) (k : Int) (p : Nat) : Bool := match l[p]? with | some c => c.key == k | none => false
theorem find_first {l : List Cl} {k : Int} : ∀ {p : Nat} {c : Cl}, l[p]? = some c → c.key = k → (∀ m d, m < p → l[m]? = some d → d.key ≠ k) → l.find? (fun c => c.key == k) = some c := by
  induction l with
  | nil => intro p c h; simp at h
  | cons x l ih =>
    intro p c h hc hm
    cases p with
    | zero =>
      simp at h
      subst h
      rw [List.find?_cons_of_pos (by simpa using hc)]
    | succ p =>
      rw [List.find?_cons_of_neg (by have := hm 0 x (by omega) rfl; simpa using this)]
      exact ih (by simpa using h) hc fun m d hmp hd => hm (m + 1) d (by omega) (by simpa using hd)
theorem find_none {l : List Cl} {k : Int} (h : ∀ (m : Nat) c, l[m]? = some c → c.key ≠ k) : l.find? (fun c => c.key == k) = none := by
  rw [List.find?_eq_none]
  intro c hc
  obtain ⟨m, hm⟩ := List.mem_iff_getElem?.1 hc
  simpa using h m c hm
theorem isAt_met {l : List Cl} {k : Int} {p : Nat} (h : IsAtC l k p) (hm : metC l k p = true) : ∃ c, l[p]? = some c ∧ l.find? (fun c => c.key == k) = some c := by
  unfold metC at hm
  cases hp : l[p]? with
  | none => rw [hp] at hm; cases hm
  | some c =>
    rw [hp] at hm
    exact ⟨c, rfl, find_first hp (by simpa using hm) fun m d hmp hd => by have := h.lo m d hmp hd; omega⟩
theorem isAt_not {l : List Cl} {k : Int} {p : Nat} (hr : RiseL l) (h : IsAtC l k p) (hm : metC l k p = false) : l.find? (fun c => c.key == k) = none := by
  refine find_none fun m c hc he => ?_
  rcases Nat.lt_trichotomy m p with h1 | h1 | h1
  · have := h.lo m c h1 hc; omega
  · subst h1
    unfold metC at hm
    rw [hc] at hm
    simp at hm
    exact hm he
  · have hml := (List.getElem?_eq_some_iff.1 hc).1
    have hp : l[p]? = some (l[p]'(by omega)) := List.getElem?_eq_getElem (by omega)
    have h2 := hr p m _ c h1 hp hc
    have h3 := h.hi p _ (Nat.le_refl _) hp
    omega
def BPostC (l : List Cl) (k : Int) (w : World) (e : Ending) (w' : World) : Prop := ∃ p, IsAtC l k p ∧ e = .returned (.tuple #[.int .i64 (p : Nat), .bool (metC l k p)]) ∧ Bel w w'

set_option maxRecDepth 100000 in
theorem find1_any (c : Cl) (k r : Int) (w : World) (hr : cmpI c.key k = r) :
    Calls Try.prog 123 #[.agg c.cs, .int .i64 k] w fun e w' => e = .returned (.int .i64 r) ∧ Bel w w' := by
  have H := Lib.hid ((SL.start No w).alloc c.cs 42)
  (try simp only [List.set_cons_zero, List.set_cons_succ, List.cons_append, List.nil_append, List.eraseIdx_cons_zero, List.eraseIdx_cons_succ, List.setIfInBounds_toArray, World.size_alloc, selR, List.getD_cons_zero, List.getD_cons_succ] at H)
  have HR := Lib.hid hr
  clear hr
  go_enter Try.func123, Try.ntmps123
  go_wp2_with fail
  refine (cmpI_any _ _ _).mono ?_; rintro e w1 ⟨rfl, rfl⟩
  rw [HR.out]
  go_wp2
  go_ret
  exact ⟨rfl, H.out.to⟩
theorem cmpI_lt {a b : Int} (h : a < b) : cmpI a b = -1 := if_pos h
theorem cmpI_ge {a b : Int} (h : ¬ a < b) : 0 ≤ cmpI a b ∧ (cmpI a b = 0 ↔ a = b) := by
  unfold cmpI
  rw [if_neg h]
  split
  · exact ⟨by omega, by omega⟩
  · exact ⟨by omega, by omega⟩
set_option maxRecDepth 100000 in
set_option maxHeartbeats 4000000 in
theorem bsearchC_any (x : Row Cl) (k : Int) (w : World) (hx : x.rd w) (hn : x.n ≤ 1000000) (hr : RiseL x.l) :
    Calls Try.prog 122 #[.slice x.A x.n x.c, .int .i64 k, .func (.func 123) #[] #[]] w (BPostC x.l k w) := by
  have hlen : Hid (x.l.length = x.n) := hx.len
  have HX := Lib.hid (fun w' (hb : Bel w w') => hx.mono hb)
  have Hr := Lib.hid hr
  have H := Lib.hid (SL.start No w)
  clear hx hr
  obtain ⟨A, n, c, l⟩ := x
  simp only at *
  go_enter Try.func122, Try.ntmps122
  go_wp2_with fail
  have HF : Hid ((∀ m c, m < 0 → l[m]? = some c → c.key < k) ∧ (∀ m c, n ≤ m → l[m]? = some c → k ≤ c.key)) := ⟨fun m f h => by omega, fun m f h hf => by
    have h1 := (List.getElem?_eq_some_iff.1 hf).1
    have h2 : l.length = n := hlen.out
    omega⟩
  go_loopg [9, 10] n (fun gg si sj wr => ∃ i j : Nat, gg = j - i ∧ i ≤ j ∧ j ≤ n ∧ si = .int .i64 i ∧ sj = .int .i64 j ∧ Hid (SL No w wr []) ∧ Hid ((∀ m c, m < i → l[m]? = some c → c.key < k) ∧ (∀ m c, j ≤ m → l[m]? = some c → k ≤ c.key)))
  case atStart => exact ⟨0, n, by omega, by omega, by omega, rfl, rfl, H, HF⟩
  case round =>
    clear H HF
    obtain ⟨i, j, hgk, hij, hj, rfl, rfl, H, HF⟩ := hrel
    have Hgk := Lib.hid hgk
    clear hgk
    by_cases hlt : i < j
    · obtain ⟨b, o, f, hA, hb, hf, hfo, hrf⟩ := (HX.out _ H.out.to).clAt (k := (i + j) / 2) (show (i + j) / 2 < n by omega)
      simp only at hA hf
      subst hA
      have Hf := Lib.hid hf
      have HRF := Lib.hid hrf
      clear hf hfo hrf
      by_cases hc : f.key < k
      · have HR : Hid ((∀ m c, m < (i + j) / 2 + 1 → l[m]? = some c → c.key < k) ∧ (∀ m c, j ≤ m → l[m]? = some c → k ≤ c.key)) := ⟨fun m g hm hg => by
          rcases (show m < (i + j) / 2 ∨ m = (i + j) / 2 by omega) with h | h
          · have := Hr.out m _ g f h hg Hf.out; omega
          · subst h; rw [Hf.out] at hg; injection hg with hg; rw [← hg]; exact hc, HF.out.2⟩
        have HC := Lib.hid (cmpI_lt hc)
        clear hc HF
        go_wp2_with ((with_reducible show wpList _ _ _ (⟨some 28, _, _, _, _, _⟩ :: _) _ _); (refine wpList_load_row_at rfl rowCl (.tmp 27) rfl b (o + (i + j) / 2 * 12) rfl f.cs rfl HRF.out ?_))
        refine (find1_any f k (-1) _ HC.out).mono ?_; rintro e w1 ⟨rfl, hb1⟩
        replace H := Lib.hid (H.out.bel hb1); (try simp only [List.set_cons_zero, List.set_cons_succ, List.cons_append, List.nil_append, List.eraseIdx_cons_zero, List.eraseIdx_cons_succ, List.setIfInBounds_toArray, World.size_alloc, selR, List.getD_cons_zero, List.getD_cons_succ] at H)
        clear hb1
        go_wp2
        go_roundg (j - ((i + j) / 2 + 1))
        case rel => exact ⟨(i + j) / 2 + 1, j, rfl, by omega, hj, by go_num, rfl, H, HR⟩
        case measure => rw [Hgk.out]; omega
      · obtain ⟨r, hr⟩ : ∃ r, cmpI f.key k = r := ⟨_, rfl⟩
        have r0 : 0 ≤ r := by rw [← hr]; exact (cmpI_ge hc).1
        have rd : decide (r < 0) = false := by simp; omega
        have HR : Hid ((∀ m c, m < i → l[m]? = some c → c.key < k) ∧ (∀ m c, (i + j) / 2 ≤ m → l[m]? = some c → k ≤ c.key)) := ⟨HF.out.1, fun m g hm hg => by
          rcases (show (i + j) / 2 < m ∨ (i + j) / 2 = m by omega) with h | h
          · have := Hr.out _ m f g h Hf.out hg; omega
          · subst h; rw [Hf.out] at hg; injection hg with hg; rw [← hg]; omega⟩
        have HC := Lib.hid hr
        clear hc HF hr
        go_wp2_with ((with_reducible show wpList _ _ _ (⟨some 28, _, _, _, _, _⟩ :: _) _ _); (refine wpList_load_row_at rfl rowCl (.tmp 27) rfl b (o + (i + j) / 2 * 12) rfl f.cs rfl HRF.out ?_))
        refine (find1_any f k r _ HC.out).mono ?_; rintro e w1 ⟨rfl, hb1⟩
        replace H := Lib.hid (H.out.bel hb1); (try simp only [List.set_cons_zero, List.set_cons_succ, List.cons_append, List.nil_append, List.eraseIdx_cons_zero, List.eraseIdx_cons_succ, List.setIfInBounds_toArray, World.size_alloc, selR, List.getD_cons_zero, List.getD_cons_succ] at H)
        clear hb1
        go_wp2
        go_roundg ((i + j) / 2 - i)
        case rel => exact ⟨i, (i + j) / 2, rfl, by omega, by omega, rfl, by go_num, H, HR⟩
        case measure => rw [Hgk.out]; omega
    · obtain rfl : i = j := by omega
      have HA : Hid (IsAtC l k i) := ⟨by have h2 : l.length = n := hlen.out; omega, HF.out.1, HF.out.2⟩
      clear HF hlt
      by_cases hin : i < n
      · obtain ⟨b, o, f, hA, hb, hf, hfo, hrf⟩ := (HX.out _ H.out.to).clAt (k := i) hin
        simp only at hA hf
        subst hA
        have HM : Hid (metC l k i = (f.key == k)) := by show _ = _; unfold metC; rw [hf]
        have hge := HA.out.hi i f (Nat.le_refl _) hf
        have HRF := Lib.hid hrf
        obtain ⟨r, hr⟩ : ∃ r, cmpI f.key k = r := ⟨_, rfl⟩
        have hr2 := (cmpI_ge (a := f.key) (b := k) (by omega)).2
        rw [hr] at hr2
        have HC := Lib.hid hr
        have d1 : decide ((i : Int) < (n : Int)) = true := by simp; omega
        have d1' : decide (i < n) = true := by simp; omega
        have i0 : (0 : Int) ≤ i := by omega
        have i1 : (i : Int) < n := by omega
        clear hf hfo hrf hr hge
        by_cases hk : f.key = k
        · obtain rfl : r = 0 := hr2.2 hk
          have HM2 : Hid (metC l k i = true) := by show _ = _; rw [HM.out]; simpa using hk
          clear hr2 hk HM
          go_wp2_with ((with_reducible show wpList _ _ _ (⟨some 44, _, _, _, _, _⟩ :: _) _ _); refine wpList_load_rowG (by first | rfl | go_simp) rowCl (.tmp 43) (by rfl) b (o + i * 12) (by rfl) f.cs rfl HRF.out ?_)
          refine (find1_any f k 0 _ HC.out).mono ?_; rintro e w1 ⟨rfl, hb1⟩
          replace H := Lib.hid (H.out.bel hb1); (try simp only [List.set_cons_zero, List.set_cons_succ, List.cons_append, List.nil_append, List.eraseIdx_cons_zero, List.eraseIdx_cons_succ, List.setIfInBounds_toArray, World.size_alloc, selR, List.getD_cons_zero, List.getD_cons_succ] at H)
          clear hb1
          go_wp2
          go_ret2
          exact ⟨i, HA.out, by rw [HM2.out]; rfl, H.out.to⟩
        · have r1 : (r == 0) = false := by simpa using fun h => hk (hr2.1 h)
          have HM2 : Hid (metC l k i = false) := by show _ = _; rw [HM.out]; simpa using hk
          clear hr2 hk HM
          go_wp2_with ((with_reducible show wpList _ _ _ (⟨some 44, _, _, _, _, _⟩ :: _) _ _); refine wpList_load_rowG (by first | rfl | go_simp) rowCl (.tmp 43) (by rfl) b (o + i * 12) (by rfl) f.cs rfl HRF.out ?_)
          refine (find1_any f k r _ HC.out).mono ?_; rintro e w1 ⟨rfl, hb1⟩
          replace H := Lib.hid (H.out.bel hb1); (try simp only [List.set_cons_zero, List.set_cons_succ, List.cons_append, List.nil_append, List.eraseIdx_cons_zero, List.eraseIdx_cons_succ, List.setIfInBounds_toArray, World.size_alloc, selR, List.getD_cons_zero, List.getD_cons_succ] at H)
          clear hb1
          go_wp2
          go_ret2
          exact ⟨i, HA.out, by rw [HM2.out]; rfl, H.out.to⟩
      · have HM : Hid (metC l k i = false) := by
          show _ = _
          unfold metC
          rw [List.getElem?_eq_none (by have h2 : l.length = n := hlen.out; omega)]
        have d1 : decide ((i : Int) < (n : Int)) = false := by simp; omega
        have d1' : decide (i < n) = false := by simp; omega
        go_wp2
        go_ret2
        exact ⟨i, HA.out, by rw [HM.out]; rfl, H.out.to⟩

end Go.Proofs.Ytjiphfobengdlaa
