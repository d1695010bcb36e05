/- Texts laid together: XFact XFactC XFactD XFactE XFactF XFactG XOwnSet. -/
import Derived.Test.YtelnhhbefdfeoaaBb
import Derived.Test.YtelnhhbefdfeoaaBa
import Derived.Test.YtelnhhbefdfeoaaBg

namespace Go.Proofs.Ytelnhhbefdfeoaa
open Go.RowKit Go.ChangeShapes Go.WideShapes Go.Deep
set_option linter.unusedVariables false

/-- A fact: its tuple, and its aggregate. -/
structure Fct where
  ks : Row Int
  ag : Ag
def Fct.cs (f : Fct) : Array Value := ⟨f.ks.v :: f.ag.cs.toList⟩
theorem fct_size (f : Fct) : f.cs.size = 11 := rfl
theorem Row.v_one {α : Type} (x : Row α) : x.v.oneCell' = true := rfl
theorem fct_one (f : Fct) : f.cs.all (·.oneCell') = true := by
  rw [Array.all_eq_true_iff_forall_mem]
  intro v hv
  have hv' : v ∈ f.ks.v :: f.ag.cs.toList := by simpa [Fct.cs] using hv
  rcases List.mem_cons.1 hv' with rfl | h
  · exact Row.v_one _
  · exact Array.all_eq_true_iff_forall_mem.1 (ag_one f.ag) v (by simpa using h)
structure Fct.ok (w : World) (f : Fct) : Prop where
  ks : f.ks.ok w
  ag : f.ag.ok
instance instCelFct : Cel Fct where
  size := 11
  bytes := 104
  cells f := f.cs.toList
  ok w f := f.ok w
  len _ := rfl
  pos := by omega
  mono hb h := ⟨h.ks.mono hb, h.ag⟩
/-- What a fact says. -/
def Fct.con (f : Fct) : List Int × Ag := (f.ks.l, f.ag)

theorem rowFct : RowTy Try.prog 84 11 := ⟨⟨_, Try.underlying84, rfl⟩, by kernel_rfl⟩
theorem E_int : ElemInfo Try.prog 60 3 1 8 := ElemInfo.mk' (z := .int .i64 0) Try.underlying60 (by kernel_rfl) rfl (by omega)
theorem E_fct : ElemInfo Try.prog 30 84 11 104 := ElemInfo.mk' (z := .agg (Fct.mk ⟨none, 0, 0, []⟩ .zero).cs) Try.underlying30 (by kernel_rfl) rfl (by omega)

set_option maxRecDepth 100000 in
theorem cells_fct : Try.prog.cellsOf 84 = 11 := by kernel_rfl
set_option maxRecDepth 100000 in
theorem cells_int : Try.prog.cellsOf 3 = 1 := by kernel_rfl
set_option maxRecDepth 100000 in
theorem cells_ints : Try.prog.cellsOf 60 = 1 := by kernel_rfl
theorem opens_ints : Opens Try.prog 60 (Row Int) := opens_row Try.underlying60 cells_int (by kernel_rfl) (opens_i64 Try.underlying3)
theorem opens_fct : Opens Try.prog 84 Fct := by
  intro H enc w base spare held fuel cs x h hz
  have hl := struct_len Try.underlying84 h cells_fct
  obtain ⟨k, hk, ok1⟩ := field_of Try.underlying84 h hz 0 _ rfl opens_ints cells_ints
  obtain ⟨a, ha, ok2⟩ := field_of Try.underlying84 h hz 1 _ rfl opens_agg cells_agg
  refine ⟨⟨k, a⟩, ?_, ⟨ok1, ok2⟩⟩
  match cs, hl with
  | c :: r, hl =>
    have h1 : c = k.v := by simpa [Cel.cells] using hk
    have h2 : r = a.cs.toList := by
      have ha' : r.take 10 = a.cs.toList := ha
      rw [List.take_of_length_le (by simp at hl; omega)] at ha'
      exact ha'
    subst h1 h2
    rfl
theorem opens_fcts : Opens Try.prog 30 (Row Fct) := opens_row Try.underlying30 cells_fct (by kernel_rfl) opens_fct
set_option maxRecDepth 100000 in
theorem open_fcts {H : Type} {enc : TypeId × Value → H} {w : World} {base b0 : Nat} {spare : Nat → Bool} {held : Bool} {r : Reach} {v : Value} {d : DataW H} {p : List MemPlace}
    (hv : Value.okWide Try.prog w r b0 30 v) (h : DataW.Trod enc Try.prog w base spare held 30 v d p) (hz : Sized Try.prog 30 d) : ∃ x : Row Fct, v = x.v ∧ x.ok w := open_row Try.underlying30 cells_fct (by kernel_rfl) opens_fct hv h hz
set_option maxRecDepth 100000 in
theorem open_intsC {H : Type} {enc : TypeId × Value → H} {w : World} {base b0 : Nat} {spare : Nat → Bool} {held : Bool} {r : Reach} {v : Value} {d : DataW H} {p : List MemPlace}
    (hv : Value.okWide Try.prog w r b0 60 v) (h : DataW.Trod enc Try.prog w base spare held 60 v d p) (hz : Sized Try.prog 60 d) : ∃ x : Row Int, v = x.v ∧ x.ok w := open_row Try.underlying60 cells_int (by kernel_rfl) (opens_i64 Try.underlying3) hv h hz

/-- Which of two tuples stands first: -1, 0, 1. -/
def cmpK : List Int → List Int → Int
  | [], [] => 0
  | [], _ :: _ => -1
  | _ :: _, [] => 1
  | a :: x, b :: y => if a < b then -1 else if b < a then 1 else cmpK x y
def lessK (x y : List Int) : Bool := cmpK x y == -1
theorem cmpK_range (x y : List Int) : cmpK x y = -1 ∨ cmpK x y = 0 ∨ cmpK x y = 1 := by
  induction x generalizing y with
  | nil => cases y <;> simp [cmpK]
  | cons a x ih =>
    cases y with
    | nil => simp [cmpK]
    | cons b y =>
      rw [cmpK]
      split
      · exact .inl rfl
      · split
        · exact .inr (.inr rfl)
        · exact ih y
theorem cmpK_swap (x y : List Int) : cmpK y x = - cmpK x y := by
  induction x generalizing y with
  | nil => cases y <;> simp [cmpK]
  | cons a x ih =>
    cases y with
    | nil => simp [cmpK]
    | cons b y =>
      simp only [cmpK]
      by_cases h1 : a < b
      · rw [if_pos h1, if_neg (by omega), if_pos h1]; rfl
      · rw [if_neg h1]
        by_cases h2 : b < a
        · simp [h1, h2]
        · simp only [h1, h2, if_false]; exact ih y
theorem cmpK_eq {x y : List Int} (h : cmpK x y = 0) : x = y := by
  induction x generalizing y with
  | nil => cases y with | nil => rfl | cons b y => simp [cmpK] at h
  | cons a x ih =>
    cases y with
    | nil => simp [cmpK] at h
    | cons b y =>
      rw [cmpK] at h
      by_cases h1 : a < b
      · rw [if_pos h1] at h; cases h
      · rw [if_neg h1] at h
        by_cases h2 : b < a
        · rw [if_pos h2] at h; cases h
        · rw [if_neg h2] at h
          have : a = b := by omega
          subst this
          rw [ih h]
theorem cmpK_self (x : List Int) : cmpK x x = 0 := by
  have := cmpK_swap x x
  omega
theorem cmpK_trans {x y z : List Int} (h1 : cmpK x y = -1) (h2 : cmpK y z = -1) : cmpK x z = -1 := by
  induction x generalizing y z with
  | nil =>
    cases z with
    | nil => cases y with | nil => exact h1 | cons b y => simp [cmpK] at h2
    | cons c z => rfl
  | cons a x ih =>
    cases y with
    | nil => simp [cmpK] at h1
    | cons b y =>
      cases z with
      | nil => simp [cmpK] at h2
      | cons c z =>
        simp only [cmpK] at *
        by_cases a1 : a < b
        · by_cases b1 : b < c
          · rw [if_pos (by omega)]
          · rw [if_neg b1] at h2
            by_cases b2 : c < b
            · rw [if_pos b2] at h2; cases h2
            · rw [if_pos (by omega)]
        · rw [if_neg a1] at h1
          by_cases a2 : b < a
          · rw [if_pos a2] at h1; cases h1
          · rw [if_neg a2] at h1
            have : a = b := by omega
            subst this
            by_cases b1 : a < c
            · rw [if_pos b1]
            · rw [if_neg b1] at h2 ⊢
              by_cases b2 : c < a
              · rw [if_pos b2] at h2; cases h2
              · rw [if_neg b2] at h2 ⊢
                exact ih h1 h2

theorem cmpK_drop {x y : List Int} {k : Nat} {a b : Int} (hx : x[k]? = some a) (hy : y[k]? = some b) :
    cmpK (x.drop k) (y.drop k) = if a < b then -1 else if b < a then 1 else cmpK (x.drop (k + 1)) (y.drop (k + 1)) := by
  obtain ⟨h1, rfl⟩ := List.getElem?_eq_some_iff.1 hx
  obtain ⟨h2, rfl⟩ := List.getElem?_eq_some_iff.1 hy
  rw [List.drop_eq_getElem_cons h1, List.drop_eq_getElem_cons h2, cmpK]
theorem cmpK_short {x y : List Int} {k : Nat} (hx : k < x.length) (hy : y.length ≤ k) : cmpK (x.drop k) (y.drop k) = 1 := by
  rw [List.drop_eq_getElem_cons hx, List.drop_of_length_le hy, cmpK]
theorem cmpK_end {x y : List Int} {k : Nat} (hx : x.length ≤ k) (hy : k < y.length) : cmpK (x.drop k) (y.drop k) = -1 := by
  rw [List.drop_eq_getElem_cons hy, List.drop_of_length_le hx, cmpK]
theorem cmpK_both {x y : List Int} {k : Nat} (hx : x.length ≤ k) (hy : y.length ≤ k) : cmpK (x.drop k) (y.drop k) = 0 := by
  rw [List.drop_of_length_le hx, List.drop_of_length_le hy, cmpK]

def cmpI (a b : Int) : Int := if a < b then -1 else if b < a then 1 else 0

set_option maxRecDepth 100000 in
set_option maxHeartbeats 1000000 in
theorem cmpI_any (a b : Int) (w : World) : Calls Try.prog 83 #[.int .i64 a, .int .i64 b] w fun e w' => e = .returned (.int .i64 (cmpI a b)) ∧ w = w' := by
  have q : ∀ x : Int, (x != x) = false := by simp
  by_cases h1 : a < b
  · have HR : Hid (cmpI a b = -1) := if_pos h1
    go_enter Try.func83, Try.ntmps83
    go_wp2
    go_ret
    rw [HR.out]
    exact ⟨rfl, rfl⟩
  · by_cases h2 : b < a
    · have HR : Hid (cmpI a b = 1) := (if_neg h1).trans (if_pos h2)
      go_enter Try.func83, Try.ntmps83
      go_wp2
      go_ret
      rw [HR.out]
      exact ⟨rfl, rfl⟩
    · have HR : Hid (cmpI a b = 0) := (if_neg h1).trans (if_neg h2)
      go_enter Try.func83, Try.ntmps83
      go_wp2
      go_ret
      rw [HR.out]
      exact ⟨rfl, rfl⟩

set_option maxRecDepth 100000 in
set_option maxHeartbeats 1000000 in
theorem compare_any (x y : Row Int) (w : World) (hx : x.ok w) (hy : y.ok w) :
    Calls Try.prog 62 #[x.v, y.v] w fun e w' => e = .returned (.int .i64 (cmpK x.l y.l)) ∧ w = w' := by
  have hxn := hx.size
  have hyn := hy.size
  have Hxl := Lib.hid hx.len
  have Hyl := Lib.hid hy.len
  have Hx := Lib.hid hx
  have Hy := Lib.hid hy
  clear hx hy
  obtain ⟨xA, xn, xc, xl⟩ := x
  obtain ⟨yA, yn, yc, yl⟩ := y
  simp only [Row.v] at *
  go_enter Try.func62, Try.ntmps62
  go_wp2
  go_loopg [11] xn (fun g i wr => ∃ k : Nat, g = xn - k ∧ k ≤ xn ∧ k ≤ yn ∧ i = .int .i64 k ∧ wr = w ∧ Hid (cmpK xl yl = cmpK (xl.drop k) (yl.drop k)))
  case atStart => exact ⟨0, rfl, by omega, by omega, rfl, rfl, rfl⟩
  case round =>
    obtain ⟨k, hgk, hk, hky, rfl, rfl, hF⟩ := hrel
    have Hgk := Lib.hid hgk
    clear hgk
    by_cases hlt : k < xn
    · obtain ⟨xb, xo, a, rfl, ha, hai, hca⟩ := Hx.out.int hlt
      have Ha := Lib.hid ha
      clear ha
      by_cases hlty : k < yn
      · obtain ⟨yb, yo, b, rfl, hb, hbi, hcb⟩ := Hy.out.int hlty
        have Hb := Lib.hid hb
        clear hb
        have HD := Lib.hid (cmpK_drop Ha.out Hb.out)
        by_cases h1 : a < b
        · have HR : Hid (cmpK xl yl = -1) := by show _ = _; rw [hF.out, HD.out, if_pos h1]
          have HI : Hid (cmpI a b = -1) := if_pos h1
          clear hF HD
          go_wp2_with fail
          refine (cmpI_any _ _ _).mono ?_; rintro e w1 ⟨rfl, rfl⟩
          rw [HI.out]
          go_wp2
          go_ret
          rw [HR.out]
          exact ⟨rfl, rfl⟩
        · by_cases h2 : b < a
          · have HR : Hid (cmpK xl yl = 1) := by show _ = _; rw [hF.out, HD.out, if_neg h1, if_pos h2]
            have HI : Hid (cmpI a b = 1) := (if_neg h1).trans (if_pos h2)
            clear hF HD
            go_wp2_with fail
            refine (cmpI_any _ _ _).mono ?_; rintro e w1 ⟨rfl, rfl⟩
            rw [HI.out]
            go_wp2
            go_ret
            rw [HR.out]
            exact ⟨rfl, rfl⟩
          · have HR : Hid (cmpK xl yl = cmpK (xl.drop (k + 1)) (yl.drop (k + 1))) := by show _ = _; rw [hF.out, HD.out, if_neg h1, if_neg h2]
            have HI : Hid (cmpI a b = 0) := (if_neg h1).trans (if_neg h2)
            clear hF HD
            go_wp2_with fail
            refine (cmpI_any _ _ _).mono ?_; rintro e w1 ⟨rfl, rfl⟩
            rw [HI.out]
            go_wp2
            go_roundg (xn - (k + 1))
            case rel => exact ⟨k + 1, rfl, by omega, by omega, by go_num, rfl, HR⟩
            case measure => rw [Hgk.out]; omega
      · have HR : Hid (cmpK xl yl = 1) := by show _ = _; rw [hF.out, cmpK_short (by have := Hxl.out; omega) (by have := Hyl.out; omega)]
        clear hF
        go_wp2
        go_ret
        rw [HR.out]
        exact ⟨rfl, rfl⟩
    · by_cases hlty : k < yn
      · have HR : Hid (cmpK xl yl = -1) := by show _ = _; rw [hF.out, cmpK_end (by have := Hxl.out; omega) (by have := Hyl.out; omega)]
        clear hF
        go_wp2
        go_ret
        rw [HR.out]
        exact ⟨rfl, rfl⟩
      · have HR : Hid (cmpK xl yl = 0) := by show _ = _; rw [hF.out, cmpK_both (by have := Hxl.out; omega) (by have := Hyl.out; omega)]
        clear hF
        go_wp2
        go_ret
        rw [HR.out]
        exact ⟨rfl, rfl⟩

end Go.Proofs.Ytelnhhbefdfeoaa

namespace Go.Proofs.Ytelnhhbefdfeoaa
open Go.RowKit
set_option linter.unusedVariables false

@[local go_sem] theorem fct_get0 (f : Fct) : f.cs[0]? = some f.ks.v := rfl

set_option maxRecDepth 100000 in
set_option maxHeartbeats 1000000 in
theorem fcompare_any (f g : Fct) (w : World) (hf : f.ok w) (hg : g.ok w) :
    Calls Try.prog 40 #[.agg f.cs, .agg g.cs] w fun e w' => e = .returned (.int .i64 (cmpK f.ks.l g.ks.l)) ∧ Bel w w' := by
  have Hf := Lib.hid hf
  have Hg := Lib.hid hg
  clear hf hg
  go_enter Try.func40, Try.ntmps40
  go_wp2_with fail
  have hB : Bel w ((w.alloc (.cells f.cs 84)).alloc (.cells g.cs 84)) := ((Bel.refl w).alloc _).alloc _
  refine (compare_any _ _ _ (Hf.out.ks.mono hB) (Hg.out.ks.mono hB)).mono ?_; rintro e w1 ⟨rfl, rfl⟩
  go_wp2
  go_ret
  exact ⟨rfl, hB⟩

theorem less_of {x y : List Int} {r : Int} (h : cmpK x y = r) : lessK x y = (r == -1) := by unfold lessK; rw [h]

set_option maxRecDepth 100000 in
set_option maxHeartbeats 1000000 in
theorem less_any (f g : Fct) (w : World) (hf : f.ok w) (hg : g.ok w) :
    Calls Try.prog 36 #[.agg f.cs, .agg g.cs] w fun e w' => e = .returned (.bool (lessK f.ks.l g.ks.l)) ∧ Bel w w' := by
  have hxn := hf.ks.size
  have hyn := hg.ks.size
  have Hxl := Lib.hid hf.ks.len
  have Hyl := Lib.hid hg.ks.len
  have Hx := Lib.hid hf.ks
  have Hy := Lib.hid hg.ks
  clear hf hg
  have b1 : Blk ((w.alloc (.cells f.cs 84)).alloc (.cells g.cs 84)) w.heap.size 84 f.cs := (Blk.new w _ _).alloc _
  have b2 : Blk ((w.alloc (.cells f.cs 84)).alloc (.cells g.cs 84)) (w.heap.size + 1) 84 g.cs := by
    have := Blk.new (w.alloc (.cells f.cs 84)) 84 g.cs
    rw [World.size_alloc] at this
    exact this
  have hB0 : Bel w ((w.alloc (.cells f.cs 84)).alloc (.cells g.cs 84)) := ((Bel.refl w).alloc _).alloc _
  have C1 := b1.cell 0
  have C2 := b2.cell 0
  clear b1 b2
  obtain ⟨⟨xA, xn, xc, xl⟩, fa⟩ := f
  obtain ⟨⟨yA, yn, yc, yl⟩, ga⟩ := g
  simp only [fct_get0, Row.v] at *
  go_enter Try.func36, Try.ntmps36
  go_wp2
  generalize ((w.alloc (.cells (Fct.mk ⟨xA, xn, xc, xl⟩ fa).cs 84)).alloc (.cells (Fct.mk ⟨yA, yn, yc, yl⟩ ga).cs 84)) = W at *
  go_loopg [5] xn (fun g i wr => ∃ k m : Nat, g = xn - k ∧ k ≤ xn ∧ k ≤ yn ∧ i = .int .i64 k ∧ wr = W.drewN m ∧ Hid (cmpK xl yl = cmpK (xl.drop k) (yl.drop k)))
  case atStart => exact ⟨0, 0, rfl, by omega, by omega, rfl, rfl, rfl⟩
  case round =>
    obtain ⟨k, m, hgk, hk, hky, rfl, rfl, hF⟩ := hrel
    have Hgk := Lib.hid hgk
    clear hgk
    by_cases hlt : k < xn
    · obtain ⟨xb, xo, a, rfl, ha, hai, hca⟩ := (Hx.out.mono hB0).int hlt
      have Ha := Lib.hid ha
      clear ha
      have dx : decide ((k : Int) < (xn : Int)) = true := by simp; omega
      have dx' : decide (k < xn) = true := by simp; omega
      by_cases hlty : k < yn
      · obtain ⟨yb, yo, b, rfl, hb, hbi, hcb⟩ := (Hy.out.mono hB0).int hlty
        have Hb := Lib.hid hb
        clear hb
        have dy : decide ((k : Int) < (yn : Int)) = true := by simp; omega
        have dy' : decide (k < yn) = true := by simp; omega
        have HD := Lib.hid (cmpK_drop Ha.out Hb.out)
        by_cases h1 : a < b
        · have HR : Hid (lessK xl yl = true) := by show _ = _; rw [less_of (hF.out.trans (HD.out.trans (if_pos h1)))]; rfl
          have q : (a != b) = true := by rw [bne_iff_ne]; omega
          have q2 : decide (a < b) = true := by simp; omega
          clear hF HD
          go_wp2_with fail
          go_quiet (fail)
          go_wp2_with fail
          go_quiet (fail)
          go_wp2
          go_ret
          rw [HR.out]
          exact ⟨rfl, ((hB0.drewN _).drewN _).drewN _⟩
        · by_cases h2 : b < a
          · have HR : Hid (lessK xl yl = false) := by show _ = _; rw [less_of (hF.out.trans (HD.out.trans ((if_neg h1).trans (if_pos h2))))]; rfl
            have q : (a != b) = true := by rw [bne_iff_ne]; omega
            have q2 : decide (a < b) = false := by simp; omega
            clear hF HD
            go_wp2_with fail
            go_quiet (fail)
            go_wp2_with fail
            go_quiet (fail)
            go_wp2
            go_ret
            rw [HR.out]
            exact ⟨rfl, ((hB0.drewN _).drewN _).drewN _⟩
          · have HR : Hid (cmpK xl yl = cmpK (xl.drop (k + 1)) (yl.drop (k + 1))) := by show _ = _; rw [hF.out, HD.out, if_neg h1, if_neg h2]
            have q : (a != b) = false := by rw [bne_eq_false_iff_eq]; omega
            clear hF HD
            go_wp2_with fail
            go_quiet (fail)
            go_wp2
            go_roundg (xn - (k + 1))
            case rel => exact ⟨k + 1, _, rfl, by omega, by omega, by go_num, rfl, HR⟩
            case measure => rw [Hgk.out]; omega
      · have HR : Hid (lessK xl yl = false) := by show _ = _; rw [less_of (hF.out.trans (cmpK_short (by have := Hxl.out; omega) (by have := Hyl.out; omega)))]; rfl
        have dy : decide ((k : Int) < (yn : Int)) = false := by simp; omega
        have dy' : decide (k < yn) = false := by simp; omega
        have dz : decide (xn < yn) = false := by simp; omega
        clear hF
        go_wp2
        go_ret
        rw [HR.out]
        exact ⟨rfl, hB0.drewN _⟩
    · have dx : decide ((k : Int) < (xn : Int)) = false := by simp; omega
      have dx' : decide (k < xn) = false := by simp; omega
      by_cases hlty : k < yn
      · have HR : Hid (lessK xl yl = true) := by show _ = _; rw [less_of (hF.out.trans (cmpK_end (by have := Hxl.out; omega) (by have := Hyl.out; omega)))]; rfl
        have dz : decide (xn < yn) = true := by simp; omega
        clear hF
        go_wp2
        go_ret
        rw [HR.out]
        exact ⟨rfl, hB0.drewN _⟩
      · have HR : Hid (lessK xl yl = false) := by show _ = _; rw [less_of (hF.out.trans (cmpK_both (by have := Hxl.out; omega) (by have := Hyl.out; omega)))]; rfl
        have dz : decide (xn < yn) = false := by simp; omega
        clear hF
        go_wp2
        go_ret
        rw [HR.out]
        exact ⟨rfl, hB0.drewN _⟩

theorem own_cap {w : World} {base : Nat} {e : TypeId} {size n : Nat} {v : Value} {xs : List Value} (h : w.ownsRow base e size v n xs) : ∀ A c, v = .slice A n c → c ≤ maxLen := by
  intro A c hv
  rcases h.2 with ⟨rfl, _⟩ | ⟨g, cap, cur, rfl, _, _, _, hc, _⟩
  · injection hv with _ _ h3; rw [← h3]; exact Nat.zero_le _
  · injection hv with _ _ h3; rw [← h3]; exact hc

/-- A row of numbers in new memory. -/
structure NewInts (w w' : World) (zs : List Int) (x : Row Int) : Prop where
  l : x.l = zs
  ok : x.ok w'
  new : 0 < x.n → ∀ ad, x.A = some ad → w.heap.size ≤ ad.block
def NewIntsV (w w' : World) (zs : List Int) (e : Ending) : Prop := ∃ x : Row Int, e = .returned x.v ∧ NewInts w w' zs x

set_option maxRecDepth 100000 in
set_option maxHeartbeats 1000000 in
theorem cloneInts_any (x : Row Int) (w : World) (hx : x.ok w) :
    Calls Try.prog 65 #[x.v] w fun e w' => NewIntsV w w' x.l e ∧ Bel w w' := by
  obtain ⟨A, n, c, l⟩ := x
  have Hx := Lib.hid hx
  have hr : Rd w 1 A n (l.map (Value.int .i64)) := hx.ints
  have hlen : Hid (l.length = n) := hx.len
  have hc : Hid (n ≤ c ∧ c ≤ maxLen) := ⟨hx.le, hx.cap⟩
  have hn : n * 8 ≤ 140737488351232 := hx.reach
  clear hx
  simp only [Row.v] at *
  cases A with
  | none =>
    obtain rfl : n = 0 := by
      rcases Nat.eq_zero_or_pos n with h | h
      · exact h
      · obtain ⟨ad, e, _⟩ := hr.2 h; cases e
    have hl : l = [] := List.eq_nil_of_length_eq_zero hlen.out
    subst hl
    have he := fun (c : Nat) (w : World) => Lib.run_eql_slice_nil (P := Try.prog) w 60 3 none 0 c 0 0 Try.underlying60
    go_enter Try.func65, Try.ntmps65
    go_wp2
    go_ret
    exact ⟨⟨⟨none, 0, 0, []⟩, rfl, ⟨rfl, ⟨Rd.nil, by simp, Nat.le_refl _, Nat.zero_le _, Nat.zero_le _⟩, fun h => absurd h (by simp)⟩⟩, Bel.refl _⟩
  | some ad =>
    have he := fun (n c : Nat) (w : World) => Lib.run_eql_slice_nil (P := Try.prog) w 60 3 (some ad) n c 0 0 Try.underlying60
    have hbs : ∀ w : World, (Instr.buildSlice 60 0 #[]).run Try.prog w = .ok (.slice (some ⟨w.heap.size, 0, none⟩) 0 0) (w.alloc (.cells #[] 3)) := fun _ => by kernel_rfl
    have hown : (w.alloc (.cells #[] 3)).ownsRow w.heap.size 3 1 (.slice (some ⟨w.heap.size, 0, none⟩) 0 0) 0 [] := ⟨rfl, .inr ⟨w.heap.size, 0, #[], rfl, Nat.le_refl _, heap_alloc_new w _, Nat.le_refl _, Nat.zero_le _, rfl, rfl⟩⟩
    go_enter Try.func65, Try.ntmps65
    go_wp2_with ((with_reducible show wpList _ _ _ (⟨some 7, _, _, _, _, _⟩ :: _) _ _); refine wpList_append1 rfl (.tmp 5) (.tmp 6) _ rfl E_int w ((Bel.refl w).alloc _) _ 0 [] rfl hown (some ad) n c (l.map (Value.int .i64)) rfl (hr.bel ((Bel.refl w).alloc _)) (by simp [Value.oneCell']) (by unfold maxLen; omega) (by omega) ?_; intro v2 w2 hown2 hB2 hg2 hat2)
    go_ret
    simp only [Nat.zero_add, List.nil_append] at hown2
    refine ⟨?_, hB2⟩
    have hcap := own_cap hown2
    obtain ⟨A2, c2, rfl, hc2⟩ := own_slice hown2
    refine ⟨⟨A2, n, c2, l⟩, rfl, ⟨rfl, ⟨?_, Hx.out.all, hc2, hcap _ _ rfl, Hx.out.reach⟩, fun _ a ha => ?_⟩⟩
    · rw [flat_ints]; exact Rd.of_own hown2
    · subst ha
      exact own_ge hown2 rfl

end Go.Proofs.Ytelnhhbefdfeoaa

namespace Go.Proofs.Ytelnhhbefdfeoaa
open Go.RowKit
set_option linter.unusedVariables false
attribute [local go_sem] fct_get0

set_option maxRecDepth 100000 in
theorem build_fct (k : Row Int) (a : Ag) (w : World) : (Instr.build 84 #[(0, k.v), (1, .agg a.cs)]).run Try.prog w = .ok (.agg (Fct.mk k a).cs) w := by kernel_rfl
set_option maxRecDepth 100000 in
theorem build_fct0 (k : Row Int) (w : World) : (Instr.build 84 #[(0, k.v)]).run Try.prog w = .ok (.agg (Fct.mk k .zero).cs) w := by kernel_rfl
def Row.nil {α : Type} : Row α := ⟨none, 0, 0, []⟩
set_option maxRecDepth 100000 in
theorem build_fctN (w : World) : (Instr.build 84 #[]).run Try.prog w = .ok (.agg (Fct.mk .nil .zero).cs) w := by kernel_rfl
theorem bslice_fct (f : Fct) (w : World) : (Instr.buildSlice 30 1 #[(0, .agg f.cs)]).run Try.prog w = .ok (.slice (some ⟨w.heap.size, 0, none⟩) 1 1) (w.alloc (.cells f.cs 84)) := run_buildSlice1 E_fct (.agg f.cs) rfl (by omega) w

/-- A fact's tuple lies apart from a row. -/
def Away (v : Value) (f : Fct) : Prop := 0 < f.ks.n → ∀ ad, f.ks.A = some ad → v.ownBlock ≠ some ad.block
/-- Facts gathered in memory of the call's own. -/
structure Gath (w0 w : World) (v : Value) (fs : List Fct) : Prop where
  bel : Bel w0 w
  own : w.ownsRow w0.heap.size 84 11 v fs.length (fs.flatMap Cel.cells)
  ok : ∀ f ∈ fs, f.ok w
  away : ∀ f ∈ fs, Away v f
  new : ∀ f ∈ fs, 0 < f.ks.n → ∀ ad, f.ks.A = some ad → w0.heap.size ≤ ad.block
def cons (l : List Fct) : List (List Int × Ag) := l.map Fct.con
theorem Gath.keep {w0 w w' : World} {v : Value} {fs : List Fct} (h : Gath w0 w v fs) (hb : Bel w w') : Gath w0 w' v fs :=
  ⟨h.bel.trans hb, own_bel h.own hb, fun f hf => ⟨(h.ok f hf).ks.mono hb, (h.ok f hf).ag⟩, h.away, h.new⟩
theorem Row.ok.grown {w w' : World} {x : Row Int} {row : Option Nat} (h : x.ok w) (hg : w.grownBy w' row) (ha : 0 < x.n → ∀ ad, x.A = some ad → row ≠ some ad.block) : x.ok w' := by
  refine ⟨⟨h.rd.1, fun hn => ?_⟩, h.all, h.le, h.cap, h.reach⟩
  obtain ⟨ad, e, hb, hc⟩ := h.rd.2 hn
  refine ⟨ad, e, Nat.lt_of_lt_of_le hb hg.size, fun j u hu => ?_⟩
  rw [← hc j u hu]
  refine World.cell?_of_block ?_
  rw [block_of_add]
  exact hg.block _ hb (fun e' => ha hn ad e e'.symm)
theorem Gath.app {w0 w w' : World} {v v' : Value} {fs : List Fct} {f : Fct} (h : Gath w0 w v fs) (hf : f.ok w) (hA : Away v f) (hB : Bel w0 w') (hfn : 0 < f.ks.n → ∀ ad, f.ks.A = some ad → w0.heap.size ≤ ad.block) (ho : w'.ownsRow w0.heap.size 84 11 v' (fs.length + 1) (fs.flatMap Cel.cells ++ f.cs.toList)) (hg : w.grownBy w' v.ownBlock)
    (hv : v'.ownBlock = v.ownBlock ∨ v'.ownBlock = some w.heap.size) : Gath w0 w' v' (fs ++ [f]) := by
  have hall : ∀ g ∈ fs ++ [f], g.ok w ∧ Away v g ∧ (0 < g.ks.n → ∀ ad, g.ks.A = some ad → w0.heap.size ≤ ad.block) := fun g hg' => by
    rcases List.mem_append.1 hg' with h1 | h1
    · exact ⟨h.ok g h1, h.away g h1, h.new g h1⟩
    · rw [List.mem_singleton] at h1; subst h1; exact ⟨hf, hA, hfn⟩
  refine ⟨hB, by simpa [Cel.cells] using ho, fun g hg' => ?_, fun g hg' hn ad e => ?_, fun g hg' => (hall g hg').2.2⟩
  · obtain ⟨h1, h2, _⟩ := hall g hg'
    exact ⟨h1.ks.grown hg h2, h1.ag⟩
  · obtain ⟨h1, h2, _⟩ := hall g hg'
    rcases hv with hv | hv
    · rw [hv]; exact h2 hn ad e
    · rw [hv]
      obtain ⟨ad', e', hb, _⟩ := h1.ks.rd.2 hn
      rw [e] at e'
      injection e' with e'
      subst e'
      intro h3
      injection h3 with h3
      omega

set_option maxRecDepth 100000 in
set_option maxHeartbeats 1000000 in
theorem clone_any (x : Row Fct) (w : World) (hx : x.ok w) (hn : x.n ≤ 1000000) :
    Calls Try.prog 42 #[x.v] w fun e w' => ∃ v fs, e = .returned v ∧ Gath w w' v fs ∧ cons fs = cons x.l := by
  obtain ⟨A, n, c, l⟩ := x
  have Hx := Lib.hid hx
  have hlen : Hid (l.length = n) := hx.len
  clear hx
  simp only [Row.v] at *
  have u35 := Try.underlying82
  have i35 : ∀ a : Ag, (Try.prog.info? 82).map (·.size) = some a.cs.toList.length := fun a => by kernel_rfl
  go_enter Try.func42, Try.ntmps42
  go_wp2
  go_loopg [3, 8] n (fun g s i wr => ∃ (k : Nat) (fs : List Fct), g = n - k ∧ k ≤ n ∧ i = .int .i64 k ∧ Gath w wr s fs ∧ fs.length = k ∧ Hid (cons fs = cons (l.take k)))
  case atStart => exact ⟨0, [], rfl, by omega, rfl, ⟨Bel.refl _, ⟨rfl, .inl ⟨rfl, rfl⟩⟩, by simp, by simp, by simp⟩, rfl, rfl⟩
  case round =>
    obtain ⟨k, fs, hgk, hk, rfl, hG, hfl, hF⟩ := hrel
    have Hgk := Lib.hid hgk
    have Hfl := Lib.hid hfl
    clear hgk hfl
    by_cases hlt : k < n
    · obtain ⟨b, o, f, rfl, hb, hf, hrg⟩ := rd_range (Hx.out.rd.bel hG.bel) hlt
      have Hf := Lib.hid hf
      have hfo : f.ok wr := Cel.mono hG.bel (Hx.out.all f (List.mem_of_getElem? hf))
      have Hfo := Lib.hid hfo
      clear hf hfo
      go_wp2_with (first
        | ((with_reducible show wpList _ _ _ (⟨some 11, _, _, _, _, _⟩ :: _) _ _); refine wpList_load_row_at rfl rowFct (.tmp 10) rfl b (o + k * 11) rfl f.cs rfl hrg ?_)
        | ((with_reducible show wpList _ _ _ (⟨_, .store _ (.tmp 5) _, _, _, _, _⟩ :: _) _ _); refine wpList_store_new rfl rowFct (.tmp 5) (.tmp 11) rfl rfl rfl f.cs rfl rfl (fct_one _) ?_))
      have bk := Blk.new wr 84 f.cs
      have hne : u3.ownBlock ≠ some wr.heap.size := fun e => absurd (own_lt hG.own e) (Nat.lt_irrefl _)
      have hG1 := hG.keep ((Bel.refl wr).alloc (.cells f.cs 84))
      have Hfo1 : Hid (f.ok (wr.alloc (.cells f.cs 84))) := ⟨Hfo.out.ks.mono ((Bel.refl wr).alloc _), Hfo.out.ag⟩
      clear hG Hfo
      generalize wr.alloc (.cells f.cs 84) = W at *
      generalize wr.heap.size = g at *
      have hS : ∀ w', Bel W w' → w'.cell? ⟨g, 0, none⟩ = some f.ks.v ∧ w'.cell? ⟨g, 1, none⟩ = some (.int .i64 f.ag.c) ∧ w'.cell? ⟨g, 2, none⟩ = some (.int .i64 f.ag.p.s) ∧ w'.cell? ⟨g, 3, none⟩ = some (.int .i64 f.ag.p.mn) ∧ w'.cell? ⟨g, 4, none⟩ = some (.int .i64 f.ag.p.mx) ∧ w'.cell? ⟨g, 5, none⟩ = some (.int .i64 f.ag.q.s) ∧ w'.cell? ⟨g, 6, none⟩ = some (.int .i64 f.ag.q.mn) ∧ w'.cell? ⟨g, 7, none⟩ = some (.int .i64 f.ag.q.mx) ∧ w'.cell? ⟨g, 8, none⟩ = some (.int .i64 f.ag.r.s) ∧ w'.cell? ⟨g, 9, none⟩ = some (.int .i64 f.ag.r.mn) ∧ w'.cell? ⟨g, 10, none⟩ = some (.int .i64 f.ag.r.mx) := fun w' hb' => by
        have q := bk.bel hb'
        exact ⟨q.cell 0, q.cell 1, q.cell 2, q.cell 3, q.cell 4, q.cell 5, q.cell 6, q.cell 7, q.cell 8, q.cell 9, q.cell 10⟩
      have hT : ∀ w1 w', Bel W w1 → w1.grownBy w' u3.ownBlock → w'.cell? ⟨g, 0, none⟩ = some f.ks.v ∧ w'.cell? ⟨g, 1, none⟩ = some (.int .i64 f.ag.c) ∧ w'.cell? ⟨g, 2, none⟩ = some (.int .i64 f.ag.p.s) ∧ w'.cell? ⟨g, 3, none⟩ = some (.int .i64 f.ag.p.mn) ∧ w'.cell? ⟨g, 4, none⟩ = some (.int .i64 f.ag.p.mx) ∧ w'.cell? ⟨g, 5, none⟩ = some (.int .i64 f.ag.q.s) ∧ w'.cell? ⟨g, 6, none⟩ = some (.int .i64 f.ag.q.mn) ∧ w'.cell? ⟨g, 7, none⟩ = some (.int .i64 f.ag.q.mx) ∧ w'.cell? ⟨g, 8, none⟩ = some (.int .i64 f.ag.r.s) ∧ w'.cell? ⟨g, 9, none⟩ = some (.int .i64 f.ag.r.mn) ∧ w'.cell? ⟨g, 10, none⟩ = some (.int .i64 f.ag.r.mx) := fun w1 w' hb' hg' => by
        have q := (bk.bel hb').grown hg' (fun e => hne e.symm)
        exact ⟨q.cell 0, q.cell 1, q.cell 2, q.cell 3, q.cell 4, q.cell 5, q.cell 6, q.cell 7, q.cell 8, q.cell 9, q.cell 10⟩
      have HS := Lib.hid hS
      have HT := Lib.hid hT
      clear hS hT hrg bk i35
      have hB1 := hG1.bel
      have hfs : fs.length ≤ 1000000 := by rw [Hfl.out]; omega
      go_region_held3 (fun w' => w'.cell? ⟨g, 0, none⟩ = some f.ks.v ∧ w'.cell? ⟨g, 1, none⟩ = some (.int .i64 f.ag.c) ∧ w'.cell? ⟨g, 2, none⟩ = some (.int .i64 f.ag.p.s) ∧ w'.cell? ⟨g, 3, none⟩ = some (.int .i64 f.ag.p.mn) ∧ w'.cell? ⟨g, 4, none⟩ = some (.int .i64 f.ag.p.mx) ∧ w'.cell? ⟨g, 5, none⟩ = some (.int .i64 f.ag.q.s) ∧ w'.cell? ⟨g, 6, none⟩ = some (.int .i64 f.ag.q.mn) ∧ w'.cell? ⟨g, 7, none⟩ = some (.int .i64 f.ag.q.mx) ∧ w'.cell? ⟨g, 8, none⟩ = some (.int .i64 f.ag.r.s) ∧ w'.cell? ⟨g, 9, none⟩ = some (.int .i64 f.ag.r.mn) ∧ w'.cell? ⟨g, 10, none⟩ = some (.int .i64 f.ag.r.mx)) (first | exact HS.out _ (Bel.refl W).drew | exact HS.out _ ((Bel.refl W).drew.trans hb2) | exact HS.out _ (((Bel.refl W).drew.trans hb2).alloc _) | exact HT.out _ _ (((Bel.refl W).drew.trans hb2).alloc _) hg3 | go_keep) (first | (go_at_call 65; refine (cloneInts_any f.ks _ (Hfo1.out.ks.mono (Bel.refl W).drew)).mono ?_; rintro e w2 ⟨⟨⟨xA, xn, xc, xl⟩, rfl, hx2⟩, hb2⟩; simp only [Row.v]) | (refine step_append1 (by rfl) (.tmp 12) (.tmp 19) _ (by rfl) E_fct w ((hB1.trans ((Bel.refl W).drew.trans hb2)).alloc _) u3 fs.length (fs.flatMap Cel.cells) (by rfl) ((own_bel hG1.own ((Bel.refl W).drew.trans hb2)).alloc _) _ 1 1 (Fct.mk ⟨xA, xn, xc, xl⟩ f.ag).cs.toList (by rfl) (rd_new _ _ _ 1 11 rfl) (fun u hu => (Array.all_eq_true_iff_forall_mem.1 (fct_one (Fct.mk ⟨xA, xn, xc, xl⟩ f.ag))) u (by simpa using hu)) (by unfold maxLen; omega) (by omega) ?_; intro v3 w3 hown3 hB3 hg3 hat3))
      obtain ⟨hxl, hxo, hxn⟩ := hx2
      have hBW : Bel W w2 := (Bel.refl W).drew.trans hb2
      have hAw : Away u3 (Fct.mk ⟨xA, xn, xc, xl⟩ f.ag) := fun h0 ad e e2 => by
        have h1 := hxn h0 ad e
        have h2 := own_lt hG1.own e2
        simp at h1
        omega
      have hG3 := ((hG1.keep hBW).keep ((Bel.refl w2).alloc (.cells (Fct.mk ⟨xA, xn, xc, xl⟩ f.ag).cs 84))).app (f := ⟨⟨xA, xn, xc, xl⟩, f.ag⟩) ⟨hxo.mono ((Bel.refl w2).alloc _), Hfo1.out.ag⟩ hAw hB3 (fun h0 ad e => by have h1 := hxn h0 ad e; have h2 := hG1.bel.size; simp at h1; omega) hown3 hg3 hat3
      have HR : Hid (cons (fs ++ [⟨⟨xA, xn, xc, xl⟩, f.ag⟩]) = cons (l.take (k + 1))) := by
        show _ = _
        rw [List.take_add_one, Hf.out]
        have := hF.out
        simp only at hxl
        subst hxl
        simp only [cons, List.map_append, List.map_cons, List.map_nil, Fct.con, Option.toList] at this ⊢
        rw [this]
      have HG3 := Lib.hid hG3
      clear hG3 hG1 hown3 hg3 hat3 hb2 hB3 hF
      go_wp2
      go_roundg (n - (k + 1))
      case rel => exact ⟨k + 1, _, rfl, by omega, by go_num, HG3.out, by rw [List.length_append, Hfl.out]; rfl, HR⟩
      case measure => rw [Hgk.out]; omega
    · have HR : Hid (cons fs = cons l) := by show _ = _; rw [hF.out, List.take_of_length_le (by have := hlen.out; omega)]
      clear hF
      have HG := Lib.hid hG
      clear hG
      go_wp2
      go_ret
      exact ⟨_, fs, rfl, HG.out, HR.out⟩

end Go.Proofs.Ytelnhhbefdfeoaa

namespace Go.Proofs.Ytelnhhbefdfeoaa
open Go.RowKit
set_option linter.unusedVariables false
attribute [local go_sem] fct_get0

/-- How many places facts have, at most 1000 of each. -/
def keySum (l : List Fct) : Nat := (l.map fun f => min f.ks.l.length 1000).sum
def fewF (m : Nat) (l : List Fct) : Bool := decide (l.length ≤ m) && decide (keySum (l.take (m + 1)) ≤ 2000)
theorem keySum_snoc {l : List Fct} {k : Nat} {f : Fct} (h : l[k]? = some f) : keySum (l.take (k + 1)) = keySum (l.take k) + min f.ks.l.length 1000 := by
  rw [List.take_add_one, h]
  simp [keySum]
theorem fewF_len {m : Nat} {l : List Fct} (h : fewF m l = true) : l.length ≤ m := by
  unfold fewF at h
  simp only [Bool.and_eq_true, decide_eq_true_eq] at h
  exact h.1

/-- A fact in a row: its first cell, and all of them. -/
theorem Row.ok.fct {w : World} {x : Row Fct} (h : x.ok w) {k : Nat} (hk : k < x.n) :
    ∃ b o f, x.A = some ⟨b, o, none⟩ ∧ b < w.heap.size ∧ x.l[k]? = some f ∧ f.ok w ∧ w.cell? ⟨b, o + k * 11, none⟩ = some f.ks.v ∧ w.rangeAt b (o + k * 11) f.cs.toList ∧ w.rangeAt b (o + k * 11 + 1) f.ag.cs.toList := by
  obtain ⟨b, o, f, e, hb, hf, hc⟩ := rd_at h.rd hk
  refine ⟨b, o, f, e, hb, hf, h.all f (List.mem_of_getElem? hf), hc 0 _ rfl, fun j v hv => hc j v hv, fun j v hv => ?_⟩
  rw [Nat.add_assoc, Nat.add_comm 1 j]
  exact hc (j + 1) v hv

set_option maxRecDepth 100000 in
set_option maxHeartbeats 1000000 in
theorem few19_any (x : Row Fct) (m : Int) (w : World) (hx : x.ok w) (m0 : 0 ≤ m) (m1 : m ≤ 1000) :
    Calls Try.prog 18 #[x.v, .int .i64 m] w fun e w' => e = .returned (.bool (fewF m.toNat x.l)) ∧ w = w' := by
  obtain ⟨m, rfl⟩ := Int.eq_ofNat_of_zero_le m0
  rw [Int.toNat_natCast]
  have hm : m ≤ 1000 := by omega
  clear m0 m1
  have hn := hx.size
  have hlen : Hid (x.l.length = x.n) := hx.len
  have Hx := Lib.hid hx
  clear hx
  obtain ⟨A, n, c, l⟩ := x
  simp only [Row.v] at *
  go_enter Try.func18, Try.ntmps18
  go_wp2
  go_loopg [5, 6] n (fun g s i wr => ∃ k z : Nat, g = n - k ∧ k ≤ n ∧ k ≤ m + 1 ∧ i = .int .i64 k ∧ s = .int .i64 z ∧ z ≤ 1000 * k ∧ wr = w ∧ Hid (z = keySum (l.take k)))
  case atStart => exact ⟨0, 0, rfl, by omega, by omega, rfl, rfl, by omega, rfl, rfl⟩
  case round =>
    obtain ⟨k, z, hgk, hk, hkm, rfl, rfl, hz, rfl, hF⟩ := hrel
    have Hgk := Lib.hid hgk
    clear hgk
    by_cases hlt : k < n ∧ k ≤ m
    · obtain ⟨h1, h2⟩ := hlt
      obtain ⟨b, o, f, rfl, hb, hf, hfo, hc0, _, _⟩ := Hx.out.fct h1
      have HR := Lib.hid (keySum_snoc hf)
      have hfn := hfo.ks.size
      have Hfl := Lib.hid hfo.ks.len
      clear hf hfo
      obtain ⟨⟨fA, fn, fc, fl⟩, fa⟩ := f
      simp only [Row.v] at *
      have d1 : decide ((k : Int) < (n : Int)) = true := by simp; omega
      have d1' : decide (k < n) = true := by simp; omega
      have d2 : decide ((k : Int) ≤ (m : Int)) = true := by simp; omega
      have d2' : decide (k ≤ m) = true := by simp; omega
      by_cases h3 : fn ≤ 1000
      · have e3 : min (fn : Int) 1000 = fn := by omega
        have HZ : Hid (z + fn = keySum (l.take (k + 1))) := by show _ = _; rw [HR.out, ← hF.out, Hfl.out, Nat.min_eq_left h3]
        clear HR hF
        go_wp2
        go_roundg (n - (k + 1))
        case rel => exact ⟨k + 1, z + fn, rfl, by omega, by omega, by go_num, by go_num, by omega, rfl, HZ⟩
        case measure => rw [Hgk.out]; omega
      · have e3 : min (fn : Int) 1000 = 1000 := by omega
        have HZ : Hid (z + 1000 = keySum (l.take (k + 1))) := by show _ = _; rw [HR.out, ← hF.out, Hfl.out, Nat.min_eq_right (by omega)]
        clear HR hF
        go_wp2
        go_roundg (n - (k + 1))
        case rel => exact ⟨k + 1, z + 1000, rfl, by omega, by omega, by go_num, by go_num, by omega, rfl, HZ⟩
        case measure => rw [Hgk.out]; omega
    · by_cases h4 : n ≤ m
      · have hkn : k = n := by omega
        subst hkn
        have HR : Hid (fewF m l = decide (z ≤ 2000)) := by
          show _ = _
          unfold fewF
          have h1 : l.length = k := hlen.out
          have h2 := hF.out
          rw [List.take_of_length_le (by omega)] at h2 ⊢
          rw [← h2]
          simp [h1, h4]
        have d1 : decide ((k : Int) < (k : Int)) = false := by simp
        have d3 : decide ((k : Int) ≤ (m : Int)) = true := by simp; omega
        have d3' : decide (k ≤ m) = true := by simp; omega
        clear hF hlt
        by_cases h5 : z ≤ 2000
        · have d4 : decide ((z : Int) ≤ 2000) = true := by simp; omega
          go_wp2
          go_ret
          rw [HR.out]
          simp [h5]
        · have d4 : decide ((z : Int) ≤ 2000) = false := by simp; omega
          go_wp2
          go_ret
          rw [HR.out]
          simp [h5]
      · have HR : Hid (fewF m l = false) := by
          show _ = _
          unfold fewF
          have h1 : l.length = n := hlen.out
          rw [h1]
          simp [h4]
        have d3 : decide ((n : Int) ≤ (m : Int)) = false := by simp; omega
        have d3' : decide (n ≤ m) = false := by simp; omega
        clear hF
        by_cases h5 : k < n
        · have d1 : decide ((k : Int) < (n : Int)) = true := by simp; omega
          have d1' : decide (k < n) = true := by simp; omega
          have d2 : decide ((k : Int) ≤ (m : Int)) = false := by simp; omega
          have d2' : decide (k ≤ m) = false := by simp; omega
          clear hlt
          go_wp2
          go_ret
          rw [HR.out]
          exact ⟨rfl, rfl⟩
        · have d1 : decide ((k : Int) < (n : Int)) = false := by simp; omega
          have d1' : decide (k < n) = false := by simp; omega
          clear hlt
          go_wp2
          go_ret
          rw [HR.out]
          exact ⟨rfl, rfl⟩

/-- Does each stand to the next one so? -/
def chain (r : List Int → List Int → Bool) : List (List Int) → Bool
  | a :: b :: l => r a b && chain r (b :: l)
  | _ => true
def keysOf (l : List Fct) : List (List Int) := l.map fun f => f.ks.l
theorem chain_drop {r : List Int → List Int → Bool} {l : List (List Int)} {k : Nat} {a b : List Int} (ha : l[k]? = some a) (hb : l[k + 1]? = some b) : chain r (l.drop k) = (r a b && chain r (l.drop (k + 1))) := by
  obtain ⟨h1, rfl⟩ := List.getElem?_eq_some_iff.1 ha
  obtain ⟨h2, rfl⟩ := List.getElem?_eq_some_iff.1 hb
  rw [List.drop_eq_getElem_cons h1, List.drop_eq_getElem_cons h2, chain]
theorem chain_end {r : List Int → List Int → Bool} {l : List (List Int)} {k : Nat} (h : l.length ≤ k + 1) : chain r (l.drop k) = true := by
  have : (l.drop k).length ≤ 1 := by rw [List.length_drop]; omega
  match l.drop k, this with
  | [], _ => rfl
  | [a], _ => rfl
theorem keys_get {l : List Fct} {k : Nat} {f : Fct} (h : l[k]? = some f) : (keysOf l)[k]? = some f.ks.l := by unfold keysOf; rw [List.getElem?_map, h]; rfl
theorem keys_len (l : List Fct) : (keysOf l).length = l.length := by unfold keysOf; rw [List.length_map]
def risesF (l : List Fct) : Bool := chain lessK (keysOf l)
def sortedF (l : List Fct) : Bool := chain (fun a b => !lessK b a) (keysOf l)

set_option maxRecDepth 100000 in
set_option maxHeartbeats 1000000 in
theorem sorted_any (x : Row Fct) (w : World) (hx : x.ok w) (hn : x.n ≤ 1000000) :
    Calls Try.prog 21 #[x.v] w fun e w' => e = .returned (.bool (sortedF x.l)) ∧ Bel w w' := by
  have hlen : Hid (x.l.length = x.n) := hx.len
  have Hx := Lib.hid hx
  clear hx
  obtain ⟨A, n, c, l⟩ := x
  simp only [Row.v] at *
  go_enter Try.func21, Try.ntmps21
  go_wp2
  go_loopg [3] n (fun g i wr => ∃ k : Nat, g = n - k ∧ k ≤ n ∧ i = .int .i64 (k + 1 : Nat) ∧ Bel w wr ∧ Hid (sortedF l = chain (fun a b => !lessK b a) ((keysOf l).drop k)))
  case atStart => exact ⟨0, rfl, by omega, rfl, Bel.refl _, rfl⟩
  case round =>
    obtain ⟨k, hgk, hk, rfl, hB, hF⟩ := hrel
    have Hgk := Lib.hid hgk
    clear hgk
    by_cases hlt : k + 1 < n
    · obtain ⟨b, o, f, e1, hb, hf, hfo, _, hrf, _⟩ := (Hx.out.mono hB).fct (k := k) (by simp only; omega)
      obtain ⟨b', o', g, e2, _, hg, hgo, _, hrg, _⟩ := (Hx.out.mono hB).fct (k := k + 1) hlt
      simp only at e1 e2
      rw [e1] at e2
      injection e2 with e2
      injection e2 with e2 e3
      subst e1 e2 e3
      have HD := Lib.hid (chain_drop (r := (fun a b => !lessK b a)) (keys_get hf) (keys_get hg))
      have Hfo := Lib.hid hfo
      have Hgo := Lib.hid hgo
      clear hf hg hfo hgo
      have w1 : IntKind.i64.wrap ((k : Int) + 1 - 1) = (k : Int) := by rw [show (k : Int) + 1 - 1 = k by omega]; exact IntWalk.i64_in _ (by omega)
      go_wp2_with fail
      refine wp_region_over (by kernel_rfl) (by kernel_rfl) ?_
      repeat (first
        | ((with_reducible show wpQuiet _ _ _ _ (⟨some 18, _, _, _, _, _⟩ :: _) _); refine wpQuiet_load_row rfl rowFct (.tmp 17) rfl b (o + k * 11) rfl f.cs rfl hb hrf ?_; simp only [Act.put, List.setIfInBounds_toArray, List.set_cons_zero, List.set_cons_succ])
        | ((with_reducible show wpQuiet _ _ _ _ (⟨some 13, _, _, _, _, _⟩ :: _) _); refine wpQuiet_load_row rfl rowFct (.tmp 12) rfl b (o + (k + 1) * 11) rfl g.cs rfl hb hrg ?_; simp only [Act.put, List.setIfInBounds_toArray, List.set_cons_zero, List.set_cons_succ])
        | go_big_quiet_step ((go_at_call 36; exact calls_over (less_any g f _ ⟨Hgo.out.ks.mono (Over.bel _), Hgo.out.ag⟩ ⟨Hfo.out.ks.mono (Over.bel _), Hfo.out.ag⟩))))
      refine wpQuiet_nil ?_
      rintro _ ⟨u, rfl⟩
      replace hB := hB.trans u.bel
      cases hL : lessK g.ks.l f.ks.l with
      | true =>
        have HR : Hid (sortedF l = false) := by show _ = _; rw [hF.out, HD.out]; simp [hL]
        clear hF HD
        go_wp2
        go_ret
        rw [HR.out]
        exact ⟨rfl, hB⟩
      | false =>
        have HR : Hid (sortedF l = chain (fun a b => !lessK b a) ((keysOf l).drop (k + 1))) := by show _ = _; rw [hF.out, HD.out]; simp [hL]
        clear hF HD
        go_wp2
        go_roundg (n - (k + 1))
        case rel => exact ⟨k + 1, rfl, by omega, by go_num, hB, HR⟩
        case measure => rw [Hgk.out]; omega
    · have HR : Hid (sortedF l = true) := by show _ = _; rw [hF.out, chain_end (by rw [keys_len]; have : l.length = n := hlen.out; omega)]
      clear hF
      go_wp2
      go_ret
      rw [HR.out]
      exact ⟨rfl, hB⟩

end Go.Proofs.Ytelnhhbefdfeoaa

namespace Go.Proofs.Ytelnhhbefdfeoaa
open Go.RowKit
set_option linter.unusedVariables false
attribute [local go_sem] fct_get0

/-- Do two rows say the same? -/
def sameF (a b : List Fct) : Bool := decide (cons a = cons b)
theorem cons_len (l : List Fct) : (cons l).length = l.length := by unfold cons; rw [List.length_map]
theorem cons_get {l : List Fct} {k : Nat} {f : Fct} (h : l[k]? = some f) : (cons l)[k]? = some f.con := by unfold cons; rw [List.getElem?_map, h]; rfl
theorem same_not {a b : List Fct} {k : Nat} {f g : Fct} (hf : a[k]? = some f) (hg : b[k]? = some g) (h : f.con ≠ g.con) : sameF a b = false := by
  unfold sameF
  rw [decide_eq_false_iff_not]
  intro e
  have h1 := cons_get hf
  rw [e, cons_get hg] at h1
  injection h1 with h1
  exact h h1.symm
theorem cons_snoc {l : List Fct} {k : Nat} {f : Fct} (h : l[k]? = some f) : cons (l.take (k + 1)) = cons (l.take k) ++ [f.con] := by
  rw [List.take_add_one, h]
  simp [cons]
theorem con_ne_ag {f g : Fct} (h : ¬ f.ag = g.ag) : f.con ≠ g.con := fun e => h (congrArg Prod.snd e)
theorem con_ne_less {f g : Fct} (h : lessK f.ks.l g.ks.l = true) : f.con ≠ g.con := fun e => by
  have e1 : f.ks.l = g.ks.l := congrArg Prod.fst e
  rw [e1] at h
  unfold lessK at h
  rw [cmpK_self] at h
  cases h
theorem con_eq {f g : Fct} (h : f.ag = g.ag) (h1 : lessK f.ks.l g.ks.l = false) (h2 : lessK g.ks.l f.ks.l = false) : f.con = g.con := by
  have := cmpK_range f.ks.l g.ks.l
  have hs := cmpK_swap f.ks.l g.ks.l
  unfold lessK at h1 h2
  simp at h1 h2
  have h0 : cmpK f.ks.l g.ks.l = 0 := by omega
  unfold Fct.con
  rw [cmpK_eq h0, h]

theorem less_val {f g : Fct} {w : World} {r : Bool} (h : lessK f.ks.l g.ks.l = r) (hf : f.ok w) (hg : g.ok w) :
    Calls Try.prog 36 #[.agg f.cs, .agg g.cs] w fun e w' => e = .returned (.bool r) ∧ Bel w w' := by
  have := less_any f g w hf hg
  rw [h] at this
  exact this
theorem Fct.ok.over {f : Fct} {w : World} (h : f.ok w) (u : Over w) : f.ok u.wd := ⟨h.ks.mono u.bel, h.ag⟩

set_option maxRecDepth 100000 in
set_option maxHeartbeats 4000000 in
theorem same_any (x y : Row Fct) (w : World) (hx : x.ok w) (hy : y.ok w) (hn : x.n ≤ 1000000) (hn2 : y.n ≤ 1000000) :
    Calls Try.prog 17 #[x.v, y.v] w fun e w' => e = .returned (.bool (sameF x.l y.l)) ∧ Bel w w' := by
  have hlx : Hid (x.l.length = x.n) := hx.len
  have hly : Hid (y.l.length = y.n) := hy.len
  have Hx := Lib.hid hx
  have Hy := Lib.hid hy
  clear hx hy
  obtain ⟨xA, n, xc, xl⟩ := x
  obtain ⟨yA, m, yc, yl⟩ := y
  simp only [Row.v] at *
  by_cases hnm : n = m
  · subst hnm
    go_enter Try.func17, Try.ntmps17
    go_wp2
    go_loopg [13] n (fun g i wr => ∃ k : Nat, g = n - k ∧ k ≤ n ∧ i = .int .i64 k ∧ Bel w wr ∧ Hid (cons (xl.take k) = cons (yl.take k)))
    case atStart => exact ⟨0, rfl, by omega, rfl, Bel.refl _, by show _ = _; simp⟩
    case round =>
      obtain ⟨k, hgk, hk, rfl, hB, hF⟩ := hrel
      have Hgk := Lib.hid hgk
      clear hgk
      by_cases hlt : k < n
      · obtain ⟨b, o, f, rfl, hb, hf, hfo, _, hrf, hra⟩ := (Hx.out.mono hB).fct hlt
        obtain ⟨d, p, g, rfl, hd, hg, hgo, _, hrg, hrh⟩ := (Hy.out.mono hB).fct hlt
        have Hfo := Lib.hid hfo
        have Hgo := Lib.hid hgo
        have Hf := Lib.hid hf
        have Hg := Lib.hid hg
        clear hf hg hfo hgo
        by_cases hag : f.ag = g.ag
        · have HN : Hid (∀ w, (binOp .neq 82 (.agg f.ag.cs) (.agg g.ag.cs)).run Try.prog w = .ok (.bool false) w) := fun w => by rw [neqv_ag]; simp [hag]
          have Hag := Lib.hid hag
          clear hag
          cases hL : lessK f.ks.l g.ks.l with
          | true =>
            have HR : Hid (sameF xl yl = false) := same_not Hf.out Hg.out (con_ne_less hL)
            have HL := Lib.hid hL
            clear hL hF
            go_wp2_with fail
            refine wp_region_over (by kernel_rfl) (by kernel_rfl) ?_
            repeat (first
              | ((with_reducible show wpQuiet _ _ _ _ (⟨some 20, _, _, _, _, _⟩ :: _) _); refine wpQuiet_load_row rfl rowAg (.tmp 19) rfl b (o + k * 11 + 1) rfl f.ag.cs rfl hb hra ?_; simp only [Act.put, List.setIfInBounds_toArray, List.set_cons_zero, List.set_cons_succ])
              | ((with_reducible show wpQuiet _ _ _ _ (⟨some 25, _, _, _, _, _⟩ :: _) _); refine wpQuiet_load_row rfl rowAg (.tmp 24) rfl d (p + k * 11 + 1) rfl g.ag.cs rfl hd hrh ?_; simp only [Act.put, List.setIfInBounds_toArray, List.set_cons_zero, List.set_cons_succ])
              | ((with_reducible show wpQuiet _ _ _ _ (⟨some 26, _, _, _, _, _⟩ :: _) _); refine wpQuiet_cmp_row rfl .neq 82 82 (.tmp 20) (.tmp 25) rfl rfl rfl guard_ag HN.out ?_; simp only [Act.put, List.setIfInBounds_toArray, List.set_cons_zero, List.set_cons_succ])
              | ((with_reducible show wpQuiet _ _ _ _ (⟨some 31, _, _, _, _, _⟩ :: _) _); refine wpQuiet_load_row rfl rowFct (.tmp 30) rfl b (o + k * 11) rfl f.cs rfl hb hrf ?_; simp only [Act.put, List.setIfInBounds_toArray, List.set_cons_zero, List.set_cons_succ])
              | ((with_reducible show wpQuiet _ _ _ _ (⟨some 35, _, _, _, _, _⟩ :: _) _); refine wpQuiet_load_row rfl rowFct (.tmp 34) rfl d (p + k * 11) rfl g.cs rfl hd hrg ?_; simp only [Act.put, List.setIfInBounds_toArray, List.set_cons_zero, List.set_cons_succ])
              | ((with_reducible show wpQuiet _ _ _ _ (⟨some 42, _, _, _, _, _⟩ :: _) _); refine wpQuiet_load_row rfl rowFct (.tmp 41) rfl d (p + k * 11) rfl g.cs rfl hd hrg ?_; simp only [Act.put, List.setIfInBounds_toArray, List.set_cons_zero, List.set_cons_succ])
              | ((with_reducible show wpQuiet _ _ _ _ (⟨some 46, _, _, _, _, _⟩ :: _) _); refine wpQuiet_load_row rfl rowFct (.tmp 45) rfl b (o + k * 11) rfl f.cs rfl hb hrf ?_; simp only [Act.put, List.setIfInBounds_toArray, List.set_cons_zero, List.set_cons_succ])
              | go_big_quiet_step (((go_at_call 36; exact calls_over (less_val HL.out (Hfo.out.over _) (Hgo.out.over _))))))
            refine wpQuiet_nil ?_
            rintro _ ⟨u, rfl⟩
            go_wp2
            go_ret
            rw [HR.out]
            exact ⟨rfl, hB.trans u.bel⟩
          | false =>
            have HL := Lib.hid hL
            clear hL
            cases hM : lessK g.ks.l f.ks.l with
            | true =>
              have HR : Hid (sameF xl yl = false) := same_not Hf.out Hg.out (con_ne_less hM).symm
              have HM := Lib.hid hM
              clear hM hF
              go_wp2_with fail
              refine wp_region_over (by kernel_rfl) (by kernel_rfl) ?_
              repeat (first
                | ((with_reducible show wpQuiet _ _ _ _ (⟨some 20, _, _, _, _, _⟩ :: _) _); refine wpQuiet_load_row rfl rowAg (.tmp 19) rfl b (o + k * 11 + 1) rfl f.ag.cs rfl hb hra ?_; simp only [Act.put, List.setIfInBounds_toArray, List.set_cons_zero, List.set_cons_succ])
                | ((with_reducible show wpQuiet _ _ _ _ (⟨some 25, _, _, _, _, _⟩ :: _) _); refine wpQuiet_load_row rfl rowAg (.tmp 24) rfl d (p + k * 11 + 1) rfl g.ag.cs rfl hd hrh ?_; simp only [Act.put, List.setIfInBounds_toArray, List.set_cons_zero, List.set_cons_succ])
                | ((with_reducible show wpQuiet _ _ _ _ (⟨some 26, _, _, _, _, _⟩ :: _) _); refine wpQuiet_cmp_row rfl .neq 82 82 (.tmp 20) (.tmp 25) rfl rfl rfl guard_ag HN.out ?_; simp only [Act.put, List.setIfInBounds_toArray, List.set_cons_zero, List.set_cons_succ])
                | ((with_reducible show wpQuiet _ _ _ _ (⟨some 31, _, _, _, _, _⟩ :: _) _); refine wpQuiet_load_row rfl rowFct (.tmp 30) rfl b (o + k * 11) rfl f.cs rfl hb hrf ?_; simp only [Act.put, List.setIfInBounds_toArray, List.set_cons_zero, List.set_cons_succ])
                | ((with_reducible show wpQuiet _ _ _ _ (⟨some 35, _, _, _, _, _⟩ :: _) _); refine wpQuiet_load_row rfl rowFct (.tmp 34) rfl d (p + k * 11) rfl g.cs rfl hd hrg ?_; simp only [Act.put, List.setIfInBounds_toArray, List.set_cons_zero, List.set_cons_succ])
                | ((with_reducible show wpQuiet _ _ _ _ (⟨some 42, _, _, _, _, _⟩ :: _) _); refine wpQuiet_load_row rfl rowFct (.tmp 41) rfl d (p + k * 11) rfl g.cs rfl hd hrg ?_; simp only [Act.put, List.setIfInBounds_toArray, List.set_cons_zero, List.set_cons_succ])
                | ((with_reducible show wpQuiet _ _ _ _ (⟨some 46, _, _, _, _, _⟩ :: _) _); refine wpQuiet_load_row rfl rowFct (.tmp 45) rfl b (o + k * 11) rfl f.cs rfl hb hrf ?_; simp only [Act.put, List.setIfInBounds_toArray, List.set_cons_zero, List.set_cons_succ])
                | go_big_quiet_step ((first | (go_at_call 36; exact calls_over (less_val HL.out (Hfo.out.over _) (Hgo.out.over _))) | (go_at_call 36; exact calls_over (less_val HM.out (Hgo.out.over _) (Hfo.out.over _))))))
              refine wpQuiet_nil ?_
              rintro _ ⟨u, rfl⟩
              go_wp2
              go_ret
              rw [HR.out]
              exact ⟨rfl, hB.trans u.bel⟩
            | false =>
              have HR : Hid (cons (xl.take (k + 1)) = cons (yl.take (k + 1))) := by show _ = _; rw [cons_snoc Hf.out, cons_snoc Hg.out, hF.out, con_eq Hag.out HL.out hM]
              have HM := Lib.hid hM
              clear hM hF
              go_wp2_with fail
              refine wp_region_over (by kernel_rfl) (by kernel_rfl) ?_
              repeat (first
                | ((with_reducible show wpQuiet _ _ _ _ (⟨some 20, _, _, _, _, _⟩ :: _) _); refine wpQuiet_load_row rfl rowAg (.tmp 19) rfl b (o + k * 11 + 1) rfl f.ag.cs rfl hb hra ?_; simp only [Act.put, List.setIfInBounds_toArray, List.set_cons_zero, List.set_cons_succ])
                | ((with_reducible show wpQuiet _ _ _ _ (⟨some 25, _, _, _, _, _⟩ :: _) _); refine wpQuiet_load_row rfl rowAg (.tmp 24) rfl d (p + k * 11 + 1) rfl g.ag.cs rfl hd hrh ?_; simp only [Act.put, List.setIfInBounds_toArray, List.set_cons_zero, List.set_cons_succ])
                | ((with_reducible show wpQuiet _ _ _ _ (⟨some 26, _, _, _, _, _⟩ :: _) _); refine wpQuiet_cmp_row rfl .neq 82 82 (.tmp 20) (.tmp 25) rfl rfl rfl guard_ag HN.out ?_; simp only [Act.put, List.setIfInBounds_toArray, List.set_cons_zero, List.set_cons_succ])
                | ((with_reducible show wpQuiet _ _ _ _ (⟨some 31, _, _, _, _, _⟩ :: _) _); refine wpQuiet_load_row rfl rowFct (.tmp 30) rfl b (o + k * 11) rfl f.cs rfl hb hrf ?_; simp only [Act.put, List.setIfInBounds_toArray, List.set_cons_zero, List.set_cons_succ])
                | ((with_reducible show wpQuiet _ _ _ _ (⟨some 35, _, _, _, _, _⟩ :: _) _); refine wpQuiet_load_row rfl rowFct (.tmp 34) rfl d (p + k * 11) rfl g.cs rfl hd hrg ?_; simp only [Act.put, List.setIfInBounds_toArray, List.set_cons_zero, List.set_cons_succ])
                | ((with_reducible show wpQuiet _ _ _ _ (⟨some 42, _, _, _, _, _⟩ :: _) _); refine wpQuiet_load_row rfl rowFct (.tmp 41) rfl d (p + k * 11) rfl g.cs rfl hd hrg ?_; simp only [Act.put, List.setIfInBounds_toArray, List.set_cons_zero, List.set_cons_succ])
                | ((with_reducible show wpQuiet _ _ _ _ (⟨some 46, _, _, _, _, _⟩ :: _) _); refine wpQuiet_load_row rfl rowFct (.tmp 45) rfl b (o + k * 11) rfl f.cs rfl hb hrf ?_; simp only [Act.put, List.setIfInBounds_toArray, List.set_cons_zero, List.set_cons_succ])
                | go_big_quiet_step ((first | (go_at_call 36; exact calls_over (less_val HL.out (Hfo.out.over _) (Hgo.out.over _))) | (go_at_call 36; exact calls_over (less_val HM.out (Hgo.out.over _) (Hfo.out.over _))))))
              refine wpQuiet_nil ?_
              rintro _ ⟨u, rfl⟩
              go_wp2
              go_roundg (n - (k + 1))
              case rel => exact ⟨k + 1, rfl, by omega, by go_num, hB.trans u.bel, HR⟩
              case measure => rw [Hgk.out]; omega
        · have HN : Hid (∀ w, (binOp .neq 82 (.agg f.ag.cs) (.agg g.ag.cs)).run Try.prog w = .ok (.bool true) w) := fun w => by rw [neqv_ag]; simp [hag]
          have HR : Hid (sameF xl yl = false) := same_not Hf.out Hg.out (con_ne_ag hag)
          clear hag hF
          go_wp2_with fail
          refine wp_region_over (by kernel_rfl) (by kernel_rfl) ?_
          repeat (first
            | ((with_reducible show wpQuiet _ _ _ _ (⟨some 20, _, _, _, _, _⟩ :: _) _); refine wpQuiet_load_row rfl rowAg (.tmp 19) rfl b (o + k * 11 + 1) rfl f.ag.cs rfl hb hra ?_; simp only [Act.put, List.setIfInBounds_toArray, List.set_cons_zero, List.set_cons_succ])
            | ((with_reducible show wpQuiet _ _ _ _ (⟨some 25, _, _, _, _, _⟩ :: _) _); refine wpQuiet_load_row rfl rowAg (.tmp 24) rfl d (p + k * 11 + 1) rfl g.ag.cs rfl hd hrh ?_; simp only [Act.put, List.setIfInBounds_toArray, List.set_cons_zero, List.set_cons_succ])
            | ((with_reducible show wpQuiet _ _ _ _ (⟨some 26, _, _, _, _, _⟩ :: _) _); refine wpQuiet_cmp_row rfl .neq 82 82 (.tmp 20) (.tmp 25) rfl rfl rfl guard_ag HN.out ?_; simp only [Act.put, List.setIfInBounds_toArray, List.set_cons_zero, List.set_cons_succ])
            | go_big_quiet_step (fail))
          refine wpQuiet_nil ?_
          rintro _ ⟨u, rfl⟩
          go_wp2
          go_ret
          rw [HR.out]
          exact ⟨rfl, hB.trans u.bel⟩
      · have HR : Hid (sameF xl yl = true) := by
          show _ = _
          have h1 : xl.length = n := hlx.out
          have h2 : yl.length = n := hly.out
          have h3 := hF.out
          rw [List.take_of_length_le (by omega), List.take_of_length_le (by omega)] at h3
          unfold sameF
          simp [h3]
        clear hF
        go_wp2
        go_ret
        rw [HR.out]
        exact ⟨rfl, hB⟩
  · have HR : Hid (sameF xl yl = false) := by
      show _ = _
      unfold sameF
      rw [decide_eq_false_iff_not]
      intro e
      have h1 : xl.length = n := hlx.out
      have h2 : yl.length = m := hly.out
      have h3 := congrArg List.length e
      rw [cons_len, cons_len] at h3
      omega
    have q : ((n : Int) != (m : Int)) = true := by rw [bne_iff_ne]; omega
    have q2 : (n != m) = true := by rw [bne_iff_ne]; exact hnm
    clear hnm
    go_enter Try.func17, Try.ntmps17
    go_wp2
    go_ret
    rw [HR.out]
    exact ⟨rfl, Bel.refl _⟩

end Go.Proofs.Ytelnhhbefdfeoaa

namespace Go.Proofs.Ytelnhhbefdfeoaa
open Go.RowKit
set_option linter.unusedVariables false
attribute [local go_sem] fct_get0

/-- The tuple that stands at a place. -/
theorem chain_le {l : List (List Int)} (h : chain lessK l = true) : ∀ {i j : Nat} {a b : List Int}, i < j → l[i]? = some a → l[j]? = some b → cmpK a b = -1 := by
  induction l with
  | nil => intro i j a b _ ha; simp at ha
  | cons x l ih =>
    intro i j a b hij ha hb
    cases l with
    | nil =>
      cases j with
      | zero => omega
      | succ j => simp at hb
    | cons y l =>
      rw [chain, Bool.and_eq_true] at h
      have hxy : cmpK x y = -1 := by have := h.1; unfold lessK at this; simpa using this
      cases j with
      | zero => omega
      | succ j =>
        rw [List.getElem?_cons_succ] at hb
        cases i with
        | zero =>
          simp at ha
          subst ha
          cases j with
          | zero => simp at hb; subst hb; exact hxy
          | succ j => exact cmpK_trans hxy (ih h.2 (i := 0) (j := j + 1) (by omega) rfl hb)
        | succ i =>
          rw [List.getElem?_cons_succ] at ha
          exact ih h.2 (by omega) ha hb
theorem below_of {l : List (List Int)} (h : chain lessK l = true) {i j : Nat} {a b t : List Int} (hij : i ≤ j) (ha : l[i]? = some a) (hb : l[j]? = some b) (hbt : cmpK b t = -1) : cmpK a t = -1 := by
  rcases Nat.lt_or_ge i j with h1 | h1
  · exact cmpK_trans (chain_le h h1 ha hb) hbt
  · have : i = j := by omega
    subst this
    rw [ha] at hb
    injection hb with hb
    subst hb
    exact hbt
/-- Where a tuple stands, or would stand. -/
structure IsAt (l : List Fct) (t : List Int) (p : Nat) : Prop where
  le : p ≤ l.length
  lo : ∀ m f, m < p → l[m]? = some f → cmpK f.ks.l t = -1
  hi : ∀ m f, p ≤ m → l[m]? = some f → ¬ cmpK f.ks.l t = -1
def metAt (l : List Fct) (t : List Int) (p : Nat) : Bool := match l[p]? with | some f => cmpK f.ks.l t == 0 | none => false
def FindPost (l : List Fct) (t : List Int) (w : World) (e : Ending) (w' : World) : Prop := ∃ p, IsAt l t p ∧ e = .returned (.tuple #[.int .i64 (p : Nat), .bool (metAt l t p)]) ∧ Bel w w'
theorem fcompare_val {f g : Fct} {w : World} {r : Int} (h : cmpK f.ks.l g.ks.l = r) (hf : f.ok w) (hg : g.ok w) :
    Calls Try.prog 40 #[.agg f.cs, .agg g.cs] w fun e w' => e = .returned (.int .i64 r) ∧ Bel w w' := by
  have := fcompare_any f g w hf hg
  rw [h] at this
  exact this

/-- fact.Compare as a value. -/
abbrev cmpV : Value := .func (.func 40) #[] #[]

end Go.Proofs.Ytelnhhbefdfeoaa

namespace Go.Proofs.Ytelnhhbefdfeoaa
open Go.RowKit
set_option linter.unusedVariables false

theorem flat_set {α : Type} [Cel α] (l : List α) (k : Nat) (f : α) (hk : k < l.length) (j : Nat) :
    ((l.set k f).flatMap Cel.cells)[j]? = if k * Cel.size α ≤ j ∧ j < k * Cel.size α + Cel.size α then (Cel.cells f)[j - k * Cel.size α]? else (l.flatMap Cel.cells)[j]? := by
  have hp : 0 < Cel.size α := Cel.pos
  by_cases hj : j < l.length * Cel.size α
  · have hi : j / Cel.size α < l.length := Nat.div_lt_of_lt_mul (by rw [Nat.mul_comm]; exact hj)
    have hjm : j / Cel.size α * Cel.size α + j % Cel.size α = j := by rw [Nat.mul_comm]; exact Nat.div_add_mod j _
    have hr := Nat.mod_lt j hp
    by_cases e : k = j / Cel.size α
    · have hg : (l.set k f)[j / Cel.size α]? = some f := by rw [← e]; exact List.getElem?_set_self hk
      have h1 := cells_get (l.set k f) _ _ _ hg hr
      rw [hjm] at h1
      rw [h1, if_pos (by rw [e]; omega)]
      congr 1
      rw [e]
      omega
    · have hg : (l.set k f)[j / Cel.size α]? = some (l[j / Cel.size α]'hi) := by rw [List.getElem?_set_ne e, List.getElem?_eq_getElem hi]
      have h1 := cells_get (l.set k f) _ _ _ hg hr
      have h2 := cells_get l _ _ _ (List.getElem?_eq_getElem hi) hr
      rw [hjm] at h1 h2
      rw [h1, h2, if_neg]
      intro ⟨h3, h4⟩
      apply e
      have h5 : k * Cel.size α + Cel.size α = (k + 1) * Cel.size α := by rw [Nat.add_mul, Nat.one_mul]
      rw [h5] at h4
      exact (Nat.div_eq_of_lt_le h3 h4).symm
  · have h5 : k * Cel.size α + Cel.size α = (k + 1) * Cel.size α := by rw [Nat.add_mul, Nat.one_mul]
    have h6 : (k + 1) * Cel.size α ≤ l.length * Cel.size α := Nat.mul_le_mul_right _ hk
    rw [List.getElem?_eq_none (by rw [cells_len, List.length_set]; omega), List.getElem?_eq_none (l := l.flatMap Cel.cells) (by rw [cells_len]; omega), if_neg (by omega)]

section
variable {α : Type} [Cel α] {w : World} {base : Nat} {e : TypeId} {g n c : Nat} {l : List α}
theorem own_range (h : w.ownsRow base e (Cel.size α) (.slice (some ⟨g, 0, none⟩) n c) n (l.flatMap Cel.cells)) {k : Nat} {a : α} (ha : l[k]? = some a) : w.rangeAt g (k * Cel.size α) (Cel.cells a) ∧ g < w.heap.size := by
  have hr := Rd.of_own h
  have hl := rd_len hr
  have hk : k < n := by have := (List.getElem?_eq_some_iff.1 ha).1; omega
  obtain ⟨b, o, a', e1, hb, ha', hc⟩ := rd_at hr hk
  injection e1 with e1
  injection e1 with e1 e2
  subst e1 e2
  rw [ha] at ha'
  injection ha' with ha'
  subst ha'
  exact ⟨fun j u hu => by have := hc j u hu; rwa [Nat.zero_add] at this, hb⟩
theorem own_setRow (h : w.ownsRow base e (Cel.size α) (.slice (some ⟨g, 0, none⟩) n c) n (l.flatMap Cel.cells)) {k : Nat} (hk : k < n) (f : α) :
    (w.setCells g (k * Cel.size α) (Cel.cells f)).ownsRow base e (Cel.size α) (.slice (some ⟨g, 0, none⟩) n c) n ((l.set k f).flatMap Cel.cells) := by
  have hl := rd_len (Rd.of_own h)
  refine ⟨by rw [cells_len, List.length_set, hl], ?_⟩
  rcases h.2 with ⟨h0, _⟩ | ⟨g', cap, cur, hv, hb, hh, hn, hm, hs, ht⟩
  · cases h0
  · injection hv with h1 h2 h3
    injection h1 with h1
    injection h1 with h1
    subst h1 h3
    refine .inr ⟨g, c, setAll cur (k * Cel.size α) (Cel.cells f), rfl, hb, Blk.setAll (Cel.cells f) (k * Cel.size α) hh, hn, hm, by rw [setAll_size]; exact hs, ?_⟩
    apply List.ext_getElem?
    intro j
    rw [flat_set l k f (by omega) j]
    have hns : n * Cel.size α ≤ cur.size := by rw [hs]; exact Nat.mul_le_mul_right _ hn
    by_cases hj : j < n * Cel.size α
    · rw [List.getElem?_take_of_lt hj, Array.getElem?_toList, setAll_get _ _ _ _ (by omega), Cel.len]
      have h4 : (l.flatMap Cel.cells)[j]? = cur[j]? := by rw [← ht, List.getElem?_take_of_lt hj, Array.getElem?_toList]
      rw [h4]
    · rw [List.getElem?_eq_none (by rw [List.length_take]; omega)]
      have h5 : k * Cel.size α + Cel.size α = (k + 1) * Cel.size α := by rw [Nat.add_mul, Nat.one_mul]
      have h6 : (k + 1) * Cel.size α ≤ n * Cel.size α := Nat.mul_le_mul_right _ hk
      rw [if_neg (by omega), List.getElem?_eq_none (by rw [cells_len, hl]; omega)]
theorem own_there (h : w.ownsRow base e (Cel.size α) (.slice (some ⟨g, 0, none⟩) n c) n (l.flatMap Cel.cells)) {k : Nat} (hk : k < n) : w.there g (k * Cel.size α) (Cel.size α) := by
  rcases h.2 with ⟨h0, _⟩ | ⟨g', cap, cur, hv, hb, hh, hn, hm, hs, ht⟩
  · cases h0
  · injection hv with h1 h2 h3
    injection h1 with h1
    injection h1 with h1
    subst h1 h3
    have hb2 : Blk w g e cur := hh
    intro j hj
    have h5 : k * Cel.size α + Cel.size α = (k + 1) * Cel.size α := by rw [Nat.add_mul, Nat.one_mul]
    have h6 : (k + 1) * Cel.size α ≤ c * Cel.size α := Nat.mul_le_mul_right _ (by omega)
    rw [hb2.cell, hb2.frozen, Array.getElem?_eq_getElem (by rw [hs]; omega)]
    exact ⟨rfl, rfl⟩

theorem wpList_store_own {P : Program} {ops : Array Oper} {rest : List Oper} {op : Oper} {a : Act} {Q : Exit → Act → World → Prop} (hgd : op.guard = none) {ty : TypeId} {size : Nat} (R : RowTy P ty size) (x y : Operand) (ho : op.op = .store ty x y) (hsz : size = Cel.size α)
    (k : Nat) (hx : a.eval x = .pointer (some ⟨g, k * Cel.size α, none⟩)) (h : w.ownsRow base e (Cel.size α) (.slice (some ⟨g, 0, none⟩) n c) n (l.flatMap Cel.cells)) (hk : k < n) (f : α) (cs : Array Value) (hcs : cs.toList = Cel.cells f) (hy : a.eval y = .agg cs) (h1 : cs.all (·.oneCell') = true)
    (hn : ∀ w', w'.ownsRow base e (Cel.size α) (.slice (some ⟨g, 0, none⟩) n c) n ((l.set k f).flatMap Cel.cells) → w.grownBy w' (some g) → wpList P ops Q rest (a.put op.dst undef) w') : wpList P ops Q (op :: rest) a w := by
  have hss : cs.size = Cel.size α := by have := congrArg List.length hcs; rw [Array.length_toList, Cel.len] at this; exact this
  refine wpList_store_mid hgd ty x y ho g (k * Cel.size α) cs hx hy (by rw [hss]; exact own_there h hk) (by rw [R.hi, hss, hsz]) h1 ?_
  rw [hcs]
  exact hn _ (own_setRow h hk f) (setCells_grown w g _ _)
end

end Go.Proofs.Ytelnhhbefdfeoaa
