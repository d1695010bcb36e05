/- Facts: how they lie in memory; how tuples are compared. -/
import Derived.Test.YtnekknemjhlgdaaBb
import Derived.Test.YtnekknemjhlgdaaBa
import Derived.Test.YtnekknemjhlgdaaBg
namespace Go.Proofs.Ytnekknemjhlgdaa
open Go.RowKit Go.ChangeShapes Go.WideShapes Go.Deep
set_option linter.unusedVariables false

/-- A fact: its tuple, and its aggregate. -/
structure Fct where
  ks : Row Int
  ag : Ag
def Fct.cs (f : Fct) : Array Value := ⟨f.ks.v :: f.ag.cs.toList⟩
theorem fct_size (f : Fct) : f.cs.size = 11 := rfl
theorem Row.v_one {α : Type} (x : Row α) : x.v.oneCell' = true := rfl
theorem fct_one (f : Fct) : f.cs.all (·.oneCell') = true := by
  rw [Array.all_eq_true_iff_forall_mem]
  intro v hv
  have hv' : v ∈ f.ks.v :: f.ag.cs.toList := by simpa [Fct.cs] using hv
  rcases List.mem_cons.1 hv' with rfl | h
  · exact Row.v_one _
  · exact Array.all_eq_true_iff_forall_mem.1 (ag_one f.ag) v (by simpa using h)
structure Fct.ok (w : World) (f : Fct) : Prop where
  ks : f.ks.ok w
  ag : f.ag.ok
instance instCelFct : Cel Fct where
  size := 11
  bytes := 104
  cells f := f.cs.toList
  ok w f := f.ok w
  len _ := rfl
  pos := by omega
  mono hb h := ⟨h.ks.mono hb, h.ag⟩
/-- What a fact says. -/
def Fct.con (f : Fct) : List Int × Ag := (f.ks.l, f.ag)

theorem rowFct : RowTy Try.prog 174 11 := ⟨⟨_, Try.underlying174, rfl⟩, by kernel_rfl⟩
theorem E_int : ElemInfo Try.prog 58 3 1 8 := ElemInfo.mk' (z := .int .i64 0) Try.underlying58 (by kernel_rfl) rfl (by omega)
theorem E_fct : ElemInfo Try.prog 75 174 11 104 := ElemInfo.mk' (z := .agg (Fct.mk ⟨none, 0, 0, []⟩ .zero).cs) Try.underlying75 (by kernel_rfl) rfl (by omega)

set_option maxRecDepth 100000 in
theorem cells_fct : Try.prog.cellsOf 174 = 11 := by kernel_rfl
set_option maxRecDepth 100000 in
theorem cells_int : Try.prog.cellsOf 3 = 1 := by kernel_rfl
set_option maxRecDepth 100000 in
theorem cells_ints : Try.prog.cellsOf 58 = 1 := by kernel_rfl
theorem opens_ints : Opens Try.prog 58 (Row Int) := opens_row Try.underlying58 cells_int (by kernel_rfl) (opens_i64 Try.underlying3)
theorem opens_fct : Opens Try.prog 174 Fct := by
  intro H enc w base spare held fuel cs x h hz
  have hl := struct_len Try.underlying174 h cells_fct
  obtain ⟨k, hk, ok1⟩ := field_of Try.underlying174 h hz 0 _ rfl opens_ints cells_ints
  obtain ⟨a, ha, ok2⟩ := field_of Try.underlying174 h hz 1 _ rfl opens_agg cells_agg
  refine ⟨⟨k, a⟩, ?_, ⟨ok1, ok2⟩⟩
  match cs, hl with
  | c :: r, hl =>
    have h1 : c = k.v := by simpa [Cel.cells] using hk
    have h2 : r = a.cs.toList := by
      have ha' : r.take 10 = a.cs.toList := ha
      rw [List.take_of_length_le (by simp at hl; omega)] at ha'
      exact ha'
    subst h1 h2
    rfl
theorem opens_fcts : Opens Try.prog 75 (Row Fct) := opens_row Try.underlying75 cells_fct (by kernel_rfl) opens_fct
set_option maxRecDepth 100000 in
theorem open_fcts {H : Type} {enc : TypeId × Value → H} {w : World} {base b0 : Nat} {spare : Nat → Bool} {held : Bool} {r : Reach} {v : Value} {d : DataW H} {p : List MemPlace}
    (hv : Value.okWide Try.prog w r b0 75 v) (h : DataW.Trod enc Try.prog w base spare held 75 v d p) (hz : Sized Try.prog 75 d) : ∃ x : Row Fct, v = x.v ∧ x.ok w := open_row Try.underlying75 cells_fct (by kernel_rfl) opens_fct hv h hz
set_option maxRecDepth 100000 in
theorem open_intsC {H : Type} {enc : TypeId × Value → H} {w : World} {base b0 : Nat} {spare : Nat → Bool} {held : Bool} {r : Reach} {v : Value} {d : DataW H} {p : List MemPlace}
    (hv : Value.okWide Try.prog w r b0 58 v) (h : DataW.Trod enc Try.prog w base spare held 58 v d p) (hz : Sized Try.prog 58 d) : ∃ x : Row Int, v = x.v ∧ x.ok w := open_row Try.underlying58 cells_int (by kernel_rfl) (opens_i64 Try.underlying3) hv h hz

/-- Which of two tuples stands first: -1, 0, 1. -/
def cmpK : List Int → List Int → Int
  | [], [] => 0
  | [], _ :: _ => -1
  | _ :: _, [] => 1
  | a :: x, b :: y => if a < b then -1 else if b < a then 1 else cmpK x y
def lessK (x y : List Int) : Bool := cmpK x y == -1
theorem cmpK_range (x y : List Int) : cmpK x y = -1 ∨ cmpK x y = 0 ∨ cmpK x y = 1 := by
  induction x generalizing y with
  | nil => cases y <;> simp [cmpK]
  | cons a x ih =>
    cases y with
    | nil => simp [cmpK]
    | cons b y =>
      rw [cmpK]
      split
      · exact .inl rfl
      · split
        · exact .inr (.inr rfl)
        · exact ih y
theorem cmpK_swap (x y : List Int) : cmpK y x = - cmpK x y := by
  induction x generalizing y with
  | nil => cases y <;> simp [cmpK]
  | cons a x ih =>
    cases y with
    | nil => simp [cmpK]
    | cons b y =>
      simp only [cmpK]
      by_cases h1 : a < b
      · rw [if_pos h1, if_neg (by omega), if_pos h1]; rfl
      · rw [if_neg h1]
        by_cases h2 : b < a
        · simp [h1, h2]
        · simp only [h1, h2, if_false]; exact ih y
theorem cmpK_eq {x y : List Int} (h : cmpK x y = 0) : x = y := by
  induction x generalizing y with
  | nil => cases y with | nil => rfl | cons b y => simp [cmpK] at h
  | cons a x ih =>
    cases y with
    | nil => simp [cmpK] at h
    | cons b y =>
      rw [cmpK] at h
      by_cases h1 : a < b
      · rw [if_pos h1] at h; cases h
      · rw [if_neg h1] at h
        by_cases h2 : b < a
        · rw [if_pos h2] at h; cases h
        · rw [if_neg h2] at h
          have : a = b := by omega
          subst this
          rw [ih h]
theorem cmpK_self (x : List Int) : cmpK x x = 0 := by
  have := cmpK_swap x x
  omega
theorem cmpK_trans {x y z : List Int} (h1 : cmpK x y = -1) (h2 : cmpK y z = -1) : cmpK x z = -1 := by
  induction x generalizing y z with
  | nil =>
    cases z with
    | nil => cases y with | nil => exact h1 | cons b y => simp [cmpK] at h2
    | cons c z => rfl
  | cons a x ih =>
    cases y with
    | nil => simp [cmpK] at h1
    | cons b y =>
      cases z with
      | nil => simp [cmpK] at h2
      | cons c z =>
        simp only [cmpK] at *
        by_cases a1 : a < b
        · by_cases b1 : b < c
          · rw [if_pos (by omega)]
          · rw [if_neg b1] at h2
            by_cases b2 : c < b
            · rw [if_pos b2] at h2; cases h2
            · rw [if_pos (by omega)]
        · rw [if_neg a1] at h1
          by_cases a2 : b < a
          · rw [if_pos a2] at h1; cases h1
          · rw [if_neg a2] at h1
            have : a = b := by omega
            subst this
            by_cases b1 : a < c
            · rw [if_pos b1]
            · rw [if_neg b1] at h2 ⊢
              by_cases b2 : c < a
              · rw [if_pos b2] at h2; cases h2
              · rw [if_neg b2] at h2 ⊢
                exact ih h1 h2

theorem cmpK_drop {x y : List Int} {k : Nat} {a b : Int} (hx : x[k]? = some a) (hy : y[k]? = some b) :
    cmpK (x.drop k) (y.drop k) = if a < b then -1 else if b < a then 1 else cmpK (x.drop (k + 1)) (y.drop (k + 1)) := by
  obtain ⟨h1, rfl⟩ := List.getElem?_eq_some_iff.1 hx
  obtain ⟨h2, rfl⟩ := List.getElem?_eq_some_iff.1 hy
  rw [List.drop_eq_getElem_cons h1, List.drop_eq_getElem_cons h2, cmpK]
theorem cmpK_short {x y : List Int} {k : Nat} (hx : k < x.length) (hy : y.length ≤ k) : cmpK (x.drop k) (y.drop k) = 1 := by
  rw [List.drop_eq_getElem_cons hx, List.drop_of_length_le hy, cmpK]
theorem cmpK_end {x y : List Int} {k : Nat} (hx : x.length ≤ k) (hy : k < y.length) : cmpK (x.drop k) (y.drop k) = -1 := by
  rw [List.drop_eq_getElem_cons hy, List.drop_of_length_le hx, cmpK]
theorem cmpK_both {x y : List Int} {k : Nat} (hx : x.length ≤ k) (hy : y.length ≤ k) : cmpK (x.drop k) (y.drop k) = 0 := by
  rw [List.drop_of_length_le hx, List.drop_of_length_le hy, cmpK]

def cmpI (a b : Int) : Int := if a < b then -1 else if b < a then 1 else 0

set_option maxRecDepth 100000 in
set_option maxHeartbeats 1000000 in
theorem cmpI_any (a b : Int) (w : World) : Calls Try.prog 214 #[.int .i64 a, .int .i64 b] w fun e w' => e = .returned (.int .i64 (cmpI a b)) ∧ w = w' := by
  have q : ∀ x : Int, (x != x) = false := by simp
  by_cases h1 : a < b
  · have HR : Hid (cmpI a b = -1) := if_pos h1
    go_enter Try.func214, Try.ntmps214
    go_wp2
    go_ret
    rw [HR.out]
    exact ⟨rfl, rfl⟩
  · by_cases h2 : b < a
    · have HR : Hid (cmpI a b = 1) := (if_neg h1).trans (if_pos h2)
      go_enter Try.func214, Try.ntmps214
      go_wp2
      go_ret
      rw [HR.out]
      exact ⟨rfl, rfl⟩
    · have HR : Hid (cmpI a b = 0) := (if_neg h1).trans (if_neg h2)
      go_enter Try.func214, Try.ntmps214
      go_wp2
      go_ret
      rw [HR.out]
      exact ⟨rfl, rfl⟩

set_option maxRecDepth 100000 in
set_option maxHeartbeats 1000000 in
theorem compare_any (x y : Row Int) (w : World) (hx : x.ok w) (hy : y.ok w) :
    Calls Try.prog 169 #[x.v, y.v] w fun e w' => e = .returned (.int .i64 (cmpK x.l y.l)) ∧ w = w' := by
  have hxn := hx.size
  have hyn := hy.size
  have Hxl := Lib.hid hx.len
  have Hyl := Lib.hid hy.len
  have Hx := Lib.hid hx
  have Hy := Lib.hid hy
  clear hx hy
  obtain ⟨xA, xn, xc, xl⟩ := x
  obtain ⟨yA, yn, yc, yl⟩ := y
  simp only [Row.v] at *
  go_enter Try.func169, Try.ntmps169
  go_wp2
  go_loopg [11] xn (fun g i wr => ∃ k : Nat, g = xn - k ∧ k ≤ xn ∧ k ≤ yn ∧ i = .int .i64 k ∧ wr = w ∧ Hid (cmpK xl yl = cmpK (xl.drop k) (yl.drop k)))
  case atStart => exact ⟨0, rfl, by omega, by omega, rfl, rfl, rfl⟩
  case round =>
    obtain ⟨k, hgk, hk, hky, rfl, rfl, hF⟩ := hrel
    have Hgk := Lib.hid hgk
    clear hgk
    by_cases hlt : k < xn
    · obtain ⟨xb, xo, a, rfl, ha, hai, hca⟩ := Hx.out.int hlt
      have Ha := Lib.hid ha
      clear ha
      by_cases hlty : k < yn
      · obtain ⟨yb, yo, b, rfl, hb, hbi, hcb⟩ := Hy.out.int hlty
        have Hb := Lib.hid hb
        clear hb
        have HD := Lib.hid (cmpK_drop Ha.out Hb.out)
        by_cases h1 : a < b
        · have HR : Hid (cmpK xl yl = -1) := by show _ = _; rw [hF.out, HD.out, if_pos h1]
          have HI : Hid (cmpI a b = -1) := if_pos h1
          clear hF HD
          go_wp2_with fail
          refine (cmpI_any _ _ _).mono ?_; rintro e w1 ⟨rfl, rfl⟩
          rw [HI.out]
          go_wp2
          go_ret
          rw [HR.out]
          exact ⟨rfl, rfl⟩
        · by_cases h2 : b < a
          · have HR : Hid (cmpK xl yl = 1) := by show _ = _; rw [hF.out, HD.out, if_neg h1, if_pos h2]
            have HI : Hid (cmpI a b = 1) := (if_neg h1).trans (if_pos h2)
            clear hF HD
            go_wp2_with fail
            refine (cmpI_any _ _ _).mono ?_; rintro e w1 ⟨rfl, rfl⟩
            rw [HI.out]
            go_wp2
            go_ret
            rw [HR.out]
            exact ⟨rfl, rfl⟩
          · have HR : Hid (cmpK xl yl = cmpK (xl.drop (k + 1)) (yl.drop (k + 1))) := by show _ = _; rw [hF.out, HD.out, if_neg h1, if_neg h2]
            have HI : Hid (cmpI a b = 0) := (if_neg h1).trans (if_neg h2)
            clear hF HD
            go_wp2_with fail
            refine (cmpI_any _ _ _).mono ?_; rintro e w1 ⟨rfl, rfl⟩
            rw [HI.out]
            go_wp2
            go_roundg (xn - (k + 1))
            case rel => exact ⟨k + 1, rfl, by omega, by omega, by go_num, rfl, HR⟩
            case measure => rw [Hgk.out]; omega
      · have HR : Hid (cmpK xl yl = 1) := by show _ = _; rw [hF.out, cmpK_short (by have := Hxl.out; omega) (by have := Hyl.out; omega)]
        clear hF
        go_wp2
        go_ret
        rw [HR.out]
        exact ⟨rfl, rfl⟩
    · by_cases hlty : k < yn
      · have HR : Hid (cmpK xl yl = -1) := by show _ = _; rw [hF.out, cmpK_end (by have := Hxl.out; omega) (by have := Hyl.out; omega)]
        clear hF
        go_wp2
        go_ret
        rw [HR.out]
        exact ⟨rfl, rfl⟩
      · have HR : Hid (cmpK xl yl = 0) := by show _ = _; rw [hF.out, cmpK_both (by have := Hxl.out; omega) (by have := Hyl.out; omega)]
        clear hF
        go_wp2
        go_ret
        rw [HR.out]
        exact ⟨rfl, rfl⟩

end Go.Proofs.Ytnekknemjhlgdaa
