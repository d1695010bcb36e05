/- Texts laid together: XFact XFactC XFactD XFactE XFactF. -/
import Derived.Test.YtlclllkjnhgbjaaBb
import Derived.Test.YtlclllkjnhgbjaaBa
import Derived.Test.YtlclllkjnhgbjaaBg

namespace Go.Proofs.Ytlclllkjnhgbjaa
open Go.RowKit Go.ChangeShapes Go.WideShapes Go.Deep
set_option linter.unusedVariables false

/-- A fact: its tuple, and its aggregate. -/
structure Fct where
  ks : Row Int
  ag : Ag
def Fct.cs (f : Fct) : Array Value := ⟨f.ks.v :: f.ag.cs.toList⟩
theorem fct_size (f : Fct) : f.cs.size = 11 := rfl
theorem Row.v_one {α : Type} (x : Row α) : x.v.oneCell' = true := rfl
theorem fct_one (f : Fct) : f.cs.all (·.oneCell') = true := by
  rw [Array.all_eq_true_iff_forall_mem]
  intro v hv
  have hv' : v ∈ f.ks.v :: f.ag.cs.toList := by simpa [Fct.cs] using hv
  rcases List.mem_cons.1 hv' with rfl | h
  · exact Row.v_one _
  · exact Array.all_eq_true_iff_forall_mem.1 (ag_one f.ag) v (by simpa using h)
structure Fct.ok (w : World) (f : Fct) : Prop where
  ks : f.ks.ok w
  ag : f.ag.ok
instance instCelFct : Cel Fct where
  size := 11
  bytes := 104
  cells f := f.cs.toList
  ok w f := f.ok w
  len _ := rfl
  pos := by omega
  mono hb h := ⟨h.ks.mono hb, h.ag⟩
/-- What a fact says. -/
def Fct.con (f : Fct) : List Int × Ag := (f.ks.l, f.ag)

theorem E_int : ElemInfo Try.prog 59 3 1 8 := ElemInfo.mk' (z := .int .i64 0) Try.underlying59 (by kernel_rfl) rfl (by omega)
set_option maxRecDepth 100000 in
theorem cells_int : Try.prog.cellsOf 3 = 1 := by kernel_rfl
set_option maxRecDepth 100000 in
theorem cells_ints : Try.prog.cellsOf 59 = 1 := by kernel_rfl
theorem opens_ints : Opens Try.prog 59 (Row Int) := opens_row Try.underlying59 cells_int (by kernel_rfl) (opens_i64 Try.underlying3)
set_option maxRecDepth 100000 in
theorem open_intsC {H : Type} {enc : TypeId × Value → H} {w : World} {base b0 : Nat} {spare : Nat → Bool} {held : Bool} {r : Reach} {v : Value} {d : DataW H} {p : List MemPlace}
    (hv : Value.okWide Try.prog w r b0 59 v) (h : DataW.Trod enc Try.prog w base spare held 59 v d p) (hz : Sized Try.prog 59 d) : ∃ x : Row Int, v = x.v ∧ x.ok w := open_row Try.underlying59 cells_int (by kernel_rfl) (opens_i64 Try.underlying3) hv h hz

/-- Which of two tuples stands first: -1, 0, 1. -/
def cmpK : List Int → List Int → Int
  | [], [] => 0
  | [], _ :: _ => -1
  | _ :: _, [] => 1
  | a :: x, b :: y => if a < b then -1 else if b < a then 1 else cmpK x y
def lessK (x y : List Int) : Bool := cmpK x y == -1
theorem cmpK_range (x y : List Int) : cmpK x y = -1 ∨ cmpK x y = 0 ∨ cmpK x y = 1 := by
  induction x generalizing y with
  | nil => cases y <;> simp [cmpK]
  | cons a x ih =>
    cases y with
    | nil => simp [cmpK]
    | cons b y =>
      rw [cmpK]
      split
      · exact .inl rfl
      · split
        · exact .inr (.inr rfl)
        · exact ih y
theorem cmpK_swap (x y : List Int) : cmpK y x = - cmpK x y := by
  induction x generalizing y with
  | nil => cases y <;> simp [cmpK]
  | cons a x ih =>
    cases y with
    | nil => simp [cmpK]
    | cons b y =>
      simp only [cmpK]
      by_cases h1 : a < b
      · rw [if_pos h1, if_neg (by omega), if_pos h1]; rfl
      · rw [if_neg h1]
        by_cases h2 : b < a
        · simp [h1, h2]
        · simp only [h1, h2, if_false]; exact ih y
theorem cmpK_eq {x y : List Int} (h : cmpK x y = 0) : x = y := by
  induction x generalizing y with
  | nil => cases y with | nil => rfl | cons b y => simp [cmpK] at h
  | cons a x ih =>
    cases y with
    | nil => simp [cmpK] at h
    | cons b y =>
      rw [cmpK] at h
      by_cases h1 : a < b
      · rw [if_pos h1] at h; cases h
      · rw [if_neg h1] at h
        by_cases h2 : b < a
        · rw [if_pos h2] at h; cases h
        · rw [if_neg h2] at h
          have : a = b := by omega
          subst this
          rw [ih h]
theorem cmpK_self (x : List Int) : cmpK x x = 0 := by
  have := cmpK_swap x x
  omega
theorem cmpK_trans {x y z : List Int} (h1 : cmpK x y = -1) (h2 : cmpK y z = -1) : cmpK x z = -1 := by
  induction x generalizing y z with
  | nil =>
    cases z with
    | nil => cases y with | nil => exact h1 | cons b y => simp [cmpK] at h2
    | cons c z => rfl
  | cons a x ih =>
    cases y with
    | nil => simp [cmpK] at h1
    | cons b y =>
      cases z with
      | nil => simp [cmpK] at h2
      | cons c z =>
        simp only [cmpK] at *
        by_cases a1 : a < b
        · by_cases b1 : b < c
          · rw [if_pos (by omega)]
          · rw [if_neg b1] at h2
            by_cases b2 : c < b
            · rw [if_pos b2] at h2; cases h2
            · rw [if_pos (by omega)]
        · rw [if_neg a1] at h1
          by_cases a2 : b < a
          · rw [if_pos a2] at h1; cases h1
          · rw [if_neg a2] at h1
            have : a = b := by omega
            subst this
            by_cases b1 : a < c
            · rw [if_pos b1]
            · rw [if_neg b1] at h2 ⊢
              by_cases b2 : c < a
              · rw [if_pos b2] at h2; cases h2
              · rw [if_neg b2] at h2 ⊢
                exact ih h1 h2

theorem cmpK_drop {x y : List Int} {k : Nat} {a b : Int} (hx : x[k]? = some a) (hy : y[k]? = some b) :
    cmpK (x.drop k) (y.drop k) = if a < b then -1 else if b < a then 1 else cmpK (x.drop (k + 1)) (y.drop (k + 1)) := by
  obtain ⟨h1, rfl⟩ := List.getElem?_eq_some_iff.1 hx
  obtain ⟨h2, rfl⟩ := List.getElem?_eq_some_iff.1 hy
  rw [List.drop_eq_getElem_cons h1, List.drop_eq_getElem_cons h2, cmpK]
theorem cmpK_short {x y : List Int} {k : Nat} (hx : k < x.length) (hy : y.length ≤ k) : cmpK (x.drop k) (y.drop k) = 1 := by
  rw [List.drop_eq_getElem_cons hx, List.drop_of_length_le hy, cmpK]
theorem cmpK_end {x y : List Int} {k : Nat} (hx : x.length ≤ k) (hy : k < y.length) : cmpK (x.drop k) (y.drop k) = -1 := by
  rw [List.drop_eq_getElem_cons hy, List.drop_of_length_le hx, cmpK]
theorem cmpK_both {x y : List Int} {k : Nat} (hx : x.length ≤ k) (hy : y.length ≤ k) : cmpK (x.drop k) (y.drop k) = 0 := by
  rw [List.drop_of_length_le hx, List.drop_of_length_le hy, cmpK]

def cmpI (a b : Int) : Int := if a < b then -1 else if b < a then 1 else 0

end Go.Proofs.Ytlclllkjnhgbjaa

namespace Go.Proofs.Ytlclllkjnhgbjaa
open Go.RowKit
set_option linter.unusedVariables false

@[local go_sem] theorem fct_get0 (f : Fct) : f.cs[0]? = some f.ks.v := rfl

theorem less_of {x y : List Int} {r : Int} (h : cmpK x y = r) : lessK x y = (r == -1) := by unfold lessK; rw [h]

theorem own_cap {w : World} {base : Nat} {e : TypeId} {size n : Nat} {v : Value} {xs : List Value} (h : w.ownsRow base e size v n xs) : ∀ A c, v = .slice A n c → c ≤ maxLen := by
  intro A c hv
  rcases h.2 with ⟨rfl, _⟩ | ⟨g, cap, cur, rfl, _, _, _, hc, _⟩
  · injection hv with _ _ h3; rw [← h3]; exact Nat.zero_le _
  · injection hv with _ _ h3; rw [← h3]; exact hc

/-- A row of numbers in new memory. -/
structure NewInts (w w' : World) (zs : List Int) (x : Row Int) : Prop where
  l : x.l = zs
  ok : x.ok w'
  new : 0 < x.n → ∀ ad, x.A = some ad → w.heap.size ≤ ad.block
def NewIntsV (w w' : World) (zs : List Int) (e : Ending) : Prop := ∃ x : Row Int, e = .returned x.v ∧ NewInts w w' zs x

set_option maxRecDepth 100000 in
set_option maxHeartbeats 1000000 in
theorem cloneInts_any (x : Row Int) (w : World) (hx : x.ok w) :
    Calls Try.prog 87 #[x.v] w fun e w' => NewIntsV w w' x.l e ∧ Bel w w' := by
  obtain ⟨A, n, c, l⟩ := x
  have Hx := Lib.hid hx
  have hr : Rd w 1 A n (l.map (Value.int .i64)) := hx.ints
  have hlen : Hid (l.length = n) := hx.len
  have hc : Hid (n ≤ c ∧ c ≤ maxLen) := ⟨hx.le, hx.cap⟩
  have hn : n * 8 ≤ 140737488351232 := hx.reach
  clear hx
  simp only [Row.v] at *
  cases A with
  | none =>
    obtain rfl : n = 0 := by
      rcases Nat.eq_zero_or_pos n with h | h
      · exact h
      · obtain ⟨ad, e, _⟩ := hr.2 h; cases e
    have hl : l = [] := List.eq_nil_of_length_eq_zero hlen.out
    subst hl
    have he := fun (c : Nat) (w : World) => Lib.run_eql_slice_nil (P := Try.prog) w 59 3 none 0 c 0 0 Try.underlying59
    go_enter Try.func87, Try.ntmps87
    go_wp2
    go_ret
    exact ⟨⟨⟨none, 0, 0, []⟩, rfl, ⟨rfl, ⟨Rd.nil, by simp, Nat.le_refl _, Nat.zero_le _, Nat.zero_le _⟩, fun h => absurd h (by simp)⟩⟩, Bel.refl _⟩
  | some ad =>
    have he := fun (n c : Nat) (w : World) => Lib.run_eql_slice_nil (P := Try.prog) w 59 3 (some ad) n c 0 0 Try.underlying59
    have hbs : ∀ w : World, (Instr.buildSlice 59 0 #[]).run Try.prog w = .ok (.slice (some ⟨w.heap.size, 0, none⟩) 0 0) (w.alloc (.cells #[] 3)) := fun _ => by kernel_rfl
    have hown : (w.alloc (.cells #[] 3)).ownsRow w.heap.size 3 1 (.slice (some ⟨w.heap.size, 0, none⟩) 0 0) 0 [] := ⟨rfl, .inr ⟨w.heap.size, 0, #[], rfl, Nat.le_refl _, heap_alloc_new w _, Nat.le_refl _, Nat.zero_le _, rfl, rfl⟩⟩
    go_enter Try.func87, Try.ntmps87
    go_wp2_with ((with_reducible show wpList _ _ _ (⟨some 7, _, _, _, _, _⟩ :: _) _ _); refine wpList_append1 rfl (.tmp 5) (.tmp 6) _ rfl E_int w ((Bel.refl w).alloc _) _ 0 [] rfl hown (some ad) n c (l.map (Value.int .i64)) rfl (hr.bel ((Bel.refl w).alloc _)) (by simp [Value.oneCell']) (by unfold maxLen; omega) (by omega) ?_; intro v2 w2 hown2 hB2 hg2 hat2)
    go_ret
    simp only [Nat.zero_add, List.nil_append] at hown2
    refine ⟨?_, hB2⟩
    have hcap := own_cap hown2
    obtain ⟨A2, c2, rfl, hc2⟩ := own_slice hown2
    refine ⟨⟨A2, n, c2, l⟩, rfl, ⟨rfl, ⟨?_, Hx.out.all, hc2, hcap _ _ rfl, Hx.out.reach⟩, fun _ a ha => ?_⟩⟩
    · rw [flat_ints]; exact Rd.of_own hown2
    · subst ha
      exact own_ge hown2 rfl

end Go.Proofs.Ytlclllkjnhgbjaa

namespace Go.Proofs.Ytlclllkjnhgbjaa
open Go.RowKit
set_option linter.unusedVariables false
attribute [local go_sem] fct_get0

def Row.nil {α : Type} : Row α := ⟨none, 0, 0, []⟩
/-- A fact's tuple lies apart from a row. -/
def Away (v : Value) (f : Fct) : Prop := 0 < f.ks.n → ∀ ad, f.ks.A = some ad → v.ownBlock ≠ some ad.block
def cons (l : List Fct) : List (List Int × Ag) := l.map Fct.con
theorem Row.ok.grown {w w' : World} {x : Row Int} {row : Option Nat} (h : x.ok w) (hg : w.grownBy w' row) (ha : 0 < x.n → ∀ ad, x.A = some ad → row ≠ some ad.block) : x.ok w' := by
  refine ⟨⟨h.rd.1, fun hn => ?_⟩, h.all, h.le, h.cap, h.reach⟩
  obtain ⟨ad, e, hb, hc⟩ := h.rd.2 hn
  refine ⟨ad, e, Nat.lt_of_lt_of_le hb hg.size, fun j u hu => ?_⟩
  rw [← hc j u hu]
  refine World.cell?_of_block ?_
  rw [block_of_add]
  exact hg.block _ hb (fun e' => ha hn ad e e'.symm)
end Go.Proofs.Ytlclllkjnhgbjaa

namespace Go.Proofs.Ytlclllkjnhgbjaa
open Go.RowKit
set_option linter.unusedVariables false
attribute [local go_sem] fct_get0

/-- How many places facts have, at most 1000 of each. -/
def keySum (l : List Fct) : Nat := (l.map fun f => min f.ks.l.length 1000).sum
def fewF (m : Nat) (l : List Fct) : Bool := decide (l.length ≤ m) && decide (keySum (l.take (m + 1)) ≤ 2000)
theorem keySum_snoc {l : List Fct} {k : Nat} {f : Fct} (h : l[k]? = some f) : keySum (l.take (k + 1)) = keySum (l.take k) + min f.ks.l.length 1000 := by
  rw [List.take_add_one, h]
  simp [keySum]
theorem fewF_len {m : Nat} {l : List Fct} (h : fewF m l = true) : l.length ≤ m := by
  unfold fewF at h
  simp only [Bool.and_eq_true, decide_eq_true_eq] at h
  exact h.1

/-- A fact in a row: its first cell, and all of them. -/
theorem Row.ok.fct {w : World} {x : Row Fct} (h : x.ok w) {k : Nat} (hk : k < x.n) :
    ∃ b o f, x.A = some ⟨b, o, none⟩ ∧ b < w.heap.size ∧ x.l[k]? = some f ∧ f.ok w ∧ w.cell? ⟨b, o + k * 11, none⟩ = some f.ks.v ∧ w.rangeAt b (o + k * 11) f.cs.toList ∧ w.rangeAt b (o + k * 11 + 1) f.ag.cs.toList := by
  obtain ⟨b, o, f, e, hb, hf, hc⟩ := rd_at h.rd hk
  refine ⟨b, o, f, e, hb, hf, h.all f (List.mem_of_getElem? hf), hc 0 _ rfl, fun j v hv => hc j v hv, fun j v hv => ?_⟩
  rw [Nat.add_assoc, Nat.add_comm 1 j]
  exact hc (j + 1) v hv

/-- Does each stand to the next one so? -/
def chain (r : List Int → List Int → Bool) : List (List Int) → Bool
  | a :: b :: l => r a b && chain r (b :: l)
  | _ => true
def keysOf (l : List Fct) : List (List Int) := l.map fun f => f.ks.l
theorem chain_drop {r : List Int → List Int → Bool} {l : List (List Int)} {k : Nat} {a b : List Int} (ha : l[k]? = some a) (hb : l[k + 1]? = some b) : chain r (l.drop k) = (r a b && chain r (l.drop (k + 1))) := by
  obtain ⟨h1, rfl⟩ := List.getElem?_eq_some_iff.1 ha
  obtain ⟨h2, rfl⟩ := List.getElem?_eq_some_iff.1 hb
  rw [List.drop_eq_getElem_cons h1, List.drop_eq_getElem_cons h2, chain]
theorem chain_end {r : List Int → List Int → Bool} {l : List (List Int)} {k : Nat} (h : l.length ≤ k + 1) : chain r (l.drop k) = true := by
  have : (l.drop k).length ≤ 1 := by rw [List.length_drop]; omega
  match l.drop k, this with
  | [], _ => rfl
  | [a], _ => rfl
theorem keys_get {l : List Fct} {k : Nat} {f : Fct} (h : l[k]? = some f) : (keysOf l)[k]? = some f.ks.l := by unfold keysOf; rw [List.getElem?_map, h]; rfl
theorem keys_len (l : List Fct) : (keysOf l).length = l.length := by unfold keysOf; rw [List.length_map]
def risesF (l : List Fct) : Bool := chain lessK (keysOf l)
def sortedF (l : List Fct) : Bool := chain (fun a b => !lessK b a) (keysOf l)

end Go.Proofs.Ytlclllkjnhgbjaa

namespace Go.Proofs.Ytlclllkjnhgbjaa
open Go.RowKit
set_option linter.unusedVariables false
attribute [local go_sem] fct_get0

/-- Do two rows say the same? -/
def sameF (a b : List Fct) : Bool := decide (cons a = cons b)
theorem cons_len (l : List Fct) : (cons l).length = l.length := by unfold cons; rw [List.length_map]
theorem cons_get {l : List Fct} {k : Nat} {f : Fct} (h : l[k]? = some f) : (cons l)[k]? = some f.con := by unfold cons; rw [List.getElem?_map, h]; rfl
theorem same_not {a b : List Fct} {k : Nat} {f g : Fct} (hf : a[k]? = some f) (hg : b[k]? = some g) (h : f.con ≠ g.con) : sameF a b = false := by
  unfold sameF
  rw [decide_eq_false_iff_not]
  intro e
  have h1 := cons_get hf
  rw [e, cons_get hg] at h1
  injection h1 with h1
  exact h h1.symm
theorem cons_snoc {l : List Fct} {k : Nat} {f : Fct} (h : l[k]? = some f) : cons (l.take (k + 1)) = cons (l.take k) ++ [f.con] := by
  rw [List.take_add_one, h]
  simp [cons]
theorem con_ne_ag {f g : Fct} (h : ¬ f.ag = g.ag) : f.con ≠ g.con := fun e => h (congrArg Prod.snd e)
theorem con_ne_less {f g : Fct} (h : lessK f.ks.l g.ks.l = true) : f.con ≠ g.con := fun e => by
  have e1 : f.ks.l = g.ks.l := congrArg Prod.fst e
  rw [e1] at h
  unfold lessK at h
  rw [cmpK_self] at h
  cases h
theorem con_eq {f g : Fct} (h : f.ag = g.ag) (h1 : lessK f.ks.l g.ks.l = false) (h2 : lessK g.ks.l f.ks.l = false) : f.con = g.con := by
  have := cmpK_range f.ks.l g.ks.l
  have hs := cmpK_swap f.ks.l g.ks.l
  unfold lessK at h1 h2
  simp at h1 h2
  have h0 : cmpK f.ks.l g.ks.l = 0 := by omega
  unfold Fct.con
  rw [cmpK_eq h0, h]

theorem Fct.ok.over {f : Fct} {w : World} (h : f.ok w) (u : Over w) : f.ok u.wd := ⟨h.ks.mono u.bel, h.ag⟩

end Go.Proofs.Ytlclllkjnhgbjaa
