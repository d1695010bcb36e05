/- Texts laid together: XDimP XDimW XSepT XDimR XDimQ XDimU XDimV XDimX XDimZ XDimA XDimT XScanB XDimS XTierChecksW XDimY XDimChecksW. -/
import Derived.Test.YtlclllkjnhgbjaaBe
import Derived.Test.YtlclllkjnhgbjaaSep
import Derived.Test.YtlclllkjnhgbjaaBf
import Derived.Test.YtlclllkjnhgbjaaBd

namespace Go.Proofs.Ytlclllkjnhgbjaa
open Go.RowKit
set_option linter.unusedVariables false
set_option linter.unusedSimpArgs false

/-- What a dimension says. -/
structure DC where
  nm : List UInt8
  trs : List TC
deriving DecidableEq
/-- How many members the lowest of some tiers has. -/
def aboveOf : List TC → Int
  | [] => 0
  | t :: _ => t.ts.length
def dimFrom : List (List UInt8) → List TC → Int
  | _, [] => 0
  | seen, t :: r => if tierErr t (aboveOf r) ≠ 0 then tierErr t (aboveOf r) else if t.nm ∈ seen then 11 else dimFrom (seen ++ [t.nm]) r
def dimErr (d : DC) : Int := if isName d.nm then (if d.trs.length < 1 ∨ 4 < d.trs.length then 5 else dimFrom [] d.trs) else 2
def dimPut (d : DC) : List UInt8 := ptext d.nm ++ nput d.trs.length ++ d.trs.reverse.flatMap tierPut
/-- So many tiers more, each below those that are there. -/
def pdims : Nat → List TC → List UInt8 → PR (List TC)
  | 0, acc, l => .ok (acc, l)
  | n + 1, acc, l =>
    match ptier (aboveOf acc) l with
    | .error k => .error k
    | .ok (t, r) => pdims n (t :: acc) r
def pdimC (d : DC) (r : List UInt8) : PR DC := if dimErr d = 0 then .ok (d, r) else .error (dimErr d)
def pdim (l : List UInt8) : PR DC :=
  match ptxt 12 l with
  | .error k => .error k
  | .ok (nm, r) =>
    match pnum 4 r with
    | .error k => .error k
    | .ok (n, r) =>
      match pdims n [] r with
      | .error k => .error k
      | .ok (trs, r) => pdimC ⟨nm, trs⟩ r

def AllOk : List TC → Prop
  | [] => True
  | t :: r => tierErr t (aboveOf r) = 0 ∧ AllOk r
def OkDown : List TC → List TC → Prop
  | _, [] => True
  | acc, t :: rs => tierErr t (aboveOf acc) = 0 ∧ OkDown (t :: acc) rs
theorem allOk_suffix {ms acc : List TC} (h : AllOk (ms ++ acc)) : AllOk acc := by
  induction ms with
  | nil => exact h
  | cons t ms ih => exact ih h.2
theorem okDown_of {rs : List TC} : ∀ {acc : List TC}, AllOk (rs.reverse ++ acc) → OkDown acc rs := by
  induction rs with
  | nil => intro acc h; trivial
  | cons t rs ih =>
    intro acc h
    rw [List.reverse_cons, List.append_assoc] at h
    exact ⟨(allOk_suffix h).1, ih h⟩
theorem dimFrom_ok {trs : List TC} : ∀ {seen : List (List UInt8)}, dimFrom seen trs = 0 → AllOk trs := by
  induction trs with
  | nil => intro seen h; trivial
  | cons t r ih =>
    intro seen h
    rw [dimFrom] at h
    split at h
    · rename_i h1; exact absurd h h1
    · rename_i h1
      split at h
      · cases h
      · exact ⟨by omega, ih h⟩
theorem dimErr_zero {d : DC} (h : dimErr d = 0) : isName d.nm = true ∧ 1 ≤ d.trs.length ∧ d.trs.length ≤ 4 ∧ dimFrom [] d.trs = 0 := by
  unfold dimErr at h
  split at h
  · rename_i h1
    split at h
    · cases h
    · rename_i h2
      exact ⟨h1, by omega, by omega, h⟩
  · cases h
theorem aboveOf_le {trs : List TC} (h : AllOk trs) : aboveOf trs ≤ 9223372036854775807 := by
  cases trs with
  | nil => show (0 : Int) ≤ _; omega
  | cons t r =>
    have := (tierErr_zero h.1).2.2.1
    show ((t.ts.length : Nat) : Int) ≤ _
    omega
theorem pdims_put {rs : List TC} : ∀ {acc : List TC} (r : List UInt8), OkDown acc rs → AllOk acc → pdims rs.length acc (rs.flatMap tierPut ++ r) = .ok (rs.reverse ++ acc, r) := by
  induction rs with
  | nil => intro acc r h ha; rfl
  | cons t rs ih =>
    intro acc r h ha
    rw [List.length_cons, pdims, List.flatMap_cons, List.append_assoc, ptier_put (aboveOf_le ha) h.1]
    simp only
    rw [ih r h.2 ⟨h.1, ha⟩]
    simp
theorem pdim_put {d : DC} (h : dimErr d = 0) (r : List UInt8) : pdim (dimPut d ++ r) = .ok (d, r) := by
  obtain ⟨h1, h2, h3, h4⟩ := dimErr_zero h
  have hl := isName_len h1
  have e : dimPut d ++ r = ptext d.nm ++ (nput d.trs.length ++ (d.trs.reverse.flatMap tierPut ++ r)) := by unfold dimPut; simp only [List.append_assoc]
  unfold pdim
  rw [e, q_ptxt (by omega) (by omega)]
  simp only
  rw [q_pnum (by omega) (by omega)]
  simp only
  have hd : OkDown [] d.trs.reverse := okDown_of (by simpa using dimFrom_ok h4)
  have := pdims_put r hd trivial
  rw [List.length_reverse, List.reverse_reverse, List.append_nil] at this
  rw [this]
  simp only
  unfold pdimC
  rw [if_pos h]
theorem pdims_back {n : Nat} : ∀ {acc trs : List TC} {l r : List UInt8}, pdims n acc l = .ok (trs, r) → ∃ ms : List TC, trs = ms ++ acc ∧ ms.length = n ∧ l = ms.reverse.flatMap tierPut ++ r := by
  induction n with
  | zero =>
    intro acc trs l r h
    injection h with h
    injection h with h1 h2
    subst h1
    subst h2
    exact ⟨[], rfl, rfl, rfl⟩
  | succ n ih =>
    intro acc trs l r h
    rw [pdims] at h
    split at h
    · cases h
    · rename_i t r1 h1
      obtain ⟨ms, e1, e2, e3⟩ := ih h
      refine ⟨ms ++ [t], ?_, by simp [e2], ?_⟩
      · rw [e1]
        simp
      · rw [(ptier_back h1).2, e3]
        simp
theorem pdim_back {l r : List UInt8} {d : DC} (h : pdim l = .ok (d, r)) : dimErr d = 0 ∧ l = dimPut d ++ r := by
  unfold pdim at h
  split at h
  · cases h
  · rename_i nm r1 h1
    split at h
    · cases h
    · rename_i n r2 h2
      split at h
      · cases h
      · rename_i trs r3 h3
        unfold pdimC at h
        split at h
        · rename_i h4
          injection h with h
          injection h with h5 h6
          subst h5
          subst h6
          refine ⟨h4, ?_⟩
          obtain ⟨ms, e1, e2, e3⟩ := pdims_back h3
          rw [List.append_nil] at e1
          subst e1
          unfold dimPut
          rw [q_ptxt_back h1, q_pnum_back h2, e3, e2]
          simp only [List.append_assoc]
        · cases h
theorem dimFrom_range (trs : List TC) : ∀ seen, dimFrom seen trs = 0 ∨ dimFrom seen trs = 2 ∨ dimFrom seen trs = 4 ∨ dimFrom seen trs = 5 ∨ dimFrom seen trs = 11 ∨ dimFrom seen trs = 14 := by
  induction trs with
  | nil => intro seen; exact .inl rfl
  | cons t r ih =>
    intro seen
    rw [dimFrom]
    have := tierErr_range t (aboveOf r)
    split
    · omega
    · split
      · omega
      · exact ih _
theorem dimErr_range (d : DC) : dimErr d = 0 ∨ dimErr d = 2 ∨ dimErr d = 4 ∨ dimErr d = 5 ∨ dimErr d = 11 ∨ dimErr d = 14 := by
  unfold dimErr
  have := dimFrom_range d.trs []
  split
  · split
    · omega
    · exact this
  · omega

end Go.Proofs.Ytlclllkjnhgbjaa

namespace Go.Proofs.Ytlclllkjnhgbjaa
open Go.RowKit
set_option linter.unusedVariables false
set_option linter.unusedSimpArgs false

abbrev Dm.con (d : Dm) : DC := ⟨d.nm, d.tr.l.map Tir.con⟩

/-- Names met. -/
def litsS (xs : List (List UInt8)) : List Lit := xs.map Lit.string
theorem litsS_key (xs : List (List UInt8)) : ∀ x ∈ litsS xs, WideAt.IsKeyLit x := by
  intro x hx
  obtain ⟨y, _, rfl⟩ := List.mem_map.1 hx
  trivial
theorem atKey_names (xs : List (List UInt8)) (x : List UInt8) : (Maps.setOf one1 (litsS xs)).atKey (.string x) (.lit (.int .i64 0)) = .lit (.int .i64 (if x ∈ xs then 1 else 0)) := by
  have key : ∀ ys : List (List UInt8), (Maps.setOf one1 (litsS ys.reverse)).atKey (.string x) (.lit (.int .i64 0)) = .lit (.int .i64 (if x ∈ ys then 1 else 0)) := by
    intro ys
    induction ys with
    | nil => rfl
    | cons y ys ih =>
      have e : litsS (y :: ys).reverse = litsS ys.reverse ++ [.string y] := by unfold litsS; simp
      rw [e, Maps.setOf_snoc]
      by_cases h : x = y
      · subst h
        rw [Maps.atKey_put_same (Maps.tidy_setOf _ _ (litsS_key _)).isMap (show WideAt.IsKeyLit (.string x) from trivial)]
        simp
      · rw [Maps.atKey_put_other (by intro e; injection e with e; exact h e), ih]
        simp [h]
  have := key xs.reverse
  simpa using this
theorem put_names (xs : List (List UInt8)) (x : List UInt8) (v c : Int) (h : ((Maps.setOf one1 (litsS xs)).put (.string x) (.lit (.int .i64 v))).atKey (.string x) (.lit (.int .i64 0)) = .lit (.int .i64 c)) : c = v := by
  rw [Maps.atKey_put_same (Maps.tidy_setOf _ _ (litsS_key _)).isMap (show WideAt.IsKeyLit (.string x) from trivial)] at h
  injection h with h
  injection h with _ h
  exact h.symm
theorem dimFrom_drop {trs : List TC} {k : Nat} {t : TC} {seen : List (List UInt8)} (h : trs[k]? = some t) : dimFrom seen (trs.drop k) = if tierErr t (aboveOf (trs.drop (k + 1))) ≠ 0 then tierErr t (aboveOf (trs.drop (k + 1))) else if t.nm ∈ seen then 11 else dimFrom (seen ++ [t.nm]) (trs.drop (k + 1)) := by
  obtain ⟨hk, rfl⟩ := List.getElem?_eq_some_iff.1 h
  rw [List.drop_eq_getElem_cons hk, dimFrom]

theorem zero_int (w : World) : (zeroValue 3).run Try.prog w = .ok (.int .i64 0) w := by kernel_rfl
end Go.Proofs.Ytlclllkjnhgbjaa

namespace Go.Proofs.Ytlclllkjnhgbjaa
open Go.RowKit
set_option linter.unusedVariables false

/-- Where a tier's rows lie. -/
def Tir.D (T : Tir) (g : Nat) : Prop := T.ts.v.ownBlock = some g ∨ T.up.v.ownBlock = some g
abbrev rTir (T : Tir) : Res := ⟨T.D, TirOwn 0 T⟩
theorem holds_tir {base : Nat} {T : Tir} {w : World} (h : TirOwn base T w) : (rTir T).holds w := by
  have h1 := holds_row h.ts
  have h2 := holds_row h.up
  refine ⟨fun g hg => hg.elim (h1.1 g) (h2.1 g), fun w' hs hk => ⟨h1.2 w' hs fun g hg => hk g (.inl hg), h2.2 w' hs fun g hg => hk g (.inr hg), h.nm, h.tl, h.ul, h.tn, h.un⟩⟩
theorem tir_new {base : Nat} {T : Tir} {w : World} (h : TirOwn base T w) : ∀ g, T.D g → base ≤ g := fun g hg => hg.elim (own_ge h.ts) (own_ge h.up)
theorem tir_base {base : Nat} {T : Tir} {w : World} (h : TirOwn 0 T w) (hb : ∀ g, T.D g → base ≤ g) : TirOwn base T w :=
  ⟨own_base h.ts fun g hg => hb g (.inl hg), own_base h.up fun g hg => hb g (.inr hg), h.nm, h.tl, h.ul, h.tn, h.un⟩
theorem tir_nil_own (w : World) : TirOwn 0 Tir.nil w := ⟨World.ownsRow_nil w 0 _ _, World.ownsRow_nil w 0 _ _, by simp, (fun t ht => by cases ht), (fun t ht => by cases ht), by show (0 : Nat) ≤ 200; omega, by show (0 : Nat) ≤ 200; omega⟩

/-- Tiers. -/
def TirsOwn (l : List Tir) (w : World) : Prop := ∀ T ∈ l, TirOwn 0 T w
abbrev rTirs (l : List Tir) : Res := ⟨fun g => ∃ T, T ∈ l ∧ T.D g, TirsOwn l⟩
theorem holds_tirs_nil (w : World) : (rTirs []).holds w := ⟨fun g ⟨T, hT, _⟩ => (by cases hT), fun w' _ _ T hT => by cases hT⟩
theorem holds_tirs_cons {T : Tir} {l : List Tir} {w : World} (h1 : (rTir T).holds w) (h2 : (rTirs l).holds w) : (rTirs (T :: l)).holds w := by
  refine ⟨fun g ⟨U, hU, hg⟩ => ?_, fun w' hs hk U hU => ?_⟩
  · rcases List.mem_cons.1 hU with rfl | hU
    · exact h1.1 g hg
    · exact h2.1 g ⟨U, hU, hg⟩
  · rcases List.mem_cons.1 hU with rfl | hU
    · exact h1.2 w' hs fun g hg => hk g ⟨U, List.mem_cons_self .., hg⟩
    · exact h2.2 w' hs (fun g ⟨V, hV, hg⟩ => hk g ⟨V, List.mem_cons_of_mem _ hV, hg⟩) U hU
theorem tirs_cons_D {T : Tir} {l : List Tir} : ∀ g, (rTirs (T :: l)).D g → (rTirs l).D g ∨ (rTir T).D g := fun g ⟨U, hU, hg⟩ => by
  rcases List.mem_cons.1 hU with rfl | hU
  · exact .inr hg
  · exact .inl ⟨U, hU, hg⟩

def Dm.D (d : Dm) (g : Nat) : Prop := d.tr.v.ownBlock = some g ∨ ∃ T, T ∈ d.tr.l ∧ T.D g
abbrev Dm.nil : Dm := ⟨[], ⟨none, 0, 0, []⟩⟩
abbrev DC.nil : DC := ⟨[], []⟩
theorem dm_nil_rd (w : World) : Dm.nil.rd w := ⟨by simp, Row.nil_rd w⟩
/-- Of new memory. -/
def NewR (w w' : World) (r : Res) : Prop := r.holds w' ∧ ∀ g, r.D g → w.heap.size ≤ g

end Go.Proofs.Ytlclllkjnhgbjaa

namespace Go.Proofs.Ytlclllkjnhgbjaa
open Go.RowKit
set_option linter.unusedVariables false
set_option linter.unusedSimpArgs false

theorem own_made (w : World) (t : TypeId) (cs : Array Value) (size : Nat) (hs : cs.size = size) : (w.alloc (.cells cs t)).ownsRow w.heap.size t size (.slice (some ⟨w.heap.size, 0, none⟩) 1 1) 1 cs.toList :=
  ⟨by simp [hs], .inr ⟨w.heap.size, 1, cs, rfl, Nat.le_refl _, heap_alloc_new w _, Nat.le_refl _, by unfold maxLen; omega, by omega, by rw [List.take_of_length_le (by simp [hs])]⟩⟩
theorem tirs_one (l : List Tir) : ∀ u ∈ (l.flatMap Cel.cells : List Value), u.oneCell' = true := by
  intro u hu
  obtain ⟨T, _, hT⟩ := List.mem_flatMap.1 hu
  have := tir_one T
  rw [Array.all_eq_true'] at this
  exact this u (Array.mem_toList_iff.1 hT)
theorem pdims_err {n : Nat} {k : Int} : ∀ {acc : List TC} {l : List UInt8}, pdims n acc l = .error k → k ≠ 0 := by
  induction n with
  | zero => intro acc l h; cases h
  | succ n ih =>
    intro acc l h
    rw [pdims] at h
    split at h
    · rename_i h1; injection h with h; subst h; exact ptier_err h1
    · exact ih h
theorem pdim_err {k : Int} {l : List UInt8} (h : pdim l = .error k) : k ≠ 0 := by
  unfold pdim at h
  split at h
  · rename_i h1; injection h with h; subst h; have := ptxt_err h1; omega
  · split at h
    · rename_i h1; injection h with h; subst h; have := pnum_err h1; omega
    · split at h
      · rename_i h1; injection h with h; subst h; exact pdims_err h1
      · unfold pdimC at h
        split at h
        · cases h
        · rename_i h1; injection h with h; subst h; exact h1

end Go.Proofs.Ytlclllkjnhgbjaa

namespace Go.Proofs.Ytlclllkjnhgbjaa
open Go.RowKit
set_option linter.unusedVariables false
set_option linter.unusedSimpArgs false

/-- So many tiers up. -/
def liftN : List TC → Nat → Int → Int
  | _, 0, i => i
  | [], _ + 1, i => i
  | t :: r, m + 1, i => if i < 0 then i else liftN r m (overOf t.up i)
theorem liftN_neg {l : List TC} {m : Nat} {i : Int} (h : i < 0) : liftN l m i = i := by
  cases m with
  | zero => cases l <;> rfl
  | succ m =>
    cases l with
    | nil => rfl
    | cons t r => rw [liftN, if_pos h]
theorem liftN_nil {m : Nat} {i : Int} : liftN [] m i = i := by cases m <;> rfl
theorem liftN_zero {l : List TC} {i : Int} : liftN l 0 i = i := by cases l <;> rfl
theorem liftN_add (m n : Nat) : ∀ (l : List TC) (i : Int), liftN l (m + n) i = liftN (l.drop m) n (liftN l m i) := by
  induction m with
  | zero => intro l i; rw [liftN_zero]; simp
  | succ m ih =>
    intro l i
    cases l with
    | nil => simp [liftN_nil]
    | cons t r =>
      rw [show m + 1 + n = (m + n) + 1 by omega, liftN, liftN, List.drop_succ_cons]
      by_cases h : i < 0
      · rw [if_pos h, if_pos h, liftN_neg h]
      · rw [if_neg h, if_neg h, ih]
theorem liftN_drop {trs : List TC} {k m : Nat} {t : TC} {i : Int} (h : trs[k]? = some t) (hi : 0 ≤ i) : liftN (trs.drop k) (m + 1) i = liftN (trs.drop (k + 1)) m (overOf t.up i) := by
  obtain ⟨hk, rfl⟩ := List.getElem?_eq_some_iff.1 h
  rw [List.drop_eq_getElem_cons hk, liftN, if_neg (by omega)]
/-- How many members the tier at a place has. -/
def sizeAt (trs : List TC) (k : Nat) : Nat := match trs[k]? with | some t => t.ts.length | none => 0
def liftOf (trs : List TC) (f t i : Int) : Int :=
  if 0 ≤ f ∧ f ≤ t ∧ t < trs.length ∧ 0 ≤ i ∧ i < sizeAt trs f.toNat then max (liftN (trs.drop f.toNat) (t - f).toNat i) (-1) else -1
def mapOf (trs : List TC) (f t : Int) : List Int :=
  if 0 ≤ f ∧ f ≤ t ∧ t < trs.length then (List.range (sizeAt trs f.toNat)).map (fun (k : Nat) => liftOf trs f t k) else []
def drillOf (trs : List TC) (f t i : Int) : List Int := if 0 ≤ i then placesOf i 0 (mapOf trs f t) else []

theorem treeOk_pos {up : List Int} {n : Nat} {above : Int} (h : treeOk up n above = true) (ha : 0 < above) :
    up.length = n ∧ (∀ z ∈ up, 0 ≤ z ∧ z < above) ∧ ∀ i : Nat, (i : Int) < above → (i : Int) ∈ up := by
  unfold treeOk at h
  rw [if_neg (by omega)] at h
  simp only [Bool.and_eq_true, decide_eq_true_eq, List.all_eq_true, List.mem_range, List.contains_iff_mem] at h
  exact ⟨h.1.1, h.1.2, fun i hi => h.2 i (by omega)⟩
theorem AllOk.size {t : TC} {r : List TC} (h : AllOk (t :: r)) : 1 ≤ t.ts.length := (tierErr_zero h.1).2.1
theorem AllOk.step {t u : TC} {r : List TC} (h : AllOk (t :: u :: r)) : t.up.length = t.ts.length ∧ (∀ z ∈ t.up, 0 ≤ z ∧ z < u.ts.length) ∧ ∀ i : Nat, i < u.ts.length → (i : Int) ∈ t.up := by
  have h1 := (tierErr_zero h.1).2.2.2.2
  have h2 := AllOk.size h.2
  simp only [aboveOf] at h1
  obtain ⟨a, b, c⟩ := treeOk_pos h1 (by omega)
  exact ⟨a, b, fun i hi => c i (by omega)⟩
theorem sizeAt_succ (t : TC) (r : List TC) (m : Nat) : sizeAt (t :: r) (m + 1) = sizeAt r m := rfl
theorem liftN_range (m : Nat) : ∀ {l : List TC} {i : Int}, AllOk l → m < l.length → 0 ≤ i → i < sizeAt l 0 → 0 ≤ liftN l m i ∧ liftN l m i < sizeAt l m := by
  induction m with
  | zero => intro l i _ _ h0 h1; rw [liftN_zero]; exact ⟨h0, h1⟩
  | succ m ih =>
    intro l i ha hm h0 h1
    match l, ha, hm, h1 with
    | t :: u :: r, ha, hm, h1 =>
      rw [liftN, if_neg (by omega), sizeAt_succ]
      obtain ⟨e, hz, _⟩ := AllOk.step ha
      have hi : i.toNat < t.up.length := by rw [e]; have : i < (t.ts.length : Int) := h1; omega
      have ho : overOf t.up i = t.up[i.toNat] := by unfold overOf; rw [if_neg (by omega), List.getElem?_eq_getElem hi]; rfl
      have := hz _ (List.getElem_mem hi)
      refine ih ha.2 (by simpa using hm) (by rw [ho]; exact this.1) ?_
      rw [ho]
      exact this.2
    | [t], ha, hm, h1 => simp at hm
    | [], ha, hm, h1 => simp at hm
theorem liftN_onto (m : Nat) : ∀ {l : List TC} {j : Nat}, AllOk l → m < l.length → j < sizeAt l m → ∃ i : Nat, i < sizeAt l 0 ∧ liftN l m i = j := by
  induction m with
  | zero => intro l j _ _ h; exact ⟨j, h, liftN_zero⟩
  | succ m ih =>
    intro l j ha hm h
    match l, ha, hm, h with
    | t :: u :: r, ha, hm, h =>
      rw [sizeAt_succ] at h
      obtain ⟨i', hi', hl⟩ := ih ha.2 (by simpa using hm) h
      obtain ⟨e, _, hz⟩ := AllOk.step ha
      obtain ⟨i, hi, hv⟩ := List.mem_iff_getElem.1 (hz i' hi')
      refine ⟨i, by rw [e] at hi; exact hi, ?_⟩
      rw [liftN, if_neg (by omega)]
      have ho : overOf t.up i = i' := by unfold overOf; rw [if_neg (by omega), Int.toNat_natCast, List.getElem?_eq_getElem hi, hv]; rfl
      rw [ho, hl]
    | [t], ha, hm, h => simp at hm
    | [], ha, hm, h => simp at hm
theorem sizeAt_drop (trs : List TC) (f m : Nat) : sizeAt (trs.drop f) m = sizeAt trs (f + m) := by unfold sizeAt; rw [List.getElem?_drop]
theorem allOk_drop {trs : List TC} (h : AllOk trs) (f : Nat) : AllOk (trs.drop f) := by
  have := List.take_append_drop f trs
  rw [← this] at h
  exact allOk_suffix h

/-- Of a dimension that may be: a lift stays within; by whichever way. -/
theorem lift_within {trs : List TC} (h : AllOk trs) {f t i : Nat} (h1 : f ≤ t) (h2 : t < trs.length) (h3 : i < sizeAt trs f) : liftOf trs f t i = liftN (trs.drop f) (t - f) i ∧ 0 ≤ liftOf trs f t i ∧ liftOf trs f t i < sizeAt trs t := by
  have e : liftOf trs f t i = max (liftN (trs.drop f) (t - f) i) (-1) := by
    unfold liftOf
    rw [if_pos ⟨by omega, by omega, by omega, by omega, by simpa using h3⟩]
    have : ((t : Int) - f).toNat = t - f := by omega
    rw [this]; rfl
  have hr := liftN_range (t - f) (l := trs.drop f) (i := i) (allOk_drop h f) (by simp; omega) (by omega) (by rw [sizeAt_drop]; simpa using h3)
  rw [sizeAt_drop, show f + (t - f) = t by omega] at hr
  rw [e]
  omega
theorem lift_way {trs : List TC} (h : AllOk trs) {f b t i : Nat} (h0 : f ≤ b) (h1 : b ≤ t) (h2 : t < trs.length) (h3 : i < sizeAt trs f) : liftOf trs b t (liftOf trs f b i) = liftOf trs f t i := by
  obtain ⟨e1, p1, q1⟩ := lift_within h (f := f) (t := b) (i := i) h0 (by omega) h3
  obtain ⟨j, hj⟩ : ∃ j : Nat, liftOf trs f b i = j := ⟨(liftOf trs f b i).toNat, by omega⟩
  obtain ⟨e2, _, _⟩ := lift_within h (f := f) (t := t) (i := i) (by omega) h2 h3
  rw [hj]
  obtain ⟨e3, _, _⟩ := lift_within h (f := b) (t := t) (i := j) h1 h2 (by omega)
  rw [e2, e3, show t - f = (b - f) + (t - b) by omega, liftN_add, ← e1, hj, List.drop_drop, show f + (b - f) = b by omega]
theorem placesOf_len (x : Int) (l : List Int) : ∀ k, (placesOf x k l).length = l.count x := by
  induction l with
  | nil => intro k; rfl
  | cons z r ih =>
    intro k
    rw [placesOf, List.count_cons]
    by_cases h : z = x
    · simp [h, ih]
    · simp [h, ih]
def sumTo (f : Nat → Nat) : Nat → Nat
  | 0 => 0
  | n + 1 => sumTo f n + f n
theorem sumTo_zero (n : Nat) : sumTo (fun _ => 0) n = 0 := by induction n with | zero => rfl | succ n ih => simp [sumTo, ih]
theorem sumTo_add (f g : Nat → Nat) (n : Nat) : sumTo (fun k => f k + g k) n = sumTo f n + sumTo g n := by induction n with | zero => rfl | succ n ih => simp [sumTo, ih]; omega
theorem sumTo_one (x : Nat) (n : Nat) : sumTo (fun k => if x = k then 1 else 0) n = if x < n then 1 else 0 := by
  induction n with
  | zero => rfl
  | succ n ih =>
    rw [sumTo, ih]
    split <;> split <;> split <;> omega
theorem sumTo_count (N : Nat) (l : List Int) (h : ∀ z ∈ l, 0 ≤ z ∧ z < N) : sumTo (fun k => l.count (k : Int)) N = l.length := by
  induction l with
  | nil => simp [sumTo_zero]
  | cons z r ih =>
    have hz := h z (List.mem_cons_self ..)
    obtain ⟨x, rfl⟩ : ∃ x : Nat, z = x := ⟨z.toNat, by omega⟩
    have e : (fun k : Nat => ((x : Int) :: r).count (k : Int)) = fun k : Nat => r.count (k : Int) + (if x = k then 1 else 0) := by
      funext k
      rw [List.count_cons]
      by_cases hk : x = k
      · simp [hk]
      · have : ¬ ((x : Int) = k) := by omega
        simp [hk, this]
    rw [e, sumTo_add, ih (fun z hz => h z (List.mem_cons_of_mem _ hz)), sumTo_one, if_pos (by omega), List.length_cons]
theorem mapOf_len {trs : List TC} {f t : Nat} (h1 : f ≤ t) (h2 : t < trs.length) : (mapOf trs f t).length = sizeAt trs f := by
  unfold mapOf
  rw [if_pos ⟨by omega, by omega, by omega⟩]
  simp
theorem mapOf_within {trs : List TC} (h : AllOk trs) {f t : Nat} (h1 : f ≤ t) (h2 : t < trs.length) : ∀ z ∈ mapOf trs f t, 0 ≤ z ∧ z < sizeAt trs t := by
  intro z hz
  unfold mapOf at hz
  rw [if_pos ⟨by omega, by omega, by omega⟩] at hz
  simp only [Int.toNat_natCast, List.mem_map, List.mem_range] at hz
  obtain ⟨k, hk, rfl⟩ := hz
  exact (lift_within h h1 h2 hk).2
theorem drill_len {trs : List TC} {f t : Int} (k : Nat) : (drillOf trs f t k).length = (mapOf trs f t).count (k : Int) := by
  unfold drillOf
  rw [if_pos (by omega), placesOf_len]
theorem drill_some {trs : List TC} (h : AllOk trs) {f t : Nat} (h1 : f ≤ t) (h2 : t < trs.length) {k : Nat} (hk : k < sizeAt trs t) : 1 ≤ (drillOf trs f t k).length := by
  rw [drill_len]
  obtain ⟨i, hi, hl⟩ := liftN_onto (t - f) (l := trs.drop f) (j := k) (allOk_drop h f) (by simp; omega) (by rw [sizeAt_drop, show f + (t - f) = t by omega]; exact hk)
  rw [sizeAt_drop] at hi
  have hi : i < sizeAt trs f := by simpa using hi
  have : (k : Int) ∈ mapOf trs f t := by
    unfold mapOf
    rw [if_pos ⟨by omega, by omega, by omega⟩]
    simp only [Int.toNat_natCast, List.mem_map, List.mem_range]
    exact ⟨i, hi, by rw [(lift_within h h1 h2 hi).1, hl]⟩
  exact List.count_pos_iff.2 this
theorem drill_sum {trs : List TC} (h : AllOk trs) {f t : Nat} (h1 : f ≤ t) (h2 : t < trs.length) : sumTo (fun k => (drillOf trs f t k).length) (sizeAt trs t) = sizeAt trs f := by
  have e : (fun k : Nat => (drillOf trs f t k).length) = fun k : Nat => (mapOf trs f t).count (k : Int) := by funext k; exact drill_len k
  rw [e, sumTo_count _ _ (mapOf_within h h1 h2), mapOf_len h1 h2]

end Go.Proofs.Ytlclllkjnhgbjaa

namespace Go.Proofs.Ytlclllkjnhgbjaa
open Go.RowKit
set_option linter.unusedVariables false
set_option linter.unusedSimpArgs false

theorem sizeAt_tir {trs : List Tir} {k : Nat} {t : Tir} (h : trs[k]? = some t) : sizeAt (trs.map Tir.con) k = t.ts.l.length := by
  unfold sizeAt
  rw [List.getElem?_map, h]
  rfl

end Go.Proofs.Ytlclllkjnhgbjaa

namespace Go.Proofs.Ytlclllkjnhgbjaa
open Go.RowKit
set_option linter.unusedVariables false
set_option linter.unusedSimpArgs false

/-- A row of numbers that the call hands back, in new memory. -/
def IntsPost (xs : List Int) (w : World) (e : Ending) (w' : World) : Prop := ∃ (A : Option Addr) (c : Nat), e = .returned (.slice A xs.length c) ∧ Bel w w' ∧ w'.ownsRow w.heap.size 3 1 (.slice A xs.length c) xs.length (xs.map (Value.int .i64))
def sizesOf (trs : List TC) : List Int := trs.map (fun t => (t.ts.length : Int))
theorem take_snoc_get {α : Type} {l : List α} {k : Nat} {x : α} (h : l[k]? = some x) : l.take (k + 1) = l.take k ++ [x] := by
  obtain ⟨hk, rfl⟩ := List.getElem?_eq_some_iff.1 h
  exact List.take_succ_eq_append_getElem hk

theorem mapOf_get {trs : List TC} {f t : Int} {k : Nat} (h : k < (mapOf trs f t).length) : (mapOf trs f t)[k]? = some (liftOf trs f t k) := by
  unfold mapOf at h ⊢
  split at h
  · rename_i hc
    rw [if_pos hc]
    simp only [List.length_map, List.length_range] at h
    rw [List.getElem?_map, List.getElem?_range h]
    rfl
  · simp at h
theorem mapOf_no {trs : List TC} {f t : Int} (h : ¬ (0 ≤ f ∧ f ≤ t ∧ t < trs.length)) : mapOf trs f t = [] := by unfold mapOf; rw [if_neg h]
theorem intsPost_nil {w w' : World} (hb : Bel w w') : IntsPost [] w (.returned (.slice none 0 0)) w' := ⟨none, 0, rfl, hb, World.ownsRow_nil _ _ _ _⟩

end Go.Proofs.Ytlclllkjnhgbjaa

namespace Go.Proofs.Ytlclllkjnhgbjaa
open Go.RowKit
set_option linter.unusedVariables false
set_option linter.unusedSimpArgs false

theorem above_i64 {w : World} {trs : List Tir} (h : ∀ t ∈ trs, t.rd w) (k : Nat) : I64 (aboveOf ((trs.map Tir.con).drop k)) := by
  unfold I64
  cases hdr : (trs.map Tir.con).drop k with
  | nil => simp [aboveOf]
  | cons u r =>
    have hm : u ∈ (trs.map Tir.con) := List.mem_of_mem_drop (i := k) (by rw [hdr]; exact List.mem_cons_self ..)
    obtain ⟨v, hv, rfl⟩ := List.mem_map.1 hm
    have h1 := h v hv
    have h2 : v.ts.l.length = v.ts.n := Row.rd.len (Tir.rd.ts h1)
    have h3 := (Tir.rd.ts h1).n63
    simp only [aboveOf]
    omega

end Go.Proofs.Ytlclllkjnhgbjaa

namespace Go.Proofs.Ytlclllkjnhgbjaa
open Go.RowKit
set_option linter.unusedVariables false
set_option linter.unusedSimpArgs false

def sameD (a b : DC) : Bool := (a.nm == b.nm) && (a.trs == b.trs)
theorem sameD_self (a : DC) : sameD a a = true := by unfold sameD; simp
theorem tcsEq_step {xs ys : List TC} {k : Nat} {a b : TC} (ha : xs[k]? = some a) (hb : ys[k]? = some b) : (xs.drop k == ys.drop k) = (sameC a b && (xs.drop (k + 1) == ys.drop (k + 1))) := by
  obtain ⟨h1, rfl⟩ := List.getElem?_eq_some_iff.1 ha
  obtain ⟨h2, rfl⟩ := List.getElem?_eq_some_iff.1 hb
  rw [List.drop_eq_getElem_cons h1, List.drop_eq_getElem_cons h2, sameC_iff]
  rfl

end Go.Proofs.Ytlclllkjnhgbjaa

namespace Go.Proofs.Ytlclllkjnhgbjaa
open Go.RowKit
set_option linter.unusedVariables false
set_option linter.unusedSimpArgs false

end Go.Proofs.Ytlclllkjnhgbjaa

namespace Go.Proofs.Ytlclllkjnhgbjaa
open Go.RowKit
set_option linter.unusedVariables false
set_option linter.unusedSimpArgs false

/-- What Take answers. -/
def dmtake (s : List UInt8) : DC × Int :=
  match pdim s with
  | .error k => (DC.nil, k)
  | .ok (t, l) => if l = [] then (t, 0) else (DC.nil, 3)
end Go.Proofs.Ytlclllkjnhgbjaa

namespace Go.Proofs.Ytlclllkjnhgbjaa
open Go.RowKit
set_option linter.unusedVariables false
set_option linter.unusedSimpArgs false

theorem SRes.bad {α : Type} {s : List UInt8} {o : PR α} {t k : Int} {x : α} (h : SRes s o t k x) (hk : k ≠ 0) : o = .error k := h.elim (fun h => h.2) (fun h => absurd h.1 hk)
theorem SRes.good {α : Type} {s : List UInt8} {o : PR α} {t : Int} {x : α} (h : SRes s o t 0 x) : ∃ tn : Nat, t = tn ∧ tn ≤ s.length ∧ o = .ok (x, s.drop tn) := h.elim (fun h => absurd rfl h.1) (fun h => h.2)
/-- One thing read behind another one. -/
def pthen {α β : Type} (o : PR α) (f : List UInt8 → PR β) : PR (α × β) := match o with | .error e => .error e | .ok (x, r) => match f r with | .error e => .error e | .ok (y, r2) => .ok ((x, y), r2)
theorem SRes.step {α β : Type} {s : List UInt8} {o : PR α} {f : List UInt8 → PR β} {tn : Nat} {x : α} {y : β} {t k : Int} (h : o = .ok (x, s.drop tn)) (h2 : SRes s (f (s.drop tn)) t k y) : SRes s (pthen o f) t k (x, y) := by
  unfold pthen
  rw [h]
  rcases h2 with ⟨h1, h2⟩ | ⟨h1, m, h3, h4, h2⟩
  · exact .inl ⟨h1, by simp only [h2]⟩
  · exact .inr ⟨h1, m, h3, h4, by simp only [h2]⟩
theorem SRes.skip {α β : Type} {s : List UInt8} {o : PR α} {f : List UInt8 → PR β} {x : α} {y : β} {t k : Int} (hk : k ≠ 0) (h : o = .error k) : SRes s (pthen o f) t k (x, y) := .inl ⟨hk, by unfold pthen; rw [h]⟩

theorem rnum00_any (s : List UInt8) (t0 : Nat) (most : Int) (hs : s.length ≤ 1000001) (ht0 : t0 ≤ s.length) (h0 : 0 ≤ most) (h1 : most ≤ 9223372036854775807) (w : World) :
    Calls Try.prog 47 #[scn s t0 0, .int .i64 most] w fun e w' => ∃ (t k : Int) (n : Nat), e = .returned (.tuple #[scn s t k, .int .i64 n]) ∧ Bel w w' ∧ (n : Int) ≤ most ∧ Hid (SRes s (pnum most (s.drop t0)) t k n) := by
  refine (rnum_any s t0 most hs ht0 (by omega) h1 w).mono ?_
  rintro e w' ⟨hb, hm⟩
  cases ho : pnum most (s.drop t0) with
  | error k =>
    rw [ho] at hm
    obtain ⟨t, rfl⟩ := hm
    have := pnum_err ho
    exact ⟨t, k, 0, rfl, hb, by simpa using h0, .inl ⟨by omega, rfl⟩⟩
  | ok q =>
    obtain ⟨x, l⟩ := q
    rw [ho] at hm
    obtain ⟨t, ht, hl, rfl⟩ := hm
    exact ⟨t, 0, x, rfl, hb, (pnum_ok ho).2.1, .inr ⟨rfl, t, rfl, ht, by rw [hl]⟩⟩
theorem rnumS_any {α : Type} (s : List UInt8) (o : PR α) (t k : Int) (x0 : α) (hS : SRes s o t k x0) (most : Int) (hs : s.length ≤ 1000001) (h0 : 0 ≤ most) (h1 : most ≤ 9223372036854775807) (w : World) :
    Calls Try.prog 47 #[scn s t k, .int .i64 most] w fun e w' => ∃ (t' k' : Int) (n : Nat), e = .returned (.tuple #[scn s t' k', .int .i64 n]) ∧ Bel w w' ∧ (n : Int) ≤ most ∧ Hid (SRes s (pthen o (pnum most)) t' k' (x0, n)) := by
  by_cases hk : k = 0
  · subst hk
    obtain ⟨tn, rfl, htn, ho⟩ := hS.good
    refine (rnum00_any s tn most hs htn h0 h1 w).mono ?_
    rintro e w' ⟨t', k', x, rfl, hb, hx, hR⟩
    exact ⟨t', k', x, rfl, hb, hx, SRes.step ho hR.out⟩
  · refine (rnum_bad s t k most hk w).mono ?_
    rintro e w' ⟨rfl, hb⟩
    exact ⟨t, k, 0, rfl, hb, by simpa using h0, SRes.skip hk (hS.bad hk)⟩

/-- A piece that is one only where c. -/
abbrev rIf (c : Prop) (r : Res) : Res := ⟨fun g => c ∧ r.D g, fun w => c → r.p w⟩
theorem holds_if {c : Prop} {r : Res} {w : World} (h : c → r.holds w) : (rIf c r).holds w := ⟨fun g ⟨hc, hg⟩ => (h hc).1 g hg, fun w' hs hk hc => (h hc).2 w' hs fun g hg => hk g ⟨hc, hg⟩⟩
theorem holds_if_of {c : Prop} {r : Res} {w : World} (h : (rIf c r).holds w) (hc : c) : r.holds w := ⟨fun g hg => h.1 g ⟨hc, hg⟩, fun w' hs hk => h.2 w' hs (fun g ⟨_, hg⟩ => hk g hg) hc⟩

end Go.Proofs.Ytlclllkjnhgbjaa

namespace Go.Proofs.Ytlclllkjnhgbjaa
open Go.RowKit
set_option linter.unusedVariables false
set_option linter.unusedSimpArgs false

/-- Dimensions read, and what becomes of them. -/
def pdimT (nm : List UInt8) (o : PR (List TC)) : PR DC := match o with | .error k => .error k | .ok (trs, r) => pdimC ⟨nm, trs⟩ r
theorem pdim_then (l : List UInt8) : pdim l = match pthen (ptxt 12 l) (pnum 4) with | .error k => .error k | .ok ((nm, n), r) => pdimT nm (pdims n [] r) := by
  unfold pdim pthen pdimT
  cases ptxt 12 l with
  | error k => rfl
  | ok q =>
    obtain ⟨nm, r⟩ := q
    dsimp only
    cases pnum 4 r with
    | error k => rfl
    | ok q => rfl
/-- Where the document's Read stands. -/
def DInv (s l0 nm : List UInt8) (n k : Nat) (acc : List TC) (t kk : Int) : Prop :=
  (kk ≠ 0 ∧ pdim l0 = .error kk) ∨ (kk = 0 ∧ ∃ tn : Nat, t = tn ∧ tn ≤ s.length ∧ pdim l0 = pdimT nm (pdims (n - k) acc (s.drop tn)))
theorem DInv.start {s l0 nm : List UInt8} {n : Nat} {t k : Int} (h : SRes s (pthen (ptxt 12 l0) (pnum 4)) t k (nm, n)) : DInv s l0 nm n 0 [] t k := by
  rcases h with ⟨h1, h2⟩ | ⟨h1, tn, h3, h4, h2⟩
  · exact .inl ⟨h1, by rw [pdim_then, h2]⟩
  · exact .inr ⟨h1, tn, h3, h4, by rw [pdim_then, h2]; rfl⟩
theorem DInv.bad {s l0 nm : List UInt8} {n k : Nat} {acc : List TC} {t kk : Int} (h : DInv s l0 nm n k acc t kk) (hk : kk ≠ 0) : pdim l0 = .error kk := h.elim (fun h => h.2) (fun h => absurd h.1 hk)
theorem DInv.good {s l0 nm : List UInt8} {n k : Nat} {acc : List TC} {t : Int} (h : DInv s l0 nm n k acc t 0) : ∃ tn : Nat, t = tn ∧ tn ≤ s.length ∧ pdim l0 = pdimT nm (pdims (n - k) acc (s.drop tn)) := h.elim (fun h => absurd rfl h.1) (fun h => h.2)
theorem DInv.step {s l0 nm : List UInt8} {n k tn : Nat} {acc : List TC} {tc : TC} {t kk : Int} (hk : k < n) (h : pdim l0 = pdimT nm (pdims (n - k) acc (s.drop tn))) (h2 : SRes s (ptier (aboveOf acc) (s.drop tn)) t kk tc) : DInv s l0 nm n (k + 1) (tc :: acc) t kk := by
  rw [show n - k = (n - (k + 1)) + 1 by omega, pdims] at h
  rcases h2 with ⟨h1, h2⟩ | ⟨h1, m, h3, h4, h2⟩
  · exact .inl ⟨h1, by rw [h, h2]; rfl⟩
  · exact .inr ⟨h1, m, h3, h4, by rw [h, h2]⟩
end Go.Proofs.Ytlclllkjnhgbjaa

namespace Go.Proofs.Ytlclllkjnhgbjaa
open Go.RowKit
set_option linter.unusedVariables false
set_option linter.unusedSimpArgs false

theorem trtake_put {t : TC} {above : Int} (ha : above ≤ 9223372036854775807) (h : tierErr t above = 0) : trtake above (tierPut t) = (t, 0) := by
  unfold trtake
  have := ptier_put ha h []
  rw [List.append_nil] at this
  rw [this]
  simp
theorem upPut_len (up : List Int) : (upPut up).length ≤ 9 * up.length := by
  unfold upPut
  induction up with
  | nil => simp
  | cons x r ih =>
    rw [List.flatMap_cons, List.length_append, List.length_cons]
    have := nput_le9 x.toNat
    omega
theorem tierPut_len {t : TC} {above : Int} (h : tierErr t above = 0) : (tierPut t).length ≤ 10000 := by
  obtain ⟨e1, _, e3, e4, _⟩ := tierErr_zero h
  have e5 := tierErr_up h
  have e6 := isName_len e1
  have e7 := tput_len e4
  have e8 := upPut_len t.up
  have e9 := nput_le9 t.nm.length
  unfold tierPut ptext
  simp only [List.length_append]
  omega

end Go.Proofs.Ytlclllkjnhgbjaa

namespace Go.Proofs.Ytlclllkjnhgbjaa
open Go.RowKit
set_option linter.unusedVariables false
set_option linter.unusedSimpArgs false

def dimPutV (d : DC) : List UInt8 × Int := if dimErr d = 0 then (dimPut d, 0) else ([], dimErr d)
theorem allOk_at {trs : List TC} : ∀ {k : Nat} {t : TC}, AllOk trs → trs[k]? = some t → tierErr t (aboveOf (trs.drop (k + 1))) = 0 := by
  induction trs with
  | nil => intro k t h ht; simp at ht
  | cons u r ih =>
    intro k t h ht
    cases k with
    | zero =>
      simp at ht
      subst ht
      exact h.1
    | succ k => exact ih h.2 (by simpa using ht)
theorem putDown_step {trs : List TC} {j : Nat} {t : TC} (h : trs[j]? = some t) : (trs.take (j + 1)).reverse.flatMap tierPut = tierPut t ++ (trs.take j).reverse.flatMap tierPut := by
  obtain ⟨hk, rfl⟩ := List.getElem?_eq_some_iff.1 h
  rw [List.take_succ_eq_append_getElem hk, List.reverse_append]
  show List.flatMap tierPut (trs[j] :: (trs.take j).reverse) = _
  rw [List.flatMap_cons]

end Go.Proofs.Ytlclllkjnhgbjaa

namespace Go.Proofs.Ytlclllkjnhgbjaa
open Go.RowKit
set_option linter.unusedVariables false
set_option linter.unusedSimpArgs false

theorem dmtake_put {d : DC} (h : dimErr d = 0) : dmtake (dimPut d) = (d, 0) := by
  unfold dmtake
  have := pdim_put h []
  rw [List.append_nil] at this
  rw [this]
  simp
theorem flat_len {α : Type} {l : List α} {f : α → List UInt8} {m : Nat} (h : ∀ x ∈ l, (f x).length ≤ m) : (l.flatMap f).length ≤ m * l.length := by
  induction l with
  | nil => simp
  | cons a r ih =>
    rw [List.flatMap_cons, List.length_append, List.length_cons, Nat.mul_add]
    have h1 := h a (List.mem_cons_self ..)
    have h2 := ih fun x hx => h x (List.mem_cons_of_mem _ hx)
    omega
theorem allOk_mem {trs : List TC} (h : AllOk trs) {t : TC} (ht : t ∈ trs) : ∃ above, tierErr t above = 0 := by
  obtain ⟨k, hk⟩ := List.mem_iff_getElem?.1 ht
  exact ⟨_, allOk_at h hk⟩
theorem dimPut_len {d : DC} (h : dimErr d = 0) : (dimPut d).length ≤ 50000 := by
  obtain ⟨h1, h2, h3, h4⟩ := dimErr_zero h
  have h5 := isName_len h1
  have h6 := nput_le9 d.nm.length
  have h7 := nput_le9 d.trs.length
  have h8 : (d.trs.reverse.flatMap tierPut).length ≤ 10000 * d.trs.reverse.length := flat_len fun t ht => by
    obtain ⟨a, ha⟩ := allOk_mem (dimFrom_ok h4) (List.mem_reverse.1 ht)
    exact tierPut_len ha
  rw [List.length_reverse] at h8
  unfold dimPut ptext
  simp only [List.length_append]
  omega

end Go.Proofs.Ytlclllkjnhgbjaa
