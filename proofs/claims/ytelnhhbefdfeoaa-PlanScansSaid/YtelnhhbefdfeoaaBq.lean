/- Texts laid together: XDimP XDimW XSepT XDimR XDimQ XDimU XDimV XDimX XDimZ XDimA XDimT XScanB XDimS XTierChecksW XDimY XDimChecksW. -/
import Derived.Test.YtelnhhbefdfeoaaBe
import Derived.Test.YtelnhhbefdfeoaaSep
import Derived.Test.YtelnhhbefdfeoaaBf
import Derived.Test.YtelnhhbefdfeoaaBd

namespace Go.Proofs.Ytelnhhbefdfeoaa
open Go.RowKit
set_option linter.unusedVariables false
set_option linter.unusedSimpArgs false

/-- What a dimension says. -/
structure DC where
  nm : List UInt8
  trs : List TC
deriving DecidableEq
/-- How many members the lowest of some tiers has. -/
def aboveOf : List TC → Int
  | [] => 0
  | t :: _ => t.ts.length
def dimFrom : List (List UInt8) → List TC → Int
  | _, [] => 0
  | seen, t :: r => if tierErr t (aboveOf r) ≠ 0 then tierErr t (aboveOf r) else if t.nm ∈ seen then 11 else dimFrom (seen ++ [t.nm]) r
def dimErr (d : DC) : Int := if isName d.nm then (if d.trs.length < 1 ∨ 4 < d.trs.length then 5 else dimFrom [] d.trs) else 2
def dimPut (d : DC) : List UInt8 := ptext d.nm ++ nput d.trs.length ++ d.trs.reverse.flatMap tierPut
/-- So many tiers more, each below those that are there. -/
def pdims : Nat → List TC → List UInt8 → PR (List TC)
  | 0, acc, l => .ok (acc, l)
  | n + 1, acc, l =>
    match ptier (aboveOf acc) l with
    | .error k => .error k
    | .ok (t, r) => pdims n (t :: acc) r
def pdimC (d : DC) (r : List UInt8) : PR DC := if dimErr d = 0 then .ok (d, r) else .error (dimErr d)
def pdim (l : List UInt8) : PR DC :=
  match ptxt 12 l with
  | .error k => .error k
  | .ok (nm, r) =>
    match pnum 4 r with
    | .error k => .error k
    | .ok (n, r) =>
      match pdims n [] r with
      | .error k => .error k
      | .ok (trs, r) => pdimC ⟨nm, trs⟩ r

def AllOk : List TC → Prop
  | [] => True
  | t :: r => tierErr t (aboveOf r) = 0 ∧ AllOk r
def OkDown : List TC → List TC → Prop
  | _, [] => True
  | acc, t :: rs => tierErr t (aboveOf acc) = 0 ∧ OkDown (t :: acc) rs
theorem allOk_suffix {ms acc : List TC} (h : AllOk (ms ++ acc)) : AllOk acc := by
  induction ms with
  | nil => exact h
  | cons t ms ih => exact ih h.2
theorem okDown_of {rs : List TC} : ∀ {acc : List TC}, AllOk (rs.reverse ++ acc) → OkDown acc rs := by
  induction rs with
  | nil => intro acc h; trivial
  | cons t rs ih =>
    intro acc h
    rw [List.reverse_cons, List.append_assoc] at h
    exact ⟨(allOk_suffix h).1, ih h⟩
theorem dimFrom_ok {trs : List TC} : ∀ {seen : List (List UInt8)}, dimFrom seen trs = 0 → AllOk trs := by
  induction trs with
  | nil => intro seen h; trivial
  | cons t r ih =>
    intro seen h
    rw [dimFrom] at h
    split at h
    · rename_i h1; exact absurd h h1
    · rename_i h1
      split at h
      · cases h
      · exact ⟨by omega, ih h⟩
theorem dimErr_zero {d : DC} (h : dimErr d = 0) : isName d.nm = true ∧ 1 ≤ d.trs.length ∧ d.trs.length ≤ 4 ∧ dimFrom [] d.trs = 0 := by
  unfold dimErr at h
  split at h
  · rename_i h1
    split at h
    · cases h
    · rename_i h2
      exact ⟨h1, by omega, by omega, h⟩
  · cases h
theorem aboveOf_le {trs : List TC} (h : AllOk trs) : aboveOf trs ≤ 9223372036854775807 := by
  cases trs with
  | nil => show (0 : Int) ≤ _; omega
  | cons t r =>
    have := (tierErr_zero h.1).2.2.1
    show ((t.ts.length : Nat) : Int) ≤ _
    omega
theorem pdims_put {rs : List TC} : ∀ {acc : List TC} (r : List UInt8), OkDown acc rs → AllOk acc → pdims rs.length acc (rs.flatMap tierPut ++ r) = .ok (rs.reverse ++ acc, r) := by
  induction rs with
  | nil => intro acc r h ha; rfl
  | cons t rs ih =>
    intro acc r h ha
    rw [List.length_cons, pdims, List.flatMap_cons, List.append_assoc, ptier_put (aboveOf_le ha) h.1]
    simp only
    rw [ih r h.2 ⟨h.1, ha⟩]
    simp
theorem pdim_put {d : DC} (h : dimErr d = 0) (r : List UInt8) : pdim (dimPut d ++ r) = .ok (d, r) := by
  obtain ⟨h1, h2, h3, h4⟩ := dimErr_zero h
  have hl := isName_len h1
  have e : dimPut d ++ r = ptext d.nm ++ (nput d.trs.length ++ (d.trs.reverse.flatMap tierPut ++ r)) := by unfold dimPut; simp only [List.append_assoc]
  unfold pdim
  rw [e, q_ptxt (by omega) (by omega)]
  simp only
  rw [q_pnum (by omega) (by omega)]
  simp only
  have hd : OkDown [] d.trs.reverse := okDown_of (by simpa using dimFrom_ok h4)
  have := pdims_put r hd trivial
  rw [List.length_reverse, List.reverse_reverse, List.append_nil] at this
  rw [this]
  simp only
  unfold pdimC
  rw [if_pos h]
theorem pdims_back {n : Nat} : ∀ {acc trs : List TC} {l r : List UInt8}, pdims n acc l = .ok (trs, r) → ∃ ms : List TC, trs = ms ++ acc ∧ ms.length = n ∧ l = ms.reverse.flatMap tierPut ++ r := by
  induction n with
  | zero =>
    intro acc trs l r h
    injection h with h
    injection h with h1 h2
    subst h1
    subst h2
    exact ⟨[], rfl, rfl, rfl⟩
  | succ n ih =>
    intro acc trs l r h
    rw [pdims] at h
    split at h
    · cases h
    · rename_i t r1 h1
      obtain ⟨ms, e1, e2, e3⟩ := ih h
      refine ⟨ms ++ [t], ?_, by simp [e2], ?_⟩
      · rw [e1]
        simp
      · rw [(ptier_back h1).2, e3]
        simp
theorem pdim_back {l r : List UInt8} {d : DC} (h : pdim l = .ok (d, r)) : dimErr d = 0 ∧ l = dimPut d ++ r := by
  unfold pdim at h
  split at h
  · cases h
  · rename_i nm r1 h1
    split at h
    · cases h
    · rename_i n r2 h2
      split at h
      · cases h
      · rename_i trs r3 h3
        unfold pdimC at h
        split at h
        · rename_i h4
          injection h with h
          injection h with h5 h6
          subst h5
          subst h6
          refine ⟨h4, ?_⟩
          obtain ⟨ms, e1, e2, e3⟩ := pdims_back h3
          rw [List.append_nil] at e1
          subst e1
          unfold dimPut
          rw [q_ptxt_back h1, q_pnum_back h2, e3, e2]
          simp only [List.append_assoc]
        · cases h
theorem dimFrom_range (trs : List TC) : ∀ seen, dimFrom seen trs = 0 ∨ dimFrom seen trs = 2 ∨ dimFrom seen trs = 4 ∨ dimFrom seen trs = 5 ∨ dimFrom seen trs = 11 ∨ dimFrom seen trs = 14 := by
  induction trs with
  | nil => intro seen; exact .inl rfl
  | cons t r ih =>
    intro seen
    rw [dimFrom]
    have := tierErr_range t (aboveOf r)
    split
    · omega
    · split
      · omega
      · exact ih _
theorem dimErr_range (d : DC) : dimErr d = 0 ∨ dimErr d = 2 ∨ dimErr d = 4 ∨ dimErr d = 5 ∨ dimErr d = 11 ∨ dimErr d = 14 := by
  unfold dimErr
  have := dimFrom_range d.trs []
  split
  · split
    · omega
    · exact this
  · omega

end Go.Proofs.Ytelnhhbefdfeoaa

namespace Go.Proofs.Ytelnhhbefdfeoaa
open Go.RowKit
set_option linter.unusedVariables false
set_option linter.unusedSimpArgs false

abbrev Dm.con (d : Dm) : DC := ⟨d.nm, d.tr.l.map Tir.con⟩

set_option maxRecDepth 100000 in
set_option maxHeartbeats 1000000 in
theorem dabove_any (d : Dm) (k : Nat) (w : World) (hd : d.rd w) (hk : k < d.tr.n) (hn : d.tr.n ≤ 1000000) :
    Calls Try.prog 104 #[.agg d.cs, .int .i64 k] w fun e w' => e = .returned (.int .i64 (aboveOf ((d.tr.l.map Tir.con).drop (k + 1)))) ∧ Bel w w' := by
  have hW := (Bel.refl w).alloc (.cells d.cs 66)
  have h1 := hd.mono hW
  have hlen : Hid (d.tr.l.length = d.tr.n) := hd.tr.len
  obtain ⟨nm, ⟨A, n, c, trs⟩⟩ := d
  simp only [Dm.cs] at *
  have HD := Lib.hid h1.tr
  have HW := Lib.hid hW
  have wk : IntKind.i64.wrap ((k : Int) + 1) = (k : Int) + 1 := IntWalk.i64_in _ (by omega)
  clear hW h1 hd
  by_cases hlt : k + 1 < n
  · obtain ⟨b, o, t, hA, hb, ht, htr, hrg⟩ := HD.out.tirAt (k := k + 1) hlt
    simp only at hA
    subst hA
    have hc := hrg 1 _ rfl
    have HR : Hid (aboveOf ((trs.map Tir.con).drop (k + 1)) = (t.ts.n : Int)) := by
      show _ = _
      obtain ⟨hk', he⟩ := List.getElem?_eq_some_iff.1 ht
      rw [List.drop_eq_getElem_cons (by simpa using hk')]
      simp only [List.getElem_map, aboveOf]
      have := htr.ts.len
      simp only at hk' he
      rw [he]
      show ((t.ts.l.length : Nat) : Int) = _
      rw [this]
    have i1 : ((k : Int) + 1).toNat = k + 1 := by omega
    have i2 : (0 : Int) ≤ (k : Int) + 1 := by omega
    have i3 : (k : Int) + 1 < n := by omega
    have d1 : decide (((k : Int) + 1 < (n : Int))) = true := by simp; omega
    clear ht hrg
    go_enter Try.func104, Try.ntmps104
    go_wp2
    go_ret
    rw [HR.out]
    exact ⟨rfl, HW.out⟩
  · have HR : Hid (aboveOf ((trs.map Tir.con).drop (k + 1)) = 0) := by
      show _ = _
      rw [List.drop_of_length_le (by have := hlen.out; simp; omega)]
      rfl
    have d1 : decide (((k : Int) + 1 < (n : Int))) = false := by simp; omega
    have hnn : (n : Int) ≤ (k : Int) + 1 := by omega
    go_enter Try.func104, Try.ntmps104
    go_wp2
    go_ret
    rw [HR.out]
    exact ⟨rfl, HW.out⟩

set_option maxRecDepth 100000 in
set_option maxHeartbeats 1000000 in
theorem rdabove_any (d : Dm) (k : Nat) (w : World) (hd : d.rd w) (hk : k < d.tr.n) (hn : d.tr.n ≤ 1000000) :
    Calls Try.prog 78 #[.agg d.cs, .int .i64 k] w fun e w' => e = .returned (.int .i64 (aboveOf ((d.tr.l.map Tir.con).drop (k + 1)))) ∧ Bel w w' := by
  have hW := (Bel.refl w).alloc (.cells d.cs 66)
  have h1 := hd.mono hW
  have hlen : Hid (d.tr.l.length = d.tr.n) := hd.tr.len
  obtain ⟨nm, ⟨A, n, c, trs⟩⟩ := d
  simp only [Dm.cs] at *
  have HD := Lib.hid h1.tr
  have HW := Lib.hid hW
  have wk : IntKind.i64.wrap ((k : Int) + 1) = (k : Int) + 1 := IntWalk.i64_in _ (by omega)
  clear hW h1 hd
  by_cases hlt : k + 1 < n
  · obtain ⟨b, o, t, hA, hb, ht, htr, hrg⟩ := HD.out.tirAt (k := k + 1) hlt
    simp only at hA
    subst hA
    have hc := hrg 1 _ rfl
    have HR : Hid (aboveOf ((trs.map Tir.con).drop (k + 1)) = (t.ts.n : Int)) := by
      show _ = _
      obtain ⟨hk', he⟩ := List.getElem?_eq_some_iff.1 ht
      rw [List.drop_eq_getElem_cons (by simpa using hk')]
      simp only [List.getElem_map, aboveOf]
      have := htr.ts.len
      simp only at hk' he
      rw [he]
      show ((t.ts.l.length : Nat) : Int) = _
      rw [this]
    have i1 : ((k : Int) + 1).toNat = k + 1 := by omega
    have i2 : (0 : Int) ≤ (k : Int) + 1 := by omega
    have i3 : (k : Int) + 1 < n := by omega
    have d1 : decide (((n : Int) ≤ (k : Int) + 1)) = false := by simp; omega
    clear ht hrg
    go_enter Try.func78, Try.ntmps78
    go_wp2
    go_ret
    rw [HR.out]
    exact ⟨rfl, HW.out⟩
  · have HR : Hid (aboveOf ((trs.map Tir.con).drop (k + 1)) = 0) := by
      show _ = _
      rw [List.drop_of_length_le (by have := hlen.out; simp; omega)]
      rfl
    have d1 : decide (((n : Int) ≤ (k : Int) + 1)) = true := by simp; omega
    have hnn : (n : Int) ≤ (k : Int) + 1 := by omega
    go_enter Try.func78, Try.ntmps78
    go_wp2
    go_ret
    rw [HR.out]
    exact ⟨rfl, HW.out⟩

/-- Names met. -/
def litsS (xs : List (List UInt8)) : List Lit := xs.map Lit.string
theorem litsS_key (xs : List (List UInt8)) : ∀ x ∈ litsS xs, WideAt.IsKeyLit x := by
  intro x hx
  obtain ⟨y, _, rfl⟩ := List.mem_map.1 hx
  trivial
theorem atKey_names (xs : List (List UInt8)) (x : List UInt8) : (Maps.setOf one1 (litsS xs)).atKey (.string x) (.lit (.int .i64 0)) = .lit (.int .i64 (if x ∈ xs then 1 else 0)) := by
  have key : ∀ ys : List (List UInt8), (Maps.setOf one1 (litsS ys.reverse)).atKey (.string x) (.lit (.int .i64 0)) = .lit (.int .i64 (if x ∈ ys then 1 else 0)) := by
    intro ys
    induction ys with
    | nil => rfl
    | cons y ys ih =>
      have e : litsS (y :: ys).reverse = litsS ys.reverse ++ [.string y] := by unfold litsS; simp
      rw [e, Maps.setOf_snoc]
      by_cases h : x = y
      · subst h
        rw [Maps.atKey_put_same (Maps.tidy_setOf _ _ (litsS_key _)).isMap (show WideAt.IsKeyLit (.string x) from trivial)]
        simp
      · rw [Maps.atKey_put_other (by intro e; injection e with e; exact h e), ih]
        simp [h]
  have := key xs.reverse
  simpa using this
theorem put_names (xs : List (List UInt8)) (x : List UInt8) (v c : Int) (h : ((Maps.setOf one1 (litsS xs)).put (.string x) (.lit (.int .i64 v))).atKey (.string x) (.lit (.int .i64 0)) = .lit (.int .i64 c)) : c = v := by
  rw [Maps.atKey_put_same (Maps.tidy_setOf _ _ (litsS_key _)).isMap (show WideAt.IsKeyLit (.string x) from trivial)] at h
  injection h with h
  injection h with _ h
  exact h.symm
theorem dimFrom_drop {trs : List TC} {k : Nat} {t : TC} {seen : List (List UInt8)} (h : trs[k]? = some t) : dimFrom seen (trs.drop k) = if tierErr t (aboveOf (trs.drop (k + 1))) ≠ 0 then tierErr t (aboveOf (trs.drop (k + 1))) else if t.nm ∈ seen then 11 else dimFrom (seen ++ [t.nm]) (trs.drop (k + 1)) := by
  obtain ⟨hk, rfl⟩ := List.getElem?_eq_some_iff.1 h
  rw [List.drop_eq_getElem_cons hk, dimFrom]

theorem zero_int (w : World) : (zeroValue 3).run Try.prog w = .ok (.int .i64 0) w := by kernel_rfl
set_option maxRecDepth 100000 in
set_option maxHeartbeats 2000000 in
theorem dmcheck_any (d : Dm) (w : World) (hd : d.rd w) (hn : d.tr.n ≤ 1000000) (hu : ∀ t ∈ d.tr.l, t.up.n ≤ 100000) :
    Calls Try.prog 84 #[.agg d.cs] w fun e w' => e = .returned (.int .i64 (dimErr d.con)) ∧ Bel w w' := by
  have HAB := Lib.hid (fun k (hk : k < d.tr.n) w' (hb : Bel w w') => dabove_any d k w' (hd.mono hb) hk hn)
  have hW := (Bel.refl w).alloc (.cells d.cs 66)
  have hlen : Hid (d.tr.l.length = d.tr.n) := hd.tr.len
  have hnm := hd.nm
  have HD := Lib.hid hd.tr
  have HU := Lib.hid hu
  have hmm := @run_makeMap Try.prog
  obtain ⟨nm, ⟨A, n, c, trs⟩⟩ := d
  simp only [Dm.cs, Dm.con] at *
  have HW := Lib.hid hW
  clear hW hd hu
  cases hN : isName nm with
  | false =>
    have HE : Hid (dimErr ⟨nm, trs.map Tir.con⟩ = 2) := by show _ = _; unfold dimErr; simp [hN]
    go_enter Try.func84, Try.ntmps84
    go_wp2_with fail
    refine (name_any nm _ (by omega)).mono ?_; rintro e w1 ⟨rfl, rfl⟩
    rw [hN, show errOf false = 2 from rfl]
    go_wp2
    go_ret
    rw [HE.out]
    exact ⟨rfl, HW.out⟩
  | true =>
    by_cases hl : 1 ≤ n ∧ n ≤ 4
    · obtain ⟨hl1, hl2⟩ := hl
      have d1 : decide ((n : Int) < 1) = false := by simp; omega
      have d2 : decide ((4 : Int) < n) = false := by simp; omega
      have HE0 : Hid (dimErr ⟨nm, trs.map Tir.con⟩ = dimFrom ((trs.map Tir.nm).take 0) ((trs.map Tir.con).drop 0)) := by
        show _ = _
        unfold dimErr
        simp only [hN, if_true, List.length_map]
        rw [if_neg (by have := hlen.out; omega)]
        rfl
      have q0 := Blk.new w 66 #[.string ⟨nm.toArray⟩, .slice A n c]
      go_enter Try.func84, Try.ntmps84
      go_wp2_with fail
      refine (name_any nm _ (by omega)).mono ?_; rintro e w1 ⟨rfl, rfl⟩
      rw [hN, show errOf true = 0 from rfl]
      go_wp2_with fail
      have M0 : Hid (((w.alloc (.cells #[.string ⟨nm.toArray⟩, .slice A n c] 66)).alloc (.map #[] 0)).ownsMap Try.prog 9 (plainElem (H := Unit) Try.prog 3) (w.heap.size + 1) 0 (Maps.setOf one1 (litsS ((trs.map Tir.nm).take 0)))) := by
        have := World.ownsMap_made (H := Unit) (w.alloc (.cells #[.string ⟨nm.toArray⟩, .slice A n c] 66)) Try.prog 9 (plainElem Try.prog 3)
        rw [World.size_alloc] at this
        exact this
      have B0 := Lib.hid (HW.out.alloc (.map #[] 0))
      have Q0 := Lib.hid (q0.alloc (.map #[] 0))
      clear q0 d1 d2 HW
      go_loopg [28] n (fun gg i wr => ∃ k : Nat, gg = n - k ∧ k ≤ n ∧ i = .int .i64 k ∧ Hid (wr.ownsMap Try.prog 9 (plainElem (H := Unit) Try.prog 3) (w.heap.size + 1) k (Maps.setOf one1 (litsS ((trs.map Tir.nm).take k)))) ∧ Hid (Bel w wr) ∧ Hid (Blk wr w.heap.size 66 #[.string ⟨nm.toArray⟩, .slice A n c]) ∧ Hid (dimErr ⟨nm, trs.map Tir.con⟩ = dimFrom ((trs.map Tir.nm).take k) ((trs.map Tir.con).drop k)))
      case atStart => exact ⟨0, rfl, by omega, rfl, M0, B0, Q0, HE0⟩
      case round =>
        clear M0 B0 Q0 HE0
        obtain ⟨k, hgk, hk, rfl, hM, hB, hQ, hE⟩ := hrel
        have Hgk := Lib.hid hgk
        clear hgk
        by_cases hlt : k < n
        · obtain ⟨bb, oo, t, hA, hbb, ht, htr, hrg⟩ := (HD.out.mono hB.out).tirAt (k := k) hlt
          simp only at hA
          subst hA
          have HT := Lib.hid ht
          have HRG := Lib.hid hrg
          have HTR := Lib.hid htr
          have hup := HU.out t (List.mem_of_getElem? ht)
          have hnm2 := htr.nm
          have HKL : Hid ((⟨t.nm.toArray⟩ : ByteArray).size ≤ maxLen) := by show _ ≤ _; unfold maxLen; simp [ByteArray.size]; omega
          have htc : (trs.map Tir.con)[k]? = some t.con := by rw [List.getElem?_map, ht]; rfl
          have htn : (trs.map Tir.nm)[k]? = some t.nm := by rw [List.getElem?_map, ht]; rfl
          have HS := Lib.hid (dimFrom_drop (seen := (trs.map Tir.nm).take k) htc)
          have HTK : Hid ((trs.map Tir.nm).take (k + 1) = (trs.map Tir.nm).take k ++ [t.nm]) := by
            show _ = _
            obtain ⟨hk', he⟩ := List.getElem?_eq_some_iff.1 htn
            rw [List.take_succ_eq_append_getElem hk', he]
          have hab : I64 (aboveOf ((trs.map Tir.con).drop (k + 1))) := by
            unfold I64
            cases hdr : (trs.map Tir.con).drop (k + 1) with
            | nil => simp [aboveOf]
            | cons u r =>
              have hm : u ∈ (trs.map Tir.con) := List.mem_of_mem_drop (i := k + 1) (by rw [hdr]; exact List.mem_cons_self ..)
              obtain ⟨v, hv, rfl⟩ := List.mem_map.1 hm
              have h1 := (HD.out.all v hv)
              have h2 : v.ts.l.length = v.ts.n := Row.rd.len (Tir.rd.ts h1)
              have h3 := (Tir.rd.ts h1).n63
              simp only [aboveOf]
              omega
          have z2 := Lib.hid (Blk.new wr 77 t.cs)
          have Q2 := Lib.hid (hQ.out.alloc (.cells t.cs 77))
          have B2 := Lib.hid (hB.out.alloc (.cells t.cs 77))
          have M2 := Lib.hid (hM.out.alloc (.cells t.cs 77))
          have HTR2 := Lib.hid (htr.mono ((Bel.refl wr).alloc (.cells t.cs 77)))
          have hmz := hM.out.lt
          have hqz := hQ.out.lt
          clear ht hrg htr htc htn hM hB hQ hbb
          go_wp2_with (first | ((with_reducible show wpList _ _ _ (⟨some 32, _, _, _, _, _⟩ :: _) _ _); refine wpList_load_row_at rfl rowTir (.tmp 31) rfl bb (oo + k * 3) rfl t.cs rfl HRG.out ?_) | ((with_reducible show wpList _ _ _ (⟨_, .store _ (.tmp 6) _, _, _, _, _⟩ :: _) _ _); refine wpList_store_new rfl rowTir (.tmp 6) (.tmp 32) rfl rfl rfl t.cs rfl rfl (tir_one t) ?_))
          generalize hAB : aboveOf ((trs.map Tir.con).drop (k + 1)) = ab at *
          have HAB1 : Hid (∀ w', Bel w w' → Calls Try.prog 104 #[.agg #[.string ⟨nm.toArray⟩, .slice (some ⟨bb, oo, none⟩) n c], .int .i64 k] w' fun e w'' => e = .returned (.int .i64 ab) ∧ Bel w' w'') := by
            intro w' hb
            have := HAB.out k hlt w' hb
            rw [hAB] at this
            exact this
          have HABE := Lib.hid hAB
          clear hAB
          refine wp_region_over (by kernel_rfl) (by kernel_rfl) ?_
          repeat (first
            | ((with_reducible show wpQuiet _ _ _ _ (⟨some 33, _, _, _, _, _⟩ :: _) _); refine wpQuiet_load_row rfl rowTir (.tmp 6) rfl wr.heap.size 0 rfl t.cs rfl z2.out.lt z2.out.range ?_; simp only [Act.put, List.setIfInBounds_toArray, List.set_cons_zero, List.set_cons_succ])
            | ((with_reducible show wpQuiet _ _ _ _ (⟨some 34, _, _, _, _, _⟩ :: _) _); refine wpQuiet_load_row rfl rowDm (.tmp 1) rfl w.heap.size 0 rfl #[.string ⟨nm.toArray⟩, .slice (some ⟨bb, oo, none⟩) n c] rfl Q2.out.lt Q2.out.range ?_; simp only [Act.put, List.setIfInBounds_toArray, List.set_cons_zero, List.set_cons_succ])
            | go_big_quiet_step ((first | (go_at_call 104; rename_i u; exact calls_over (HAB1.out _ (B2.out.trans u.bel))) | (go_at_call 103; rename_i u; exact calls_over (trcheck_any t ab _ (HTR2.out.mono u.bel) hup hab)))))
          refine wpQuiet_nil ?_
          rintro _ ⟨⟨w4, hw4⟩, rfl⟩
          have Z4 := Lib.hid (z2.out.bel hw4)
          have Q4 := Lib.hid (Q2.out.bel hw4)
          have B4 := Lib.hid (B2.out.trans hw4)
          have M4 := Lib.hid (M2.out.kept (grown_of_bel hw4 none) (by simp))
          have s4 := Z4.out.cell 0
          simp only [List.getElem?_toArray, List.getElem?_cons_zero] at s4
          try dsimp only
          clear hw4 z2 Q2 B2 M2 HTR2
          by_cases hE0 : tierErr t.con ab = 0
          · rw [hE0]
            by_cases hmem : t.nm ∈ (trs.map Tir.nm).take k
            · have HN : Hid (dimErr ⟨nm, trs.map Tir.con⟩ = 11) := by show _ = _; rw [hE.out, HS.out, if_neg (by omega), if_pos hmem]
              have HA : Hid (∀ c : Int, (Maps.setOf one1 (litsS ((trs.map Tir.nm).take k))).atKey (.string t.nm) (.lit (.int .i64 0)) = .lit (.int .i64 c) → c = 1) := by
                intro c h
                rw [atKey_names, if_pos hmem] at h
                injection h with h
                injection h with _ h
                exact h.symm
              clear hE HS hE0 hmem
              go_wp2_with (first | ((with_reducible show wpList _ _ _ (⟨some 44, _, _, _, _, _⟩ :: _) _ _); refine wpList_lookup_own_int _ rfl (.tmp 41) (.tmp 43) 153 rfl 9 3 .i64 (Maps.string_keyed Try.underlying9) Try.underlying153 Try.underlying3 (zero_int _) (w.heap.size + 1) k _ rfl M4.out _ (.string t.nm) rfl (WideMaps.keyOf_string_mk Try.underlying9 (s := ⟨t.nm.toArray⟩) HKL.out) ?_; intro c44 hat44 hwc44; obtain rfl := HA.out c44 hat44; clear hat44 hwc44) | ((with_reducible show wpList _ _ _ (⟨_, .mapUpdate _ _ _ _, _, _, _, _⟩ :: _) _ _); refine wpList_mapUpdate_own _ rfl (.tmp 41) (.tmp 43) _ 153 rfl 9 3 (Maps.string_keyed Try.underlying9) Try.underlying153 _ (w.heap.size + 1) k _ rfl M4.out (by unfold maxLen; omega) _ _ (.string t.nm) rfl rfl (WideMaps.keyOf_string_mk Try.underlying9 (s := ⟨t.nm.toArray⟩) HKL.out) (.lit (.int .i64 2)) [] (plainElem_int Try.underlying3 (wf64 (by unfold I64; omega))) ?_; intro w5 hown5 hg5; have M5 := Lib.hid hown5; have z5 := Lib.hid (Z4.out.grown hg5 (by intro e; injection e with e; omega)); have q5 := Lib.hid (Q4.out.grown hg5 (by intro e; injection e with e; omega)); have B5 := Lib.hid (B4.out.grownAt hg5 (by omega)); have s5 := z5.out.cell 0; (simp only [List.getElem?_toArray, List.getElem?_cons_zero] at s5); clear hown5 hg5) | ((with_reducible show wpList _ _ _ (⟨some 49, _, _, _, _, _⟩ :: _) _ _); refine wpList_lookup_own_int _ rfl (.tmp 46) (.tmp 48) 153 rfl 9 3 .i64 (Maps.string_keyed Try.underlying9) Try.underlying153 Try.underlying3 (zero_int _) (w.heap.size + 1) (k + 1) _ rfl M5.out _ (.string t.nm) rfl (WideMaps.keyOf_string_mk Try.underlying9 (s := ⟨t.nm.toArray⟩) HKL.out) ?_; intro c49 hat49 hwc49; obtain rfl := (put_names ((trs.map Tir.nm).take k) t.nm 2 c49 hat49); clear hat49 hwc49))
              go_ret
              rw [HN.out]
              exact ⟨rfl, B5.out⟩
            · have HN : Hid (dimErr ⟨nm, trs.map Tir.con⟩ = dimFrom ((trs.map Tir.nm).take (k + 1)) ((trs.map Tir.con).drop (k + 1))) := by show _ = _; rw [hE.out, HS.out, if_neg (by omega), if_neg hmem, HTK.out]
              have HA : Hid (∀ c : Int, (Maps.setOf one1 (litsS ((trs.map Tir.nm).take k))).atKey (.string t.nm) (.lit (.int .i64 0)) = .lit (.int .i64 c) → c = 0) := by
                intro c h
                rw [atKey_names, if_neg hmem] at h
                injection h with h
                injection h with _ h
                exact h.symm
              clear hE HS hE0 hmem
              go_wp2_with (first | ((with_reducible show wpList _ _ _ (⟨some 44, _, _, _, _, _⟩ :: _) _ _); refine wpList_lookup_own_int _ rfl (.tmp 41) (.tmp 43) 153 rfl 9 3 .i64 (Maps.string_keyed Try.underlying9) Try.underlying153 Try.underlying3 (zero_int _) (w.heap.size + 1) k _ rfl M4.out _ (.string t.nm) rfl (WideMaps.keyOf_string_mk Try.underlying9 (s := ⟨t.nm.toArray⟩) HKL.out) ?_; intro c44 hat44 hwc44; obtain rfl := HA.out c44 hat44; clear hat44 hwc44) | ((with_reducible show wpList _ _ _ (⟨_, .mapUpdate _ _ _ _, _, _, _, _⟩ :: _) _ _); refine wpList_mapUpdate_own _ rfl (.tmp 41) (.tmp 43) _ 153 rfl 9 3 (Maps.string_keyed Try.underlying9) Try.underlying153 _ (w.heap.size + 1) k _ rfl M4.out (by unfold maxLen; omega) _ _ (.string t.nm) rfl rfl (WideMaps.keyOf_string_mk Try.underlying9 (s := ⟨t.nm.toArray⟩) HKL.out) (.lit (.int .i64 1)) [] (plainElem_int Try.underlying3 (wf64 (by unfold I64; omega))) ?_; intro w5 hown5 hg5; have M5 := Lib.hid hown5; have z5 := Lib.hid (Z4.out.grown hg5 (by intro e; injection e with e; omega)); have q5 := Lib.hid (Q4.out.grown hg5 (by intro e; injection e with e; omega)); have B5 := Lib.hid (B4.out.grownAt hg5 (by omega)); have s5 := z5.out.cell 0; (simp only [List.getElem?_toArray, List.getElem?_cons_zero] at s5); clear hown5 hg5) | ((with_reducible show wpList _ _ _ (⟨some 49, _, _, _, _, _⟩ :: _) _ _); refine wpList_lookup_own_int _ rfl (.tmp 46) (.tmp 48) 153 rfl 9 3 .i64 (Maps.string_keyed Try.underlying9) Try.underlying153 Try.underlying3 (zero_int _) (w.heap.size + 1) (k + 1) _ rfl M5.out _ (.string t.nm) rfl (WideMaps.keyOf_string_mk Try.underlying9 (s := ⟨t.nm.toArray⟩) HKL.out) ?_; intro c49 hat49 hwc49; obtain rfl := (put_names ((trs.map Tir.nm).take k) t.nm 1 c49 hat49); clear hat49 hwc49))
              go_roundg (n - (k + 1))
              case rel => exact ⟨k + 1, rfl, by omega, by go_num, by show World.ownsMap _ _ _ _ _ _ _; rw [HTK.out]; unfold litsS; rw [List.map_append]; exact (by have := M5.out; rw [← Maps.setOf_snoc] at this; exact this), B5, q5, HN⟩
              case measure => rw [Hgk.out]; omega
          · have HN : Hid (dimErr ⟨nm, trs.map Tir.con⟩ = tierErr t.con ab) := by show _ = _; rw [hE.out, HS.out, if_pos hE0]
            have dE : (tierErr t.con ab != 0) = true := by simpa using hE0
            have dE2 : (tierErr t.con ab == 0) = false := by simpa using hE0
            clear hE HS hE0
            go_wp2
            go_ret
            rw [HN.out]
            exact ⟨rfl, B4.out⟩
        · have HN : Hid (dimErr ⟨nm, trs.map Tir.con⟩ = 0) := by show _ = _; rw [hE.out, List.drop_of_length_le (by have := hlen.out; simp; omega)]; rfl
          clear hE
          go_wp2
          go_ret
          rw [HN.out]
          exact ⟨rfl, hB.out⟩
    · have HE : Hid (dimErr ⟨nm, trs.map Tir.con⟩ = 5) := by
        show _ = _
        unfold dimErr
        simp only [hN, if_true, List.length_map]
        rw [if_pos (by have := hlen.out; omega)]
      rcases (show n < 1 ∨ (1 ≤ n ∧ 4 < n) by omega) with h | ⟨h, h'⟩
      all_goals
        first | (have d1 : decide ((n : Int) < 1) = true := by simp; omega) | (have d1 : decide ((n : Int) < 1) = false := by simp; omega)
        first | (have d2 : decide ((4 : Int) < n) = true := by simp; omega) | (have d2 : decide ((4 : Int) < n) = false := by simp; omega)
        clear hl
        go_enter Try.func84, Try.ntmps84
        go_wp2_with fail
        refine (name_any nm _ (by omega)).mono ?_; rintro e w1 ⟨rfl, rfl⟩
        rw [hN, show errOf true = 0 from rfl]
        go_wp2
        go_ret
        rw [HE.out]
        exact ⟨rfl, HW.out⟩

end Go.Proofs.Ytelnhhbefdfeoaa

namespace Go.Proofs.Ytelnhhbefdfeoaa
open Go.RowKit
set_option linter.unusedVariables false

/-- Where a tier's rows lie. -/
def Tir.D (T : Tir) (g : Nat) : Prop := T.ts.v.ownBlock = some g ∨ T.up.v.ownBlock = some g
abbrev rTir (T : Tir) : Res := ⟨T.D, TirOwn 0 T⟩
theorem holds_tir {base : Nat} {T : Tir} {w : World} (h : TirOwn base T w) : (rTir T).holds w := by
  have h1 := holds_row h.ts
  have h2 := holds_row h.up
  refine ⟨fun g hg => hg.elim (h1.1 g) (h2.1 g), fun w' hs hk => ⟨h1.2 w' hs fun g hg => hk g (.inl hg), h2.2 w' hs fun g hg => hk g (.inr hg), h.nm, h.tl, h.ul, h.tn, h.un⟩⟩
theorem tir_new {base : Nat} {T : Tir} {w : World} (h : TirOwn base T w) : ∀ g, T.D g → base ≤ g := fun g hg => hg.elim (own_ge h.ts) (own_ge h.up)
theorem tir_base {base : Nat} {T : Tir} {w : World} (h : TirOwn 0 T w) (hb : ∀ g, T.D g → base ≤ g) : TirOwn base T w :=
  ⟨own_base h.ts fun g hg => hb g (.inl hg), own_base h.up fun g hg => hb g (.inr hg), h.nm, h.tl, h.ul, h.tn, h.un⟩
theorem tir_nil_own (w : World) : TirOwn 0 Tir.nil w := ⟨World.ownsRow_nil w 0 _ _, World.ownsRow_nil w 0 _ _, by simp, (fun t ht => by cases ht), (fun t ht => by cases ht), by show (0 : Nat) ≤ 200; omega, by show (0 : Nat) ≤ 200; omega⟩

/-- Tiers. -/
def TirsOwn (l : List Tir) (w : World) : Prop := ∀ T ∈ l, TirOwn 0 T w
abbrev rTirs (l : List Tir) : Res := ⟨fun g => ∃ T, T ∈ l ∧ T.D g, TirsOwn l⟩
theorem holds_tirs_nil (w : World) : (rTirs []).holds w := ⟨fun g ⟨T, hT, _⟩ => (by cases hT), fun w' _ _ T hT => by cases hT⟩
theorem holds_tirs_cons {T : Tir} {l : List Tir} {w : World} (h1 : (rTir T).holds w) (h2 : (rTirs l).holds w) : (rTirs (T :: l)).holds w := by
  refine ⟨fun g ⟨U, hU, hg⟩ => ?_, fun w' hs hk U hU => ?_⟩
  · rcases List.mem_cons.1 hU with rfl | hU
    · exact h1.1 g hg
    · exact h2.1 g ⟨U, hU, hg⟩
  · rcases List.mem_cons.1 hU with rfl | hU
    · exact h1.2 w' hs fun g hg => hk g ⟨U, List.mem_cons_self .., hg⟩
    · exact h2.2 w' hs (fun g ⟨V, hV, hg⟩ => hk g ⟨V, List.mem_cons_of_mem _ hV, hg⟩) U hU
theorem tirs_cons_D {T : Tir} {l : List Tir} : ∀ g, (rTirs (T :: l)).D g → (rTirs l).D g ∨ (rTir T).D g := fun g ⟨U, hU, hg⟩ => by
  rcases List.mem_cons.1 hU with rfl | hU
  · exact .inr hg
  · exact .inl ⟨U, hU, hg⟩

/-- A dimension whose rows are the call's own. -/
structure DmOwn (d : Dm) (w : World) : Prop where
  nm : d.nm.length ≤ 12
  tr : w.ownsRow 0 77 3 (.slice d.tr.A d.tr.n d.tr.c) d.tr.n (d.tr.l.flatMap Cel.cells)
  ts : TirsOwn d.tr.l w
  n4 : d.tr.n ≤ 4
def Dm.D (d : Dm) (g : Nat) : Prop := d.tr.v.ownBlock = some g ∨ ∃ T, T ∈ d.tr.l ∧ T.D g
abbrev rDm (d : Dm) : Res := ⟨d.D, DmOwn d⟩
theorem DmOwn.rd {d : Dm} {w : World} (h : DmOwn d w) : d.rd w :=
  ⟨by have := h.nm; omega, Rd.of_own h.tr, fun T hT => (h.ts T hT).rd, by have := h.n4; omega⟩
theorem DmOwn.up {d : Dm} {w : World} (h : DmOwn d w) : ∀ t ∈ d.tr.l, t.up.n ≤ 200 := fun t ht => (h.ts t ht).un
theorem DmOwn.tn {d : Dm} {w : World} (h : DmOwn d w) : ∀ t ∈ d.tr.l, t.ts.n ≤ 200 := fun t ht => (h.ts t ht).tn
theorem holds_dm {nm : List UInt8} {A : Option Addr} {n c : Nat} {l : List Tir} {w : World} (hn : nm.length ≤ 12) (h4 : n ≤ 4) (h1 : (rRow 77 3 (.slice A n c) n (l.flatMap Cel.cells)).holds w) (h2 : (rTirs l).holds w) : (rDm ⟨nm, ⟨A, n, c, l⟩⟩).holds w :=
  ⟨fun g hg => hg.elim (h1.1 g) (h2.1 g), fun w' hs hk => ⟨hn, h1.2 w' hs fun g hg => hk g (.inl hg), h2.2 w' hs fun g hg => hk g (.inr hg), h4⟩⟩
abbrev Dm.nil : Dm := ⟨[], ⟨none, 0, 0, []⟩⟩
abbrev DC.nil : DC := ⟨[], []⟩
theorem dm_nil_rd (w : World) : Dm.nil.rd w := ⟨by simp, Row.nil_rd w⟩
theorem holds_dm_nil (w : World) : (rDm Dm.nil).holds w := holds_dm (by simp) (by omega) (holds_row (World.ownsRow_nil w 0 _ _)) (holds_tirs_nil w)
/-- Of new memory. -/
def NewR (w w' : World) (r : Res) : Prop := r.holds w' ∧ ∀ g, r.D g → w.heap.size ≤ g

end Go.Proofs.Ytelnhhbefdfeoaa

namespace Go.Proofs.Ytelnhhbefdfeoaa
open Go.RowKit
set_option linter.unusedVariables false
set_option linter.unusedSimpArgs false

theorem own_made (w : World) (t : TypeId) (cs : Array Value) (size : Nat) (hs : cs.size = size) : (w.alloc (.cells cs t)).ownsRow w.heap.size t size (.slice (some ⟨w.heap.size, 0, none⟩) 1 1) 1 cs.toList :=
  ⟨by simp [hs], .inr ⟨w.heap.size, 1, cs, rfl, Nat.le_refl _, heap_alloc_new w _, Nat.le_refl _, by unfold maxLen; omega, by omega, by rw [List.take_of_length_le (by simp [hs])]⟩⟩
theorem tirs_one (l : List Tir) : ∀ u ∈ (l.flatMap Cel.cells : List Value), u.oneCell' = true := by
  intro u hu
  obtain ⟨T, _, hT⟩ := List.mem_flatMap.1 hu
  have := tir_one T
  rw [Array.all_eq_true'] at this
  exact this u (Array.mem_toList_iff.1 hT)
theorem pdims_err {n : Nat} {k : Int} : ∀ {acc : List TC} {l : List UInt8}, pdims n acc l = .error k → k ≠ 0 := by
  induction n with
  | zero => intro acc l h; cases h
  | succ n ih =>
    intro acc l h
    rw [pdims] at h
    split at h
    · rename_i h1; injection h with h; subst h; exact ptier_err h1
    · exact ih h
theorem pdim_err {k : Int} {l : List UInt8} (h : pdim l = .error k) : k ≠ 0 := by
  unfold pdim at h
  split at h
  · rename_i h1; injection h with h; subst h; have := ptxt_err h1; omega
  · split at h
    · rename_i h1; injection h with h; subst h; have := pnum_err h1; omega
    · split at h
      · rename_i h1; injection h with h; subst h; exact pdims_err h1
      · unfold pdimC at h
        split at h
        · cases h
        · rename_i h1; injection h with h; subst h; exact h1

end Go.Proofs.Ytelnhhbefdfeoaa

namespace Go.Proofs.Ytelnhhbefdfeoaa
open Go.RowKit
set_option linter.unusedVariables false
set_option linter.unusedSimpArgs false

/-- So many tiers up. -/
def liftN : List TC → Nat → Int → Int
  | _, 0, i => i
  | [], _ + 1, i => i
  | t :: r, m + 1, i => if i < 0 then i else liftN r m (overOf t.up i)
theorem liftN_neg {l : List TC} {m : Nat} {i : Int} (h : i < 0) : liftN l m i = i := by
  cases m with
  | zero => cases l <;> rfl
  | succ m =>
    cases l with
    | nil => rfl
    | cons t r => rw [liftN, if_pos h]
theorem liftN_nil {m : Nat} {i : Int} : liftN [] m i = i := by cases m <;> rfl
theorem liftN_zero {l : List TC} {i : Int} : liftN l 0 i = i := by cases l <;> rfl
theorem liftN_add (m n : Nat) : ∀ (l : List TC) (i : Int), liftN l (m + n) i = liftN (l.drop m) n (liftN l m i) := by
  induction m with
  | zero => intro l i; rw [liftN_zero]; simp
  | succ m ih =>
    intro l i
    cases l with
    | nil => simp [liftN_nil]
    | cons t r =>
      rw [show m + 1 + n = (m + n) + 1 by omega, liftN, liftN, List.drop_succ_cons]
      by_cases h : i < 0
      · rw [if_pos h, if_pos h, liftN_neg h]
      · rw [if_neg h, if_neg h, ih]
theorem liftN_drop {trs : List TC} {k m : Nat} {t : TC} {i : Int} (h : trs[k]? = some t) (hi : 0 ≤ i) : liftN (trs.drop k) (m + 1) i = liftN (trs.drop (k + 1)) m (overOf t.up i) := by
  obtain ⟨hk, rfl⟩ := List.getElem?_eq_some_iff.1 h
  rw [List.drop_eq_getElem_cons hk, liftN, if_neg (by omega)]
/-- How many members the tier at a place has. -/
def sizeAt (trs : List TC) (k : Nat) : Nat := match trs[k]? with | some t => t.ts.length | none => 0
def liftOf (trs : List TC) (f t i : Int) : Int :=
  if 0 ≤ f ∧ f ≤ t ∧ t < trs.length ∧ 0 ≤ i ∧ i < sizeAt trs f.toNat then max (liftN (trs.drop f.toNat) (t - f).toNat i) (-1) else -1
def mapOf (trs : List TC) (f t : Int) : List Int :=
  if 0 ≤ f ∧ f ≤ t ∧ t < trs.length then (List.range (sizeAt trs f.toNat)).map (fun (k : Nat) => liftOf trs f t k) else []
def drillOf (trs : List TC) (f t i : Int) : List Int := if 0 ≤ i then placesOf i 0 (mapOf trs f t) else []

theorem treeOk_pos {up : List Int} {n : Nat} {above : Int} (h : treeOk up n above = true) (ha : 0 < above) :
    up.length = n ∧ (∀ z ∈ up, 0 ≤ z ∧ z < above) ∧ ∀ i : Nat, (i : Int) < above → (i : Int) ∈ up := by
  unfold treeOk at h
  rw [if_neg (by omega)] at h
  simp only [Bool.and_eq_true, decide_eq_true_eq, List.all_eq_true, List.mem_range, List.contains_iff_mem] at h
  exact ⟨h.1.1, h.1.2, fun i hi => h.2 i (by omega)⟩
theorem AllOk.size {t : TC} {r : List TC} (h : AllOk (t :: r)) : 1 ≤ t.ts.length := (tierErr_zero h.1).2.1
theorem AllOk.step {t u : TC} {r : List TC} (h : AllOk (t :: u :: r)) : t.up.length = t.ts.length ∧ (∀ z ∈ t.up, 0 ≤ z ∧ z < u.ts.length) ∧ ∀ i : Nat, i < u.ts.length → (i : Int) ∈ t.up := by
  have h1 := (tierErr_zero h.1).2.2.2.2
  have h2 := AllOk.size h.2
  simp only [aboveOf] at h1
  obtain ⟨a, b, c⟩ := treeOk_pos h1 (by omega)
  exact ⟨a, b, fun i hi => c i (by omega)⟩
theorem sizeAt_succ (t : TC) (r : List TC) (m : Nat) : sizeAt (t :: r) (m + 1) = sizeAt r m := rfl
theorem liftN_range (m : Nat) : ∀ {l : List TC} {i : Int}, AllOk l → m < l.length → 0 ≤ i → i < sizeAt l 0 → 0 ≤ liftN l m i ∧ liftN l m i < sizeAt l m := by
  induction m with
  | zero => intro l i _ _ h0 h1; rw [liftN_zero]; exact ⟨h0, h1⟩
  | succ m ih =>
    intro l i ha hm h0 h1
    match l, ha, hm, h1 with
    | t :: u :: r, ha, hm, h1 =>
      rw [liftN, if_neg (by omega), sizeAt_succ]
      obtain ⟨e, hz, _⟩ := AllOk.step ha
      have hi : i.toNat < t.up.length := by rw [e]; have : i < (t.ts.length : Int) := h1; omega
      have ho : overOf t.up i = t.up[i.toNat] := by unfold overOf; rw [if_neg (by omega), List.getElem?_eq_getElem hi]; rfl
      have := hz _ (List.getElem_mem hi)
      refine ih ha.2 (by simpa using hm) (by rw [ho]; exact this.1) ?_
      rw [ho]
      exact this.2
    | [t], ha, hm, h1 => simp at hm
    | [], ha, hm, h1 => simp at hm
theorem liftN_onto (m : Nat) : ∀ {l : List TC} {j : Nat}, AllOk l → m < l.length → j < sizeAt l m → ∃ i : Nat, i < sizeAt l 0 ∧ liftN l m i = j := by
  induction m with
  | zero => intro l j _ _ h; exact ⟨j, h, liftN_zero⟩
  | succ m ih =>
    intro l j ha hm h
    match l, ha, hm, h with
    | t :: u :: r, ha, hm, h =>
      rw [sizeAt_succ] at h
      obtain ⟨i', hi', hl⟩ := ih ha.2 (by simpa using hm) h
      obtain ⟨e, _, hz⟩ := AllOk.step ha
      obtain ⟨i, hi, hv⟩ := List.mem_iff_getElem.1 (hz i' hi')
      refine ⟨i, by rw [e] at hi; exact hi, ?_⟩
      rw [liftN, if_neg (by omega)]
      have ho : overOf t.up i = i' := by unfold overOf; rw [if_neg (by omega), Int.toNat_natCast, List.getElem?_eq_getElem hi, hv]; rfl
      rw [ho, hl]
    | [t], ha, hm, h => simp at hm
    | [], ha, hm, h => simp at hm
theorem sizeAt_drop (trs : List TC) (f m : Nat) : sizeAt (trs.drop f) m = sizeAt trs (f + m) := by unfold sizeAt; rw [List.getElem?_drop]
theorem allOk_drop {trs : List TC} (h : AllOk trs) (f : Nat) : AllOk (trs.drop f) := by
  have := List.take_append_drop f trs
  rw [← this] at h
  exact allOk_suffix h

/-- Of a dimension that may be: a lift stays within; by whichever way. -/
theorem lift_within {trs : List TC} (h : AllOk trs) {f t i : Nat} (h1 : f ≤ t) (h2 : t < trs.length) (h3 : i < sizeAt trs f) : liftOf trs f t i = liftN (trs.drop f) (t - f) i ∧ 0 ≤ liftOf trs f t i ∧ liftOf trs f t i < sizeAt trs t := by
  have e : liftOf trs f t i = max (liftN (trs.drop f) (t - f) i) (-1) := by
    unfold liftOf
    rw [if_pos ⟨by omega, by omega, by omega, by omega, by simpa using h3⟩]
    have : ((t : Int) - f).toNat = t - f := by omega
    rw [this]; rfl
  have hr := liftN_range (t - f) (l := trs.drop f) (i := i) (allOk_drop h f) (by simp; omega) (by omega) (by rw [sizeAt_drop]; simpa using h3)
  rw [sizeAt_drop, show f + (t - f) = t by omega] at hr
  rw [e]
  omega
theorem lift_way {trs : List TC} (h : AllOk trs) {f b t i : Nat} (h0 : f ≤ b) (h1 : b ≤ t) (h2 : t < trs.length) (h3 : i < sizeAt trs f) : liftOf trs b t (liftOf trs f b i) = liftOf trs f t i := by
  obtain ⟨e1, p1, q1⟩ := lift_within h (f := f) (t := b) (i := i) h0 (by omega) h3
  obtain ⟨j, hj⟩ : ∃ j : Nat, liftOf trs f b i = j := ⟨(liftOf trs f b i).toNat, by omega⟩
  obtain ⟨e2, _, _⟩ := lift_within h (f := f) (t := t) (i := i) (by omega) h2 h3
  rw [hj]
  obtain ⟨e3, _, _⟩ := lift_within h (f := b) (t := t) (i := j) h1 h2 (by omega)
  rw [e2, e3, show t - f = (b - f) + (t - b) by omega, liftN_add, ← e1, hj, List.drop_drop, show f + (b - f) = b by omega]
theorem placesOf_len (x : Int) (l : List Int) : ∀ k, (placesOf x k l).length = l.count x := by
  induction l with
  | nil => intro k; rfl
  | cons z r ih =>
    intro k
    rw [placesOf, List.count_cons]
    by_cases h : z = x
    · simp [h, ih]
    · simp [h, ih]
def sumTo (f : Nat → Nat) : Nat → Nat
  | 0 => 0
  | n + 1 => sumTo f n + f n
theorem sumTo_zero (n : Nat) : sumTo (fun _ => 0) n = 0 := by induction n with | zero => rfl | succ n ih => simp [sumTo, ih]
theorem sumTo_add (f g : Nat → Nat) (n : Nat) : sumTo (fun k => f k + g k) n = sumTo f n + sumTo g n := by induction n with | zero => rfl | succ n ih => simp [sumTo, ih]; omega
theorem sumTo_one (x : Nat) (n : Nat) : sumTo (fun k => if x = k then 1 else 0) n = if x < n then 1 else 0 := by
  induction n with
  | zero => rfl
  | succ n ih =>
    rw [sumTo, ih]
    split <;> split <;> split <;> omega
theorem sumTo_count (N : Nat) (l : List Int) (h : ∀ z ∈ l, 0 ≤ z ∧ z < N) : sumTo (fun k => l.count (k : Int)) N = l.length := by
  induction l with
  | nil => simp [sumTo_zero]
  | cons z r ih =>
    have hz := h z (List.mem_cons_self ..)
    obtain ⟨x, rfl⟩ : ∃ x : Nat, z = x := ⟨z.toNat, by omega⟩
    have e : (fun k : Nat => ((x : Int) :: r).count (k : Int)) = fun k : Nat => r.count (k : Int) + (if x = k then 1 else 0) := by
      funext k
      rw [List.count_cons]
      by_cases hk : x = k
      · simp [hk]
      · have : ¬ ((x : Int) = k) := by omega
        simp [hk, this]
    rw [e, sumTo_add, ih (fun z hz => h z (List.mem_cons_of_mem _ hz)), sumTo_one, if_pos (by omega), List.length_cons]
theorem mapOf_len {trs : List TC} {f t : Nat} (h1 : f ≤ t) (h2 : t < trs.length) : (mapOf trs f t).length = sizeAt trs f := by
  unfold mapOf
  rw [if_pos ⟨by omega, by omega, by omega⟩]
  simp
theorem mapOf_within {trs : List TC} (h : AllOk trs) {f t : Nat} (h1 : f ≤ t) (h2 : t < trs.length) : ∀ z ∈ mapOf trs f t, 0 ≤ z ∧ z < sizeAt trs t := by
  intro z hz
  unfold mapOf at hz
  rw [if_pos ⟨by omega, by omega, by omega⟩] at hz
  simp only [Int.toNat_natCast, List.mem_map, List.mem_range] at hz
  obtain ⟨k, hk, rfl⟩ := hz
  exact (lift_within h h1 h2 hk).2
theorem drill_len {trs : List TC} {f t : Int} (k : Nat) : (drillOf trs f t k).length = (mapOf trs f t).count (k : Int) := by
  unfold drillOf
  rw [if_pos (by omega), placesOf_len]
theorem drill_some {trs : List TC} (h : AllOk trs) {f t : Nat} (h1 : f ≤ t) (h2 : t < trs.length) {k : Nat} (hk : k < sizeAt trs t) : 1 ≤ (drillOf trs f t k).length := by
  rw [drill_len]
  obtain ⟨i, hi, hl⟩ := liftN_onto (t - f) (l := trs.drop f) (j := k) (allOk_drop h f) (by simp; omega) (by rw [sizeAt_drop, show f + (t - f) = t by omega]; exact hk)
  rw [sizeAt_drop] at hi
  have hi : i < sizeAt trs f := by simpa using hi
  have : (k : Int) ∈ mapOf trs f t := by
    unfold mapOf
    rw [if_pos ⟨by omega, by omega, by omega⟩]
    simp only [Int.toNat_natCast, List.mem_map, List.mem_range]
    exact ⟨i, hi, by rw [(lift_within h h1 h2 hi).1, hl]⟩
  exact List.count_pos_iff.2 this
theorem drill_sum {trs : List TC} (h : AllOk trs) {f t : Nat} (h1 : f ≤ t) (h2 : t < trs.length) : sumTo (fun k => (drillOf trs f t k).length) (sizeAt trs t) = sizeAt trs f := by
  have e : (fun k : Nat => (drillOf trs f t k).length) = fun k : Nat => (mapOf trs f t).count (k : Int) := by funext k; exact drill_len k
  rw [e, sumTo_count _ _ (mapOf_within h h1 h2), mapOf_len h1 h2]

end Go.Proofs.Ytelnhhbefdfeoaa

namespace Go.Proofs.Ytelnhhbefdfeoaa
open Go.RowKit
set_option linter.unusedVariables false
set_option linter.unusedSimpArgs false

set_option maxRecDepth 100000 in
theorem has_any (d : Dm) (k : Int) (w : World) (hd : d.rd w) :
    Calls Try.prog 68 #[.agg d.cs, .int .i64 k] w fun e w' => e = .returned (.bool (decide (0 ≤ k ∧ k < d.tr.n))) ∧ Bel w w' := by
  have hW := (Bel.refl w).alloc (.cells d.cs 66)
  have h63 := hd.tr.n63
  obtain ⟨nm, ⟨A, n, c, trs⟩⟩ := d
  simp only [Dm.cs] at *
  have HW := Lib.hid hW
  clear hW hd
  by_cases h0 : 0 ≤ k
  · have d0 : decide ((0 : Int) ≤ k) = true := by simpa using h0
    by_cases h1 : k < n
    · have d1 : decide (k < (n : Int)) = true := by simpa using h1
      have dd : decide (0 ≤ k ∧ k < (n : Int)) = true := by simp; omega
      go_enter Try.func68, Try.ntmps68
      go_wp2
      go_ret
      try rw [dd]
      exact ⟨rfl, HW.out⟩
    · have d1 : decide (k < (n : Int)) = false := by simp; omega
      have dd : decide (0 ≤ k ∧ k < (n : Int)) = false := by simp; omega
      go_enter Try.func68, Try.ntmps68
      go_wp2
      go_ret
      try rw [dd]
      exact ⟨rfl, HW.out⟩
  · have d0 : decide ((0 : Int) ≤ k) = false := by simp; omega
    have dd : decide (0 ≤ k ∧ k < (n : Int)) = false := by simp; omega
    go_enter Try.func68, Try.ntmps68
    go_wp2
    go_ret
    try rw [dd]
    exact ⟨rfl, HW.out⟩

theorem sizeAt_tir {trs : List Tir} {k : Nat} {t : Tir} (h : trs[k]? = some t) : sizeAt (trs.map Tir.con) k = t.ts.l.length := by
  unfold sizeAt
  rw [List.getElem?_map, h]
  rfl

set_option maxRecDepth 100000 in
set_option maxHeartbeats 1000000 in
theorem lift_any (d : Dm) (f t i : Int) (w : World) (hd : d.rd w) (hf : I64 f) (ht : I64 t) (hi : I64 i) (hn : d.tr.n ≤ 1000000) :
    Calls Try.prog 95 #[.agg d.cs, .int .i64 f, .int .i64 t, .int .i64 i] w fun e w' => e = .returned (.int .i64 (liftOf (d.tr.l.map Tir.con) f t i)) ∧ Bel w w' := by
  have HH := Lib.hid (fun k w' (hb : Bel w w') => has_any d k w' (hd.mono hb))
  have hW := (Bel.refl w).alloc (.cells d.cs 66)
  have q0 := Lib.hid (Blk.new w 66 d.cs)
  have hlen : Hid (d.tr.l.length = d.tr.n) := hd.tr.len
  have HD := Lib.hid (hd.mono hW).tr
  obtain ⟨nm, ⟨A, n, c, trs⟩⟩ := d
  simp only [Dm.cs] at *
  have HW := Lib.hid hW
  have hml : (trs.map Tir.con).length = n := by rw [List.length_map]; exact hlen.out
  clear hW hd
  obtain ⟨f0, f1⟩ := hf
  obtain ⟨t0, t1⟩ := ht
  by_cases hF : 0 ≤ f ∧ f < n
  · have dF : decide (0 ≤ f ∧ f < (n : Int)) = true := by simp; omega
    by_cases hT : 0 ≤ t ∧ t < n
    · have dT : decide (0 ≤ t ∧ t < (n : Int)) = true := by simp; omega
      by_cases hFT : t < f
      · have HE : Hid (liftOf (trs.map Tir.con) f t i = -1) := by show _ = _; unfold liftOf; rw [if_neg (by omega)]
        have d1 : decide (t < f) = true := by simpa using hFT
        clear hml
        go_enter Try.func95, Try.ntmps95
        go_wp2_with fail
        refine (HH.out f _ HW.out).mono ?_; rintro e w1 ⟨rfl, hb1⟩
        rw [dF]
        have b1 := q0.out.bel hb1
        go_wp2_with ((with_reducible show wpList _ _ _ (⟨some 15, _, _, _, _, _⟩ :: _) _ _); refine wpList_load_blkG (by first | rfl | go_simp) rowDm (.tmp 4) (by rfl) w.heap.size (by rfl) b1 rfl ?_)
        refine (HH.out t _ (HW.out.trans hb1)).mono ?_; rintro e w2 ⟨rfl, hb2⟩
        rw [dT]
        go_wp2
        go_ret
        rw [HE.out]
        exact ⟨rfl, (HW.out.trans hb1).trans hb2⟩
      · have d1 : decide (t < f) = false := by simp; omega
        obtain ⟨f, rfl⟩ : ∃ k : Nat, f = k := ⟨f.toNat, by omega⟩
        obtain ⟨t, rfl⟩ : ∃ k : Nat, t = k := ⟨t.toNat, by omega⟩
        have d1n : decide (t < f) = false := by simp; omega
        have d1m : (t < f) = False := by simp; omega
        by_cases hi0 : i < 0
        · have HE : Hid (liftOf (trs.map Tir.con) f t i = -1) := by show _ = _; unfold liftOf; rw [if_neg (by omega)]
          have d2 : decide (i < 0) = true := by simpa using hi0
          clear hml
          go_enter Try.func95, Try.ntmps95
          go_wp2_with fail
          refine (HH.out f _ HW.out).mono ?_; rintro e w1 ⟨rfl, hb1⟩
          rw [dF]
          have b1 := q0.out.bel hb1
          go_wp2_with ((with_reducible show wpList _ _ _ (⟨some 15, _, _, _, _, _⟩ :: _) _ _); refine wpList_load_blkG (by first | rfl | go_simp) rowDm (.tmp 4) (by rfl) w.heap.size (by rfl) b1 rfl ?_)
          refine (HH.out t _ (HW.out.trans hb1)).mono ?_; rintro e w2 ⟨rfl, hb2⟩
          rw [dT]
          go_wp2
          go_ret
          rw [HE.out]
          exact ⟨rfl, (HW.out.trans hb1).trans hb2⟩
        · have d2 : decide (i < 0) = false := by simp; omega
          have hfn : f < n := by omega
          obtain ⟨bb, oo, T, hA, hbb, hT0, hTr, hrg⟩ := HD.out.tirAt (k := f) hfn
          simp only at hA
          subst hA
          have hsz : sizeAt (trs.map Tir.con) f = T.ts.n := by rw [sizeAt_tir hT0]; exact hTr.ts.len
          have hc0 := hrg 1 _ rfl
          by_cases hiN : i < T.ts.n
          · have d3 : decide ((T.ts.n : Int) ≤ i) = false := by simp; omega
            have HE : Hid (liftOf (trs.map Tir.con) f t i = max (liftN ((trs.map Tir.con).drop f) (t - f) i) (-1)) := by
              show _ = _
              unfold liftOf
              rw [if_pos ⟨by omega, by omega, by omega, by omega, by rw [Int.toNat_natCast, hsz]; exact hiN⟩, Int.toNat_natCast]
              rw [show ((t : Int) - f).toNat = t - f by omega]
            have HL0 : Hid (liftN ((trs.map Tir.con).drop f) (t - f) i = liftN ((trs.map Tir.con).drop f) (t - f) i) := rfl
            have hft : f ≤ t := by omega
            have htn : t < n := by omega
            clear hml hsz hT0 hTr hrg
            go_enter Try.func95, Try.ntmps95
            go_wp2_with fail
            refine (HH.out f _ HW.out).mono ?_; rintro e w1 ⟨rfl, hb1⟩
            rw [dF]
            have b1 := q0.out.bel hb1
            go_wp2_with ((with_reducible show wpList _ _ _ (⟨some 15, _, _, _, _, _⟩ :: _) _ _); refine wpList_load_blkG (by first | rfl | go_simp) rowDm (.tmp 4) (by rfl) w.heap.size (by rfl) b1 rfl ?_)
            refine (HH.out t _ (HW.out.trans hb1)).mono ?_; rintro e w2 ⟨rfl, hb2⟩
            rw [dT]
            have B2 := Lib.hid ((HW.out.trans hb1).trans hb2)
            have Q2 := Lib.hid (b1.bel hb2)
            have c2 := ((hb1.trans hb2).cell hbb).trans hc0
            have D2 := Lib.hid ((HD.out.mono hb1).mono hb2)
            have g2 := Q2.out.cell 1
            simp only [List.getElem?_toArray, List.getElem?_cons_zero, List.getElem?_cons_succ] at g2
            have i2 : (0 : Int) ≤ f := by omega
            have i3 : (f : Int) < n := by omega
            go_wp2_with fail
            have L0 : Hid (liftN ((trs.map Tir.con).drop f) (t - f) i = liftN ((trs.map Tir.con).drop f) (t - f) i) := rfl
            clear c2 hc0 g2 d1 d2 d3 dF dT q0 HW HD HL0
            go_loopg [3, 9] (t - f) (fun gg s3 s9 wr => ∃ (k : Nat) (j : Int), gg = t - k ∧ f ≤ k ∧ k ≤ t ∧ s3 = .int .i64 j ∧ s9 = .int .i64 k ∧ I64 j ∧ Hid (Bel w wr) ∧ Hid (Blk wr w.heap.size 66 #[.string ⟨nm.toArray⟩, .slice (some ⟨bb, oo, none⟩) n c]) ∧ Hid (Row.rd wr ⟨some ⟨bb, oo, none⟩, n, c, trs⟩) ∧ Hid (liftN ((trs.map Tir.con).drop f) (t - f) i = liftN ((trs.map Tir.con).drop k) (t - k) j))
            case atStart => exact ⟨f, i, rfl, by omega, by omega, rfl, rfl, hi, B2, Q2, D2, L0⟩
            case round =>
              clear B2 Q2 D2 L0
              obtain ⟨k, j, hgk, hk0, hk, rfl, rfl, hj, hB, hQ, hD, hL⟩ := hrel
              have Hgk := Lib.hid hgk
              clear hgk
              have g2 := hQ.out.cell 1
              simp only [List.getElem?_toArray, List.getElem?_cons_zero, List.getElem?_cons_succ] at g2
              by_cases hlt : k < t
              · have e1 : decide ((k : Int) < t) = true := by simp; omega
                by_cases hj0 : 0 ≤ j
                · have e2 : decide ((0 : Int) ≤ j) = true := by simpa using hj0
                  obtain ⟨b2, o2, U, hA2, hb2, hU, hUr, hrg⟩ := hD.out.tirAt (k := k) (show k < n by omega)
                  simp only [Option.some.injEq, Addr.mk.injEq] at hA2
                  obtain ⟨rfl, rfl, _⟩ := hA2
                  have hUc : (trs.map Tir.con)[k]? = some U.con := by rw [List.getElem?_map, hU]; rfl
                  have HN : Hid (liftN ((trs.map Tir.con).drop f) (t - f) i = liftN ((trs.map Tir.con).drop (k + 1)) (t - (k + 1)) (overOf U.up.l j)) := by
                    show _ = _
                    rw [hL.out, show t - k = (t - (k + 1)) + 1 by omega, liftN_drop hUc hj0]
                  have i2 : (0 : Int) ≤ k := by omega
                  have i3 : (k : Int) < n := by omega
                  have ho : I64 (overOf U.up.l j) := by
                    unfold overOf
                    split
                    · unfold I64; omega
                    · cases hz : U.up.l[j.toNat]? with
                      | none => unfold I64; simp
                      | some z => exact hUr.up.all z (List.mem_of_getElem? hz)
                  have HRG := Lib.hid hrg
                  have HO := Lib.hid (over_any U j wr hUr hj)
                  have wk : IntKind.i64.wrap ((k : Int) + 1) = (k : Int) + 1 := IntWalk.i64_in _ (by omega)
                  clear hL hU hUr hrg hUc hb2
                  go_wp2_with ((with_reducible show wpList _ _ _ (⟨some 54, _, _, _, _, _⟩ :: _) _ _); refine wpList_load_row_at rfl rowTir (.tmp 53) rfl bb (oo + k * 3) rfl U.cs rfl HRG.out ?_)
                  refine HO.out.mono ?_; rintro e w3 ⟨rfl, hb3⟩
                  go_wp2_with fail
                  go_roundg (t - (k + 1))
                  case rel => exact ⟨k + 1, overOf U.up.l j, rfl, by omega, by omega, rfl, by go_num, ho, hB.out.trans hb3, hQ.out.bel hb3, hD.out.mono hb3, HN⟩
                  case measure => rw [Hgk.out]; omega
                · have e2 : decide ((0 : Int) ≤ j) = false := by simp; omega
                  have HN : Hid (liftOf (trs.map Tir.con) f t i = max j (-1)) := by show _ = _; rw [HE.out, hL.out, liftN_neg (by omega)]
                  clear hL HE
                  go_wp2
                  go_ret
                  rw [HN.out]
                  exact ⟨rfl, hB.out⟩
              · have e1 : decide ((k : Int) < t) = false := by simp; omega
                have HN : Hid (liftOf (trs.map Tir.con) f t i = max j (-1)) := by show _ = _; rw [HE.out, hL.out, show t - k = 0 by omega, liftN_zero]
                clear hL HE
                go_wp2
                go_ret
                rw [HN.out]
                exact ⟨rfl, hB.out⟩
          · have d3 : decide ((T.ts.n : Int) ≤ i) = true := by simp; omega
            have HE : Hid (liftOf (trs.map Tir.con) f t i = -1) := by
              show _ = _
              unfold liftOf
              rw [if_neg]
              rw [Int.toNat_natCast, hsz]
              omega
            clear hml hsz hT0 hTr hrg
            go_enter Try.func95, Try.ntmps95
            go_wp2_with fail
            refine (HH.out f _ HW.out).mono ?_; rintro e w1 ⟨rfl, hb1⟩
            rw [dF]
            have b1 := q0.out.bel hb1
            go_wp2_with ((with_reducible show wpList _ _ _ (⟨some 15, _, _, _, _, _⟩ :: _) _ _); refine wpList_load_blkG (by first | rfl | go_simp) rowDm (.tmp 4) (by rfl) w.heap.size (by rfl) b1 rfl ?_)
            refine (HH.out t _ (HW.out.trans hb1)).mono ?_; rintro e w2 ⟨rfl, hb2⟩
            rw [dT]
            have B2 := Lib.hid ((HW.out.trans hb1).trans hb2)
            have Q2 := Lib.hid (b1.bel hb2)
            have c2 := ((hb1.trans hb2).cell hbb).trans hc0
            have g2 := Q2.out.cell 1
            simp only [List.getElem?_toArray, List.getElem?_cons_zero, List.getElem?_cons_succ] at g2
            have i2 : (0 : Int) ≤ f := by omega
            have i3 : (f : Int) < n := by omega
            go_wp2
            go_ret
            rw [HE.out]
            exact ⟨rfl, B2.out⟩
    · have dT : decide (0 ≤ t ∧ t < (n : Int)) = false := by simp; omega
      have HE : Hid (liftOf (trs.map Tir.con) f t i = -1) := by show _ = _; unfold liftOf; rw [if_neg (by omega)]
      clear hml
      go_enter Try.func95, Try.ntmps95
      go_wp2_with fail
      refine (HH.out f _ HW.out).mono ?_; rintro e w1 ⟨rfl, hb1⟩
      rw [dF]
      have b1 := q0.out.bel hb1
      go_wp2_with ((with_reducible show wpList _ _ _ (⟨some 15, _, _, _, _, _⟩ :: _) _ _); refine wpList_load_blkG (by first | rfl | go_simp) rowDm (.tmp 4) (by rfl) w.heap.size (by rfl) b1 rfl ?_)
      refine (HH.out t _ (HW.out.trans hb1)).mono ?_; rintro e w2 ⟨rfl, hb2⟩
      rw [dT]
      go_wp2
      go_ret
      rw [HE.out]
      exact ⟨rfl, (HW.out.trans hb1).trans hb2⟩
  · have dF : decide (0 ≤ f ∧ f < (n : Int)) = false := by simp; omega
    have HE : Hid (liftOf (trs.map Tir.con) f t i = -1) := by show _ = _; unfold liftOf; rw [if_neg (by omega)]
    clear hml
    go_enter Try.func95, Try.ntmps95
    go_wp2_with fail
    refine (HH.out f _ HW.out).mono ?_; rintro e w1 ⟨rfl, hb1⟩
    rw [dF]
    go_wp2
    go_ret
    rw [HE.out]
    exact ⟨rfl, HW.out.trans hb1⟩

end Go.Proofs.Ytelnhhbefdfeoaa

namespace Go.Proofs.Ytelnhhbefdfeoaa
open Go.RowKit
set_option linter.unusedVariables false
set_option linter.unusedSimpArgs false

/-- A row of numbers that the call hands back, in new memory. -/
def IntsPost (xs : List Int) (w : World) (e : Ending) (w' : World) : Prop := ∃ (A : Option Addr) (c : Nat), e = .returned (.slice A xs.length c) ∧ Bel w w' ∧ w'.ownsRow w.heap.size 3 1 (.slice A xs.length c) xs.length (xs.map (Value.int .i64))
def sizesOf (trs : List TC) : List Int := trs.map (fun t => (t.ts.length : Int))
theorem take_snoc_get {α : Type} {l : List α} {k : Nat} {x : α} (h : l[k]? = some x) : l.take (k + 1) = l.take k ++ [x] := by
  obtain ⟨hk, rfl⟩ := List.getElem?_eq_some_iff.1 h
  exact List.take_succ_eq_append_getElem hk

theorem mapOf_get {trs : List TC} {f t : Int} {k : Nat} (h : k < (mapOf trs f t).length) : (mapOf trs f t)[k]? = some (liftOf trs f t k) := by
  unfold mapOf at h ⊢
  split at h
  · rename_i hc
    rw [if_pos hc]
    simp only [List.length_map, List.length_range] at h
    rw [List.getElem?_map, List.getElem?_range h]
    rfl
  · simp at h
theorem mapOf_no {trs : List TC} {f t : Int} (h : ¬ (0 ≤ f ∧ f ≤ t ∧ t < trs.length)) : mapOf trs f t = [] := by unfold mapOf; rw [if_neg h]
theorem intsPost_nil {w w' : World} (hb : Bel w w') : IntsPost [] w (.returned (.slice none 0 0)) w' := ⟨none, 0, rfl, hb, World.ownsRow_nil _ _ _ _⟩

set_option maxRecDepth 100000 in
set_option maxHeartbeats 1000000 in
theorem dmmap_any (d : Dm) (f t : Int) (w : World) (hd : d.rd w) (hf : I64 f) (ht : I64 t) (hn : d.tr.n ≤ 1000000) (hs : ∀ T ∈ d.tr.l, T.ts.n ≤ 100000) :
    Calls Try.prog 71 #[.agg d.cs, .int .i64 f, .int .i64 t] w (IntsPost (mapOf (d.tr.l.map Tir.con) f t) w) := by
  have HH := Lib.hid (fun k w' (hb : Bel w w') => has_any d k w' (hd.mono hb))
  have HLf := Lib.hid (fun i w' (hb : Bel w w') (hi : I64 i) => lift_any d f t i w' (hd.mono hb) hf ht hi hn)
  have H := Lib.hid (((SL.start No w).alloc d.cs 66).addNil 3 1)
  (try simp only [List.set_cons_zero, List.set_cons_succ, List.cons_append, List.nil_append, List.eraseIdx_cons_zero, List.eraseIdx_cons_succ, List.setIfInBounds_toArray, World.size_alloc, selR, List.getD_cons_zero, List.getD_cons_succ] at H)
  have hlen : Hid (d.tr.l.length = d.tr.n) := hd.tr.len
  have HD := Lib.hid hd.tr
  have HSZ := Lib.hid hs
  obtain ⟨nm, ⟨A, n, c, trs⟩⟩ := d
  simp only [Dm.cs] at *
  have hml : (trs.map Tir.con).length = n := by rw [List.length_map]; exact hlen.out
  clear hd hs
  obtain ⟨f0, f1⟩ := hf
  obtain ⟨t0, t1⟩ := ht
  by_cases hF : 0 ≤ f ∧ f < n
  · have dF : decide (0 ≤ f ∧ f < (n : Int)) = true := by simp; omega
    by_cases hT : 0 ≤ t ∧ t < n
    · have dT : decide (0 ≤ t ∧ t < (n : Int)) = true := by simp; omega
      by_cases hFT : t < f
      · have HE : Hid (mapOf (trs.map Tir.con) f t = []) := mapOf_no (by omega)
        have d1 : decide (t < f) = true := by simpa using hFT
        clear hml
        go_enter Try.func71, Try.ntmps71
        go_wp2_with fail
        generalize w.heap.size = x at *
        generalize w.alloc (.cells #[.string ⟨nm.toArray⟩, .slice A n c] 66) = w1 at *
        refine (HH.out f _ H.out.to).mono ?_; rintro e w2 ⟨rfl, hb2⟩
        replace H := Lib.hid (H.out.bel hb2); (try simp only [List.set_cons_zero, List.set_cons_succ, List.cons_append, List.nil_append, List.eraseIdx_cons_zero, List.eraseIdx_cons_succ, List.setIfInBounds_toArray, World.size_alloc, selR, List.getD_cons_zero, List.getD_cons_succ] at H)
        rw [dF]
        clear hb2
        go_wp2_with ((with_reducible show wpList _ _ _ (⟨some 14, _, _, _, _, _⟩ :: _) _ _); refine wpList_load_blkG (by first | rfl | go_simp) rowDm (.tmp 3) (by rfl) _ (by rfl) (H.out.blk 0 rfl) rfl ?_)
        refine (HH.out t _ H.out.to).mono ?_; rintro e w3 ⟨rfl, hb3⟩
        replace H := Lib.hid (H.out.bel hb3); (try simp only [List.set_cons_zero, List.set_cons_succ, List.cons_append, List.nil_append, List.eraseIdx_cons_zero, List.eraseIdx_cons_succ, List.setIfInBounds_toArray, World.size_alloc, selR, List.getD_cons_zero, List.getD_cons_succ] at H)
        rw [dT]
        clear hb3
        go_wp2
        go_ret
        rw [HE.out]
        exact intsPost_nil H.out.to
      · have d1 : decide (t < f) = false := by simp; omega
        obtain ⟨f, rfl⟩ : ∃ k : Nat, f = k := ⟨f.toNat, by omega⟩
        obtain ⟨t, rfl⟩ : ∃ k : Nat, t = k := ⟨t.toNat, by omega⟩
        have d1n : decide (t < f) = false := by simp; omega
        have hfn : f < n := by omega
        obtain ⟨m, hm⟩ : ∃ m, m = (mapOf (trs.map Tir.con) f t).length := ⟨_, rfl⟩
        have hm2 : m = sizeAt (trs.map Tir.con) f := by rw [hm]; exact mapOf_len (by omega) (by omega)
        have HM := Lib.hid hm
        have HM2 := Lib.hid hm2
        clear hml hm hm2
        go_enter Try.func71, Try.ntmps71
        go_wp2_with fail
        generalize w.heap.size = x at *
        generalize w.alloc (.cells #[.string ⟨nm.toArray⟩, .slice A n c] 66) = w1 at *
        refine (HH.out f _ H.out.to).mono ?_; rintro e w2 ⟨rfl, hb2⟩
        replace H := Lib.hid (H.out.bel hb2); (try simp only [List.set_cons_zero, List.set_cons_succ, List.cons_append, List.nil_append, List.eraseIdx_cons_zero, List.eraseIdx_cons_succ, List.setIfInBounds_toArray, World.size_alloc, selR, List.getD_cons_zero, List.getD_cons_succ] at H)
        rw [dF]
        clear hb2
        go_wp2_with ((with_reducible show wpList _ _ _ (⟨some 14, _, _, _, _, _⟩ :: _) _ _); refine wpList_load_blkG (by first | rfl | go_simp) rowDm (.tmp 3) (by rfl) _ (by rfl) (H.out.blk 0 rfl) rfl ?_)
        refine (HH.out t _ H.out.to).mono ?_; rintro e w3 ⟨rfl, hb3⟩
        replace H := Lib.hid (H.out.bel hb3); (try simp only [List.set_cons_zero, List.set_cons_succ, List.cons_append, List.nil_append, List.eraseIdx_cons_zero, List.eraseIdx_cons_succ, List.setIfInBounds_toArray, World.size_alloc, selR, List.getD_cons_zero, List.getD_cons_succ] at H)
        rw [dT]
        clear hb3
        obtain ⟨bb, oo, T, hA, hbb, hT0, hTr, hrg⟩ := (HD.out.mono H.out.to).tirAt (k := f) hfn
        simp only at hA
        subst hA
        have hTm : m = T.ts.n := by rw [HM2.out, sizeAt_tir hT0]; exact hTr.ts.len
        have hTn := HSZ.out T (List.mem_of_getElem? hT0)
        have hc0 := hrg 1 _ rfl
        rw [← hTm] at hc0 hTn
        have i2 : (0 : Int) ≤ f := by omega
        have i3 : (f : Int) < n := by omega
        have c0 := (H.out.blk 0 rfl).cell 1; simp only [List.getElem?_toArray, List.getElem?_cons_zero, List.getElem?_cons_succ] at c0
        clear hT0 hTr hrg hTm hbb HM2
        go_wp2_with fail
        clear c0 hc0
        rw [← List.take_zero (l := (mapOf (trs.map Tir.con) f t).map (Value.int .i64))] at H
        clear d1 d1n dF dT
        go_loopg [7, 31] m (fun gg s7 s31 wr => ∃ (k : Nat) (B : Option Addr) (cc : Nat), gg = m - k ∧ k ≤ m ∧ s31 = .int .i64 k ∧ s7 = .slice B k cc ∧ Hid (SL No w wr [rBlk x 66 #[.string ⟨nm.toArray⟩, .slice (some ⟨bb, oo, none⟩) n c], rRow 3 1 (.slice B k cc) k (((mapOf (trs.map Tir.con) f t).map (Value.int .i64)).take k)]))
        case atStart => exact ⟨0, none, 0, rfl, by omega, rfl, rfl, H⟩
        case round =>
          clear H
          obtain ⟨k, B, cc, hgk, hk, rfl, rfl, H⟩ := hrel
          have Hgk := Lib.hid hgk
          clear hgk
          by_cases hlt : k < m
          · have hi : I64 ((k : Nat) : Int) := by unfold I64; omega
            have HX := Lib.hid (take_snoc_get (l := (mapOf (trs.map Tir.con) f t).map (Value.int .i64)) (k := k) (x := .int .i64 (liftOf (trs.map Tir.con) f t k)) (by rw [List.getElem?_map, mapOf_get (by rw [← HM.out]; exact hlt)]; rfl))
            go_wp2_with ((with_reducible show wpList _ _ _ (⟨some 35, _, _, _, _, _⟩ :: _) _ _); (refine wpList_load_blk rfl rowDm (.tmp 3) rfl _ rfl (H.out.blk 0 rfl) rfl ?_))
            refine (HLf.out k _ H.out.to hi).mono ?_; rintro e w5 ⟨rfl, hb5⟩
            replace H := Lib.hid (H.out.bel hb5); (try simp only [List.set_cons_zero, List.set_cons_succ, List.cons_append, List.nil_append, List.eraseIdx_cons_zero, List.eraseIdx_cons_succ, List.setIfInBounds_toArray, World.size_alloc, selR, List.getD_cons_zero, List.getD_cons_succ] at H)
            clear hb5
            go_wp2_with ((with_reducible show wpList _ _ _ (⟨some 41, _, _, _, _, _⟩ :: _) _ _); (replace H := Lib.hid (H.out.alloc #[.int .i64 (liftOf (trs.map Tir.con) f t k)] 3); (try simp only [List.set_cons_zero, List.set_cons_succ, List.cons_append, List.nil_append, List.eraseIdx_cons_zero, List.eraseIdx_cons_succ, List.setIfInBounds_toArray, World.size_alloc, selR, List.getD_cons_zero, List.getD_cons_succ] at H); refine wpList_append0 rfl (.tmp 34) (.tmp 40) _ rfl E_num 0 (Nat.zero_le _) _ k _ rfl (H.out.row 1 rfl) _ 1 1 [.int .i64 (liftOf (trs.map Tir.con) f t k)] rfl (reads_of_block (H.out.blk 2 rfl) rfl) (by simp [Value.oneCell']) (by unfold maxLen; omega) (by omega) ?_; intro vq wq howq hgq hatq; replace H := Lib.hid (H.out.setRow 1 rfl hgq howq hatq); (try simp only [List.set_cons_zero, List.set_cons_succ, List.cons_append, List.nil_append, List.eraseIdx_cons_zero, List.eraseIdx_cons_succ, List.setIfInBounds_toArray, World.size_alloc, selR, List.getD_cons_zero, List.getD_cons_succ] at H); clear howq hgq hatq; obtain ⟨A2, c2, rfl, _⟩ := own_slice (H.out.row 1 rfl)))
            replace H := Lib.hid (H.out.sel [0, 1] (by decide) (by simp)); (try simp only [List.set_cons_zero, List.set_cons_succ, List.cons_append, List.nil_append, List.eraseIdx_cons_zero, List.eraseIdx_cons_succ, List.setIfInBounds_toArray, World.size_alloc, selR, List.getD_cons_zero, List.getD_cons_succ] at H)
            rw [← HX.out] at H
            go_roundg (m - (k + 1))
            case rel => exact ⟨k + 1, A2, c2, rfl, by omega, by go_num, rfl, H⟩
            case measure => rw [Hgk.out]; omega
          · obtain rfl : k = m := by omega
            go_wp2
            go_ret
            have hr := H.out.rowB 1 rfl
            rw [List.take_of_length_le (by rw [List.length_map, ← HM.out]; omega)] at hr
            refine ⟨B, cc, ?_, H.out.to, ?_⟩
            · rw [← HM.out]; rfl
            · rw [← HM.out]; exact hr
    · have dT : decide (0 ≤ t ∧ t < (n : Int)) = false := by simp; omega
      have HE : Hid (mapOf (trs.map Tir.con) f t = []) := mapOf_no (by omega)
      clear hml
      go_enter Try.func71, Try.ntmps71
      go_wp2_with fail
      generalize w.heap.size = x at *
      generalize w.alloc (.cells #[.string ⟨nm.toArray⟩, .slice A n c] 66) = w1 at *
      refine (HH.out f _ H.out.to).mono ?_; rintro e w2 ⟨rfl, hb2⟩
      replace H := Lib.hid (H.out.bel hb2); (try simp only [List.set_cons_zero, List.set_cons_succ, List.cons_append, List.nil_append, List.eraseIdx_cons_zero, List.eraseIdx_cons_succ, List.setIfInBounds_toArray, World.size_alloc, selR, List.getD_cons_zero, List.getD_cons_succ] at H)
      rw [dF]
      clear hb2
      go_wp2_with ((with_reducible show wpList _ _ _ (⟨some 14, _, _, _, _, _⟩ :: _) _ _); refine wpList_load_blkG (by first | rfl | go_simp) rowDm (.tmp 3) (by rfl) _ (by rfl) (H.out.blk 0 rfl) rfl ?_)
      refine (HH.out t _ H.out.to).mono ?_; rintro e w3 ⟨rfl, hb3⟩
      replace H := Lib.hid (H.out.bel hb3); (try simp only [List.set_cons_zero, List.set_cons_succ, List.cons_append, List.nil_append, List.eraseIdx_cons_zero, List.eraseIdx_cons_succ, List.setIfInBounds_toArray, World.size_alloc, selR, List.getD_cons_zero, List.getD_cons_succ] at H)
      rw [dT]
      clear hb3
      go_wp2
      go_ret
      rw [HE.out]
      exact intsPost_nil H.out.to
  · have dF : decide (0 ≤ f ∧ f < (n : Int)) = false := by simp; omega
    have HE : Hid (mapOf (trs.map Tir.con) f t = []) := mapOf_no (by omega)
    clear hml
    go_enter Try.func71, Try.ntmps71
    go_wp2_with fail
    generalize w.heap.size = x at *
    generalize w.alloc (.cells #[.string ⟨nm.toArray⟩, .slice A n c] 66) = w1 at *
    refine (HH.out f _ H.out.to).mono ?_; rintro e w2 ⟨rfl, hb2⟩
    replace H := Lib.hid (H.out.bel hb2); (try simp only [List.set_cons_zero, List.set_cons_succ, List.cons_append, List.nil_append, List.eraseIdx_cons_zero, List.eraseIdx_cons_succ, List.setIfInBounds_toArray, World.size_alloc, selR, List.getD_cons_zero, List.getD_cons_succ] at H)
    rw [dF]
    clear hb2
    go_wp2
    go_ret
    rw [HE.out]
    exact intsPost_nil H.out.to

end Go.Proofs.Ytelnhhbefdfeoaa

namespace Go.Proofs.Ytelnhhbefdfeoaa
open Go.RowKit
set_option linter.unusedVariables false
set_option linter.unusedSimpArgs false

theorem above_i64 {w : World} {trs : List Tir} (h : ∀ t ∈ trs, t.rd w) (k : Nat) : I64 (aboveOf ((trs.map Tir.con).drop k)) := by
  unfold I64
  cases hdr : (trs.map Tir.con).drop k with
  | nil => simp [aboveOf]
  | cons u r =>
    have hm : u ∈ (trs.map Tir.con) := List.mem_of_mem_drop (i := k) (by rw [hdr]; exact List.mem_cons_self ..)
    obtain ⟨v, hv, rfl⟩ := List.mem_map.1 hm
    have h1 := h v hv
    have h2 : v.ts.l.length = v.ts.n := Row.rd.len (Tir.rd.ts h1)
    have h3 := (Tir.rd.ts h1).n63
    simp only [aboveOf]
    omega

set_option maxRecDepth 100000 in
set_option maxHeartbeats 2000000 in
theorem dmwrong_any (d : Dm) (w : World) (hd : d.rd w) (hn : d.tr.n ≤ 1000000) :
    Calls Try.prog 54 #[.agg d.cs] w fun e w' => e = .returned (.int .i64 (dimErr d.con)) ∧ Bel w w' := by
  have HAB := Lib.hid (fun k (hk : k < d.tr.n) w' (hb : Bel w w') => rdabove_any d k w' (hd.mono hb) hk hn)
  have hW := (Bel.refl w).alloc (.cells d.cs 66)
  have hlen : Hid (d.tr.l.length = d.tr.n) := hd.tr.len
  have hnm := hd.nm
  have HD := Lib.hid hd.tr
  obtain ⟨nm, ⟨A, n, c, trs⟩⟩ := d
  simp only [Dm.cs, Dm.con] at *
  have HW := Lib.hid hW
  clear hW hd
  cases hN : isName nm with
  | false =>
    have HE : Hid (dimErr ⟨nm, trs.map Tir.con⟩ = 2) := by show _ = _; unfold dimErr; simp [hN]
    go_enter Try.func54, Try.ntmps54
    go_wp2_with fail
    refine (rname_any nm _ (by omega)).mono ?_; rintro e w1 ⟨rfl, rfl⟩
    rw [hN]
    go_wp2
    go_ret
    rw [HE.out]
    exact ⟨rfl, HW.out⟩
  | true =>
    by_cases hl : 1 ≤ n ∧ n ≤ 4
    · obtain ⟨hl1, hl2⟩ := hl
      have d1 : decide ((n : Int) < 1) = false := by simp; omega
      have d2 : decide ((4 : Int) < n) = false := by simp; omega
      have HE0 : Hid (dimErr ⟨nm, trs.map Tir.con⟩ = dimFrom ((trs.map Tir.nm).take 0) ((trs.map Tir.con).drop 0)) := by
        show _ = _
        unfold dimErr
        simp only [hN, if_true, List.length_map]
        rw [if_neg (by have := hlen.out; omega)]
        rfl
      have Q0 := Lib.hid (Blk.new w 66 #[.string ⟨nm.toArray⟩, .slice A n c])
      go_enter Try.func54, Try.ntmps54
      go_wp2_with fail
      refine (rname_any nm _ (by omega)).mono ?_; rintro e w1 ⟨rfl, rfl⟩
      rw [hN]
      go_wp2_with fail
      clear d1 d2
      go_loopg [23] n (fun gg i wr => ∃ k : Nat, gg = n - k ∧ k ≤ n ∧ i = .int .i64 k ∧ Hid (Bel w wr) ∧ Hid (Blk wr w.heap.size 66 #[.string ⟨nm.toArray⟩, .slice A n c]) ∧ Hid (dimErr ⟨nm, trs.map Tir.con⟩ = dimFrom ((trs.map Tir.nm).take k) ((trs.map Tir.con).drop k)))
      case atStart => exact ⟨0, rfl, by omega, rfl, HW, Q0, HE0⟩
      case round =>
        clear HW Q0 HE0
        obtain ⟨k, hgk, hk, rfl, hB, hQ, hE⟩ := hrel
        have Hgk := Lib.hid hgk
        clear hgk
        by_cases hlt : k < n
        · obtain ⟨bb, oo, t, hA, hbb, ht, htr, hrg⟩ := (HD.out.mono hB.out).tirAt (k := k) hlt
          simp only at hA
          subst hA
          have HRG := Lib.hid hrg
          have HTR := Lib.hid htr
          have htc : (trs.map Tir.con)[k]? = some t.con := by rw [List.getElem?_map, ht]; rfl
          have htn : (trs.map Tir.nm)[k]? = some t.nm := by rw [List.getElem?_map, ht]; rfl
          have HS := Lib.hid (dimFrom_drop (seen := (trs.map Tir.nm).take k) htc)
          have HTN := Lib.hid htn
          have HTK : Hid ((trs.map Tir.nm).take (k + 1) = (trs.map Tir.nm).take k ++ [t.nm]) := by
            show _ = _
            obtain ⟨hk', he⟩ := List.getElem?_eq_some_iff.1 htn
            rw [List.take_succ_eq_append_getElem hk', he]
          have hab := above_i64 HD.out.all (k + 1)
          have i0 : (0 : Int) ≤ k := by omega
          have i1 : (k : Int) < n := by omega
          have hq1 := hQ.out.cell 1
          simp only [List.getElem?_toArray, List.getElem?_cons_zero, List.getElem?_cons_succ] at hq1
          clear ht hrg htr htc htn
          go_wp2_with fail
          generalize hAB : aboveOf ((trs.map Tir.con).drop (k + 1)) = ab at *
          have HAB1 : Hid (∀ w', Bel w w' → Calls Try.prog 78 #[.agg #[.string ⟨nm.toArray⟩, .slice (some ⟨bb, oo, none⟩) n c], .int .i64 k] w' fun e w'' => e = .returned (.int .i64 ab) ∧ Bel w' w'') := by
            intro w' hb
            have := HAB.out k hlt w' hb
            rw [hAB] at this
            exact this
          have HABE := Lib.hid hAB
          clear hAB
          have f1 := fun u : Over wr => Over.cell hq1 u
          refine wp_region_over (by kernel_rfl) (by kernel_rfl) ?_
          repeat (first
            | ((with_reducible show wpQuiet _ _ _ _ (⟨some 30, _, _, _, _, _⟩ :: _) _); refine wpQuiet_load_row rfl rowTir (.tmp 29) rfl bb (oo + k * 3) rfl t.cs rfl hbb HRG.out ?_; simp only [Act.put, List.setIfInBounds_toArray, List.set_cons_zero, List.set_cons_succ])
            | ((with_reducible show wpQuiet _ _ _ _ (⟨some 31, _, _, _, _, _⟩ :: _) _); refine wpQuiet_load_row rfl rowDm (.tmp 1) rfl w.heap.size 0 rfl #[.string ⟨nm.toArray⟩, .slice (some ⟨bb, oo, none⟩) n c] rfl hQ.out.lt hQ.out.range ?_; simp only [Act.put, List.setIfInBounds_toArray, List.set_cons_zero, List.set_cons_succ])
            | go_big_quiet_step ((first | (go_at_call 78; rename_i u; exact calls_over (HAB1.out _ (hB.out.trans u.bel))) | (go_at_call 77; rename_i u; exact calls_over (trwrong_any t ab _ (HTR.out.mono u.bel) hab)))))
          refine wpQuiet_nil ?_
          rintro w4 ⟨⟨_, hw4⟩, rfl⟩
          have Q4 := Lib.hid (hQ.out.bel hw4)
          have B4 := Lib.hid (hB.out.trans hw4)
          have HB4 := Lib.hid hw4
          try dsimp only
          clear hw4 f1 hq1
          by_cases hE0 : tierErr t.con ab = 0
          · rw [hE0]
            have HNo0 : Hid (∀ i, i < 0 → (trs.map Tir.nm)[i]? ≠ some t.nm) := fun i hi => absurd hi (by omega)
            have hw4z := Q4.out.lt
            have HS2 : Hid (dimErr ⟨nm, trs.map Tir.con⟩ = if t.nm ∈ (trs.map Tir.nm).take k then 11 else dimFrom ((trs.map Tir.nm).take (k + 1)) ((trs.map Tir.con).drop (k + 1))) := by show _ = _; rw [hE.out, HS.out, if_neg (by omega), HTK.out]
            have hnB : Hid (Bel w4 w4) := Bel.refl _
            clear hE HS hE0
            go_wp2_with fail
            go_loopg [5] k (fun gg i wx => ∃ j : Nat, gg = k - j ∧ j ≤ k ∧ i = .int .i64 j ∧ Hid (Bel w4 wx) ∧ Hid (∀ i, i < j → (trs.map Tir.nm)[i]? ≠ some t.nm))
            case atStart => exact ⟨0, rfl, by omega, rfl, hnB, HNo0⟩
            case round =>
              clear HNo0 hnB
              obtain ⟨j, hgj, hj, rfl, hBj, hNo⟩ := hrel
              have Hgj := Lib.hid hgj
              clear hgj
              by_cases hjk : j < k
              · obtain ⟨bb', oo', t', hA', hbb', ht', htr', hrg'⟩ := ((HD.out.mono B4.out).mono hBj.out).tirAt (k := j) (by show j < n; omega)
                simp only at hA'
                obtain ⟨rfl, rfl⟩ : bb = bb' ∧ oo = oo' := by injection hA' with h; injection h with h1 h2; exact ⟨h1, h2⟩
                have cj := hrg' 0 _ rfl
                have ck0 := HRG.out 0 _ rfl
                have ck := (hBj.out.cell (p := ⟨bb, oo + k * 3 + 0, none⟩) (by have := HB4.out.size; show bb < _; omega)).trans ((HB4.out.cell (p := ⟨bb, oo + k * 3 + 0, none⟩) hbb).trans ck0)
                have hq1 := (Q4.out.bel hBj.out).cell 1
                simp only [List.getElem?_toArray, List.getElem?_cons_zero, List.getElem?_cons_succ] at hq1
                simp only [Nat.add_zero] at cj ck
                have htn' : (trs.map Tir.nm)[j]? = some t'.nm := by rw [List.getElem?_map, ht']; rfl
                have HTN' := Lib.hid htn'
                have j0 : (0 : Int) ≤ j := by omega
                have j1 : (j : Int) < n := by omega
                clear ht' hrg' hA' htr' hbb' htn' ck0
                cases heq : (t'.nm == t.nm) with
                | true =>
                  have HN : Hid (dimErr ⟨nm, trs.map Tir.con⟩ = 11) := by
                    show _ = _
                    rw [HS2.out, if_pos]
                    rw [List.mem_iff_getElem?]
                    exact ⟨j, by rw [List.getElem?_take_of_lt hjk, HTN'.out]; simpa using heq⟩
                  clear HS2
                  go_wp2_with fail
                  go_quiet (fail)
                  go_wp2
                  go_ret
                  rw [HN.out]
                  exact ⟨rfl, (B4.out.trans hBj.out).drewN _⟩
                | false =>
                  have HN : Hid (∀ i, i < j + 1 → (trs.map Tir.nm)[i]? ≠ some t.nm) := by
                    intro i hi
                    rcases (show i < j ∨ i = j by omega) with h | h
                    · exact hNo.out i h
                    · rw [h, HTN'.out]
                      intro e
                      injection e with e
                      rw [e] at heq
                      simp at heq
                  go_wp2_with fail
                  go_quiet (fail)
                  go_wp2
                  go_roundg (k - (j + 1))
                  case rel => exact ⟨j + 1, rfl, by omega, by go_num, hBj.out.drewN _, HN⟩
                  case measure => rw [Hgj.out]; omega
              · have HN : Hid (dimErr ⟨nm, trs.map Tir.con⟩ = dimFrom ((trs.map Tir.nm).take (k + 1)) ((trs.map Tir.con).drop (k + 1))) := by
                  show _ = _
                  rw [HS2.out, if_neg]
                  rw [List.mem_iff_getElem?]
                  rintro ⟨i, hi⟩
                  by_cases hik : i < k
                  · rw [List.getElem?_take_of_lt hik] at hi
                    exact hNo.out i (by omega) hi
                  · rw [List.getElem?_eq_none (by simp; omega)] at hi
                    cases hi
                clear HS2
                go_wp2_with fail
                go_roundg (n - (k + 1))
                case rel => exact ⟨k + 1, rfl, by omega, by go_num, B4.out.trans hBj.out, Q4.out.bel hBj.out, HN⟩
                case measure => rw [Hgk.out]; omega
          · have HN : Hid (dimErr ⟨nm, trs.map Tir.con⟩ = tierErr t.con ab) := by show _ = _; rw [hE.out, HS.out, if_pos hE0]
            have dE : (tierErr t.con ab != 0) = true := by simpa using hE0
            have dE2 : (tierErr t.con ab == 0) = false := by simpa using hE0
            clear hE HS hE0
            go_wp2
            go_ret
            rw [HN.out]
            exact ⟨rfl, B4.out⟩
        · have HN : Hid (dimErr ⟨nm, trs.map Tir.con⟩ = 0) := by show _ = _; rw [hE.out, List.drop_of_length_le (by have := hlen.out; simp; omega)]; rfl
          clear hE
          go_wp2
          go_ret
          rw [HN.out]
          exact ⟨rfl, hB.out⟩
    · have HE : Hid (dimErr ⟨nm, trs.map Tir.con⟩ = 5) := by
        show _ = _
        unfold dimErr
        simp only [hN, if_true, List.length_map]
        rw [if_pos (by have := hlen.out; omega)]
      rcases (show n < 1 ∨ (1 ≤ n ∧ 4 < n) by omega) with h | ⟨h, h'⟩
      all_goals
        first | (have d1 : decide ((n : Int) < 1) = true := by simp; omega) | (have d1 : decide ((n : Int) < 1) = false := by simp; omega)
        first | (have d2 : decide ((4 : Int) < n) = true := by simp; omega) | (have d2 : decide ((4 : Int) < n) = false := by simp; omega)
        clear hl
        go_enter Try.func54, Try.ntmps54
        go_wp2_with fail
        refine (rname_any nm _ (by omega)).mono ?_; rintro e w1 ⟨rfl, rfl⟩
        rw [hN]
        go_wp2
        go_ret
        rw [HE.out]
        exact ⟨rfl, HW.out⟩

end Go.Proofs.Ytelnhhbefdfeoaa

namespace Go.Proofs.Ytelnhhbefdfeoaa
open Go.RowKit
set_option linter.unusedVariables false
set_option linter.unusedSimpArgs false

def sameD (a b : DC) : Bool := (a.nm == b.nm) && (a.trs == b.trs)
theorem sameD_self (a : DC) : sameD a a = true := by unfold sameD; simp
theorem tcsEq_step {xs ys : List TC} {k : Nat} {a b : TC} (ha : xs[k]? = some a) (hb : ys[k]? = some b) : (xs.drop k == ys.drop k) = (sameC a b && (xs.drop (k + 1) == ys.drop (k + 1))) := by
  obtain ⟨h1, rfl⟩ := List.getElem?_eq_some_iff.1 ha
  obtain ⟨h2, rfl⟩ := List.getElem?_eq_some_iff.1 hb
  rw [List.drop_eq_getElem_cons h1, List.drop_eq_getElem_cons h2, sameC_iff]
  rfl

set_option maxRecDepth 100000 in
set_option maxHeartbeats 1000000 in
theorem dmfew_any (d : Dm) (w : World) (hd : d.rd w) :
    Calls Try.prog 31 #[.agg d.cs] w fun e w' => ∃ b : Bool, e = .returned (.bool b) ∧ (b = true → d.tr.n ≤ 6 ∧ ∀ t ∈ d.tr.l, t.ts.n ≤ 220 ∧ t.up.n ≤ 220) ∧ Bel w w' := by
  have hW := (Bel.refl w).alloc (.cells d.cs 66)
  have q0 := Blk.new w 66 d.cs
  have hlen : Hid (d.tr.l.length = d.tr.n) := hd.tr.len
  have n1 := hd.tr.n63
  have hnm := hd.nm
  have HD := Lib.hid hd.tr
  obtain ⟨nm, ⟨A, n, c, trs⟩⟩ := d
  simp only [Dm.cs] at *
  have HW := Lib.hid hW
  have x1 := q0.cell 1
  simp only [List.getElem?_toArray, List.getElem?_cons_zero, List.getElem?_cons_succ] at x1
  have Q0 := Lib.hid q0
  clear hd hW q0
  go_enter Try.func31, Try.ntmps31
  go_wp2_with fail
  generalize w.alloc (.cells #[.string ⟨nm.toArray⟩, .slice A n c] 66) = W at *
  have H0 : Hid (∀ i t, i < 0 → trs[i]? = some t → t.ts.n ≤ 220 ∧ t.up.n ≤ 220) := fun i t hi => absurd hi (by omega)
  go_loopg [3] 8 (fun gg i wr => ∃ k : Nat, gg = 8 - k ∧ k ≤ 7 ∧ k ≤ n ∧ i = .int .i64 k ∧ Hid (Bel W wr) ∧ Hid (∀ i t, i < k → trs[i]? = some t → t.ts.n ≤ 220 ∧ t.up.n ≤ 220))
  case atStart => exact ⟨0, rfl, by omega, by omega, rfl, Bel.refl _, H0⟩
  case round =>
    clear H0
    obtain ⟨k, hgk, hk7, hkn, rfl, hB, hA⟩ := hrel
    have Hgk := Lib.hid hgk
    clear hgk
    have x1' := (hB.out.cell (World.block_lt_of_cell? _ _ x1)).trans x1
    have Q1 := Lib.hid (Q0.out.bel hB.out)
    have x0' := Q1.out.cell 0
    simp only [List.getElem?_toArray, List.getElem?_cons_zero, List.getElem?_cons_succ] at x0'
    have HBW := Lib.hid (HW.out.trans hB.out)
    by_cases hlt : k < n ∧ k ≤ 6
    · obtain ⟨h1, h2⟩ := hlt
      obtain ⟨ba, oa, a, hAA, hba, hak, har, hra⟩ := (HD.out.mono HBW.out).tirAt (k := k) h1
      simp only at hAA
      subst hAA
      have RA := Lib.hid hra
      have HAk := Lib.hid hak
      have i0 : (0 : Int) ≤ k := by omega
      have i1 : (k : Int) < n := by omega
      have e1 : decide ((k : Int) ≤ 6) = true := by simp; omega
      clear hak hra
      go_wp2_with ((with_reducible show wpList _ _ _ (⟨some 19, _, _, _, _, _⟩ :: _) _ _); refine wpList_load_row_at rfl rowTir (.tmp 18) rfl ba (oa + k * 3) rfl a.cs rfl RA.out ?_)
      refine (trfew_any a _ har).mono ?_; rintro e w3 ⟨b, rfl, hfew, hb3⟩
      have B3 := Lib.hid (hB.out.trans hb3)
      have BW3 := Lib.hid (HBW.out.trans hb3)
      clear hb3
      cases b with
      | false =>
        clear hfew
        go_wp2
        go_ret
        exact ⟨false, rfl, (fun h => by cases h), BW3.out⟩
      | true =>
        have HN : Hid (∀ i t, i < k + 1 → trs[i]? = some t → t.ts.n ≤ 220 ∧ t.up.n ≤ 220) := by
          intro i t hi hit
          rcases (show i < k ∨ i = k by omega) with h | h
          · exact hA.out i t h hit
          · subst h
            rw [HAk.out] at hit
            injection hit with hit
            subst hit
            exact hfew rfl
        clear hfew
        go_wp2
        go_roundg (8 - (k + 1))
        case rel => exact ⟨k + 1, rfl, by omega, by omega, by go_num, B3, HN⟩
        case measure => rw [Hgk.out]; omega
    · have e0 : (decide ((k : Int) < n) = false ∧ decide (k < n) = false ∧ ¬ k < n) ∨ (decide ((k : Int) < n) = true ∧ decide (k < n) = true ∧ k < n ∧ decide ((k : Int) ≤ 6) = false) := by
        by_cases h : k < n
        · right
          refine ⟨by simp; omega, by simp; omega, h, by simp; omega⟩
        · left
          refine ⟨by simp; omega, by simp; omega, h⟩
      clear hlt
      have HALL : Hid (n ≤ 6 → k = n ∨ k < n → ¬ k < n → ∀ t ∈ trs, t.ts.n ≤ 220 ∧ t.up.n ≤ 220) := by
        intro h6 _ hkn2 t ht
        obtain ⟨i, hi⟩ := List.mem_iff_getElem?.1 ht
        have hil : i < trs.length := (List.getElem?_eq_some_iff.1 hi).1
        exact hA.out i t (by have := hlen.out; omega) hi
      rcases e0 with ⟨e0, e0', e0''⟩ | ⟨e0, e0', e0'', e1⟩
      · by_cases h1 : n ≤ 6
        · have f1 : decide ((n : Int) ≤ 6) = true := by simp; omega
          go_wp2
          go_ret
          exact ⟨_, rfl, fun _ => ⟨h1, HALL.out h1 (by omega) e0''⟩, HBW.out⟩
        · have f1 : decide ((n : Int) ≤ 6) = false := by simp; omega
          go_wp2
          go_ret
          exact ⟨false, rfl, (fun h => by cases h), HBW.out⟩
      · have f1 : decide ((n : Int) ≤ 6) = false := by simp; simp at e1; omega
        go_wp2
        go_ret
        exact ⟨false, rfl, (fun h => by cases h), HBW.out⟩

end Go.Proofs.Ytelnhhbefdfeoaa

namespace Go.Proofs.Ytelnhhbefdfeoaa
open Go.RowKit
set_option linter.unusedVariables false
set_option linter.unusedSimpArgs false

/-- A dimension of one tier, as a law's example lays it down: three blocks. -/
theorem ex_dim {S : Nat → Prop} {w0 w : World} {l : List Res} (H : SL S w0 w l) (i j : Nat) {g0 g1 m : Nat} {nm tn : List UInt8} {ts : List (List UInt8)} {cs : Array Value} (h0 : l[i]? = some (rBlk g0 9 cs)) (hcs : cs.toList = ts.map tx) (hm : ts.length = m)
    (h1 : l[j]? = some (rBlk g1 77 #[.string ⟨tn.toArray⟩, .slice (some ⟨g0, 0, none⟩) m m, .slice none 0 0])) (hn : nm.length ≤ 100) (htn : tn.length ≤ 100) (hts : ∀ t ∈ ts, t.length ≤ 100) (hm2 : m ≤ 100) :
    (Dm.mk nm ⟨some ⟨g1, 0, none⟩, 1, 1, [⟨tn, ⟨some ⟨g0, 0, none⟩, m, m, ts⟩, ⟨none, 0, 0, []⟩⟩]⟩).rd w := by
  refine ⟨by show nm.length ≤ _; omega, ⟨?_, fun T hT => ?_, by show (1 : Nat) ≤ _; omega⟩⟩
  · exact reads_of_block (m := 1) (H.blk j h1) rfl
  · rw [List.mem_singleton] at hT
    subst hT
    refine ⟨by show tn.length ≤ _; omega, ⟨?_, fun t ht => by have := hts t ht; show t.length ≤ _; omega, by show m ≤ _; omega⟩, Row.nil_rd w⟩
    have := reads_of_block (m := m) (size := 1) (H.blk i h0) (by rw [← Array.length_toList, hcs, List.length_map, hm, Nat.mul_one])
    rw [hcs] at this
    show Rd w 1 (some ⟨g0, 0, none⟩) m (ts.flatMap Cel.cells)
    rw [flat_texts]
    exact this

end Go.Proofs.Ytelnhhbefdfeoaa

namespace Go.Proofs.Ytelnhhbefdfeoaa
open Go.RowKit
set_option linter.unusedVariables false
set_option linter.unusedSimpArgs false

theorem dm_nil_new {m : Nat} : ∀ g, (rDm Dm.nil).D g → m ≤ g := by
  rintro g (h | ⟨T, hT, _⟩)
  · simp [Row.v, Value.ownBlock] at h
  · cases hT
/-- What Take answers. -/
def dmtake (s : List UInt8) : DC × Int :=
  match pdim s with
  | .error k => (DC.nil, k)
  | .ok (t, l) => if l = [] then (t, 0) else (DC.nil, 3)
def Tkdm (r : DC × Int) (w : World) (e : Ending) (w' : World) : Prop := ∃ D : Dm, e = .returned (.tuple #[.agg D.cs, .int .i64 r.2]) ∧ D.con = r.1 ∧ Bel w w' ∧ NewR w w' (rDm D)

end Go.Proofs.Ytelnhhbefdfeoaa

namespace Go.Proofs.Ytelnhhbefdfeoaa
open Go.RowKit
set_option linter.unusedVariables false
set_option linter.unusedSimpArgs false

theorem SRes.bad {α : Type} {s : List UInt8} {o : PR α} {t k : Int} {x : α} (h : SRes s o t k x) (hk : k ≠ 0) : o = .error k := h.elim (fun h => h.2) (fun h => absurd h.1 hk)
theorem SRes.good {α : Type} {s : List UInt8} {o : PR α} {t : Int} {x : α} (h : SRes s o t 0 x) : ∃ tn : Nat, t = tn ∧ tn ≤ s.length ∧ o = .ok (x, s.drop tn) := h.elim (fun h => absurd rfl h.1) (fun h => h.2)
/-- One thing read behind another one. -/
def pthen {α β : Type} (o : PR α) (f : List UInt8 → PR β) : PR (α × β) := match o with | .error e => .error e | .ok (x, r) => match f r with | .error e => .error e | .ok (y, r2) => .ok ((x, y), r2)
theorem SRes.step {α β : Type} {s : List UInt8} {o : PR α} {f : List UInt8 → PR β} {tn : Nat} {x : α} {y : β} {t k : Int} (h : o = .ok (x, s.drop tn)) (h2 : SRes s (f (s.drop tn)) t k y) : SRes s (pthen o f) t k (x, y) := by
  unfold pthen
  rw [h]
  rcases h2 with ⟨h1, h2⟩ | ⟨h1, m, h3, h4, h2⟩
  · exact .inl ⟨h1, by simp only [h2]⟩
  · exact .inr ⟨h1, m, h3, h4, by simp only [h2]⟩
theorem SRes.skip {α β : Type} {s : List UInt8} {o : PR α} {f : List UInt8 → PR β} {x : α} {y : β} {t k : Int} (hk : k ≠ 0) (h : o = .error k) : SRes s (pthen o f) t k (x, y) := .inl ⟨hk, by unfold pthen; rw [h]⟩

/-- A piece that is one only where c. -/
abbrev rIf (c : Prop) (r : Res) : Res := ⟨fun g => c ∧ r.D g, fun w => c → r.p w⟩
theorem holds_if {c : Prop} {r : Res} {w : World} (h : c → r.holds w) : (rIf c r).holds w := ⟨fun g ⟨hc, hg⟩ => (h hc).1 g hg, fun w' hs hk hc => (h hc).2 w' hs fun g hg => hk g ⟨hc, hg⟩⟩
theorem holds_if_of {c : Prop} {r : Res} {w : World} (h : (rIf c r).holds w) (hc : c) : r.holds w := ⟨fun g hg => h.1 g ⟨hc, hg⟩, fun w' hs hk => h.2 w' hs (fun g ⟨_, hg⟩ => hk g hg) hc⟩

end Go.Proofs.Ytelnhhbefdfeoaa

namespace Go.Proofs.Ytelnhhbefdfeoaa
open Go.RowKit
set_option linter.unusedVariables false
set_option linter.unusedSimpArgs false

/-- Dimensions read, and what becomes of them. -/
def pdimT (nm : List UInt8) (o : PR (List TC)) : PR DC := match o with | .error k => .error k | .ok (trs, r) => pdimC ⟨nm, trs⟩ r
theorem pdim_then (l : List UInt8) : pdim l = match pthen (ptxt 12 l) (pnum 4) with | .error k => .error k | .ok ((nm, n), r) => pdimT nm (pdims n [] r) := by
  unfold pdim pthen pdimT
  cases ptxt 12 l with
  | error k => rfl
  | ok q =>
    obtain ⟨nm, r⟩ := q
    dsimp only
    cases pnum 4 r with
    | error k => rfl
    | ok q => rfl
/-- Where the document's Read stands. -/
def DInv (s l0 nm : List UInt8) (n k : Nat) (acc : List TC) (t kk : Int) : Prop :=
  (kk ≠ 0 ∧ pdim l0 = .error kk) ∨ (kk = 0 ∧ ∃ tn : Nat, t = tn ∧ tn ≤ s.length ∧ pdim l0 = pdimT nm (pdims (n - k) acc (s.drop tn)))
theorem DInv.start {s l0 nm : List UInt8} {n : Nat} {t k : Int} (h : SRes s (pthen (ptxt 12 l0) (pnum 4)) t k (nm, n)) : DInv s l0 nm n 0 [] t k := by
  rcases h with ⟨h1, h2⟩ | ⟨h1, tn, h3, h4, h2⟩
  · exact .inl ⟨h1, by rw [pdim_then, h2]⟩
  · exact .inr ⟨h1, tn, h3, h4, by rw [pdim_then, h2]; rfl⟩
theorem DInv.bad {s l0 nm : List UInt8} {n k : Nat} {acc : List TC} {t kk : Int} (h : DInv s l0 nm n k acc t kk) (hk : kk ≠ 0) : pdim l0 = .error kk := h.elim (fun h => h.2) (fun h => absurd h.1 hk)
theorem DInv.good {s l0 nm : List UInt8} {n k : Nat} {acc : List TC} {t : Int} (h : DInv s l0 nm n k acc t 0) : ∃ tn : Nat, t = tn ∧ tn ≤ s.length ∧ pdim l0 = pdimT nm (pdims (n - k) acc (s.drop tn)) := h.elim (fun h => absurd rfl h.1) (fun h => h.2)
theorem DInv.step {s l0 nm : List UInt8} {n k tn : Nat} {acc : List TC} {tc : TC} {t kk : Int} (hk : k < n) (h : pdim l0 = pdimT nm (pdims (n - k) acc (s.drop tn))) (h2 : SRes s (ptier (aboveOf acc) (s.drop tn)) t kk tc) : DInv s l0 nm n (k + 1) (tc :: acc) t kk := by
  rw [show n - k = (n - (k + 1)) + 1 by omega, pdims] at h
  rcases h2 with ⟨h1, h2⟩ | ⟨h1, m, h3, h4, h2⟩
  · exact .inl ⟨h1, by rw [h, h2]; rfl⟩
  · exact .inr ⟨h1, m, h3, h4, by rw [h, h2]⟩
/-- How the document's Read ends. -/
def RdmPost (s : List UInt8) (o : PR DC) (w : World) (e : Ending) (w' : World) : Prop :=
  ∃ (t k : Int) (D : Dm), e = .returned (.tuple #[scn s t k, .agg D.cs]) ∧ Bel w w' ∧ Hid (SRes s o t k D.con) ∧ (k = 0 → NewR w w' (rDm D))

end Go.Proofs.Ytelnhhbefdfeoaa

namespace Go.Proofs.Ytelnhhbefdfeoaa
open Go.RowKit
set_option linter.unusedVariables false
set_option linter.unusedSimpArgs false

theorem trtake_put {t : TC} {above : Int} (ha : above ≤ 9223372036854775807) (h : tierErr t above = 0) : trtake above (tierPut t) = (t, 0) := by
  unfold trtake
  have := ptier_put ha h []
  rw [List.append_nil] at this
  rw [this]
  simp
theorem upPut_len (up : List Int) : (upPut up).length ≤ 9 * up.length := by
  unfold upPut
  induction up with
  | nil => simp
  | cons x r ih =>
    rw [List.flatMap_cons, List.length_append, List.length_cons]
    have := nput_le9 x.toNat
    omega
theorem tierPut_len {t : TC} {above : Int} (h : tierErr t above = 0) : (tierPut t).length ≤ 10000 := by
  obtain ⟨e1, _, e3, e4, _⟩ := tierErr_zero h
  have e5 := tierErr_up h
  have e6 := isName_len e1
  have e7 := tput_len e4
  have e8 := upPut_len t.up
  have e9 := nput_le9 t.nm.length
  unfold tierPut ptext
  simp only [List.length_append]
  omega

end Go.Proofs.Ytelnhhbefdfeoaa

namespace Go.Proofs.Ytelnhhbefdfeoaa
open Go.RowKit
set_option linter.unusedVariables false
set_option linter.unusedSimpArgs false

def dimPutV (d : DC) : List UInt8 × Int := if dimErr d = 0 then (dimPut d, 0) else ([], dimErr d)
theorem allOk_at {trs : List TC} : ∀ {k : Nat} {t : TC}, AllOk trs → trs[k]? = some t → tierErr t (aboveOf (trs.drop (k + 1))) = 0 := by
  induction trs with
  | nil => intro k t h ht; simp at ht
  | cons u r ih =>
    intro k t h ht
    cases k with
    | zero =>
      simp at ht
      subst ht
      exact h.1
    | succ k => exact ih h.2 (by simpa using ht)
theorem putDown_step {trs : List TC} {j : Nat} {t : TC} (h : trs[j]? = some t) : (trs.take (j + 1)).reverse.flatMap tierPut = tierPut t ++ (trs.take j).reverse.flatMap tierPut := by
  obtain ⟨hk, rfl⟩ := List.getElem?_eq_some_iff.1 h
  rw [List.take_succ_eq_append_getElem hk, List.reverse_append]
  show List.flatMap tierPut (trs[j] :: (trs.take j).reverse) = _
  rw [List.flatMap_cons]

end Go.Proofs.Ytelnhhbefdfeoaa

namespace Go.Proofs.Ytelnhhbefdfeoaa
open Go.RowKit
set_option linter.unusedVariables false
set_option linter.unusedSimpArgs false

theorem dmtake_put {d : DC} (h : dimErr d = 0) : dmtake (dimPut d) = (d, 0) := by
  unfold dmtake
  have := pdim_put h []
  rw [List.append_nil] at this
  rw [this]
  simp
theorem flat_len {α : Type} {l : List α} {f : α → List UInt8} {m : Nat} (h : ∀ x ∈ l, (f x).length ≤ m) : (l.flatMap f).length ≤ m * l.length := by
  induction l with
  | nil => simp
  | cons a r ih =>
    rw [List.flatMap_cons, List.length_append, List.length_cons, Nat.mul_add]
    have h1 := h a (List.mem_cons_self ..)
    have h2 := ih fun x hx => h x (List.mem_cons_of_mem _ hx)
    omega
theorem allOk_mem {trs : List TC} (h : AllOk trs) {t : TC} (ht : t ∈ trs) : ∃ above, tierErr t above = 0 := by
  obtain ⟨k, hk⟩ := List.mem_iff_getElem?.1 ht
  exact ⟨_, allOk_at h hk⟩
theorem dimPut_len {d : DC} (h : dimErr d = 0) : (dimPut d).length ≤ 50000 := by
  obtain ⟨h1, h2, h3, h4⟩ := dimErr_zero h
  have h5 := isName_len h1
  have h6 := nput_le9 d.nm.length
  have h7 := nput_le9 d.trs.length
  have h8 : (d.trs.reverse.flatMap tierPut).length ≤ 10000 * d.trs.reverse.length := flat_len fun t ht => by
    obtain ⟨a, ha⟩ := allOk_mem (dimFrom_ok h4) (List.mem_reverse.1 ht)
    exact tierPut_len ha
  rw [List.length_reverse] at h8
  unfold dimPut ptext
  simp only [List.length_append]
  omega

end Go.Proofs.Ytelnhhbefdfeoaa
