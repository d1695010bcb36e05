/- Texts laid together: XTierR XTierT XTierU XTierS. -/
import Derived.Test.YtlclllkjnhgbjaaBe
import Derived.Test.YtlclllkjnhgbjaaBb
import Derived.Test.YtlclllkjnhgbjaaBd

namespace Go.Proofs.Ytlclllkjnhgbjaa
open Go.RowKit
set_option linter.unusedVariables false
set_option linter.unusedSimpArgs false

section
variable {P : Program} {w : World}
theorem step_buildSlice1v {ops : Array Oper} {o : Oper} {a : Act} {K : Act → World → Prop} {Q : Exit → Act → World → Prop} {X : Prop} (hgd : o.guard = none) {t e : TypeId} {size bytes : Nat} (E : ElemInfo P t e size bytes) (x : Operand) (ho : o.op = .buildSlice t 1 #[(0, x)])
    (v : Value) (hx : a.eval x = v) (cs : Array Value) (hc : v.cells = cs) (hv : cs.size = size) (hs : size ≤ 1000)
    (h : K (a.put o.dst (.slice (some ⟨w.heap.size, 0, none⟩) 1 1)) (w.alloc (.cells cs e))) :
    if Region.wanted o (yielded ops a.tmps) = true then Oper.wp P o a w K Q else X := by
  subst hc
  have hw : Region.wanted o (yielded ops a.tmps) = true := by simp [Region.wanted, hgd]
  rw [if_pos hw]
  unfold Oper.wp execOp
  have hr := run_buildSlice1 E v hv hs w
  simp only [ho, List.map_toArray, List.map_cons, List.map_nil, hx, Sem.run_bind, hr, Result.andThen_ok, Sem.run_pure]
  exact h
end

theorem ne_it : (3 : TypeId) ≠ 9 := by decide
theorem kept_ne {w w' : World} {base : Nat} {e : TypeId} {size n g : Nat} {v : Value} {xs : List Value} (h : w.ownsRow base e size v n xs) (hg : w.grownBy w' (some g)) (hne : v.ownBlock ≠ some g) : w'.ownsRow base e size v n xs :=
  h.kept hg (by
    rcases ho : v.ownBlock with _ | k
    · exact .inl rfl
    · exact .inr (by rw [← ho]; exact hne))
section
variable {w w1 w2 : World} {b y : Nat} {s l l' nm : List UInt8} {v u u' : Value} {ts : List (List UInt8)} {ups : List Int}
end

/-- Numbers read, ahead of others. -/
def aheadI (ds : List Int) (o : PR (List Int)) : PR (List Int) := match o with | .error e => .error e | .ok (xs, r) => .ok (ds ++ xs, r)
theorem aheadI_nil (o : PR (List Int)) : aheadI [] o = o := by rcases o with e | ⟨xs, r⟩ <;> rfl
theorem aheadI_step {ds : List Int} {most : Int} {n x : Nat} {l r : List UInt8} (h : pnum most l = .ok (x, r)) : aheadI ds (pnums most (n + 1) l) = aheadI (ds ++ [(x : Int)]) (pnums most n r) := by
  simp only [pnums, h]
  rcases pnums most n r with e | ⟨xs, r2⟩
  · rfl
  · simp [aheadI]
theorem aheadI_err {ds : List Int} {most k : Int} {n : Nat} {l : List UInt8} (h : pnum most l = .error k) : aheadI ds (pnums most (n + 1) l) = .error k := by
  simp only [pnums, h]
  rfl
/-- What is read behind the members. -/
def ptail (above : Int) (nm : List UInt8) (ts : List (List UInt8)) (o : PR (List Int)) : PR TC := match o with | .error k => .error k | .ok (up, r) => ptierC above ⟨nm, ts, up⟩ r
theorem tread_len {most : Int} {l r : List UInt8} {ts : List (List UInt8)} (h : tread most l = .ok (ts, r)) : (ts.length : Int) ≤ most := by
  unfold tread at h
  split at h
  · cases h
  · rename_i n r1 hp
    have h1 := (treads_back (p := none) h (.inr ⟨rfl, rfl⟩)).2.1
    have h2 := (pnum_ok hp).2.1
    omega
theorem ptier_ok {above : Int} {l r r2 nm : List UInt8} {ts : List (List UInt8)} (h1 : ptxt 12 l = .ok (nm, r)) (h2 : tread 200 r = .ok (ts, r2)) : ptier above l = ptail above nm ts (pups above ts.length r2) := by
  unfold ptier
  rw [h1]
  simp only
  rw [h2]
  simp only
  unfold ptail
  cases pups above ts.length r2 <;> rfl

/-- A tier whose rows lie in new memory. -/
structure TirOwn (base : Nat) (T : Tir) (w : World) : Prop where
  ts : w.ownsRow base 9 1 (.slice T.ts.A T.ts.n T.ts.c) T.ts.n (T.ts.l.map tx)
  up : w.ownsRow base 3 1 (.slice T.up.A T.up.n T.up.c) T.up.n (T.up.l.map (Value.int .i64))
  nm : T.nm.length ≤ 12
  tl : ∀ t ∈ T.ts.l, t.length ≤ 16
  ul : ∀ z ∈ T.up.l, I64 z
  tn : T.ts.n ≤ 200
  un : T.up.n ≤ 200
theorem TirOwn.rd {base : Nat} {T : Tir} {w : World} (h : TirOwn base T w) : T.rd w :=
  ⟨by have := h.nm; omega, ⟨by have := Rd.of_own h.ts; rw [flat_texts]; exact this, fun t ht => by have := h.tl t ht; show t.length ≤ _; omega, by have := h.tn; omega⟩, ⟨by have := Rd.of_own h.up; rw [flat_ints]; exact this, fun z hz => h.ul z hz, by have := h.un; omega⟩⟩
theorem TirOwn.kept {base : Nat} {T : Tir} {w w' : World} {g : Nat} (h : TirOwn base T w) (hg : w.grownBy w' (some g)) (hb : g < base) : TirOwn base T w' :=
  ⟨h.ts.kept hg (own_apart h.ts hb), h.up.kept hg (own_apart h.up hb), h.nm, h.tl, h.ul, h.tn, h.un⟩
theorem TirOwn.bel {base : Nat} {T : Tir} {w w' : World} (h : TirOwn base T w) (hb : Bel w w') : TirOwn base T w' := ⟨own_bel h.ts hb, own_bel h.up hb, h.nm, h.tl, h.ul, h.tn, h.un⟩
theorem TirOwn.less {base base' : Nat} {T : Tir} {w : World} (h : TirOwn base T w) (hb : base' ≤ base) : TirOwn base' T w := ⟨own_less h.ts hb, own_less h.up hb, h.nm, h.tl, h.ul, h.tn, h.un⟩
/-- How tier.Read ends. -/
def TrPost (b : Nat) (s : List UInt8) (o : PR TC) (w : World) (e : Ending) (w' : World) : Prop :=
  match o with
  | .error k => RErr b s k w e w'
  | .ok (t, l) => ∃ T : Tir, e = .returned (.agg T.cs) ∧ T.con = t ∧ w.grownBy w' (some b) ∧ Rdr w' b s l ∧ TirOwn (w.heap.size + 1) T w'

end Go.Proofs.Ytlclllkjnhgbjaa

namespace Go.Proofs.Ytlclllkjnhgbjaa
open Go.RowKit
set_option linter.unusedVariables false
set_option linter.unusedSimpArgs false

theorem ptier_err {above k : Int} {l : List UInt8} (h : ptier above l = .error k) : k ≠ 0 := by
  unfold ptier at h
  split at h
  · rename_i h1
    injection h with h
    subst h
    unfold ptxt at h1
    split at h1
    · rename_i h2
      injection h1 with h1
      subst h1
      have := pnum_err h2
      omega
    · have := (pfix_err h1).1
      omega
  · split at h
    · rename_i h1
      injection h with h
      subst h
      have := tread_err h1
      omega
    · split at h
      · rename_i h1
        injection h with h
        subst h
        unfold pups at h1
        split at h1
        · have := pnums_err h1
          omega
        · cases h1
      · unfold ptierC at h
        split at h
        · cases h
        · rename_i h1
          injection h with h
          subst h
          exact h1

theorem TirOwn.but2 {B base : Nat} {T : Tir} {w w' : World} (h : TirOwn base T w) (hb : But2 B w w') (hB : B + 2 ≤ base) : TirOwn base T w' :=
  ⟨own_but2 h.ts hb hB, own_but2 h.up hb hB, h.nm, h.tl, h.ul, h.tn, h.un⟩
abbrev Tir.nil : Tir := ⟨[], ⟨none, 0, 0, []⟩, ⟨none, 0, 0, []⟩⟩
abbrev TC.nil : TC := ⟨[], [], []⟩
theorem tir_nil_rd (w : World) : Tir.nil.rd w := ⟨by simp, Row.nil_rd w, Row.nil_rd w⟩

/-- What tier.Take answers. -/
def trtake (above : Int) (s : List UInt8) : TC × Int :=
  match ptier above s with
  | .error k => (.nil, k)
  | .ok (t, l) => if l = [] then (t, 0) else (.nil, 3)
def TkPost (r : TC × Int) (w : World) (e : Ending) (w' : World) : Prop := ∃ T : Tir, e = .returned (.tuple #[.agg T.cs, .int .i64 r.2]) ∧ T.con = r.1 ∧ T.rd w' ∧ T.up.n ≤ 200 ∧ Bel w w'

end Go.Proofs.Ytlclllkjnhgbjaa

namespace Go.Proofs.Ytlclllkjnhgbjaa
open Go.RowKit
set_option linter.unusedVariables false
set_option linter.unusedSimpArgs false

set_option maxRecDepth 100000 in
set_option maxHeartbeats 1000000 in
theorem ints_any (A : Option Addr) (n c : Nat) (xs : List Int) (C : Option Addr) (m d : Nat) (ys : List Int) (w : World) (hx : Rd w 1 A n (xs.map (Value.int .i64))) (hy : Rd w 1 C m (ys.map (Value.int .i64))) (hn : n ≤ 9223372036854775806) (hm : m ≤ 9223372036854775806) :
    Calls Try.prog 24 #[.slice A n c, .slice C m d] w fun e w' => e = .returned (.bool (xs == ys)) ∧ Bel w w' := by
  have hxl : Hid (xs.length = n) := by have := hx.len; show _ = _; simpa using this
  have hyl : Hid (ys.length = m) := by have := hy.len; show _ = _; simpa using this
  go_enter Try.func24, Try.ntmps24
  by_cases hnm : n = m
  · subst hnm
    go_wp2
    go_loopg [13] n (fun g i wr => ∃ k : Nat, g = n - k ∧ k ≤ n ∧ i = .int .i64 k ∧ Bel w wr ∧ Hid ((xs == ys) = (xs.drop k == ys.drop k)))
    case atStart => exact ⟨0, rfl, by omega, rfl, Bel.refl _, rfl⟩
    case round =>
      obtain ⟨k, hgk, hk, rfl, hB, hF⟩ := hrel
      have Hgk := Lib.hid hgk
      clear hgk
      by_cases hlt : k < n
      · obtain ⟨ad, a, rfl, hak, hc⟩ := Rd.intC (hx.bel hB) hlt
        obtain ⟨bd, b, rfl, hbk, hd⟩ := Rd.intC (hy.bel hB) hlt
        have HS := Lib.hid (intsEq_step hak hbk)
        clear hak hbk
        cases hab : (a == b) with
        | true =>
          have HR : Hid ((xs == ys) = (xs.drop (k + 1) == ys.drop (k + 1))) := by show _ = _; rw [hF.out, HS.out, hab]; rfl
          have hne : (a != b) = false := by rw [bne, hab]; rfl
          clear hF HS
          go_wp2_with fail
          go_quiet (fail)
          go_wp2
          go_roundg (n - (k + 1))
          case rel => exact ⟨k + 1, rfl, by omega, by go_num, hB.drewN _, HR⟩
          case measure => rw [Hgk.out]; omega
        | false =>
          have HR : Hid ((xs == ys) = false) := by show _ = _; rw [hF.out, HS.out, hab]; rfl
          have hne : (a != b) = true := by rw [bne, hab]; rfl
          clear hF HS
          go_wp2_with fail
          go_quiet (fail)
          go_wp2
          go_ret
          rw [HR.out]
          exact ⟨rfl, hB.drewN _⟩
      · have HR : Hid ((xs == ys) = true) := by
          show _ = _
          rw [hF.out, List.drop_of_length_le (by have := hxl.out; omega), List.drop_of_length_le (by have := hyl.out; omega)]
          rfl
        clear hF
        go_wp2
        go_ret
        rw [HR.out]
        exact ⟨rfl, hB⟩
  · have HR : Hid ((xs == ys) = false) := by
      show _ = _
      exact beq_len (by have := hxl.out; have := hyl.out; omega)
    go_wp2
    go_ret
    rw [HR.out]
    exact ⟨rfl, Bel.refl _⟩

/-- Under which member one stands. -/
def overOf (up : List Int) (i : Int) : Int := if i < 0 then -1 else (up[i.toNat]?).getD (-1)
/-- The places of a number among some. -/
def placesOf (x : Int) : Nat → List Int → List Int
  | _, [] => []
  | k, z :: r => if z = x then (k : Int) :: placesOf x (k + 1) r else placesOf x (k + 1) r
theorem placesOf_drop {up : List Int} {x z : Int} {k : Nat} (h : up[k]? = some z) : placesOf x k (up.drop k) = if z = x then (k : Int) :: placesOf x (k + 1) (up.drop (k + 1)) else placesOf x (k + 1) (up.drop (k + 1)) := by
  obtain ⟨hk, rfl⟩ := List.getElem?_eq_some_iff.1 h
  rw [List.drop_eq_getElem_cons hk]
  rfl
def IntsSaid (w : World) (r : List Int) (e : Ending) (w' : World) : Prop := ∃ A c, e = .returned (.slice A r.length c) ∧ Bel w w' ∧ Rd w' 1 A r.length (r.map (Value.int .i64))

end Go.Proofs.Ytlclllkjnhgbjaa

namespace Go.Proofs.Ytlclllkjnhgbjaa
open Go.RowKit
set_option linter.unusedVariables false
set_option linter.unusedSimpArgs false

section
variable {w w1 w2 : World} {s nm nm' : List UInt8} {t k t' k' : Int} {v v' u u' : Value} {ts ts' : List (List UInt8)} {ups : List Int}
end
theorem TirOwn.setA {base : Nat} {T : Tir} {w : World} (h : TirOwn base T w) {g o : Nat} {x : Value} {cs : Array Value} (hA : Blk w g 92 cs) : TirOwn base T (w.setCell ⟨g, o, none⟩ x) :=
  ⟨kept_ne h.ts (grownBy_setCell w g o x) (own_blk_ne h.ts hA (by decide)), kept_ne h.up (grownBy_setCell w g o x) (own_blk_ne h.up hA (by decide)), h.nm, h.tl, h.ul, h.tn, h.un⟩
theorem own_butD {w w' : World} {d0 d1 base : Nat} {e : TypeId} {size n : Nat} {v : Value} {xs : List Value} (h : w.ownsRow base e size v n xs) (hb : ButD d0 d1 w w') (h0 : v.ownBlock ≠ some d0) (h1 : v.ownBlock ≠ some d1) : w'.ownsRow base e size v n xs := by
  refine ⟨h.1, ?_⟩
  rcases h.2 with h2 | ⟨g, cap, cur, x1, x2, x3, x4⟩
  · exact .inl h2
  · have hlt : g < w.heap.size := by
      rcases Nat.lt_or_ge g w.heap.size with h | h
      · exact h
      · rw [Array.getElem?_eq_none h] at x3; cases x3
    have hob : v.ownBlock = some g := by rw [x1]; rfl
    exact .inr ⟨g, cap, cur, x1, x2, (hb.block g hlt (fun e => h0 (by rw [hob, e])) (fun e => h1 (by rw [hob, e]))).trans x3, x4⟩
/-- Where the document's Read stands. -/
def TsInv (above : Int) (s l0 nm : List UInt8) (ts : List (List UInt8)) (n : Nat) (ups : List Int) (m : Nat) (t kk : Int) : Prop :=
  (kk ≠ 0 ∧ ptier above l0 = .error kk) ∨ (kk = 0 ∧ nm.length ≤ 12 ∧ (∀ x ∈ ts, x.length ≤ 16) ∧ (∀ z ∈ ups, I64 z) ∧ n ≤ 200 ∧ ts.length = n ∧ True ∧ ∃ tn : Nat, t = tn ∧ tn ≤ s.length ∧ ptier above l0 = ptail above nm ts (aheadI ups (pups above m (s.drop tn))))
theorem TsInv.bad {above : Int} {s l0 nm : List UInt8} {ts : List (List UInt8)} {n m : Nat} {ups : List Int} {t kk : Int} (h : TsInv above s l0 nm ts n ups m t kk) (hk : kk ≠ 0) : ptier above l0 = .error kk := by
  rcases h with ⟨_, h⟩ | ⟨h, _⟩
  · exact h
  · exact absurd h hk
theorem TsInv.good {above : Int} {s l0 nm : List UInt8} {ts : List (List UInt8)} {n m : Nat} {ups : List Int} {t kk : Int} (h : TsInv above s l0 nm ts n ups m t kk) (hk : kk = 0) : nm.length ≤ 12 ∧ (∀ x ∈ ts, x.length ≤ 16) ∧ (∀ z ∈ ups, I64 z) ∧ n ≤ 200 ∧ ts.length = n ∧ True ∧ ∃ tn : Nat, t = tn ∧ tn ≤ s.length ∧ ptier above l0 = ptail above nm ts (aheadI ups (pups above m (s.drop tn))) := by
  rcases h with ⟨h, _⟩ | ⟨_, h⟩
  · exact absurd hk h
  · exact h
theorem ptail_done {above : Int} {nm : List UInt8} {ts : List (List UInt8)} {ups : List Int} {m : Nat} {l : List UInt8} (h : ¬ 0 < above ∨ m = 0) : ptail above nm ts (aheadI ups (pups above m l)) = ptierC above ⟨nm, ts, ups⟩ l := by
  have e : pups above m l = .ok ([], l) := by
    unfold pups
    rcases h with h | h
    · rw [if_neg h]
    · subst h
      split <;> rfl
  rw [e]
  simp [aheadI, ptail]

/-- What the document's Read ends with. -/
def RtPost (s : List UInt8) (o : PR TC) (w : World) (e : Ending) (w' : World) : Prop :=
  ∃ (t k : Int) (T : Tir), e = .returned (.tuple #[scn s t k, .agg T.cs]) ∧ Bel w w' ∧ Hid (SRes s o t k T.con) ∧ (k = 0 → TirOwn w.heap.size T w')

theorem TsInv.step {above : Int} {s l0 nm : List UInt8} {ts : List (List UInt8)} {n k tn : Nat} {ups : List Int} {t kk : Int} {x : Nat} (h1 : nm.length ≤ 12) (h2 : ∀ x ∈ ts, x.length ≤ 16) (h3 : ∀ z ∈ ups, I64 z) (h4 : n ≤ 200) (h5 : ts.length = n) (h0 : 0 < above) (ha : above ≤ 9223372036854775807) (hk : k < n)
    (hE : ptier above l0 = ptail above nm ts (aheadI ups (pups above (n - k) (s.drop tn)))) (hS : SRes s (pnum (above - 1) (s.drop tn)) t kk x) : TsInv above s l0 nm ts n (ups ++ [(x : Int)]) (if 0 < above then n - (k + 1) else 0) t kk := by
  unfold pups at hE
  rw [if_pos h0, show n - k = (n - (k + 1)) + 1 by omega] at hE
  rcases hS with ⟨x1, x2⟩ | ⟨x1, t2, x3, x4, x2⟩
  · rw [aheadI_err x2] at hE
    exact .inl ⟨x1, hE⟩
  · rw [aheadI_step x2] at hE
    refine .inr ⟨x1, h1, h2, ?_, h4, h5, trivial, t2, x3, x4, ?_⟩
    · intro z hz
      rcases List.mem_append.1 hz with hz | hz
      · exact h3 z hz
      · have := pnum_ok x2
        simp at hz
        subst hz
        unfold I64
        omega
    · rw [if_pos h0, hE]
      unfold pups
      rw [if_pos h0]

end Go.Proofs.Ytlclllkjnhgbjaa
