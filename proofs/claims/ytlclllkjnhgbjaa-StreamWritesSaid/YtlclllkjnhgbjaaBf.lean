/- Texts laid together: XTierR XTierT XTierU XTierS. -/
import Derived.Test.YtlclllkjnhgbjaaBe
import Derived.Test.YtlclllkjnhgbjaaBb
import Derived.Test.YtlclllkjnhgbjaaBd

namespace Go.Proofs.Ytlclllkjnhgbjaa
open Go.RowKit
set_option linter.unusedVariables false
set_option linter.unusedSimpArgs false

section
variable {P : Program} {w : World}
theorem step_buildSlice1v {ops : Array Oper} {o : Oper} {a : Act} {K : Act → World → Prop} {Q : Exit → Act → World → Prop} {X : Prop} (hgd : o.guard = none) {t e : TypeId} {size bytes : Nat} (E : ElemInfo P t e size bytes) (x : Operand) (ho : o.op = .buildSlice t 1 #[(0, x)])
    (v : Value) (hx : a.eval x = v) (cs : Array Value) (hc : v.cells = cs) (hv : cs.size = size) (hs : size ≤ 1000)
    (h : K (a.put o.dst (.slice (some ⟨w.heap.size, 0, none⟩) 1 1)) (w.alloc (.cells cs e))) :
    if Region.wanted o (yielded ops a.tmps) = true then Oper.wp P o a w K Q else X := by
  subst hc
  have hw : Region.wanted o (yielded ops a.tmps) = true := by simp [Region.wanted, hgd]
  rw [if_pos hw]
  unfold Oper.wp execOp
  have hr := run_buildSlice1 E v hv hs w
  simp only [ho, List.map_toArray, List.map_cons, List.map_nil, hx, Sem.run_bind, hr, Result.andThen_ok, Sem.run_pure]
  exact h
end

theorem kept_ne {w w' : World} {base : Nat} {e : TypeId} {size n g : Nat} {v : Value} {xs : List Value} (h : w.ownsRow base e size v n xs) (hg : w.grownBy w' (some g)) (hne : v.ownBlock ≠ some g) : w'.ownsRow base e size v n xs :=
  h.kept hg (by
    rcases ho : v.ownBlock with _ | k
    · exact .inl rfl
    · exact .inr (by rw [← ho]; exact hne))
section
variable {w w1 w2 : World} {b y : Nat} {s l l' nm : List UInt8} {v u u' : Value} {ts : List (List UInt8)} {ups : List Int}
end

/-- Numbers read, ahead of others. -/
def aheadI (ds : List Int) (o : PR (List Int)) : PR (List Int) := match o with | .error e => .error e | .ok (xs, r) => .ok (ds ++ xs, r)
theorem aheadI_step {ds : List Int} {most : Int} {n x : Nat} {l r : List UInt8} (h : pnum most l = .ok (x, r)) : aheadI ds (pnums most (n + 1) l) = aheadI (ds ++ [(x : Int)]) (pnums most n r) := by
  simp only [pnums, h]
  rcases pnums most n r with e | ⟨xs, r2⟩
  · rfl
  · simp [aheadI]
theorem aheadI_err {ds : List Int} {most k : Int} {n : Nat} {l : List UInt8} (h : pnum most l = .error k) : aheadI ds (pnums most (n + 1) l) = .error k := by
  simp only [pnums, h]
  rfl
/-- What is read behind the members. -/
def ptail (above : Int) (nm : List UInt8) (ts : List (List UInt8)) (o : PR (List Int)) : PR TC := match o with | .error k => .error k | .ok (up, r) => ptierC above ⟨nm, ts, up⟩ r
/-- A tier whose rows lie in new memory. -/
structure TirOwn (base : Nat) (T : Tir) (w : World) : Prop where
  ts : w.ownsRow base 9 1 (.slice T.ts.A T.ts.n T.ts.c) T.ts.n (T.ts.l.map tx)
  up : w.ownsRow base 3 1 (.slice T.up.A T.up.n T.up.c) T.up.n (T.up.l.map (Value.int .i64))
  nm : T.nm.length ≤ 12
  tl : ∀ t ∈ T.ts.l, t.length ≤ 16
  ul : ∀ z ∈ T.up.l, I64 z
  tn : T.ts.n ≤ 200
  un : T.up.n ≤ 200
theorem TirOwn.rd {base : Nat} {T : Tir} {w : World} (h : TirOwn base T w) : T.rd w :=
  ⟨by have := h.nm; omega, ⟨by have := Rd.of_own h.ts; rw [flat_texts]; exact this, fun t ht => by have := h.tl t ht; show t.length ≤ _; omega, by have := h.tn; omega⟩, ⟨by have := Rd.of_own h.up; rw [flat_ints]; exact this, fun z hz => h.ul z hz, by have := h.un; omega⟩⟩
theorem TirOwn.kept {base : Nat} {T : Tir} {w w' : World} {g : Nat} (h : TirOwn base T w) (hg : w.grownBy w' (some g)) (hb : g < base) : TirOwn base T w' :=
  ⟨h.ts.kept hg (own_apart h.ts hb), h.up.kept hg (own_apart h.up hb), h.nm, h.tl, h.ul, h.tn, h.un⟩
theorem TirOwn.bel {base : Nat} {T : Tir} {w w' : World} (h : TirOwn base T w) (hb : Bel w w') : TirOwn base T w' := ⟨own_bel h.ts hb, own_bel h.up hb, h.nm, h.tl, h.ul, h.tn, h.un⟩
theorem TirOwn.less {base base' : Nat} {T : Tir} {w : World} (h : TirOwn base T w) (hb : base' ≤ base) : TirOwn base' T w := ⟨own_less h.ts hb, own_less h.up hb, h.nm, h.tl, h.ul, h.tn, h.un⟩
end Go.Proofs.Ytlclllkjnhgbjaa

namespace Go.Proofs.Ytlclllkjnhgbjaa
open Go.RowKit
set_option linter.unusedVariables false
set_option linter.unusedSimpArgs false

abbrev Tir.nil : Tir := ⟨[], ⟨none, 0, 0, []⟩, ⟨none, 0, 0, []⟩⟩
abbrev TC.nil : TC := ⟨[], [], []⟩
end Go.Proofs.Ytlclllkjnhgbjaa

namespace Go.Proofs.Ytlclllkjnhgbjaa
open Go.RowKit
set_option linter.unusedVariables false
set_option linter.unusedSimpArgs false

set_option maxRecDepth 100000 in
set_option maxHeartbeats 1000000 in
theorem ints_any (A : Option Addr) (n c : Nat) (xs : List Int) (C : Option Addr) (m d : Nat) (ys : List Int) (w : World) (hx : Rd w 1 A n (xs.map (Value.int .i64))) (hy : Rd w 1 C m (ys.map (Value.int .i64))) (hn : n ≤ 9223372036854775806) (hm : m ≤ 9223372036854775806) :
    Calls Try.prog 24 #[.slice A n c, .slice C m d] w fun e w' => e = .returned (.bool (xs == ys)) ∧ Bel w w' := by
  have hxl : Hid (xs.length = n) := by have := hx.len; show _ = _; simpa using this
  have hyl : Hid (ys.length = m) := by have := hy.len; show _ = _; simpa using this
  go_enter Try.func24, Try.ntmps24
  by_cases hnm : n = m
  · subst hnm
    go_wp2
    go_loopg [13] n (fun g i wr => ∃ k : Nat, g = n - k ∧ k ≤ n ∧ i = .int .i64 k ∧ Bel w wr ∧ Hid ((xs == ys) = (xs.drop k == ys.drop k)))
    case atStart => exact ⟨0, rfl, by omega, rfl, Bel.refl _, rfl⟩
    case round =>
      obtain ⟨k, hgk, hk, rfl, hB, hF⟩ := hrel
      have Hgk := Lib.hid hgk
      clear hgk
      by_cases hlt : k < n
      · obtain ⟨ad, a, rfl, hak, hc⟩ := Rd.intC (hx.bel hB) hlt
        obtain ⟨bd, b, rfl, hbk, hd⟩ := Rd.intC (hy.bel hB) hlt
        have HS := Lib.hid (intsEq_step hak hbk)
        clear hak hbk
        cases hab : (a == b) with
        | true =>
          have HR : Hid ((xs == ys) = (xs.drop (k + 1) == ys.drop (k + 1))) := by show _ = _; rw [hF.out, HS.out, hab]; rfl
          have hne : (a != b) = false := by rw [bne, hab]; rfl
          clear hF HS
          go_wp2_with fail
          go_quiet (fail)
          go_wp2
          go_roundg (n - (k + 1))
          case rel => exact ⟨k + 1, rfl, by omega, by go_num, hB.drewN _, HR⟩
          case measure => rw [Hgk.out]; omega
        | false =>
          have HR : Hid ((xs == ys) = false) := by show _ = _; rw [hF.out, HS.out, hab]; rfl
          have hne : (a != b) = true := by rw [bne, hab]; rfl
          clear hF HS
          go_wp2_with fail
          go_quiet (fail)
          go_wp2
          go_ret
          rw [HR.out]
          exact ⟨rfl, hB.drewN _⟩
      · have HR : Hid ((xs == ys) = true) := by
          show _ = _
          rw [hF.out, List.drop_of_length_le (by have := hxl.out; omega), List.drop_of_length_le (by have := hyl.out; omega)]
          rfl
        clear hF
        go_wp2
        go_ret
        rw [HR.out]
        exact ⟨rfl, hB⟩
  · have HR : Hid ((xs == ys) = false) := by
      show _ = _
      exact beq_len (by have := hxl.out; have := hyl.out; omega)
    go_wp2
    go_ret
    rw [HR.out]
    exact ⟨rfl, Bel.refl _⟩

end Go.Proofs.Ytlclllkjnhgbjaa

namespace Go.Proofs.Ytlclllkjnhgbjaa
open Go.RowKit
set_option linter.unusedVariables false
set_option linter.unusedSimpArgs false

section
variable {w w1 w2 : World} {s nm nm' : List UInt8} {t k t' k' : Int} {v v' u u' : Value} {ts ts' : List (List UInt8)} {ups : List Int}
end
theorem TirOwn.setA {base : Nat} {T : Tir} {w : World} (h : TirOwn base T w) {g o : Nat} {x : Value} {cs : Array Value} (hA : Blk w g 92 cs) : TirOwn base T (w.setCell ⟨g, o, none⟩ x) :=
  ⟨kept_ne h.ts (grownBy_setCell w g o x) (own_blk_ne h.ts hA (by decide)), kept_ne h.up (grownBy_setCell w g o x) (own_blk_ne h.up hA (by decide)), h.nm, h.tl, h.ul, h.tn, h.un⟩
/-- Where the document's Read stands. -/
def TsInv (above : Int) (s l0 nm : List UInt8) (ts : List (List UInt8)) (n : Nat) (ups : List Int) (m : Nat) (t kk : Int) : Prop :=
  (kk ≠ 0 ∧ ptier above l0 = .error kk) ∨ (kk = 0 ∧ nm.length ≤ 12 ∧ (∀ x ∈ ts, x.length ≤ 16) ∧ (∀ z ∈ ups, I64 z) ∧ n ≤ 200 ∧ ts.length = n ∧ True ∧ ∃ tn : Nat, t = tn ∧ tn ≤ s.length ∧ ptier above l0 = ptail above nm ts (aheadI ups (pups above m (s.drop tn))))
theorem TsInv.bad {above : Int} {s l0 nm : List UInt8} {ts : List (List UInt8)} {n m : Nat} {ups : List Int} {t kk : Int} (h : TsInv above s l0 nm ts n ups m t kk) (hk : kk ≠ 0) : ptier above l0 = .error kk := by
  rcases h with ⟨_, h⟩ | ⟨h, _⟩
  · exact h
  · exact absurd h hk
theorem TsInv.good {above : Int} {s l0 nm : List UInt8} {ts : List (List UInt8)} {n m : Nat} {ups : List Int} {t kk : Int} (h : TsInv above s l0 nm ts n ups m t kk) (hk : kk = 0) : nm.length ≤ 12 ∧ (∀ x ∈ ts, x.length ≤ 16) ∧ (∀ z ∈ ups, I64 z) ∧ n ≤ 200 ∧ ts.length = n ∧ True ∧ ∃ tn : Nat, t = tn ∧ tn ≤ s.length ∧ ptier above l0 = ptail above nm ts (aheadI ups (pups above m (s.drop tn))) := by
  rcases h with ⟨h, _⟩ | ⟨_, h⟩
  · exact absurd hk h
  · exact h
theorem TsInv.step {above : Int} {s l0 nm : List UInt8} {ts : List (List UInt8)} {n k tn : Nat} {ups : List Int} {t kk : Int} {x : Nat} (h1 : nm.length ≤ 12) (h2 : ∀ x ∈ ts, x.length ≤ 16) (h3 : ∀ z ∈ ups, I64 z) (h4 : n ≤ 200) (h5 : ts.length = n) (h0 : 0 < above) (ha : above ≤ 9223372036854775807) (hk : k < n)
    (hE : ptier above l0 = ptail above nm ts (aheadI ups (pups above (n - k) (s.drop tn)))) (hS : SRes s (pnum (above - 1) (s.drop tn)) t kk x) : TsInv above s l0 nm ts n (ups ++ [(x : Int)]) (if 0 < above then n - (k + 1) else 0) t kk := by
  unfold pups at hE
  rw [if_pos h0, show n - k = (n - (k + 1)) + 1 by omega] at hE
  rcases hS with ⟨x1, x2⟩ | ⟨x1, t2, x3, x4, x2⟩
  · rw [aheadI_err x2] at hE
    exact .inl ⟨x1, hE⟩
  · rw [aheadI_step x2] at hE
    refine .inr ⟨x1, h1, h2, ?_, h4, h5, trivial, t2, x3, x4, ?_⟩
    · intro z hz
      rcases List.mem_append.1 hz with hz | hz
      · exact h3 z hz
      · have := pnum_ok x2
        simp at hz
        subst hz
        unfold I64
        omega
    · rw [if_pos h0, hE]
      unfold pups
      rw [if_pos h0]

end Go.Proofs.Ytlclllkjnhgbjaa
