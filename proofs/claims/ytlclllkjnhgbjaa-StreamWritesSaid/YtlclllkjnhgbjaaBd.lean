/- Texts laid together: XTermT XTermU XTermQ XTermV XTermPutsW XTermX XScan. -/
import Derived.Test.YtlclllkjnhgbjaaBc
import Derived.Test.YtlclllkjnhgbjaaBb

namespace Go.Proofs.Ytlclllkjnhgbjaa
open Go.RowKit
set_option linter.unusedVariables false
set_option linter.unusedSimpArgs false

/-- Append onto a row of the call's own, whatever else has turned. -/
theorem wpList_append0 {P : Program} {w : World} {ops : Array Oper} {rest : List Oper} {o : Oper} {a : Act} {Q : Exit → Act → World → Prop} (hgd : o.guard = none) (s x : Operand) (t : TypeId)
    (ho : o.op = .call { callee := .builtin .append, args := #[s, x], argTypes := #[t, t] })
    {e : TypeId} {size bytes : Nat} (E : ElemInfo P t e size bytes) (base : Nat) (hB : base ≤ w.heap.size)
    (v : Value) (n : Nat) (xs : List Value) (hs : a.eval s = v) (hown : w.ownsRow base e size v n xs)
    (A : Option Addr) (m c : Nat) (news : List Value) (hx : a.eval x = .slice A m c) (hr : Rd w size A m news) (h1 : ∀ u ∈ news, u.oneCell' = true)
    (h63 : n + m ≤ maxLen) (hbytes : (n + m) * bytes ≤ 140737488355328)
    (h : ∀ v' w', w'.ownsRow base e size v' (n + m) (xs ++ news) → w.grownBy w' v.ownBlock → (v'.ownBlock = v.ownBlock ∨ v'.ownBlock = some w.heap.size) → wpList P ops Q rest (a.put o.dst v') w') : wpList P ops Q (o :: rest) a w := by
  obtain ⟨i, z, hi, hz, hsz, hby, hzs⟩ := E.hi
  exact wpList_plain hgd fun _ hK => wp_append_any w s x t ho base e i z size bytes E.ht hi hz hsz hby hzs E.pos v n xs hs hown w.heap.size A m c news hx hr h1 h63 hbytes hB fun v' w' h2 h3 h4 => hK _ _ (h v' w' h2 h3 h4)

/-- One text more behind another one; and so many. -/
def tround (was l : List UInt8) : PR (List UInt8) :=
  match pnum was.length l with
  | .error k => .error k
  | .ok (k, r) =>
    match ptxt 16 r with
    | .error e => .error e
    | .ok (x, r2) => if isTerm (was.take k ++ x) && (alike was (was.take k ++ x) == k) && Op.bytesLess was (was.take k ++ x) then .ok (was.take k ++ x, r2) else .error 3
def treads : List UInt8 → Nat → List UInt8 → PR (List (List UInt8))
  | _, 0, l => .ok ([], l)
  | was, n + 1, l =>
    match tround was l with
    | .error e => .error e
    | .ok (s, r) =>
      match treads s n r with
      | .error e => .error e
      | .ok (ts, r2) => .ok (s :: ts, r2)
def tread (most : Int) (l : List UInt8) : PR (List (List UInt8)) :=
  match pnum most l with
  | .error k => .error k
  | .ok (n, r) => treads [] n r
/-- Texts read, ahead of others. -/
def ahead (ds : List (List UInt8)) (o : PR (List (List UInt8))) : PR (List (List UInt8)) :=
  match o with
  | .error e => .error e
  | .ok (ts, r) => .ok (ds ++ ts, r)
theorem ahead_step {ds : List (List UInt8)} {was l s r : List UInt8} {n : Nat} (h : tround was l = .ok (s, r)) : ahead ds (treads was (n + 1) l) = ahead (ds ++ [s]) (treads s n r) := by
  simp only [treads, h]
  rcases treads s n r with e | ⟨ts, r2⟩
  · rfl
  · simp [ahead]
theorem ahead_err {ds : List (List UInt8)} {was l : List UInt8} {n : Nat} {e : Int} (h : tround was l = .error e) : ahead ds (treads was (n + 1) l) = .error e := by
  simp only [treads, h]
  rfl

theorem pnum_lt {most : Int} {l r : List UInt8} {n : Nat} (h : pnum most l = .ok (n, r)) : r.length + 1 ≤ l.length := by
  have h1 := ntake_size l
  rcases pnum_cases (most := most) (l := l) with ⟨e, _⟩ | ⟨n', z, hn, hz, _, ⟨e, _⟩ | ⟨e, h2, h3⟩⟩
  · rw [h] at e; cases e
  · rw [h] at e; cases e
  · rw [h] at e
    injection e with e
    injection e with e1 e2
    subst e2
    rw [hn] at h1
    have := h1.2.2 rfl
    simp only [List.length_drop] at *
    omega
/-- Texts in new memory, read by a reader whose block alone of the old ones has turned. -/
structure TxRd (w : World) (b : Nat) (s l : List UInt8) (v : Value) (ts : List (List UInt8)) (w' : World) : Prop where
  g : w.grownBy w' (some b)
  r : Rdr w' b s l
  own : w'.ownsRow w.heap.size 9 1 v ts.length (ts.map tx)
theorem TxRd.read {w w1 w2 : World} {b : Nat} {s l l' : List UInt8} {v : Value} {ts : List (List UInt8)} (h : TxRd w b s l v ts w1) (hb : b < w.heap.size) (hg : w1.grownBy w2 (some b)) (hr : Rdr w2 b s l') : TxRd w b s l' v ts w2 :=
  ⟨h.g.trans hg, hr, h.own.kept hg (by
    rcases ho : v.ownBlock with _ | k
    · exact .inl rfl
    · refine .inr fun e => ?_
      injection e with e
      have := (h.own.lt k ho).1
      omega)⟩
theorem TxRd.more {w w1 w2 : World} {b : Nat} {s l : List UInt8} {v : Value} {ts : List (List UInt8)} (h : TxRd w b s l v ts w1) (hb : Bel w1 w2) : TxRd w b s l v ts w2 :=
  ⟨h.g.trans (grown_of_bel hb _), h.r.bel hb, own_bel h.own hb⟩
end Go.Proofs.Ytlclllkjnhgbjaa

namespace Go.Proofs.Ytlclllkjnhgbjaa
open Go.RowKit
set_option linter.unusedVariables false
set_option linter.unusedSimpArgs false

theorem own_less {w : World} {base base' : Nat} {e : TypeId} {size n : Nat} {v : Value} {xs : List Value} (h : w.ownsRow base e size v n xs) (hb : base' ≤ base) : w.ownsRow base' e size v n xs := by
  refine ⟨h.1, ?_⟩
  rcases h.2 with h0 | ⟨g, cap, cur, h1, h2, h3⟩
  · exact .inl h0
  · exact .inr ⟨g, cap, cur, h1, Nat.le_trans hb h2, h3⟩

/-- What a whole reading ends with. -/
def endErr {α : Type} (o : PR α) : Int :=
  match o with
  | .error k => k
  | .ok (_, l) => if l = [] then 0 else 3

end Go.Proofs.Ytlclllkjnhgbjaa

namespace Go.Proofs.Ytlclllkjnhgbjaa
open Go.RowKit
set_option linter.unusedVariables false
set_option linter.unusedSimpArgs false

theorem q_pnumber {n : Nat} (hn : n < 18446744073709551616) (t : List UInt8) : pnumber (nput n ++ t) = .ok (n, t) := by
  unfold pnumber
  rw [ntake_nput hn]
  simp only [if_true]
  rw [List.drop_append_of_le_length (by rw [nput_length]; exact Nat.le_refl _), List.drop_of_length_le (by rw [nput_length]; exact Nat.le_refl _)]
  rfl
theorem q_pnum {n : Nat} {most : Int} (hn : n < 18446744073709551616) (hm : (n : Int) ≤ most) (t : List UInt8) : pnum most (nput n ++ t) = .ok (n, t) := by
  unfold pnum
  rw [q_pnumber hn]
  simp only
  rw [if_neg (by omega)]
/-- What a number is read of begins with its bytes. -/
theorem q_pnum_back {most : Int} {l r : List UInt8} {n : Nat} (h : pnum most l = .ok (n, r)) : l = nput n ++ r := by
  rcases pnum_cases (most := most) (l := l) with ⟨e, _⟩ | ⟨n', z, hn, hz, _, ⟨e, _⟩ | ⟨e, h2, h3⟩⟩
  · rw [h] at e; cases e
  · rw [h] at e; cases e
  · rw [h] at e
    injection e with e
    injection e with e1 e2
    subst e1
    subst e2
    have := ntake_true (l := l) (by rw [hn])
    rw [hn] at this
    rw [← this.1, List.take_append_drop]
end Go.Proofs.Ytlclllkjnhgbjaa

namespace Go.Proofs.Ytlclllkjnhgbjaa
open Go.RowKit
set_option linter.unusedVariables false
set_option linter.unusedSimpArgs false
attribute [local go_sem] str_upto str_at str_from

end Go.Proofs.Ytlclllkjnhgbjaa

namespace Go.Proofs.Ytlclllkjnhgbjaa
open Go.RowKit
set_option linter.unusedVariables false

end Go.Proofs.Ytlclllkjnhgbjaa

namespace Go.Proofs.Ytlclllkjnhgbjaa
open Go.RowKit
set_option linter.unusedVariables false
set_option linter.unusedSimpArgs false

/-- The document's Want, whatever the scan. -/
def wantK (k : Int) (is : Bool) (n : Int) : Int := if k ≠ 0 then k else if is then 0 else wantErr n
theorem rwant_any (s : List UInt8) (t k n : Int) (is : Bool) (w : World) :
    Calls Try.prog 85 #[scn s t k, .bool is, .int .i64 n] w fun e w' => e = .returned (scn s t (wantK k is n)) ∧ Bel w w' := by
  by_cases hk : k = 0
  · subst hk
    cases is
    · exact rwant_no s t n w
    · exact rwant_yes s t n w
  · have : wantK k is n = k := by unfold wantK; rw [if_pos hk]
    rw [this]
    exact rwant_bad s t k n is hk w

def prErr {α : Type} (o : PR α) : Int := match o with | .error k => k | .ok _ => 0

/-- Where the document's Read stands. -/
def RdInv (s l0 : List UInt8) (most : Int) (n k : Nat) (ds : List (List UInt8)) (was : List UInt8) (t kk : Int) : Prop :=
  (kk = 0 ∧ was.length ≤ 16 ∧ ∃ tn : Nat, t = tn ∧ tn ≤ s.length ∧ k + (s.drop tn).length ≤ 1000001 ∧ tread most l0 = ahead ds (treads was (n - k) (s.drop tn))) ∨ (kk ≠ 0 ∧ tread most l0 = .error kk)
theorem RdInv.bad {s l0 : List UInt8} {most : Int} {n k : Nat} {ds : List (List UInt8)} {was : List UInt8} {t kk : Int} (h : RdInv s l0 most n k ds was t kk) (hk : kk ≠ 0) : tread most l0 = .error kk := by
  rcases h with ⟨h, _⟩ | ⟨_, h⟩
  · exact absurd h hk
  · exact h
theorem RdInv.good {s l0 : List UInt8} {most : Int} {n k : Nat} {ds : List (List UInt8)} {was : List UInt8} {t : Int} (h : RdInv s l0 most n k ds was t 0) : was.length ≤ 16 ∧ ∃ tn : Nat, t = tn ∧ tn ≤ s.length ∧ k + (s.drop tn).length ≤ 1000001 ∧ tread most l0 = ahead ds (treads was (n - k) (s.drop tn)) := by
  rcases h with ⟨_, h⟩ | ⟨h, _⟩
  · exact h
  · exact absurd rfl h

def TxtR (s was : List UInt8) (t : Nat) (m : Nat) (t' k' : Int) (x : List UInt8) : Prop :=
  (k' ≠ 0 ∧ tround was (s.drop t) = .error k') ∨ (k' = 0 ∧ ∃ tn : Nat, t' = tn ∧ tn ≤ s.length ∧ t < tn ∧ tround was (s.drop t) = if isTerm (was.take m ++ x) && (alike was (was.take m ++ x) == m) && Op.bytesLess was (was.take m ++ x) then .ok (was.take m ++ x, s.drop tn) else .error 3)
/-- A round of the document's Read. -/
theorem RdInv.step {s l0 : List UInt8} {most : Int} {n k : Nat} {ds : List (List UInt8)} {was : List UInt8} {t : Nat} {m : Nat} {t2 k2 : Int} {x : List UInt8} {B : Bool} (hk : k < n) (ht : t ≤ s.length) (hl : k + (s.drop t).length ≤ 1000001) (hE : tread most l0 = ahead ds (treads was (n - k) (s.drop t)))
    (hT : TxtR s was t m t2 k2 x) (hB : B = (isTerm (was.take m ++ x) && (alike was (was.take m ++ x) == m) && Op.bytesLess was (was.take m ++ x))) :
    RdInv s l0 most n (k + 1) (ds ++ [was.take m ++ x]) (was.take m ++ x) t2 (wantK k2 B 3) := by
  have hn : n - k = (n - (k + 1)) + 1 := by omega
  rw [hn] at hE
  rcases hT with ⟨h1, h2⟩ | ⟨rfl, tn, rfl, h1, h2, h3⟩
  · have : wantK k2 B 3 = k2 := by unfold wantK; rw [if_pos h1]
    rw [this]
    exact .inr ⟨h1, by rw [hE]; exact ahead_err h2⟩
  · rw [← hB] at h3
    cases B with
    | false => exact .inr ⟨by decide, by rw [hE]; exact ahead_err h3⟩
    | true =>
      refine .inl ⟨rfl, ?_, tn, rfl, h1, ?_, ?_⟩
      · have hz := hB.symm
        simp only [Bool.and_eq_true] at hz
        have := hz.1.1
        unfold isTerm at this
        simp at this
        simp
        omega
      · simp only [List.length_drop] at *
        omega
      · rw [hE]
        exact ahead_step h3

/-- Memory in the document's Read. -/
structure RdW (w : World) (s : List UInt8) (t kk : Int) (v : Value) (ds : List (List UInt8)) (wr : World) : Prop where
  bel : Bel w wr
  A : Blk wr w.heap.size 92 (scs s t kk)
  R : Blk wr (w.heap.size + 1) 92 (scs [] 0 0)
  own : wr.ownsRow (w.heap.size + 2) 9 1 v ds.length (ds.map tx)
section
variable {w w1 w2 : World} {s : List UInt8} {t kk : Int} {v : Value} {ds : List (List UInt8)}
theorem RdW.more (h : RdW w s t kk v ds w1) (hb : Bel w1 w2) : RdW w s t kk v ds w2 := ⟨h.bel.trans hb, h.A.bel hb, h.R.bel hb, own_bel h.own hb⟩
theorem RdW.setA {t' k' : Int} (h : RdW w s t kk v ds w1) (hg : w1.grownBy w2 (some w.heap.size)) (hA : Blk w2 w.heap.size 92 (scs s t' k')) : RdW w s t' k' v ds w2 :=
  ⟨h.bel.grownAt hg (Nat.le_refl _), hA, h.R.grown hg (by simp), h.own.kept hg (by
    rcases ho : v.ownBlock with _ | k
    · exact .inl rfl
    · refine .inr fun e => ?_
      injection e with e
      have := (h.own.lt k ho).1
      omega)⟩
end

theorem own_apart {w : World} {base : Nat} {e : TypeId} {size n : Nat} {v : Value} {xs : List Value} (h : w.ownsRow base e size v n xs) {g : Nat} (hg : g < base) : v.ownBlock = none ∨ v.ownBlock ≠ some g := by
  rcases ho : v.ownBlock with _ | k
  · exact .inl rfl
  · refine .inr fun e => ?_
    injection e with e
    have := (h.lt k ho).1
    omega

end Go.Proofs.Ytlclllkjnhgbjaa

namespace Go.Proofs.Ytlclllkjnhgbjaa
open Go.RowKit
set_option linter.unusedVariables false
set_option linter.unusedSimpArgs false

/-- A scan stands where a reading came to. -/
def SRes {α : Type} (s : List UInt8) (o : PR α) (t k : Int) (x : α) : Prop :=
  (k ≠ 0 ∧ o = .error k) ∨ (k = 0 ∧ ∃ tn : Nat, t = tn ∧ tn ≤ s.length ∧ o = .ok (x, s.drop tn))
def pbind {α β : Type} (o : PR α) (f : α → List UInt8 → PR β) : PR β := match o with | .error e => .error e | .ok (x, r) => f x r
def pbind2 {α β : Type} (o : PR α) (f : α → β) : PR β := match o with | .error e => .error e | .ok (x, r) => .ok (f x, r)
theorem SRes.start (s : List UInt8) (tn : Nat) (h : tn ≤ s.length) : SRes s (.ok ((), s.drop tn)) tn 0 () := .inr ⟨rfl, tn, rfl, h, rfl⟩
theorem SRes.map {α β : Type} {s : List UInt8} {o : PR α} {t k : Int} {x : α} (h : SRes s o t k x) (f : α → β) : SRes s (pbind2 o f) t k (f x) := by
  rcases h with ⟨h1, h2⟩ | ⟨h1, tn, h3, h4, h2⟩
  · exact .inl ⟨h1, by rw [h2]; rfl⟩
  · exact .inr ⟨h1, tn, h3, h4, by rw [h2]; rfl⟩
end Go.Proofs.Ytlclllkjnhgbjaa
