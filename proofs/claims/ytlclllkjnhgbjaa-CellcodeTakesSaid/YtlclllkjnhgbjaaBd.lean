/- Texts laid together: XTermT XTermU XTermQ XTermV XTermPutsW XTermX XScan. -/
import Derived.Test.YtlclllkjnhgbjaaBc
import Derived.Test.YtlclllkjnhgbjaaBb

namespace Go.Proofs.Ytlclllkjnhgbjaa
open Go.RowKit
set_option linter.unusedVariables false
set_option linter.unusedSimpArgs false

/-- Append onto a row of the call's own, whatever else has turned. -/
theorem wpList_append0 {P : Program} {w : World} {ops : Array Oper} {rest : List Oper} {o : Oper} {a : Act} {Q : Exit → Act → World → Prop} (hgd : o.guard = none) (s x : Operand) (t : TypeId)
    (ho : o.op = .call { callee := .builtin .append, args := #[s, x], argTypes := #[t, t] })
    {e : TypeId} {size bytes : Nat} (E : ElemInfo P t e size bytes) (base : Nat) (hB : base ≤ w.heap.size)
    (v : Value) (n : Nat) (xs : List Value) (hs : a.eval s = v) (hown : w.ownsRow base e size v n xs)
    (A : Option Addr) (m c : Nat) (news : List Value) (hx : a.eval x = .slice A m c) (hr : Rd w size A m news) (h1 : ∀ u ∈ news, u.oneCell' = true)
    (h63 : n + m ≤ maxLen) (hbytes : (n + m) * bytes ≤ 140737488355328)
    (h : ∀ v' w', w'.ownsRow base e size v' (n + m) (xs ++ news) → w.grownBy w' v.ownBlock → (v'.ownBlock = v.ownBlock ∨ v'.ownBlock = some w.heap.size) → wpList P ops Q rest (a.put o.dst v') w') : wpList P ops Q (o :: rest) a w := by
  obtain ⟨i, z, hi, hz, hsz, hby, hzs⟩ := E.hi
  exact wpList_plain hgd fun _ hK => wp_append_any w s x t ho base e i z size bytes E.ht hi hz hsz hby hzs E.pos v n xs hs hown w.heap.size A m c news hx hr h1 h63 hbytes hB fun v' w' h2 h3 h4 => hK _ _ (h v' w' h2 h3 h4)

/-- One text more behind another one; and so many. -/
def tround (was l : List UInt8) : PR (List UInt8) :=
  match pnum was.length l with
  | .error k => .error k
  | .ok (k, r) =>
    match ptxt 16 r with
    | .error e => .error e
    | .ok (x, r2) => if isTerm (was.take k ++ x) && (alike was (was.take k ++ x) == k) && Op.bytesLess was (was.take k ++ x) then .ok (was.take k ++ x, r2) else .error 3
def treads : List UInt8 → Nat → List UInt8 → PR (List (List UInt8))
  | _, 0, l => .ok ([], l)
  | was, n + 1, l =>
    match tround was l with
    | .error e => .error e
    | .ok (s, r) =>
      match treads s n r with
      | .error e => .error e
      | .ok (ts, r2) => .ok (s :: ts, r2)
def tread (most : Int) (l : List UInt8) : PR (List (List UInt8)) :=
  match pnum most l with
  | .error k => .error k
  | .ok (n, r) => treads [] n r
/-- Texts read, ahead of others. -/
def ahead (ds : List (List UInt8)) (o : PR (List (List UInt8))) : PR (List (List UInt8)) :=
  match o with
  | .error e => .error e
  | .ok (ts, r) => .ok (ds ++ ts, r)
theorem ahead_nil (o : PR (List (List UInt8))) : ahead [] o = o := by
  rcases o with e | ⟨ts, r⟩ <;> rfl
theorem ahead_step {ds : List (List UInt8)} {was l s r : List UInt8} {n : Nat} (h : tround was l = .ok (s, r)) : ahead ds (treads was (n + 1) l) = ahead (ds ++ [s]) (treads s n r) := by
  simp only [treads, h]
  rcases treads s n r with e | ⟨ts, r2⟩
  · rfl
  · simp [ahead]
theorem ahead_err {ds : List (List UInt8)} {was l : List UInt8} {n : Nat} {e : Int} (h : tround was l = .error e) : ahead ds (treads was (n + 1) l) = .error e := by
  simp only [treads, h]
  rfl

theorem pnum_lt {most : Int} {l r : List UInt8} {n : Nat} (h : pnum most l = .ok (n, r)) : r.length + 1 ≤ l.length := by
  have h1 := ntake_size l
  rcases pnum_cases (most := most) (l := l) with ⟨e, _⟩ | ⟨n', z, hn, hz, _, ⟨e, _⟩ | ⟨e, h2, h3⟩⟩
  · rw [h] at e; cases e
  · rw [h] at e; cases e
  · rw [h] at e
    injection e with e
    injection e with e1 e2
    subst e2
    rw [hn] at h1
    have := h1.2.2 rfl
    simp only [List.length_drop] at *
    omega
theorem ptxt_ok {most : Int} {l x r : List UInt8} (h : ptxt most l = .ok (x, r)) : (x.length : Int) ≤ most ∧ r.length ≤ l.length := by
  unfold ptxt at h
  split at h
  · cases h
  · rename_i n r1 hp
    obtain ⟨_, h1, h2⟩ := pnum_ok hp
    unfold pfix at h
    split at h
    · cases h
    · injection h with h
      injection h with e1 e2
      subst e1
      subst e2
      simp only [List.length_take, List.length_drop]
      omega

theorem gt_less (q t : List UInt8) : (!Op.bytesLess t q && !(t == q)) = Op.bytesLess q t := by
  rw [← Bool.not_or, less_le, Bool.not_not]
/-- Texts in new memory, read by a reader whose block alone of the old ones has turned. -/
structure TxRd (w : World) (b : Nat) (s l : List UInt8) (v : Value) (ts : List (List UInt8)) (w' : World) : Prop where
  g : w.grownBy w' (some b)
  r : Rdr w' b s l
  own : w'.ownsRow w.heap.size 9 1 v ts.length (ts.map tx)
theorem TxRd.read {w w1 w2 : World} {b : Nat} {s l l' : List UInt8} {v : Value} {ts : List (List UInt8)} (h : TxRd w b s l v ts w1) (hb : b < w.heap.size) (hg : w1.grownBy w2 (some b)) (hr : Rdr w2 b s l') : TxRd w b s l' v ts w2 :=
  ⟨h.g.trans hg, hr, h.own.kept hg (by
    rcases ho : v.ownBlock with _ | k
    · exact .inl rfl
    · refine .inr fun e => ?_
      injection e with e
      have := (h.own.lt k ho).1
      omega)⟩
theorem TxRd.more {w w1 w2 : World} {b : Nat} {s l : List UInt8} {v : Value} {ts : List (List UInt8)} (h : TxRd w b s l v ts w1) (hb : Bel w1 w2) : TxRd w b s l v ts w2 :=
  ⟨h.g.trans (grown_of_bel hb _), h.r.bel hb, own_bel h.own hb⟩
theorem TxRd.app {w w1 w2 : World} {b : Nat} {s l x : List UInt8} {v v' : Value} {ts : List (List UInt8)} (h : TxRd w b s l v ts w1) (hb : b < w.heap.size) (ho : w2.ownsRow w.heap.size 9 1 v' (ts.length + 1) (ts.map tx ++ [tx x])) (hg : w1.grownBy w2 v.ownBlock) : TxRd w b s l v' (ts ++ [x]) w2 :=
  ⟨h.g.andThen hg (fun j e => .inl (h.own.lt j e).1), h.r.grown hg (fun e => by have := (h.own.lt b e.symm).1; omega), by simpa using ho⟩

/-- How term.Read ends. -/
def TPost (b : Nat) (s : List UInt8) (o : PR (List (List UInt8))) (w : World) (e : Ending) (w' : World) : Prop :=
  match o with
  | .error k => RErr b s k w e w'
  | .ok (ts, l) => ∃ v, e = .returned v ∧ TxRd w b s l v ts w'

end Go.Proofs.Ytlclllkjnhgbjaa

namespace Go.Proofs.Ytlclllkjnhgbjaa
open Go.RowKit
set_option linter.unusedVariables false
set_option linter.unusedSimpArgs false

theorem own_but2 {w w' : World} {B base : Nat} {e : TypeId} {size n : Nat} {v : Value} {xs : List Value} (h : w.ownsRow base e size v n xs) (hb : But2 B w w') (hB : B + 2 ≤ base) : w'.ownsRow base e size v n xs := by
  refine ⟨h.1, ?_⟩
  rcases h.2 with h0 | ⟨g, cap, cur, h1, h2, h3, h4⟩
  · exact .inl h0
  · have hlt : g < w.heap.size := by
      rcases Nat.lt_or_ge g w.heap.size with h | h
      · exact h
      · rw [Array.getElem?_eq_none h] at h3; cases h3
    exact .inr ⟨g, cap, cur, h1, h2, (hb.block g hlt (by omega) (by omega)).trans h3, h4⟩
theorem own_less {w : World} {base base' : Nat} {e : TypeId} {size n : Nat} {v : Value} {xs : List Value} (h : w.ownsRow base e size v n xs) (hb : base' ≤ base) : w.ownsRow base' e size v n xs := by
  refine ⟨h.1, ?_⟩
  rcases h.2 with h0 | ⟨g, cap, cur, h1, h2, h3⟩
  · exact .inl h0
  · exact .inr ⟨g, cap, cur, h1, Nat.le_trans hb h2, h3⟩

/-- What a whole reading ends with. -/
def endErr {α : Type} (o : PR α) : Int :=
  match o with
  | .error k => k
  | .ok (_, l) => if l = [] then 0 else 3

/-- What term.Take answers. -/
def ttake (most : Int) (s : List UInt8) : List (List UInt8) × Int :=
  match tread most s with
  | .error k => ([], k)
  | .ok (ts, l) => if l = [] then (ts, 0) else ([], 3)
/-- A row of texts with an error's number, told. -/
def TxSaid (w : World) (r : List (List UInt8) × Int) (e : Ending) (w' : World) : Prop :=
  ∃ A c, e = .returned (.tuple #[.slice A r.1.length c, .int .i64 r.2]) ∧ Bel w w' ∧ Rd w' 1 A r.1.length (r.1.map tx)

theorem tread_err {most k : Int} {s : List UInt8} (h : tread most s = .error k) : k = 3 ∨ k = 5 := by
  have key : ∀ n was l k, treads was n l = .error k → k = 3 ∨ k = 5 := by
    intro n
    induction n with
    | zero => intro was l k h; cases h
    | succ n ih =>
      intro was l k h
      unfold treads at h
      split at h
      · rename_i e he
        injection h with h
        subst h
        unfold tround at he
        split at he
        · rename_i hp
          injection he with he
          subst he
          exact pnum_err hp
        · split at he
          · rename_i hp
            injection he with he
            subst he
            unfold ptxt at hp
            split at hp
            · rename_i h2
              injection hp with hp
              subst hp
              exact pnum_err h2
            · unfold pfix at hp
              split at hp
              · injection hp with hp; exact .inl hp.symm
              · cases hp
          · split at he
            · cases he
            · injection he with he; exact .inl he.symm
      · split at h
        · rename_i he
          injection h with h
          subst h
          exact ih _ _ _ he
        · cases h
  unfold tread at h
  split at h
  · rename_i hp
    injection h with h
    subst h
    exact pnum_err hp
  · exact key _ _ _ _ h

end Go.Proofs.Ytlclllkjnhgbjaa

namespace Go.Proofs.Ytlclllkjnhgbjaa
open Go.RowKit
set_option linter.unusedVariables false
set_option linter.unusedSimpArgs false

theorem q_pnumber {n : Nat} (hn : n < 18446744073709551616) (t : List UInt8) : pnumber (nput n ++ t) = .ok (n, t) := by
  unfold pnumber
  rw [ntake_nput hn]
  simp only [if_true]
  rw [List.drop_append_of_le_length (by rw [nput_length]; exact Nat.le_refl _), List.drop_of_length_le (by rw [nput_length]; exact Nat.le_refl _)]
  rfl
theorem q_pnum {n : Nat} {most : Int} (hn : n < 18446744073709551616) (hm : (n : Int) ≤ most) (t : List UInt8) : pnum most (nput n ++ t) = .ok (n, t) := by
  unfold pnum
  rw [q_pnumber hn]
  simp only
  rw [if_neg (by omega)]
theorem q_ptxt {l : List UInt8} {most : Int} (hl : (l.length : Int) ≤ most) (h2 : l.length < 18446744073709551616) (t : List UInt8) : ptxt most (ptext l ++ t) = .ok (l, t) := by
  unfold ptxt
  have e : ptext l ++ t = nput l.length ++ (l ++ t) := by unfold ptext; rw [List.append_assoc]
  rw [e, q_pnum h2 hl]
  simp only
  unfold pfix
  rw [if_neg (by rw [List.length_append]; omega), Int.toNat_natCast, List.take_left, List.drop_left]
/-- What a number is read of begins with its bytes. -/
theorem q_pnum_back {most : Int} {l r : List UInt8} {n : Nat} (h : pnum most l = .ok (n, r)) : l = nput n ++ r := by
  rcases pnum_cases (most := most) (l := l) with ⟨e, _⟩ | ⟨n', z, hn, hz, _, ⟨e, _⟩ | ⟨e, h2, h3⟩⟩
  · rw [h] at e; cases e
  · rw [h] at e; cases e
  · rw [h] at e
    injection e with e
    injection e with e1 e2
    subst e1
    subst e2
    have := ntake_true (l := l) (by rw [hn])
    rw [hn] at this
    rw [← this.1, List.take_append_drop]
theorem q_ptxt_back {most : Int} {l x r : List UInt8} (h : ptxt most l = .ok (x, r)) : l = ptext x ++ r := by
  unfold ptxt at h
  split at h
  · cases h
  · rename_i n r1 hp
    unfold pfix at h
    split at h
    · cases h
    · rename_i hc
      injection h with h
      injection h with e1 e2
      have := q_pnum_back hp
      rw [this]
      unfold ptext
      rw [← e1, ← e2, Int.toNat_natCast, List.length_take, Nat.min_eq_left (by omega), List.append_assoc, List.take_append_drop]

theorem alike_take (x y : List UInt8) : x.take (alike x y) = y.take (alike x y) := by
  induction x generalizing y with
  | nil => simp [alike]
  | cons a x ih =>
    cases y with
    | nil => simp [alike]
    | cons b y =>
      rw [alike]
      split
      · rename_i h
        subst h
        simp [ih y]
      · rfl
theorem alike_join (x y : List UInt8) : x.take (alike x y) ++ y.drop (alike x y) = y := by
  rw [alike_take, List.take_append_drop]

theorem tround_tput {was t : List UInt8} (ht : isTerm t = true) (hl : Op.bytesLess was t = true) (hw : was.length ≤ 16) (r : List UInt8) : tround was (nput (alike was t) ++ ptext (t.drop (alike was t)) ++ r) = .ok (t, r) := by
  have h1 := alike_le was t
  have h16 : t.length ≤ 16 := by unfold isTerm at ht; simp at ht; omega
  unfold tround
  rw [List.append_assoc, q_pnum (by omega) (by omega)]
  simp only
  rw [q_ptxt (by simp; omega) (by simp; omega)]
  simp only
  rw [alike_join, ht, hl]
  simp
theorem treads_tputs {ts : List (List UInt8)} : ∀ {p : Option (List UInt8)} {was : List UInt8}, rowFrom p ts = 0 → (p = some was ∨ (p = none ∧ was = [])) → was.length ≤ 16 → ∀ r, treads was ts.length (tputs was ts ++ r) = .ok (ts, r) := by
  induction ts with
  | nil => intro p was h hp hw r; rfl
  | cons t ts ih =>
    intro p was h hp hw r
    rw [rowFrom] at h
    split at h
    · rename_i ht
      split at h
      · cases h
      · rename_i hn
        have h16 : t.length ≤ 16 := by unfold isTerm at ht; simp at ht; omega
        have hl : Op.bytesLess was t = true := by
          rcases hp with hp | ⟨hp, hw0⟩
          · subst hp
            simpa using hn
          · subst hw0
            unfold isTerm at ht
            cases t with
            | nil => simp at ht
            | cons a t => rfl
        rw [List.length_cons, treads, tputs, List.append_assoc, tround_tput ht hl hw]
        simp only
        rw [ih h (.inl rfl) h16]
    · cases h
theorem ttake_tput {ts : List (List UInt8)} (h : rowErr ts = 0) (hn : ts.length ≤ 100000) : ttake ts.length (tput ts) = (ts, 0) := by
  unfold ttake tread tput
  rw [q_pnum (by omega) (Int.le_refl _)]
  have := treads_tputs (ts := ts) (p := none) (was := []) h (.inr ⟨rfl, rfl⟩) (by simp) []
  rw [List.append_nil] at this
  simp only
  rw [this]
  simp

/-- What is read rises, and is put as it was read. -/
theorem tround_back {was l s r : List UInt8} (h : tround was l = .ok (s, r)) : isTerm s = true ∧ Op.bytesLess was s = true ∧ l = (nput (alike was s) ++ ptext (s.drop (alike was s))) ++ r := by
  unfold tround at h
  split at h
  · cases h
  · rename_i k r1 hp
    split at h
    · cases h
    · rename_i x r2 hx
      split at h
      · rename_i hc
        injection h with h
        injection h with e1 e2
        subst e2
        simp only [Bool.and_eq_true, beq_iff_eq] at hc
        rw [e1] at hc
        obtain ⟨⟨h1, h2⟩, h3⟩ := hc
        refine ⟨h1, h3, ?_⟩
        have hk : k ≤ was.length := by have := (pnum_ok hp).2.1; omega
        have hd : s.drop k = x := by
          rw [← e1, List.drop_append_of_le_length (by simp; omega), List.drop_of_length_le (by simp; omega)]
          rfl
        rw [h2, hd, q_pnum_back hp, q_ptxt_back hx, List.append_assoc]
      · cases h
theorem treads_back {n : Nat} : ∀ {was l r : List UInt8} {ts : List (List UInt8)} {p : Option (List UInt8)}, treads was n l = .ok (ts, r) → (p = some was ∨ (p = none ∧ was = [])) → rowFrom p ts = 0 ∧ ts.length = n ∧ l = tputs was ts ++ r := by
  induction n with
  | zero =>
    intro was l r ts p h hp
    injection h with h
    injection h with e1 e2
    subst e1
    subst e2
    exact ⟨rfl, rfl, rfl⟩
  | succ n ih =>
    intro was l r ts p h hp
    rw [treads] at h
    split at h
    · cases h
    · rename_i s r1 hs
      split at h
      · cases h
      · rename_i us r2 hu
        injection h with h
        injection h with e1 e2
        subst e1
        subst e2
        obtain ⟨a1, a2, a3⟩ := tround_back hs
        obtain ⟨b1, b2, b3⟩ := ih (p := some s) hu (.inl rfl)
        refine ⟨?_, by simp [b2], ?_⟩
        · rw [rowFrom, a1]
          simp only [if_true]
          rw [if_neg]
          · exact b1
          · rcases hp with hp | ⟨hp, hw⟩
            · subst hp; simp [a2]
            · subst hp; simp
        · rw [tputs, a3, b3, List.append_assoc, List.append_assoc]
          simp only [List.append_assoc]
theorem tread_back {most : Int} {l r : List UInt8} {ts : List (List UInt8)} (h : tread most l = .ok (ts, r)) : rowErr ts = 0 ∧ l = tput ts ++ r := by
  unfold tread at h
  split at h
  · cases h
  · rename_i n r1 hp
    obtain ⟨h1, h2, h3⟩ := treads_back (p := none) h (.inr ⟨rfl, rfl⟩)
    refine ⟨h1, ?_⟩
    unfold tput
    rw [h2, q_pnum_back hp, h3, List.append_assoc]

end Go.Proofs.Ytlclllkjnhgbjaa

namespace Go.Proofs.Ytlclllkjnhgbjaa
open Go.RowKit
set_option linter.unusedVariables false
set_option linter.unusedSimpArgs false
attribute [local go_sem] str_upto str_at str_from

theorem take_same {x y : List UInt8} {k : Nat} (h : x.take k = y.take k) (h1 : k < x.length) (h2 : k < y.length) : x.take (k + 1) = y.take (k + 1) ↔ x[k] = y[k] := by
  rw [List.take_succ_eq_append_getElem h1, List.take_succ_eq_append_getElem h2, h]
  constructor
  · intro e
    have := List.append_inj_right' e rfl
    simpa using this
  · intro e
    rw [e]

theorem txsEq_step {xs ys : List (List UInt8)} {k : Nat} {a b : List UInt8} (ha : xs[k]? = some a) (hb : ys[k]? = some b) : (xs.drop k == ys.drop k) = ((a == b) && (xs.drop (k + 1) == ys.drop (k + 1))) := by
  obtain ⟨h1, rfl⟩ := List.getElem?_eq_some_iff.1 ha
  obtain ⟨h2, rfl⟩ := List.getElem?_eq_some_iff.1 hb
  rw [List.drop_eq_getElem_cons h1, List.drop_eq_getElem_cons h2]
  rfl

end Go.Proofs.Ytlclllkjnhgbjaa

namespace Go.Proofs.Ytlclllkjnhgbjaa
open Go.RowKit
set_option linter.unusedVariables false

theorem txok_row {x : Row (List UInt8)} {w : World} (hx : x.ok w) : TxOk x.l := fun t ht => Nat.le_trans (hx.all t ht) (by omega)
theorem tputs_len (ts : List (List UInt8)) : ∀ was, (∀ t ∈ ts, t.length ≤ 16) → (tputs was ts).length ≤ 34 * ts.length := by
  induction ts with
  | nil => intro was h; simp [tputs]
  | cons t r ih =>
    intro was h
    have h1 := ih t (fun u hu => h u (List.mem_cons_of_mem _ hu))
    have h2 := h t (List.mem_cons_self ..)
    have h3 := nput_le9 (alike was t)
    have h4 := nput_le9 (t.drop (alike was t)).length
    rw [tputs]
    unfold ptext
    simp only [List.length_append, List.length_cons] at *
    have h5 : (t.drop (alike was t)).length ≤ 16 := by rw [List.length_drop]; omega
    omega
theorem tput_len {ts : List (List UInt8)} (h : rowErr ts = 0) : (tput ts).length ≤ 9 + 34 * ts.length := by
  unfold tput
  rw [List.length_append]
  have := nput_le9 ts.length
  have := tputs_len ts [] (fun t ht => rowErr_len h ht)
  omega

end Go.Proofs.Ytlclllkjnhgbjaa

namespace Go.Proofs.Ytlclllkjnhgbjaa
open Go.RowKit
set_option linter.unusedVariables false
set_option linter.unusedSimpArgs false

/-- The document's Want, whatever the scan. -/
def wantK (k : Int) (is : Bool) (n : Int) : Int := if k ≠ 0 then k else if is then 0 else wantErr n
theorem rwant_any (s : List UInt8) (t k n : Int) (is : Bool) (w : World) :
    Calls Try.prog 85 #[scn s t k, .bool is, .int .i64 n] w fun e w' => e = .returned (scn s t (wantK k is n)) ∧ Bel w w' := by
  by_cases hk : k = 0
  · subst hk
    cases is
    · exact rwant_no s t n w
    · exact rwant_yes s t n w
  · have : wantK k is n = k := by unfold wantK; rw [if_pos hk]
    rw [this]
    exact rwant_bad s t k n is hk w

def prErr {α : Type} (o : PR α) : Int := match o with | .error k => k | .ok _ => 0

/-- How the document's Read ends. -/
def RdPost (s : List UInt8) (o : PR (List (List UInt8))) (w : World) (e : Ending) (w' : World) : Prop :=
  Bel w w' ∧ ∃ (t : Int) (A : Option Addr) (c : Nat) (ds : List (List UInt8)), e = .returned (.tuple #[scn s t (prErr o), .slice A ds.length c]) ∧ w'.ownsRow w.heap.size 9 1 (.slice A ds.length c) ds.length (ds.map tx) ∧ ∀ ts l, o = .ok (ts, l) → ds = ts ∧ ∃ tn : Nat, t = tn ∧ tn ≤ s.length ∧ l = s.drop tn

/-- Where the document's Read stands. -/
def RdInv (s l0 : List UInt8) (most : Int) (n k : Nat) (ds : List (List UInt8)) (was : List UInt8) (t kk : Int) : Prop :=
  (kk = 0 ∧ was.length ≤ 16 ∧ ∃ tn : Nat, t = tn ∧ tn ≤ s.length ∧ k + (s.drop tn).length ≤ 1000001 ∧ tread most l0 = ahead ds (treads was (n - k) (s.drop tn))) ∨ (kk ≠ 0 ∧ tread most l0 = .error kk)
theorem RdInv.bad {s l0 : List UInt8} {most : Int} {n k : Nat} {ds : List (List UInt8)} {was : List UInt8} {t kk : Int} (h : RdInv s l0 most n k ds was t kk) (hk : kk ≠ 0) : tread most l0 = .error kk := by
  rcases h with ⟨h, _⟩ | ⟨_, h⟩
  · exact absurd h hk
  · exact h
theorem RdInv.good {s l0 : List UInt8} {most : Int} {n k : Nat} {ds : List (List UInt8)} {was : List UInt8} {t : Int} (h : RdInv s l0 most n k ds was t 0) : was.length ≤ 16 ∧ ∃ tn : Nat, t = tn ∧ tn ≤ s.length ∧ k + (s.drop tn).length ≤ 1000001 ∧ tread most l0 = ahead ds (treads was (n - k) (s.drop tn)) := by
  rcases h with ⟨_, h⟩ | ⟨h, _⟩
  · exact h
  · exact absurd rfl h

theorem rnum0_any (s : List UInt8) (t0 : Nat) (most : Int) (hs : s.length ≤ 1000001) (ht0 : t0 ≤ s.length) (h0 : -9223372036854775808 ≤ most) (h1 : most ≤ 9223372036854775807) (w : World) :
    Calls Try.prog 47 #[scn s t0 0, .int .i64 most] w fun e w' => ∃ (n : Nat) (t kk : Int), e = .returned (.tuple #[scn s t kk, .int .i64 n]) ∧ Bel w w' ∧ (n : Int) ≤ 9223372036854775807 ∧ Hid (RdInv s (s.drop t0) most n 0 [] [] t kk) := by
  have h := rnum_any s t0 most hs ht0 h0 h1 w
  refine h.mono ?_
  rintro e w' ⟨hb, hm⟩
  cases hp : pnum most (s.drop t0) with
  | error k =>
    rw [hp] at hm
    obtain ⟨t, rfl⟩ := hm
    have := pnum_err hp
    exact ⟨0, t, k, rfl, hb, by omega, .inr ⟨by omega, by unfold tread; rw [hp]⟩⟩
  | ok q =>
    obtain ⟨n, l⟩ := q
    rw [hp] at hm
    obtain ⟨t, ht, hl, rfl⟩ := hm
    subst hl
    have := pnum_ok hp
    refine ⟨n, t, 0, rfl, hb, by omega, .inl ⟨rfl, by simp, t, rfl, ht, by simp; omega, ?_⟩⟩
    rw [ahead_nil, Nat.sub_zero]
    unfold tread
    rw [hp]

/-- A round's number; and its text. -/
def NumR (s was : List UInt8) (t : Nat) (t' k' : Int) (m : Nat) : Prop :=
  (k' ≠ 0 ∧ m = 0 ∧ tround was (s.drop t) = .error k') ∨ (k' = 0 ∧ ∃ tn : Nat, t' = tn ∧ tn ≤ s.length ∧ t < tn ∧ pnum was.length (s.drop t) = .ok (m, s.drop tn))
theorem rnumR_any (s was : List UInt8) (t : Nat) (hs : s.length ≤ 1000001) (ht : t ≤ s.length) (hw : was.length ≤ 16) (w : World) :
    Calls Try.prog 47 #[scn s t 0, .int .i64 was.length] w fun e w' => ∃ (m : Nat) (t' k' : Int), e = .returned (.tuple #[scn s t' k', .int .i64 m]) ∧ Bel w w' ∧ (m : Int) ≤ was.length ∧ Hid (NumR s was t t' k' m) := by
  refine (rnum_any s t was.length hs ht (by omega) (by omega) w).mono ?_
  rintro e w' ⟨hb, hm⟩
  cases hp : pnum was.length (s.drop t) with
  | error k =>
    rw [hp] at hm
    obtain ⟨t', rfl⟩ := hm
    have := pnum_err hp
    exact ⟨0, t', k, rfl, hb, by omega, .inl ⟨by omega, rfl, by unfold tround; rw [hp]⟩⟩
  | ok q =>
    obtain ⟨n, l⟩ := q
    rw [hp] at hm
    obtain ⟨t', ht', hl, rfl⟩ := hm
    subst hl
    have h1 := pnum_ok hp
    have h2 := pnum_lt hp
    simp only [List.length_drop] at h2
    exact ⟨n, t', 0, rfl, hb, h1.2.1, .inr ⟨rfl, t', rfl, ht', by omega, hp⟩⟩
def TxtR (s was : List UInt8) (t : Nat) (m : Nat) (t' k' : Int) (x : List UInt8) : Prop :=
  (k' ≠ 0 ∧ tround was (s.drop t) = .error k') ∨ (k' = 0 ∧ ∃ tn : Nat, t' = tn ∧ tn ≤ s.length ∧ t < tn ∧ tround was (s.drop t) = if isTerm (was.take m ++ x) && (alike was (was.take m ++ x) == m) && Op.bytesLess was (was.take m ++ x) then .ok (was.take m ++ x, s.drop tn) else .error 3)
/-- A round of the document's Read. -/
theorem RdInv.step {s l0 : List UInt8} {most : Int} {n k : Nat} {ds : List (List UInt8)} {was : List UInt8} {t : Nat} {m : Nat} {t2 k2 : Int} {x : List UInt8} {B : Bool} (hk : k < n) (ht : t ≤ s.length) (hl : k + (s.drop t).length ≤ 1000001) (hE : tread most l0 = ahead ds (treads was (n - k) (s.drop t)))
    (hT : TxtR s was t m t2 k2 x) (hB : B = (isTerm (was.take m ++ x) && (alike was (was.take m ++ x) == m) && Op.bytesLess was (was.take m ++ x))) :
    RdInv s l0 most n (k + 1) (ds ++ [was.take m ++ x]) (was.take m ++ x) t2 (wantK k2 B 3) := by
  have hn : n - k = (n - (k + 1)) + 1 := by omega
  rw [hn] at hE
  rcases hT with ⟨h1, h2⟩ | ⟨rfl, tn, rfl, h1, h2, h3⟩
  · have : wantK k2 B 3 = k2 := by unfold wantK; rw [if_pos h1]
    rw [this]
    exact .inr ⟨h1, by rw [hE]; exact ahead_err h2⟩
  · rw [← hB] at h3
    cases B with
    | false => exact .inr ⟨by decide, by rw [hE]; exact ahead_err h3⟩
    | true =>
      refine .inl ⟨rfl, ?_, tn, rfl, h1, ?_, ?_⟩
      · have hz := hB.symm
        simp only [Bool.and_eq_true] at hz
        have := hz.1.1
        unfold isTerm at this
        simp at this
        simp
        omega
      · simp only [List.length_drop] at *
        omega
      · rw [hE]
        exact ahead_step h3

/-- Memory in the document's Read. -/
structure RdW (w : World) (s : List UInt8) (t kk : Int) (v : Value) (ds : List (List UInt8)) (wr : World) : Prop where
  bel : Bel w wr
  A : Blk wr w.heap.size 92 (scs s t kk)
  R : Blk wr (w.heap.size + 1) 92 (scs [] 0 0)
  own : wr.ownsRow (w.heap.size + 2) 9 1 v ds.length (ds.map tx)
section
variable {w w1 w2 : World} {s : List UInt8} {t kk : Int} {v : Value} {ds : List (List UInt8)}
theorem RdW.more (h : RdW w s t kk v ds w1) (hb : Bel w1 w2) : RdW w s t kk v ds w2 := ⟨h.bel.trans hb, h.A.bel hb, h.R.bel hb, own_bel h.own hb⟩
theorem RdW.setA {t' k' : Int} (h : RdW w s t kk v ds w1) (hg : w1.grownBy w2 (some w.heap.size)) (hA : Blk w2 w.heap.size 92 (scs s t' k')) : RdW w s t' k' v ds w2 :=
  ⟨h.bel.grownAt hg (Nat.le_refl _), hA, h.R.grown hg (by simp), h.own.kept hg (by
    rcases ho : v.ownBlock with _ | k
    · exact .inl rfl
    · refine .inr fun e => ?_
      injection e with e
      have := (h.own.lt k ho).1
      omega)⟩
theorem RdW.at5 {w5 : World} (h3 : RdW w s t kk v ds w1) (h : RdW w s t kk v ds w2) (hg : w2.grownBy w5 (some w1.heap.size)) : RdW w s t kk v ds w5 :=
  ⟨h.bel.grownAt hg h3.bel.size, h.A.grown hg (by have := h3.A.lt; simp; omega), h.R.grown hg (by have := h3.R.lt; simp; omega), h.own.kept hg (by
    rcases ho : v.ownBlock with _ | k
    · exact .inl rfl
    · refine .inr fun e => ?_
      injection e with e
      have := (h3.own.lt k ho).2
      omega)⟩
theorem RdW.app {v' : Value} {x : List UInt8} (h : RdW w s t kk v ds w1) (ho : w2.ownsRow (w.heap.size + 2) 9 1 v' (ds.length + 1) (ds.map tx ++ [tx x])) (hg : w1.grownBy w2 v.ownBlock) : RdW w s t kk v' (ds ++ [x]) w2 :=
  ⟨h.bel.grown hg (fun k e => by have := (h.own.lt k e).1; omega), h.A.grown hg (fun e => by have := (h.own.lt _ e.symm).1; omega), h.R.grown hg (fun e => by have := (h.own.lt _ e.symm).1; omega), by simpa using ho⟩
end

theorem own_apart {w : World} {base : Nat} {e : TypeId} {size n : Nat} {v : Value} {xs : List Value} (h : w.ownsRow base e size v n xs) {g : Nat} (hg : g < base) : v.ownBlock = none ∨ v.ownBlock ≠ some g := by
  rcases ho : v.ownBlock with _ | k
  · exact .inl rfl
  · refine .inr fun e => ?_
    injection e with e
    have := (h.lt k ho).1
    omega

end Go.Proofs.Ytlclllkjnhgbjaa

namespace Go.Proofs.Ytlclllkjnhgbjaa
open Go.RowKit
set_option linter.unusedVariables false
set_option linter.unusedSimpArgs false

/-- A scan stands where a reading came to. -/
def SRes {α : Type} (s : List UInt8) (o : PR α) (t k : Int) (x : α) : Prop :=
  (k ≠ 0 ∧ o = .error k) ∨ (k = 0 ∧ ∃ tn : Nat, t = tn ∧ tn ≤ s.length ∧ o = .ok (x, s.drop tn))
def pbind {α β : Type} (o : PR α) (f : α → List UInt8 → PR β) : PR β := match o with | .error e => .error e | .ok (x, r) => f x r
def pbind2 {α β : Type} (o : PR α) (f : α → β) : PR β := match o with | .error e => .error e | .ok (x, r) => .ok (f x, r)
theorem SRes.start (s : List UInt8) (tn : Nat) (h : tn ≤ s.length) : SRes s (.ok ((), s.drop tn)) tn 0 () := .inr ⟨rfl, tn, rfl, h, rfl⟩
theorem SRes.map {α β : Type} {s : List UInt8} {o : PR α} {t k : Int} {x : α} (h : SRes s o t k x) (f : α → β) : SRes s (pbind2 o f) t k (f x) := by
  rcases h with ⟨h1, h2⟩ | ⟨h1, tn, h3, h4, h2⟩
  · exact .inl ⟨h1, by rw [h2]; rfl⟩
  · exact .inr ⟨h1, tn, h3, h4, by rw [h2]; rfl⟩
theorem SPost.res {α : Type} {s : List UInt8} {o : PR α} {V : α → Value} {z : Value} {w w' : World} {e : Ending} (h : SPost s o V z w e w') (z0 : α) (hz : V z0 = z) (hk : ∀ k, o = .error k → k ≠ 0) :
    ∃ (t k : Int) (x : α), e = .returned (.tuple #[scn s t k, V x]) ∧ Bel w w' ∧ Hid (SRes s o t k x) := by
  obtain ⟨hb, hm⟩ := h
  cases o with
  | error k =>
    obtain ⟨t, rfl⟩ := hm
    exact ⟨t, k, z0, by rw [hz], hb, .inl ⟨hk k rfl, rfl⟩⟩
  | ok q =>
    obtain ⟨x, l⟩ := q
    obtain ⟨t, ht, hl, rfl⟩ := hm
    exact ⟨t, 0, x, rfl, hb, .inr ⟨rfl, t, rfl, ht, by rw [hl]⟩⟩
theorem ptxt_err {most k : Int} {l : List UInt8} (h : ptxt most l = .error k) : k = 3 ∨ k = 5 := by
  unfold ptxt at h
  split at h
  · rename_i h2
    injection h with h
    subst h
    exact pnum_err h2
  · exact .inl (pfix_err h).1

end Go.Proofs.Ytlclllkjnhgbjaa
