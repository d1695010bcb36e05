/- What a call owns, piece by piece, in one word: pieces that stand apart from each other; each step turns one, and keeps the others. -/
import Derived.Test.YtlclllkjnhgbjaaBb
import Derived.Test.YtlclllkjnhgbjaaBc
import Derived.Test.YtlclllkjnhgbjaaBd
import Derived.Maps.Own
namespace Go.Proofs.Ytlclllkjnhgbjaa
open Go.RowKit
set_option linter.unusedVariables false

/-- A piece of memory: where it lies, and what is said of it. -/
structure Res where
  D : Nat → Prop
  p : World → Prop
/-- It is so, and stays so as long as nothing turns there. -/
def Res.holds (r : Res) (w : World) : Prop := (∀ g, r.D g → g < w.heap.size) ∧ ∀ w', w.heap.size ≤ w'.heap.size → (∀ g, r.D g → w'.heap[g]? = w.heap[g]?) → r.p w'
theorem Res.holds.now {r : Res} {w : World} (h : r.holds w) : r.p w := h.2 w (Nat.le_refl _) (fun _ _ => rfl)
theorem Res.holds.keep {r : Res} {w w' : World} (h : r.holds w) (hs : w.heap.size ≤ w'.heap.size) (hk : ∀ g, r.D g → w'.heap[g]? = w.heap[g]?) : r.holds w' :=
  ⟨fun g hg => Nat.lt_of_lt_of_le (h.1 g hg) hs, fun w'' hs' hk' => h.2 w'' (Nat.le_trans hs hs') (fun g hg => (hk' g hg).trans (hk g hg))⟩
theorem Res.holds.bel {r : Res} {w w' : World} (h : r.holds w) (hb : Bel w w') : r.holds w' := h.keep hb.size fun g hg => hb.block g (h.1 g hg)
theorem Res.holds.imp {r : Res} {w : World} {q : World → Prop} (h : r.holds w) (hq : ∀ w', r.p w' → q w') : (Res.mk r.D q).holds w := ⟨h.1, fun w' hs hk => hq w' (h.2 w' hs hk)⟩

/-- All but S of what was there is as it was; there may be more. -/
structure Fr (S : Nat → Prop) (w w' : World) : Prop where
  os : w'.os = w.os
  tape : w'.tape = w.tape
  output : w'.output = w.output
  size : w.heap.size ≤ w'.heap.size
  block : ∀ g, g < w.heap.size → ¬ S g → w'.heap[g]? = w.heap[g]?
abbrev No : Nat → Prop := fun _ => False
abbrev One (b : Nat) : Nat → Prop := fun g => g = b
theorem Fr.refl (S : Nat → Prop) (w : World) : Fr S w w := ⟨rfl, rfl, rfl, Nat.le_refl _, fun _ _ _ => rfl⟩
theorem Fr.of_bel {S : Nat → Prop} {w w' : World} (h : Bel w w') : Fr S w w' := ⟨h.os, h.tape, h.output, h.size, fun g hg _ => h.block g hg⟩
theorem Fr.of_grown {w w' : World} {row : Option Nat} (h : w.grownBy w' row) : Fr (fun g => row = some g) w w' := ⟨h.os, h.tape, h.output, h.size, fun g hg hn => h.block g hg (fun e => hn e.symm)⟩
theorem Fr.bel {w w' : World} (h : Fr No w w') : Bel w w' := ⟨h.os, h.tape, h.output, h.size, fun g hg => h.block g hg (fun h => h)⟩
theorem Fr.grown {b : Nat} {w w' : World} (h : Fr (One b) w w') : w.grownBy w' (some b) := ⟨h.os, h.tape, h.output, h.size, fun g hg hn => h.block g hg (fun e => hn (by rw [e]))⟩
theorem Fr.trans {S T : Nat → Prop} {a b c : World} (h : Fr S a b) (k : Fr T b c) (hT : ∀ g, T g → S g ∨ a.heap.size ≤ g) : Fr S a c :=
  ⟨k.os.trans h.os, k.tape.trans h.tape, k.output.trans h.output, Nat.le_trans h.size k.size, fun g hg hn =>
    (k.block g (Nat.lt_of_lt_of_le hg h.size) (fun ht => by rcases hT g ht with h' | h'; exact hn h'; omega)).trans (h.block g hg hn)⟩

/-- The pieces that a call owns; but for S nothing older has turned. -/
structure SL (S : Nat → Prop) (w0 w : World) (l : List Res) : Prop where
  fr : Fr S w0 w
  all : ∀ (i : Nat) r, l[i]? = some r → r.holds w
  dis : ∀ (i j : Nat) r q, i ≠ j → l[i]? = some r → l[j]? = some q → ∀ g, r.D g → ¬ q.D g
  own : ∀ (i : Nat) r, l[i]? = some r → ∀ g, r.D g → w0.heap.size ≤ g ∨ S g

section
variable {S : Nat → Prop} {w0 w w' : World} {l : List Res}
theorem SL.start (S : Nat → Prop) (w : World) : SL S w w [] := ⟨Fr.refl _ _, by simp, by simp, by simp⟩
theorem SL.bel (h : SL S w0 w l) (hb : Bel w w') : SL S w0 w' l :=
  ⟨h.fr.trans (Fr.of_bel (S := No) hb) (fun _ h => h.elim), fun i r hi => (h.all i r hi).bel hb, h.dis, h.own⟩
theorem SL.drew (h : SL S w0 w l) : SL S w0 w.drew l := h.bel (Bel.refl w).drew
theorem SL.drewN (h : SL S w0 w l) (n : Nat) : SL S w0 (w.drewN n) l := h.bel ((Bel.refl w).drewN n)
theorem SL.to (h : SL No w0 w l) : Bel w0 w := h.fr.bel
theorem SL.size (h : SL S w0 w l) : w0.heap.size ≤ w.heap.size := h.fr.size
theorem SL.get (h : SL S w0 w l) (i : Nat) {r : Res} (hi : l[i]? = some r) : r.holds w := h.all i r hi
theorem SL.at_ (h : SL S w0 w l) (i : Nat) {r : Res} (hi : l[i]? = some r) : r.p w := (h.all i r hi).now

/-- A piece turned. -/
theorem SL.upd (h : SL S w0 w l) (i : Nat) {r : Res} (hi : l[i]? = some r) (hk : Fr r.D w w') (r' : Res) (hr : r'.holds w') (hd : ∀ g, r'.D g → r.D g ∨ w.heap.size ≤ g) : SL S w0 w' (l.set i r') := by
  have hil : i < l.length := (List.getElem?_eq_some_iff.1 hi).1
  have key : ∀ (j : Nat) q, (l.set i r')[j]? = some q → (j = i ∧ q = r') ∨ (j ≠ i ∧ l[j]? = some q) := by
    intro j q hq
    by_cases e : i = j
    · subst e
      rw [List.getElem?_set_self hil] at hq
      injection hq with hq
      exact .inl ⟨rfl, hq.symm⟩
    · rw [List.getElem?_set_ne e] at hq
      exact .inr ⟨fun h => e h.symm, hq⟩
  refine ⟨h.fr.trans hk (fun g hg => (h.own i r hi g hg).symm), fun j q hq => ?_, fun j k q q' hjk hq hq' g hg hg' => ?_, fun j q hq g hg => ?_⟩
  · rcases key j q hq with ⟨rfl, rfl⟩ | ⟨hne, hq⟩
    · exact hr
    · exact (h.all j q hq).keep hk.size fun g hg => hk.block g ((h.all j q hq).1 g hg) (h.dis j i q r hne hq hi g hg)
  · rcases key j q hq with ⟨rfl, rfl⟩ | ⟨hne, hq1⟩
    · rcases key k q' hq' with ⟨rfl, rfl⟩ | ⟨hne', hq2⟩
      · exact hjk rfl
      · rcases hd g hg with h1 | h1
        · exact h.dis j k r q' hjk hi hq2 g h1 hg'
        · have := (h.all k q' hq2).1 g hg'
          omega
    · rcases key k q' hq' with ⟨rfl, rfl⟩ | ⟨hne', hq2⟩
      · rcases hd g hg' with h1 | h1
        · exact h.dis j k q r hjk hq1 hi g hg h1
        · have := (h.all j q hq1).1 g hg
          omega
      · exact h.dis j k q q' hjk hq1 hq2 g hg hg'
  · rcases key j q hq with ⟨rfl, rfl⟩ | ⟨hne, hq⟩
    · rcases hd g hg with h1 | h1
      · exact h.own j r hi g h1
      · exact .inl (Nat.le_trans h.fr.size h1)
    · exact h.own j q hq g hg
/-- A piece said otherwise. -/
theorem SL.turn (h : SL S w0 w l) (i : Nat) {r : Res} (hi : l[i]? = some r) (r' : Res) (hr : r'.holds w) (hd : ∀ g, r'.D g → r.D g) : SL S w0 w (l.set i r') :=
  h.upd i hi (Fr.refl _ _) r' hr (fun g hg => .inl (hd g hg))
/-- A new piece. -/
theorem SL.ext (h : SL S w0 w l) (r : Res) (hr : r.holds w) (hn : ∀ (j : Nat) q, l[j]? = some q → ∀ g, q.D g → ¬ r.D g) (ho : ∀ g, r.D g → w0.heap.size ≤ g ∨ S g) : SL S w0 w (l ++ [r]) := by
  have key : ∀ (j : Nat) q, (l ++ [r])[j]? = some q → (l[j]? = some q ∧ j < l.length) ∨ (q = r ∧ j = l.length) := by
    intro j q hq
    rcases Nat.lt_or_ge j l.length with hj | hj
    · rw [List.getElem?_append_left hj] at hq
      exact .inl ⟨hq, hj⟩
    · have hb := (List.getElem?_eq_some_iff.1 hq).1
      simp at hb
      rw [List.getElem?_append_right hj, show j - l.length = 0 by omega] at hq
      injection hq with hq
      exact .inr ⟨hq.symm, by omega⟩
  refine ⟨h.fr, fun j q hq => ?_, fun j k q q' hjk hq hq' g hg hg' => ?_, fun j q hq g hg => ?_⟩
  · rcases key j q hq with ⟨hq, _⟩ | ⟨rfl, _⟩
    · exact h.all j q hq
    · exact hr
  · rcases key j q hq with ⟨hq1, _⟩ | ⟨rfl, hj⟩
    · rcases key k q' hq' with ⟨hq2, _⟩ | ⟨rfl, hk⟩
      · exact h.dis j k q q' hjk hq1 hq2 g hg hg'
      · exact hn j q hq1 g hg hg'
    · rcases key k q' hq' with ⟨hq2, _⟩ | ⟨rfl, hk⟩
      · exact hn k q' hq2 g hg' hg
      · omega
  · rcases key j q hq with ⟨hq, _⟩ | ⟨rfl, _⟩
    · exact h.own j q hq g hg
    · exact ho g hg
theorem SL.add (h : SL S w0 w l) (hb : Bel w w') (r : Res) (hr : r.holds w') (hn : ∀ g, r.D g → w.heap.size ≤ g) : SL S w0 w' (l ++ [r]) :=
  (h.bel hb).ext r hr (fun j q hq g hg hg' => by have := (h.all j q hq).1 g hg; have := hn g hg'; omega) (fun g hg => .inl (Nat.le_trans h.fr.size (hn g hg)))
/-- A piece turned, and a new one. -/
theorem SL.updAdd (h : SL S w0 w l) (i : Nat) {r : Res} (hi : l[i]? = some r) (hk : Fr r.D w w') (r' : Res) (hr : r'.holds w') (hd : ∀ g, r'.D g → r.D g) (q : Res) (hq : q.holds w') (hn : ∀ g, q.D g → w.heap.size ≤ g) : SL S w0 w' (l.set i r' ++ [q]) := by
  have hil : i < l.length := (List.getElem?_eq_some_iff.1 hi).1
  refine (h.upd i hi hk r' hr (fun g hg => .inl (hd g hg))).ext q hq (fun j z hz g hg hg' => ?_) (fun g hg => .inl (Nat.le_trans h.fr.size (hn g hg)))
  have h1 := hn g hg'
  by_cases e : i = j
  · subst e
    rw [List.getElem?_set_self hil] at hz
    injection hz with hz
    subst hz
    have := (h.all i r hi).1 g (hd g hg)
    omega
  · rw [List.getElem?_set_ne e] at hz
    have := (h.all j z hz).1 g hg
    omega
/-- A piece let go. -/
theorem SL.less (h : SL S w0 w l) (i : Nat) : SL S w0 w (l.eraseIdx i) := by
  have key : ∀ (j : Nat), (l.eraseIdx i)[j]? = l[if j < i then j else j + 1]? := by
    intro j
    rw [List.getElem?_eraseIdx]
    split <;> rfl
  refine ⟨h.fr, fun j q hq => ?_, fun j k q q' hjk hq hq' => ?_, fun j q hq => ?_⟩
  · rw [key] at hq; exact h.all _ _ hq
  · rw [key] at hq hq'
    refine h.dis _ _ q q' ?_ hq hq'
    split <;> split <;> omega
  · rw [key] at hq; exact h.own _ _ hq
/-- Two pieces as one. -/
theorem SL.both (h : SL S w0 w l) (i j : Nat) {r q : Res} (hij : i ≠ j) (hi : l[i]? = some r) (hj : l[j]? = some q) (r' : Res) (hr : r'.holds w) (hd : ∀ g, r'.D g → r.D g ∨ q.D g) : SL S w0 w ((l.set i r').eraseIdx j) := by
  have hil : i < l.length := (List.getElem?_eq_some_iff.1 hi).1
  have ln : ∀ m : Nat, ((l.set i r').eraseIdx j)[m]? = (l.set i r')[if m < j then m else m + 1]? := by
    intro m
    rw [List.getElem?_eraseIdx]
    split <;> rfl
  have key : ∀ (m : Nat) z, ((l.set i r').eraseIdx j)[m]? = some z → ∃ m', m' = (if m < j then m else m + 1) ∧ m' ≠ j ∧ ((m' = i ∧ z = r') ∨ (m' ≠ i ∧ l[m']? = some z)) := by
    intro m z hz
    rw [ln] at hz
    refine ⟨_, rfl, by split <;> omega, ?_⟩
    generalize (if m < j then m else m + 1) = m' at *
    by_cases e : i = m'
    · subst e
      rw [List.getElem?_set_self hil] at hz
      injection hz with hz
      exact .inl ⟨rfl, hz.symm⟩
    · rw [List.getElem?_set_ne e] at hz
      exact .inr ⟨fun h => e h.symm, hz⟩
  refine ⟨h.fr, fun m z hz => ?_, fun m n z z' hmn hz hz' g hg hg' => ?_, fun m z hz g hg => ?_⟩
  · obtain ⟨m', _, _, ⟨_, rfl⟩ | ⟨_, hz⟩⟩ := key m z hz
    · exact hr
    · exact h.all _ _ hz
  · obtain ⟨m', em, mj, hm⟩ := key m z hz
    obtain ⟨n', en, nj, hn⟩ := key n z' hz'
    have hne : m' ≠ n' := by rw [em, en]; split <;> split <;> omega
    rcases hm with ⟨rfl, rfl⟩ | ⟨mi, hm⟩
    · rcases hn with ⟨rfl, rfl⟩ | ⟨ni, hn⟩
      · exact hne rfl
      · rcases hd g hg with h1 | h1
        · exact h.dis _ _ _ _ hne hi hn g h1 hg'
        · exact h.dis _ _ _ _ (Ne.symm nj) hj hn g h1 hg'
    · rcases hn with ⟨rfl, rfl⟩ | ⟨ni, hn⟩
      · rcases hd g hg' with h1 | h1
        · exact h.dis _ _ _ _ hne hm hi g hg h1
        · exact h.dis _ _ _ _ mj hm hj g hg h1
      · exact h.dis _ _ _ _ hne hm hn g hg hg'
  · obtain ⟨m', _, _, ⟨_, rfl⟩ | ⟨_, hz⟩⟩ := key m z hz
    · rcases hd g hg with h1 | h1
      · exact h.own _ _ hi g h1
      · exact h.own _ _ hj g h1
    · exact h.own _ _ hz g hg
end

/-- A block known whole. -/
abbrev rBlk (g : Nat) (t : TypeId) (cs : Array Value) : Res := ⟨One g, fun w => Blk w g t cs⟩
/-- A row of the call's own. -/
abbrev rRow (e : TypeId) (size : Nat) (v : Value) (n : Nat) (xs : List Value) : Res := ⟨fun g => v.ownBlock = some g, fun w => w.ownsRow 0 e size v n xs⟩
/-- A reader. -/
abbrev rRdr (b : Nat) (s l : List UInt8) : Res := ⟨One b, fun w => Rdr w b s l⟩
/-- A map of the call's own. -/
abbrev rMap (P : Program) (k : TypeId) (R : Value → Option (DataW Unit × List MemPlace)) (b n : Nat) (D : DataW Unit) : Res := ⟨One b, fun w => w.ownsMap P k R b n D⟩
theorem holds_blk {w : World} {g : Nat} {t : TypeId} {cs : Array Value} (h : Blk w g t cs) : (rBlk g t cs).holds w := ⟨fun _ e => e ▸ h.lt, fun w' _ hk => (hk g rfl).trans h⟩
theorem own_base {w : World} {base : Nat} {e : TypeId} {size n : Nat} {v : Value} {xs : List Value} (h : w.ownsRow 0 e size v n xs) (hb : ∀ g, v.ownBlock = some g → base ≤ g) : w.ownsRow base e size v n xs := by
  refine ⟨h.1, ?_⟩
  rcases h.2 with h0 | ⟨g, cap, cur, rfl, _, h3⟩
  · exact .inl h0
  · exact .inr ⟨g, cap, cur, rfl, hb g rfl, h3⟩
theorem holds_row {w : World} {base : Nat} {e : TypeId} {size n : Nat} {v : Value} {xs : List Value} (h : w.ownsRow base e size v n xs) : (rRow e size v n xs).holds w := by
  refine ⟨fun g hg => own_lt h hg, fun w' _ hk => ⟨h.1, ?_⟩⟩
  rcases h.2 with h0 | ⟨g, cap, cur, rfl, _, hh, h3⟩
  · exact .inl h0
  · exact .inr ⟨g, cap, cur, rfl, Nat.zero_le _, (hk g rfl).trans hh, h3⟩
theorem holds_rdr {w : World} {b : Nat} {s l : List UInt8} (h : Rdr w b s l) : (rRdr b s l).holds w := by
  refine ⟨fun _ e => e ▸ h.lt, fun w' _ hk => ?_⟩
  obtain ⟨h0, t, h1, h2, h3⟩ := h
  exact ⟨h0, t, h1, h2, (hk b rfl).trans h3⟩
theorem holds_map {P : Program} {k : TypeId} {R : Value → Option (DataW Unit × List MemPlace)} {b n : Nat} {D : DataW Unit} {w : World} (h : w.ownsMap P k R b n D) : (rMap P k R b n D).holds w := by
  refine ⟨fun _ e => e ▸ h.lt, fun w' _ hk => ?_⟩
  obtain ⟨es, clock, h1, h2⟩ := h
  exact ⟨es, clock, (hk b rfl).trans h1, h2⟩

section
variable {S : Nat → Prop} {w0 w w' : World} {l : List Res}
theorem SL.blk (h : SL S w0 w l) (i : Nat) {g : Nat} {t : TypeId} {cs : Array Value} (hi : l[i]? = some (rBlk g t cs)) : Blk w g t cs := h.at_ i hi
theorem SL.ne (h : SL S w0 w l) (i j : Nat) (hij : i ≠ j) {g g' : Nat} {t t' : TypeId} {cs cs' : Array Value} (hi : l[i]? = some (rBlk g t cs)) (hj : l[j]? = some (rBlk g' t' cs')) : g ≠ g' := fun e => h.dis i j _ _ hij hi hj g rfl e
theorem SL.row (h : SL S w0 w l) (i : Nat) {e : TypeId} {size n : Nat} {v : Value} {xs : List Value} (hi : l[i]? = some (rRow e size v n xs)) : w.ownsRow 0 e size v n xs := h.at_ i hi
theorem SL.rowB (h : SL No w0 w l) (i : Nat) {e : TypeId} {size n : Nat} {v : Value} {xs : List Value} (hi : l[i]? = some (rRow e size v n xs)) : w.ownsRow w0.heap.size e size v n xs :=
  own_base (h.row i hi) fun g hg => (h.own i _ hi g hg).elim (fun h => h) (fun h => h.elim)
theorem SL.rdr (h : SL S w0 w l) (i : Nat) {b : Nat} {s k : List UInt8} (hi : l[i]? = some (rRdr b s k)) : Rdr w b s k := h.at_ i hi
theorem SL.map (h : SL S w0 w l) (i : Nat) {P : Program} {k : TypeId} {R : Value → Option (DataW Unit × List MemPlace)} {b n : Nat} {D : DataW Unit} (hi : l[i]? = some (rMap P k R b n D)) : w.ownsMap P k R b n D := h.at_ i hi
theorem SL.alloc (h : SL S w0 w l) (cs : Array Value) (t : TypeId) : SL S w0 (w.alloc (.cells cs t)) (l ++ [rBlk w.heap.size t cs]) :=
  h.add ((Bel.refl w).alloc _) _ (holds_blk (Blk.new w t cs)) (fun g hg => by cases hg; exact Nat.le_refl _)
theorem SL.setBlk (h : SL S w0 w l) (i : Nat) {g : Nat} {t : TypeId} {cs cs' : Array Value} (hi : l[i]? = some (rBlk g t cs)) (hg : w.grownBy w' (some g)) (hb : Blk w' g t cs') : SL S w0 w' (l.set i (rBlk g t cs')) :=
  h.upd i hi ⟨hg.os, hg.tape, hg.output, hg.size, fun k hk hn => hg.block k hk (fun e => hn (by injection e))⟩ _ (holds_blk hb) (fun k hk => .inl hk)
theorem SL.setCell (h : SL S w0 w l) (i : Nat) {g : Nat} {t : TypeId} {cs : Array Value} (hi : l[i]? = some (rBlk g t cs)) (o : Nat) (x : Value) : SL S w0 (w.setCell ⟨g, o, none⟩ x) (l.set i (rBlk g t (cs.setIfInBounds o x))) :=
  h.setBlk i hi (grownBy_setCell w g o x) ((h.blk i hi).set_ o x)
theorem SL.setRow (h : SL S w0 w l) (i : Nat) {e e' : TypeId} {size size' n n' : Nat} {v v' : Value} {xs xs' : List Value} {base : Nat} (hi : l[i]? = some (rRow e size v n xs)) (hg : w.grownBy w' v.ownBlock) (ho : w'.ownsRow base e' size' v' n' xs') (hv : v'.ownBlock = v.ownBlock ∨ v'.ownBlock = some w.heap.size) : SL S w0 w' (l.set i (rRow e' size' v' n' xs')) := by
  refine h.upd i hi (Fr.of_grown hg) _ (holds_row ho) (fun g (hg : v'.ownBlock = some g) => ?_)
  rcases hv with hv | hv
  · exact .inl (show v.ownBlock = some g by rw [← hv]; exact hg)
  · rw [hv] at hg
    injection hg with hg
    exact .inr (by omega)
theorem SL.setRdr (h : SL S w0 w l) (i : Nat) {b : Nat} {s k k' : List UInt8} (hi : l[i]? = some (rRdr b s k)) (hg : w.grownBy w' (some b)) (hr : Rdr w' b s k') : SL S w0 w' (l.set i (rRdr b s k')) :=
  h.upd i hi ⟨hg.os, hg.tape, hg.output, hg.size, fun k hk hn => hg.block k hk (fun e => hn (by injection e))⟩ _ (holds_rdr hr) (fun k hk => .inl hk)
theorem SL.setRdrAdd (h : SL S w0 w l) (i : Nat) {b : Nat} {s k k' : List UInt8} (hi : l[i]? = some (rRdr b s k)) (hg : w.grownBy w' (some b)) (hr : Rdr w' b s k') (q : Res) (hq : q.holds w') (hn : ∀ g, q.D g → w.heap.size ≤ g) : SL S w0 w' (l.set i (rRdr b s k') ++ [q]) :=
  h.updAdd i hi ⟨hg.os, hg.tape, hg.output, hg.size, fun k hk hn => hg.block k hk (fun e => hn (by injection e))⟩ _ (holds_rdr hr) (fun k hk => hk) q hq hn
/-- A row without memory. -/
theorem SL.addNil (h : SL S w0 w l) (e : TypeId) (size : Nat) : SL S w0 w (l ++ [rRow e size (.slice none 0 0) 0 []]) :=
  h.add (Bel.refl w) _ (holds_row (World.ownsRow_nil w 0 e size)) (fun g (hg : Value.ownBlock (.slice none 0 0) = some g) => by simp [Value.ownBlock] at hg)
theorem SL.addRow (h : SL S w0 w l) (hb : Bel w w') {e : TypeId} {size n : Nat} {v : Value} {xs : List Value} (ho : w'.ownsRow w.heap.size e size v n xs) : SL S w0 w' (l ++ [rRow e size v n xs]) :=
  h.add hb _ (holds_row ho) (fun g hg => own_ge ho hg)
theorem SL.new (h : SL No w0 w l) (i : Nat) {r : Res} (hi : l[i]? = some r) : ∀ g, r.D g → w0.heap.size ≤ g := fun g hg => (h.own i r hi g hg).elim (fun h => h) (fun h => h.elim)
theorem SL.new1 {b : Nat} (h : SL (One b) w0 w l) (i j : Nat) {r q : Res} (hij : i ≠ j) (hi : l[i]? = some r) (hj : l[j]? = some q) (hq : q.D b) : ∀ g, r.D g → w0.heap.size ≤ g := fun g hg => (h.own i r hi g hg).elim (fun h => h) (fun e => by
  cases e
  exact absurd hq (h.dis i j r q hij hi hj _ hg))
theorem SL.rdr1 {b : Nat} {s k : List UInt8} (w : World) (h : Rdr w b s k) : SL (One b) w w [rRdr b s k] := by
  refine ⟨Fr.refl _ _, fun i r hi => ?_, fun i j r q hij hi hj => ?_, fun i r hi g hg => ?_⟩
  · match i, hi with
    | 0, hi => injection hi with hi; subst hi; exact holds_rdr h
  · match i, j, hi, hj with
    | 0, 0, _, _ => exact absurd rfl hij
  · match i, hi with
    | 0, hi => injection hi with hi; subst hi; exact .inr hg
/-- A reading of a whole begins: its three blocks stand ahead. -/
abbrev rAll (B : Nat) (s k : List UInt8) (l : List Res) : List Res := rRdr (B + 1) s k :: rBlk B 39 #[.int .i64 0] :: rBlk (B + 2) 88 #[.pointer (some ⟨B + 1, 0, none⟩)] :: l
theorem SL.begin {s k : List UInt8} (h : SL S w0 w l) (h1 : Bel w w') (h2 : Rdr w' (w.heap.size + 1) s k) (h3 : Blk w' w.heap.size 39 #[.int .i64 0]) (h4 : Blk w' (w.heap.size + 2) 88 #[.pointer (some ⟨w.heap.size + 1, 0, none⟩)]) : SL S w0 w' (rAll w.heap.size s k l) := by
  have hb := h.bel h1
  have hsz := h.fr.size
  have hlt : ∀ (i : Nat) r, l[i]? = some r → ∀ g, r.D g → g < w.heap.size := fun i r hi g hg => (h.all i r hi).1 g hg
  have hD0 : ∀ g, (rRdr (w.heap.size + 1) s k).D g → g = w.heap.size + 1 := fun g hg => hg
  have hD1 : ∀ g, (rBlk w.heap.size 39 #[.int .i64 0]).D g → g = w.heap.size := fun g hg => hg
  have hD2 : ∀ g, (rBlk (w.heap.size + 2) 88 #[.pointer (some ⟨w.heap.size + 1, 0, none⟩)]).D g → g = w.heap.size + 2 := fun g hg => hg
  have key : ∀ (i : Nat) r, (rAll w.heap.size s k l)[i]? = some r → (i = 0 ∧ r = rRdr (w.heap.size + 1) s k) ∨ (i = 1 ∧ r = rBlk w.heap.size 39 #[.int .i64 0]) ∨ (i = 2 ∧ r = rBlk (w.heap.size + 2) 88 #[.pointer (some ⟨w.heap.size + 1, 0, none⟩)]) ∨ (3 ≤ i ∧ l[i - 3]? = some r) := by
    intro i r hi
    match i, hi with
    | 0, hi => injection hi with hi; exact .inl ⟨rfl, hi.symm⟩
    | 1, hi => injection hi with hi; exact .inr (.inl ⟨rfl, hi.symm⟩)
    | 2, hi => injection hi with hi; exact .inr (.inr (.inl ⟨rfl, hi.symm⟩))
    | n + 3, hi => exact .inr (.inr (.inr ⟨by omega, by simpa [rAll] using hi⟩))
  refine ⟨hb.fr, fun i r hi => ?_, fun i j r q hij hi hj g hg hg' => ?_, fun i r hi g hg => ?_⟩
  · rcases key i r hi with ⟨_, rfl⟩ | ⟨_, rfl⟩ | ⟨_, rfl⟩ | ⟨_, hi⟩
    · exact holds_rdr h2
    · exact holds_blk h3
    · exact holds_blk h4
    · exact hb.all _ _ hi
  · rcases key i r hi with ⟨ei, rfl⟩ | ⟨ei, rfl⟩ | ⟨ei, rfl⟩ | ⟨ei, hi⟩ <;> rcases key j q hj with ⟨ej, rfl⟩ | ⟨ej, rfl⟩ | ⟨ej, rfl⟩ | ⟨ej, hj⟩ <;>
      first
        | exact hij (ei.trans ej.symm)
        | exact absurd ((hD0 g hg).symm.trans (hD1 g hg')) (by omega)
        | exact absurd ((hD0 g hg).symm.trans (hD2 g hg')) (by omega)
        | exact absurd ((hD1 g hg).symm.trans (hD0 g hg')) (by omega)
        | exact absurd ((hD1 g hg).symm.trans (hD2 g hg')) (by omega)
        | exact absurd ((hD2 g hg).symm.trans (hD0 g hg')) (by omega)
        | exact absurd ((hD2 g hg).symm.trans (hD1 g hg')) (by omega)
        | (have a := hlt _ _ hi g hg; have b := hD0 g hg'; omega)
        | (have a := hlt _ _ hi g hg; have b := hD1 g hg'; omega)
        | (have a := hlt _ _ hi g hg; have b := hD2 g hg'; omega)
        | (have a := hlt _ _ hj g hg'; have b := hD0 g hg; omega)
        | (have a := hlt _ _ hj g hg'; have b := hD1 g hg; omega)
        | (have a := hlt _ _ hj g hg'; have b := hD2 g hg; omega)
        | exact h.dis (i - 3) (j - 3) r q (by omega) hi hj g hg hg'
  · rcases key i r hi with ⟨_, rfl⟩ | ⟨_, rfl⟩ | ⟨_, rfl⟩ | ⟨_, hi⟩
    · have := hD0 g hg; exact .inl (by omega)
    · have := hD1 g hg; exact .inl (by omega)
    · have := hD2 g hg; exact .inl (by omega)
    · exact h.own _ _ hi g hg
theorem SL.ok {B : Nat} {s k : List UInt8} {R : Int → World → Prop} (h : SL S w0 w (rAll B s k l)) (hR : R (if k = [] then 0 else 3) w) : AllPost B s R (.returned (.tuple #[])) w :=
  ⟨h.blk 1 rfl, h.blk 2 rfl, .inr ⟨k, rfl, h.rdr 0 rfl, hR⟩⟩
theorem SL.err {B : Nat} {s k : List UInt8} {R : Int → World → Prop} {e : Int} (h : SL S w0 w (rAll B s k l)) (hR : R e w) : AllPost B s R (.panicked (flt e)) w :=
  ⟨h.blk 1 rfl, h.blk 2 rfl, .inl ⟨e, rfl, ⟨k, h.rdr 0 rfl⟩, hR⟩⟩
theorem SL.ended {B : Nat} {s k : List UInt8} (h : SL S w0 w (rAll B s k l)) (hb : But2 B w w') : SL S w0 w' l := by
  have h0 : ∀ (i : Nat) r, l[i]? = some r → (rAll B s k l)[i + 3]? = some r := fun i r hi => by simpa [rAll] using hi
  have n0 : ∀ (i : Nat) r, l[i]? = some r → ∀ g, r.D g → g ≠ B ∧ g ≠ B + 1 := fun i r hi g hg =>
    ⟨fun e => h.dis (i + 3) 1 r _ (by omega) (h0 i r hi) rfl g hg e, fun e => h.dis (i + 3) 0 r _ (by omega) (h0 i r hi) rfl g hg e⟩
  have o0 : w0.heap.size ≤ B ∨ S B := h.own 1 _ rfl B rfl
  have o1 : w0.heap.size ≤ B + 1 ∨ S (B + 1) := h.own 0 _ rfl (B + 1) rfl
  refine ⟨⟨hb.os.trans h.fr.os, hb.tape.trans h.fr.tape, hb.output.trans h.fr.output, Nat.le_trans h.fr.size hb.size, fun g hg hn => ?_⟩, fun i r hi => ?_, fun i j r q hij hi hj => h.dis (i + 3) (j + 3) r q (by omega) (h0 i r hi) (h0 j q hj), fun i r hi => h.own (i + 3) r (h0 i r hi)⟩
  · refine (hb.block g (Nat.lt_of_lt_of_le hg h.fr.size) ?_ ?_).trans (h.fr.block g hg hn)
    · rintro rfl
      rcases o0 with o | o
      · omega
      · exact hn o
    · rintro rfl
      rcases o1 with o | o
      · omega
      · exact hn o
  · have := h.all (i + 3) r (h0 i r hi)
    exact this.keep hb.size fun g hg => hb.block g (this.1 g hg) (n0 i r hi g hg).1 (n0 i r hi g hg).2
/-- Pieces in another order; some let go. -/
theorem SL.pick (h : SL S w0 w l) (l' : List Res) (f : Nat → Nat) (hf : ∀ (i : Nat) r, l'[i]? = some r → l[f i]? = some r) (hi : ∀ i j, i < l'.length → j < l'.length → f i = f j → i = j) : SL S w0 w l' :=
  ⟨h.fr, fun i r hr => h.all _ _ (hf i r hr), fun i j r q hij hr hq => h.dis _ _ r q (fun e => hij (hi i j (List.getElem?_eq_some_iff.1 hr).1 (List.getElem?_eq_some_iff.1 hq).1 e)) (hf i r hr) (hf j q hq), fun i r hr => h.own _ _ (hf i r hr)⟩
def selR (l : List Res) : List Nat → List Res
  | [] => []
  | i :: is => l.getD i ⟨fun _ => False, fun _ => True⟩ :: selR l is
theorem selR_len (l : List Res) (is : List Nat) : (selR l is).length = is.length := by induction is with | nil => rfl | cons i is ih => simp [selR, ih]
theorem selR_get (l : List Res) : ∀ (is : List Nat) (k : Nat), (∀ i ∈ is, i < l.length) → (selR l is)[k]? = (is[k]?).bind (fun i => l[i]?)
  | [], k, _ => by simp [selR]
  | i :: is, 0, h => by
    have := h i (List.mem_cons_self ..)
    simp [selR, List.getD_eq_getElem?_getD, List.getElem?_eq_getElem this]
  | i :: is, k + 1, h => by
    rw [selR, List.getElem?_cons_succ, List.getElem?_cons_succ]
    exact selR_get l is k fun j hj => h j (List.mem_cons_of_mem _ hj)
theorem SL.sel (h : SL S w0 w l) (is : List Nat) (hn : is.Nodup) (hl : ∀ i ∈ is, i < l.length) : SL S w0 w (selR l is) := by
  refine h.pick _ (fun i => is.getD i 0) (fun i r hi => ?_) (fun i j hi hj e => ?_)
  · rw [selR_get l is i hl] at hi
    cases hx : is[i]? with
    | none => rw [hx] at hi; cases hi
    | some x =>
      rw [hx] at hi
      show l[is.getD i 0]? = _
      rw [List.getD_eq_getElem?_getD, hx]
      exact hi
  · rw [selR_len] at hi hj
    simp only [List.getD_eq_getElem?_getD, List.getElem?_eq_getElem hi, List.getElem?_eq_getElem hj, Option.getD_some] at e
    have hp := List.pairwise_iff_getElem.1 hn
    rcases Nat.lt_trichotomy i j with h1 | h1 | h1
    · exact absurd e (hp i j hi hj h1)
    · exact h1
    · exact absurd e.symm (hp j i hj hi h1)
/-- Two blocks stored into, by a drawn region. -/
theorem SL.butD (h : SL S w0 w l) (i j : Nat) (hij : i ≠ j) {d0 d1 : Nat} {t0 t1 : TypeId} {c0 c1 e0 e1 : Array Value} (hi : l[i]? = some (rBlk d0 t0 c0)) (hj : l[j]? = some (rBlk d1 t1 c1)) (hb : ButD d0 d1 w w') (b0 : Blk w' d0 t0 e0) (b1 : Blk w' d1 t1 e1) : SL S w0 w' ((l.set i (rBlk d0 t0 e0)).set j (rBlk d1 t1 e1)) := by
  have hil : i < l.length := (List.getElem?_eq_some_iff.1 hi).1
  have hjl : j < l.length := (List.getElem?_eq_some_iff.1 hj).1
  have key : ∀ (m : Nat) z, ((l.set i (rBlk d0 t0 e0)).set j (rBlk d1 t1 e1))[m]? = some z → z.holds w' ∧ ∃ q, l[m]? = some q ∧ ∀ g, z.D g → q.D g := by
    intro m z hz
    by_cases ej : j = m
    · subst ej
      rw [List.getElem?_set_self (by simpa using hjl)] at hz
      injection hz with hz
      subst hz
      exact ⟨holds_blk b1, _, hj, fun g hg => hg⟩
    · rw [List.getElem?_set_ne ej] at hz
      by_cases ei : i = m
      · subst ei
        rw [List.getElem?_set_self hil] at hz
        injection hz with hz
        subst hz
        exact ⟨holds_blk b0, _, hi, fun g hg => hg⟩
      · rw [List.getElem?_set_ne ei] at hz
        exact ⟨(h.all m z hz).keep hb.size fun g hg => hb.block g ((h.all m z hz).1 g hg) (fun e => h.dis m i z _ (fun e => ei e.symm) hz hi g hg e) (fun e => h.dis m j z _ (fun e => ej e.symm) hz hj g hg e), z, hz, fun g hg => hg⟩
  refine ⟨⟨hb.os.trans h.fr.os, hb.tape.trans h.fr.tape, hb.output.trans h.fr.output, Nat.le_trans h.fr.size hb.size, fun g hg hn => ?_⟩, fun m z hz => (key m z hz).1, fun m n z z' hmn hz hz' g hg hg' => ?_, fun m z hz g hg => ?_⟩
  · refine (hb.block g (Nat.lt_of_lt_of_le hg h.fr.size) ?_ ?_).trans (h.fr.block g hg hn)
    · rintro rfl
      exact (h.own i _ hi g rfl).elim (fun o => by omega) hn
    · rintro rfl
      exact (h.own j _ hj g rfl).elim (fun o => by omega) hn
  · obtain ⟨q, hq, hd⟩ := (key m z hz).2
    obtain ⟨q', hq', hd'⟩ := (key n z' hz').2
    exact h.dis m n q q' hmn hq hq' g (hd g hg) (hd' g hg')
  · obtain ⟨q, hq, hd⟩ := (key m z hz).2
    exact h.own m q hq g (hd g hg)
end

end Go.Proofs.Ytlclllkjnhgbjaa
