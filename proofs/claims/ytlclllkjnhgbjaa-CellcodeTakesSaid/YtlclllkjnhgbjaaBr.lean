/- Texts laid together: XSchP XSchW XSchX XSchR XSchT XSchA XSchZ XSchY XSchemaChecksW XSchS. -/
import Derived.Test.YtlclllkjnhgbjaaBq
import Derived.Test.YtlclllkjnhgbjaaBd
import Derived.Test.YtlclllkjnhgbjaaBf

namespace Go.Proofs.Ytlclllkjnhgbjaa
open Go.RowKit
set_option linter.unusedVariables false
set_option linter.unusedSimpArgs false

/-- So many things more, one behind the other. -/
def pmany {α : Type} (p : List UInt8 → PR α) : Nat → List α → List UInt8 → PR (List α)
  | 0, acc, l => .ok (acc, l)
  | n + 1, acc, l =>
    match p l with
    | .error k => .error k
    | .ok (x, r) => pmany p n (acc ++ [x]) r
theorem pmany_put {α : Type} {p : List UInt8 → PR α} {put : α → List UInt8} {xs : List α} : ∀ {acc : List α} (r : List UInt8), (∀ x ∈ xs, ∀ r, p (put x ++ r) = .ok (x, r)) → pmany p xs.length acc (xs.flatMap put ++ r) = .ok (acc ++ xs, r) := by
  induction xs with
  | nil => intro acc r _; simp [pmany]
  | cons x xs ih =>
    intro acc r h
    rw [List.length_cons, pmany, List.flatMap_cons, List.append_assoc, h x (List.mem_cons_self ..)]
    simp only
    rw [ih r fun y hy => h y (List.mem_cons_of_mem _ hy)]
    simp
theorem pmany_back {α : Type} {p : List UInt8 → PR α} {put : α → List UInt8} {n : Nat} : ∀ {acc xs : List α} {l r : List UInt8}, (∀ l x r, p l = .ok (x, r) → l = put x ++ r) → pmany p n acc l = .ok (xs, r) → ∃ ms : List α, xs = acc ++ ms ∧ ms.length = n ∧ l = ms.flatMap put ++ r := by
  induction n with
  | zero =>
    intro acc xs l r _ h
    injection h with h
    injection h with h1 h2
    subst h1 h2
    exact ⟨[], by simp, rfl, rfl⟩
  | succ n ih =>
    intro acc xs l r hp h
    rw [pmany] at h
    split at h
    · cases h
    · rename_i x r1 h1
      obtain ⟨ms, e1, e2, e3⟩ := ih hp h
      exact ⟨x :: ms, by rw [e1]; simp, by simp [e2], by rw [hp _ _ _ h1, e3]; simp⟩
theorem pmany_err {α : Type} {p : List UInt8 → PR α} {n : Nat} {k : Int} : ∀ {acc : List α} {l : List UInt8}, (∀ l k, p l = .error k → k ≠ 0) → pmany p n acc l = .error k → k ≠ 0 := by
  induction n with
  | zero => intro acc l _ h; cases h
  | succ n ih =>
    intro acc l hp h
    rw [pmany] at h
    split at h
    · rename_i h1; injection h with h; subst h; exact hp _ _ h1
    · exact ih hp h
theorem pmany_step {α : Type} {p : List UInt8 → PR α} {n k : Nat} {acc : List α} {l : List UInt8} (hk : k < n) : pmany p (n - k) acc l = match p l with | .error e => .error e | .ok (x, r) => pmany p (n - (k + 1)) (acc ++ [x]) r := by
  rw [show n - k = (n - (k + 1)) + 1 by omega, pmany]

/-- What a schema says. -/
structure SC where
  dims : List DC
  ms : List (List UInt8)
deriving DecidableEq
def dimsFrom : List (List UInt8) → List DC → Int
  | _, [] => 0
  | seen, d :: r => if dimErr d ≠ 0 then dimErr d else if d.nm ∈ seen then 11 else dimsFrom (seen ++ [d.nm]) r
def measFrom : List (List UInt8) → List (List UInt8) → Int
  | _, [] => 0
  | seen, m :: r => if isName m = true then (if m ∈ seen then 11 else measFrom (seen ++ [m]) r) else 2
def measErr (l : List (List UInt8)) : Int := if l.length < 1 ∨ 3 < l.length then 5 else measFrom [] l
def schErr (s : SC) : Int := if s.dims.length < 1 ∨ 16 < s.dims.length then 5 else if dimsFrom [] s.dims ≠ 0 then dimsFrom [] s.dims else measErr s.ms
def schPut (s : SC) : List UInt8 := nput s.dims.length ++ s.dims.flatMap dimPut ++ nput s.ms.length ++ s.ms.flatMap ptext
def pschC (s : SC) (r : List UInt8) : PR SC := if schErr s = 0 then .ok (s, r) else .error (schErr s)
def psch2 (ds : List DC) (o : PR (List (List UInt8))) : PR SC := match o with | .error k => .error k | .ok (ms, r) => pschC ⟨ds, ms⟩ r
def pschM (ds : List DC) (l : List UInt8) : PR SC := match pnum 3 l with | .error k => .error k | .ok (n, r) => psch2 ds (pmany (ptxt 12) n [] r)
def psch1 (o : PR (List DC)) : PR SC := match o with | .error k => .error k | .ok (ds, r) => pschM ds r
def psch (l : List UInt8) : PR SC := match pnum 16 l with | .error k => .error k | .ok (n, r) => psch1 (pmany pdim n [] r)
theorem dimsFrom_drop {ds : List DC} {k : Nat} {d : DC} {seen : List (List UInt8)} (h : ds[k]? = some d) : dimsFrom seen (ds.drop k) = if dimErr d ≠ 0 then dimErr d else if d.nm ∈ seen then 11 else dimsFrom (seen ++ [d.nm]) (ds.drop (k + 1)) := by
  obtain ⟨hk, rfl⟩ := List.getElem?_eq_some_iff.1 h
  rw [List.drop_eq_getElem_cons hk, dimsFrom]
theorem measFrom_drop {ms : List (List UInt8)} {k : Nat} {m : List UInt8} {seen : List (List UInt8)} (h : ms[k]? = some m) : measFrom seen (ms.drop k) = if isName m = true then (if m ∈ seen then 11 else measFrom (seen ++ [m]) (ms.drop (k + 1))) else 2 := by
  obtain ⟨hk, rfl⟩ := List.getElem?_eq_some_iff.1 h
  rw [List.drop_eq_getElem_cons hk, measFrom]
theorem dimsFrom_ok {ds : List DC} : ∀ {seen : List (List UInt8)}, dimsFrom seen ds = 0 → ∀ d ∈ ds, dimErr d = 0 := by
  induction ds with
  | nil => intro seen _ d hd; cases hd
  | cons a r ih =>
    intro seen h d hd
    rw [dimsFrom] at h
    split at h
    · rename_i h1; exact absurd h h1
    · rename_i h1
      split at h
      · cases h
      · rcases List.mem_cons.1 hd with rfl | hd
        · omega
        · exact ih h d hd
theorem measFrom_ok {ms : List (List UInt8)} : ∀ {seen : List (List UInt8)}, measFrom seen ms = 0 → ∀ m ∈ ms, isName m = true := by
  induction ms with
  | nil => intro seen _ d hd; cases hd
  | cons a r ih =>
    intro seen h d hd
    rw [measFrom] at h
    split at h
    · rename_i h1
      split at h
      · cases h
      · rcases List.mem_cons.1 hd with rfl | hd
        · exact h1
        · exact ih h d hd
    · cases h
theorem schErr_zero {s : SC} (h : schErr s = 0) : 1 ≤ s.dims.length ∧ s.dims.length ≤ 16 ∧ (∀ d ∈ s.dims, dimErr d = 0) ∧ 1 ≤ s.ms.length ∧ s.ms.length ≤ 3 ∧ ∀ m ∈ s.ms, isName m = true := by
  unfold schErr at h
  split at h
  · cases h
  · split at h
    · rename_i h1; exact absurd h h1
    · rename_i h1 h2
      unfold measErr at h
      split at h
      · cases h
      · exact ⟨by omega, by omega, dimsFrom_ok (seen := []) (by omega), by omega, by omega, measFrom_ok (seen := []) h⟩
theorem psch_put {s : SC} (h : schErr s = 0) (r : List UInt8) : psch (schPut s ++ r) = .ok (s, r) := by
  obtain ⟨h1, h2, h3, h4, h5, h6⟩ := schErr_zero h
  have e : schPut s ++ r = nput s.dims.length ++ (s.dims.flatMap dimPut ++ (nput s.ms.length ++ (s.ms.flatMap ptext ++ r))) := by unfold schPut; simp only [List.append_assoc]
  unfold psch
  rw [e, q_pnum (by omega) (by omega)]
  simp only
  rw [pmany_put (put := dimPut) _ fun d hd r => pdim_put (h3 d hd) r]
  simp only [psch1, pschM]
  rw [q_pnum (by omega) (by omega)]
  simp only
  rw [pmany_put (put := ptext) _ fun m hm r => q_ptxt (by have := isName_len (h6 m hm); omega) (by have := isName_len (h6 m hm); omega) r]
  simp only [psch2, pschC, List.nil_append]
  rw [if_pos h]
theorem psch_back {l r : List UInt8} {s : SC} (h : psch l = .ok (s, r)) : schErr s = 0 ∧ l = schPut s ++ r := by
  unfold psch at h
  split at h
  · cases h
  · rename_i n r1 h1
    unfold psch1 at h
    split at h
    · cases h
    · rename_i ds r2 h2
      unfold pschM at h
      split at h
      · cases h
      · rename_i m r3 h3
        unfold psch2 at h
        split at h
        · cases h
        · rename_i ms r4 h4
          unfold pschC at h
          split at h
          · rename_i h5
            injection h with h
            injection h with e1 e2
            subst e1 e2
            refine ⟨h5, ?_⟩
            obtain ⟨xs, a1, a2, a3⟩ := pmany_back (put := dimPut) (fun l x r h => (pdim_back h).2) h2
            obtain ⟨ys, b1, b2, b3⟩ := pmany_back (put := ptext) (fun l x r h => q_ptxt_back h) h4
            rw [List.nil_append] at a1 b1
            subst a1 b1
            unfold schPut
            rw [q_pnum_back h1, a3, q_pnum_back h3, b3, a2, b2]
            simp only [List.append_assoc]
          · cases h
theorem psch_err {k : Int} {l : List UInt8} (h : psch l = .error k) : k ≠ 0 := by
  unfold psch at h
  split at h
  · rename_i h1; injection h with h; subst h; have := pnum_err h1; omega
  · unfold psch1 at h
    split at h
    · rename_i h1; injection h with h; subst h; exact pmany_err (fun l k h => pdim_err h) h1
    · unfold pschM at h
      split at h
      · rename_i h1; injection h with h; subst h; have := pnum_err h1; omega
      · unfold psch2 at h
        split at h
        · rename_i h1; injection h with h; subst h; exact pmany_err (fun l k h => by have := ptxt_err h; omega) h1
        · unfold pschC at h
          split at h
          · cases h
          · rename_i h1; injection h with h; subst h; exact h1

end Go.Proofs.Ytlclllkjnhgbjaa

namespace Go.Proofs.Ytlclllkjnhgbjaa
open Go.RowKit Go.ChangeShapes Go.WideShapes Go.Deep
set_option linter.unusedVariables false
set_option linter.unusedSimpArgs false

/-- A schema. -/
structure Sch where
  dm : Row Dm
  ms : Row (List UInt8)
abbrev Sch.cs (s : Sch) : Array Value := #[.slice s.dm.A s.dm.n s.dm.c, .slice s.ms.A s.ms.n s.ms.c]
structure Sch.rd (w : World) (s : Sch) : Prop where
  dm : s.dm.rd w
  ms : s.ms.rd w
theorem Sch.rd.mono {w w' : World} {s : Sch} (h : s.rd w) (hb : Bel w w') : s.rd w' := ⟨h.dm.mono hb, h.ms.mono hb⟩
instance instCelSch : Cel Sch where
  size := 2
  bytes := 48
  cells s := s.cs.toList
  ok w s := s.rd w
  len _ := rfl
  pos := by omega
  mono hb h := h.mono hb
abbrev Sch.con (s : Sch) : SC := ⟨s.dm.l.map Dm.con, s.ms.l⟩
theorem sch_one (s : Sch) : s.cs.all (·.oneCell') = true := by simp [Value.oneCell']
abbrev rAny (b : Nat) : Res := ⟨One b, fun _ => True⟩
theorem holds_any {w : World} {b : Nat} (h : b < w.heap.size) : (rAny b).holds w := ⟨fun _ e => e ▸ h, fun _ _ _ => trivial⟩
theorem SL.setMap {S : Nat → Prop} {w0 w w' : World} {l : List Res} (h : SL S w0 w l) (i : Nat) {P : Program} {k : TypeId} {R : Value → Option (DataW Unit × List MemPlace)} {b n n' : Nat} {D D' : DataW Unit} (hi : l[i]? = some (rMap P k R b n D)) (hg : w.grownBy w' (some b)) (hm : w'.ownsMap P k R b n' D') : SL S w0 w' (l.set i (rMap P k R b n' D')) :=
  h.upd i hi ⟨hg.os, hg.tape, hg.output, hg.size, fun k hk hn => hg.block k hk (fun e => hn (by injection e))⟩ _ (holds_map hm) (fun k hk => .inl hk)
theorem SL.lostMap {S : Nat → Prop} {w0 w w' : World} {l : List Res} (h : SL S w0 w l) (i : Nat) {P : Program} {k : TypeId} {R : Value → Option (DataW Unit × List MemPlace)} {b n : Nat} {D : DataW Unit} (hi : l[i]? = some (rMap P k R b n D)) (hg : w.grownBy w' (some b)) (hb : b < w'.heap.size) : SL S w0 w' (l.set i (rAny b)) :=
  h.upd i hi ⟨hg.os, hg.tape, hg.output, hg.size, fun k hk hn => hg.block k hk (fun e => hn (by injection e))⟩ _ (holds_any hb) (fun k hk => .inl hk)
theorem SL.allocMap {S : Nat → Prop} {w0 w : World} {l : List Res} (h : SL S w0 w l) (P : Program) (k : TypeId) (R : Value → Option (DataW Unit × List MemPlace)) : SL S w0 (w.alloc (.map #[] 0)) (l ++ [rMap P k R w.heap.size 0 (Maps.setOf one1 [])]) :=
  h.add ((Bel.refl w).alloc _) _ (holds_map (World.ownsMap_made w P k R)) (fun g hg => by cases hg; exact Nat.le_refl _)

end Go.Proofs.Ytlclllkjnhgbjaa

namespace Go.Proofs.Ytlclllkjnhgbjaa
open Go.RowKit
set_option linter.unusedVariables false
set_option linter.unusedSimpArgs false

/-- None of the first of these. -/
def NoIn (names : List (List UInt8)) (j : Nat) (x : List UInt8) : Prop := ∀ i, i < j → names[i]? ≠ some x
theorem NoIn.zero {names : List (List UInt8)} {x : List UInt8} : NoIn names 0 x := fun i hi => absurd hi (by omega)
theorem NoIn.step {names : List (List UInt8)} {j : Nat} {x y : List UInt8} (h : NoIn names j x) (hy : names[j]? = some y) (hne : (y == x) = false) : NoIn names (j + 1) x := by
  intro i hi
  rcases (show i < j ∨ i = j by omega) with h' | h'
  · exact h i h'
  · rw [h', hy]
    intro e
    injection e with e
    rw [e] at hne
    simp at hne
theorem NoIn.all {names : List (List UInt8)} {k : Nat} {x : List UInt8} (h : NoIn names k x) : x ∉ names.take k := by
  rw [List.mem_iff_getElem?]
  rintro ⟨i, hi⟩
  by_cases hik : i < k
  · rw [List.getElem?_take_of_lt hik] at hi
    exact h i hik hi
  · rw [List.getElem?_eq_none (by simp; omega)] at hi
    cases hi
theorem in_take {names : List (List UInt8)} {j k : Nat} {x y : List UInt8} (hjk : j < k) (hy : names[j]? = some y) (he : (y == x) = true) : x ∈ names.take k := by
  rw [List.mem_iff_getElem?]
  exact ⟨j, by rw [List.getElem?_take_of_lt hjk, hy]; simpa using he⟩

end Go.Proofs.Ytlclllkjnhgbjaa

namespace Go.Proofs.Ytlclllkjnhgbjaa
open Go.RowKit
set_option linter.unusedVariables false
set_option linter.unusedSimpArgs false

/-- Own things. -/
abbrev rList {α : Type} (r : α → Res) (l : List α) : Res := ⟨fun g => ∃ a, a ∈ l ∧ (r a).D g, fun w => ∀ a ∈ l, (r a).p w⟩
theorem holds_list_nil {α : Type} (r : α → Res) (w : World) : (rList r []).holds w := ⟨fun g ⟨a, ha, _⟩ => (by cases ha), fun w' _ _ a ha => by cases ha⟩
theorem holds_list_snoc {α : Type} {r : α → Res} {l : List α} {a : α} {w : World} (h1 : (rList r l).holds w) (h2 : (r a).holds w) : (rList r (l ++ [a])).holds w := by
  refine ⟨fun g ⟨u, hu, hg⟩ => ?_, fun w' hs hk u hu => ?_⟩
  · rcases List.mem_append.1 hu with hu | hu
    · exact h1.1 g ⟨u, hu, hg⟩
    · rw [List.mem_singleton] at hu; subst hu; exact h2.1 g hg
  · rcases List.mem_append.1 hu with hu' | hu'
    · exact h1.2 w' hs (fun g ⟨v, hv, hg⟩ => hk g ⟨v, List.mem_append_left _ hv, hg⟩) u hu'
    · rw [List.mem_singleton] at hu'; subst hu'; exact h2.2 w' hs fun g hg => hk g ⟨u, hu, hg⟩
theorem list_snoc_D {α : Type} {r : α → Res} {l : List α} {a : α} : ∀ g, (rList r (l ++ [a])).D g → (rList r l).D g ∨ (r a).D g := fun g ⟨u, hu, hg⟩ => by
  rcases List.mem_append.1 hu with hu | hu
  · exact .inl ⟨u, hu, hg⟩
  · rw [List.mem_singleton] at hu; subst hu; exact .inr hg
theorem list_nil_D {α : Type} {r : α → Res} {P : Nat → Prop} : ∀ g, (rList r []).D g → P g := fun g ⟨a, ha, _⟩ => by cases ha

def Sch.D (s : Sch) (g : Nat) : Prop := s.dm.v.ownBlock = some g ∨ (∃ d, d ∈ s.dm.l ∧ d.D g) ∨ s.ms.v.ownBlock = some g
abbrev Sch.nil : Sch := ⟨⟨none, 0, 0, []⟩, ⟨none, 0, 0, []⟩⟩
abbrev SC.nil : SC := ⟨[], []⟩
theorem sch_nil_rd (w : World) : Sch.nil.rd w := ⟨Row.nil_rd w, Row.nil_rd w⟩
theorem dm1_one (D : Dm) : ∀ u ∈ ([.string ⟨D.nm.toArray⟩, .slice D.tr.A D.tr.n D.tr.c] : List Value), u.oneCell' = true := by simp [Value.oneCell']
end Go.Proofs.Ytlclllkjnhgbjaa

namespace Go.Proofs.Ytlclllkjnhgbjaa
open Go.RowKit
set_option linter.unusedVariables false
set_option linter.unusedSimpArgs false

/-- What Take answers. -/
def schtake (s : List UInt8) : SC × Int :=
  match psch s with
  | .error k => (SC.nil, k)
  | .ok (t, l) => if l = [] then (t, 0) else (SC.nil, 3)
end Go.Proofs.Ytlclllkjnhgbjaa

namespace Go.Proofs.Ytlclllkjnhgbjaa
open Go.RowKit
set_option linter.unusedVariables false
set_option linter.unusedSimpArgs false

theorem E_intss : ElemInfo Try.prog 22 59 1 24 := ElemInfo.mk' (z := .slice none 0 0) Try.underlying22 (by kernel_rfl) rfl (by omega)
theorem rowShp : RowTy Try.prog 24 2 := ⟨⟨_, Try.underlying24, rfl⟩, by kernel_rfl⟩
section
variable {P : Program} {w : World}
theorem step_load_blk {ops : Array Oper} {o : Oper} {a : Act} {K : Act → World → Prop} {Q : Exit → Act → World → Prop} {X : Prop} (hgd : o.guard = none) {ty : TypeId} {n : Nat} (R : RowTy P ty n) (x : Operand) (ho : o.op = .load ty x)
    (g : Nat) (hx : a.eval x = .pointer (some ⟨g, 0, none⟩)) {t : TypeId} {cs : Array Value} (hb : Blk w g t cs) (hn : cs.size = n)
    (h : K (a.put o.dst (.agg cs)) w) : if Region.wanted o (yielded ops a.tmps) = true then Oper.wp P o a w K Q else X := by
  have hw : Region.wanted o (yielded ops a.tmps) = true := by simp [Region.wanted, hgd]
  rw [if_pos hw]
  obtain ⟨d, hu, hd⟩ := R.hu
  exact wp_load_mid ty x ho g 0 hx cs.toList d hb.range hu hd (by rw [R.hi]; simp [hn]) (by simpa using h)
end
/-- What it says. -/
abbrev exDC : DC := ⟨[100], [⟨[116], [[97]], []⟩]⟩
theorem exErr : schErr ⟨[exDC], [[109]]⟩ = 0 := by decide +kernel
theorem exErr0 : schErr ⟨[exDC], []⟩ = 5 := by decide +kernel

end Go.Proofs.Ytlclllkjnhgbjaa

namespace Go.Proofs.Ytlclllkjnhgbjaa
open Go.RowKit
set_option linter.unusedVariables false
set_option linter.unusedSimpArgs false

theorem sameD_eq (a b : DC) : sameD a b = (a == b) := by
  obtain ⟨n1, t1⟩ := a
  obtain ⟨n2, t2⟩ := b
  unfold sameD
  rw [Bool.eq_iff_iff]
  simp
theorem eq_step {α : Type} [BEq α] {xs ys : List α} {k : Nat} {a b : α} (ha : xs[k]? = some a) (hb : ys[k]? = some b) : (xs.drop k == ys.drop k) = ((a == b) && (xs.drop (k + 1) == ys.drop (k + 1))) := by
  obtain ⟨h1, rfl⟩ := List.getElem?_eq_some_iff.1 ha
  obtain ⟨h2, rfl⟩ := List.getElem?_eq_some_iff.1 hb
  rw [List.drop_eq_getElem_cons h1, List.drop_eq_getElem_cons h2]
  rfl
def sameS (a b : SC) : Bool := (a.dims == b.dims) && (a.ms == b.ms)
theorem sameS_self (a : SC) : sameS a a = true := by unfold sameS; simp
theorem len_ne {α : Type} [BEq α] [LawfulBEq α] {xs ys : List α} (h : xs.length ≠ ys.length) : (xs == ys) = false := by
  rw [beq_eq_false_iff_ne]
  intro e
  exact h (by rw [e])

def FewS (s : Sch) : Prop := s.dm.n ≤ 20 ∧ s.ms.n ≤ 5 ∧ ∀ d ∈ s.dm.l, d.tr.n ≤ 6 ∧ ∀ t ∈ d.tr.l, t.ts.n ≤ 220 ∧ t.up.n ≤ 220
end Go.Proofs.Ytlclllkjnhgbjaa

namespace Go.Proofs.Ytlclllkjnhgbjaa
open Go.RowKit
set_option linter.unusedVariables false
set_option linter.unusedSimpArgs false

def schPutV (s : SC) : List UInt8 × Int := if schErr s = 0 then (schPut s, 0) else ([], schErr s)

end Go.Proofs.Ytlclllkjnhgbjaa

namespace Go.Proofs.Ytlclllkjnhgbjaa
open Go.RowKit
set_option linter.unusedVariables false
set_option linter.unusedSimpArgs false

theorem FewS.hn {s : Sch} (h : FewS s) : s.dm.n ≤ 1000000 := by have := h.1; omega
theorem FewS.hm {s : Sch} (h : FewS s) : s.ms.n ≤ 1000000 := by have := h.2.1; omega
theorem FewS.hd {s : Sch} (h : FewS s) : ∀ d ∈ s.dm.l, d.tr.n ≤ 1000000 ∧ ∀ t ∈ d.tr.l, t.up.n ≤ 100000 := fun d hd => ⟨by have := (h.2.2 d hd).1; omega, fun t ht => by have := ((h.2.2 d hd).2 t ht).2; omega⟩
theorem schtake_put {d : SC} (h : schErr d = 0) : schtake (schPut d) = (d, 0) := by
  unfold schtake
  have := psch_put h []
  rw [List.append_nil] at this
  rw [this]
  simp
theorem schPut_len {d : SC} (h : schErr d = 0) : (schPut d).length ≤ 900000 := by
  obtain ⟨h1, h2, h3, h4, h5, h6⟩ := schErr_zero h
  have h7 := nput_le9 d.dims.length
  have h8 := nput_le9 d.ms.length
  have h9 : (d.dims.flatMap dimPut).length ≤ 50000 * d.dims.length := flat_len fun x hx => dimPut_len (h3 x hx)
  have h10 : (d.ms.flatMap ptext).length ≤ 30 * d.ms.length := flat_len fun x hx => by
    have := isName_len (h6 x hx)
    have := nput_le9 x.length
    unfold ptext
    rw [List.length_append]
    omega
  unfold schPut
  simp only [List.length_append]
  omega

end Go.Proofs.Ytlclllkjnhgbjaa

namespace Go.Proofs.Ytlclllkjnhgbjaa
open Go.RowKit
set_option linter.unusedVariables false
set_option linter.unusedSimpArgs false

/-- Where a scan stands that reads so many things of one kind. -/
def LInv {α : Type} (s : List UInt8) (o : PR (List α)) (p : List UInt8 → PR α) (n k : Nat) (acc : List α) (t kk : Int) : Prop :=
  (kk ≠ 0 ∧ o = .error kk) ∨ (kk = 0 ∧ ∃ tn : Nat, t = tn ∧ tn ≤ s.length ∧ o = pmany p (n - k) acc (s.drop tn))
section
variable {α : Type} {s : List UInt8} {o : PR (List α)} {p : List UInt8 → PR α} {n k : Nat} {acc : List α} {t kk : Int}
theorem LInv.bad (h : LInv s o p n k acc t kk) (hk : kk ≠ 0) : o = .error kk := h.elim (fun h => h.2) (fun h => absurd h.1 hk)
theorem LInv.good (h : LInv s o p n k acc t 0) : ∃ tn : Nat, t = tn ∧ tn ≤ s.length ∧ o = pmany p (n - k) acc (s.drop tn) := h.elim (fun h => absurd rfl h.1) (fun h => h.2)
theorem LInv.step {tn : Nat} {x : α} (hk : k < n) (h : o = pmany p (n - k) acc (s.drop tn)) (h2 : SRes s (p (s.drop tn)) t kk x) : LInv s o p n (k + 1) (acc ++ [x]) t kk := by
  rw [pmany_step hk] at h
  rcases h2 with ⟨h1, h2⟩ | ⟨h1, m, h3, h4, h2⟩
  · exact .inl ⟨h1, by rw [h, h2]⟩
  · exact .inr ⟨h1, m, h3, h4, by rw [h, h2]⟩
theorem LInv.done (h : LInv s o p n k acc t kk) (hk : kk ≠ 0 ∨ n ≤ k) : SRes s o t kk acc := by
  rcases h with ⟨h1, h2⟩ | ⟨h1, tn, h3, h4, h2⟩
  · exact .inl ⟨h1, h2⟩
  · rcases hk with hk | hk
    · exact absurd h1 hk
    · exact .inr ⟨h1, tn, h3, h4, by rw [h2, show n - k = 0 by omega]; rfl⟩
end
/-- The dimensions read; and the measures behind them. -/
def oDims (l : List UInt8) : PR (List DC) := match pnum 16 l with | .error k => .error k | .ok (n, r) => pmany pdim n [] r
def oMeas (l : List UInt8) : PR (List (List UInt8)) := match pthen (oDims l) (pnum 3) with | .error k => .error k | .ok ((_, m), r) => pmany (ptxt 12) m [] r
theorem psch_o1 {l : List UInt8} {k : Int} (h : oMeas l = .error k) : psch l = .error k := by
  unfold oMeas pthen oDims at h
  unfold psch
  cases h1 : pnum 16 l with
  | error e => rw [h1] at h; simpa using h
  | ok q =>
    obtain ⟨n, r⟩ := q
    rw [h1] at h
    simp only [psch1] at h ⊢
    cases h2 : pmany pdim n [] r with
    | error e => rw [h2] at h; simpa using h
    | ok q =>
      obtain ⟨ds, r2⟩ := q
      rw [h2] at h
      simp only [pschM] at h ⊢
      cases h3 : pnum 3 r2 with
      | error e => rw [h3] at h; simpa using h
      | ok q =>
        obtain ⟨m, r3⟩ := q
        rw [h3] at h
        simp only [psch2] at h ⊢
        rw [h]
theorem psch_o2 {l r r1 : List UInt8} {ds : List DC} {ms : List (List UInt8)} (hD : oDims l = .ok (ds, r1)) (h : oMeas l = .ok (ms, r)) : psch l = pschC ⟨ds, ms⟩ r := by
  unfold oMeas pthen at h
  rw [hD] at h
  unfold oDims at hD
  unfold psch
  cases h1 : pnum 16 l with
  | error e => rw [h1] at hD; cases hD
  | ok q =>
    obtain ⟨n, r2⟩ := q
    rw [h1] at hD
    simp only at hD h ⊢
    rw [hD]
    simp only [psch1, pschM]
    cases h3 : pnum 3 r1 with
    | error e => rw [h3] at h; cases h
    | ok q =>
      obtain ⟨m, r3⟩ := q
      rw [h3] at h
      simp only [psch2] at h ⊢
      rw [h]
theorem oDims_of {s l r : List UInt8} {ms : List (List UInt8)} {t kk : Int} {ds : List DC} (h : oMeas l = .ok (ms, r)) (hS : SRes s (oDims l) t kk ds) : kk = 0 ∧ ∃ r1, oDims l = .ok (ds, r1) := by
  rcases hS with ⟨_, h2⟩ | ⟨h1, tn, _, _, h2⟩
  · unfold oMeas pthen at h
    rw [h2] at h
    cases h
  · exact ⟨h1, _, h2⟩
theorem LInv.startD {s l : List UInt8} {t k : Int} {n : Nat} (h : SRes s (pnum 16 l) t k n) : LInv s (oDims l) pdim n 0 [] t k := by
  rcases h with ⟨h1, h2⟩ | ⟨h1, tn, h3, h4, h2⟩
  · exact .inl ⟨h1, by unfold oDims; rw [h2]⟩
  · exact .inr ⟨h1, tn, h3, h4, by unfold oDims; rw [h2]; rfl⟩
theorem LInv.startM {s l : List UInt8} {t k : Int} {m : Nat} {ds : List DC} (h : SRes s (pthen (oDims l) (pnum 3)) t k (ds, m)) : LInv s (oMeas l) (ptxt 12) m 0 [] t k := by
  rcases h with ⟨h1, h2⟩ | ⟨h1, tn, h3, h4, h2⟩
  · exact .inl ⟨h1, by unfold oMeas; rw [h2]⟩
  · exact .inr ⟨h1, tn, h3, h4, by unfold oMeas; rw [h2]; rfl⟩
end Go.Proofs.Ytlclllkjnhgbjaa
