/- Texts laid together: XSchP XSchW XSchX XSchR XSchT XSchA XSchZ XSchY XSchemaChecksW XSchS. -/
import Derived.Test.YtelnhhbefdfeoaaBq
import Derived.Test.YtelnhhbefdfeoaaBd
import Derived.Test.YtelnhhbefdfeoaaBf

namespace Go.Proofs.Ytelnhhbefdfeoaa
open Go.RowKit
set_option linter.unusedVariables false
set_option linter.unusedSimpArgs false

/-- So many things more, one behind the other. -/
def pmany {α : Type} (p : List UInt8 → PR α) : Nat → List α → List UInt8 → PR (List α)
  | 0, acc, l => .ok (acc, l)
  | n + 1, acc, l =>
    match p l with
    | .error k => .error k
    | .ok (x, r) => pmany p n (acc ++ [x]) r
theorem pmany_put {α : Type} {p : List UInt8 → PR α} {put : α → List UInt8} {xs : List α} : ∀ {acc : List α} (r : List UInt8), (∀ x ∈ xs, ∀ r, p (put x ++ r) = .ok (x, r)) → pmany p xs.length acc (xs.flatMap put ++ r) = .ok (acc ++ xs, r) := by
  induction xs with
  | nil => intro acc r _; simp [pmany]
  | cons x xs ih =>
    intro acc r h
    rw [List.length_cons, pmany, List.flatMap_cons, List.append_assoc, h x (List.mem_cons_self ..)]
    simp only
    rw [ih r fun y hy => h y (List.mem_cons_of_mem _ hy)]
    simp
theorem pmany_back {α : Type} {p : List UInt8 → PR α} {put : α → List UInt8} {n : Nat} : ∀ {acc xs : List α} {l r : List UInt8}, (∀ l x r, p l = .ok (x, r) → l = put x ++ r) → pmany p n acc l = .ok (xs, r) → ∃ ms : List α, xs = acc ++ ms ∧ ms.length = n ∧ l = ms.flatMap put ++ r := by
  induction n with
  | zero =>
    intro acc xs l r _ h
    injection h with h
    injection h with h1 h2
    subst h1 h2
    exact ⟨[], by simp, rfl, rfl⟩
  | succ n ih =>
    intro acc xs l r hp h
    rw [pmany] at h
    split at h
    · cases h
    · rename_i x r1 h1
      obtain ⟨ms, e1, e2, e3⟩ := ih hp h
      exact ⟨x :: ms, by rw [e1]; simp, by simp [e2], by rw [hp _ _ _ h1, e3]; simp⟩
theorem pmany_err {α : Type} {p : List UInt8 → PR α} {n : Nat} {k : Int} : ∀ {acc : List α} {l : List UInt8}, (∀ l k, p l = .error k → k ≠ 0) → pmany p n acc l = .error k → k ≠ 0 := by
  induction n with
  | zero => intro acc l _ h; cases h
  | succ n ih =>
    intro acc l hp h
    rw [pmany] at h
    split at h
    · rename_i h1; injection h with h; subst h; exact hp _ _ h1
    · exact ih hp h
theorem pmany_step {α : Type} {p : List UInt8 → PR α} {n k : Nat} {acc : List α} {l : List UInt8} (hk : k < n) : pmany p (n - k) acc l = match p l with | .error e => .error e | .ok (x, r) => pmany p (n - (k + 1)) (acc ++ [x]) r := by
  rw [show n - k = (n - (k + 1)) + 1 by omega, pmany]

/-- What a schema says. -/
structure SC where
  dims : List DC
  ms : List (List UInt8)
deriving DecidableEq
def dimsFrom : List (List UInt8) → List DC → Int
  | _, [] => 0
  | seen, d :: r => if dimErr d ≠ 0 then dimErr d else if d.nm ∈ seen then 11 else dimsFrom (seen ++ [d.nm]) r
def measFrom : List (List UInt8) → List (List UInt8) → Int
  | _, [] => 0
  | seen, m :: r => if isName m = true then (if m ∈ seen then 11 else measFrom (seen ++ [m]) r) else 2
def measErr (l : List (List UInt8)) : Int := if l.length < 1 ∨ 3 < l.length then 5 else measFrom [] l
def schErr (s : SC) : Int := if s.dims.length < 1 ∨ 16 < s.dims.length then 5 else if dimsFrom [] s.dims ≠ 0 then dimsFrom [] s.dims else measErr s.ms
def schPut (s : SC) : List UInt8 := nput s.dims.length ++ s.dims.flatMap dimPut ++ nput s.ms.length ++ s.ms.flatMap ptext
def pschC (s : SC) (r : List UInt8) : PR SC := if schErr s = 0 then .ok (s, r) else .error (schErr s)
def psch2 (ds : List DC) (o : PR (List (List UInt8))) : PR SC := match o with | .error k => .error k | .ok (ms, r) => pschC ⟨ds, ms⟩ r
def pschM (ds : List DC) (l : List UInt8) : PR SC := match pnum 3 l with | .error k => .error k | .ok (n, r) => psch2 ds (pmany (ptxt 12) n [] r)
def psch1 (o : PR (List DC)) : PR SC := match o with | .error k => .error k | .ok (ds, r) => pschM ds r
def psch (l : List UInt8) : PR SC := match pnum 16 l with | .error k => .error k | .ok (n, r) => psch1 (pmany pdim n [] r)
theorem dimsFrom_drop {ds : List DC} {k : Nat} {d : DC} {seen : List (List UInt8)} (h : ds[k]? = some d) : dimsFrom seen (ds.drop k) = if dimErr d ≠ 0 then dimErr d else if d.nm ∈ seen then 11 else dimsFrom (seen ++ [d.nm]) (ds.drop (k + 1)) := by
  obtain ⟨hk, rfl⟩ := List.getElem?_eq_some_iff.1 h
  rw [List.drop_eq_getElem_cons hk, dimsFrom]
theorem measFrom_drop {ms : List (List UInt8)} {k : Nat} {m : List UInt8} {seen : List (List UInt8)} (h : ms[k]? = some m) : measFrom seen (ms.drop k) = if isName m = true then (if m ∈ seen then 11 else measFrom (seen ++ [m]) (ms.drop (k + 1))) else 2 := by
  obtain ⟨hk, rfl⟩ := List.getElem?_eq_some_iff.1 h
  rw [List.drop_eq_getElem_cons hk, measFrom]
theorem dimsFrom_ok {ds : List DC} : ∀ {seen : List (List UInt8)}, dimsFrom seen ds = 0 → ∀ d ∈ ds, dimErr d = 0 := by
  induction ds with
  | nil => intro seen _ d hd; cases hd
  | cons a r ih =>
    intro seen h d hd
    rw [dimsFrom] at h
    split at h
    · rename_i h1; exact absurd h h1
    · rename_i h1
      split at h
      · cases h
      · rcases List.mem_cons.1 hd with rfl | hd
        · omega
        · exact ih h d hd
theorem measFrom_ok {ms : List (List UInt8)} : ∀ {seen : List (List UInt8)}, measFrom seen ms = 0 → ∀ m ∈ ms, isName m = true := by
  induction ms with
  | nil => intro seen _ d hd; cases hd
  | cons a r ih =>
    intro seen h d hd
    rw [measFrom] at h
    split at h
    · rename_i h1
      split at h
      · cases h
      · rcases List.mem_cons.1 hd with rfl | hd
        · exact h1
        · exact ih h d hd
    · cases h
theorem schErr_zero {s : SC} (h : schErr s = 0) : 1 ≤ s.dims.length ∧ s.dims.length ≤ 16 ∧ (∀ d ∈ s.dims, dimErr d = 0) ∧ 1 ≤ s.ms.length ∧ s.ms.length ≤ 3 ∧ ∀ m ∈ s.ms, isName m = true := by
  unfold schErr at h
  split at h
  · cases h
  · split at h
    · rename_i h1; exact absurd h h1
    · rename_i h1 h2
      unfold measErr at h
      split at h
      · cases h
      · exact ⟨by omega, by omega, dimsFrom_ok (seen := []) (by omega), by omega, by omega, measFrom_ok (seen := []) h⟩
theorem psch_put {s : SC} (h : schErr s = 0) (r : List UInt8) : psch (schPut s ++ r) = .ok (s, r) := by
  obtain ⟨h1, h2, h3, h4, h5, h6⟩ := schErr_zero h
  have e : schPut s ++ r = nput s.dims.length ++ (s.dims.flatMap dimPut ++ (nput s.ms.length ++ (s.ms.flatMap ptext ++ r))) := by unfold schPut; simp only [List.append_assoc]
  unfold psch
  rw [e, q_pnum (by omega) (by omega)]
  simp only
  rw [pmany_put (put := dimPut) _ fun d hd r => pdim_put (h3 d hd) r]
  simp only [psch1, pschM]
  rw [q_pnum (by omega) (by omega)]
  simp only
  rw [pmany_put (put := ptext) _ fun m hm r => q_ptxt (by have := isName_len (h6 m hm); omega) (by have := isName_len (h6 m hm); omega) r]
  simp only [psch2, pschC, List.nil_append]
  rw [if_pos h]
theorem psch_back {l r : List UInt8} {s : SC} (h : psch l = .ok (s, r)) : schErr s = 0 ∧ l = schPut s ++ r := by
  unfold psch at h
  split at h
  · cases h
  · rename_i n r1 h1
    unfold psch1 at h
    split at h
    · cases h
    · rename_i ds r2 h2
      unfold pschM at h
      split at h
      · cases h
      · rename_i m r3 h3
        unfold psch2 at h
        split at h
        · cases h
        · rename_i ms r4 h4
          unfold pschC at h
          split at h
          · rename_i h5
            injection h with h
            injection h with e1 e2
            subst e1 e2
            refine ⟨h5, ?_⟩
            obtain ⟨xs, a1, a2, a3⟩ := pmany_back (put := dimPut) (fun l x r h => (pdim_back h).2) h2
            obtain ⟨ys, b1, b2, b3⟩ := pmany_back (put := ptext) (fun l x r h => q_ptxt_back h) h4
            rw [List.nil_append] at a1 b1
            subst a1 b1
            unfold schPut
            rw [q_pnum_back h1, a3, q_pnum_back h3, b3, a2, b2]
            simp only [List.append_assoc]
          · cases h
theorem psch_err {k : Int} {l : List UInt8} (h : psch l = .error k) : k ≠ 0 := by
  unfold psch at h
  split at h
  · rename_i h1; injection h with h; subst h; have := pnum_err h1; omega
  · unfold psch1 at h
    split at h
    · rename_i h1; injection h with h; subst h; exact pmany_err (fun l k h => pdim_err h) h1
    · unfold pschM at h
      split at h
      · rename_i h1; injection h with h; subst h; have := pnum_err h1; omega
      · unfold psch2 at h
        split at h
        · rename_i h1; injection h with h; subst h; exact pmany_err (fun l k h => by have := ptxt_err h; omega) h1
        · unfold pschC at h
          split at h
          · cases h
          · rename_i h1; injection h with h; subst h; exact h1

end Go.Proofs.Ytelnhhbefdfeoaa

namespace Go.Proofs.Ytelnhhbefdfeoaa
open Go.RowKit Go.ChangeShapes Go.WideShapes Go.Deep
set_option linter.unusedVariables false
set_option linter.unusedSimpArgs false

/-- A schema. -/
structure Sch where
  dm : Row Dm
  ms : Row (List UInt8)
abbrev Sch.cs (s : Sch) : Array Value := #[.slice s.dm.A s.dm.n s.dm.c, .slice s.ms.A s.ms.n s.ms.c]
structure Sch.rd (w : World) (s : Sch) : Prop where
  dm : s.dm.rd w
  ms : s.ms.rd w
theorem Sch.rd.mono {w w' : World} {s : Sch} (h : s.rd w) (hb : Bel w w') : s.rd w' := ⟨h.dm.mono hb, h.ms.mono hb⟩
instance instCelSch : Cel Sch where
  size := 2
  bytes := 48
  cells s := s.cs.toList
  ok w s := s.rd w
  len _ := rfl
  pos := by omega
  mono hb h := h.mono hb
abbrev Sch.con (s : Sch) : SC := ⟨s.dm.l.map Dm.con, s.ms.l⟩
theorem sch_one (s : Sch) : s.cs.all (·.oneCell') = true := by simp [Value.oneCell']
theorem rowSch : RowTy Try.prog 25 2 := ⟨⟨_, Try.underlying25, rfl⟩, by kernel_rfl⟩
set_option maxRecDepth 100000 in
theorem c_sch : Try.prog.cellsOf 25 = 2 := by kernel_rfl
theorem opens_sch : Opens Try.prog 25 Sch := by
  intro H enc w base spare held fuel cs x h hz
  have hl := struct_len Try.underlying25 h c_sch
  obtain ⟨a, ha, wa⟩ := field_of Try.underlying25 h hz 0 _ rfl opens_dms c_dms
  obtain ⟨b, hb, wb⟩ := field_of Try.underlying25 h hz 1 _ rfl opens_strs c_strs
  refine ⟨⟨a, b⟩, ?_, ⟨Row.ok.rds wa, Row.ok.rds wb⟩⟩
  match cs, hl with
  | [x0, x1], _ =>
    simp [Cel.cells, Row.v] at ha hb
    simp [Cel.cells, ha, hb]
set_option maxRecDepth 100000 in
theorem open_sch {H : Type} {enc : TypeId × Value → H} {w : World} {base b0 : Nat} {spare : Nat → Bool} {held : Bool} {r : Reach} {v : Value} {d : DataW H} {p : List MemPlace}
    (hv : Value.okWide Try.prog w r b0 25 v) (h : DataW.Trod enc Try.prog w base spare held 25 v d p) (hz : Sized Try.prog 25 d) : ∃ t : Sch, v = .agg t.cs ∧ t.rd w := by
  obtain ⟨cs, rfl, _⟩ := okWide_struct Try.underlying25 hv
  obtain ⟨fuel, hf⟩ := h
  obtain ⟨a, ha, ho⟩ := opens_sch hf hz
  refine ⟨a, ?_, ho⟩
  simp only [Value.cells] at ha
  rw [Array.toList_inj.1 ha]

set_option maxRecDepth 100000 in
set_option maxHeartbeats 1000000 in
/-- once.fresh: a name that did not come yet; the names are noted. -/
theorem fresh_new (b k : Nat) (seen : List (List UInt8)) (x : List UInt8) (w : World) (hx : x.length ≤ 140737488351232) (hk : k ≤ 1000000) (hM : w.ownsMap Try.prog 9 (plainElem (H := Unit) Try.prog 3) b k (Maps.setOf one1 (litsS seen))) (hmem : x ∉ seen) :
    Calls Try.prog 85 #[.map (some b), .string ⟨x.toArray⟩] w fun e w' => e = .returned (.bool true) ∧ w.grownBy w' (some b) ∧ w'.ownsMap Try.prog 9 (plainElem (H := Unit) Try.prog 3) b (k + 1) (Maps.setOf one1 (litsS (seen ++ [x]))) := by
    have HM := Lib.hid hM
    have HKL : Hid ((⟨x.toArray⟩ : ByteArray).size ≤ maxLen) := by show _ ≤ _; unfold maxLen; simp [ByteArray.size]; omega
    clear hM
    have HA : Hid (∀ c : Int, (Maps.setOf one1 (litsS seen)).atKey (.string x) (.lit (.int .i64 0)) = .lit (.int .i64 c) → c = 0) := by
      intro c h
      rw [atKey_names, if_neg hmem] at h
      injection h with h
      injection h with _ h
      exact h.symm
    clear hmem
    go_enter Try.func85, Try.ntmps85
    go_wp2_with (first | ((with_reducible show wpList _ _ _ (⟨some 7, _, _, _, _, _⟩ :: _) _ _); refine wpList_lookup_own_int _ rfl (.tmp 5) (.tmp 6) 154 rfl 9 3 .i64 (Maps.string_keyed Try.underlying9) Try.underlying154 Try.underlying3 (zero_int _) b k _ rfl HM.out _ (.string x) rfl (WideMaps.keyOf_string_mk Try.underlying9 (s := ⟨x.toArray⟩) HKL.out) ?_; intro c7 hat7 hwc7; obtain rfl := HA.out c7 hat7; clear hat7 hwc7) | ((with_reducible show wpList _ _ _ (⟨_, .mapUpdate _ _ _ _, _, _, _, _⟩ :: _) _ _); refine wpList_mapUpdate_own _ rfl (.tmp 5) (.tmp 6) _ 154 rfl 9 3 (Maps.string_keyed Try.underlying9) Try.underlying154 _ b k _ rfl HM.out (by unfold maxLen; omega) _ _ (.string x) rfl rfl (WideMaps.keyOf_string_mk Try.underlying9 (s := ⟨x.toArray⟩) HKL.out) (.lit (.int .i64 1)) [] (plainElem_int Try.underlying3 (wf64 (by unfold I64; omega))) ?_; intro w5 hown5 hg5; have M5 := Lib.hid hown5; have G5 := Lib.hid hg5; clear hown5 hg5) | ((with_reducible show wpList _ _ _ (⟨some 11, _, _, _, _, _⟩ :: _) _ _); refine wpList_lookup_own_int _ rfl (.tmp 9) (.tmp 10) 154 rfl 9 3 .i64 (Maps.string_keyed Try.underlying9) Try.underlying154 Try.underlying3 (zero_int _) b (k + 1) _ rfl M5.out _ (.string x) rfl (WideMaps.keyOf_string_mk Try.underlying9 (s := ⟨x.toArray⟩) HKL.out) ?_; intro c11 hat11 hwc11; obtain rfl := (put_names seen x 1 c11 hat11); clear hat11 hwc11))
    go_ret
    refine ⟨rfl, G5.out, ?_⟩
    unfold litsS
    rw [List.map_append]
    have := M5.out
    rw [← Maps.setOf_snoc] at this
    exact this
set_option maxRecDepth 100000 in
set_option maxHeartbeats 1000000 in
theorem fresh_old (b k : Nat) (seen : List (List UInt8)) (x : List UInt8) (w : World) (hx : x.length ≤ 140737488351232) (hk : k ≤ 1000000) (hM : w.ownsMap Try.prog 9 (plainElem (H := Unit) Try.prog 3) b k (Maps.setOf one1 (litsS seen))) (hmem : x ∈ seen) :
    Calls Try.prog 85 #[.map (some b), .string ⟨x.toArray⟩] w fun e w' => e = .returned (.bool false) ∧ w.grownBy w' (some b) ∧ b < w'.heap.size := by
    have HM := Lib.hid hM
    have HKL : Hid ((⟨x.toArray⟩ : ByteArray).size ≤ maxLen) := by show _ ≤ _; unfold maxLen; simp [ByteArray.size]; omega
    clear hM
    have HA : Hid (∀ c : Int, (Maps.setOf one1 (litsS seen)).atKey (.string x) (.lit (.int .i64 0)) = .lit (.int .i64 c) → c = 1) := by
      intro c h
      rw [atKey_names, if_pos hmem] at h
      injection h with h
      injection h with _ h
      exact h.symm
    clear hmem
    go_enter Try.func85, Try.ntmps85
    go_wp2_with (first | ((with_reducible show wpList _ _ _ (⟨some 7, _, _, _, _, _⟩ :: _) _ _); refine wpList_lookup_own_int _ rfl (.tmp 5) (.tmp 6) 154 rfl 9 3 .i64 (Maps.string_keyed Try.underlying9) Try.underlying154 Try.underlying3 (zero_int _) b k _ rfl HM.out _ (.string x) rfl (WideMaps.keyOf_string_mk Try.underlying9 (s := ⟨x.toArray⟩) HKL.out) ?_; intro c7 hat7 hwc7; obtain rfl := HA.out c7 hat7; clear hat7 hwc7) | ((with_reducible show wpList _ _ _ (⟨_, .mapUpdate _ _ _ _, _, _, _, _⟩ :: _) _ _); refine wpList_mapUpdate_own _ rfl (.tmp 5) (.tmp 6) _ 154 rfl 9 3 (Maps.string_keyed Try.underlying9) Try.underlying154 _ b k _ rfl HM.out (by unfold maxLen; omega) _ _ (.string x) rfl rfl (WideMaps.keyOf_string_mk Try.underlying9 (s := ⟨x.toArray⟩) HKL.out) (.lit (.int .i64 2)) [] (plainElem_int Try.underlying3 (wf64 (by unfold I64; omega))) ?_; intro w5 hown5 hg5; have M5 := Lib.hid hown5; have G5 := Lib.hid hg5; clear hown5 hg5) | ((with_reducible show wpList _ _ _ (⟨some 11, _, _, _, _, _⟩ :: _) _ _); refine wpList_lookup_own_int _ rfl (.tmp 9) (.tmp 10) 154 rfl 9 3 .i64 (Maps.string_keyed Try.underlying9) Try.underlying154 Try.underlying3 (zero_int _) b (k + 1) _ rfl M5.out _ (.string x) rfl (WideMaps.keyOf_string_mk Try.underlying9 (s := ⟨x.toArray⟩) HKL.out) ?_; intro c11 hat11 hwc11; obtain rfl := (put_names seen x 2 c11 hat11); clear hat11 hwc11))
    go_ret
    exact ⟨rfl, G5.out, M5.out.lt⟩
abbrev rAny (b : Nat) : Res := ⟨One b, fun _ => True⟩
theorem holds_any {w : World} {b : Nat} (h : b < w.heap.size) : (rAny b).holds w := ⟨fun _ e => e ▸ h, fun _ _ _ => trivial⟩
theorem SL.setMap {S : Nat → Prop} {w0 w w' : World} {l : List Res} (h : SL S w0 w l) (i : Nat) {P : Program} {k : TypeId} {R : Value → Option (DataW Unit × List MemPlace)} {b n n' : Nat} {D D' : DataW Unit} (hi : l[i]? = some (rMap P k R b n D)) (hg : w.grownBy w' (some b)) (hm : w'.ownsMap P k R b n' D') : SL S w0 w' (l.set i (rMap P k R b n' D')) :=
  h.upd i hi ⟨hg.os, hg.tape, hg.output, hg.size, fun k hk hn => hg.block k hk (fun e => hn (by injection e))⟩ _ (holds_map hm) (fun k hk => .inl hk)
theorem SL.lostMap {S : Nat → Prop} {w0 w w' : World} {l : List Res} (h : SL S w0 w l) (i : Nat) {P : Program} {k : TypeId} {R : Value → Option (DataW Unit × List MemPlace)} {b n : Nat} {D : DataW Unit} (hi : l[i]? = some (rMap P k R b n D)) (hg : w.grownBy w' (some b)) (hb : b < w'.heap.size) : SL S w0 w' (l.set i (rAny b)) :=
  h.upd i hi ⟨hg.os, hg.tape, hg.output, hg.size, fun k hk hn => hg.block k hk (fun e => hn (by injection e))⟩ _ (holds_any hb) (fun k hk => .inl hk)
theorem SL.allocMap {S : Nat → Prop} {w0 w : World} {l : List Res} (h : SL S w0 w l) (P : Program) (k : TypeId) (R : Value → Option (DataW Unit × List MemPlace)) : SL S w0 (w.alloc (.map #[] 0)) (l ++ [rMap P k R w.heap.size 0 (Maps.setOf one1 [])]) :=
  h.add ((Bel.refl w).alloc _) _ (holds_map (World.ownsMap_made w P k R)) (fun g hg => by cases hg; exact Nat.le_refl _)

set_option maxRecDepth 100000 in
set_option maxHeartbeats 1000000 in
theorem measures_any (x : Row (List UInt8)) (w : World) (hx : x.rd w) (hn : x.n ≤ 1000000) :
    Calls Try.prog 86 #[.slice x.A x.n x.c] w fun e w' => e = .returned (.int .i64 (measErr x.l)) ∧ Bel w w' := by
  have hlen : Hid (x.l.length = x.n) := hx.len
  have HX := Lib.hid hx
  have hmm := @run_makeMap Try.prog
  obtain ⟨A, n, c, ms⟩ := x
  simp only at *
  clear hx
  by_cases hl : 1 ≤ n ∧ n ≤ 3
  · obtain ⟨hl1, hl2⟩ := hl
    have d1 : decide ((n : Int) < 1) = false := by simp <;> omega
    have d2 : decide ((3 : Int) < n) = false := by simp <;> omega
    have HE : Hid (measErr ms = measFrom (ms.take 0) (ms.drop 0)) := by show _ = _; unfold measErr; rw [if_neg (by have := hlen.out; omega)]; rfl
    have H := Lib.hid ((SL.start No w).allocMap Try.prog 9 (plainElem (H := Unit) Try.prog 3))
    (try simp only [List.set_cons_zero, List.set_cons_succ, List.cons_append, List.nil_append, List.eraseIdx_cons_zero, List.eraseIdx_cons_succ, List.setIfInBounds_toArray, World.size_alloc, selR, List.getD_cons_zero, List.getD_cons_succ] at H)
    rw [show Maps.setOf one1 [] = Maps.setOf one1 (litsS (ms.take 0)) from rfl] at H
    go_enter Try.func86, Try.ntmps86
    go_wp2_with fail
    generalize w.heap.size = b at *
    clear d1 d2
    go_loopg [18] n (fun gg i wr => ∃ k : Nat, gg = n - k ∧ k ≤ n ∧ i = .int .i64 k ∧ Hid (SL No w wr [rMap Try.prog 9 (plainElem (H := Unit) Try.prog 3) b k (Maps.setOf one1 (litsS (ms.take k)))]) ∧ Hid (measErr ms = measFrom (ms.take k) (ms.drop k)))
    case atStart => exact ⟨0, rfl, by omega, rfl, H, HE⟩
    case round =>
      clear H HE
      obtain ⟨k, hgk, hk, rfl, H, HE⟩ := hrel
      have Hgk := Lib.hid hgk
      clear hgk
      by_cases hlt : k < n
      · obtain ⟨bb, oo, m, hA, hm, hml, hc⟩ := (HX.out.mono H.out.to).textAt (k := k) hlt
        simp only at hA
        subst hA
        have HS := Lib.hid (measFrom_drop (seen := ms.take k) hm)
        have HTK := Lib.hid (take_snoc_get hm)
        have i0 : (0 : Int) ≤ k := by omega
        have i1 : (k : Int) < n := by omega
        clear hm
        go_wp2_with fail
        refine (name_any m _ (by omega)).mono ?_; rintro e w1 ⟨rfl, rfl⟩
        clear hc
        cases hN : isName m with
        | false =>
          have HN : Hid (measErr ms = 2) := by show _ = _; rw [HE.out, HS.out, hN]; rfl
          rw [show errOf false = 2 from rfl]
          clear HE HS
          go_wp2
          go_ret
          rw [HN.out]
          exact ⟨rfl, H.out.to⟩
        | true =>
          rw [show errOf true = 0 from rfl]
          by_cases hmem : m ∈ ms.take k
          · have HN : Hid (measErr ms = 11) := by show _ = _; rw [HE.out, HS.out, if_pos hN, if_pos hmem]
            have HF := Lib.hid (fresh_old b k (ms.take k) m wr hml (by omega) (H.out.map 0 rfl) hmem)
            clear HE HS hmem
            go_wp2_with fail
            refine HF.out.mono ?_; rintro e w2 ⟨rfl, hg2, hb2⟩
            replace H := Lib.hid (H.out.lostMap 0 rfl hg2 hb2); (try simp only [List.set_cons_zero, List.set_cons_succ, List.cons_append, List.nil_append, List.eraseIdx_cons_zero, List.eraseIdx_cons_succ, List.setIfInBounds_toArray, World.size_alloc, selR, List.getD_cons_zero, List.getD_cons_succ] at H)
            clear hg2 hb2 HF
            go_wp2
            go_ret
            rw [HN.out]
            exact ⟨rfl, H.out.to⟩
          · have HN : Hid (measErr ms = measFrom (ms.take (k + 1)) (ms.drop (k + 1))) := by show _ = _; rw [HE.out, HS.out, if_pos hN, if_neg hmem, HTK.out]
            have HF := Lib.hid (fresh_new b k (ms.take k) m wr hml (by omega) (H.out.map 0 rfl) hmem)
            clear HE HS hmem
            go_wp2_with fail
            refine HF.out.mono ?_; rintro e w2 ⟨rfl, hg2, hm2⟩
            replace H := Lib.hid (H.out.setMap 0 rfl hg2 hm2); (try simp only [List.set_cons_zero, List.set_cons_succ, List.cons_append, List.nil_append, List.eraseIdx_cons_zero, List.eraseIdx_cons_succ, List.setIfInBounds_toArray, World.size_alloc, selR, List.getD_cons_zero, List.getD_cons_succ] at H)
            rw [← HTK.out] at H
            clear hg2 hm2 HF
            go_wp2
            go_roundg (n - (k + 1))
            case rel => exact ⟨k + 1, rfl, by omega, by go_num, H, HN⟩
            case measure => rw [Hgk.out]; omega
      · have HN : Hid (measErr ms = 0) := by show _ = _; rw [HE.out, List.drop_of_length_le (by have := hlen.out; omega)]; rfl
        clear HE
        go_wp2
        go_ret
        rw [HN.out]
        exact ⟨rfl, H.out.to⟩
  · have HE : Hid (measErr ms = 5) := by show _ = _; unfold measErr; rw [if_pos (by have := hlen.out; omega)]
    rcases (show n < 1 ∨ (1 ≤ n ∧ 3 < n) by omega) with h | ⟨h, h'⟩
    · have d1 : decide ((n : Int) < 1) = true := by simp <;> omega
      go_enter Try.func86, Try.ntmps86
      go_wp2
      go_ret
      rw [HE.out]
      exact ⟨rfl, Bel.refl _⟩
    · have d1 : decide ((n : Int) < 1) = false := by simp <;> omega
      have d2 : decide ((3 : Int) < n) = true := by simp <;> omega
      go_enter Try.func86, Try.ntmps86
      go_wp2
      go_ret
      rw [HE.out]
      exact ⟨rfl, Bel.refl _⟩

set_option maxRecDepth 100000 in
set_option maxHeartbeats 1000000 in
theorem schcheck_any (s : Sch) (w : World) (hs : s.rd w) (hn : s.dm.n ≤ 1000000) (hm : s.ms.n ≤ 1000000) (hd : ∀ d ∈ s.dm.l, d.tr.n ≤ 1000000 ∧ ∀ t ∈ d.tr.l, t.up.n ≤ 100000) :
    Calls Try.prog 66 #[.agg s.cs] w fun e w' => e = .returned (.int .i64 (schErr s.con)) ∧ Bel w w' := by
  have hlen : Hid (s.dm.l.length = s.dm.n) := hs.dm.len
  have HD := Lib.hid hs.dm
  have HMs := Lib.hid (fun w' (hb : Bel w w') => measures_any s.ms w' (hs.ms.mono hb) hm)
  have HDD := Lib.hid hd
  have hmm := @run_makeMap Try.prog
  have H := Lib.hid ((SL.start No w).alloc s.cs 25)
  (try simp only [List.set_cons_zero, List.set_cons_succ, List.cons_append, List.nil_append, List.eraseIdx_cons_zero, List.eraseIdx_cons_succ, List.setIfInBounds_toArray, World.size_alloc, selR, List.getD_cons_zero, List.getD_cons_succ] at H)
  obtain ⟨⟨A, n, c, ds⟩, ⟨A2, n2, c2, ms⟩⟩ := s
  simp only [Sch.cs, Sch.con] at *
  clear hs hd
  by_cases hl : 1 ≤ n ∧ n ≤ 16
  · obtain ⟨hl1, hl2⟩ := hl
    have d1 : decide ((n : Int) < 1) = false := by simp <;> omega
    have d2 : decide ((16 : Int) < n) = false := by simp <;> omega
    have HE0 : Hid (schErr ⟨ds.map Dm.con, ms⟩ = if dimsFrom [] (ds.map Dm.con) ≠ 0 then dimsFrom [] (ds.map Dm.con) else measErr ms) := by show _ = _; unfold schErr; simp only [List.length_map]; rw [if_neg (by have := hlen.out; omega)]
    have HE : Hid (dimsFrom [] (ds.map Dm.con) = dimsFrom ((ds.map Dm.nm).take 0) ((ds.map Dm.con).drop 0)) := rfl
    replace H := Lib.hid (H.out.allocMap Try.prog 9 (plainElem (H := Unit) Try.prog 3)); (try simp only [List.set_cons_zero, List.set_cons_succ, List.cons_append, List.nil_append, List.eraseIdx_cons_zero, List.eraseIdx_cons_succ, List.setIfInBounds_toArray, World.size_alloc, selR, List.getD_cons_zero, List.getD_cons_succ] at H)
    rw [show Maps.setOf one1 [] = Maps.setOf one1 (litsS ((ds.map Dm.nm).take 0)) from rfl] at H
    go_enter Try.func66, Try.ntmps66
    have c0 := (H.out.blk 0 rfl).cell 0; simp only [List.getElem?_toArray, List.getElem?_cons_zero, List.getElem?_cons_succ] at c0
    go_wp2_with fail
    clear c0
    generalize w.heap.size + 1 = b at *
    generalize w.heap.size = x at *
    clear d1 d2
    go_loopg [21] n (fun gg i wr => ∃ k : Nat, gg = n - k ∧ k ≤ n ∧ i = .int .i64 k ∧ Hid (SL No w wr [rBlk x 25 #[.slice A n c, .slice A2 n2 c2], rMap Try.prog 9 (plainElem (H := Unit) Try.prog 3) b k (Maps.setOf one1 (litsS ((ds.map Dm.nm).take k)))]) ∧ Hid (dimsFrom [] (ds.map Dm.con) = dimsFrom ((ds.map Dm.nm).take k) ((ds.map Dm.con).drop k)))
    case atStart => exact ⟨0, rfl, by omega, rfl, H, HE⟩
    case round =>
      clear H HE
      obtain ⟨k, hgk, hk, rfl, H, HE⟩ := hrel
      have Hgk := Lib.hid hgk
      clear hgk
      by_cases hlt : k < n
      · obtain ⟨bb, oo, d, hA, hbb, hdk, hdr, hrg⟩ := (HD.out.mono H.out.to).dmAt (k := k) hlt
        simp only at hA
        subst hA
        have hdc : (ds.map Dm.con)[k]? = some d.con := by rw [List.getElem?_map, hdk]; rfl
        have hdn : (ds.map Dm.nm)[k]? = some d.nm := by rw [List.getElem?_map, hdk]; rfl
        have HSt := Lib.hid (dimsFrom_drop (seen := (ds.map Dm.nm).take k) hdc)
        have HTK := Lib.hid (take_snoc_get hdn)
        have hml := hdr.nm
        obtain ⟨hu1, hu2⟩ := HDD.out d (List.mem_of_getElem? hdk)
        have HR := Lib.hid hrg
        have HRd := Lib.hid hdr
        have i0 : (0 : Int) ≤ k := by omega
        have i1 : (k : Int) < n := by omega
        clear hdk hdr hrg hdc hdn hbb
        go_wp2_with (first | ((with_reducible show wpList _ _ _ (⟨some 24, _, _, _, _, _⟩ :: _) _ _); (refine wpList_load_row_at rfl rowDm (.tmp 23) rfl bb (oo + k * 2) rfl d.cs rfl HR.out ?_)) | ((with_reducible show wpList _ _ _ (⟨_, .store _ (.tmp 5) _, _, _, _, _⟩ :: _) _ _); (refine wpList_store_new rfl rowDm (.tmp 5) (.tmp 24) rfl rfl rfl (d.cs) rfl rfl (dm_one d) ?_; replace H := Lib.hid (H.out.alloc (d.cs) 66); (try simp only [List.set_cons_zero, List.set_cons_succ, List.cons_append, List.nil_append, List.eraseIdx_cons_zero, List.eraseIdx_cons_succ, List.setIfInBounds_toArray, World.size_alloc, selR, List.getD_cons_zero, List.getD_cons_succ] at H))) | ((with_reducible show wpList _ _ _ (⟨some 25, _, _, _, _, _⟩ :: _) _ _); (refine wpList_load_blk rfl rowDm (.tmp 5) rfl _ rfl (H.out.blk 2 rfl) rfl ?_)))
        refine (dmcheck_any d _ (HRd.out.mono ((Bel.refl _).alloc _)) hu1 hu2).mono ?_; rintro e w1 ⟨rfl, hb1⟩
        replace H := Lib.hid (H.out.bel hb1); (try simp only [List.set_cons_zero, List.set_cons_succ, List.cons_append, List.nil_append, List.eraseIdx_cons_zero, List.eraseIdx_cons_succ, List.setIfInBounds_toArray, World.size_alloc, selR, List.getD_cons_zero, List.getD_cons_succ] at H)
        clear hb1
        by_cases hE0 : dimErr d.con = 0
        · rw [hE0]
          have c1 := (H.out.blk 2 rfl).cell 0; simp only [List.getElem?_toArray, List.getElem?_cons_zero, List.getElem?_cons_succ] at c1
          by_cases hmem : d.nm ∈ (ds.map Dm.nm).take k
          · have HN : Hid (schErr ⟨ds.map Dm.con, ms⟩ = 11) := by
              show _ = _
              have h1 : dimsFrom [] (ds.map Dm.con) = 11 := by rw [HE.out, HSt.out, if_neg (by omega), if_pos hmem]
              rw [HE0.out, h1]
              rfl
            have HF := Lib.hid (fresh_old b k ((ds.map Dm.nm).take k) d.nm w1 hml (by omega) (H.out.map 1 rfl) hmem)
            clear HE HE0 HSt hmem hE0
            go_wp2_with fail
            refine HF.out.mono ?_; rintro e w2 ⟨rfl, hg2, hb2⟩
            replace H := Lib.hid (H.out.lostMap 1 rfl hg2 hb2); (try simp only [List.set_cons_zero, List.set_cons_succ, List.cons_append, List.nil_append, List.eraseIdx_cons_zero, List.eraseIdx_cons_succ, List.setIfInBounds_toArray, World.size_alloc, selR, List.getD_cons_zero, List.getD_cons_succ] at H)
            clear hg2 hb2 HF c1
            go_wp2
            go_ret
            rw [HN.out]
            exact ⟨rfl, H.out.to⟩
          · have HN : Hid (dimsFrom [] (ds.map Dm.con) = dimsFrom ((ds.map Dm.nm).take (k + 1)) ((ds.map Dm.con).drop (k + 1))) := by show _ = _; rw [HE.out, HSt.out, if_neg (by omega), if_neg hmem, HTK.out]
            have HF := Lib.hid (fresh_new b k ((ds.map Dm.nm).take k) d.nm w1 hml (by omega) (H.out.map 1 rfl) hmem)
            clear HE HSt hmem hE0
            go_wp2_with fail
            refine HF.out.mono ?_; rintro e w2 ⟨rfl, hg2, hm2⟩
            replace H := Lib.hid (H.out.setMap 1 rfl hg2 hm2); (try simp only [List.set_cons_zero, List.set_cons_succ, List.cons_append, List.nil_append, List.eraseIdx_cons_zero, List.eraseIdx_cons_succ, List.setIfInBounds_toArray, World.size_alloc, selR, List.getD_cons_zero, List.getD_cons_succ] at H)
            replace H := Lib.hid (H.out.sel [0, 1] (by decide) (by simp)); (try simp only [List.set_cons_zero, List.set_cons_succ, List.cons_append, List.nil_append, List.eraseIdx_cons_zero, List.eraseIdx_cons_succ, List.setIfInBounds_toArray, World.size_alloc, selR, List.getD_cons_zero, List.getD_cons_succ] at H)
            rw [← HTK.out] at H
            clear hg2 hm2 HF c1
            go_wp2
            go_roundg (n - (k + 1))
            case rel => exact ⟨k + 1, rfl, by omega, by go_num, H, HN⟩
            case measure => rw [Hgk.out]; omega
        · have HN : Hid (schErr ⟨ds.map Dm.con, ms⟩ = dimErr d.con) := by
            show _ = _
            have h1 : dimsFrom [] (ds.map Dm.con) = dimErr d.con := by rw [HE.out, HSt.out, if_pos hE0]
            rw [HE0.out, h1, if_pos hE0]
          have dE : (dimErr d.con != 0) = true := by simpa using hE0
          have dE2 : (dimErr d.con == 0) = false := by simpa using hE0
          clear HE HE0 HSt hE0
          go_wp2
          go_ret
          rw [HN.out]
          exact ⟨rfl, H.out.to⟩
      · have HN : Hid (schErr ⟨ds.map Dm.con, ms⟩ = measErr ms) := by
          show _ = _
          have h1 : dimsFrom [] (ds.map Dm.con) = 0 := by rw [HE.out, List.drop_of_length_le (by have := hlen.out; simp; omega)]; rfl
          rw [HE0.out, h1]
          rfl
        have c1 := (H.out.blk 0 rfl).cell 1; simp only [List.getElem?_toArray, List.getElem?_cons_zero, List.getElem?_cons_succ] at c1
        clear HE HE0
        go_wp2_with fail
        refine (HMs.out _ H.out.to).mono ?_; rintro e w2 ⟨rfl, hb2⟩
        clear c1
        go_wp2
        go_ret
        rw [HN.out]
        exact ⟨rfl, H.out.to.trans hb2⟩
  · have HE : Hid (schErr ⟨ds.map Dm.con, ms⟩ = 5) := by show _ = _; unfold schErr; simp only [List.length_map]; rw [if_pos (by have := hlen.out; omega)]
    have c0 := (H.out.blk 0 rfl).cell 0; simp only [List.getElem?_toArray, List.getElem?_cons_zero, List.getElem?_cons_succ] at c0
    rcases (show n < 1 ∨ (1 ≤ n ∧ 16 < n) by omega) with h | ⟨h, h'⟩
    · have d1 : decide ((n : Int) < 1) = true := by simp <;> omega
      go_enter Try.func66, Try.ntmps66
      go_wp2
      go_ret
      rw [HE.out]
      exact ⟨rfl, H.out.to⟩
    · have d1 : decide ((n : Int) < 1) = false := by simp <;> omega
      have d2 : decide ((16 : Int) < n) = true := by simp <;> omega
      go_enter Try.func66, Try.ntmps66
      go_wp2
      go_ret
      rw [HE.out]
      exact ⟨rfl, H.out.to⟩

end Go.Proofs.Ytelnhhbefdfeoaa

namespace Go.Proofs.Ytelnhhbefdfeoaa
open Go.RowKit
set_option linter.unusedVariables false
set_option linter.unusedSimpArgs false

/-- None of the first of these. -/
def NoIn (names : List (List UInt8)) (j : Nat) (x : List UInt8) : Prop := ∀ i, i < j → names[i]? ≠ some x
theorem NoIn.zero {names : List (List UInt8)} {x : List UInt8} : NoIn names 0 x := fun i hi => absurd hi (by omega)
theorem NoIn.step {names : List (List UInt8)} {j : Nat} {x y : List UInt8} (h : NoIn names j x) (hy : names[j]? = some y) (hne : (y == x) = false) : NoIn names (j + 1) x := by
  intro i hi
  rcases (show i < j ∨ i = j by omega) with h' | h'
  · exact h i h'
  · rw [h', hy]
    intro e
    injection e with e
    rw [e] at hne
    simp at hne
theorem NoIn.all {names : List (List UInt8)} {k : Nat} {x : List UInt8} (h : NoIn names k x) : x ∉ names.take k := by
  rw [List.mem_iff_getElem?]
  rintro ⟨i, hi⟩
  by_cases hik : i < k
  · rw [List.getElem?_take_of_lt hik] at hi
    exact h i hik hi
  · rw [List.getElem?_eq_none (by simp; omega)] at hi
    cases hi
theorem in_take {names : List (List UInt8)} {j k : Nat} {x y : List UInt8} (hjk : j < k) (hy : names[j]? = some y) (he : (y == x) = true) : x ∈ names.take k := by
  rw [List.mem_iff_getElem?]
  exact ⟨j, by rw [List.getElem?_take_of_lt hjk, hy]; simpa using he⟩

set_option maxRecDepth 100000 in
set_option maxHeartbeats 2000000 in
theorem schwrong_any (s : Sch) (w : World) (hs : s.rd w) (hn : s.dm.n ≤ 1000000) (hm : s.ms.n ≤ 1000000) (hd : ∀ d ∈ s.dm.l, d.tr.n ≤ 1000000) :
    Calls Try.prog 34 #[.agg s.cs] w fun e w' => e = .returned (.int .i64 (schErr s.con)) ∧ Bel w w' := by
  have hlen : Hid (s.dm.l.length = s.dm.n) := hs.dm.len
  have hlen2 : Hid (s.ms.l.length = s.ms.n) := hs.ms.len
  have HD := Lib.hid hs.dm
  have HMs := Lib.hid hs.ms
  have HDD := Lib.hid hd
  have H := Lib.hid ((SL.start No w).alloc s.cs 25)
  (try simp only [List.set_cons_zero, List.set_cons_succ, List.cons_append, List.nil_append, List.eraseIdx_cons_zero, List.eraseIdx_cons_succ, List.setIfInBounds_toArray, World.size_alloc, selR, List.getD_cons_zero, List.getD_cons_succ] at H)
  obtain ⟨⟨A, n, c, ds⟩, ⟨A2, n2, c2, ms⟩⟩ := s
  simp only [Sch.cs, Sch.con] at *
  clear hs hd
  by_cases hl : 1 ≤ n ∧ n ≤ 16
  · obtain ⟨hl1, hl2⟩ := hl
    have d1 : decide ((n : Int) < 1) = false := by simp <;> omega
    have d2 : decide ((16 : Int) < n) = false := by simp <;> omega
    have HE0 : Hid (schErr ⟨ds.map Dm.con, ms⟩ = if dimsFrom [] (ds.map Dm.con) ≠ 0 then dimsFrom [] (ds.map Dm.con) else measErr ms) := by show _ = _; unfold schErr; simp only [List.length_map]; rw [if_neg (by have := hlen.out; omega)]
    have HE : Hid (dimsFrom [] (ds.map Dm.con) = dimsFrom ((ds.map Dm.nm).take 0) ((ds.map Dm.con).drop 0)) := rfl
    go_enter Try.func34, Try.ntmps34
    have c0 := (H.out.blk 0 rfl).cell 0; simp only [List.getElem?_toArray, List.getElem?_cons_zero, List.getElem?_cons_succ] at c0
    go_wp2_with fail
    clear c0
    generalize w.heap.size = x at *
    clear d1 d2
    go_loopg [21] n (fun gg i wr => ∃ k : Nat, gg = n - k ∧ k ≤ n ∧ i = .int .i64 k ∧ Hid (SL No w wr [rBlk x 25 #[.slice A n c, .slice A2 n2 c2]]) ∧ Hid (dimsFrom [] (ds.map Dm.con) = dimsFrom ((ds.map Dm.nm).take k) ((ds.map Dm.con).drop k)))
    case atStart => exact ⟨0, rfl, by omega, rfl, H, HE⟩
    case round =>
      clear H HE
      obtain ⟨k, hgk, hk, rfl, H, HE⟩ := hrel
      have Hgk := Lib.hid hgk
      clear hgk
      by_cases hlt : k < n
      · obtain ⟨bb, oo, d, hA, hbb, hdk, hdr, hrg⟩ := (HD.out.mono H.out.to).dmAt (k := k) hlt
        simp only at hA
        subst hA
        have hdc : (ds.map Dm.con)[k]? = some d.con := by rw [List.getElem?_map, hdk]; rfl
        have hdn : (ds.map Dm.nm)[k]? = some d.nm := by rw [List.getElem?_map, hdk]; rfl
        have HSt := Lib.hid (dimsFrom_drop (seen := (ds.map Dm.nm).take k) hdc)
        have HTK := Lib.hid (take_snoc_get hdn)
        have hu1 := HDD.out d (List.mem_of_getElem? hdk)
        have HR := Lib.hid hrg
        have HDK := Lib.hid hdk
        have i0 : (0 : Int) ≤ k := by omega
        have i1 : (k : Int) < n := by omega
        have c0 := (H.out.blk 0 rfl).cell 0; simp only [List.getElem?_toArray, List.getElem?_cons_zero, List.getElem?_cons_succ] at c0
        clear hdk hrg hdc hdn hbb
        go_wp2_with ((with_reducible show wpList _ _ _ (⟨some 28, _, _, _, _, _⟩ :: _) _ _); (refine wpList_load_row_at rfl rowDm (.tmp 27) rfl bb (oo + k * 2) rfl d.cs rfl HR.out ?_))
        refine (dmwrong_any d _ hdr hu1).mono ?_; rintro e w1 ⟨rfl, hb1⟩
        replace H := Lib.hid (H.out.bel hb1); (try simp only [List.set_cons_zero, List.set_cons_succ, List.cons_append, List.nil_append, List.eraseIdx_cons_zero, List.eraseIdx_cons_succ, List.setIfInBounds_toArray, World.size_alloc, selR, List.getD_cons_zero, List.getD_cons_succ] at H)
        clear hb1 hdr c0 HR
        by_cases hE0 : dimErr d.con = 0
        · rw [hE0]
          have HNo : Hid (NoIn (ds.map Dm.nm) 0 d.nm) := NoIn.zero
          have HS2 : Hid (dimsFrom [] (ds.map Dm.con) = if d.nm ∈ (ds.map Dm.nm).take k then 11 else dimsFrom ((ds.map Dm.nm).take (k + 1)) ((ds.map Dm.con).drop (k + 1))) := by show _ = _; rw [HE.out, HSt.out, if_neg (by omega), HTK.out]
          clear HE HSt hE0
          go_wp2_with fail
          go_loopg [5] k (fun gg i wx => ∃ j : Nat, gg = k - j ∧ j ≤ k ∧ i = .int .i64 j ∧ Hid (SL No w wx [rBlk x 25 #[.slice (some ⟨bb, oo, none⟩) n c, .slice A2 n2 c2]]) ∧ Hid (NoIn (ds.map Dm.nm) j d.nm))
          case atStart => exact ⟨0, rfl, by omega, rfl, H, HNo⟩
          case round =>
            clear HNo H
            obtain ⟨j, hgj, hj, rfl, H, HNo⟩ := hrel
            have Hgj := Lib.hid hgj
            clear hgj
            by_cases hjk : j < k
            · obtain ⟨bb', oo', d', hA', hbb', hd', hdr', hrg'⟩ := (HD.out.mono H.out.to).dmAt (k := j) (by show j < n; omega)
              injection hA' with hA'
              injection hA' with hA1 hA2
              subst hA1 hA2
              have cj := hrg' 0 _ rfl
              obtain ⟨bb', oo', d2, hA', hbb2, hd2, hdr2, hrg2⟩ := (HD.out.mono H.out.to).dmAt (k := k) hlt
              injection hA' with hA'
              injection hA' with hA1 hA2
              subst hA1 hA2
              rw [HDK.out] at hd2
              injection hd2 with hd2
              subst hd2
              have ck := hrg2 0 _ rfl
              have c0 := (H.out.blk 0 rfl).cell 0; simp only [List.getElem?_toArray, List.getElem?_cons_zero, List.getElem?_cons_succ] at c0
              simp only [Nat.add_zero] at cj ck
              have HTN' : Hid ((ds.map Dm.nm)[j]? = some d'.nm) := by show _ = _; rw [List.getElem?_map, hd']; rfl
              have j0 : (0 : Int) ≤ j := by omega
              have j1 : (j : Int) < n := by omega
              clear hd' hrg' hdr' hbb' hbb2 hdr2 hrg2
              cases heq : (d'.nm == d.nm) with
              | true =>
                have HN : Hid (schErr ⟨ds.map Dm.con, ms⟩ = 11) := by
                  show _ = _
                  have h1 : dimsFrom [] (ds.map Dm.con) = 11 := by rw [HS2.out, if_pos (in_take hjk HTN'.out heq)]
                  rw [HE0.out, h1]
                  rfl
                clear HS2 HE0
                go_wp2_with fail
                go_quiet (fail)
                go_wp2
                go_ret
                rw [HN.out]
                exact ⟨rfl, (H.out.drewN _).to⟩
              | false =>
                have HN := Lib.hid (HNo.out.step HTN'.out heq)
                go_wp2_with fail
                go_quiet (fail)
                go_wp2
                go_roundg (k - (j + 1))
                case rel => exact ⟨j + 1, rfl, by omega, by go_num, H.out.drewN _, HN⟩
                case measure => rw [Hgj.out]; omega
            · have HN : Hid (dimsFrom [] (ds.map Dm.con) = dimsFrom ((ds.map Dm.nm).take (k + 1)) ((ds.map Dm.con).drop (k + 1))) := by
                show _ = _
                obtain rfl : j = k := by omega
                rw [HS2.out, if_neg HNo.out.all]
              clear HS2
              go_wp2_with fail
              go_roundg (n - (k + 1))
              case rel => exact ⟨k + 1, rfl, by omega, by go_num, H, HN⟩
              case measure => rw [Hgk.out]; omega
        · have HN : Hid (schErr ⟨ds.map Dm.con, ms⟩ = dimErr d.con) := by
            show _ = _
            have h1 : dimsFrom [] (ds.map Dm.con) = dimErr d.con := by rw [HE.out, HSt.out, if_pos hE0]
            rw [HE0.out, h1, if_pos hE0]
          have dE : (dimErr d.con != 0) = true := by simpa using hE0
          have dE2 : (dimErr d.con == 0) = false := by simpa using hE0
          clear HE HE0 HSt hE0
          go_wp2
          go_ret
          rw [HN.out]
          exact ⟨rfl, H.out.to⟩
      · have HN1 : Hid (schErr ⟨ds.map Dm.con, ms⟩ = measErr ms) := by
          show _ = _
          have h1 : dimsFrom [] (ds.map Dm.con) = 0 := by rw [HE.out, List.drop_of_length_le (by have := hlen.out; simp; omega)]; rfl
          rw [HE0.out, h1]
          rfl
        clear HE HE0
        have c1 := (H.out.blk 0 rfl).cell 1; simp only [List.getElem?_toArray, List.getElem?_cons_zero, List.getElem?_cons_succ] at c1
        by_cases hl : 1 ≤ n2 ∧ n2 ≤ 3
        · obtain ⟨hl3, hl4⟩ := hl
          have d1 : decide ((n2 : Int) < 1) = false := by simp <;> omega
          have d2 : decide ((3 : Int) < n2) = false := by simp <;> omega
          have HM : Hid (schErr ⟨ds.map Dm.con, ms⟩ = measFrom (ms.take 0) (ms.drop 0)) := by show _ = _; rw [HN1.out]; unfold measErr; rw [if_neg (by have := hlen2.out; omega)]; rfl
          clear HN1
          go_wp2_with fail
          clear c1 d1 d2
          go_loopg [65] n2 (fun gg i wr => ∃ k : Nat, gg = n2 - k ∧ k ≤ n2 ∧ i = .int .i64 k ∧ Hid (SL No w wr [rBlk x 25 #[.slice A n c, .slice A2 n2 c2]]) ∧ Hid (schErr ⟨ds.map Dm.con, ms⟩ = measFrom (ms.take k) (ms.drop k)))
          case atStart => exact ⟨0, rfl, by omega, rfl, H, HM⟩
          case round =>
            clear H HM
            obtain ⟨k2, hgk, hk2, rfl, H, HM⟩ := hrel
            have Hgk := Lib.hid hgk
            clear hgk
            by_cases hlt2 : k2 < n2
            · obtain ⟨bb, oo, m, hA, hmk, hml, hc⟩ := (HMs.out.mono H.out.to).textAt (k := k2) hlt2
              simp only at hA
              subst hA
              have HSt := Lib.hid (measFrom_drop (seen := ms.take k2) hmk)
              have HTK := Lib.hid (take_snoc_get hmk)
              have HMK := Lib.hid hmk
              have i0 : (0 : Int) ≤ k2 := by omega
              have i1 : (k2 : Int) < n2 := by omega
              have c1 := (H.out.blk 0 rfl).cell 1; simp only [List.getElem?_toArray, List.getElem?_cons_zero, List.getElem?_cons_succ] at c1
              clear hmk
              go_wp2_with fail
              refine (rname_any m _ (by omega)).mono ?_; rintro e w1 ⟨rfl, rfl⟩
              clear c1 hc
              cases hN : isName m with
              | false =>
                have HN : Hid (schErr ⟨ds.map Dm.con, ms⟩ = 2) := by show _ = _; rw [HM.out, HSt.out, hN]; rfl
                clear HM HSt
                go_wp2
                go_ret
                rw [HN.out]
                exact ⟨rfl, H.out.to⟩
              | true =>
                have HNo : Hid (NoIn ms 0 m) := NoIn.zero
                have HS2 : Hid (schErr ⟨ds.map Dm.con, ms⟩ = if m ∈ ms.take k2 then 11 else measFrom (ms.take (k2 + 1)) (ms.drop (k2 + 1))) := by show _ = _; rw [HM.out, HSt.out, if_pos hN, HTK.out]
                clear HM HSt hN
                go_wp2_with fail
                go_loopg [7] k2 (fun gg i wx => ∃ j : Nat, gg = k2 - j ∧ j ≤ k2 ∧ i = .int .i64 j ∧ Hid (SL No w wx [rBlk x 25 #[.slice A n c, .slice (some ⟨bb, oo, none⟩) n2 c2]]) ∧ Hid (NoIn ms j m))
                case atStart => exact ⟨0, rfl, by omega, rfl, H, HNo⟩
                case round =>
                  clear HNo H
                  obtain ⟨j, hgj, hj, rfl, H, HNo⟩ := hrel
                  have Hgj := Lib.hid hgj
                  clear hgj
                  by_cases hjk : j < k2
                  · obtain ⟨bb', oo', m', hA', hmj, hml', cj⟩ := (HMs.out.mono H.out.to).textAt (k := j) (by show j < n2; omega)
                    injection hA' with hA'
                    injection hA' with hA1 hA2
                    subst hA1 hA2
                    obtain ⟨bb', oo', m2, hA', hmk, hml2, ck⟩ := (HMs.out.mono H.out.to).textAt (k := k2) hlt2
                    injection hA' with hA'
                    injection hA' with hA1 hA2
                    subst hA1 hA2
                    rw [HMK.out] at hmk
                    injection hmk with hmk
                    subst hmk
                    have c1 := (H.out.blk 0 rfl).cell 1; simp only [List.getElem?_toArray, List.getElem?_cons_zero, List.getElem?_cons_succ] at c1
                    have HTN' := Lib.hid hmj
                    have j0 : (0 : Int) ≤ j := by omega
                    have j1 : (j : Int) < n2 := by omega
                    clear hmj
                    cases heq : (m' == m) with
                    | true =>
                      have HN : Hid (schErr ⟨ds.map Dm.con, ms⟩ = 11) := by show _ = _; rw [HS2.out, if_pos (in_take hjk HTN'.out heq)]
                      clear HS2
                      go_wp2_with fail
                      go_quiet (fail)
                      go_wp2
                      go_ret
                      rw [HN.out]
                      exact ⟨rfl, (H.out.drewN _).to⟩
                    | false =>
                      have HN := Lib.hid (HNo.out.step HTN'.out heq)
                      go_wp2_with fail
                      go_quiet (fail)
                      go_wp2
                      go_roundg (k2 - (j + 1))
                      case rel => exact ⟨j + 1, rfl, by omega, by go_num, H.out.drewN _, HN⟩
                      case measure => rw [Hgj.out]; omega
                  · have HN : Hid (schErr ⟨ds.map Dm.con, ms⟩ = measFrom (ms.take (k2 + 1)) (ms.drop (k2 + 1))) := by
                      show _ = _
                      obtain rfl : j = k2 := by omega
                      rw [HS2.out, if_neg HNo.out.all]
                    clear HS2
                    go_wp2_with fail
                    go_roundg (n2 - (k2 + 1))
                    case rel => exact ⟨k2 + 1, rfl, by omega, by go_num, H, HN⟩
                    case measure => rw [Hgk.out]; omega
            · have HN : Hid (schErr ⟨ds.map Dm.con, ms⟩ = 0) := by show _ = _; rw [HM.out, List.drop_of_length_le (by have := hlen2.out; omega)]; rfl
              clear HM
              go_wp2
              go_ret
              rw [HN.out]
              exact ⟨rfl, H.out.to⟩
        · have HE : Hid (schErr ⟨ds.map Dm.con, ms⟩ = 5) := by show _ = _; rw [HN1.out]; unfold measErr; rw [if_pos (by have := hlen2.out; omega)]
          clear HN1
          rcases (show n2 < 1 ∨ (1 ≤ n2 ∧ 3 < n2) by omega) with h | ⟨h, h'⟩
          · have d1 : decide ((n2 : Int) < 1) = true := by simp <;> omega
            go_wp2
            go_ret
            rw [HE.out]
            exact ⟨rfl, H.out.to⟩
          · have d1 : decide ((n2 : Int) < 1) = false := by simp <;> omega
            have d2 : decide ((3 : Int) < n2) = true := by simp <;> omega
            go_wp2
            go_ret
            rw [HE.out]
            exact ⟨rfl, H.out.to⟩
  · have HE : Hid (schErr ⟨ds.map Dm.con, ms⟩ = 5) := by show _ = _; unfold schErr; simp only [List.length_map]; rw [if_pos (by have := hlen.out; omega)]
    have c0 := (H.out.blk 0 rfl).cell 0; simp only [List.getElem?_toArray, List.getElem?_cons_zero, List.getElem?_cons_succ] at c0
    rcases (show n < 1 ∨ (1 ≤ n ∧ 16 < n) by omega) with h | ⟨h, h'⟩
    · have d1 : decide ((n : Int) < 1) = true := by simp <;> omega
      go_enter Try.func34, Try.ntmps34
      go_wp2
      go_ret
      rw [HE.out]
      exact ⟨rfl, H.out.to⟩
    · have d1 : decide ((n : Int) < 1) = false := by simp <;> omega
      have d2 : decide ((16 : Int) < n) = true := by simp <;> omega
      go_enter Try.func34, Try.ntmps34
      go_wp2
      go_ret
      rw [HE.out]
      exact ⟨rfl, H.out.to⟩

end Go.Proofs.Ytelnhhbefdfeoaa

namespace Go.Proofs.Ytelnhhbefdfeoaa
open Go.RowKit
set_option linter.unusedVariables false
set_option linter.unusedSimpArgs false

/-- Own things. -/
abbrev rList {α : Type} (r : α → Res) (l : List α) : Res := ⟨fun g => ∃ a, a ∈ l ∧ (r a).D g, fun w => ∀ a ∈ l, (r a).p w⟩
theorem holds_list_nil {α : Type} (r : α → Res) (w : World) : (rList r []).holds w := ⟨fun g ⟨a, ha, _⟩ => (by cases ha), fun w' _ _ a ha => by cases ha⟩
theorem holds_list_snoc {α : Type} {r : α → Res} {l : List α} {a : α} {w : World} (h1 : (rList r l).holds w) (h2 : (r a).holds w) : (rList r (l ++ [a])).holds w := by
  refine ⟨fun g ⟨u, hu, hg⟩ => ?_, fun w' hs hk u hu => ?_⟩
  · rcases List.mem_append.1 hu with hu | hu
    · exact h1.1 g ⟨u, hu, hg⟩
    · rw [List.mem_singleton] at hu; subst hu; exact h2.1 g hg
  · rcases List.mem_append.1 hu with hu' | hu'
    · exact h1.2 w' hs (fun g ⟨v, hv, hg⟩ => hk g ⟨v, List.mem_append_left _ hv, hg⟩) u hu'
    · rw [List.mem_singleton] at hu'; subst hu'; exact h2.2 w' hs fun g hg => hk g ⟨u, hu, hg⟩
theorem list_snoc_D {α : Type} {r : α → Res} {l : List α} {a : α} : ∀ g, (rList r (l ++ [a])).D g → (rList r l).D g ∨ (r a).D g := fun g ⟨u, hu, hg⟩ => by
  rcases List.mem_append.1 hu with hu | hu
  · exact .inl ⟨u, hu, hg⟩
  · rw [List.mem_singleton] at hu; subst hu; exact .inr hg
theorem list_nil_D {α : Type} {r : α → Res} {P : Nat → Prop} : ∀ g, (rList r []).D g → P g := fun g ⟨a, ha, _⟩ => by cases ha

/-- A schema whose rows are the call's own. -/
structure SchOwn (s : Sch) (w : World) : Prop where
  dm : w.ownsRow 0 66 2 (.slice s.dm.A s.dm.n s.dm.c) s.dm.n (s.dm.l.flatMap Cel.cells)
  ds : ∀ d ∈ s.dm.l, DmOwn d w
  ms : w.ownsRow 0 9 1 (.slice s.ms.A s.ms.n s.ms.c) s.ms.n (s.ms.l.map tx)
  ml : ∀ m ∈ s.ms.l, m.length ≤ 12
  dn : s.dm.n ≤ 16
  mn : s.ms.n ≤ 3
def Sch.D (s : Sch) (g : Nat) : Prop := s.dm.v.ownBlock = some g ∨ (∃ d, d ∈ s.dm.l ∧ d.D g) ∨ s.ms.v.ownBlock = some g
abbrev rSch (s : Sch) : Res := ⟨s.D, SchOwn s⟩
theorem SchOwn.rd {s : Sch} {w : World} (h : SchOwn s w) : s.rd w :=
  ⟨⟨Rd.of_own h.dm, fun d hd => (h.ds d hd).rd, by have := h.dn; omega⟩, ⟨by have := Rd.of_own h.ms; rw [flat_texts]; exact this, fun t ht => by have := h.ml t ht; show t.length ≤ _; omega, by have := h.mn; omega⟩⟩
theorem SchOwn.small {s : Sch} {w : World} (h : SchOwn s w) : ∀ d ∈ s.dm.l, d.tr.n ≤ 1000000 ∧ ∀ t ∈ d.tr.l, t.up.n ≤ 100000 := fun d hd => ⟨by have := (h.ds d hd).n4; omega, fun t ht => by have := (h.ds d hd).up t ht; omega⟩
theorem holds_sch {A B : Option Addr} {n c m d : Nat} {ds : List Dm} {ms : List (List UInt8)} {w : World} (h1 : (rRow 66 2 (.slice A n c) n (ds.flatMap Cel.cells)).holds w) (h2 : (rList rDm ds).holds w) (h3 : (rRow 9 1 (.slice B m d) m (ms.map tx)).holds w) (h4 : ∀ x ∈ ms, x.length ≤ 12) (h5 : n ≤ 16) (h6 : m ≤ 3) : (rSch ⟨⟨A, n, c, ds⟩, ⟨B, m, d, ms⟩⟩).holds w := by
  refine ⟨?_, fun w' hs hk => ⟨h1.2 w' hs fun g hg => hk g (.inl hg), h2.2 w' hs fun g hg => hk g (.inr (.inl hg)), h3.2 w' hs fun g hg => hk g (.inr (.inr hg)), h4, h5, h6⟩⟩
  rintro g (hg | hg | hg)
  · exact h1.1 g hg
  · exact h2.1 g hg
  · exact h3.1 g hg
abbrev Sch.nil : Sch := ⟨⟨none, 0, 0, []⟩, ⟨none, 0, 0, []⟩⟩
abbrev SC.nil : SC := ⟨[], []⟩
theorem sch_nil_rd (w : World) : Sch.nil.rd w := ⟨Row.nil_rd w, Row.nil_rd w⟩
theorem holds_sch_nil (w : World) : (rSch Sch.nil).holds w := holds_sch (holds_row (World.ownsRow_nil w 0 _ _)) (holds_list_nil _ w) (holds_row (World.ownsRow_nil w 0 _ _)) (by intro x hx; cases hx) (by omega) (by omega)
theorem sch_nil_new {m : Nat} : ∀ g, (rSch Sch.nil).D g → m ≤ g := by
  rintro g (h | ⟨T, hT, _⟩ | h)
  · simp [Row.v, Value.ownBlock] at h
  · cases hT
  · simp [Row.v, Value.ownBlock] at h
theorem dm1_one (D : Dm) : ∀ u ∈ ([.string ⟨D.nm.toArray⟩, .slice D.tr.A D.tr.n D.tr.c] : List Value), u.oneCell' = true := by simp [Value.oneCell']
/-- A row of own dimensions, with them. -/
abbrev rX (acc : List Dm) (A : Option Addr) (k c : Nat) : Res := ⟨fun g => (rRow 66 2 (.slice A k c) k (acc.flatMap Cel.cells)).D g ∨ (rList rDm acc).D g, fun w => (rRow 66 2 (.slice A k c) k (acc.flatMap Cel.cells)).holds w ∧ (rList rDm acc).holds w⟩
theorem holds_X {acc : List Dm} {A : Option Addr} {k c : Nat} {w : World} (h1 : (rRow 66 2 (.slice A k c) k (acc.flatMap Cel.cells)).holds w) (h2 : (rList rDm acc).holds w) : (rX acc A k c).holds w :=
  ⟨fun g hg => hg.elim (h1.1 g) (h2.1 g), fun w' hs hk => ⟨h1.keep hs fun g hg => hk g (.inl hg), h2.keep hs fun g hg => hk g (.inr hg)⟩⟩
theorem of_X {acc : List Dm} {A : Option Addr} {k c : Nat} {w : World} (h : (rX acc A k c).holds w) : (rRow 66 2 (.slice A k c) k (acc.flatMap Cel.cells)).holds w ∧ (rList rDm acc).holds w := h.now
end Go.Proofs.Ytelnhhbefdfeoaa

namespace Go.Proofs.Ytelnhhbefdfeoaa
open Go.RowKit
set_option linter.unusedVariables false
set_option linter.unusedSimpArgs false

/-- What Take answers. -/
def schtake (s : List UInt8) : SC × Int :=
  match psch s with
  | .error k => (SC.nil, k)
  | .ok (t, l) => if l = [] then (t, 0) else (SC.nil, 3)
def Tksch (r : SC × Int) (w : World) (e : Ending) (w' : World) : Prop := ∃ D : Sch, e = .returned (.tuple #[.agg D.cs, .int .i64 r.2]) ∧ D.con = r.1 ∧ Bel w w' ∧ NewR w w' (rSch D)

end Go.Proofs.Ytelnhhbefdfeoaa

namespace Go.Proofs.Ytelnhhbefdfeoaa
open Go.RowKit
set_option linter.unusedVariables false
set_option linter.unusedSimpArgs false

theorem E_intss : ElemInfo Try.prog 69 60 1 24 := ElemInfo.mk' (z := .slice none 0 0) Try.underlying69 (by kernel_rfl) rfl (by omega)
theorem rowShp : RowTy Try.prog 71 2 := ⟨⟨_, Try.underlying71, rfl⟩, by kernel_rfl⟩
section
variable {P : Program} {w : World}
theorem step_load_blk {ops : Array Oper} {o : Oper} {a : Act} {K : Act → World → Prop} {Q : Exit → Act → World → Prop} {X : Prop} (hgd : o.guard = none) {ty : TypeId} {n : Nat} (R : RowTy P ty n) (x : Operand) (ho : o.op = .load ty x)
    (g : Nat) (hx : a.eval x = .pointer (some ⟨g, 0, none⟩)) {t : TypeId} {cs : Array Value} (hb : Blk w g t cs) (hn : cs.size = n)
    (h : K (a.put o.dst (.agg cs)) w) : if Region.wanted o (yielded ops a.tmps) = true then Oper.wp P o a w K Q else X := by
  have hw : Region.wanted o (yielded ops a.tmps) = true := by simp [Region.wanted, hgd]
  rw [if_pos hw]
  obtain ⟨d, hu, hd⟩ := R.hu
  exact wp_load_mid ty x ho g 0 hx cs.toList d hb.range hu hd (by rw [R.hi]; simp [hn]) (by simpa using h)
end
/-- A schema of one dimension, as laws' examples lay it down. -/
theorem ex_sch {S : Nat → Prop} {w0 w : World} {l : List Res} (H : SL S w0 w l) (i j k m : Nat) {g0 g1 g2 g3 : Nat} (h0 : l[i]? = some (rBlk g0 9 #[.string ⟨#[97]⟩]))
    (h1 : l[j]? = some (rBlk g1 77 #[.string ⟨#[116]⟩, .slice (some ⟨g0, 0, none⟩) 1 1, .slice none 0 0])) (h2 : l[k]? = some (rBlk g2 66 #[.string ⟨#[100]⟩, .slice (some ⟨g1, 0, none⟩) 1 1])) (h3 : l[m]? = some (rBlk g3 9 #[.string ⟨#[109]⟩])) :
    (Sch.mk ⟨some ⟨g2, 0, none⟩, 1, 1, [⟨[100], ⟨some ⟨g1, 0, none⟩, 1, 1, [⟨[116], ⟨some ⟨g0, 0, none⟩, 1, 1, [[97]]⟩, ⟨none, 0, 0, []⟩⟩]⟩⟩]⟩ ⟨some ⟨g3, 0, none⟩, 1, 1, [[109]]⟩).rd w := by
  refine ⟨⟨reads_of_block (m := 1) (H.blk k h2) rfl, fun D hD => ?_, by show (1 : Nat) ≤ _; omega⟩, ⟨?_, fun t ht => ?_, by show (1 : Nat) ≤ _; omega⟩⟩
  · rw [List.mem_singleton] at hD
    subst hD
    exact ex_dim H i j (m := 1) (nm := [100]) (tn := [116]) (ts := [[97]]) h0 rfl rfl h1 (by simp) (by simp) (by intro t ht; simp at ht; subst ht; simp) (by omega)
  · have := reads_of_block (m := 1) (size := 1) (H.blk m h3) rfl
    rw [flat_texts]
    exact this
  · simp at ht
    subst ht
    show ([109] : List UInt8).length ≤ _
    simp
theorem ex_sch0 {S : Nat → Prop} {w0 w : World} {l : List Res} (H : SL S w0 w l) (i j k : Nat) {g0 g1 g2 : Nat} (h0 : l[i]? = some (rBlk g0 9 #[.string ⟨#[97]⟩]))
    (h1 : l[j]? = some (rBlk g1 77 #[.string ⟨#[116]⟩, .slice (some ⟨g0, 0, none⟩) 1 1, .slice none 0 0])) (h2 : l[k]? = some (rBlk g2 66 #[.string ⟨#[100]⟩, .slice (some ⟨g1, 0, none⟩) 1 1])) :
    (Sch.mk ⟨some ⟨g2, 0, none⟩, 1, 1, [⟨[100], ⟨some ⟨g1, 0, none⟩, 1, 1, [⟨[116], ⟨some ⟨g0, 0, none⟩, 1, 1, [[97]]⟩, ⟨none, 0, 0, []⟩⟩]⟩⟩]⟩ ⟨none, 0, 0, []⟩).rd w := by
  refine ⟨⟨reads_of_block (m := 1) (H.blk k h2) rfl, fun D hD => ?_, by show (1 : Nat) ≤ _; omega⟩, Row.nil_rd w⟩
  rw [List.mem_singleton] at hD
  subst hD
  exact ex_dim H i j (m := 1) (nm := [100]) (tn := [116]) (ts := [[97]]) h0 rfl rfl h1 (by simp) (by simp) (by intro t ht; simp at ht; subst ht; simp) (by omega)
/-- What it says. -/
abbrev exDC : DC := ⟨[100], [⟨[116], [[97]], []⟩]⟩
theorem exErr : schErr ⟨[exDC], [[109]]⟩ = 0 := by decide +kernel
theorem exErr0 : schErr ⟨[exDC], []⟩ = 5 := by decide +kernel

end Go.Proofs.Ytelnhhbefdfeoaa

namespace Go.Proofs.Ytelnhhbefdfeoaa
open Go.RowKit
set_option linter.unusedVariables false
set_option linter.unusedSimpArgs false

theorem sameD_eq (a b : DC) : sameD a b = (a == b) := by
  obtain ⟨n1, t1⟩ := a
  obtain ⟨n2, t2⟩ := b
  unfold sameD
  rw [Bool.eq_iff_iff]
  simp
theorem eq_step {α : Type} [BEq α] {xs ys : List α} {k : Nat} {a b : α} (ha : xs[k]? = some a) (hb : ys[k]? = some b) : (xs.drop k == ys.drop k) = ((a == b) && (xs.drop (k + 1) == ys.drop (k + 1))) := by
  obtain ⟨h1, rfl⟩ := List.getElem?_eq_some_iff.1 ha
  obtain ⟨h2, rfl⟩ := List.getElem?_eq_some_iff.1 hb
  rw [List.drop_eq_getElem_cons h1, List.drop_eq_getElem_cons h2]
  rfl
def sameS (a b : SC) : Bool := (a.dims == b.dims) && (a.ms == b.ms)
theorem sameS_self (a : SC) : sameS a a = true := by unfold sameS; simp
theorem len_ne {α : Type} [BEq α] [LawfulBEq α] {xs ys : List α} (h : xs.length ≠ ys.length) : (xs == ys) = false := by
  rw [beq_eq_false_iff_ne]
  intro e
  exact h (by rw [e])

def FewS (s : Sch) : Prop := s.dm.n ≤ 20 ∧ s.ms.n ≤ 5 ∧ ∀ d ∈ s.dm.l, d.tr.n ≤ 6 ∧ ∀ t ∈ d.tr.l, t.ts.n ≤ 220 ∧ t.up.n ≤ 220
set_option maxRecDepth 100000 in
set_option maxHeartbeats 2000000 in
theorem schfew_any (s : Sch) (w : World) (hs : s.rd w) :
    Calls Try.prog 7 #[.agg s.cs] w (FewPost (FewS s) w) := by
  have hl1 : Hid (s.dm.l.length = s.dm.n) := hs.dm.len
  have hl2 : Hid (s.ms.l.length = s.ms.n) := hs.ms.len
  have HD := Lib.hid hs.dm
  have HM := Lib.hid hs.ms
  have n63 := hs.dm.n63
  have m63 := hs.ms.n63
  have H := Lib.hid ((SL.start No w).alloc s.cs 25)
  (try simp only [List.set_cons_zero, List.set_cons_succ, List.cons_append, List.nil_append, List.eraseIdx_cons_zero, List.eraseIdx_cons_succ, List.setIfInBounds_toArray, World.size_alloc, selR, List.getD_cons_zero, List.getD_cons_succ] at H)
  obtain ⟨⟨A, n, c, ds⟩, ⟨A2, n2, c2, ms⟩⟩ := s
  simp only [Sch.cs] at *
  clear hs
  go_enter Try.func7, Try.ntmps7
  go_wp2_with fail
  generalize w.heap.size = x at *
  generalize w.alloc (.cells #[.slice A n c, .slice A2 n2 c2] 25) = w1 at *
  have HA : Hid (∀ i d, i < 0 → ds[i]? = some d → d.tr.n ≤ 6 ∧ ∀ t ∈ d.tr.l, t.ts.n ≤ 220 ∧ t.up.n ≤ 220) := fun i t hi => absurd hi (by omega)
  go_loopg [3, 4] 22 (fun gg s3 s4 wr => ∃ (k sm : Nat), gg = 22 - k ∧ k ≤ 21 ∧ k ≤ n ∧ s4 = .int .i64 k ∧ s3 = .int .i64 sm ∧ sm ≤ 1320 * k ∧ Hid (SL No w wr [rBlk x 25 #[.slice A n c, .slice A2 n2 c2]]) ∧ Hid (∀ i d, i < k → ds[i]? = some d → d.tr.n ≤ 6 ∧ ∀ t ∈ d.tr.l, t.ts.n ≤ 220 ∧ t.up.n ≤ 220))
  case atStart => exact ⟨0, 0, rfl, by omega, by omega, rfl, rfl, by omega, H, HA⟩
  case round =>
    clear H HA
    obtain ⟨k, sm, hgk, hk21, hkn, rfl, rfl, hsm, H, HA⟩ := hrel
    have Hgk := Lib.hid hgk
    clear hgk
    have cc0 := (H.out.blk 0 rfl).cell 0; simp only [List.getElem?_toArray, List.getElem?_cons_zero, List.getElem?_cons_succ] at cc0
    by_cases hlt : k < n ∧ k ≤ 20
    · obtain ⟨h1, h2⟩ := hlt
      have e1 : decide ((k : Int) ≤ 20) = true := by simp <;> omega
      obtain ⟨bb, oo, d, hA, hbb, hdk, hdr, hrg⟩ := (HD.out.mono H.out.to).dmAt (k := k) h1
      simp only at hA
      subst hA
      have HR := Lib.hid hrg
      have HDK := Lib.hid hdk
      have HDR := Lib.hid hdr
      have i0 : (0 : Int) ≤ k := by omega
      have i1 : (k : Int) < n := by omega
      clear hdk hrg hdr
      go_wp2_with ((with_reducible show wpList _ _ _ (⟨some 24, _, _, _, _, _⟩ :: _) _ _); (refine wpList_load_row_at rfl rowDm (.tmp 23) rfl bb (oo + k * 2) rfl d.cs rfl HR.out ?_))
      refine (dmfew_any d _ HDR.out).mono ?_; rintro e w3 ⟨b, rfl, hfew, hb3⟩
      replace H := Lib.hid (H.out.bel hb3); (try simp only [List.set_cons_zero, List.set_cons_succ, List.cons_append, List.nil_append, List.eraseIdx_cons_zero, List.eraseIdx_cons_succ, List.setIfInBounds_toArray, World.size_alloc, selR, List.getD_cons_zero, List.getD_cons_succ] at H)
      have HDR3 := Lib.hid (HDR.out.mono hb3)
      have q1 := (hb3.cell hbb).trans (HR.out 1 _ rfl)
      clear hb3 cc0 HR HDR
      cases b with
      | false =>
        clear hfew
        go_wp2
        go_ret
        exact ⟨false, rfl, (fun h => by cases h), H.out.to⟩
      | true =>
        obtain ⟨f6, f220⟩ := hfew rfl
        have HF := Lib.hid f220
        have HN : Hid (∀ i d, i < k + 1 → ds[i]? = some d → d.tr.n ≤ 6 ∧ ∀ t ∈ d.tr.l, t.ts.n ≤ 220 ∧ t.up.n ≤ 220) := by
          intro i d' hi hid
          rcases (show i < k ∨ i = k by omega) with h | h
          · exact HA.out i d' h hid
          · subst h
            rw [HDK.out] at hid
            injection hid with hid
            subst hid
            exact ⟨f6, f220⟩
        clear hfew f220 HA
        have cc0 := (H.out.blk 0 rfl).cell 0; simp only [List.getElem?_toArray, List.getElem?_cons_zero, List.getElem?_cons_succ] at cc0
        have hdl : Hid (d.tr.l.length = d.tr.n) := HDR3.out.tr.len
        have HTR := Lib.hid HDR3.out.tr
        obtain ⟨dnm, ⟨D, dn, dc, trs⟩⟩ := d
        simp only [Dm.cs] at *
        go_wp2_with fail
        clear cc0 q1
        go_loopg [3, 34] dn (fun gg s3 s34 wx => ∃ (j s2 : Nat), gg = dn - j ∧ j ≤ dn ∧ s34 = .int .i64 j ∧ s3 = .int .i64 s2 ∧ s2 ≤ 1320 * k + 220 * j ∧ Hid (SL No w wx [rBlk x 25 #[.slice (some ⟨bb, oo, none⟩) n c, .slice A2 n2 c2]]) ∧ Hid (Bel w3 wx))
        case atStart => exact ⟨0, sm, rfl, by omega, rfl, rfl, by omega, H, Bel.refl _⟩
        case round =>
          clear H
          obtain ⟨j, s2, hgj, hj, rfl, rfl, hs2, H, HB⟩ := hrel
          have Hgj := Lib.hid hgj
          clear hgj
          by_cases hjlt : j < dn
          · obtain ⟨b4, o4, t, hA4, hbb4, htk, htr, hrg4⟩ := (HTR.out.mono HB.out).tirAt (k := j) hjlt
            simp only at hA4
            subst hA4
            have ht220 := (HF.out t (List.mem_of_getElem? htk)).1
            have HR4 := Lib.hid hrg4
            have hnm4 := htr.nm
            have j0 : (0 : Int) ≤ j := by omega
            have j1 : (j : Int) < dn := by omega
            clear htk htr hrg4 hbb4
            go_wp2_with (first | ((with_reducible show wpList _ _ _ (⟨some 37, _, _, _, _, _⟩ :: _) _ _); (refine wpList_load_row_at rfl rowTir (.tmp 36) rfl b4 (o4 + j * 3) rfl t.cs rfl HR4.out ?_)) | ((with_reducible show wpList _ _ _ (⟨_, .store _ (.tmp 6) _, _, _, _, _⟩ :: _) _ _); (refine wpList_store_new rfl rowTir (.tmp 6) (.tmp 37) rfl rfl rfl (t.cs) rfl rfl (tir_one t) ?_; replace H := Lib.hid (H.out.alloc (t.cs) 77); (try simp only [List.set_cons_zero, List.set_cons_succ, List.cons_append, List.nil_append, List.eraseIdx_cons_zero, List.eraseIdx_cons_succ, List.setIfInBounds_toArray, World.size_alloc, selR, List.getD_cons_zero, List.getD_cons_succ] at H); replace HB := Lib.hid (HB.out.alloc (.cells t.cs 77)); have cc1 := (H.out.blk 1 rfl).cell 1; simp only [List.getElem?_toArray, List.getElem?_cons_zero, List.getElem?_cons_succ] at cc1)))
            replace H := Lib.hid (H.out.sel [0] (by decide) (by simp)); (try simp only [List.set_cons_zero, List.set_cons_succ, List.cons_append, List.nil_append, List.eraseIdx_cons_zero, List.eraseIdx_cons_succ, List.setIfInBounds_toArray, World.size_alloc, selR, List.getD_cons_zero, List.getD_cons_succ] at H)
            clear cc1
            go_roundg (dn - (j + 1))
            case rel => exact ⟨j + 1, s2 + t.ts.n, rfl, by omega, by go_num, by go_num, by omega, H, HB⟩
            case measure => rw [Hgj.out]; omega
          · go_wp2_with fail
            go_roundg (22 - (k + 1))
            case rel => exact ⟨k + 1, s2, rfl, by omega, by omega, by go_num, rfl, by omega, H, HN⟩
            case measure => rw [Hgk.out]; omega
    · have e0 : (decide ((k : Int) < n) = false ∧ decide (k < n) = false ∧ ¬ k < n) ∨ (decide ((k : Int) < n) = true ∧ decide (k < n) = true ∧ k < n ∧ decide ((k : Int) ≤ 20) = false) := by
        by_cases h : k < n
        · right
          refine ⟨by simp <;> omega, by simp <;> omega, h, by simp <;> omega⟩
        · left
          refine ⟨by simp <;> omega, by simp <;> omega, h⟩
      clear hlt
      have HALL : Hid (n ≤ 20 → ∀ d ∈ ds, d.tr.n ≤ 6 ∧ ∀ t ∈ d.tr.l, t.ts.n ≤ 220 ∧ t.up.n ≤ 220) := by
        intro h20 d hd
        obtain ⟨i, hi⟩ := List.mem_iff_getElem?.1 hd
        have hil : i < ds.length := (List.getElem?_eq_some_iff.1 hi).1
        refine HA.out i d ?_ hi
        have := hl1.out
        rcases e0 with ⟨_, _, h⟩ | ⟨_, _, h, h'⟩
        · omega
        · simp at h'; omega
      clear HA
      rcases e0 with ⟨e1, e2, e3⟩ | ⟨e1, e2, e3, e4⟩
      all_goals
        go_wp2_with fail
        clear cc0
        go_loopg [7, 8] 7 (fun gg s7 s8 wr => ∃ (j s2 : Nat), gg = 7 - j ∧ j ≤ 6 ∧ j ≤ n2 ∧ s8 = .int .i64 j ∧ s7 = .int .i64 s2 ∧ s2 ≤ 1000 * j ∧ Hid (SL No w wr [rBlk x 25 #[.slice A n c, .slice A2 n2 c2]]))
        case atStart => exact ⟨0, 0, rfl, by omega, by omega, rfl, rfl, by omega, H⟩
        case round =>
          clear H
          obtain ⟨j, s2, hgj, hj6, hjn, rfl, rfl, hs2, H⟩ := hrel
          have Hgj := Lib.hid hgj
          clear hgj
          have cc1 := (H.out.blk 0 rfl).cell 1; simp only [List.getElem?_toArray, List.getElem?_cons_zero, List.getElem?_cons_succ] at cc1
          have cc0 := (H.out.blk 0 rfl).cell 0; simp only [List.getElem?_toArray, List.getElem?_cons_zero, List.getElem?_cons_succ] at cc0
          by_cases hjl : j < n2 ∧ j ≤ 5
          · obtain ⟨g1, g2⟩ := hjl
            have y1 : decide ((j : Int) ≤ 5) = true := by simp <;> omega
            obtain ⟨bb, oo, m, hA, hmk, hml, hc⟩ := (HM.out.mono H.out.to).textAt (k := j) g1
            simp only at hA
            subst hA
            have i0 : (0 : Int) ≤ j := by omega
            have i1 : (j : Int) < n2 := by omega
            have hmin : ∃ q : Nat, (min (m.length : Int) 1000) = q ∧ q ≤ 1000 := ⟨min m.length 1000, by omega, by omega⟩
            obtain ⟨q, hq, hq2⟩ := hmin
            have HQ := Lib.hid hq
            clear hmk hq
            go_wp2
            rw [HQ.out]
            go_roundg (7 - (j + 1))
            case rel => exact ⟨j + 1, s2 + q, rfl, by omega, by omega, by go_num, by go_num, by omega, H⟩
            case measure => rw [Hgj.out]; omega
          · have y0 : (decide ((j : Int) < n2) = false ∧ decide (j < n2) = false ∧ ¬ j < n2) ∨ (decide ((j : Int) < n2) = true ∧ decide (j < n2) = true ∧ j < n2 ∧ decide ((j : Int) ≤ 5) = false) := by
              by_cases h : j < n2
              · right
                refine ⟨by simp <;> omega, by simp <;> omega, h, by simp <;> omega⟩
              · left
                refine ⟨by simp <;> omega, by simp <;> omega, h⟩
            clear hjl
            rcases y0 with ⟨y1, y2, y3⟩ | ⟨y1, y2, y3, y4⟩
            all_goals
              by_cases z1 : n ≤ 20
              · by_cases z2 : n2 ≤ 5
                · have z3 : decide ((n : Int) ≤ 20) = true := by simp <;> omega
                  have z4 : decide ((n2 : Int) ≤ 5) = true := by simp <;> omega
                  go_wp2
                  all_goals
                    go_ret
                    exact ⟨_, rfl, fun _ => ⟨z1, z2, HALL.out z1⟩, H.out.to⟩
                · have z3 : decide ((n : Int) ≤ 20) = true := by simp <;> omega
                  have z4 : decide ((n2 : Int) ≤ 5) = false := by simp <;> omega
                  go_wp2
                  go_ret
                  exact ⟨false, rfl, (fun h => by cases h), H.out.to⟩
              · have z3 : decide ((n : Int) ≤ 20) = false := by simp <;> omega
                go_wp2
                go_ret
                exact ⟨false, rfl, (fun h => by cases h), H.out.to⟩

end Go.Proofs.Ytelnhhbefdfeoaa

namespace Go.Proofs.Ytelnhhbefdfeoaa
open Go.RowKit
set_option linter.unusedVariables false
set_option linter.unusedSimpArgs false

def schPutV (s : SC) : List UInt8 × Int := if schErr s = 0 then (schPut s, 0) else ([], schErr s)

end Go.Proofs.Ytelnhhbefdfeoaa

namespace Go.Proofs.Ytelnhhbefdfeoaa
open Go.RowKit
set_option linter.unusedVariables false
set_option linter.unusedSimpArgs false

theorem FewS.hn {s : Sch} (h : FewS s) : s.dm.n ≤ 1000000 := by have := h.1; omega
theorem FewS.hm {s : Sch} (h : FewS s) : s.ms.n ≤ 1000000 := by have := h.2.1; omega
theorem FewS.hd {s : Sch} (h : FewS s) : ∀ d ∈ s.dm.l, d.tr.n ≤ 1000000 ∧ ∀ t ∈ d.tr.l, t.up.n ≤ 100000 := fun d hd => ⟨by have := (h.2.2 d hd).1; omega, fun t ht => by have := ((h.2.2 d hd).2 t ht).2; omega⟩
theorem schtake_put {d : SC} (h : schErr d = 0) : schtake (schPut d) = (d, 0) := by
  unfold schtake
  have := psch_put h []
  rw [List.append_nil] at this
  rw [this]
  simp
theorem schPut_len {d : SC} (h : schErr d = 0) : (schPut d).length ≤ 900000 := by
  obtain ⟨h1, h2, h3, h4, h5, h6⟩ := schErr_zero h
  have h7 := nput_le9 d.dims.length
  have h8 := nput_le9 d.ms.length
  have h9 : (d.dims.flatMap dimPut).length ≤ 50000 * d.dims.length := flat_len fun x hx => dimPut_len (h3 x hx)
  have h10 : (d.ms.flatMap ptext).length ≤ 30 * d.ms.length := flat_len fun x hx => by
    have := isName_len (h6 x hx)
    have := nput_le9 x.length
    unfold ptext
    rw [List.length_append]
    omega
  unfold schPut
  simp only [List.length_append]
  omega

end Go.Proofs.Ytelnhhbefdfeoaa

namespace Go.Proofs.Ytelnhhbefdfeoaa
open Go.RowKit
set_option linter.unusedVariables false
set_option linter.unusedSimpArgs false

/-- Where a scan stands that reads so many things of one kind. -/
def LInv {α : Type} (s : List UInt8) (o : PR (List α)) (p : List UInt8 → PR α) (n k : Nat) (acc : List α) (t kk : Int) : Prop :=
  (kk ≠ 0 ∧ o = .error kk) ∨ (kk = 0 ∧ ∃ tn : Nat, t = tn ∧ tn ≤ s.length ∧ o = pmany p (n - k) acc (s.drop tn))
section
variable {α : Type} {s : List UInt8} {o : PR (List α)} {p : List UInt8 → PR α} {n k : Nat} {acc : List α} {t kk : Int}
theorem LInv.bad (h : LInv s o p n k acc t kk) (hk : kk ≠ 0) : o = .error kk := h.elim (fun h => h.2) (fun h => absurd h.1 hk)
theorem LInv.good (h : LInv s o p n k acc t 0) : ∃ tn : Nat, t = tn ∧ tn ≤ s.length ∧ o = pmany p (n - k) acc (s.drop tn) := h.elim (fun h => absurd rfl h.1) (fun h => h.2)
theorem LInv.step {tn : Nat} {x : α} (hk : k < n) (h : o = pmany p (n - k) acc (s.drop tn)) (h2 : SRes s (p (s.drop tn)) t kk x) : LInv s o p n (k + 1) (acc ++ [x]) t kk := by
  rw [pmany_step hk] at h
  rcases h2 with ⟨h1, h2⟩ | ⟨h1, m, h3, h4, h2⟩
  · exact .inl ⟨h1, by rw [h, h2]⟩
  · exact .inr ⟨h1, m, h3, h4, by rw [h, h2]⟩
theorem LInv.done (h : LInv s o p n k acc t kk) (hk : kk ≠ 0 ∨ n ≤ k) : SRes s o t kk acc := by
  rcases h with ⟨h1, h2⟩ | ⟨h1, tn, h3, h4, h2⟩
  · exact .inl ⟨h1, h2⟩
  · rcases hk with hk | hk
    · exact absurd h1 hk
    · exact .inr ⟨h1, tn, h3, h4, by rw [h2, show n - k = 0 by omega]; rfl⟩
end
/-- The dimensions read; and the measures behind them. -/
def oDims (l : List UInt8) : PR (List DC) := match pnum 16 l with | .error k => .error k | .ok (n, r) => pmany pdim n [] r
def oMeas (l : List UInt8) : PR (List (List UInt8)) := match pthen (oDims l) (pnum 3) with | .error k => .error k | .ok ((_, m), r) => pmany (ptxt 12) m [] r
theorem psch_o1 {l : List UInt8} {k : Int} (h : oMeas l = .error k) : psch l = .error k := by
  unfold oMeas pthen oDims at h
  unfold psch
  cases h1 : pnum 16 l with
  | error e => rw [h1] at h; simpa using h
  | ok q =>
    obtain ⟨n, r⟩ := q
    rw [h1] at h
    simp only [psch1] at h ⊢
    cases h2 : pmany pdim n [] r with
    | error e => rw [h2] at h; simpa using h
    | ok q =>
      obtain ⟨ds, r2⟩ := q
      rw [h2] at h
      simp only [pschM] at h ⊢
      cases h3 : pnum 3 r2 with
      | error e => rw [h3] at h; simpa using h
      | ok q =>
        obtain ⟨m, r3⟩ := q
        rw [h3] at h
        simp only [psch2] at h ⊢
        rw [h]
theorem psch_o2 {l r r1 : List UInt8} {ds : List DC} {ms : List (List UInt8)} (hD : oDims l = .ok (ds, r1)) (h : oMeas l = .ok (ms, r)) : psch l = pschC ⟨ds, ms⟩ r := by
  unfold oMeas pthen at h
  rw [hD] at h
  unfold oDims at hD
  unfold psch
  cases h1 : pnum 16 l with
  | error e => rw [h1] at hD; cases hD
  | ok q =>
    obtain ⟨n, r2⟩ := q
    rw [h1] at hD
    simp only at hD h ⊢
    rw [hD]
    simp only [psch1, pschM]
    cases h3 : pnum 3 r1 with
    | error e => rw [h3] at h; cases h
    | ok q =>
      obtain ⟨m, r3⟩ := q
      rw [h3] at h
      simp only [psch2] at h ⊢
      rw [h]
theorem oDims_of {s l r : List UInt8} {ms : List (List UInt8)} {t kk : Int} {ds : List DC} (h : oMeas l = .ok (ms, r)) (hS : SRes s (oDims l) t kk ds) : kk = 0 ∧ ∃ r1, oDims l = .ok (ds, r1) := by
  rcases hS with ⟨_, h2⟩ | ⟨h1, tn, _, _, h2⟩
  · unfold oMeas pthen at h
    rw [h2] at h
    cases h
  · exact ⟨h1, _, h2⟩
theorem LInv.startD {s l : List UInt8} {t k : Int} {n : Nat} (h : SRes s (pnum 16 l) t k n) : LInv s (oDims l) pdim n 0 [] t k := by
  rcases h with ⟨h1, h2⟩ | ⟨h1, tn, h3, h4, h2⟩
  · exact .inl ⟨h1, by unfold oDims; rw [h2]⟩
  · exact .inr ⟨h1, tn, h3, h4, by unfold oDims; rw [h2]; rfl⟩
theorem LInv.startM {s l : List UInt8} {t k : Int} {m : Nat} {ds : List DC} (h : SRes s (pthen (oDims l) (pnum 3)) t k (ds, m)) : LInv s (oMeas l) (ptxt 12) m 0 [] t k := by
  rcases h with ⟨h1, h2⟩ | ⟨h1, tn, h3, h4, h2⟩
  · exact .inl ⟨h1, by unfold oMeas; rw [h2]⟩
  · exact .inr ⟨h1, tn, h3, h4, by unfold oMeas; rw [h2]; rfl⟩
/-- How the document's Read ends. -/
def RschPost (s : List UInt8) (o : PR SC) (w : World) (e : Ending) (w' : World) : Prop :=
  ∃ (t k : Int) (D : Sch), e = .returned (.tuple #[scn s t k, .agg D.cs]) ∧ Bel w w' ∧ Hid (SRes s o t k D.con) ∧ (k = 0 → NewR w w' (rSch D))

end Go.Proofs.Ytelnhhbefdfeoaa
