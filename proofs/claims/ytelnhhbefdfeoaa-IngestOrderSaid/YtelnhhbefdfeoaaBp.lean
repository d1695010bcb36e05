/- Texts laid together: XInA XInB XInC. -/
import Derived.Test.YtelnhhbefdfeoaaBm
import Derived.Test.YtelnhhbefdfeoaaBo
import Derived.Test.YtelnhhbefdfeoaaBl

namespace Go.Proofs.Ytelnhhbefdfeoaa
open Go.RowKit
set_option linter.unusedVariables false
set_option linter.unusedSimpArgs false


theorem fold_next {X : List Fct} {k : Nat} {f : Fct} (h : X[k]? = some f) (acc : List Con) : foldFrom acc (cons (X.drop k)) = match foldStep acc f.con with | none => none | some a => foldFrom a (cons (X.drop (k + 1))) := by
  obtain ⟨h1, rfl⟩ := List.getElem?_eq_some_iff.1 h
  rw [List.drop_eq_getElem_cons h1]
  rfl
theorem stepF_nil (c : Con) : foldStep [] c = some [c] := rfl
theorem last_con {L : List Fct} {m : Nat} {p : Fct} (hl : L.length = m + 1) (hp : L[m]? = some p) : (cons L).getLast? = some p.con := by
  rw [List.getLast?_eq_getElem?, cons_len, hl]
  show (L.map Fct.con)[m]? = _
  rw [List.getElem?_map, hp]
  rfl
theorem stepF_app {L : List Fct} {m : Nat} {p f : Fct} (hl : L.length = m + 1) (hp : L[m]? = some p) (h : cmpK p.ks.l f.ks.l ≠ 0) : foldStep (cons L) f.con = some (cons (L ++ [f])) := by
  unfold foldStep
  rw [last_con hl hp]
  simp only
  rw [if_neg (show ¬ cmpK p.con.1 f.con.1 = 0 from h)]
  simp [cons]
theorem stepF_over {L : List Fct} {m : Nat} {p f : Fct} (hl : L.length = m + 1) (hp : L[m]? = some p) (h : cmpK p.ks.l f.ks.l = 0) (hj : (p.ag.join f.ag).2 = false) : foldStep (cons L) f.con = none := by
  unfold foldStep
  rw [last_con hl hp]
  simp only
  rw [if_pos (show cmpK p.con.1 f.con.1 = 0 from h), if_neg]
  show ¬ (p.ag.join f.ag).2 = true
  rw [hj]
  simp
theorem set_last {α : Type} {L : List α} {m : Nat} (hl : L.length = m + 1) (y : α) : L.set m y = L.dropLast ++ [y] := by
  apply List.ext_getElem?
  intro j
  by_cases hj : j = m
  · subst hj
    rw [List.getElem?_set_self (by omega), List.getElem?_append_right (by rw [List.length_dropLast]; omega), List.length_dropLast, hl]
    simp
  · rw [List.getElem?_set_ne (fun e => hj e.symm)]
    by_cases hlt : j < m
    · rw [List.getElem?_append_left (by rw [List.length_dropLast]; omega), List.getElem?_dropLast, if_pos (by omega)]
    · rw [List.getElem?_eq_none (by omega), List.getElem?_eq_none (by rw [List.length_append, List.length_dropLast]; simp; omega)]
theorem stepF_join {L : List Fct} {m : Nat} {p f : Fct} (hl : L.length = m + 1) (hp : L[m]? = some p) (h : cmpK p.ks.l f.ks.l = 0) (hj : (p.ag.join f.ag).2 = true) : foldStep (cons L) f.con = some (cons (L.set m ⟨p.ks, (p.ag.join f.ag).1⟩)) := by
  unfold foldStep
  rw [last_con hl hp]
  simp only
  rw [if_pos (show cmpK p.con.1 f.con.1 = 0 from h), if_pos (show (p.con.2.join f.con.2).2 = true from hj)]
  rw [set_last hl]
  simp only [cons, List.map_append, List.map_cons, List.map_nil, List.map_dropLast]
  rfl
/-- An aggregate stored into a fact of a row of the call's own. -/
theorem flat_setAg {l : List Fct} {k : Nat} {p : Fct} (hp : l[k]? = some p) (a : Ag) (j : Nat) :
    ((l.set k ⟨p.ks, a⟩).flatMap Cel.cells)[j]? = if k * 11 + 1 ≤ j ∧ j < k * 11 + 1 + 10 then a.cs.toList[j - (k * 11 + 1)]? else (l.flatMap Cel.cells)[j]? := by
  have hk := (List.getElem?_eq_some_iff.1 hp).1
  rw [flat_set l k ⟨p.ks, a⟩ hk j]
  show (if k * 11 ≤ j ∧ j < k * 11 + 11 then (Cel.cells (⟨p.ks, a⟩ : Fct))[j - k * 11]? else _) = _
  by_cases h1 : k * 11 + 1 ≤ j ∧ j < k * 11 + 1 + 10
  · rw [if_pos (by omega), if_pos h1]
    obtain ⟨i, rfl⟩ : ∃ i, j = k * 11 + 1 + i := ⟨j - (k * 11 + 1), by omega⟩
    rw [show k * 11 + 1 + i - k * 11 = i + 1 by omega, show k * 11 + 1 + i - (k * 11 + 1) = i by omega]
    rfl
  · rw [if_neg h1]
    by_cases h2 : j = k * 11
    · subst h2
      rw [if_pos (by omega), Nat.sub_self]
      have := cells_get l k 0 p hp (by show 0 < 11; omega)
      rw [Nat.add_zero] at this
      have h3 : (l.flatMap Cel.cells)[k * 11]? = (Cel.cells p)[0]? := this
      rw [h3]
      rfl
    · rw [if_neg (by omega)]
theorem own_setAg {w : World} {base : Nat} {e : TypeId} {g n c : Nat} {l : List Fct} (h : w.ownsRow base e 11 (.slice (some ⟨g, 0, none⟩) n c) n (l.flatMap Cel.cells)) {k : Nat} {p : Fct} (hp : l[k]? = some p) (a : Ag) :
    (w.setCells g (k * 11 + 1) a.cs.toList).ownsRow base e 11 (.slice (some ⟨g, 0, none⟩) n c) n ((l.set k ⟨p.ks, a⟩).flatMap Cel.cells) := by
  have hl : l.length = n := rd_len (α := Fct) (Rd.of_own h)
  have hk := (List.getElem?_eq_some_iff.1 hp).1
  refine ⟨by rw [cells_len, List.length_set, hl]; rfl, ?_⟩
  rcases h.2 with ⟨h0, _⟩ | ⟨g', cap, cur, hv, hb, hh, hn, hm, hs, ht⟩
  · cases h0
  · injection hv with h1 h2 h3
    injection h1 with h1
    injection h1 with h1
    subst h1 h3
    refine .inr ⟨g, c, setAll cur (k * 11 + 1) a.cs.toList, rfl, hb, Blk.setAll a.cs.toList (k * 11 + 1) hh, hn, hm, by rw [setAll_size]; exact hs, ?_⟩
    apply List.ext_getElem?
    intro j
    rw [flat_setAg hp a j]
    have ha : a.cs.toList.length = 10 := rfl
    have hns : n * 11 ≤ cur.size := by rw [hs]; exact Nat.mul_le_mul_right _ hn
    by_cases hj : j < n * 11
    · rw [List.getElem?_take_of_lt hj, Array.getElem?_toList, setAll_get _ _ _ _ (by omega), ha]
      have h4 : (l.flatMap Cel.cells)[j]? = cur[j]? := by rw [← ht, List.getElem?_take_of_lt hj, Array.getElem?_toList]
      rw [h4]
    · rw [List.getElem?_eq_none (by rw [List.length_take]; omega), if_neg (by omega), List.getElem?_eq_none (by rw [cells_len, hl]; show n * 11 ≤ j; omega)]
theorem own_thereAg {w : World} {base : Nat} {e : TypeId} {g n c : Nat} {l : List Fct} (h : w.ownsRow base e 11 (.slice (some ⟨g, 0, none⟩) n c) n (l.flatMap Cel.cells)) {k : Nat} (hk : k < n) : w.there g (k * 11 + 1) 10 := by
  have := own_there (α := Fct) h hk
  intro j hj
  have h2 := this (1 + j) (by show 1 + j < 11; omega)
  have h3 : k * Cel.size Fct + (1 + j) = k * 11 + 1 + j := by show k * 11 + (1 + j) = _; omega
  rw [h3] at h2
  exact h2
theorem wpList_storeAg {P : Program} {ops : Array Oper} {rest : List Oper} {op : Oper} {a : Act} {w : World} {Q : Exit → Act → World → Prop} (hgd : op.guard = none) {ty : TypeId} (R : RowTy P ty 10) (x y : Operand) (ho : op.op = .store ty x y)
    {base : Nat} {e : TypeId} {g n c : Nat} {l : List Fct} (k : Nat) (hx : a.eval x = .pointer (some ⟨g, k * 11 + 1, none⟩)) (h : w.ownsRow base e 11 (.slice (some ⟨g, 0, none⟩) n c) n (l.flatMap Cel.cells)) {p : Fct} (hp : l[k]? = some p) (ag : Ag) (hy : a.eval y = .agg ag.cs)
    (hn : ∀ w', w'.ownsRow base e 11 (.slice (some ⟨g, 0, none⟩) n c) n ((l.set k ⟨p.ks, ag⟩).flatMap Cel.cells) → w.grownBy w' (some g) → wpList P ops Q rest (a.put op.dst undef) w') : wpList P ops Q (op :: rest) a w := by
  have hk : k < n := by have := rd_len (α := Fct) (Rd.of_own h); have := (List.getElem?_eq_some_iff.1 hp).1; omega
  refine wpList_store_mid hgd ty x y ho g (k * 11 + 1) ag.cs hx hy (own_thereAg h hk) (by rw [R.hi]; rfl) (ag_one ag) ?_
  exact hn _ (own_setAg h hp ag) (setCells_grown w g _ _)
theorem own_rangeAg {w : World} {base : Nat} {e : TypeId} {g n c : Nat} {l : List Fct} (h : w.ownsRow base e 11 (.slice (some ⟨g, 0, none⟩) n c) n (l.flatMap Cel.cells)) {k : Nat} {p : Fct} (hp : l[k]? = some p) : w.rangeAt g (k * 11 + 1) p.ag.cs.toList := fun j u hu => by
  have := (own_range (α := Fct) h hp).1 (1 + j) u (by show (p.ks.v :: p.ag.cs.toList)[1 + j]? = _; rw [Nat.add_comm, List.getElem?_cons_succ]; exact hu)
  have h3 : k * Cel.size Fct + (1 + j) = k * 11 + 1 + j := by show k * 11 + (1 + j) = _; omega
  rw [h3] at this
  exact this
theorem step_storeI {P : Program} {w : World} {ops : Array Oper} {o : Oper} {a : Act} {K : Act → World → Prop} {Q : Exit → Act → World → Prop} {X : Prop} (hgd : o.guard = none) {ty : TypeId} {n : Nat} (R : RowTy P ty n) (x y : Operand) (ho : o.op = .store ty x y)
    (g : Nat) (hx : a.eval x = .pointer (some ⟨g, 0, none⟩)) {t : TypeId} {cs : Array Value} (hb : Blk w g t cs) (hn : cs.size = n) (cs' : Array Value) (hn' : cs'.size = n) (hy : a.eval y = .agg cs') (h1 : cs'.all (·.oneCell') = true)
    (h : ∀ w', Blk w' g t cs' → w.grownBy w' (some g) → K (a.put o.dst undef) w') : if Region.wanted o (yielded ops a.tmps) = true then Oper.wp P o a w K Q else X := by
  have hw : Region.wanted o (yielded ops a.tmps) = true := by simp [Region.wanted, hgd]
  rw [if_pos hw]
  refine wp_store_mid ty x y ho g 0 cs' hx hy (hb.there (by omega)) (by rw [R.hi, hn']) h1 (h _ ?_ (setCells_grown w g _ _))
  have := Blk.setAll cs'.toList 0 hb
  rwa [setAll_all cs cs' (by omega)] at this
/-- How ingest.Fold ends. -/
def FoldPost (l : List Con) (w : World) (e : Ending) (w' : World) : Prop :=
  (foldC l = none ∧ e = .returned (.tuple #[.slice none 0 0, .int .i64 12]) ∧ Bel w w') ∨ ∃ r v fs, foldC l = some r ∧ e = .returned (.tuple #[v, .int .i64 0]) ∧ Gath w w' v fs ∧ cons fs = r
theorem own_blkF {w : World} {e : TypeId} {size n c : Nat} {A : Option Addr} {xs : List Value} (h : w.ownsRow 0 e size (.slice A n c) n xs) (hn : 0 < n) : ∃ g, A = some ⟨g, 0, none⟩ := by
  rcases h.2 with ⟨h0, h1⟩ | ⟨g', cap, cur, hv, _⟩
  · omega
  · injection hv with hv1 _ _
    exact ⟨g', hv1⟩

set_option maxRecDepth 100000 in
set_option maxHeartbeats 4000000 in
theorem foldI_any (w : World) (x : Row Fct) (hx : x.ok w) (hn : x.n ≤ 1000000) :
    Calls Try.prog 19 #[.slice x.A x.n x.c] w (FoldPost (cons x.l) w) := by
  have HX := Lib.hid hx
  have hlen : Hid (x.l.length = x.n) := hx.len
  obtain ⟨A0, N, c0, X⟩ := x
  simp only at *
  obtain ⟨O, hO⟩ : ∃ O, O = foldC (cons X) := ⟨_, rfl⟩
  have HPO : Hid (∀ e w', ((O = none ∧ e = .returned (.tuple #[.slice none 0 0, .int .i64 12]) ∧ Bel w w') ∨ ∃ r v fs, O = some r ∧ e = .returned (.tuple #[v, .int .i64 0]) ∧ Gath w w' v fs ∧ cons fs = r) → FoldPost (cons X) w e w') := fun e w' h => by rw [hO] at h; exact h
  have HE : Hid (foldFrom (cons []) (cons (X.drop 0)) = O) := by show _ = _; rw [hO]; rfl
  clear hO hx
  have H : Hid (SL No w w [rRow 84 11 (.slice none 0 0) 0 (([] : List Fct).flatMap Cel.cells)]) := Lib.hid ((SL.start No w).addNil 84 11)
  have HFO : Hid (∀ f ∈ ([] : List Fct), f.ok w) := fun f hf => by cases hf
  go_enter Try.func19, Try.ntmps19
  go_wp2_with fail
  go_loopg [4, 12] N (fun gg s4 s12 wr => ∃ (k q d : Nat) (B : Option Addr) (out : List Fct), gg = N - k ∧ k ≤ N ∧ q ≤ k ∧ s4 = .slice B q d ∧ s12 = .int .i64 k ∧ Hid (out.length = q) ∧ Hid (foldFrom (cons out) (cons (X.drop k)) = O) ∧ Hid (∀ f ∈ out, f.ok w) ∧ Hid (SL No w wr [rRow 84 11 (.slice B q d) q (out.flatMap Cel.cells)]))
  case atStart => exact ⟨0, 0, 0, none, [], rfl, by omega, by omega, rfl, rfl, Lib.hid rfl, HE, HFO, H⟩
  case round =>
    clear H HE HFO
    obtain ⟨k, q, d, B, out, hgk, hk, hqk, rfl, rfl, HQ, HE, HFO, H⟩ := hrel
    have Hgk := Lib.hid hgk
    clear hgk
    by_cases hlt : k < N
    · obtain ⟨fb, fo, f, hA, hfb, hfk, hfok, _, hfr, _⟩ := (HX.out.mono H.out.to).fct hlt
      simp only at hA
      subst hA
      have HFok : Hid (f.ok w) := HX.out.all f (List.mem_of_getElem? hfk)
      have HR := Lib.hid hfr
      have HNX := Lib.hid (fold_next hfk (cons out))
      have i0 : (0 : Int) ≤ k := by omega
      have i1 : (k : Int) < N := by omega
      clear hfk hfok hfr
      go_upto_region 5 with (first | ((with_reducible show wpList _ _ _ (⟨some 15, _, _, _, _, _⟩ :: _) _ _); (refine wpList_load_row_at rfl rowFct (.tmp 14) rfl fb (fo + k * 11) rfl f.cs rfl HR.out ?_)) | ((with_reducible show wpList _ _ _ (⟨_, .store _ (.tmp 6) _, _, _, _, _⟩ :: _) _ _); (refine wpList_store_new rfl rowFct (.tmp 6) (.tmp 15) rfl rfl rfl (f.cs) rfl rfl (fct_one f) ?_; replace H := Lib.hid (H.out.alloc (f.cs) 84); (try simp only [List.set_cons_zero, List.set_cons_succ, List.cons_append, List.nil_append, List.eraseIdx_cons_zero, List.eraseIdx_cons_succ, List.setIfInBounds_toArray, World.size_alloc, selR, List.getD_cons_zero, List.getD_cons_succ] at H))))
      (try simp only [Act.put, List.setIfInBounds_toArray, List.set_cons_zero, List.set_cons_succ])
      clear hfb HR
      generalize wr.heap.size = x at *
      generalize World.alloc _ _ = w1 at *
      by_cases hq0 : q = 0
      · have HQ0 := HQ.out
        rw [hq0] at HQ0
        have hout : out = [] := List.eq_nil_of_length_eq_zero HQ0
        have HE2 : Hid (foldFrom (cons (out ++ [f])) (cons (X.drop (k + 1))) = O) := by
          show _ = _
          have h := HNX.out
          rw [HE.out, hout, show cons ([] : List Fct) = [] from rfl, stepF_nil] at h
          rw [h, hout]
          rfl
        clear HE HNX
        have e1 : ((q : Int) == 0) = true := by rw [hq0]; rfl
        clear HQ0 hq0 hout
        go_upto_region 6 with fail
        refine wp_region_over (by kernel_rfl) (by kernel_rfl) ?_
        (try simp only [Act.put, List.setIfInBounds_toArray, List.set_cons_zero, List.set_cons_succ])
        repeat (go_big_quiet_step (fail))
        refine wpQuiet_nil ?_
        rintro w5 ⟨⟨_, hw5⟩, rfl⟩
        (try dsimp only)
        replace H := Lib.hid (H.out.bel hw5); (try simp only [List.set_cons_zero, List.set_cons_succ, List.cons_append, List.nil_append, List.eraseIdx_cons_zero, List.eraseIdx_cons_succ, List.setIfInBounds_toArray, World.size_alloc, selR, List.getD_cons_zero, List.getD_cons_succ] at H)
        skip
        go_upto_region 12 with (first | ((with_reducible show wpList _ _ _ (⟨some 31, _, _, _, _, _⟩ :: _) _ _); (refine wpList_load_blk rfl rowFct (.tmp 6) rfl _ rfl (H.out.blk 1 rfl) rfl ?_)) | ((with_reducible show wpList _ _ _ (⟨some 32, _, _, _, _, _⟩ :: _) _ _); (refine wpList_buildSlice1 rfl E_fct (.tmp 31) rfl (f.cs) rfl (fct_size f) (by omega) ?_; replace H := Lib.hid (H.out.addRow ((Bel.refl _).alloc _) (own_madeK _ 84 (f.cs) 11 (fct_size f))); (try simp only [List.set_cons_zero, List.set_cons_succ, List.cons_append, List.nil_append, List.eraseIdx_cons_zero, List.eraseIdx_cons_succ, List.setIfInBounds_toArray, World.size_alloc, selR, List.getD_cons_zero, List.getD_cons_succ] at H))) | ((with_reducible show wpList _ _ _ (⟨some 33, _, _, _, _, _⟩ :: _) _ _); (refine wpList_append0 rfl (.tmp 30) (.tmp 32) _ rfl E_fct 0 (Nat.zero_le _) _ _ _ rfl (H.out.row 0 rfl) _ 1 1 f.cs.toList rfl (Rd.of_own (H.out.row 2 rfl)) (fct_onesK f) (by unfold maxLen; omega) (by omega) ?_; intro vq wq howq hgq hatq; replace H := Lib.hid (H.out.setRow 0 rfl hgq howq hatq); (try simp only [List.set_cons_zero, List.set_cons_succ, List.cons_append, List.nil_append, List.eraseIdx_cons_zero, List.eraseIdx_cons_succ, List.setIfInBounds_toArray, World.size_alloc, selR, List.getD_cons_zero, List.getD_cons_succ] at H); clear howq hgq hatq; obtain ⟨B2, d2, rfl, _⟩ := own_slice (H.out.row 0 rfl))))
        (try simp only [Act.put, List.setIfInBounds_toArray, List.set_cons_zero, List.set_cons_succ])
        replace H := Lib.hid (H.out.sel [0] (by decide) (by simp)); (try simp only [List.set_cons_zero, List.set_cons_succ, List.cons_append, List.nil_append, List.eraseIdx_cons_zero, List.eraseIdx_cons_succ, List.setIfInBounds_toArray, World.size_alloc, selR, List.getD_cons_zero, List.getD_cons_succ] at H)
        have hflat : out.flatMap Cel.cells ++ f.cs.toList = (out ++ [f]).flatMap Cel.cells := by simp [Cel.cells]
        rw [hflat] at H
        have HQ2 : Hid ((out ++ [f]).length = q + 1) := by show _ = _; rw [List.length_append, HQ.out]; rfl
        have HFO2 : Hid (∀ z ∈ out ++ [f], z.ok w) := fun z hz => (List.mem_append.1 hz).elim (HFO.out z) (fun h => by rw [List.mem_singleton] at h; subst h; exact HFok.out)
        clear hflat HQ HFO
        go_wp2_with fail
        go_roundg (N - (k + 1))
        case rel => exact ⟨k + 1, q + 1, d2, B2, out ++ [f], rfl, by omega, by omega, rfl, by go_num, HQ2, HE2, HFO2, H⟩
        case measure => rw [Hgk.out]; omega
      · obtain ⟨m, rfl⟩ : ∃ m, q = m + 1 := ⟨q - 1, by omega⟩
        obtain ⟨g, rfl⟩ := own_blkF (H.out.row 0 rfl) (by omega)
        have hl : out.length = m + 1 := HQ.out
        obtain ⟨p, hp⟩ : ∃ p, out[m]? = some p := ⟨_, List.getElem?_eq_getElem (by omega)⟩
        have HPG := Lib.hid hp
        have HL := Lib.hid hl
        have HPok : Hid (p.ok w) := HFO.out p (List.mem_of_getElem? hp)
        have hprg := own_range (α := Fct) (H.out.row 0 rfl) hp
        have HPR := Lib.hid hprg
        have e1 : ((m : Int) + 1 == 0) = false := by simp <;> omega
        have e2 : (m : Int) + 1 - 1 = m := by omega
        have m0 : (0 : Int) ≤ m := by omega
        have e3 : IntKind.i64.wrap (m : Int) = m := IntWalk.i64_in _ (by omega)
        have m1 : (m : Int) < (m : Int) + 1 := by omega
        have HC := Lib.hid (fun w' (hb : Bel w w') => fcompare_any p f w' ⟨HPok.out.ks.mono hb, HPok.out.ag⟩ ⟨HFok.out.ks.mono hb, HFok.out.ag⟩)
        have HBW := Lib.hid H.out.to
        have HXB := H.out.blk 1 rfl
        clear hp hl hprg
        go_upto_region 6 with fail
        refine wp_region_over (by kernel_rfl) (by kernel_rfl) ?_
        (try simp only [Act.put, List.setIfInBounds_toArray, List.set_cons_zero, List.set_cons_succ])
        repeat (first
          | ((with_reducible show wpQuiet _ _ _ _ (⟨some 25, _, _, _, _, _⟩ :: _) _); refine wpQuiet_load_row (by first | rfl | go_simp) rowFct (.tmp 24) rfl g (m * 11) rfl p.cs rfl HPR.out.2 HPR.out.1 ?_; simp only [Act.put, List.setIfInBounds_toArray, List.set_cons_zero, List.set_cons_succ])
          | ((with_reducible show wpQuiet _ _ _ _ (⟨some 26, _, _, _, _, _⟩ :: _) _); refine wpQuiet_load_row (by first | rfl | go_simp) rowFct (.tmp 6) rfl x (0) rfl f.cs rfl HXB.lt HXB.range ?_; simp only [Act.put, List.setIfInBounds_toArray, List.set_cons_zero, List.set_cons_succ])
          | go_big_quiet_step (((go_at_call 40; rename_i u; exact calls_over (HC.out _ (HBW.out.trans u.bel))))))
        refine wpQuiet_nil ?_
        rintro w5 ⟨⟨_, hw5⟩, rfl⟩
        (try dsimp only)
        replace H := Lib.hid (H.out.bel hw5); (try simp only [List.set_cons_zero, List.set_cons_succ, List.cons_append, List.nil_append, List.eraseIdx_cons_zero, List.eraseIdx_cons_succ, List.setIfInBounds_toArray, World.size_alloc, selR, List.getD_cons_zero, List.getD_cons_succ] at H)
        skip
        by_cases hcmp : cmpK p.ks.l f.ks.l = 0
        · have d1 : (cmpK p.ks.l f.ks.l != 0) = false := by simp [hcmp]
          have HCM := Lib.hid hcmp
          obtain ⟨J, hJ⟩ : ∃ J, J = p.ag.join f.ag := ⟨_, rfl⟩
          have HJ := Lib.hid (fun w' => join_any p.ag f.ag w' HPok.out.ag HFok.out.ag)
          have HJok := join_ok HPok.out.ag HFok.out.ag
          have HOV : Hid (J.2 = false → O = none) := fun h => by
            rw [hJ] at h
            have h1 := HNX.out
            rw [HE.out, stepF_over HL.out HPG.out hcmp h] at h1
            exact h1
          have HOK : Hid (J.2 = true → foldFrom (cons (out.set m ⟨p.ks, J.1⟩)) (cons (X.drop (k + 1))) = O) := fun h => by
            have h1 := HNX.out
            rw [hJ] at h ⊢
            rw [HE.out, stepF_join HL.out HPG.out hcmp h] at h1
            exact h1.symm
          rw [← hJ] at HJ HJok
          clear hJ hcmp HNX HE HC HBW HXB HPR
          obtain ⟨u, ok⟩ := J
          simp only at HJ HJok HOV HOK
          have HUok := Lib.hid HJok
          clear HJok
          go_upto_region 8 with fail
          go_cut [8, 9] (fun s8 s9 wx => ∃ z : Nat, s8 = .pointer (some ⟨z, 0, none⟩) ∧ s9 = .bool ok ∧ Hid (SL No w wx [rRow 84 11 (.slice (some ⟨g, 0, none⟩) (m + 1) d) (m + 1) (out.flatMap Cel.cells), rBlk x 84 f.cs, rBlk z 82 u.cs]))
          case first =>
            refine wp_region_held_drew (S := fun _ => True) (by kernel_rfl) trivial (fun hHeld => ?_)
            replace H := Lib.hid (H.out.drew); (try simp only [List.set_cons_zero, List.set_cons_succ, List.cons_append, List.nil_append, List.eraseIdx_cons_zero, List.eraseIdx_cons_succ, List.setIfInBounds_toArray, World.size_alloc, selR, List.getD_cons_zero, List.getD_cons_succ] at H)
            refine wpAnyH_take (i := 0) (v := ?vq3_0) (get_o0) (by kernel_rfl) (by kernel_rfl) (by kernel_rfl) (by exact fun _ _ _ h => h) (Or.inl ⟨by rfl, ?hyq3_0⟩) (by assumption) ?_
            case hyq3_0 => (intro w hSw; (try dsimp only at hSw); go_simp) <;> with_reducible rfl
            try simp only [Act.put, List.setIfInBounds_toArray, List.set_cons_zero, List.set_cons_succ]
            refine wpAnyH_take (i := 1) (v := ?vq3_1) (get_os (get_o0)) (by kernel_rfl) (by kernel_rfl) (by kernel_rfl) (by exact fun _ _ _ h => h) (Or.inl ⟨by rfl, ?hyq3_1⟩) (by assumption) ?_
            case hyq3_1 => (intro w hSw; (try dsimp only at hSw); go_simp) <;> with_reducible rfl
            try simp only [Act.put, List.setIfInBounds_toArray, List.set_cons_zero, List.set_cons_succ]
            refine wpAnyH_take (i := 2) (v := ?vq3_2) (get_os (get_os (get_o0))) (by kernel_rfl) (by kernel_rfl) (by kernel_rfl) (by exact fun _ _ _ h => h) (Or.inl ⟨by rfl, ?hyq3_2⟩) (by assumption) ?_
            case hyq3_2 => (intro w hSw; (try dsimp only at hSw); go_simp) <;> with_reducible rfl
            try simp only [Act.put, List.setIfInBounds_toArray, List.set_cons_zero, List.set_cons_succ]
            refine wpAnyH_take (i := 3) (v := ?vq3_3) (get_os (get_os (get_os (get_o0)))) (by kernel_rfl) (by kernel_rfl) (by kernel_rfl) (by exact fun _ _ _ h => h) (Or.inl ⟨by rfl, ?hyq3_3⟩) (by assumption) ?_
            case hyq3_3 => (intro w hSw; (try dsimp only at hSw); go_simp) <;> with_reducible rfl
            try simp only [Act.put, List.setIfInBounds_toArray, List.set_cons_zero, List.set_cons_succ]
            refine wpAnyH_take (i := 4) (v := ?vq3_4) (get_os (get_os (get_os (get_os (get_o0))))) (by kernel_rfl) (by kernel_rfl) (by kernel_rfl) (by exact fun _ _ _ h => h) (Or.inl ⟨by rfl, ?hyq3_4⟩) (by assumption) ?_
            case hyq3_4 => (intro w hSw; (try dsimp only at hSw); go_simp) <;> with_reducible rfl
            try simp only [Act.put, List.setIfInBounds_toArray, List.set_cons_zero, List.set_cons_succ]
            refine wpAnyH_take (i := 6) (v := ?vq3_6) (get_os (get_os (get_os (get_os (get_os (get_os (get_o0))))))) (by kernel_rfl) (by kernel_rfl) (by kernel_rfl) (by exact fun _ _ _ h => h) (Or.inl ⟨by rfl, ?hyq3_6⟩) (by assumption) ?_
            case hyq3_6 => (intro w hSw; (try dsimp only at hSw); go_simp) <;> with_reducible rfl
            try simp only [Act.put, List.setIfInBounds_toArray, List.set_cons_zero, List.set_cons_succ]
            refine wpAnyH_ready (rs := [5, 7, 12]) (by kernel_rfl) (by simp) ?_
            refine (AllReadyH.cons (get_os (get_os (get_os (get_os (get_os (get_o0)))))) (fun KK hKK => ?_) (AllReadyH.cons (get_os (get_os (get_os (get_os (get_os (get_os (get_os (get_o0)))))))) (fun KK hKK => ?_) (AllReadyH.cons (get_ot (get_os (get_os (get_o0)))) (fun KK hKK => ?_) AllReadyH.nil)))
            · refine step_loadK rfl rowAg (.tmp 39) (by first | rfl | go_simp) g (m * 11 + 1) (by first | rfl | go_simp) p.ag.cs (own_rangeAg (H.out.row 0 rfl) HPG.out) rfl ?_
              refine hKK.out _ _ trivial (fun hHeld => ?_)
              clear hKK KK
              try simp only [Act.put, List.setIfInBounds_toArray, List.set_cons_zero, List.set_cons_succ]
              refine wpAnyH_ready (rs := [7, 12]) (by kernel_rfl) (by simp) ?_
              refine (AllReadyH.cons (get_os (get_os (get_os (get_os (get_os (get_os (get_os (get_o0)))))))) (fun KK hKK => ?_) (AllReadyH.cons (get_ot (get_os (get_os (get_o0)))) (fun KK hKK => ?_) AllReadyH.nil))
              · refine step_loadK rfl rowAg (.tmp 41) (by first | rfl | go_simp) _ 1 (by first | rfl | go_simp) f.ag.cs (by intro jj uu hu; have := (H.out.blk 1 rfl).range (1 + jj) uu (by show (f.ks.v :: f.ag.cs.toList)[1 + jj]? = _; rw [Nat.add_comm, List.getElem?_cons_succ]; exact hu); rwa [Nat.zero_add] at this) rfl ?_
                refine hKK.out _ _ trivial (fun hHeld => ?_)
                clear hKK KK
                try simp only [Act.put, List.setIfInBounds_toArray, List.set_cons_zero, List.set_cons_succ]
                refine wpAnyH_ready (rs := [8, 12]) (by kernel_rfl) (by simp) ?_
                refine (AllReadyH.cons (get_os (get_os (get_os (get_os (get_os (get_os (get_os (get_os (get_o0))))))))) (fun KK hKK => ?_) (AllReadyH.cons (get_ot (get_os (get_os (get_o0)))) (fun KK hKK => ?_) AllReadyH.nil))
                · go_simp
                  refine (HJ.out _).mono ?_; rintro e' w6 ⟨rfl, hb6⟩
                  replace H := Lib.hid (H.out.bel hb6); (try simp only [List.set_cons_zero, List.set_cons_succ, List.cons_append, List.nil_append, List.eraseIdx_cons_zero, List.eraseIdx_cons_succ, List.setIfInBounds_toArray, World.size_alloc, selR, List.getD_cons_zero, List.getD_cons_succ] at H)
                  clear hb6
                  refine hKK.out _ _ trivial (fun hHeld => ?_)
                  clear hKK KK
                  try simp only [Act.put, List.setIfInBounds_toArray, List.set_cons_zero, List.set_cons_succ]
                  refine wpAnyH_take (i := 9) (v := ?vq4_) (get_os (get_os (get_os (get_os (get_os (get_os (get_os (get_os (get_os (get_o0)))))))))) (by kernel_rfl) (by kernel_rfl) (by kernel_rfl) (by exact fun _ _ _ h => h) (Or.inl ⟨by rfl, ?hyq4_⟩) (by assumption) ?_
                  case hyq4_ => (intro w hSw; (try dsimp only at hSw); go_simp) <;> with_reducible rfl
                  try simp only [Act.put, List.setIfInBounds_toArray, List.set_cons_zero, List.set_cons_succ]
                  refine wpAnyH_take (i := 10) (v := ?vq5_) (get_ot (get_o0)) (by kernel_rfl) (by kernel_rfl) (by kernel_rfl) (by exact fun _ _ _ h => h) (Or.inl ⟨by rfl, ?hyq5_⟩) (by assumption) ?_
                  case hyq5_ => (intro w hSw; (try dsimp only at hSw); go_simp) <;> with_reducible rfl
                  try simp only [Act.put, List.setIfInBounds_toArray, List.set_cons_zero, List.set_cons_succ]
                  refine wpAnyH_take (i := 11) (v := ?vq6_) (get_ot (get_os (get_o0))) (by kernel_rfl) (by kernel_rfl) (by kernel_rfl) (by exact fun _ _ _ h => h) (Or.inl ⟨by rfl, ?hyq6_⟩) (by assumption) ?_
                  case hyq6_ => (intro w hSw; (try dsimp only at hSw); go_simp) <;> with_reducible rfl
                  try simp only [Act.put, List.setIfInBounds_toArray, List.set_cons_zero, List.set_cons_succ]
                  refine wpAnyH_ready (rs := [12]) (by kernel_rfl) (by simp) ?_
                  refine (AllReadyH.cons (get_ot (get_os (get_os (get_o0)))) (fun KK hKK => ?_) AllReadyH.nil)
                  go_simp
                  replace H := Lib.hid (H.out.alloc Ag.zero.cs 82); (try simp only [List.set_cons_zero, List.set_cons_succ, List.cons_append, List.nil_append, List.eraseIdx_cons_zero, List.eraseIdx_cons_succ, List.setIfInBounds_toArray, World.size_alloc, selR, List.getD_cons_zero, List.getD_cons_succ] at H)
                  refine hKK.out _ _ trivial (fun hHeld => ?_)
                  clear hKK KK
                  try simp only [Act.put, List.setIfInBounds_toArray, List.set_cons_zero, List.set_cons_succ]
                  refine wpAnyH_ready (rs := [13]) (by kernel_rfl) (by simp) ?_
                  refine (AllReadyH.cons (get_ot (get_os (get_os (get_os (get_o0))))) (fun KK hKK => ?_) AllReadyH.nil)
                  refine step_storeI rfl rowAg (.tmp 8) (.tmp 44) rfl _ (by first | rfl | go_simp) (H.out.blk 2 rfl) rfl u.cs rfl (by first | rfl | go_simp) (ag_one u) ?_
                  intro wq bq hgq
                  replace H := Lib.hid (H.out.setBlk 2 rfl hgq bq); (try simp only [List.set_cons_zero, List.set_cons_succ, List.cons_append, List.nil_append, List.eraseIdx_cons_zero, List.eraseIdx_cons_succ, List.setIfInBounds_toArray, World.size_alloc, selR, List.getD_cons_zero, List.getD_cons_succ] at H)
                  clear hgq bq
                  refine hKK.out _ _ trivial (fun hHeld => ?_)
                  clear hKK KK
                  try simp only [Act.put, List.setIfInBounds_toArray, List.set_cons_zero, List.set_cons_succ]
                  refine wpAnyH_ready (rs := [14]) (by kernel_rfl) (by simp) ?_
                  refine (AllReadyH.cons (get_ot (get_os (get_os (get_os (get_os (get_o0)))))) (fun KK hKK => ?_) AllReadyH.nil)
                  go_simp
                  refine hKK.out _ _ trivial (fun hHeld => ?_)
                  clear hKK KK
                  try simp only [Act.put, List.setIfInBounds_toArray, List.set_cons_zero, List.set_cons_succ]
                  refine wpAnyH_done (by kernel_rfl) ?_ _
                  clear hHeld
                  go_wp2_with fail
                  go_meet
                  exact ⟨_, rfl, rfl, H⟩
                · go_simp
                  replace H := Lib.hid (H.out.alloc Ag.zero.cs 82); (try simp only [List.set_cons_zero, List.set_cons_succ, List.cons_append, List.nil_append, List.eraseIdx_cons_zero, List.eraseIdx_cons_succ, List.setIfInBounds_toArray, World.size_alloc, selR, List.getD_cons_zero, List.getD_cons_succ] at H)
                  refine hKK.out _ _ trivial (fun hHeld => ?_)
                  clear hKK KK
                  try simp only [Act.put, List.setIfInBounds_toArray, List.set_cons_zero, List.set_cons_succ]
                  refine wpAnyH_ready (rs := [8]) (by kernel_rfl) (by simp) ?_
                  refine (AllReadyH.cons (get_os (get_os (get_os (get_os (get_os (get_os (get_os (get_os (get_o0))))))))) (fun KK hKK => ?_) AllReadyH.nil)
                  go_simp
                  refine (HJ.out _).mono ?_; rintro e' w6 ⟨rfl, hb6⟩
                  replace H := Lib.hid (H.out.bel hb6); (try simp only [List.set_cons_zero, List.set_cons_succ, List.cons_append, List.nil_append, List.eraseIdx_cons_zero, List.eraseIdx_cons_succ, List.setIfInBounds_toArray, World.size_alloc, selR, List.getD_cons_zero, List.getD_cons_succ] at H)
                  clear hb6
                  refine hKK.out _ _ trivial (fun hHeld => ?_)
                  clear hKK KK
                  try simp only [Act.put, List.setIfInBounds_toArray, List.set_cons_zero, List.set_cons_succ]
                  refine wpAnyH_take (i := 9) (v := ?vq7_) (get_os (get_os (get_os (get_os (get_os (get_os (get_os (get_os (get_os (get_o0)))))))))) (by kernel_rfl) (by kernel_rfl) (by kernel_rfl) (by exact fun _ _ _ h => h) (Or.inl ⟨by rfl, ?hyq7_⟩) (by assumption) ?_
                  case hyq7_ => (intro w hSw; (try dsimp only at hSw); go_simp) <;> with_reducible rfl
                  try simp only [Act.put, List.setIfInBounds_toArray, List.set_cons_zero, List.set_cons_succ]
                  refine wpAnyH_take (i := 10) (v := ?vq8_) (get_ot (get_o0)) (by kernel_rfl) (by kernel_rfl) (by kernel_rfl) (by exact fun _ _ _ h => h) (Or.inl ⟨by rfl, ?hyq8_⟩) (by assumption) ?_
                  case hyq8_ => (intro w hSw; (try dsimp only at hSw); go_simp) <;> with_reducible rfl
                  try simp only [Act.put, List.setIfInBounds_toArray, List.set_cons_zero, List.set_cons_succ]
                  refine wpAnyH_take (i := 11) (v := ?vq9_) (get_ot (get_os (get_o0))) (by kernel_rfl) (by kernel_rfl) (by kernel_rfl) (by exact fun _ _ _ h => h) (Or.inl ⟨by rfl, ?hyq9_⟩) (by assumption) ?_
                  case hyq9_ => (intro w hSw; (try dsimp only at hSw); go_simp) <;> with_reducible rfl
                  try simp only [Act.put, List.setIfInBounds_toArray, List.set_cons_zero, List.set_cons_succ]
                  refine wpAnyH_ready (rs := [13]) (by kernel_rfl) (by simp) ?_
                  refine (AllReadyH.cons (get_ot (get_os (get_os (get_os (get_o0))))) (fun KK hKK => ?_) AllReadyH.nil)
                  refine step_storeI rfl rowAg (.tmp 8) (.tmp 44) rfl _ (by first | rfl | go_simp) (H.out.blk 2 rfl) rfl u.cs rfl (by first | rfl | go_simp) (ag_one u) ?_
                  intro wq bq hgq
                  replace H := Lib.hid (H.out.setBlk 2 rfl hgq bq); (try simp only [List.set_cons_zero, List.set_cons_succ, List.cons_append, List.nil_append, List.eraseIdx_cons_zero, List.eraseIdx_cons_succ, List.setIfInBounds_toArray, World.size_alloc, selR, List.getD_cons_zero, List.getD_cons_succ] at H)
                  clear hgq bq
                  refine hKK.out _ _ trivial (fun hHeld => ?_)
                  clear hKK KK
                  try simp only [Act.put, List.setIfInBounds_toArray, List.set_cons_zero, List.set_cons_succ]
                  refine wpAnyH_ready (rs := [14]) (by kernel_rfl) (by simp) ?_
                  refine (AllReadyH.cons (get_ot (get_os (get_os (get_os (get_os (get_o0)))))) (fun KK hKK => ?_) AllReadyH.nil)
                  go_simp
                  refine hKK.out _ _ trivial (fun hHeld => ?_)
                  clear hKK KK
                  try simp only [Act.put, List.setIfInBounds_toArray, List.set_cons_zero, List.set_cons_succ]
                  refine wpAnyH_done (by kernel_rfl) ?_ _
                  clear hHeld
                  go_wp2_with fail
                  go_meet
                  exact ⟨_, rfl, rfl, H⟩
              · go_simp
                replace H := Lib.hid (H.out.alloc Ag.zero.cs 82); (try simp only [List.set_cons_zero, List.set_cons_succ, List.cons_append, List.nil_append, List.eraseIdx_cons_zero, List.eraseIdx_cons_succ, List.setIfInBounds_toArray, World.size_alloc, selR, List.getD_cons_zero, List.getD_cons_succ] at H)
                refine hKK.out _ _ trivial (fun hHeld => ?_)
                clear hKK KK
                try simp only [Act.put, List.setIfInBounds_toArray, List.set_cons_zero, List.set_cons_succ]
                refine wpAnyH_ready (rs := [7]) (by kernel_rfl) (by simp) ?_
                refine (AllReadyH.cons (get_os (get_os (get_os (get_os (get_os (get_os (get_os (get_o0)))))))) (fun KK hKK => ?_) AllReadyH.nil)
                refine step_loadK rfl rowAg (.tmp 41) (by first | rfl | go_simp) _ 1 (by first | rfl | go_simp) f.ag.cs (by intro jj uu hu; have := (H.out.blk 1 rfl).range (1 + jj) uu (by show (f.ks.v :: f.ag.cs.toList)[1 + jj]? = _; rw [Nat.add_comm, List.getElem?_cons_succ]; exact hu); rwa [Nat.zero_add] at this) rfl ?_
                refine hKK.out _ _ trivial (fun hHeld => ?_)
                clear hKK KK
                try simp only [Act.put, List.setIfInBounds_toArray, List.set_cons_zero, List.set_cons_succ]
                refine wpAnyH_ready (rs := [8]) (by kernel_rfl) (by simp) ?_
                refine (AllReadyH.cons (get_os (get_os (get_os (get_os (get_os (get_os (get_os (get_os (get_o0))))))))) (fun KK hKK => ?_) AllReadyH.nil)
                go_simp
                refine (HJ.out _).mono ?_; rintro e' w6 ⟨rfl, hb6⟩
                replace H := Lib.hid (H.out.bel hb6); (try simp only [List.set_cons_zero, List.set_cons_succ, List.cons_append, List.nil_append, List.eraseIdx_cons_zero, List.eraseIdx_cons_succ, List.setIfInBounds_toArray, World.size_alloc, selR, List.getD_cons_zero, List.getD_cons_succ] at H)
                clear hb6
                refine hKK.out _ _ trivial (fun hHeld => ?_)
                clear hKK KK
                try simp only [Act.put, List.setIfInBounds_toArray, List.set_cons_zero, List.set_cons_succ]
                refine wpAnyH_take (i := 9) (v := ?vq10_) (get_os (get_os (get_os (get_os (get_os (get_os (get_os (get_os (get_os (get_o0)))))))))) (by kernel_rfl) (by kernel_rfl) (by kernel_rfl) (by exact fun _ _ _ h => h) (Or.inl ⟨by rfl, ?hyq10_⟩) (by assumption) ?_
                case hyq10_ => (intro w hSw; (try dsimp only at hSw); go_simp) <;> with_reducible rfl
                try simp only [Act.put, List.setIfInBounds_toArray, List.set_cons_zero, List.set_cons_succ]
                refine wpAnyH_take (i := 10) (v := ?vq11_) (get_ot (get_o0)) (by kernel_rfl) (by kernel_rfl) (by kernel_rfl) (by exact fun _ _ _ h => h) (Or.inl ⟨by rfl, ?hyq11_⟩) (by assumption) ?_
                case hyq11_ => (intro w hSw; (try dsimp only at hSw); go_simp) <;> with_reducible rfl
                try simp only [Act.put, List.setIfInBounds_toArray, List.set_cons_zero, List.set_cons_succ]
                refine wpAnyH_take (i := 11) (v := ?vq12_) (get_ot (get_os (get_o0))) (by kernel_rfl) (by kernel_rfl) (by kernel_rfl) (by exact fun _ _ _ h => h) (Or.inl ⟨by rfl, ?hyq12_⟩) (by assumption) ?_
                case hyq12_ => (intro w hSw; (try dsimp only at hSw); go_simp) <;> with_reducible rfl
                try simp only [Act.put, List.setIfInBounds_toArray, List.set_cons_zero, List.set_cons_succ]
                refine wpAnyH_ready (rs := [13]) (by kernel_rfl) (by simp) ?_
                refine (AllReadyH.cons (get_ot (get_os (get_os (get_os (get_o0))))) (fun KK hKK => ?_) AllReadyH.nil)
                refine step_storeI rfl rowAg (.tmp 8) (.tmp 44) rfl _ (by first | rfl | go_simp) (H.out.blk 2 rfl) rfl u.cs rfl (by first | rfl | go_simp) (ag_one u) ?_
                intro wq bq hgq
                replace H := Lib.hid (H.out.setBlk 2 rfl hgq bq); (try simp only [List.set_cons_zero, List.set_cons_succ, List.cons_append, List.nil_append, List.eraseIdx_cons_zero, List.eraseIdx_cons_succ, List.setIfInBounds_toArray, World.size_alloc, selR, List.getD_cons_zero, List.getD_cons_succ] at H)
                clear hgq bq
                refine hKK.out _ _ trivial (fun hHeld => ?_)
                clear hKK KK
                try simp only [Act.put, List.setIfInBounds_toArray, List.set_cons_zero, List.set_cons_succ]
                refine wpAnyH_ready (rs := [14]) (by kernel_rfl) (by simp) ?_
                refine (AllReadyH.cons (get_ot (get_os (get_os (get_os (get_os (get_o0)))))) (fun KK hKK => ?_) AllReadyH.nil)
                go_simp
                refine hKK.out _ _ trivial (fun hHeld => ?_)
                clear hKK KK
                try simp only [Act.put, List.setIfInBounds_toArray, List.set_cons_zero, List.set_cons_succ]
                refine wpAnyH_done (by kernel_rfl) ?_ _
                clear hHeld
                go_wp2_with fail
                go_meet
                exact ⟨_, rfl, rfl, H⟩
            · refine step_loadK rfl rowAg (.tmp 41) (by first | rfl | go_simp) _ 1 (by first | rfl | go_simp) f.ag.cs (by intro jj uu hu; have := (H.out.blk 1 rfl).range (1 + jj) uu (by show (f.ks.v :: f.ag.cs.toList)[1 + jj]? = _; rw [Nat.add_comm, List.getElem?_cons_succ]; exact hu); rwa [Nat.zero_add] at this) rfl ?_
              refine hKK.out _ _ trivial (fun hHeld => ?_)
              clear hKK KK
              try simp only [Act.put, List.setIfInBounds_toArray, List.set_cons_zero, List.set_cons_succ]
              refine wpAnyH_ready (rs := [5, 12]) (by kernel_rfl) (by simp) ?_
              refine (AllReadyH.cons (get_os (get_os (get_os (get_os (get_os (get_o0)))))) (fun KK hKK => ?_) (AllReadyH.cons (get_ot (get_os (get_os (get_o0)))) (fun KK hKK => ?_) AllReadyH.nil))
              · refine step_loadK rfl rowAg (.tmp 39) (by first | rfl | go_simp) g (m * 11 + 1) (by first | rfl | go_simp) p.ag.cs (own_rangeAg (H.out.row 0 rfl) HPG.out) rfl ?_
                refine hKK.out _ _ trivial (fun hHeld => ?_)
                clear hKK KK
                try simp only [Act.put, List.setIfInBounds_toArray, List.set_cons_zero, List.set_cons_succ]
                refine wpAnyH_ready (rs := [8, 12]) (by kernel_rfl) (by simp) ?_
                refine (AllReadyH.cons (get_os (get_os (get_os (get_os (get_os (get_os (get_os (get_os (get_o0))))))))) (fun KK hKK => ?_) (AllReadyH.cons (get_ot (get_os (get_os (get_o0)))) (fun KK hKK => ?_) AllReadyH.nil))
                · go_simp
                  refine (HJ.out _).mono ?_; rintro e' w6 ⟨rfl, hb6⟩
                  replace H := Lib.hid (H.out.bel hb6); (try simp only [List.set_cons_zero, List.set_cons_succ, List.cons_append, List.nil_append, List.eraseIdx_cons_zero, List.eraseIdx_cons_succ, List.setIfInBounds_toArray, World.size_alloc, selR, List.getD_cons_zero, List.getD_cons_succ] at H)
                  clear hb6
                  refine hKK.out _ _ trivial (fun hHeld => ?_)
                  clear hKK KK
                  try simp only [Act.put, List.setIfInBounds_toArray, List.set_cons_zero, List.set_cons_succ]
                  refine wpAnyH_take (i := 9) (v := ?vq13_) (get_os (get_os (get_os (get_os (get_os (get_os (get_os (get_os (get_os (get_o0)))))))))) (by kernel_rfl) (by kernel_rfl) (by kernel_rfl) (by exact fun _ _ _ h => h) (Or.inl ⟨by rfl, ?hyq13_⟩) (by assumption) ?_
                  case hyq13_ => (intro w hSw; (try dsimp only at hSw); go_simp) <;> with_reducible rfl
                  try simp only [Act.put, List.setIfInBounds_toArray, List.set_cons_zero, List.set_cons_succ]
                  refine wpAnyH_take (i := 10) (v := ?vq14_) (get_ot (get_o0)) (by kernel_rfl) (by kernel_rfl) (by kernel_rfl) (by exact fun _ _ _ h => h) (Or.inl ⟨by rfl, ?hyq14_⟩) (by assumption) ?_
                  case hyq14_ => (intro w hSw; (try dsimp only at hSw); go_simp) <;> with_reducible rfl
                  try simp only [Act.put, List.setIfInBounds_toArray, List.set_cons_zero, List.set_cons_succ]
                  refine wpAnyH_take (i := 11) (v := ?vq15_) (get_ot (get_os (get_o0))) (by kernel_rfl) (by kernel_rfl) (by kernel_rfl) (by exact fun _ _ _ h => h) (Or.inl ⟨by rfl, ?hyq15_⟩) (by assumption) ?_
                  case hyq15_ => (intro w hSw; (try dsimp only at hSw); go_simp) <;> with_reducible rfl
                  try simp only [Act.put, List.setIfInBounds_toArray, List.set_cons_zero, List.set_cons_succ]
                  refine wpAnyH_ready (rs := [12]) (by kernel_rfl) (by simp) ?_
                  refine (AllReadyH.cons (get_ot (get_os (get_os (get_o0)))) (fun KK hKK => ?_) AllReadyH.nil)
                  go_simp
                  replace H := Lib.hid (H.out.alloc Ag.zero.cs 82); (try simp only [List.set_cons_zero, List.set_cons_succ, List.cons_append, List.nil_append, List.eraseIdx_cons_zero, List.eraseIdx_cons_succ, List.setIfInBounds_toArray, World.size_alloc, selR, List.getD_cons_zero, List.getD_cons_succ] at H)
                  refine hKK.out _ _ trivial (fun hHeld => ?_)
                  clear hKK KK
                  try simp only [Act.put, List.setIfInBounds_toArray, List.set_cons_zero, List.set_cons_succ]
                  refine wpAnyH_ready (rs := [13]) (by kernel_rfl) (by simp) ?_
                  refine (AllReadyH.cons (get_ot (get_os (get_os (get_os (get_o0))))) (fun KK hKK => ?_) AllReadyH.nil)
                  refine step_storeI rfl rowAg (.tmp 8) (.tmp 44) rfl _ (by first | rfl | go_simp) (H.out.blk 2 rfl) rfl u.cs rfl (by first | rfl | go_simp) (ag_one u) ?_
                  intro wq bq hgq
                  replace H := Lib.hid (H.out.setBlk 2 rfl hgq bq); (try simp only [List.set_cons_zero, List.set_cons_succ, List.cons_append, List.nil_append, List.eraseIdx_cons_zero, List.eraseIdx_cons_succ, List.setIfInBounds_toArray, World.size_alloc, selR, List.getD_cons_zero, List.getD_cons_succ] at H)
                  clear hgq bq
                  refine hKK.out _ _ trivial (fun hHeld => ?_)
                  clear hKK KK
                  try simp only [Act.put, List.setIfInBounds_toArray, List.set_cons_zero, List.set_cons_succ]
                  refine wpAnyH_ready (rs := [14]) (by kernel_rfl) (by simp) ?_
                  refine (AllReadyH.cons (get_ot (get_os (get_os (get_os (get_os (get_o0)))))) (fun KK hKK => ?_) AllReadyH.nil)
                  go_simp
                  refine hKK.out _ _ trivial (fun hHeld => ?_)
                  clear hKK KK
                  try simp only [Act.put, List.setIfInBounds_toArray, List.set_cons_zero, List.set_cons_succ]
                  refine wpAnyH_done (by kernel_rfl) ?_ _
                  clear hHeld
                  go_wp2_with fail
                  go_meet
                  exact ⟨_, rfl, rfl, H⟩
                · go_simp
                  replace H := Lib.hid (H.out.alloc Ag.zero.cs 82); (try simp only [List.set_cons_zero, List.set_cons_succ, List.cons_append, List.nil_append, List.eraseIdx_cons_zero, List.eraseIdx_cons_succ, List.setIfInBounds_toArray, World.size_alloc, selR, List.getD_cons_zero, List.getD_cons_succ] at H)
                  refine hKK.out _ _ trivial (fun hHeld => ?_)
                  clear hKK KK
                  try simp only [Act.put, List.setIfInBounds_toArray, List.set_cons_zero, List.set_cons_succ]
                  refine wpAnyH_ready (rs := [8]) (by kernel_rfl) (by simp) ?_
                  refine (AllReadyH.cons (get_os (get_os (get_os (get_os (get_os (get_os (get_os (get_os (get_o0))))))))) (fun KK hKK => ?_) AllReadyH.nil)
                  go_simp
                  refine (HJ.out _).mono ?_; rintro e' w6 ⟨rfl, hb6⟩
                  replace H := Lib.hid (H.out.bel hb6); (try simp only [List.set_cons_zero, List.set_cons_succ, List.cons_append, List.nil_append, List.eraseIdx_cons_zero, List.eraseIdx_cons_succ, List.setIfInBounds_toArray, World.size_alloc, selR, List.getD_cons_zero, List.getD_cons_succ] at H)
                  clear hb6
                  refine hKK.out _ _ trivial (fun hHeld => ?_)
                  clear hKK KK
                  try simp only [Act.put, List.setIfInBounds_toArray, List.set_cons_zero, List.set_cons_succ]
                  refine wpAnyH_take (i := 9) (v := ?vq16_) (get_os (get_os (get_os (get_os (get_os (get_os (get_os (get_os (get_os (get_o0)))))))))) (by kernel_rfl) (by kernel_rfl) (by kernel_rfl) (by exact fun _ _ _ h => h) (Or.inl ⟨by rfl, ?hyq16_⟩) (by assumption) ?_
                  case hyq16_ => (intro w hSw; (try dsimp only at hSw); go_simp) <;> with_reducible rfl
                  try simp only [Act.put, List.setIfInBounds_toArray, List.set_cons_zero, List.set_cons_succ]
                  refine wpAnyH_take (i := 10) (v := ?vq17_) (get_ot (get_o0)) (by kernel_rfl) (by kernel_rfl) (by kernel_rfl) (by exact fun _ _ _ h => h) (Or.inl ⟨by rfl, ?hyq17_⟩) (by assumption) ?_
                  case hyq17_ => (intro w hSw; (try dsimp only at hSw); go_simp) <;> with_reducible rfl
                  try simp only [Act.put, List.setIfInBounds_toArray, List.set_cons_zero, List.set_cons_succ]
                  refine wpAnyH_take (i := 11) (v := ?vq18_) (get_ot (get_os (get_o0))) (by kernel_rfl) (by kernel_rfl) (by kernel_rfl) (by exact fun _ _ _ h => h) (Or.inl ⟨by rfl, ?hyq18_⟩) (by assumption) ?_
                  case hyq18_ => (intro w hSw; (try dsimp only at hSw); go_simp) <;> with_reducible rfl
                  try simp only [Act.put, List.setIfInBounds_toArray, List.set_cons_zero, List.set_cons_succ]
                  refine wpAnyH_ready (rs := [13]) (by kernel_rfl) (by simp) ?_
                  refine (AllReadyH.cons (get_ot (get_os (get_os (get_os (get_o0))))) (fun KK hKK => ?_) AllReadyH.nil)
                  refine step_storeI rfl rowAg (.tmp 8) (.tmp 44) rfl _ (by first | rfl | go_simp) (H.out.blk 2 rfl) rfl u.cs rfl (by first | rfl | go_simp) (ag_one u) ?_
                  intro wq bq hgq
                  replace H := Lib.hid (H.out.setBlk 2 rfl hgq bq); (try simp only [List.set_cons_zero, List.set_cons_succ, List.cons_append, List.nil_append, List.eraseIdx_cons_zero, List.eraseIdx_cons_succ, List.setIfInBounds_toArray, World.size_alloc, selR, List.getD_cons_zero, List.getD_cons_succ] at H)
                  clear hgq bq
                  refine hKK.out _ _ trivial (fun hHeld => ?_)
                  clear hKK KK
                  try simp only [Act.put, List.setIfInBounds_toArray, List.set_cons_zero, List.set_cons_succ]
                  refine wpAnyH_ready (rs := [14]) (by kernel_rfl) (by simp) ?_
                  refine (AllReadyH.cons (get_ot (get_os (get_os (get_os (get_os (get_o0)))))) (fun KK hKK => ?_) AllReadyH.nil)
                  go_simp
                  refine hKK.out _ _ trivial (fun hHeld => ?_)
                  clear hKK KK
                  try simp only [Act.put, List.setIfInBounds_toArray, List.set_cons_zero, List.set_cons_succ]
                  refine wpAnyH_done (by kernel_rfl) ?_ _
                  clear hHeld
                  go_wp2_with fail
                  go_meet
                  exact ⟨_, rfl, rfl, H⟩
              · go_simp
                replace H := Lib.hid (H.out.alloc Ag.zero.cs 82); (try simp only [List.set_cons_zero, List.set_cons_succ, List.cons_append, List.nil_append, List.eraseIdx_cons_zero, List.eraseIdx_cons_succ, List.setIfInBounds_toArray, World.size_alloc, selR, List.getD_cons_zero, List.getD_cons_succ] at H)
                refine hKK.out _ _ trivial (fun hHeld => ?_)
                clear hKK KK
                try simp only [Act.put, List.setIfInBounds_toArray, List.set_cons_zero, List.set_cons_succ]
                refine wpAnyH_ready (rs := [5]) (by kernel_rfl) (by simp) ?_
                refine (AllReadyH.cons (get_os (get_os (get_os (get_os (get_os (get_o0)))))) (fun KK hKK => ?_) AllReadyH.nil)
                refine step_loadK rfl rowAg (.tmp 39) (by first | rfl | go_simp) g (m * 11 + 1) (by first | rfl | go_simp) p.ag.cs (own_rangeAg (H.out.row 0 rfl) HPG.out) rfl ?_
                refine hKK.out _ _ trivial (fun hHeld => ?_)
                clear hKK KK
                try simp only [Act.put, List.setIfInBounds_toArray, List.set_cons_zero, List.set_cons_succ]
                refine wpAnyH_ready (rs := [8]) (by kernel_rfl) (by simp) ?_
                refine (AllReadyH.cons (get_os (get_os (get_os (get_os (get_os (get_os (get_os (get_os (get_o0))))))))) (fun KK hKK => ?_) AllReadyH.nil)
                go_simp
                refine (HJ.out _).mono ?_; rintro e' w6 ⟨rfl, hb6⟩
                replace H := Lib.hid (H.out.bel hb6); (try simp only [List.set_cons_zero, List.set_cons_succ, List.cons_append, List.nil_append, List.eraseIdx_cons_zero, List.eraseIdx_cons_succ, List.setIfInBounds_toArray, World.size_alloc, selR, List.getD_cons_zero, List.getD_cons_succ] at H)
                clear hb6
                refine hKK.out _ _ trivial (fun hHeld => ?_)
                clear hKK KK
                try simp only [Act.put, List.setIfInBounds_toArray, List.set_cons_zero, List.set_cons_succ]
                refine wpAnyH_take (i := 9) (v := ?vq19_) (get_os (get_os (get_os (get_os (get_os (get_os (get_os (get_os (get_os (get_o0)))))))))) (by kernel_rfl) (by kernel_rfl) (by kernel_rfl) (by exact fun _ _ _ h => h) (Or.inl ⟨by rfl, ?hyq19_⟩) (by assumption) ?_
                case hyq19_ => (intro w hSw; (try dsimp only at hSw); go_simp) <;> with_reducible rfl
                try simp only [Act.put, List.setIfInBounds_toArray, List.set_cons_zero, List.set_cons_succ]
                refine wpAnyH_take (i := 10) (v := ?vq20_) (get_ot (get_o0)) (by kernel_rfl) (by kernel_rfl) (by kernel_rfl) (by exact fun _ _ _ h => h) (Or.inl ⟨by rfl, ?hyq20_⟩) (by assumption) ?_
                case hyq20_ => (intro w hSw; (try dsimp only at hSw); go_simp) <;> with_reducible rfl
                try simp only [Act.put, List.setIfInBounds_toArray, List.set_cons_zero, List.set_cons_succ]
                refine wpAnyH_take (i := 11) (v := ?vq21_) (get_ot (get_os (get_o0))) (by kernel_rfl) (by kernel_rfl) (by kernel_rfl) (by exact fun _ _ _ h => h) (Or.inl ⟨by rfl, ?hyq21_⟩) (by assumption) ?_
                case hyq21_ => (intro w hSw; (try dsimp only at hSw); go_simp) <;> with_reducible rfl
                try simp only [Act.put, List.setIfInBounds_toArray, List.set_cons_zero, List.set_cons_succ]
                refine wpAnyH_ready (rs := [13]) (by kernel_rfl) (by simp) ?_
                refine (AllReadyH.cons (get_ot (get_os (get_os (get_os (get_o0))))) (fun KK hKK => ?_) AllReadyH.nil)
                refine step_storeI rfl rowAg (.tmp 8) (.tmp 44) rfl _ (by first | rfl | go_simp) (H.out.blk 2 rfl) rfl u.cs rfl (by first | rfl | go_simp) (ag_one u) ?_
                intro wq bq hgq
                replace H := Lib.hid (H.out.setBlk 2 rfl hgq bq); (try simp only [List.set_cons_zero, List.set_cons_succ, List.cons_append, List.nil_append, List.eraseIdx_cons_zero, List.eraseIdx_cons_succ, List.setIfInBounds_toArray, World.size_alloc, selR, List.getD_cons_zero, List.getD_cons_succ] at H)
                clear hgq bq
                refine hKK.out _ _ trivial (fun hHeld => ?_)
                clear hKK KK
                try simp only [Act.put, List.setIfInBounds_toArray, List.set_cons_zero, List.set_cons_succ]
                refine wpAnyH_ready (rs := [14]) (by kernel_rfl) (by simp) ?_
                refine (AllReadyH.cons (get_ot (get_os (get_os (get_os (get_os (get_o0)))))) (fun KK hKK => ?_) AllReadyH.nil)
                go_simp
                refine hKK.out _ _ trivial (fun hHeld => ?_)
                clear hKK KK
                try simp only [Act.put, List.setIfInBounds_toArray, List.set_cons_zero, List.set_cons_succ]
                refine wpAnyH_done (by kernel_rfl) ?_ _
                clear hHeld
                go_wp2_with fail
                go_meet
                exact ⟨_, rfl, rfl, H⟩
            · go_simp
              replace H := Lib.hid (H.out.alloc Ag.zero.cs 82); (try simp only [List.set_cons_zero, List.set_cons_succ, List.cons_append, List.nil_append, List.eraseIdx_cons_zero, List.eraseIdx_cons_succ, List.setIfInBounds_toArray, World.size_alloc, selR, List.getD_cons_zero, List.getD_cons_succ] at H)
              refine hKK.out _ _ trivial (fun hHeld => ?_)
              clear hKK KK
              try simp only [Act.put, List.setIfInBounds_toArray, List.set_cons_zero, List.set_cons_succ]
              refine wpAnyH_ready (rs := [5, 7]) (by kernel_rfl) (by simp) ?_
              refine (AllReadyH.cons (get_os (get_os (get_os (get_os (get_os (get_o0)))))) (fun KK hKK => ?_) (AllReadyH.cons (get_os (get_os (get_os (get_os (get_os (get_os (get_os (get_o0)))))))) (fun KK hKK => ?_) AllReadyH.nil))
              · refine step_loadK rfl rowAg (.tmp 39) (by first | rfl | go_simp) g (m * 11 + 1) (by first | rfl | go_simp) p.ag.cs (own_rangeAg (H.out.row 0 rfl) HPG.out) rfl ?_
                refine hKK.out _ _ trivial (fun hHeld => ?_)
                clear hKK KK
                try simp only [Act.put, List.setIfInBounds_toArray, List.set_cons_zero, List.set_cons_succ]
                refine wpAnyH_ready (rs := [7]) (by kernel_rfl) (by simp) ?_
                refine (AllReadyH.cons (get_os (get_os (get_os (get_os (get_os (get_os (get_os (get_o0)))))))) (fun KK hKK => ?_) AllReadyH.nil)
                refine step_loadK rfl rowAg (.tmp 41) (by first | rfl | go_simp) _ 1 (by first | rfl | go_simp) f.ag.cs (by intro jj uu hu; have := (H.out.blk 1 rfl).range (1 + jj) uu (by show (f.ks.v :: f.ag.cs.toList)[1 + jj]? = _; rw [Nat.add_comm, List.getElem?_cons_succ]; exact hu); rwa [Nat.zero_add] at this) rfl ?_
                refine hKK.out _ _ trivial (fun hHeld => ?_)
                clear hKK KK
                try simp only [Act.put, List.setIfInBounds_toArray, List.set_cons_zero, List.set_cons_succ]
                refine wpAnyH_ready (rs := [8]) (by kernel_rfl) (by simp) ?_
                refine (AllReadyH.cons (get_os (get_os (get_os (get_os (get_os (get_os (get_os (get_os (get_o0))))))))) (fun KK hKK => ?_) AllReadyH.nil)
                go_simp
                refine (HJ.out _).mono ?_; rintro e' w6 ⟨rfl, hb6⟩
                replace H := Lib.hid (H.out.bel hb6); (try simp only [List.set_cons_zero, List.set_cons_succ, List.cons_append, List.nil_append, List.eraseIdx_cons_zero, List.eraseIdx_cons_succ, List.setIfInBounds_toArray, World.size_alloc, selR, List.getD_cons_zero, List.getD_cons_succ] at H)
                clear hb6
                refine hKK.out _ _ trivial (fun hHeld => ?_)
                clear hKK KK
                try simp only [Act.put, List.setIfInBounds_toArray, List.set_cons_zero, List.set_cons_succ]
                refine wpAnyH_take (i := 9) (v := ?vq22_) (get_os (get_os (get_os (get_os (get_os (get_os (get_os (get_os (get_os (get_o0)))))))))) (by kernel_rfl) (by kernel_rfl) (by kernel_rfl) (by exact fun _ _ _ h => h) (Or.inl ⟨by rfl, ?hyq22_⟩) (by assumption) ?_
                case hyq22_ => (intro w hSw; (try dsimp only at hSw); go_simp) <;> with_reducible rfl
                try simp only [Act.put, List.setIfInBounds_toArray, List.set_cons_zero, List.set_cons_succ]
                refine wpAnyH_take (i := 10) (v := ?vq23_) (get_ot (get_o0)) (by kernel_rfl) (by kernel_rfl) (by kernel_rfl) (by exact fun _ _ _ h => h) (Or.inl ⟨by rfl, ?hyq23_⟩) (by assumption) ?_
                case hyq23_ => (intro w hSw; (try dsimp only at hSw); go_simp) <;> with_reducible rfl
                try simp only [Act.put, List.setIfInBounds_toArray, List.set_cons_zero, List.set_cons_succ]
                refine wpAnyH_take (i := 11) (v := ?vq24_) (get_ot (get_os (get_o0))) (by kernel_rfl) (by kernel_rfl) (by kernel_rfl) (by exact fun _ _ _ h => h) (Or.inl ⟨by rfl, ?hyq24_⟩) (by assumption) ?_
                case hyq24_ => (intro w hSw; (try dsimp only at hSw); go_simp) <;> with_reducible rfl
                try simp only [Act.put, List.setIfInBounds_toArray, List.set_cons_zero, List.set_cons_succ]
                refine wpAnyH_ready (rs := [13]) (by kernel_rfl) (by simp) ?_
                refine (AllReadyH.cons (get_ot (get_os (get_os (get_os (get_o0))))) (fun KK hKK => ?_) AllReadyH.nil)
                refine step_storeI rfl rowAg (.tmp 8) (.tmp 44) rfl _ (by first | rfl | go_simp) (H.out.blk 2 rfl) rfl u.cs rfl (by first | rfl | go_simp) (ag_one u) ?_
                intro wq bq hgq
                replace H := Lib.hid (H.out.setBlk 2 rfl hgq bq); (try simp only [List.set_cons_zero, List.set_cons_succ, List.cons_append, List.nil_append, List.eraseIdx_cons_zero, List.eraseIdx_cons_succ, List.setIfInBounds_toArray, World.size_alloc, selR, List.getD_cons_zero, List.getD_cons_succ] at H)
                clear hgq bq
                refine hKK.out _ _ trivial (fun hHeld => ?_)
                clear hKK KK
                try simp only [Act.put, List.setIfInBounds_toArray, List.set_cons_zero, List.set_cons_succ]
                refine wpAnyH_ready (rs := [14]) (by kernel_rfl) (by simp) ?_
                refine (AllReadyH.cons (get_ot (get_os (get_os (get_os (get_os (get_o0)))))) (fun KK hKK => ?_) AllReadyH.nil)
                go_simp
                refine hKK.out _ _ trivial (fun hHeld => ?_)
                clear hKK KK
                try simp only [Act.put, List.setIfInBounds_toArray, List.set_cons_zero, List.set_cons_succ]
                refine wpAnyH_done (by kernel_rfl) ?_ _
                clear hHeld
                go_wp2_with fail
                go_meet
                exact ⟨_, rfl, rfl, H⟩
              · refine step_loadK rfl rowAg (.tmp 41) (by first | rfl | go_simp) _ 1 (by first | rfl | go_simp) f.ag.cs (by intro jj uu hu; have := (H.out.blk 1 rfl).range (1 + jj) uu (by show (f.ks.v :: f.ag.cs.toList)[1 + jj]? = _; rw [Nat.add_comm, List.getElem?_cons_succ]; exact hu); rwa [Nat.zero_add] at this) rfl ?_
                refine hKK.out _ _ trivial (fun hHeld => ?_)
                clear hKK KK
                try simp only [Act.put, List.setIfInBounds_toArray, List.set_cons_zero, List.set_cons_succ]
                refine wpAnyH_ready (rs := [5]) (by kernel_rfl) (by simp) ?_
                refine (AllReadyH.cons (get_os (get_os (get_os (get_os (get_os (get_o0)))))) (fun KK hKK => ?_) AllReadyH.nil)
                refine step_loadK rfl rowAg (.tmp 39) (by first | rfl | go_simp) g (m * 11 + 1) (by first | rfl | go_simp) p.ag.cs (own_rangeAg (H.out.row 0 rfl) HPG.out) rfl ?_
                refine hKK.out _ _ trivial (fun hHeld => ?_)
                clear hKK KK
                try simp only [Act.put, List.setIfInBounds_toArray, List.set_cons_zero, List.set_cons_succ]
                refine wpAnyH_ready (rs := [8]) (by kernel_rfl) (by simp) ?_
                refine (AllReadyH.cons (get_os (get_os (get_os (get_os (get_os (get_os (get_os (get_os (get_o0))))))))) (fun KK hKK => ?_) AllReadyH.nil)
                go_simp
                refine (HJ.out _).mono ?_; rintro e' w6 ⟨rfl, hb6⟩
                replace H := Lib.hid (H.out.bel hb6); (try simp only [List.set_cons_zero, List.set_cons_succ, List.cons_append, List.nil_append, List.eraseIdx_cons_zero, List.eraseIdx_cons_succ, List.setIfInBounds_toArray, World.size_alloc, selR, List.getD_cons_zero, List.getD_cons_succ] at H)
                clear hb6
                refine hKK.out _ _ trivial (fun hHeld => ?_)
                clear hKK KK
                try simp only [Act.put, List.setIfInBounds_toArray, List.set_cons_zero, List.set_cons_succ]
                refine wpAnyH_take (i := 9) (v := ?vq25_) (get_os (get_os (get_os (get_os (get_os (get_os (get_os (get_os (get_os (get_o0)))))))))) (by kernel_rfl) (by kernel_rfl) (by kernel_rfl) (by exact fun _ _ _ h => h) (Or.inl ⟨by rfl, ?hyq25_⟩) (by assumption) ?_
                case hyq25_ => (intro w hSw; (try dsimp only at hSw); go_simp) <;> with_reducible rfl
                try simp only [Act.put, List.setIfInBounds_toArray, List.set_cons_zero, List.set_cons_succ]
                refine wpAnyH_take (i := 10) (v := ?vq26_) (get_ot (get_o0)) (by kernel_rfl) (by kernel_rfl) (by kernel_rfl) (by exact fun _ _ _ h => h) (Or.inl ⟨by rfl, ?hyq26_⟩) (by assumption) ?_
                case hyq26_ => (intro w hSw; (try dsimp only at hSw); go_simp) <;> with_reducible rfl
                try simp only [Act.put, List.setIfInBounds_toArray, List.set_cons_zero, List.set_cons_succ]
                refine wpAnyH_take (i := 11) (v := ?vq27_) (get_ot (get_os (get_o0))) (by kernel_rfl) (by kernel_rfl) (by kernel_rfl) (by exact fun _ _ _ h => h) (Or.inl ⟨by rfl, ?hyq27_⟩) (by assumption) ?_
                case hyq27_ => (intro w hSw; (try dsimp only at hSw); go_simp) <;> with_reducible rfl
                try simp only [Act.put, List.setIfInBounds_toArray, List.set_cons_zero, List.set_cons_succ]
                refine wpAnyH_ready (rs := [13]) (by kernel_rfl) (by simp) ?_
                refine (AllReadyH.cons (get_ot (get_os (get_os (get_os (get_o0))))) (fun KK hKK => ?_) AllReadyH.nil)
                refine step_storeI rfl rowAg (.tmp 8) (.tmp 44) rfl _ (by first | rfl | go_simp) (H.out.blk 2 rfl) rfl u.cs rfl (by first | rfl | go_simp) (ag_one u) ?_
                intro wq bq hgq
                replace H := Lib.hid (H.out.setBlk 2 rfl hgq bq); (try simp only [List.set_cons_zero, List.set_cons_succ, List.cons_append, List.nil_append, List.eraseIdx_cons_zero, List.eraseIdx_cons_succ, List.setIfInBounds_toArray, World.size_alloc, selR, List.getD_cons_zero, List.getD_cons_succ] at H)
                clear hgq bq
                refine hKK.out _ _ trivial (fun hHeld => ?_)
                clear hKK KK
                try simp only [Act.put, List.setIfInBounds_toArray, List.set_cons_zero, List.set_cons_succ]
                refine wpAnyH_ready (rs := [14]) (by kernel_rfl) (by simp) ?_
                refine (AllReadyH.cons (get_ot (get_os (get_os (get_os (get_os (get_o0)))))) (fun KK hKK => ?_) AllReadyH.nil)
                go_simp
                refine hKK.out _ _ trivial (fun hHeld => ?_)
                clear hKK KK
                try simp only [Act.put, List.setIfInBounds_toArray, List.set_cons_zero, List.set_cons_succ]
                refine wpAnyH_done (by kernel_rfl) ?_ _
                clear hHeld
                go_wp2_with fail
                go_meet
                exact ⟨_, rfl, rfl, H⟩
          case rest =>
            clear H
            obtain ⟨z, rfl, rfl, H⟩ := hcut
            cases ok with
            | false =>
              have HO := Lib.hid (HOV.out rfl)
              go_wp2_with fail
              go_ret2
              exact HPO.out _ _ (.inl ⟨HO.out, rfl, H.out.to⟩)
            | true =>
              have HE2 := Lib.hid (HOK.out rfl)
              clear HOK HOV
              go_upto_region 12 with (first | ((with_reducible show wpList _ _ _ (⟨some 51, _, _, _, _, _⟩ :: _) _ _); (refine wpList_load_blk rfl rowAg (.tmp 8) rfl _ rfl (H.out.blk 2 rfl) rfl ?_)) | ((with_reducible show wpList _ _ _ (⟨_, .store _ (.tmp 53) _, _, _, _, _⟩ :: _) _ _); refine wpList_storeAg rfl rowAg (.tmp 53) (.tmp 51) rfl m rfl (H.out.row 0 rfl) HPG.out u rfl ?_; intro wq howq hgq; replace H := Lib.hid (H.out.setRow 0 rfl hgq howq (.inl rfl)); (try simp only [List.set_cons_zero, List.set_cons_succ, List.cons_append, List.nil_append, List.eraseIdx_cons_zero, List.eraseIdx_cons_succ, List.setIfInBounds_toArray, World.size_alloc, selR, List.getD_cons_zero, List.getD_cons_succ] at H); clear howq hgq))
              (try simp only [Act.put, List.setIfInBounds_toArray, List.set_cons_zero, List.set_cons_succ])
              replace H := Lib.hid (H.out.sel [0] (by decide) (by simp)); (try simp only [List.set_cons_zero, List.set_cons_succ, List.cons_append, List.nil_append, List.eraseIdx_cons_zero, List.eraseIdx_cons_succ, List.setIfInBounds_toArray, World.size_alloc, selR, List.getD_cons_zero, List.getD_cons_succ] at H)
              have HQ2 : Hid ((out.set m ⟨p.ks, u⟩).length = m + 1) := by show _ = _; rw [List.length_set, HL.out]
              have HFO2 : Hid (∀ z ∈ out.set m ⟨p.ks, u⟩, z.ok w) := fun z hz => by
                rcases List.mem_or_eq_of_mem_set hz with h | rfl
                · exact HFO.out z h
                · exact ⟨HPok.out.ks, HUok.out⟩
              clear HFO
              go_wp2_with fail
              go_roundg (N - (k + 1))
              case rel => exact ⟨k + 1, m + 1, d, some ⟨g, 0, none⟩, out.set m ⟨p.ks, u⟩, rfl, by omega, by omega, rfl, by go_num, HQ2, HE2, HFO2, H⟩
              case measure => rw [Hgk.out]; omega
        · have d1 : (cmpK p.ks.l f.ks.l != 0) = true := by simp [hcmp]
          have HE2 : Hid (foldFrom (cons (out ++ [f])) (cons (X.drop (k + 1))) = O) := by
            show _ = _
            have h := HNX.out
            rw [HE.out, stepF_app HL.out HPG.out hcmp] at h
            exact h.symm
          clear HE HNX hcmp HC HBW HXB HPR e2 m0 m1 e1 HL HPG
          go_upto_region 12 with (first | ((with_reducible show wpList _ _ _ (⟨some 31, _, _, _, _, _⟩ :: _) _ _); (refine wpList_load_blk rfl rowFct (.tmp 6) rfl _ rfl (H.out.blk 1 rfl) rfl ?_)) | ((with_reducible show wpList _ _ _ (⟨some 32, _, _, _, _, _⟩ :: _) _ _); (refine wpList_buildSlice1 rfl E_fct (.tmp 31) rfl (f.cs) rfl (fct_size f) (by omega) ?_; replace H := Lib.hid (H.out.addRow ((Bel.refl _).alloc _) (own_madeK _ 84 (f.cs) 11 (fct_size f))); (try simp only [List.set_cons_zero, List.set_cons_succ, List.cons_append, List.nil_append, List.eraseIdx_cons_zero, List.eraseIdx_cons_succ, List.setIfInBounds_toArray, World.size_alloc, selR, List.getD_cons_zero, List.getD_cons_succ] at H))) | ((with_reducible show wpList _ _ _ (⟨some 33, _, _, _, _, _⟩ :: _) _ _); (refine wpList_append0 rfl (.tmp 30) (.tmp 32) _ rfl E_fct 0 (Nat.zero_le _) _ _ _ rfl (H.out.row 0 rfl) _ 1 1 f.cs.toList rfl (Rd.of_own (H.out.row 2 rfl)) (fct_onesK f) (by unfold maxLen; omega) (by omega) ?_; intro vq wq howq hgq hatq; replace H := Lib.hid (H.out.setRow 0 rfl hgq howq hatq); (try simp only [List.set_cons_zero, List.set_cons_succ, List.cons_append, List.nil_append, List.eraseIdx_cons_zero, List.eraseIdx_cons_succ, List.setIfInBounds_toArray, World.size_alloc, selR, List.getD_cons_zero, List.getD_cons_succ] at H); clear howq hgq hatq; obtain ⟨B2, d2, rfl, _⟩ := own_slice (H.out.row 0 rfl))))
          (try simp only [Act.put, List.setIfInBounds_toArray, List.set_cons_zero, List.set_cons_succ])
          replace H := Lib.hid (H.out.sel [0] (by decide) (by simp)); (try simp only [List.set_cons_zero, List.set_cons_succ, List.cons_append, List.nil_append, List.eraseIdx_cons_zero, List.eraseIdx_cons_succ, List.setIfInBounds_toArray, World.size_alloc, selR, List.getD_cons_zero, List.getD_cons_succ] at H)
          have hflat : out.flatMap Cel.cells ++ f.cs.toList = (out ++ [f]).flatMap Cel.cells := by simp [Cel.cells]
          rw [hflat] at H
          have HQ2 : Hid ((out ++ [f]).length = m + 1 + 1) := by show _ = _; rw [List.length_append, HQ.out]; rfl
          have HFO2 : Hid (∀ z ∈ out ++ [f], z.ok w) := fun z hz => (List.mem_append.1 hz).elim (HFO.out z) (fun h => by rw [List.mem_singleton] at h; subst h; exact HFok.out)
          clear hflat HQ HFO
          go_wp2_with fail
          go_roundg (N - (k + 1))
          case rel => exact ⟨k + 1, m + 1 + 1, d2, B2, out ++ [f], rfl, by omega, by omega, rfl, by go_num, HQ2, HE2, HFO2, H⟩
          case measure => rw [Hgk.out]; omega
    · obtain rfl : k = N := by omega
      have HO : Hid (O = some (cons out)) := by
        show _ = _
        have h := HE.out
        rw [List.drop_of_length_le (by have := hlen.out; omega)] at h
        exact h.symm
      have HX0 := Lib.hid (clone_any ⟨B, q, d, out⟩ wr (own_okK (x := ⟨B, q, d, out⟩) (H.out.row 0 rfl) (fun f hf => ⟨(HFO.out f hf).ks.mono H.out.to, (HFO.out f hf).ag⟩) (by show q * 104 ≤ _; omega)) (by show q ≤ _; omega))
      clear HE
      go_wp2_with fail
      refine HX0.out.mono ?_; rintro e w9 ⟨v, fs, rfl, hG, hc⟩
      have HRS := Lib.hid (HPO.out (.returned (.tuple #[v, .int .i64 0])) w9 (.inr ⟨_, v, fs, HO.out, rfl, hG.from_ H.out.to, hc⟩))
      clear hG hc HX0
      go_wp2
      go_ret2
      exact HRS.out

end Go.Proofs.Ytelnhhbefdfeoaa

namespace Go.Proofs.Ytelnhhbefdfeoaa
open Go.RowKit
set_option linter.unusedVariables false
set_option linter.unusedSimpArgs false


/-- How the document's Fold ends. -/
def RFoldPost (l : List Con) (w : World) (e : Ending) (w' : World) : Prop :=
  (foldC l = none ∧ e = .returned (.tuple #[.slice none 0 0, .bool false]) ∧ Bel w w') ∨ ∃ x : Row Fct, foldC l = some (cons x.l) ∧ e = .returned (.tuple #[.slice x.A x.n x.c, .bool true]) ∧ x.ok w' ∧ Bel w w'
set_option maxRecDepth 100000 in
set_option maxHeartbeats 4000000 in
theorem rfoldI_any (w : World) (x : Row Fct) (hx : x.ok w) (hn : x.n ≤ 1000000) :
    Calls Try.prog 12 #[.slice x.A x.n x.c] w (RFoldPost (cons x.l) w) := by
  have RJ := rjoin_any
  have HX := Lib.hid hx
  have hlen : Hid (x.l.length = x.n) := hx.len
  obtain ⟨A0, N, c0, X⟩ := x
  simp only at *
  obtain ⟨O, hO⟩ : ∃ O, O = foldC (cons X) := ⟨_, rfl⟩
  have HPO : Hid (∀ e w', ((O = none ∧ e = .returned (.tuple #[.slice none 0 0, .bool false]) ∧ Bel w w') ∨ ∃ x : Row Fct, O = some (cons x.l) ∧ e = .returned (.tuple #[.slice x.A x.n x.c, .bool true]) ∧ x.ok w' ∧ Bel w w') → RFoldPost (cons X) w e w') := fun e w' h => by rw [hO] at h; exact h
  have HE : Hid (foldFrom (cons []) (cons (X.drop 0)) = O) := by show _ = _; rw [hO]; rfl
  clear hO hx
  have H : Hid (SL No w w [rRow 84 11 (.slice none 0 0) 0 (([] : List Fct).flatMap Cel.cells)]) := Lib.hid ((SL.start No w).addNil 84 11)
  have HFO : Hid (∀ f ∈ ([] : List Fct), f.ok w) := fun f hf => by cases hf
  go_enter Try.func12, Try.ntmps12
  go_wp2_with fail
  go_loopg [4, 12] N (fun gg s4 s12 wr => ∃ (k q d : Nat) (B : Option Addr) (out : List Fct), gg = N - k ∧ k ≤ N ∧ q ≤ k ∧ s4 = .slice B q d ∧ s12 = .int .i64 k ∧ Hid (out.length = q) ∧ Hid (foldFrom (cons out) (cons (X.drop k)) = O) ∧ Hid (∀ f ∈ out, f.ok w) ∧ Hid (SL No w wr [rRow 84 11 (.slice B q d) q (out.flatMap Cel.cells)]))
  case atStart => exact ⟨0, 0, 0, none, [], rfl, by omega, by omega, rfl, rfl, Lib.hid rfl, HE, HFO, H⟩
  case round =>
    clear H HE HFO
    obtain ⟨k, q, d, B, out, hgk, hk, hqk, rfl, rfl, HQ, HE, HFO, H⟩ := hrel
    have Hgk := Lib.hid hgk
    clear hgk
    by_cases hlt : k < N
    · obtain ⟨fb, fo, f, hA, hfb, hfk, hfok, _, hfr, _⟩ := (HX.out.mono H.out.to).fct hlt
      simp only at hA
      subst hA
      have HFok : Hid (f.ok w) := HX.out.all f (List.mem_of_getElem? hfk)
      have HR := Lib.hid hfr
      have HNX := Lib.hid (fold_next hfk (cons out))
      have i0 : (0 : Int) ≤ k := by omega
      have i1 : (k : Int) < N := by omega
      clear hfk hfok hfr
      go_upto_region 5 with (first | ((with_reducible show wpList _ _ _ (⟨some 15, _, _, _, _, _⟩ :: _) _ _); (refine wpList_load_row_at rfl rowFct (.tmp 14) rfl fb (fo + k * 11) rfl f.cs rfl HR.out ?_)) | ((with_reducible show wpList _ _ _ (⟨_, .store _ (.tmp 6) _, _, _, _, _⟩ :: _) _ _); (refine wpList_store_new rfl rowFct (.tmp 6) (.tmp 15) rfl rfl rfl (f.cs) rfl rfl (fct_one f) ?_; replace H := Lib.hid (H.out.alloc (f.cs) 84); (try simp only [List.set_cons_zero, List.set_cons_succ, List.cons_append, List.nil_append, List.eraseIdx_cons_zero, List.eraseIdx_cons_succ, List.setIfInBounds_toArray, World.size_alloc, selR, List.getD_cons_zero, List.getD_cons_succ] at H))))
      (try simp only [Act.put, List.setIfInBounds_toArray, List.set_cons_zero, List.set_cons_succ])
      clear hfb HR
      generalize wr.heap.size = x at *
      generalize World.alloc _ _ = w1 at *
      by_cases hq0 : q = 0
      · have HQ0 := HQ.out
        rw [hq0] at HQ0
        have hout : out = [] := List.eq_nil_of_length_eq_zero HQ0
        have HE2 : Hid (foldFrom (cons (out ++ [f])) (cons (X.drop (k + 1))) = O) := by
          show _ = _
          have h := HNX.out
          rw [HE.out, hout, show cons ([] : List Fct) = [] from rfl, stepF_nil] at h
          rw [h, hout]
          rfl
        clear HE HNX
        have e1 : ((q : Int) == 0) = true := by rw [hq0]; rfl
        clear HQ0 hq0 hout
        go_upto_region 6 with fail
        refine wp_region_over (by kernel_rfl) (by kernel_rfl) ?_
        (try simp only [Act.put, List.setIfInBounds_toArray, List.set_cons_zero, List.set_cons_succ])
        repeat (go_big_quiet_step (fail))
        refine wpQuiet_nil ?_
        rintro w5 ⟨⟨_, hw5⟩, rfl⟩
        (try dsimp only)
        replace H := Lib.hid (H.out.bel hw5); (try simp only [List.set_cons_zero, List.set_cons_succ, List.cons_append, List.nil_append, List.eraseIdx_cons_zero, List.eraseIdx_cons_succ, List.setIfInBounds_toArray, World.size_alloc, selR, List.getD_cons_zero, List.getD_cons_succ] at H)
        skip
        go_upto_region 12 with (first | ((with_reducible show wpList _ _ _ (⟨some 39, _, _, _, _, _⟩ :: _) _ _); (refine wpList_load_blk rfl rowFct (.tmp 6) rfl _ rfl (H.out.blk 1 rfl) rfl ?_)) | ((with_reducible show wpList _ _ _ (⟨some 40, _, _, _, _, _⟩ :: _) _ _); (refine wpList_buildSlice1 rfl E_fct (.tmp 39) rfl (f.cs) rfl (fct_size f) (by omega) ?_; replace H := Lib.hid (H.out.addRow ((Bel.refl _).alloc _) (own_madeK _ 84 (f.cs) 11 (fct_size f))); (try simp only [List.set_cons_zero, List.set_cons_succ, List.cons_append, List.nil_append, List.eraseIdx_cons_zero, List.eraseIdx_cons_succ, List.setIfInBounds_toArray, World.size_alloc, selR, List.getD_cons_zero, List.getD_cons_succ] at H))) | ((with_reducible show wpList _ _ _ (⟨some 41, _, _, _, _, _⟩ :: _) _ _); (refine wpList_append0 rfl (.tmp 38) (.tmp 40) _ rfl E_fct 0 (Nat.zero_le _) _ _ _ rfl (H.out.row 0 rfl) _ 1 1 f.cs.toList rfl (Rd.of_own (H.out.row 2 rfl)) (fct_onesK f) (by unfold maxLen; omega) (by omega) ?_; intro vq wq howq hgq hatq; replace H := Lib.hid (H.out.setRow 0 rfl hgq howq hatq); (try simp only [List.set_cons_zero, List.set_cons_succ, List.cons_append, List.nil_append, List.eraseIdx_cons_zero, List.eraseIdx_cons_succ, List.setIfInBounds_toArray, World.size_alloc, selR, List.getD_cons_zero, List.getD_cons_succ] at H); clear howq hgq hatq; obtain ⟨B2, d2, rfl, _⟩ := own_slice (H.out.row 0 rfl))))
        (try simp only [Act.put, List.setIfInBounds_toArray, List.set_cons_zero, List.set_cons_succ])
        replace H := Lib.hid (H.out.sel [0] (by decide) (by simp)); (try simp only [List.set_cons_zero, List.set_cons_succ, List.cons_append, List.nil_append, List.eraseIdx_cons_zero, List.eraseIdx_cons_succ, List.setIfInBounds_toArray, World.size_alloc, selR, List.getD_cons_zero, List.getD_cons_succ] at H)
        have hflat : out.flatMap Cel.cells ++ f.cs.toList = (out ++ [f]).flatMap Cel.cells := by simp [Cel.cells]
        rw [hflat] at H
        have HQ2 : Hid ((out ++ [f]).length = q + 1) := by show _ = _; rw [List.length_append, HQ.out]; rfl
        have HFO2 : Hid (∀ z ∈ out ++ [f], z.ok w) := fun z hz => (List.mem_append.1 hz).elim (HFO.out z) (fun h => by rw [List.mem_singleton] at h; subst h; exact HFok.out)
        clear hflat HQ HFO
        go_wp2_with fail
        go_roundg (N - (k + 1))
        case rel => exact ⟨k + 1, q + 1, d2, B2, out ++ [f], rfl, by omega, by omega, rfl, by go_num, HQ2, HE2, HFO2, H⟩
        case measure => rw [Hgk.out]; omega
      · obtain ⟨m, rfl⟩ : ∃ m, q = m + 1 := ⟨q - 1, by omega⟩
        obtain ⟨g, rfl⟩ := own_blkF (H.out.row 0 rfl) (by omega)
        have hl : out.length = m + 1 := HQ.out
        obtain ⟨p, hp⟩ : ∃ p, out[m]? = some p := ⟨_, List.getElem?_eq_getElem (by omega)⟩
        have HPG := Lib.hid hp
        have HL := Lib.hid hl
        have HPok : Hid (p.ok w) := HFO.out p (List.mem_of_getElem? hp)
        have hprg := own_range (α := Fct) (H.out.row 0 rfl) hp
        have HPR := Lib.hid hprg
        have e1 : ((m : Int) + 1 == 0) = false := by simp <;> omega
        have e2 : (m : Int) + 1 - 1 = m := by omega
        have m0 : (0 : Int) ≤ m := by omega
        have e3 : IntKind.i64.wrap (m : Int) = m := IntWalk.i64_in _ (by omega)
        have m1 : (m : Int) < (m : Int) + 1 := by omega
        have HC := Lib.hid (fun w' (hb : Bel w w') => less_any p f w' ⟨HPok.out.ks.mono hb, HPok.out.ag⟩ ⟨HFok.out.ks.mono hb, HFok.out.ag⟩)
        have HD := Lib.hid (fun w' (hb : Bel w w') => less_any f p w' ⟨HFok.out.ks.mono hb, HFok.out.ag⟩ ⟨HPok.out.ks.mono hb, HPok.out.ag⟩)
        have HBW := Lib.hid H.out.to
        have HXB := H.out.blk 1 rfl
        clear hp hl hprg
        have hr := cmpK_range p.ks.l f.ks.l
        have hsw := cmpK_swap p.ks.l f.ks.l
        by_cases hcmp : cmpK p.ks.l f.ks.l = 0
        · have l1 : lessK p.ks.l f.ks.l = false := by unfold lessK; rw [hcmp]; rfl
          have l2 : lessK f.ks.l p.ks.l = false := by unfold lessK; rw [hsw, hcmp]; rfl
          have HC1 := Lib.hid HC.out
          have HC2 := Lib.hid HD.out
          rw [l1] at HC1
          rw [l2] at HC2
          have HCM := Lib.hid hcmp
          clear l1 l2 HC HD hr hsw
          go_upto_region 6 with fail
          refine wp_region_over (by kernel_rfl) (by kernel_rfl) ?_
          (try simp only [Act.put, List.setIfInBounds_toArray, List.set_cons_zero, List.set_cons_succ])
          repeat (first
            | ((with_reducible show wpQuiet _ _ _ _ (⟨some 25, _, _, _, _, _⟩ :: _) _); refine wpQuiet_load_row (by first | rfl | go_simp) rowFct (.tmp 24) rfl g (m * 11) rfl p.cs rfl HPR.out.2 HPR.out.1 ?_; simp only [Act.put, List.setIfInBounds_toArray, List.set_cons_zero, List.set_cons_succ])
            | ((with_reducible show wpQuiet _ _ _ _ (⟨some 26, _, _, _, _, _⟩ :: _) _); refine wpQuiet_load_row (by first | rfl | go_simp) rowFct (.tmp 6) rfl x (0) rfl f.cs rfl HXB.lt HXB.range ?_; simp only [Act.put, List.setIfInBounds_toArray, List.set_cons_zero, List.set_cons_succ])
            | ((with_reducible show wpQuiet _ _ _ _ (⟨some 30, _, _, _, _, _⟩ :: _) _); refine wpQuiet_load_row (by first | rfl | go_simp) rowFct (.tmp 6) rfl x (0) rfl f.cs rfl HXB.lt HXB.range ?_; simp only [Act.put, List.setIfInBounds_toArray, List.set_cons_zero, List.set_cons_succ])
            | ((with_reducible show wpQuiet _ _ _ _ (⟨some 35, _, _, _, _, _⟩ :: _) _); refine wpQuiet_load_row (by first | rfl | go_simp) rowFct (.tmp 34) rfl g (m * 11) rfl p.cs rfl HPR.out.2 HPR.out.1 ?_; simp only [Act.put, List.setIfInBounds_toArray, List.set_cons_zero, List.set_cons_succ])
            | ((with_reducible show wpQuiet _ _ _ _ (⟨some 27, _, _, _, _, _⟩ :: _) _); go_big_quiet_step ((go_at_call 36; rename_i u; exact calls_over (HC1.out _ (HBW.out.trans u.bel)))))
            | ((with_reducible show wpQuiet _ _ _ _ (⟨some 36, _, _, _, _, _⟩ :: _) _); go_big_quiet_step ((go_at_call 36; rename_i u; exact calls_over (HC2.out _ (HBW.out.trans u.bel)))))
            | go_big_quiet_step (fail))
          refine wpQuiet_nil ?_
          rintro w5 ⟨⟨_, hw5⟩, rfl⟩
          (try dsimp only)
          replace H := Lib.hid (H.out.bel hw5); (try simp only [List.set_cons_zero, List.set_cons_succ, List.cons_append, List.nil_append, List.eraseIdx_cons_zero, List.eraseIdx_cons_succ, List.setIfInBounds_toArray, World.size_alloc, selR, List.getD_cons_zero, List.getD_cons_succ] at H)
          skip
          clear HC1 HC2
          obtain ⟨J, hJ⟩ : ∃ J, J = p.ag.join f.ag := ⟨_, rfl⟩
          have HJ := Lib.hid (fun w' => RJ p.ag f.ag w' HPok.out.ag HFok.out.ag)
          have HJok := join_ok HPok.out.ag HFok.out.ag
          have HOV : Hid (J.2 = false → O = none) := fun h => by
            rw [hJ] at h
            have h1 := HNX.out
            rw [HE.out, stepF_over HL.out HPG.out hcmp h] at h1
            exact h1
          have HOK : Hid (J.2 = true → foldFrom (cons (out.set m ⟨f.ks, J.1⟩)) (cons (X.drop (k + 1))) = O) := fun h => by
            have h1 := HNX.out
            rw [hJ] at h ⊢
            rw [HE.out, stepF_join HL.out HPG.out hcmp h] at h1
            have h2 : cons (out.set m ⟨f.ks, (p.ag.join f.ag).1⟩) = cons (out.set m ⟨p.ks, (p.ag.join f.ag).1⟩) := by
              simp only [cons, List.map_set]
              show (out.map Fct.con).set m (f.ks.l, _) = (out.map Fct.con).set m (p.ks.l, _)
              rw [cmpK_eq hcmp]
            rw [h2]
            exact h1.symm
          rw [← hJ] at HJ HJok
          clear hJ hcmp HNX HE HBW HXB HPR
          obtain ⟨u, ok⟩ := J
          simp only at HJ HJok HOV HOK
          have HUok := Lib.hid HJok
          clear HJok
          go_upto_region 8 with fail
          go_cut [8, 9] (fun s8 s9 wx => ∃ z : Nat, s8 = .pointer (some ⟨z, 0, none⟩) ∧ s9 = .bool ok ∧ Hid (SL No w wx [rRow 84 11 (.slice (some ⟨g, 0, none⟩) (m + 1) d) (m + 1) (out.flatMap Cel.cells), rBlk x 84 f.cs, rBlk z 82 u.cs]))
          case first =>
            refine wp_region_held_drew (S := fun _ => True) (by kernel_rfl) trivial (fun hHeld => ?_)
            replace H := Lib.hid (H.out.drew); (try simp only [List.set_cons_zero, List.set_cons_succ, List.cons_append, List.nil_append, List.eraseIdx_cons_zero, List.eraseIdx_cons_succ, List.setIfInBounds_toArray, World.size_alloc, selR, List.getD_cons_zero, List.getD_cons_succ] at H)
            refine wpAnyH_take (i := 0) (v := ?vq28_0) (get_o0) (by kernel_rfl) (by kernel_rfl) (by kernel_rfl) (by exact fun _ _ _ h => h) (Or.inl ⟨by rfl, ?hyq28_0⟩) (by assumption) ?_
            case hyq28_0 => (intro w hSw; (try dsimp only at hSw); go_simp) <;> with_reducible rfl
            try simp only [Act.put, List.setIfInBounds_toArray, List.set_cons_zero, List.set_cons_succ]
            refine wpAnyH_take (i := 1) (v := ?vq28_1) (get_os (get_o0)) (by kernel_rfl) (by kernel_rfl) (by kernel_rfl) (by exact fun _ _ _ h => h) (Or.inl ⟨by rfl, ?hyq28_1⟩) (by assumption) ?_
            case hyq28_1 => (intro w hSw; (try dsimp only at hSw); go_simp) <;> with_reducible rfl
            try simp only [Act.put, List.setIfInBounds_toArray, List.set_cons_zero, List.set_cons_succ]
            refine wpAnyH_take (i := 2) (v := ?vq28_2) (get_os (get_os (get_o0))) (by kernel_rfl) (by kernel_rfl) (by kernel_rfl) (by exact fun _ _ _ h => h) (Or.inl ⟨by rfl, ?hyq28_2⟩) (by assumption) ?_
            case hyq28_2 => (intro w hSw; (try dsimp only at hSw); go_simp) <;> with_reducible rfl
            try simp only [Act.put, List.setIfInBounds_toArray, List.set_cons_zero, List.set_cons_succ]
            refine wpAnyH_take (i := 3) (v := ?vq28_3) (get_os (get_os (get_os (get_o0)))) (by kernel_rfl) (by kernel_rfl) (by kernel_rfl) (by exact fun _ _ _ h => h) (Or.inl ⟨by rfl, ?hyq28_3⟩) (by assumption) ?_
            case hyq28_3 => (intro w hSw; (try dsimp only at hSw); go_simp) <;> with_reducible rfl
            try simp only [Act.put, List.setIfInBounds_toArray, List.set_cons_zero, List.set_cons_succ]
            refine wpAnyH_take (i := 4) (v := ?vq28_4) (get_os (get_os (get_os (get_os (get_o0))))) (by kernel_rfl) (by kernel_rfl) (by kernel_rfl) (by exact fun _ _ _ h => h) (Or.inl ⟨by rfl, ?hyq28_4⟩) (by assumption) ?_
            case hyq28_4 => (intro w hSw; (try dsimp only at hSw); go_simp) <;> with_reducible rfl
            try simp only [Act.put, List.setIfInBounds_toArray, List.set_cons_zero, List.set_cons_succ]
            refine wpAnyH_take (i := 6) (v := ?vq28_6) (get_os (get_os (get_os (get_os (get_os (get_os (get_o0))))))) (by kernel_rfl) (by kernel_rfl) (by kernel_rfl) (by exact fun _ _ _ h => h) (Or.inl ⟨by rfl, ?hyq28_6⟩) (by assumption) ?_
            case hyq28_6 => (intro w hSw; (try dsimp only at hSw); go_simp) <;> with_reducible rfl
            try simp only [Act.put, List.setIfInBounds_toArray, List.set_cons_zero, List.set_cons_succ]
            refine wpAnyH_ready (rs := [5, 7, 12]) (by kernel_rfl) (by simp) ?_
            refine (AllReadyH.cons (get_os (get_os (get_os (get_os (get_os (get_o0)))))) (fun KK hKK => ?_) (AllReadyH.cons (get_os (get_os (get_os (get_os (get_os (get_os (get_os (get_o0)))))))) (fun KK hKK => ?_) (AllReadyH.cons (get_ot (get_os (get_os (get_o0)))) (fun KK hKK => ?_) AllReadyH.nil)))
            · refine step_loadK rfl rowAg (.tmp 47) (by first | rfl | go_simp) g (m * 11 + 1) (by first | rfl | go_simp) p.ag.cs (own_rangeAg (H.out.row 0 rfl) HPG.out) rfl ?_
              refine hKK.out _ _ trivial (fun hHeld => ?_)
              clear hKK KK
              try simp only [Act.put, List.setIfInBounds_toArray, List.set_cons_zero, List.set_cons_succ]
              refine wpAnyH_ready (rs := [7, 12]) (by kernel_rfl) (by simp) ?_
              refine (AllReadyH.cons (get_os (get_os (get_os (get_os (get_os (get_os (get_os (get_o0)))))))) (fun KK hKK => ?_) (AllReadyH.cons (get_ot (get_os (get_os (get_o0)))) (fun KK hKK => ?_) AllReadyH.nil))
              · refine step_loadK rfl rowAg (.tmp 49) (by first | rfl | go_simp) _ 1 (by first | rfl | go_simp) f.ag.cs (by intro jj uu hu; have := (H.out.blk 1 rfl).range (1 + jj) uu (by show (f.ks.v :: f.ag.cs.toList)[1 + jj]? = _; rw [Nat.add_comm, List.getElem?_cons_succ]; exact hu); rwa [Nat.zero_add] at this) rfl ?_
                refine hKK.out _ _ trivial (fun hHeld => ?_)
                clear hKK KK
                try simp only [Act.put, List.setIfInBounds_toArray, List.set_cons_zero, List.set_cons_succ]
                refine wpAnyH_ready (rs := [8, 12]) (by kernel_rfl) (by simp) ?_
                refine (AllReadyH.cons (get_os (get_os (get_os (get_os (get_os (get_os (get_os (get_os (get_o0))))))))) (fun KK hKK => ?_) (AllReadyH.cons (get_ot (get_os (get_os (get_o0)))) (fun KK hKK => ?_) AllReadyH.nil))
                · go_simp
                  refine (HJ.out _).mono ?_; rintro e' w6 ⟨rfl, hb6⟩
                  replace H := Lib.hid (H.out.bel hb6); (try simp only [List.set_cons_zero, List.set_cons_succ, List.cons_append, List.nil_append, List.eraseIdx_cons_zero, List.eraseIdx_cons_succ, List.setIfInBounds_toArray, World.size_alloc, selR, List.getD_cons_zero, List.getD_cons_succ] at H)
                  clear hb6
                  refine hKK.out _ _ trivial (fun hHeld => ?_)
                  clear hKK KK
                  try simp only [Act.put, List.setIfInBounds_toArray, List.set_cons_zero, List.set_cons_succ]
                  refine wpAnyH_take (i := 9) (v := ?vq29_) (get_os (get_os (get_os (get_os (get_os (get_os (get_os (get_os (get_os (get_o0)))))))))) (by kernel_rfl) (by kernel_rfl) (by kernel_rfl) (by exact fun _ _ _ h => h) (Or.inl ⟨by rfl, ?hyq29_⟩) (by assumption) ?_
                  case hyq29_ => (intro w hSw; (try dsimp only at hSw); go_simp) <;> with_reducible rfl
                  try simp only [Act.put, List.setIfInBounds_toArray, List.set_cons_zero, List.set_cons_succ]
                  refine wpAnyH_take (i := 10) (v := ?vq30_) (get_ot (get_o0)) (by kernel_rfl) (by kernel_rfl) (by kernel_rfl) (by exact fun _ _ _ h => h) (Or.inl ⟨by rfl, ?hyq30_⟩) (by assumption) ?_
                  case hyq30_ => (intro w hSw; (try dsimp only at hSw); go_simp) <;> with_reducible rfl
                  try simp only [Act.put, List.setIfInBounds_toArray, List.set_cons_zero, List.set_cons_succ]
                  refine wpAnyH_take (i := 11) (v := ?vq31_) (get_ot (get_os (get_o0))) (by kernel_rfl) (by kernel_rfl) (by kernel_rfl) (by exact fun _ _ _ h => h) (Or.inl ⟨by rfl, ?hyq31_⟩) (by assumption) ?_
                  case hyq31_ => (intro w hSw; (try dsimp only at hSw); go_simp) <;> with_reducible rfl
                  try simp only [Act.put, List.setIfInBounds_toArray, List.set_cons_zero, List.set_cons_succ]
                  refine wpAnyH_ready (rs := [12]) (by kernel_rfl) (by simp) ?_
                  refine (AllReadyH.cons (get_ot (get_os (get_os (get_o0)))) (fun KK hKK => ?_) AllReadyH.nil)
                  go_simp
                  replace H := Lib.hid (H.out.alloc Ag.zero.cs 82); (try simp only [List.set_cons_zero, List.set_cons_succ, List.cons_append, List.nil_append, List.eraseIdx_cons_zero, List.eraseIdx_cons_succ, List.setIfInBounds_toArray, World.size_alloc, selR, List.getD_cons_zero, List.getD_cons_succ] at H)
                  refine hKK.out _ _ trivial (fun hHeld => ?_)
                  clear hKK KK
                  try simp only [Act.put, List.setIfInBounds_toArray, List.set_cons_zero, List.set_cons_succ]
                  refine wpAnyH_ready (rs := [13]) (by kernel_rfl) (by simp) ?_
                  refine (AllReadyH.cons (get_ot (get_os (get_os (get_os (get_o0))))) (fun KK hKK => ?_) AllReadyH.nil)
                  refine step_storeI rfl rowAg (.tmp 8) (.tmp 52) rfl _ (by first | rfl | go_simp) (H.out.blk 2 rfl) rfl u.cs rfl (by first | rfl | go_simp) (ag_one u) ?_
                  intro wq bq hgq
                  replace H := Lib.hid (H.out.setBlk 2 rfl hgq bq); (try simp only [List.set_cons_zero, List.set_cons_succ, List.cons_append, List.nil_append, List.eraseIdx_cons_zero, List.eraseIdx_cons_succ, List.setIfInBounds_toArray, World.size_alloc, selR, List.getD_cons_zero, List.getD_cons_succ] at H)
                  clear hgq bq
                  refine hKK.out _ _ trivial (fun hHeld => ?_)
                  clear hKK KK
                  try simp only [Act.put, List.setIfInBounds_toArray, List.set_cons_zero, List.set_cons_succ]
                  refine wpAnyH_ready (rs := [14]) (by kernel_rfl) (by simp) ?_
                  refine (AllReadyH.cons (get_ot (get_os (get_os (get_os (get_os (get_o0)))))) (fun KK hKK => ?_) AllReadyH.nil)
                  go_simp
                  refine hKK.out _ _ trivial (fun hHeld => ?_)
                  clear hKK KK
                  try simp only [Act.put, List.setIfInBounds_toArray, List.set_cons_zero, List.set_cons_succ]
                  refine wpAnyH_done (by kernel_rfl) ?_ _
                  clear hHeld
                  go_wp2_with fail
                  go_meet
                  exact ⟨_, rfl, rfl, H⟩
                · go_simp
                  replace H := Lib.hid (H.out.alloc Ag.zero.cs 82); (try simp only [List.set_cons_zero, List.set_cons_succ, List.cons_append, List.nil_append, List.eraseIdx_cons_zero, List.eraseIdx_cons_succ, List.setIfInBounds_toArray, World.size_alloc, selR, List.getD_cons_zero, List.getD_cons_succ] at H)
                  refine hKK.out _ _ trivial (fun hHeld => ?_)
                  clear hKK KK
                  try simp only [Act.put, List.setIfInBounds_toArray, List.set_cons_zero, List.set_cons_succ]
                  refine wpAnyH_ready (rs := [8]) (by kernel_rfl) (by simp) ?_
                  refine (AllReadyH.cons (get_os (get_os (get_os (get_os (get_os (get_os (get_os (get_os (get_o0))))))))) (fun KK hKK => ?_) AllReadyH.nil)
                  go_simp
                  refine (HJ.out _).mono ?_; rintro e' w6 ⟨rfl, hb6⟩
                  replace H := Lib.hid (H.out.bel hb6); (try simp only [List.set_cons_zero, List.set_cons_succ, List.cons_append, List.nil_append, List.eraseIdx_cons_zero, List.eraseIdx_cons_succ, List.setIfInBounds_toArray, World.size_alloc, selR, List.getD_cons_zero, List.getD_cons_succ] at H)
                  clear hb6
                  refine hKK.out _ _ trivial (fun hHeld => ?_)
                  clear hKK KK
                  try simp only [Act.put, List.setIfInBounds_toArray, List.set_cons_zero, List.set_cons_succ]
                  refine wpAnyH_take (i := 9) (v := ?vq32_) (get_os (get_os (get_os (get_os (get_os (get_os (get_os (get_os (get_os (get_o0)))))))))) (by kernel_rfl) (by kernel_rfl) (by kernel_rfl) (by exact fun _ _ _ h => h) (Or.inl ⟨by rfl, ?hyq32_⟩) (by assumption) ?_
                  case hyq32_ => (intro w hSw; (try dsimp only at hSw); go_simp) <;> with_reducible rfl
                  try simp only [Act.put, List.setIfInBounds_toArray, List.set_cons_zero, List.set_cons_succ]
                  refine wpAnyH_take (i := 10) (v := ?vq33_) (get_ot (get_o0)) (by kernel_rfl) (by kernel_rfl) (by kernel_rfl) (by exact fun _ _ _ h => h) (Or.inl ⟨by rfl, ?hyq33_⟩) (by assumption) ?_
                  case hyq33_ => (intro w hSw; (try dsimp only at hSw); go_simp) <;> with_reducible rfl
                  try simp only [Act.put, List.setIfInBounds_toArray, List.set_cons_zero, List.set_cons_succ]
                  refine wpAnyH_take (i := 11) (v := ?vq34_) (get_ot (get_os (get_o0))) (by kernel_rfl) (by kernel_rfl) (by kernel_rfl) (by exact fun _ _ _ h => h) (Or.inl ⟨by rfl, ?hyq34_⟩) (by assumption) ?_
                  case hyq34_ => (intro w hSw; (try dsimp only at hSw); go_simp) <;> with_reducible rfl
                  try simp only [Act.put, List.setIfInBounds_toArray, List.set_cons_zero, List.set_cons_succ]
                  refine wpAnyH_ready (rs := [13]) (by kernel_rfl) (by simp) ?_
                  refine (AllReadyH.cons (get_ot (get_os (get_os (get_os (get_o0))))) (fun KK hKK => ?_) AllReadyH.nil)
                  refine step_storeI rfl rowAg (.tmp 8) (.tmp 52) rfl _ (by first | rfl | go_simp) (H.out.blk 2 rfl) rfl u.cs rfl (by first | rfl | go_simp) (ag_one u) ?_
                  intro wq bq hgq
                  replace H := Lib.hid (H.out.setBlk 2 rfl hgq bq); (try simp only [List.set_cons_zero, List.set_cons_succ, List.cons_append, List.nil_append, List.eraseIdx_cons_zero, List.eraseIdx_cons_succ, List.setIfInBounds_toArray, World.size_alloc, selR, List.getD_cons_zero, List.getD_cons_succ] at H)
                  clear hgq bq
                  refine hKK.out _ _ trivial (fun hHeld => ?_)
                  clear hKK KK
                  try simp only [Act.put, List.setIfInBounds_toArray, List.set_cons_zero, List.set_cons_succ]
                  refine wpAnyH_ready (rs := [14]) (by kernel_rfl) (by simp) ?_
                  refine (AllReadyH.cons (get_ot (get_os (get_os (get_os (get_os (get_o0)))))) (fun KK hKK => ?_) AllReadyH.nil)
                  go_simp
                  refine hKK.out _ _ trivial (fun hHeld => ?_)
                  clear hKK KK
                  try simp only [Act.put, List.setIfInBounds_toArray, List.set_cons_zero, List.set_cons_succ]
                  refine wpAnyH_done (by kernel_rfl) ?_ _
                  clear hHeld
                  go_wp2_with fail
                  go_meet
                  exact ⟨_, rfl, rfl, H⟩
              · go_simp
                replace H := Lib.hid (H.out.alloc Ag.zero.cs 82); (try simp only [List.set_cons_zero, List.set_cons_succ, List.cons_append, List.nil_append, List.eraseIdx_cons_zero, List.eraseIdx_cons_succ, List.setIfInBounds_toArray, World.size_alloc, selR, List.getD_cons_zero, List.getD_cons_succ] at H)
                refine hKK.out _ _ trivial (fun hHeld => ?_)
                clear hKK KK
                try simp only [Act.put, List.setIfInBounds_toArray, List.set_cons_zero, List.set_cons_succ]
                refine wpAnyH_ready (rs := [7]) (by kernel_rfl) (by simp) ?_
                refine (AllReadyH.cons (get_os (get_os (get_os (get_os (get_os (get_os (get_os (get_o0)))))))) (fun KK hKK => ?_) AllReadyH.nil)
                refine step_loadK rfl rowAg (.tmp 49) (by first | rfl | go_simp) _ 1 (by first | rfl | go_simp) f.ag.cs (by intro jj uu hu; have := (H.out.blk 1 rfl).range (1 + jj) uu (by show (f.ks.v :: f.ag.cs.toList)[1 + jj]? = _; rw [Nat.add_comm, List.getElem?_cons_succ]; exact hu); rwa [Nat.zero_add] at this) rfl ?_
                refine hKK.out _ _ trivial (fun hHeld => ?_)
                clear hKK KK
                try simp only [Act.put, List.setIfInBounds_toArray, List.set_cons_zero, List.set_cons_succ]
                refine wpAnyH_ready (rs := [8]) (by kernel_rfl) (by simp) ?_
                refine (AllReadyH.cons (get_os (get_os (get_os (get_os (get_os (get_os (get_os (get_os (get_o0))))))))) (fun KK hKK => ?_) AllReadyH.nil)
                go_simp
                refine (HJ.out _).mono ?_; rintro e' w6 ⟨rfl, hb6⟩
                replace H := Lib.hid (H.out.bel hb6); (try simp only [List.set_cons_zero, List.set_cons_succ, List.cons_append, List.nil_append, List.eraseIdx_cons_zero, List.eraseIdx_cons_succ, List.setIfInBounds_toArray, World.size_alloc, selR, List.getD_cons_zero, List.getD_cons_succ] at H)
                clear hb6
                refine hKK.out _ _ trivial (fun hHeld => ?_)
                clear hKK KK
                try simp only [Act.put, List.setIfInBounds_toArray, List.set_cons_zero, List.set_cons_succ]
                refine wpAnyH_take (i := 9) (v := ?vq35_) (get_os (get_os (get_os (get_os (get_os (get_os (get_os (get_os (get_os (get_o0)))))))))) (by kernel_rfl) (by kernel_rfl) (by kernel_rfl) (by exact fun _ _ _ h => h) (Or.inl ⟨by rfl, ?hyq35_⟩) (by assumption) ?_
                case hyq35_ => (intro w hSw; (try dsimp only at hSw); go_simp) <;> with_reducible rfl
                try simp only [Act.put, List.setIfInBounds_toArray, List.set_cons_zero, List.set_cons_succ]
                refine wpAnyH_take (i := 10) (v := ?vq36_) (get_ot (get_o0)) (by kernel_rfl) (by kernel_rfl) (by kernel_rfl) (by exact fun _ _ _ h => h) (Or.inl ⟨by rfl, ?hyq36_⟩) (by assumption) ?_
                case hyq36_ => (intro w hSw; (try dsimp only at hSw); go_simp) <;> with_reducible rfl
                try simp only [Act.put, List.setIfInBounds_toArray, List.set_cons_zero, List.set_cons_succ]
                refine wpAnyH_take (i := 11) (v := ?vq37_) (get_ot (get_os (get_o0))) (by kernel_rfl) (by kernel_rfl) (by kernel_rfl) (by exact fun _ _ _ h => h) (Or.inl ⟨by rfl, ?hyq37_⟩) (by assumption) ?_
                case hyq37_ => (intro w hSw; (try dsimp only at hSw); go_simp) <;> with_reducible rfl
                try simp only [Act.put, List.setIfInBounds_toArray, List.set_cons_zero, List.set_cons_succ]
                refine wpAnyH_ready (rs := [13]) (by kernel_rfl) (by simp) ?_
                refine (AllReadyH.cons (get_ot (get_os (get_os (get_os (get_o0))))) (fun KK hKK => ?_) AllReadyH.nil)
                refine step_storeI rfl rowAg (.tmp 8) (.tmp 52) rfl _ (by first | rfl | go_simp) (H.out.blk 2 rfl) rfl u.cs rfl (by first | rfl | go_simp) (ag_one u) ?_
                intro wq bq hgq
                replace H := Lib.hid (H.out.setBlk 2 rfl hgq bq); (try simp only [List.set_cons_zero, List.set_cons_succ, List.cons_append, List.nil_append, List.eraseIdx_cons_zero, List.eraseIdx_cons_succ, List.setIfInBounds_toArray, World.size_alloc, selR, List.getD_cons_zero, List.getD_cons_succ] at H)
                clear hgq bq
                refine hKK.out _ _ trivial (fun hHeld => ?_)
                clear hKK KK
                try simp only [Act.put, List.setIfInBounds_toArray, List.set_cons_zero, List.set_cons_succ]
                refine wpAnyH_ready (rs := [14]) (by kernel_rfl) (by simp) ?_
                refine (AllReadyH.cons (get_ot (get_os (get_os (get_os (get_os (get_o0)))))) (fun KK hKK => ?_) AllReadyH.nil)
                go_simp
                refine hKK.out _ _ trivial (fun hHeld => ?_)
                clear hKK KK
                try simp only [Act.put, List.setIfInBounds_toArray, List.set_cons_zero, List.set_cons_succ]
                refine wpAnyH_done (by kernel_rfl) ?_ _
                clear hHeld
                go_wp2_with fail
                go_meet
                exact ⟨_, rfl, rfl, H⟩
            · refine step_loadK rfl rowAg (.tmp 49) (by first | rfl | go_simp) _ 1 (by first | rfl | go_simp) f.ag.cs (by intro jj uu hu; have := (H.out.blk 1 rfl).range (1 + jj) uu (by show (f.ks.v :: f.ag.cs.toList)[1 + jj]? = _; rw [Nat.add_comm, List.getElem?_cons_succ]; exact hu); rwa [Nat.zero_add] at this) rfl ?_
              refine hKK.out _ _ trivial (fun hHeld => ?_)
              clear hKK KK
              try simp only [Act.put, List.setIfInBounds_toArray, List.set_cons_zero, List.set_cons_succ]
              refine wpAnyH_ready (rs := [5, 12]) (by kernel_rfl) (by simp) ?_
              refine (AllReadyH.cons (get_os (get_os (get_os (get_os (get_os (get_o0)))))) (fun KK hKK => ?_) (AllReadyH.cons (get_ot (get_os (get_os (get_o0)))) (fun KK hKK => ?_) AllReadyH.nil))
              · refine step_loadK rfl rowAg (.tmp 47) (by first | rfl | go_simp) g (m * 11 + 1) (by first | rfl | go_simp) p.ag.cs (own_rangeAg (H.out.row 0 rfl) HPG.out) rfl ?_
                refine hKK.out _ _ trivial (fun hHeld => ?_)
                clear hKK KK
                try simp only [Act.put, List.setIfInBounds_toArray, List.set_cons_zero, List.set_cons_succ]
                refine wpAnyH_ready (rs := [8, 12]) (by kernel_rfl) (by simp) ?_
                refine (AllReadyH.cons (get_os (get_os (get_os (get_os (get_os (get_os (get_os (get_os (get_o0))))))))) (fun KK hKK => ?_) (AllReadyH.cons (get_ot (get_os (get_os (get_o0)))) (fun KK hKK => ?_) AllReadyH.nil))
                · go_simp
                  refine (HJ.out _).mono ?_; rintro e' w6 ⟨rfl, hb6⟩
                  replace H := Lib.hid (H.out.bel hb6); (try simp only [List.set_cons_zero, List.set_cons_succ, List.cons_append, List.nil_append, List.eraseIdx_cons_zero, List.eraseIdx_cons_succ, List.setIfInBounds_toArray, World.size_alloc, selR, List.getD_cons_zero, List.getD_cons_succ] at H)
                  clear hb6
                  refine hKK.out _ _ trivial (fun hHeld => ?_)
                  clear hKK KK
                  try simp only [Act.put, List.setIfInBounds_toArray, List.set_cons_zero, List.set_cons_succ]
                  refine wpAnyH_take (i := 9) (v := ?vq38_) (get_os (get_os (get_os (get_os (get_os (get_os (get_os (get_os (get_os (get_o0)))))))))) (by kernel_rfl) (by kernel_rfl) (by kernel_rfl) (by exact fun _ _ _ h => h) (Or.inl ⟨by rfl, ?hyq38_⟩) (by assumption) ?_
                  case hyq38_ => (intro w hSw; (try dsimp only at hSw); go_simp) <;> with_reducible rfl
                  try simp only [Act.put, List.setIfInBounds_toArray, List.set_cons_zero, List.set_cons_succ]
                  refine wpAnyH_take (i := 10) (v := ?vq39_) (get_ot (get_o0)) (by kernel_rfl) (by kernel_rfl) (by kernel_rfl) (by exact fun _ _ _ h => h) (Or.inl ⟨by rfl, ?hyq39_⟩) (by assumption) ?_
                  case hyq39_ => (intro w hSw; (try dsimp only at hSw); go_simp) <;> with_reducible rfl
                  try simp only [Act.put, List.setIfInBounds_toArray, List.set_cons_zero, List.set_cons_succ]
                  refine wpAnyH_take (i := 11) (v := ?vq40_) (get_ot (get_os (get_o0))) (by kernel_rfl) (by kernel_rfl) (by kernel_rfl) (by exact fun _ _ _ h => h) (Or.inl ⟨by rfl, ?hyq40_⟩) (by assumption) ?_
                  case hyq40_ => (intro w hSw; (try dsimp only at hSw); go_simp) <;> with_reducible rfl
                  try simp only [Act.put, List.setIfInBounds_toArray, List.set_cons_zero, List.set_cons_succ]
                  refine wpAnyH_ready (rs := [12]) (by kernel_rfl) (by simp) ?_
                  refine (AllReadyH.cons (get_ot (get_os (get_os (get_o0)))) (fun KK hKK => ?_) AllReadyH.nil)
                  go_simp
                  replace H := Lib.hid (H.out.alloc Ag.zero.cs 82); (try simp only [List.set_cons_zero, List.set_cons_succ, List.cons_append, List.nil_append, List.eraseIdx_cons_zero, List.eraseIdx_cons_succ, List.setIfInBounds_toArray, World.size_alloc, selR, List.getD_cons_zero, List.getD_cons_succ] at H)
                  refine hKK.out _ _ trivial (fun hHeld => ?_)
                  clear hKK KK
                  try simp only [Act.put, List.setIfInBounds_toArray, List.set_cons_zero, List.set_cons_succ]
                  refine wpAnyH_ready (rs := [13]) (by kernel_rfl) (by simp) ?_
                  refine (AllReadyH.cons (get_ot (get_os (get_os (get_os (get_o0))))) (fun KK hKK => ?_) AllReadyH.nil)
                  refine step_storeI rfl rowAg (.tmp 8) (.tmp 52) rfl _ (by first | rfl | go_simp) (H.out.blk 2 rfl) rfl u.cs rfl (by first | rfl | go_simp) (ag_one u) ?_
                  intro wq bq hgq
                  replace H := Lib.hid (H.out.setBlk 2 rfl hgq bq); (try simp only [List.set_cons_zero, List.set_cons_succ, List.cons_append, List.nil_append, List.eraseIdx_cons_zero, List.eraseIdx_cons_succ, List.setIfInBounds_toArray, World.size_alloc, selR, List.getD_cons_zero, List.getD_cons_succ] at H)
                  clear hgq bq
                  refine hKK.out _ _ trivial (fun hHeld => ?_)
                  clear hKK KK
                  try simp only [Act.put, List.setIfInBounds_toArray, List.set_cons_zero, List.set_cons_succ]
                  refine wpAnyH_ready (rs := [14]) (by kernel_rfl) (by simp) ?_
                  refine (AllReadyH.cons (get_ot (get_os (get_os (get_os (get_os (get_o0)))))) (fun KK hKK => ?_) AllReadyH.nil)
                  go_simp
                  refine hKK.out _ _ trivial (fun hHeld => ?_)
                  clear hKK KK
                  try simp only [Act.put, List.setIfInBounds_toArray, List.set_cons_zero, List.set_cons_succ]
                  refine wpAnyH_done (by kernel_rfl) ?_ _
                  clear hHeld
                  go_wp2_with fail
                  go_meet
                  exact ⟨_, rfl, rfl, H⟩
                · go_simp
                  replace H := Lib.hid (H.out.alloc Ag.zero.cs 82); (try simp only [List.set_cons_zero, List.set_cons_succ, List.cons_append, List.nil_append, List.eraseIdx_cons_zero, List.eraseIdx_cons_succ, List.setIfInBounds_toArray, World.size_alloc, selR, List.getD_cons_zero, List.getD_cons_succ] at H)
                  refine hKK.out _ _ trivial (fun hHeld => ?_)
                  clear hKK KK
                  try simp only [Act.put, List.setIfInBounds_toArray, List.set_cons_zero, List.set_cons_succ]
                  refine wpAnyH_ready (rs := [8]) (by kernel_rfl) (by simp) ?_
                  refine (AllReadyH.cons (get_os (get_os (get_os (get_os (get_os (get_os (get_os (get_os (get_o0))))))))) (fun KK hKK => ?_) AllReadyH.nil)
                  go_simp
                  refine (HJ.out _).mono ?_; rintro e' w6 ⟨rfl, hb6⟩
                  replace H := Lib.hid (H.out.bel hb6); (try simp only [List.set_cons_zero, List.set_cons_succ, List.cons_append, List.nil_append, List.eraseIdx_cons_zero, List.eraseIdx_cons_succ, List.setIfInBounds_toArray, World.size_alloc, selR, List.getD_cons_zero, List.getD_cons_succ] at H)
                  clear hb6
                  refine hKK.out _ _ trivial (fun hHeld => ?_)
                  clear hKK KK
                  try simp only [Act.put, List.setIfInBounds_toArray, List.set_cons_zero, List.set_cons_succ]
                  refine wpAnyH_take (i := 9) (v := ?vq41_) (get_os (get_os (get_os (get_os (get_os (get_os (get_os (get_os (get_os (get_o0)))))))))) (by kernel_rfl) (by kernel_rfl) (by kernel_rfl) (by exact fun _ _ _ h => h) (Or.inl ⟨by rfl, ?hyq41_⟩) (by assumption) ?_
                  case hyq41_ => (intro w hSw; (try dsimp only at hSw); go_simp) <;> with_reducible rfl
                  try simp only [Act.put, List.setIfInBounds_toArray, List.set_cons_zero, List.set_cons_succ]
                  refine wpAnyH_take (i := 10) (v := ?vq42_) (get_ot (get_o0)) (by kernel_rfl) (by kernel_rfl) (by kernel_rfl) (by exact fun _ _ _ h => h) (Or.inl ⟨by rfl, ?hyq42_⟩) (by assumption) ?_
                  case hyq42_ => (intro w hSw; (try dsimp only at hSw); go_simp) <;> with_reducible rfl
                  try simp only [Act.put, List.setIfInBounds_toArray, List.set_cons_zero, List.set_cons_succ]
                  refine wpAnyH_take (i := 11) (v := ?vq43_) (get_ot (get_os (get_o0))) (by kernel_rfl) (by kernel_rfl) (by kernel_rfl) (by exact fun _ _ _ h => h) (Or.inl ⟨by rfl, ?hyq43_⟩) (by assumption) ?_
                  case hyq43_ => (intro w hSw; (try dsimp only at hSw); go_simp) <;> with_reducible rfl
                  try simp only [Act.put, List.setIfInBounds_toArray, List.set_cons_zero, List.set_cons_succ]
                  refine wpAnyH_ready (rs := [13]) (by kernel_rfl) (by simp) ?_
                  refine (AllReadyH.cons (get_ot (get_os (get_os (get_os (get_o0))))) (fun KK hKK => ?_) AllReadyH.nil)
                  refine step_storeI rfl rowAg (.tmp 8) (.tmp 52) rfl _ (by first | rfl | go_simp) (H.out.blk 2 rfl) rfl u.cs rfl (by first | rfl | go_simp) (ag_one u) ?_
                  intro wq bq hgq
                  replace H := Lib.hid (H.out.setBlk 2 rfl hgq bq); (try simp only [List.set_cons_zero, List.set_cons_succ, List.cons_append, List.nil_append, List.eraseIdx_cons_zero, List.eraseIdx_cons_succ, List.setIfInBounds_toArray, World.size_alloc, selR, List.getD_cons_zero, List.getD_cons_succ] at H)
                  clear hgq bq
                  refine hKK.out _ _ trivial (fun hHeld => ?_)
                  clear hKK KK
                  try simp only [Act.put, List.setIfInBounds_toArray, List.set_cons_zero, List.set_cons_succ]
                  refine wpAnyH_ready (rs := [14]) (by kernel_rfl) (by simp) ?_
                  refine (AllReadyH.cons (get_ot (get_os (get_os (get_os (get_os (get_o0)))))) (fun KK hKK => ?_) AllReadyH.nil)
                  go_simp
                  refine hKK.out _ _ trivial (fun hHeld => ?_)
                  clear hKK KK
                  try simp only [Act.put, List.setIfInBounds_toArray, List.set_cons_zero, List.set_cons_succ]
                  refine wpAnyH_done (by kernel_rfl) ?_ _
                  clear hHeld
                  go_wp2_with fail
                  go_meet
                  exact ⟨_, rfl, rfl, H⟩
              · go_simp
                replace H := Lib.hid (H.out.alloc Ag.zero.cs 82); (try simp only [List.set_cons_zero, List.set_cons_succ, List.cons_append, List.nil_append, List.eraseIdx_cons_zero, List.eraseIdx_cons_succ, List.setIfInBounds_toArray, World.size_alloc, selR, List.getD_cons_zero, List.getD_cons_succ] at H)
                refine hKK.out _ _ trivial (fun hHeld => ?_)
                clear hKK KK
                try simp only [Act.put, List.setIfInBounds_toArray, List.set_cons_zero, List.set_cons_succ]
                refine wpAnyH_ready (rs := [5]) (by kernel_rfl) (by simp) ?_
                refine (AllReadyH.cons (get_os (get_os (get_os (get_os (get_os (get_o0)))))) (fun KK hKK => ?_) AllReadyH.nil)
                refine step_loadK rfl rowAg (.tmp 47) (by first | rfl | go_simp) g (m * 11 + 1) (by first | rfl | go_simp) p.ag.cs (own_rangeAg (H.out.row 0 rfl) HPG.out) rfl ?_
                refine hKK.out _ _ trivial (fun hHeld => ?_)
                clear hKK KK
                try simp only [Act.put, List.setIfInBounds_toArray, List.set_cons_zero, List.set_cons_succ]
                refine wpAnyH_ready (rs := [8]) (by kernel_rfl) (by simp) ?_
                refine (AllReadyH.cons (get_os (get_os (get_os (get_os (get_os (get_os (get_os (get_os (get_o0))))))))) (fun KK hKK => ?_) AllReadyH.nil)
                go_simp
                refine (HJ.out _).mono ?_; rintro e' w6 ⟨rfl, hb6⟩
                replace H := Lib.hid (H.out.bel hb6); (try simp only [List.set_cons_zero, List.set_cons_succ, List.cons_append, List.nil_append, List.eraseIdx_cons_zero, List.eraseIdx_cons_succ, List.setIfInBounds_toArray, World.size_alloc, selR, List.getD_cons_zero, List.getD_cons_succ] at H)
                clear hb6
                refine hKK.out _ _ trivial (fun hHeld => ?_)
                clear hKK KK
                try simp only [Act.put, List.setIfInBounds_toArray, List.set_cons_zero, List.set_cons_succ]
                refine wpAnyH_take (i := 9) (v := ?vq44_) (get_os (get_os (get_os (get_os (get_os (get_os (get_os (get_os (get_os (get_o0)))))))))) (by kernel_rfl) (by kernel_rfl) (by kernel_rfl) (by exact fun _ _ _ h => h) (Or.inl ⟨by rfl, ?hyq44_⟩) (by assumption) ?_
                case hyq44_ => (intro w hSw; (try dsimp only at hSw); go_simp) <;> with_reducible rfl
                try simp only [Act.put, List.setIfInBounds_toArray, List.set_cons_zero, List.set_cons_succ]
                refine wpAnyH_take (i := 10) (v := ?vq45_) (get_ot (get_o0)) (by kernel_rfl) (by kernel_rfl) (by kernel_rfl) (by exact fun _ _ _ h => h) (Or.inl ⟨by rfl, ?hyq45_⟩) (by assumption) ?_
                case hyq45_ => (intro w hSw; (try dsimp only at hSw); go_simp) <;> with_reducible rfl
                try simp only [Act.put, List.setIfInBounds_toArray, List.set_cons_zero, List.set_cons_succ]
                refine wpAnyH_take (i := 11) (v := ?vq46_) (get_ot (get_os (get_o0))) (by kernel_rfl) (by kernel_rfl) (by kernel_rfl) (by exact fun _ _ _ h => h) (Or.inl ⟨by rfl, ?hyq46_⟩) (by assumption) ?_
                case hyq46_ => (intro w hSw; (try dsimp only at hSw); go_simp) <;> with_reducible rfl
                try simp only [Act.put, List.setIfInBounds_toArray, List.set_cons_zero, List.set_cons_succ]
                refine wpAnyH_ready (rs := [13]) (by kernel_rfl) (by simp) ?_
                refine (AllReadyH.cons (get_ot (get_os (get_os (get_os (get_o0))))) (fun KK hKK => ?_) AllReadyH.nil)
                refine step_storeI rfl rowAg (.tmp 8) (.tmp 52) rfl _ (by first | rfl | go_simp) (H.out.blk 2 rfl) rfl u.cs rfl (by first | rfl | go_simp) (ag_one u) ?_
                intro wq bq hgq
                replace H := Lib.hid (H.out.setBlk 2 rfl hgq bq); (try simp only [List.set_cons_zero, List.set_cons_succ, List.cons_append, List.nil_append, List.eraseIdx_cons_zero, List.eraseIdx_cons_succ, List.setIfInBounds_toArray, World.size_alloc, selR, List.getD_cons_zero, List.getD_cons_succ] at H)
                clear hgq bq
                refine hKK.out _ _ trivial (fun hHeld => ?_)
                clear hKK KK
                try simp only [Act.put, List.setIfInBounds_toArray, List.set_cons_zero, List.set_cons_succ]
                refine wpAnyH_ready (rs := [14]) (by kernel_rfl) (by simp) ?_
                refine (AllReadyH.cons (get_ot (get_os (get_os (get_os (get_os (get_o0)))))) (fun KK hKK => ?_) AllReadyH.nil)
                go_simp
                refine hKK.out _ _ trivial (fun hHeld => ?_)
                clear hKK KK
                try simp only [Act.put, List.setIfInBounds_toArray, List.set_cons_zero, List.set_cons_succ]
                refine wpAnyH_done (by kernel_rfl) ?_ _
                clear hHeld
                go_wp2_with fail
                go_meet
                exact ⟨_, rfl, rfl, H⟩
            · go_simp
              replace H := Lib.hid (H.out.alloc Ag.zero.cs 82); (try simp only [List.set_cons_zero, List.set_cons_succ, List.cons_append, List.nil_append, List.eraseIdx_cons_zero, List.eraseIdx_cons_succ, List.setIfInBounds_toArray, World.size_alloc, selR, List.getD_cons_zero, List.getD_cons_succ] at H)
              refine hKK.out _ _ trivial (fun hHeld => ?_)
              clear hKK KK
              try simp only [Act.put, List.setIfInBounds_toArray, List.set_cons_zero, List.set_cons_succ]
              refine wpAnyH_ready (rs := [5, 7]) (by kernel_rfl) (by simp) ?_
              refine (AllReadyH.cons (get_os (get_os (get_os (get_os (get_os (get_o0)))))) (fun KK hKK => ?_) (AllReadyH.cons (get_os (get_os (get_os (get_os (get_os (get_os (get_os (get_o0)))))))) (fun KK hKK => ?_) AllReadyH.nil))
              · refine step_loadK rfl rowAg (.tmp 47) (by first | rfl | go_simp) g (m * 11 + 1) (by first | rfl | go_simp) p.ag.cs (own_rangeAg (H.out.row 0 rfl) HPG.out) rfl ?_
                refine hKK.out _ _ trivial (fun hHeld => ?_)
                clear hKK KK
                try simp only [Act.put, List.setIfInBounds_toArray, List.set_cons_zero, List.set_cons_succ]
                refine wpAnyH_ready (rs := [7]) (by kernel_rfl) (by simp) ?_
                refine (AllReadyH.cons (get_os (get_os (get_os (get_os (get_os (get_os (get_os (get_o0)))))))) (fun KK hKK => ?_) AllReadyH.nil)
                refine step_loadK rfl rowAg (.tmp 49) (by first | rfl | go_simp) _ 1 (by first | rfl | go_simp) f.ag.cs (by intro jj uu hu; have := (H.out.blk 1 rfl).range (1 + jj) uu (by show (f.ks.v :: f.ag.cs.toList)[1 + jj]? = _; rw [Nat.add_comm, List.getElem?_cons_succ]; exact hu); rwa [Nat.zero_add] at this) rfl ?_
                refine hKK.out _ _ trivial (fun hHeld => ?_)
                clear hKK KK
                try simp only [Act.put, List.setIfInBounds_toArray, List.set_cons_zero, List.set_cons_succ]
                refine wpAnyH_ready (rs := [8]) (by kernel_rfl) (by simp) ?_
                refine (AllReadyH.cons (get_os (get_os (get_os (get_os (get_os (get_os (get_os (get_os (get_o0))))))))) (fun KK hKK => ?_) AllReadyH.nil)
                go_simp
                refine (HJ.out _).mono ?_; rintro e' w6 ⟨rfl, hb6⟩
                replace H := Lib.hid (H.out.bel hb6); (try simp only [List.set_cons_zero, List.set_cons_succ, List.cons_append, List.nil_append, List.eraseIdx_cons_zero, List.eraseIdx_cons_succ, List.setIfInBounds_toArray, World.size_alloc, selR, List.getD_cons_zero, List.getD_cons_succ] at H)
                clear hb6
                refine hKK.out _ _ trivial (fun hHeld => ?_)
                clear hKK KK
                try simp only [Act.put, List.setIfInBounds_toArray, List.set_cons_zero, List.set_cons_succ]
                refine wpAnyH_take (i := 9) (v := ?vq47_) (get_os (get_os (get_os (get_os (get_os (get_os (get_os (get_os (get_os (get_o0)))))))))) (by kernel_rfl) (by kernel_rfl) (by kernel_rfl) (by exact fun _ _ _ h => h) (Or.inl ⟨by rfl, ?hyq47_⟩) (by assumption) ?_
                case hyq47_ => (intro w hSw; (try dsimp only at hSw); go_simp) <;> with_reducible rfl
                try simp only [Act.put, List.setIfInBounds_toArray, List.set_cons_zero, List.set_cons_succ]
                refine wpAnyH_take (i := 10) (v := ?vq48_) (get_ot (get_o0)) (by kernel_rfl) (by kernel_rfl) (by kernel_rfl) (by exact fun _ _ _ h => h) (Or.inl ⟨by rfl, ?hyq48_⟩) (by assumption) ?_
                case hyq48_ => (intro w hSw; (try dsimp only at hSw); go_simp) <;> with_reducible rfl
                try simp only [Act.put, List.setIfInBounds_toArray, List.set_cons_zero, List.set_cons_succ]
                refine wpAnyH_take (i := 11) (v := ?vq49_) (get_ot (get_os (get_o0))) (by kernel_rfl) (by kernel_rfl) (by kernel_rfl) (by exact fun _ _ _ h => h) (Or.inl ⟨by rfl, ?hyq49_⟩) (by assumption) ?_
                case hyq49_ => (intro w hSw; (try dsimp only at hSw); go_simp) <;> with_reducible rfl
                try simp only [Act.put, List.setIfInBounds_toArray, List.set_cons_zero, List.set_cons_succ]
                refine wpAnyH_ready (rs := [13]) (by kernel_rfl) (by simp) ?_
                refine (AllReadyH.cons (get_ot (get_os (get_os (get_os (get_o0))))) (fun KK hKK => ?_) AllReadyH.nil)
                refine step_storeI rfl rowAg (.tmp 8) (.tmp 52) rfl _ (by first | rfl | go_simp) (H.out.blk 2 rfl) rfl u.cs rfl (by first | rfl | go_simp) (ag_one u) ?_
                intro wq bq hgq
                replace H := Lib.hid (H.out.setBlk 2 rfl hgq bq); (try simp only [List.set_cons_zero, List.set_cons_succ, List.cons_append, List.nil_append, List.eraseIdx_cons_zero, List.eraseIdx_cons_succ, List.setIfInBounds_toArray, World.size_alloc, selR, List.getD_cons_zero, List.getD_cons_succ] at H)
                clear hgq bq
                refine hKK.out _ _ trivial (fun hHeld => ?_)
                clear hKK KK
                try simp only [Act.put, List.setIfInBounds_toArray, List.set_cons_zero, List.set_cons_succ]
                refine wpAnyH_ready (rs := [14]) (by kernel_rfl) (by simp) ?_
                refine (AllReadyH.cons (get_ot (get_os (get_os (get_os (get_os (get_o0)))))) (fun KK hKK => ?_) AllReadyH.nil)
                go_simp
                refine hKK.out _ _ trivial (fun hHeld => ?_)
                clear hKK KK
                try simp only [Act.put, List.setIfInBounds_toArray, List.set_cons_zero, List.set_cons_succ]
                refine wpAnyH_done (by kernel_rfl) ?_ _
                clear hHeld
                go_wp2_with fail
                go_meet
                exact ⟨_, rfl, rfl, H⟩
              · refine step_loadK rfl rowAg (.tmp 49) (by first | rfl | go_simp) _ 1 (by first | rfl | go_simp) f.ag.cs (by intro jj uu hu; have := (H.out.blk 1 rfl).range (1 + jj) uu (by show (f.ks.v :: f.ag.cs.toList)[1 + jj]? = _; rw [Nat.add_comm, List.getElem?_cons_succ]; exact hu); rwa [Nat.zero_add] at this) rfl ?_
                refine hKK.out _ _ trivial (fun hHeld => ?_)
                clear hKK KK
                try simp only [Act.put, List.setIfInBounds_toArray, List.set_cons_zero, List.set_cons_succ]
                refine wpAnyH_ready (rs := [5]) (by kernel_rfl) (by simp) ?_
                refine (AllReadyH.cons (get_os (get_os (get_os (get_os (get_os (get_o0)))))) (fun KK hKK => ?_) AllReadyH.nil)
                refine step_loadK rfl rowAg (.tmp 47) (by first | rfl | go_simp) g (m * 11 + 1) (by first | rfl | go_simp) p.ag.cs (own_rangeAg (H.out.row 0 rfl) HPG.out) rfl ?_
                refine hKK.out _ _ trivial (fun hHeld => ?_)
                clear hKK KK
                try simp only [Act.put, List.setIfInBounds_toArray, List.set_cons_zero, List.set_cons_succ]
                refine wpAnyH_ready (rs := [8]) (by kernel_rfl) (by simp) ?_
                refine (AllReadyH.cons (get_os (get_os (get_os (get_os (get_os (get_os (get_os (get_os (get_o0))))))))) (fun KK hKK => ?_) AllReadyH.nil)
                go_simp
                refine (HJ.out _).mono ?_; rintro e' w6 ⟨rfl, hb6⟩
                replace H := Lib.hid (H.out.bel hb6); (try simp only [List.set_cons_zero, List.set_cons_succ, List.cons_append, List.nil_append, List.eraseIdx_cons_zero, List.eraseIdx_cons_succ, List.setIfInBounds_toArray, World.size_alloc, selR, List.getD_cons_zero, List.getD_cons_succ] at H)
                clear hb6
                refine hKK.out _ _ trivial (fun hHeld => ?_)
                clear hKK KK
                try simp only [Act.put, List.setIfInBounds_toArray, List.set_cons_zero, List.set_cons_succ]
                refine wpAnyH_take (i := 9) (v := ?vq50_) (get_os (get_os (get_os (get_os (get_os (get_os (get_os (get_os (get_os (get_o0)))))))))) (by kernel_rfl) (by kernel_rfl) (by kernel_rfl) (by exact fun _ _ _ h => h) (Or.inl ⟨by rfl, ?hyq50_⟩) (by assumption) ?_
                case hyq50_ => (intro w hSw; (try dsimp only at hSw); go_simp) <;> with_reducible rfl
                try simp only [Act.put, List.setIfInBounds_toArray, List.set_cons_zero, List.set_cons_succ]
                refine wpAnyH_take (i := 10) (v := ?vq51_) (get_ot (get_o0)) (by kernel_rfl) (by kernel_rfl) (by kernel_rfl) (by exact fun _ _ _ h => h) (Or.inl ⟨by rfl, ?hyq51_⟩) (by assumption) ?_
                case hyq51_ => (intro w hSw; (try dsimp only at hSw); go_simp) <;> with_reducible rfl
                try simp only [Act.put, List.setIfInBounds_toArray, List.set_cons_zero, List.set_cons_succ]
                refine wpAnyH_take (i := 11) (v := ?vq52_) (get_ot (get_os (get_o0))) (by kernel_rfl) (by kernel_rfl) (by kernel_rfl) (by exact fun _ _ _ h => h) (Or.inl ⟨by rfl, ?hyq52_⟩) (by assumption) ?_
                case hyq52_ => (intro w hSw; (try dsimp only at hSw); go_simp) <;> with_reducible rfl
                try simp only [Act.put, List.setIfInBounds_toArray, List.set_cons_zero, List.set_cons_succ]
                refine wpAnyH_ready (rs := [13]) (by kernel_rfl) (by simp) ?_
                refine (AllReadyH.cons (get_ot (get_os (get_os (get_os (get_o0))))) (fun KK hKK => ?_) AllReadyH.nil)
                refine step_storeI rfl rowAg (.tmp 8) (.tmp 52) rfl _ (by first | rfl | go_simp) (H.out.blk 2 rfl) rfl u.cs rfl (by first | rfl | go_simp) (ag_one u) ?_
                intro wq bq hgq
                replace H := Lib.hid (H.out.setBlk 2 rfl hgq bq); (try simp only [List.set_cons_zero, List.set_cons_succ, List.cons_append, List.nil_append, List.eraseIdx_cons_zero, List.eraseIdx_cons_succ, List.setIfInBounds_toArray, World.size_alloc, selR, List.getD_cons_zero, List.getD_cons_succ] at H)
                clear hgq bq
                refine hKK.out _ _ trivial (fun hHeld => ?_)
                clear hKK KK
                try simp only [Act.put, List.setIfInBounds_toArray, List.set_cons_zero, List.set_cons_succ]
                refine wpAnyH_ready (rs := [14]) (by kernel_rfl) (by simp) ?_
                refine (AllReadyH.cons (get_ot (get_os (get_os (get_os (get_os (get_o0)))))) (fun KK hKK => ?_) AllReadyH.nil)
                go_simp
                refine hKK.out _ _ trivial (fun hHeld => ?_)
                clear hKK KK
                try simp only [Act.put, List.setIfInBounds_toArray, List.set_cons_zero, List.set_cons_succ]
                refine wpAnyH_done (by kernel_rfl) ?_ _
                clear hHeld
                go_wp2_with fail
                go_meet
                exact ⟨_, rfl, rfl, H⟩
          case rest =>
            clear H
            obtain ⟨z, rfl, rfl, H⟩ := hcut
            cases ok with
            | false =>
              have HO := Lib.hid (HOV.out rfl)
              go_wp2_with fail
              go_ret2
              exact HPO.out _ _ (.inl ⟨HO.out, rfl, H.out.to⟩)
            | true =>
              have HE2 := Lib.hid (HOK.out rfl)
              clear HOK HOV
              have hbd : ∀ w : World, (Instr.build 84 #[(0, .slice f.ks.A f.ks.n f.ks.c), (1, .agg u.cs)]).run Try.prog w = .ok (.agg (Fct.mk f.ks u).cs) w := fun _ => by kernel_rfl
              have cf0 := (H.out.blk 1 rfl).cell 0
              change _ = some (Value.slice f.ks.A f.ks.n f.ks.c) at cf0
              go_upto_region 12 with (first | ((with_reducible show wpList _ _ _ (⟨some 61, _, _, _, _, _⟩ :: _) _ _); (refine wpList_load_blk rfl rowAg (.tmp 8) rfl _ rfl (H.out.blk 2 rfl) rfl ?_)) | ((with_reducible show wpList _ _ _ (⟨some 62, _, _, _, _, _⟩ :: _) _ _); refine wpList_build2K rfl (.tmp 60) (.tmp 61) rfl rfl rfl hbd ?_) | ((with_reducible show wpList _ _ _ (⟨_, .store _ (.tmp 63) _, _, _, _, _⟩ :: _) _ _); refine wpList_store_own rfl rowFct (.tmp 63) (.tmp 62) rfl rfl m rfl (H.out.row 0 rfl) (by omega) ⟨f.ks, u⟩ (Fct.mk f.ks u).cs rfl rfl (fct_one _) ?_; intro wq howq hgq; replace H := Lib.hid (H.out.setRow 0 rfl hgq howq (.inl rfl)); (try simp only [List.set_cons_zero, List.set_cons_succ, List.cons_append, List.nil_append, List.eraseIdx_cons_zero, List.eraseIdx_cons_succ, List.setIfInBounds_toArray, World.size_alloc, selR, List.getD_cons_zero, List.getD_cons_succ] at H); clear howq hgq))
              (try simp only [Act.put, List.setIfInBounds_toArray, List.set_cons_zero, List.set_cons_succ])
              clear hbd cf0
              replace H := Lib.hid (H.out.sel [0] (by decide) (by simp)); (try simp only [List.set_cons_zero, List.set_cons_succ, List.cons_append, List.nil_append, List.eraseIdx_cons_zero, List.eraseIdx_cons_succ, List.setIfInBounds_toArray, World.size_alloc, selR, List.getD_cons_zero, List.getD_cons_succ] at H)
              have HQ2 : Hid ((out.set m ⟨f.ks, u⟩).length = m + 1) := by show _ = _; rw [List.length_set, HL.out]
              have HFO2 : Hid (∀ z ∈ out.set m ⟨f.ks, u⟩, z.ok w) := fun z hz => by
                rcases List.mem_or_eq_of_mem_set hz with h | rfl
                · exact HFO.out z h
                · exact ⟨HFok.out.ks, HUok.out⟩
              clear HFO
              go_wp2_with fail
              go_roundg (N - (k + 1))
              case rel => exact ⟨k + 1, m + 1, d, some ⟨g, 0, none⟩, out.set m ⟨f.ks, u⟩, rfl, by omega, by omega, rfl, by go_num, HQ2, HE2, HFO2, H⟩
              case measure => rw [Hgk.out]; omega
        · have HE2 : Hid (foldFrom (cons (out ++ [f])) (cons (X.drop (k + 1))) = O) := by
            show _ = _
            have h := HNX.out
            rw [HE.out, stepF_app HL.out HPG.out hcmp] at h
            exact h.symm
          clear HE HNX
          by_cases h1 : cmpK p.ks.l f.ks.l = -1
          · have l1 : lessK p.ks.l f.ks.l = true := by unfold lessK; rw [h1]; rfl
            have HC1 := Lib.hid HC.out
            have HC2 := Lib.hid HC.out
            rw [l1] at HC1 HC2
            clear l1 HC HD hr hsw h1 hcmp
            go_upto_region 6 with fail
            refine wp_region_over (by kernel_rfl) (by kernel_rfl) ?_
            (try simp only [Act.put, List.setIfInBounds_toArray, List.set_cons_zero, List.set_cons_succ])
            repeat (first
              | ((with_reducible show wpQuiet _ _ _ _ (⟨some 25, _, _, _, _, _⟩ :: _) _); refine wpQuiet_load_row (by first | rfl | go_simp) rowFct (.tmp 24) rfl g (m * 11) rfl p.cs rfl HPR.out.2 HPR.out.1 ?_; simp only [Act.put, List.setIfInBounds_toArray, List.set_cons_zero, List.set_cons_succ])
              | ((with_reducible show wpQuiet _ _ _ _ (⟨some 26, _, _, _, _, _⟩ :: _) _); refine wpQuiet_load_row (by first | rfl | go_simp) rowFct (.tmp 6) rfl x (0) rfl f.cs rfl HXB.lt HXB.range ?_; simp only [Act.put, List.setIfInBounds_toArray, List.set_cons_zero, List.set_cons_succ])
              | ((with_reducible show wpQuiet _ _ _ _ (⟨some 27, _, _, _, _, _⟩ :: _) _); go_big_quiet_step ((go_at_call 36; rename_i u; exact calls_over (HC1.out _ (HBW.out.trans u.bel)))))
              | go_big_quiet_step (fail))
            refine wpQuiet_nil ?_
            rintro w5 ⟨⟨_, hw5⟩, rfl⟩
            (try dsimp only)
            replace H := Lib.hid (H.out.bel hw5); (try simp only [List.set_cons_zero, List.set_cons_succ, List.cons_append, List.nil_append, List.eraseIdx_cons_zero, List.eraseIdx_cons_succ, List.setIfInBounds_toArray, World.size_alloc, selR, List.getD_cons_zero, List.getD_cons_succ] at H)
            skip
            clear HBW HXB HPR e2 m0 m1 e1 HL HPG HC1 HC2
            go_upto_region 12 with (first | ((with_reducible show wpList _ _ _ (⟨some 39, _, _, _, _, _⟩ :: _) _ _); (refine wpList_load_blk rfl rowFct (.tmp 6) rfl _ rfl (H.out.blk 1 rfl) rfl ?_)) | ((with_reducible show wpList _ _ _ (⟨some 40, _, _, _, _, _⟩ :: _) _ _); (refine wpList_buildSlice1 rfl E_fct (.tmp 39) rfl (f.cs) rfl (fct_size f) (by omega) ?_; replace H := Lib.hid (H.out.addRow ((Bel.refl _).alloc _) (own_madeK _ 84 (f.cs) 11 (fct_size f))); (try simp only [List.set_cons_zero, List.set_cons_succ, List.cons_append, List.nil_append, List.eraseIdx_cons_zero, List.eraseIdx_cons_succ, List.setIfInBounds_toArray, World.size_alloc, selR, List.getD_cons_zero, List.getD_cons_succ] at H))) | ((with_reducible show wpList _ _ _ (⟨some 41, _, _, _, _, _⟩ :: _) _ _); (refine wpList_append0 rfl (.tmp 38) (.tmp 40) _ rfl E_fct 0 (Nat.zero_le _) _ _ _ rfl (H.out.row 0 rfl) _ 1 1 f.cs.toList rfl (Rd.of_own (H.out.row 2 rfl)) (fct_onesK f) (by unfold maxLen; omega) (by omega) ?_; intro vq wq howq hgq hatq; replace H := Lib.hid (H.out.setRow 0 rfl hgq howq hatq); (try simp only [List.set_cons_zero, List.set_cons_succ, List.cons_append, List.nil_append, List.eraseIdx_cons_zero, List.eraseIdx_cons_succ, List.setIfInBounds_toArray, World.size_alloc, selR, List.getD_cons_zero, List.getD_cons_succ] at H); clear howq hgq hatq; obtain ⟨B2, d2, rfl, _⟩ := own_slice (H.out.row 0 rfl))))
            (try simp only [Act.put, List.setIfInBounds_toArray, List.set_cons_zero, List.set_cons_succ])
            replace H := Lib.hid (H.out.sel [0] (by decide) (by simp)); (try simp only [List.set_cons_zero, List.set_cons_succ, List.cons_append, List.nil_append, List.eraseIdx_cons_zero, List.eraseIdx_cons_succ, List.setIfInBounds_toArray, World.size_alloc, selR, List.getD_cons_zero, List.getD_cons_succ] at H)
            have hflat : out.flatMap Cel.cells ++ f.cs.toList = (out ++ [f]).flatMap Cel.cells := by simp [Cel.cells]
            rw [hflat] at H
            have HQ2 : Hid ((out ++ [f]).length = m + 1 + 1) := by show _ = _; rw [List.length_append, HQ.out]; rfl
            have HFO2 : Hid (∀ z ∈ out ++ [f], z.ok w) := fun z hz => (List.mem_append.1 hz).elim (HFO.out z) (fun h => by rw [List.mem_singleton] at h; subst h; exact HFok.out)
            clear hflat HQ HFO
            go_wp2_with fail
            go_roundg (N - (k + 1))
            case rel => exact ⟨k + 1, m + 1 + 1, d2, B2, out ++ [f], rfl, by omega, by omega, rfl, by go_num, HQ2, HE2, HFO2, H⟩
            case measure => rw [Hgk.out]; omega
          · have l1 : lessK p.ks.l f.ks.l = false := by
              unfold lessK
              exact beq_eq_false_iff_ne.2 h1
            have l2 : lessK f.ks.l p.ks.l = true := by
              unfold lessK
              rw [hsw]
              have : cmpK p.ks.l f.ks.l = 1 := by omega
              rw [this]
              rfl
            have HC1 := Lib.hid HC.out
            have HC2 := Lib.hid HD.out
            rw [l1] at HC1
            rw [l2] at HC2
            clear l1 l2 HC HD hr hsw h1 hcmp
            go_upto_region 6 with fail
            refine wp_region_over (by kernel_rfl) (by kernel_rfl) ?_
            (try simp only [Act.put, List.setIfInBounds_toArray, List.set_cons_zero, List.set_cons_succ])
            repeat (first
              | ((with_reducible show wpQuiet _ _ _ _ (⟨some 25, _, _, _, _, _⟩ :: _) _); refine wpQuiet_load_row (by first | rfl | go_simp) rowFct (.tmp 24) rfl g (m * 11) rfl p.cs rfl HPR.out.2 HPR.out.1 ?_; simp only [Act.put, List.setIfInBounds_toArray, List.set_cons_zero, List.set_cons_succ])
              | ((with_reducible show wpQuiet _ _ _ _ (⟨some 26, _, _, _, _, _⟩ :: _) _); refine wpQuiet_load_row (by first | rfl | go_simp) rowFct (.tmp 6) rfl x (0) rfl f.cs rfl HXB.lt HXB.range ?_; simp only [Act.put, List.setIfInBounds_toArray, List.set_cons_zero, List.set_cons_succ])
              | ((with_reducible show wpQuiet _ _ _ _ (⟨some 30, _, _, _, _, _⟩ :: _) _); refine wpQuiet_load_row (by first | rfl | go_simp) rowFct (.tmp 6) rfl x (0) rfl f.cs rfl HXB.lt HXB.range ?_; simp only [Act.put, List.setIfInBounds_toArray, List.set_cons_zero, List.set_cons_succ])
              | ((with_reducible show wpQuiet _ _ _ _ (⟨some 35, _, _, _, _, _⟩ :: _) _); refine wpQuiet_load_row (by first | rfl | go_simp) rowFct (.tmp 34) rfl g (m * 11) rfl p.cs rfl HPR.out.2 HPR.out.1 ?_; simp only [Act.put, List.setIfInBounds_toArray, List.set_cons_zero, List.set_cons_succ])
              | ((with_reducible show wpQuiet _ _ _ _ (⟨some 27, _, _, _, _, _⟩ :: _) _); go_big_quiet_step ((go_at_call 36; rename_i u; exact calls_over (HC1.out _ (HBW.out.trans u.bel)))))
              | ((with_reducible show wpQuiet _ _ _ _ (⟨some 36, _, _, _, _, _⟩ :: _) _); go_big_quiet_step ((go_at_call 36; rename_i u; exact calls_over (HC2.out _ (HBW.out.trans u.bel)))))
              | go_big_quiet_step (fail))
            refine wpQuiet_nil ?_
            rintro w5 ⟨⟨_, hw5⟩, rfl⟩
            (try dsimp only)
            replace H := Lib.hid (H.out.bel hw5); (try simp only [List.set_cons_zero, List.set_cons_succ, List.cons_append, List.nil_append, List.eraseIdx_cons_zero, List.eraseIdx_cons_succ, List.setIfInBounds_toArray, World.size_alloc, selR, List.getD_cons_zero, List.getD_cons_succ] at H)
            skip
            clear HBW HXB HPR e2 m0 m1 e1 HL HPG HC1 HC2
            go_upto_region 12 with (first | ((with_reducible show wpList _ _ _ (⟨some 39, _, _, _, _, _⟩ :: _) _ _); (refine wpList_load_blk rfl rowFct (.tmp 6) rfl _ rfl (H.out.blk 1 rfl) rfl ?_)) | ((with_reducible show wpList _ _ _ (⟨some 40, _, _, _, _, _⟩ :: _) _ _); (refine wpList_buildSlice1 rfl E_fct (.tmp 39) rfl (f.cs) rfl (fct_size f) (by omega) ?_; replace H := Lib.hid (H.out.addRow ((Bel.refl _).alloc _) (own_madeK _ 84 (f.cs) 11 (fct_size f))); (try simp only [List.set_cons_zero, List.set_cons_succ, List.cons_append, List.nil_append, List.eraseIdx_cons_zero, List.eraseIdx_cons_succ, List.setIfInBounds_toArray, World.size_alloc, selR, List.getD_cons_zero, List.getD_cons_succ] at H))) | ((with_reducible show wpList _ _ _ (⟨some 41, _, _, _, _, _⟩ :: _) _ _); (refine wpList_append0 rfl (.tmp 38) (.tmp 40) _ rfl E_fct 0 (Nat.zero_le _) _ _ _ rfl (H.out.row 0 rfl) _ 1 1 f.cs.toList rfl (Rd.of_own (H.out.row 2 rfl)) (fct_onesK f) (by unfold maxLen; omega) (by omega) ?_; intro vq wq howq hgq hatq; replace H := Lib.hid (H.out.setRow 0 rfl hgq howq hatq); (try simp only [List.set_cons_zero, List.set_cons_succ, List.cons_append, List.nil_append, List.eraseIdx_cons_zero, List.eraseIdx_cons_succ, List.setIfInBounds_toArray, World.size_alloc, selR, List.getD_cons_zero, List.getD_cons_succ] at H); clear howq hgq hatq; obtain ⟨B2, d2, rfl, _⟩ := own_slice (H.out.row 0 rfl))))
            (try simp only [Act.put, List.setIfInBounds_toArray, List.set_cons_zero, List.set_cons_succ])
            replace H := Lib.hid (H.out.sel [0] (by decide) (by simp)); (try simp only [List.set_cons_zero, List.set_cons_succ, List.cons_append, List.nil_append, List.eraseIdx_cons_zero, List.eraseIdx_cons_succ, List.setIfInBounds_toArray, World.size_alloc, selR, List.getD_cons_zero, List.getD_cons_succ] at H)
            have hflat : out.flatMap Cel.cells ++ f.cs.toList = (out ++ [f]).flatMap Cel.cells := by simp [Cel.cells]
            rw [hflat] at H
            have HQ2 : Hid ((out ++ [f]).length = m + 1 + 1) := by show _ = _; rw [List.length_append, HQ.out]; rfl
            have HFO2 : Hid (∀ z ∈ out ++ [f], z.ok w) := fun z hz => (List.mem_append.1 hz).elim (HFO.out z) (fun h => by rw [List.mem_singleton] at h; subst h; exact HFok.out)
            clear hflat HQ HFO
            go_wp2_with fail
            go_roundg (N - (k + 1))
            case rel => exact ⟨k + 1, m + 1 + 1, d2, B2, out ++ [f], rfl, by omega, by omega, rfl, by go_num, HQ2, HE2, HFO2, H⟩
            case measure => rw [Hgk.out]; omega
    · obtain rfl : k = N := by omega
      have HO : Hid (O = some (cons out)) := by
        show _ = _
        have h := HE.out
        rw [List.drop_of_length_le (by have := hlen.out; omega)] at h
        exact h.symm
      have HRS := Lib.hid (HPO.out (.returned (.tuple #[.slice B q d, .bool true])) wr (.inr ⟨⟨B, q, d, out⟩, HO.out, rfl, own_okK (x := ⟨B, q, d, out⟩) (H.out.row 0 rfl) (fun f hf => ⟨(HFO.out f hf).ks.mono H.out.to, (HFO.out f hf).ag⟩) (by show q * 104 ≤ _; omega), H.out.to⟩))
      clear HE
      go_wp2_with fail
      go_ret2
      exact HRS.out

end Go.Proofs.Ytelnhhbefdfeoaa

namespace Go.Proofs.Ytelnhhbefdfeoaa
open Go.RowKit
set_option linter.unusedVariables false
set_option linter.unusedSimpArgs false


/-- What a folding came to: none, and 12; or the facts, and 0. -/
def Folded (O : Option (List Con)) (w : World) (v : Value) (k : Int) : Prop :=
  (O = none ∧ v = .slice none 0 0 ∧ k = 12) ∨ ∃ x : Row Fct, O = some (cons x.l) ∧ v = .slice x.A x.n x.c ∧ k = 0 ∧ x.ok w ∧ x.n ≤ 1000000
def RFolded (O : Option (List Con)) (w : World) (v : Value) (b : Bool) : Prop :=
  (O = none ∧ v = .slice none 0 0 ∧ b = false) ∨ ∃ x : Row Fct, O = some (cons x.l) ∧ v = .slice x.A x.n x.c ∧ b = true ∧ x.ok w ∧ x.n ≤ 1000000
theorem Folded.mono {O : Option (List Con)} {w w' : World} {v : Value} {k : Int} (h : Folded O w v k) (hb : Bel w w') : Folded O w' v k := by
  rcases h with h | ⟨x, h1, h2, h3, h4, h5⟩
  · exact .inl h
  · exact .inr ⟨x, h1, h2, h3, h4.mono hb, h5⟩
theorem RFolded.mono {O : Option (List Con)} {w w' : World} {v : Value} {k : Bool} (h : RFolded O w v k) (hb : Bel w w') : RFolded O w' v k := by
  rcases h with h | ⟨x, h1, h2, h3, h4, h5⟩
  · exact .inl h
  · exact .inr ⟨x, h1, h2, h3, h4.mono hb, h5⟩
def FldPost (O : Option (List Con)) (w : World) (e : Ending) (w' : World) : Prop := ∃ v k, e = .returned (.tuple #[v, .int .i64 k]) ∧ Folded O w' v k ∧ Bel w w'
def RFldPost (O : Option (List Con)) (w : World) (e : Ending) (w' : World) : Prop := ∃ v b, e = .returned (.tuple #[v, .bool b]) ∧ RFolded O w' v b ∧ Bel w w'
theorem foldStep_len {acc r : List Con} {f : Con} (h : foldStep acc f = some r) : r.length ≤ acc.length + 1 := by
  unfold foldStep at h
  split at h
  · injection h with h; subst h; simp
  · rename_i p hp
    split at h
    · split at h
      · injection h with h
        subst h
        rw [List.length_append, List.length_dropLast]
        simp
      · cases h
    · injection h with h; subst h; simp
theorem foldFrom_len (l : List Con) : ∀ (acc r : List Con), foldFrom acc l = some r → r.length ≤ acc.length + l.length := by
  induction l with
  | nil => intro acc r h; injection h with h; subst h; simp
  | cons f l ih =>
    intro acc r h
    rw [foldFrom] at h
    split at h
    · cases h
    · rename_i a ha
      have h1 := foldStep_len ha
      have h2 := ih _ _ h
      rw [List.length_cons]
      omega
theorem foldC_len {l r : List Con} (h : foldC l = some r) : r.length ≤ l.length := by
  have := foldFrom_len l [] r h
  simpa using this
theorem foldP_any (w : World) (x : Row Fct) (hx : x.ok w) (hn : x.n ≤ 1000000) : Calls Try.prog 19 #[.slice x.A x.n x.c] w (FldPost (foldC (cons x.l)) w) := by
  refine (foldI_any w x hx hn).mono ?_
  rintro e w' (⟨h1, h2, h3⟩ | ⟨r, v, fs, h1, h2, h3, h4⟩)
  · exact ⟨_, _, h2, .inl ⟨h1, rfl, rfl⟩, h3⟩
  · have hl := foldC_len h1
    rw [← h4, cons_len, cons_len, hx.len] at hl
    obtain ⟨X, q1, q2, q3, q4, _⟩ := h3.run (by omega)
    refine ⟨v, 0, h2, .inr ⟨X, ?_, q1, rfl, q4, by omega⟩, h3.bel⟩
    rw [h1, q2, h4]
theorem rfoldP_any (w : World) (x : Row Fct) (hx : x.ok w) (hn : x.n ≤ 1000000) : Calls Try.prog 12 #[.slice x.A x.n x.c] w (RFldPost (foldC (cons x.l)) w) := by
  refine (rfoldI_any w x hx hn).mono ?_
  rintro e w' (⟨h1, h2, h3⟩ | ⟨X, h1, h2, h3, h4⟩)
  · exact ⟨_, _, h2, .inl ⟨h1, rfl, rfl⟩, h3⟩
  · have hl := foldC_len h1
    rw [cons_len, cons_len, hx.len, h3.len] at hl
    exact ⟨_, _, h2, .inr ⟨X, h1, rfl, rfl, h3, by omega⟩, h4⟩
set_option maxRecDepth 100000 in
set_option maxHeartbeats 1000000 in
theorem told_over (w : World) : Calls Try.prog 15 #[.slice none 0 0, .int .i64 12, .slice none 0 0, .bool false] w fun e w' => e = .returned (.bool true) ∧ Bel w w' := by
  go_enter Try.func15, Try.ntmps15
  go_wp2_with fail
  go_ret
  exact ⟨rfl, Bel.refl _⟩
set_option maxRecDepth 100000 in
set_option maxHeartbeats 1000000 in
theorem told_same (x y : Row Fct) (w : World) (hx : x.ok w) (hy : y.ok w) (hn : x.n ≤ 1000000) (hm : y.n ≤ 1000000) (h : cons x.l = cons y.l) : Calls Try.prog 15 #[.slice x.A x.n x.c, .int .i64 0, .slice y.A y.n y.c, .bool true] w fun e w' => e = .returned (.bool true) ∧ Bel w w' := by
  have HS := Lib.hid (fun w' (hb : Bel w w') => same_any x y w' (hx.mono hb) (hy.mono hb) hn hm)
  rw [sameF_consK h] at HS
  simp only [Row.v] at HS
  obtain ⟨XA, xn, xc, xl⟩ := x
  obtain ⟨YA, yn, yc, yl⟩ := y
  simp only at *
  clear hx hy h
  go_enter Try.func15, Try.ntmps15
  go_wp2_with fail
  refine (HS.out _ (Bel.refl _)).mono ?_; rintro e w5 ⟨rfl, hb5⟩
  go_wp2_with fail
  go_ret
  exact ⟨rfl, hb5⟩
theorem told_any (O : Option (List Con)) (v v' : Value) (k : Int) (b : Bool) (w : World) (h : Folded O w v k) (h' : RFolded O w v' b) : Calls Try.prog 15 #[v, .int .i64 k, v', .bool b] w fun e w' => e = .returned (.bool true) ∧ Bel w w' := by
  rcases h with ⟨h1, rfl, rfl⟩ | ⟨x, h1, rfl, rfl, h2, h3⟩
  · rcases h' with ⟨_, rfl, rfl⟩ | ⟨y, h4, _⟩
    · exact told_over w
    · rw [h1] at h4; cases h4
  · rcases h' with ⟨h4, _⟩ | ⟨y, h4, rfl, rfl, h5, h6⟩
    · rw [h1] at h4; cases h4
    · rw [h1] at h4
      injection h4 with h4
      exact told_same x y w h2 h5 h3 h6 h4
set_option maxRecDepth 100000 in
set_option maxHeartbeats 1000000 in
theorem anyI_any (x : Row Fct) (w : World) (hx : x.ok w) (hn : x.n ≤ 1000) : Calls Try.prog 20 #[.slice x.A x.n x.c] w (FldPost (foldC (sortC (cons x.l))) w) := by
  have HK := Lib.hid (ksort_any 32 4 (by omega) (by omega) (by omega) (by omega) x w hx hn)
  have hxl : Hid (x.l.length = x.n) := hx.len
  obtain ⟨A, N, c, X⟩ := x
  simp only at *
  clear hx
  go_enter Try.func20, Try.ntmps20
  go_wp2_with fail
  refine HK.out.mono ?_; rintro e w1 ⟨v, fs, rfl, hG, hc⟩
  have hfl : fs.length = N := by have h := congrArg List.length hc; rw [cons_len, sortC_len, cons_len] at h; rw [h]; exact hxl.out
  have HB := Lib.hid hG.bel
  obtain ⟨Y, rfl, hYl, hYn, hYok, _⟩ := hG.run (by omega)
  have HF := Lib.hid (foldP_any w1 Y hYok (by omega))
  rw [hYl, hc] at HF
  clear hG hc hfl hYl hYn hYok HK
  obtain ⟨YA, yn, yc, yl⟩ := Y
  simp only [Row.v] at *
  go_wp2_with fail
  refine HF.out.mono ?_; rintro e w2 ⟨v, k, rfl, hF, hb⟩
  have HRS : Hid (FldPost (foldC (sortC (cons X))) w (.returned (.tuple #[v, .int .i64 k])) w2) := ⟨v, k, rfl, hF, HB.out.trans hb⟩
  clear hF hb HF
  go_wp2
  go_ret2
  exact HRS.out
theorem two_runs (x y : Row Fct) (w : World) (hx : x.ok w) (hy : y.ok w) : Row.ok (w.alloc (.cells #[.slice x.A x.n x.c, .slice y.A y.n y.c] 30)) (⟨some ⟨w.heap.size, 0, none⟩, 2, 2, [x, y]⟩ : Row (Row Fct)) := by
  have hb : Bel w (w.alloc (.cells #[.slice x.A x.n x.c, .slice y.A y.n y.c] 30)) := (Bel.refl w).alloc _
  refine own_okK (base := w.heap.size) (e := 30) (x := ⟨some ⟨w.heap.size, 0, none⟩, 2, 2, [x, y]⟩) ⟨rfl, .inr ⟨w.heap.size, 2, #[.slice x.A x.n x.c, .slice y.A y.n y.c], rfl, Nat.le_refl _, heap_alloc_new w _, Nat.le_refl _, by unfold maxLen; omega, rfl, rfl⟩⟩ (fun a ha => ?_) (by show 2 * 24 ≤ _; omega)
  rcases List.mem_cons.1 ha with rfl | ha
  · exact hx.mono hb
  · rw [List.mem_singleton] at ha; subst ha; exact hy.mono hb
set_option maxRecDepth 100000 in
set_option maxHeartbeats 1000000 in
theorem joinI_any (x y : Row Fct) (w : World) (hx : x.ok w) (hy : y.ok w) (hn : x.n ≤ 1000) (hm : y.n ≤ 1000) (h1 : Srt (cons x.l)) (h2 : Srt (cons y.l)) :
    Calls Try.prog 16 #[.slice x.A x.n x.c, .slice y.A y.n y.c] w (FldPost (foldC (sortC (cons x.l ++ cons y.l))) w) := by
  have hxl : Hid (x.l.length = x.n) := hx.len
  have hyl : Hid (y.l.length = y.n) := hy.len
  have HM := Lib.hid (merge_any _ _ (two_runs x y w hx hy) (by show 2 ≤ 1000; omega) (by show (runsC [x, y]).flatten.length ≤ _; simp only [runsC, List.map_cons, List.map_nil, List.flatten_cons, List.flatten_nil, List.append_nil, List.length_append, cons_len]; rw [hxl.out, hyl.out]; omega) (fun r hr => by
    have hr : r ∈ [cons x.l, cons y.l] := hr
    rcases List.mem_cons.1 hr with rfl | hr
    · exact h1
    · rw [List.mem_singleton] at hr; subst hr; exact h2))
  have e0 : (runsC [x, y]).flatten = cons x.l ++ cons y.l := by simp [runsC]
  rw [e0] at HM
  obtain ⟨XA, xn, xc, xl⟩ := x
  obtain ⟨YA, yn, yc, yl⟩ := y
  simp only at *
  clear hx hy h1 h2 e0
  go_enter Try.func16, Try.ntmps16
  go_wp2_with fail
  refine HM.out.mono ?_; rintro e w1 ⟨v, fs, rfl, hG, hc⟩
  have hfl : fs.length = xn + yn := by have h := congrArg List.length hc; rw [cons_len, sortC_len, List.length_append, cons_len, cons_len, hxl.out, hyl.out] at h; exact h
  have HB := Lib.hid (((Bel.refl w).alloc _).trans hG.bel)
  obtain ⟨Y, rfl, hYl, hYn, hYok, _⟩ := hG.run (by omega)
  have HF := Lib.hid (foldP_any w1 Y hYok (by omega))
  rw [hYl, hc] at HF
  clear hG hc hfl hYl hYn hYok HM
  obtain ⟨ZA, zn, zc, zl⟩ := Y
  simp only [Row.v] at *
  go_wp2_with fail
  refine HF.out.mono ?_; rintro e w2 ⟨v, k, rfl, hF, hb⟩
  have HRS : Hid (FldPost (foldC (sortC (cons xl ++ cons yl))) w (.returned (.tuple #[v, .int .i64 k])) w2) := ⟨v, k, rfl, hF, HB.out.trans hb⟩
  clear hF hb HF
  go_wp2
  go_ret2
  exact HRS.out

end Go.Proofs.Ytelnhhbefdfeoaa
