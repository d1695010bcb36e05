/- Scans; plan.tier; plan.Of. -/
import Derived.Test.YtelnhhbefdfeoaaAskL
namespace Go.Proofs.Ytelnhhbefdfeoaa
open Go.RowKit
set_option linter.unusedVariables false
set_option linter.unusedSimpArgs false

section
variable {P : Program} {w : World}
theorem step_load_row {ops : Array Oper} {o : Oper} {a : Act} {K : Act → World → Prop} {Q : Exit → Act → World → Prop} {X : Prop} (hgd : o.guard = none) {ty : TypeId} {n : Nat} (R : RowTy P ty n) (x : Operand) (ho : o.op = .load ty x)
    (b off : Nat) (hx : a.eval x = .pointer (some ⟨b, off, none⟩)) (cs : Array Value) (hr : w.rangeAt b off cs.toList) (hn : cs.size = n)
    (h : K (a.put o.dst (.agg cs)) w) : if Region.wanted o (yielded ops a.tmps) = true then Oper.wp P o a w K Q else X := by
  have hw : Region.wanted o (yielded ops a.tmps) = true := by simp [Region.wanted, hgd]
  rw [if_pos hw]
  obtain ⟨d, hu, hd⟩ := R.hu
  exact wp_load_mid ty x ho b off hx cs.toList d hr hu hd (by rw [R.hi]; simp [hn]) (by simpa using h)
end
/-- A scan. -/
structure Scn where
  t : Int
  tk : Row Int
  io : Row Int
abbrev Scn.cs (x : Scn) : Array Value := #[.int .i64 x.t, .slice x.tk.A x.tk.n x.tk.c, .slice x.io.A x.io.n x.io.c]
structure Scn.rd (w : World) (x : Scn) : Prop where
  t : I64 x.t
  tk : x.tk.rd w
  io : x.io.rd w
  tb : x.tk.n ≤ 140737488351232
  ib : x.io.n ≤ 140737488351232
theorem Scn.rd.mono {w w' : World} {x : Scn} (h : x.rd w) (hb : Bel w w') : x.rd w' := ⟨h.t, h.tk.mono hb, h.io.mono hb, h.tb, h.ib⟩
instance instCelScn : Cel Scn where
  size := 3
  bytes := 56
  cells x := x.cs.toList
  ok w x := x.rd w
  len _ := rfl
  pos := by omega
  mono hb h := h.mono hb
/-- What it says. -/
structure SnC where
  t : Int
  tk : List Int
  io : List Int
deriving DecidableEq
abbrev Scn.con (x : Scn) : SnC := ⟨x.t, x.tk.l, x.io.l⟩
theorem scn_one (x : Scn) : x.cs.all (·.oneCell') = true := by simp [Value.oneCell']
theorem scn1_one (x : Scn) : ∀ u ∈ ([.int .i64 x.t, .slice x.tk.A x.tk.n x.tk.c, .slice x.io.A x.io.n x.io.c] : List Value), u.oneCell' = true := by simp [Value.oneCell']
theorem rowScan : RowTy Try.prog 62 3 := ⟨⟨_, Try.underlying62, rfl⟩, by kernel_rfl⟩
theorem E_scn : ElemInfo Try.prog 54 62 3 56 := ElemInfo.mk' (z := .agg #[.int .i64 0, .slice none 0 0, .slice none 0 0]) Try.underlying54 (by kernel_rfl) rfl (by omega)
/-- A scan whose rows are the call's own. -/
structure ScnOwn (x : Scn) (w : World) : Prop where
  t : I64 x.t
  tk : w.ownsRow 0 3 1 (.slice x.tk.A x.tk.n x.tk.c) x.tk.n (x.tk.l.map (Value.int .i64))
  io : w.ownsRow 0 3 1 (.slice x.io.A x.io.n x.io.c) x.io.n (x.io.l.map (Value.int .i64))
  tl : ∀ v ∈ x.tk.l, I64 v
  il : ∀ v ∈ x.io.l, I64 v
  tn : x.tk.n ≤ 1000000
  inn : x.io.n ≤ 1000000
def Scn.D (x : Scn) (g : Nat) : Prop := x.tk.v.ownBlock = some g ∨ x.io.v.ownBlock = some g
abbrev rScn (x : Scn) : Res := ⟨x.D, ScnOwn x⟩
theorem ScnOwn.rd {x : Scn} {w : World} (h : ScnOwn x w) : Scn.rd w x :=
  ⟨h.t, ⟨by have := Rd.of_own h.tk; rw [flat_ints]; exact this, fun t ht => h.tl t ht, by have := h.tn; omega⟩, ⟨by have := Rd.of_own h.io; rw [flat_ints]; exact this, fun t ht => h.il t ht, by have := h.inn; omega⟩, by have := h.tn; omega, by have := h.inn; omega⟩
theorem holds_scn {t : Int} {A B : Option Addr} {n c m d : Nat} {ks vs : List Int} {w : World} (ht : I64 t) (h1 : (rRow 3 1 (.slice A n c) n (ks.map (Value.int .i64))).holds w) (h2 : (rRow 3 1 (.slice B m d) m (vs.map (Value.int .i64))).holds w) (h3 : ∀ x ∈ ks, I64 x) (h4 : ∀ x ∈ vs, I64 x) (h5 : n ≤ 1000000) (h6 : m ≤ 1000000) : (rScn ⟨t, ⟨A, n, c, ks⟩, ⟨B, m, d, vs⟩⟩).holds w := by
  refine ⟨?_, fun w' hs hk => ⟨ht, h1.2 w' hs fun g hg => hk g (.inl hg), h2.2 w' hs fun g hg => hk g (.inr hg), h3, h4, h5, h6⟩⟩
  rintro g (hg | hg)
  · exact h1.1 g hg
  · exact h2.1 g hg
/-- How plan.scan ends. -/
def ScPost (c : SnC) (w : World) (e : Ending) (w' : World) : Prop := ∃ X : Scn, e = .returned (.agg X.cs) ∧ X.con = c ∧ Bel w w' ∧ NewR w w' (rScn X)
def tierOf (p : PC) : Int := if p.f ≠ 0 ∧ p.g = true then min p.t p.by_ else if p.f ≠ 0 then p.t else if p.g = true then p.by_ else -1
set_option maxRecDepth 100000 in
set_option maxHeartbeats 1000000 in
theorem ptier_any (p : Pk) (w : World) (hp : p.rd w) :
    Calls Try.prog 69 #[.agg p.cs] w fun e w' => e = .returned (.int .i64 (tierOf p.con)) ∧ Bel w w' := by
  have H := Lib.hid ((SL.start No w).alloc p.cs 59)
  (try simp only [List.set_cons_zero, List.set_cons_succ, List.cons_append, List.nil_append, List.eraseIdx_cons_zero, List.eraseIdx_cons_succ, List.setIfInBounds_toArray, World.size_alloc, selR, List.getD_cons_zero, List.getD_cons_succ] at H)
  obtain ⟨pf, pt, lo, hi, ⟨A, n, c, set⟩, g, pb⟩ := p
  simp only [Pk.cs, Pk.con] at *
  clear hp
  have cc0 := (H.out.blk 0 rfl).cell 0; simp only [List.getElem?_toArray, List.getElem?_cons_zero, List.getElem?_cons_succ] at cc0
  have cc1 := (H.out.blk 0 rfl).cell 1; simp only [List.getElem?_toArray, List.getElem?_cons_zero, List.getElem?_cons_succ] at cc1
  have cc5 := (H.out.blk 0 rfl).cell 5; simp only [List.getElem?_toArray, List.getElem?_cons_zero, List.getElem?_cons_succ] at cc5
  have cc6 := (H.out.blk 0 rfl).cell 6; simp only [List.getElem?_toArray, List.getElem?_cons_zero, List.getElem?_cons_succ] at cc6
  by_cases h0 : pf = 0
  · subst h0
    cases g with
    | true =>
      have HN : Hid (tierOf ⟨0, pt, lo, hi, set, true, pb⟩ = pb) := by show _ = _; unfold tierOf; rw [if_neg (fun h => h.1 rfl), if_neg (fun h => h rfl), if_pos rfl]
      go_enter Try.func69, Try.ntmps69
      go_wp2
      go_ret
      rw [HN.out]
      exact ⟨rfl, H.out.to⟩
    | false =>
      have HN : Hid (tierOf ⟨0, pt, lo, hi, set, false, pb⟩ = -1) := by show _ = _; unfold tierOf; rw [if_neg (fun h => h.1 rfl), if_neg (fun h => h rfl), if_neg (by simp)]
      go_enter Try.func69, Try.ntmps69
      go_wp2
      go_ret
      rw [HN.out]
      exact ⟨rfl, H.out.to⟩
  · have z1 : (pf != 0) = true := by simpa using h0
    have z2 : (pf == 0) = false := by simpa using h0
    cases g with
    | true =>
      have HN : Hid (tierOf ⟨pf, pt, lo, hi, set, true, pb⟩ = min pt pb) := by show _ = _; unfold tierOf; rw [if_pos ⟨h0, rfl⟩]
      go_enter Try.func69, Try.ntmps69
      go_wp2
      go_ret
      rw [HN.out]
      exact ⟨rfl, H.out.to⟩
    | false =>
      have HN : Hid (tierOf ⟨pf, pt, lo, hi, set, false, pb⟩ = pt) := by show _ = _; unfold tierOf; rw [if_neg (fun h => by cases h.2), if_pos h0]
      go_enter Try.func69, Try.ntmps69
      go_wp2
      go_ret
      rw [HN.out]
      exact ⟨rfl, H.out.to⟩
set_option maxRecDepth 100000 in
set_option maxHeartbeats 1000000 in
theorem scan_nil (D : Dm) (p : Pk) (w : World) (hD : D.rd w) (hp : p.rd w) (h : tierOf p.con = -1) :
    Calls Try.prog 44 #[.agg D.cs, .agg p.cs] w (ScPost ⟨-1, [], []⟩ w) := by
  have HT := Lib.hid (fun w' (hb : Bel w w') => ptier_any p w' (hp.mono hb))
  rw [h] at HT
  have H := Lib.hid ((((SL.start No w).alloc D.cs 66).alloc p.cs 59).alloc #[.int .i64 0, .slice none 0 0, .slice none 0 0] 62)
  (try simp only [List.set_cons_zero, List.set_cons_succ, List.cons_append, List.nil_append, List.eraseIdx_cons_zero, List.eraseIdx_cons_succ, List.setIfInBounds_toArray, World.size_alloc, selR, List.getD_cons_zero, List.getD_cons_succ] at H)
  obtain ⟨pf, pt, lo, hi, ⟨A, n, c, set⟩, g, pb⟩ := p
  obtain ⟨nm, ⟨A2, n2, cp2, trs⟩⟩ := D
  simp only [Pk.cs, Pk.con, Dm.cs] at *
  clear hD hp h
  go_enter Try.func44, Try.ntmps44
  go_wp2_with ((with_reducible show wpList _ _ _ (⟨some 10, _, _, _, _, _⟩ :: _) _ _); (refine wpList_load_blk rfl rowPk (.tmp 3) rfl _ rfl (H.out.blk 1 rfl) rfl ?_))
  refine (HT.out _ H.out.to).mono ?_; rintro e w1 ⟨rfl, hb1⟩
  replace H := Lib.hid (H.out.bel hb1); (try simp only [List.set_cons_zero, List.set_cons_succ, List.cons_append, List.nil_append, List.eraseIdx_cons_zero, List.eraseIdx_cons_succ, List.setIfInBounds_toArray, World.size_alloc, selR, List.getD_cons_zero, List.getD_cons_succ] at H)
  clear hb1 HT
  generalize w.heap.size + 1 + 1 = z at *
  generalize w.heap.size + 1 = y at *
  generalize w.heap.size = x at *
  go_wp2_with (first | ((with_reducible show wpList _ _ _ (⟨some 12, _, _, _, _, _⟩ :: _) _ _); refine wpList_build1 (v := .agg #[.int .i64 (-1), .slice none 0 0, .slice none 0 0]) rfl (.tmp 11) rfl rfl (by intro w; kernel_rfl) ?_) | ((with_reducible show wpList _ _ _ (⟨_, .store _ (.tmp 5) _, _, _, _, _⟩ :: _) _ _); (refine wpList_store_new rfl rowScan (.tmp 5) (.tmp 12) rfl rfl rfl (#[.int .i64 (-1), .slice none 0 0, .slice none 0 0]) rfl rfl (by simp [Value.oneCell']) ?_; replace H := Lib.hid (H.out.alloc (#[.int .i64 (-1), .slice none 0 0, .slice none 0 0]) 62); (try simp only [List.set_cons_zero, List.set_cons_succ, List.cons_append, List.nil_append, List.eraseIdx_cons_zero, List.eraseIdx_cons_succ, List.setIfInBounds_toArray, World.size_alloc, selR, List.getD_cons_zero, List.getD_cons_succ] at H); have cc0 := (H.out.blk 3 rfl).cell 0; simp only [List.getElem?_toArray, List.getElem?_cons_zero, List.getElem?_cons_succ] at cc0)) | ((with_reducible show wpList _ _ _ (⟨some 16, _, _, _, _, _⟩ :: _) _ _); (refine wpList_load_blk rfl rowScan (.tmp 5) rfl _ rfl (H.out.blk 3 rfl) rfl ?_)) | ((with_reducible show wpList _ _ _ (⟨_, .store _ (.tmp 4) _, _, _, _, _⟩ :: _) _ _); (refine wpList_store_blk rfl rowScan (.tmp 4) (.tmp 16) rfl _ rfl (H.out.blk 2 rfl) rfl (#[.int .i64 (-1), .slice none 0 0, .slice none 0 0]) rfl rfl (by simp [Value.oneCell']) ?_; intro wq bq hgq; replace H := Lib.hid (H.out.setBlk 2 rfl hgq bq); (try simp only [List.set_cons_zero, List.set_cons_succ, List.cons_append, List.nil_append, List.eraseIdx_cons_zero, List.eraseIdx_cons_succ, List.setIfInBounds_toArray, World.size_alloc, selR, List.getD_cons_zero, List.getD_cons_succ] at H); clear hgq bq)))
  refine bodyPost_ret (results_blk1 rfl rowScan rfl (H.out.blk 2 rfl) rfl) rfl ?_
  refine ⟨⟨-1, ⟨none, 0, 0, []⟩, ⟨none, 0, 0, []⟩⟩, rfl, rfl, H.out.to, holds_scn (by unfold I64; omega) (holds_row (World.ownsRow_nil _ 0 _ _)) (holds_row (World.ownsRow_nil _ 0 _ _)) (fun x hx => by cases hx) (fun x hx => by cases hx) (Nat.zero_le _) (Nat.zero_le _), ?_⟩
  rintro g (h | h)
  · simp [Row.v, Value.ownBlock] at h
  · simp [Row.v, Value.ownBlock] at h
/-- The scans of the call's own, with all that they hold. -/
abbrev rScns (X : Row Scn) : Res := ⟨fun g => (rRow 62 3 (.slice X.A X.n X.c) X.n (X.l.flatMap Cel.cells)).D g ∨ (rList rScn X.l).D g, fun w => X.rd w ∧ X.n ≤ 16⟩
theorem holds_scns {X : Row Scn} {w : World} (h1 : (rRow 62 3 (.slice X.A X.n X.c) X.n (X.l.flatMap Cel.cells)).holds w) (h2 : (rList rScn X.l).holds w) (h3 : X.n ≤ 16) : (rScns X).holds w :=
  ⟨fun g hg => hg.elim (h1.1 g) (h2.1 g), fun w' hs hk => ⟨⟨Rd.of_own (h1.2 w' hs fun g hg => hk g (.inl hg)), fun r hr => (h2.2 w' hs (fun g hg => hk g (.inr hg)) r hr).rd, by omega⟩, h3⟩⟩
theorem holds_scns_nil (w : World) : (rScns ⟨none, 0, 0, []⟩).holds w := holds_scns (holds_row (World.ownsRow_nil w 0 _ _)) (holds_list_nil _ w) (by show 0 ≤ 16; omega)
theorem scns_nil_new {m : Nat} : ∀ g, (rScns ⟨none, 0, 0, []⟩).D g → m ≤ g := by
  rintro g (h | ⟨T, hT, _⟩)
  · simp [Value.ownBlock] at h
  · cases hT
/-- How plan.Of ends. -/
def OfPost (e0 : Int) (l : List SnC) (w : World) (e : Ending) (w' : World) : Prop :=
  ∃ X : Row Scn, e = .returned (.tuple #[.slice X.A X.n X.c, .int .i64 e0]) ∧ X.l.map Scn.con = (if e0 = 0 then l else []) ∧ Bel w w' ∧ NewR w w' (rScns X)
set_option maxRecDepth 100000 in
set_option maxHeartbeats 2000000 in
theorem planof_any (s : Sch) (q : Qr) (w : World) (l : List SnC) (hs : s.rd w) (hq : q.rd w) (hn : s.dm.n ≤ 1000000) (hm : s.ms.n ≤ 1000000) (hd : ∀ d ∈ s.dm.l, d.tr.n ≤ 1000000 ∧ ∀ t ∈ d.tr.l, t.up.n ≤ 100000) (hp : ∀ p ∈ q.ps.l, p.set.n ≤ 100000)
    (hl : askErr s.con q.con = 0 → l.length = q.ps.l.length)
    (hsc : askErr s.con q.con = 0 → ∀ (k : Nat) D p c, s.dm.l[k]? = some D → q.ps.l[k]? = some p → l[k]? = some c → ∀ w', Bel w w' → D.rd w' → p.rd w' → Calls Try.prog 44 #[.agg D.cs, .agg p.cs] w' (ScPost c w')) :
    Calls Try.prog 24 #[.agg s.cs, .agg q.cs] w (OfPost (askErr s.con q.con) l w) := by
  have HC := Lib.hid (fun w' (hb : Bel w w') => askcheck_any s q w' (hs.mono hb) (Row.rd.mono hq hb) hn hm hd hp)
  have hl1 : Hid (s.dm.l.length = s.dm.n) := hs.dm.len
  have hl2 : Hid (q.ps.l.length = q.ps.n) := Row.rd.len hq
  have HD := Lib.hid hs.dm
  have HQ := Lib.hid (show q.ps.rd w from hq)
  have m63 : q.ps.n ≤ 9223372036854775807 := hq.n63
  have HSCC := Lib.hid hsc
  have HLL := Lib.hid hl
  have H := Lib.hid (((SL.start No w).alloc s.cs 25).alloc q.cs 52)
  (try simp only [List.set_cons_zero, List.set_cons_succ, List.cons_append, List.nil_append, List.eraseIdx_cons_zero, List.eraseIdx_cons_succ, List.setIfInBounds_toArray, World.size_alloc, selR, List.getD_cons_zero, List.getD_cons_succ] at H)
  obtain ⟨⟨DA, dn, dc, ds⟩, ⟨MA, mn, mc, ms⟩⟩ := s
  obtain ⟨⟨A, n, c, ps⟩⟩ := q
  simp only [Sch.cs, Qr.cs, Sch.con, Qr.con] at *
  clear hs hq hd hp hsc hl
  go_enter Try.func24, Try.ntmps24
  go_wp2_with (first | ((with_reducible show wpList _ _ _ (⟨some 10, _, _, _, _, _⟩ :: _) _ _); (refine wpList_load_blk rfl rowSch (.tmp 2) rfl _ rfl (H.out.blk 0 rfl) rfl ?_)) | ((with_reducible show wpList _ _ _ (⟨some 11, _, _, _, _, _⟩ :: _) _ _); (refine wpList_load_blk rfl rowQry (.tmp 3) rfl _ rfl (H.out.blk 1 rfl) rfl ?_)))
  refine (HC.out _ H.out.to).mono ?_; rintro e w1 ⟨rfl, hb1⟩
  replace H := Lib.hid (H.out.bel hb1); (try simp only [List.set_cons_zero, List.set_cons_succ, List.cons_append, List.nil_append, List.eraseIdx_cons_zero, List.eraseIdx_cons_succ, List.setIfInBounds_toArray, World.size_alloc, selR, List.getD_cons_zero, List.getD_cons_succ] at H)
  clear hb1 HC
  by_cases hE : askErr ⟨ds.map Dm.con, ms⟩ (ps.map Pk.con) = 0
  · have HSCD := Lib.hid (HSCC.out hE)
    have HLen : Hid (l.length = n) := by show _ = _; rw [HLL.out hE]; exact hl2.out
    obtain ⟨e1, e2, _⟩ := askErr_zero hE
    have e3 := (schErr_zero e1).2.1
    have hdn : dn = n := by have := hl1.out; have := hl2.out; simp only [List.length_map] at e2 e3; omega
    have hn16 : n ≤ 16 := by have := hl2.out; simp only [List.length_map] at e2 e3; omega
    have HE0 := Lib.hid hE
    rw [hE]
    subst hdn
    clear hE e1 e2 e3 HSCC HLL
    have cc0 := (H.out.blk 1 rfl).cell 0; simp only [List.getElem?_toArray, List.getElem?_cons_zero, List.getElem?_cons_succ] at cc0
    go_wp2_with fail
    clear cc0
    replace H := Lib.hid (H.out.addNil 62 3); (try simp only [List.set_cons_zero, List.set_cons_succ, List.cons_append, List.nil_append, List.eraseIdx_cons_zero, List.eraseIdx_cons_succ, List.setIfInBounds_toArray, World.size_alloc, selR, List.getD_cons_zero, List.getD_cons_succ] at H)
    replace H := Lib.hid (H.out.add (Bel.refl _) (rList rScn []) (holds_list_nil _ _) list_nil_D); (try simp only [List.set_cons_zero, List.set_cons_succ, List.cons_append, List.nil_append, List.eraseIdx_cons_zero, List.eraseIdx_cons_succ, List.setIfInBounds_toArray, World.size_alloc, selR, List.getD_cons_zero, List.getD_cons_succ] at H)
    generalize w.heap.size + 1 = y at *
    generalize w.heap.size = x at *
    have HAC : Hid (([] : List Scn).map Scn.con = l.take 0) := rfl
    go_loopg [7, 19] dn (fun gg s7 i wr => ∃ (k : Nat) (acc : List Scn) (B : Option Addr) (cB : Nat), gg = dn - k ∧ k ≤ dn ∧ i = .int .i64 k ∧ s7 = .slice B k cB ∧ Hid (acc.length = k) ∧ Hid (SL No w wr [rBlk x 25 #[.slice DA dn dc, .slice MA mn mc], rBlk y 52 #[.slice A dn c], rRow 62 3 (.slice B k cB) k (acc.flatMap Cel.cells), rList rScn acc]) ∧ Hid (acc.map Scn.con = l.take k))
    case atStart => exact ⟨0, [], none, 0, rfl, by omega, rfl, rfl, rfl, H, HAC⟩
    case round =>
      clear H HAC
      obtain ⟨k, acc, B, cB, hgk, hk, rfl, rfl, hac, H, HAC⟩ := hrel
      have Hgk := Lib.hid hgk
      clear hgk
      by_cases hlt : k < dn
      · obtain ⟨b1, o1, D, hA, hb1, hDk, hDr, hrg1⟩ := (HD.out.mono H.out.to).dmAt (k := k) hlt
        simp only at hA
        subst hA
        obtain ⟨b2, o2, p, hB, hb2, hpk, hpr, hrg2⟩ := (HQ.out.mono H.out.to).pkAt (k := k) hlt
        simp only at hB
        subst hB
        obtain ⟨cc, hcc⟩ : ∃ cc, l[k]? = some cc := ⟨_, List.getElem?_eq_getElem (by have := HLen.out; omega)⟩
        have HSN := Lib.hid hcc
        have HW0 := Lib.hid (H.out.to)
        have HSC := Lib.hid (fun w' (hb : Bel wr w') => HSCD.out k D p cc hDk hpk hcc w' (HW0.out.trans hb) (hDr.mono hb) (hpr.mono hb))
        have HR1 := Lib.hid (fun w' (hb : Bel wr w') => rangeAt_bel hb1 hrg1 hb)
        have HR2 := Lib.hid hrg2
        have i0 : (0 : Int) ≤ k := by omega
        have i1 : (k : Int) < dn := by omega
        clear hDk hpk hrg1 hrg2 hDr hpr hb1 hb2 hcc HW0
        go_upto_region 8 with (first | ((with_reducible show wpList _ _ _ (⟨some 23, _, _, _, _, _⟩ :: _) _ _); (refine wpList_load_row_at rfl rowPk (.tmp 22) rfl b2 (o2 + k * 7) rfl p.cs rfl HR2.out ?_)) | ((with_reducible show wpList _ _ _ (⟨_, .store _ (.tmp 9) _, _, _, _, _⟩ :: _) _ _); (refine wpList_store_new rfl rowPk (.tmp 9) (.tmp 23) rfl rfl rfl (p.cs) rfl rfl (pk_one p) ?_; replace H := Lib.hid (H.out.alloc (p.cs) 59); (try simp only [List.set_cons_zero, List.set_cons_succ, List.cons_append, List.nil_append, List.eraseIdx_cons_zero, List.eraseIdx_cons_succ, List.setIfInBounds_toArray, World.size_alloc, selR, List.getD_cons_zero, List.getD_cons_succ] at H))))
        (try simp only [Act.put, List.setIfInBounds_toArray, List.set_cons_zero, List.set_cons_succ])
        have HB := Lib.hid ((Bel.refl wr).alloc (.cells p.cs 59))
        clear HR2
        generalize wr.heap.size = z at *
        generalize World.alloc wr _ = w5 at *
        refine wp_region_held_drew (S := fun _ => True) (by kernel_rfl) trivial (fun hHeld => ?_)
        replace H := Lib.hid (H.out.drew); (try simp only [List.set_cons_zero, List.set_cons_succ, List.cons_append, List.nil_append, List.eraseIdx_cons_zero, List.eraseIdx_cons_succ, List.setIfInBounds_toArray, World.size_alloc, selR, List.getD_cons_zero, List.getD_cons_succ] at H)
        refine wpAnyH_take (i := 0) (v := ?vq1_0) (get_o0) (by kernel_rfl) (by kernel_rfl) (by kernel_rfl) (by exact fun _ _ _ h => h) (Or.inl ⟨by rfl, ?hyq1_0⟩) (by assumption) ?_
        case hyq1_0 => (intro w hSw; (try dsimp only at hSw); go_simp) <;> with_reducible rfl
        try simp only [Act.put, List.setIfInBounds_toArray, List.set_cons_zero, List.set_cons_succ]
        refine wpAnyH_take (i := 1) (v := ?vq1_1) (get_os (get_o0)) (by kernel_rfl) (by kernel_rfl) (by kernel_rfl) (by exact fun _ _ _ h => h) (Or.inl ⟨by rfl, ?hyq1_1⟩) (by assumption) ?_
        case hyq1_1 => (intro w hSw; (try dsimp only at hSw); go_simp) <;> with_reducible rfl
        try simp only [Act.put, List.setIfInBounds_toArray, List.set_cons_zero, List.set_cons_succ]
        refine wpAnyH_take (i := 3) (v := ?vq1_3) (get_os (get_os (get_os (get_o0)))) (by kernel_rfl) (by kernel_rfl) (by kernel_rfl) (by exact fun _ _ _ h => h) (Or.inl ⟨by rfl, ?hyq1_3⟩) (by assumption) ?_
        case hyq1_3 => (intro w hSw; (try dsimp only at hSw); go_simp) <;> with_reducible rfl
        try simp only [Act.put, List.setIfInBounds_toArray, List.set_cons_zero, List.set_cons_succ]
        refine wpAnyH_ready (rs := [2, 6]) (by kernel_rfl) (by simp) ?_
        refine (AllReadyH.cons (get_os (get_os (get_o0))) (fun KK hKK => ?_) (AllReadyH.cons (get_os (get_os (get_os (get_os (get_os (get_os (get_o0))))))) (fun KK hKK => ?_) AllReadyH.nil))
        · have c1 := (H.out.blk 0 rfl).cell 0; simp only [List.getElem?_toArray, List.getElem?_cons_zero, List.getElem?_cons_succ] at c1
          go_simp
          clear c1
          refine hKK.out _ _ trivial (fun hHeld => ?_)
          clear hKK KK
          try simp only [Act.put, List.setIfInBounds_toArray, List.set_cons_zero, List.set_cons_succ]
          refine wpAnyH_ready (rs := [4, 6]) (by kernel_rfl) (by simp) ?_
          refine (AllReadyH.cons (get_os (get_os (get_os (get_os (get_o0))))) (fun KK hKK => ?_) (AllReadyH.cons (get_os (get_os (get_os (get_os (get_os (get_os (get_o0))))))) (fun KK hKK => ?_) AllReadyH.nil))
          · go_simp
            refine hKK.out _ _ trivial (fun hHeld => ?_)
            clear hKK KK
            try simp only [Act.put, List.setIfInBounds_toArray, List.set_cons_zero, List.set_cons_succ]
            refine wpAnyH_ready (rs := [5, 6]) (by kernel_rfl) (by simp) ?_
            refine (AllReadyH.cons (get_os (get_os (get_os (get_os (get_os (get_o0)))))) (fun KK hKK => ?_) (AllReadyH.cons (get_os (get_os (get_os (get_os (get_os (get_os (get_o0))))))) (fun KK hKK => ?_) AllReadyH.nil))
            · refine step_load_row rfl rowDm (.tmp 28) rfl b1 (o1 + k * 2) rfl D.cs (HR1.out _ HB.out.drew) rfl ?_
              refine hKK.out _ _ trivial (fun hHeld => ?_)
              clear hKK KK
              try simp only [Act.put, List.setIfInBounds_toArray, List.set_cons_zero, List.set_cons_succ]
              refine wpAnyH_ready (rs := [6]) (by kernel_rfl) (by simp) ?_
              refine (AllReadyH.cons (get_os (get_os (get_os (get_os (get_os (get_os (get_o0))))))) (fun KK hKK => ?_) AllReadyH.nil)
              refine step_load_blk rfl rowPk (.tmp 9) rfl _ rfl (H.out.blk 4 rfl) rfl ?_
              refine hKK.out _ _ trivial (fun hHeld => ?_)
              clear hKK KK
              try simp only [Act.put, List.setIfInBounds_toArray, List.set_cons_zero, List.set_cons_succ]
              refine wpAnyH_ready (rs := [7]) (by kernel_rfl) (by simp) ?_
              refine (AllReadyH.cons (get_os (get_os (get_os (get_os (get_os (get_os (get_os (get_o0)))))))) (fun KK hKK => ?_) AllReadyH.nil)
              go_simp
              refine (HSC.out _ HB.out.drew).mono ?_; rintro e' w3 ⟨X, rfl, hXc, hb3, hnew⟩
              replace H := Lib.hid (H.out.add hb3 (rScn X) hnew.1 hnew.2); (try simp only [List.set_cons_zero, List.set_cons_succ, List.cons_append, List.nil_append, List.eraseIdx_cons_zero, List.eraseIdx_cons_succ, List.setIfInBounds_toArray, World.size_alloc, selR, List.getD_cons_zero, List.getD_cons_succ] at H)
              have HXc := Lib.hid hXc
              clear hb3 hnew hXc
              refine hKK.out _ _ trivial (fun hHeld => ?_)
              clear hKK KK
              try simp only [Act.put, List.setIfInBounds_toArray, List.set_cons_zero, List.set_cons_succ]
              refine wpAnyH_ready (rs := [8]) (by kernel_rfl) (by simp) ?_
              refine (AllReadyH.cons (get_os (get_os (get_os (get_os (get_os (get_os (get_os (get_os (get_o0))))))))) (fun KK hKK => ?_) AllReadyH.nil)
              refine step_buildSlice1 rfl E_scn (.tmp 31) rfl (X.cs) rfl rfl (by omega) ?_
              replace H := Lib.hid (H.out.addRow ((Bel.refl _).alloc _) (own_made _ 62 (X.cs) _ rfl)); (try simp only [List.set_cons_zero, List.set_cons_succ, List.cons_append, List.nil_append, List.eraseIdx_cons_zero, List.eraseIdx_cons_succ, List.setIfInBounds_toArray, World.size_alloc, selR, List.getD_cons_zero, List.getD_cons_succ] at H)
              refine hKK.out _ _ trivial (fun hHeld => ?_)
              clear hKK KK
              try simp only [Act.put, List.setIfInBounds_toArray, List.set_cons_zero, List.set_cons_succ]
              refine wpAnyH_ready (rs := [9]) (by kernel_rfl) (by simp) ?_
              refine (AllReadyH.cons (get_os (get_os (get_os (get_os (get_os (get_os (get_os (get_os (get_os (get_o0)))))))))) (fun KK hKK => ?_) AllReadyH.nil)
              refine step_append0 rfl (.tmp 24) (.tmp 32) _ rfl E_scn 0 (Nat.zero_le _) _ k _ rfl (H.out.row 2 rfl) _ 1 1 _ rfl (Rd.of_own (H.out.row 6 rfl)) (scn1_one X) (by unfold maxLen; omega) (by omega) ?_
              intro vq wq howq hgq hatq
              replace H := Lib.hid (H.out.setRow 2 rfl hgq howq hatq); (try simp only [List.set_cons_zero, List.set_cons_succ, List.cons_append, List.nil_append, List.eraseIdx_cons_zero, List.eraseIdx_cons_succ, List.setIfInBounds_toArray, World.size_alloc, selR, List.getD_cons_zero, List.getD_cons_succ] at H)
              clear howq hgq hatq
              obtain ⟨A2, c2, rfl, _⟩ := own_slice (H.out.row 2 rfl)
              refine hKK.out _ _ trivial (fun hHeld => ?_)
              clear hKK KK
              try simp only [Act.put, List.setIfInBounds_toArray, List.set_cons_zero, List.set_cons_succ]
              refine wpAnyH_ready (rs := [10]) (by kernel_rfl) (by simp) ?_
              refine (AllReadyH.cons (get_ot (get_o0)) (fun KK hKK => ?_) AllReadyH.nil)
              go_simp
              refine hKK.out _ _ trivial (fun hHeld => ?_)
              clear hKK KK
              try simp only [Act.put, List.setIfInBounds_toArray, List.set_cons_zero, List.set_cons_succ]
              refine wpAnyH_done (by kernel_rfl) ?_ _
              clear hHeld
              replace H := Lib.hid (H.out.both 3 5 (by omega) rfl rfl (rList rScn (acc ++ [X])) (holds_list_snoc (H.out.get 3 rfl) (H.out.get 5 rfl)) list_snoc_D); (try simp only [List.set_cons_zero, List.set_cons_succ, List.cons_append, List.nil_append, List.eraseIdx_cons_zero, List.eraseIdx_cons_succ, List.setIfInBounds_toArray, World.size_alloc, selR, List.getD_cons_zero, List.getD_cons_succ] at H)
              replace H := Lib.hid (H.out.sel [0, 1, 2, 3] (by decide) (by simp)); (try simp only [List.set_cons_zero, List.set_cons_succ, List.cons_append, List.nil_append, List.eraseIdx_cons_zero, List.eraseIdx_cons_succ, List.setIfInBounds_toArray, World.size_alloc, selR, List.getD_cons_zero, List.getD_cons_succ] at H)
              clear HB
              go_wp2_with fail
              go_roundg (dn - (k + 1))
              case rel => exact ⟨k + 1, acc ++ [X], A2, c2, rfl, by omega, by go_num, rfl, by show _ = _; rw [List.length_append, hac.out]; rfl, by rw [List.flatMap_append, List.flatMap_cons, List.flatMap_nil, List.append_nil]; exact H, by show _ = _; rw [List.map_append, HAC.out, take_snoc_get HSN.out, List.map_cons, List.map_nil, HXc.out]⟩
              case measure => rw [Hgk.out]; omega
            · refine step_load_blk rfl rowPk (.tmp 9) rfl _ rfl (H.out.blk 4 rfl) rfl ?_
              refine hKK.out _ _ trivial (fun hHeld => ?_)
              clear hKK KK
              try simp only [Act.put, List.setIfInBounds_toArray, List.set_cons_zero, List.set_cons_succ]
              refine wpAnyH_ready (rs := [5]) (by kernel_rfl) (by simp) ?_
              refine (AllReadyH.cons (get_os (get_os (get_os (get_os (get_os (get_o0)))))) (fun KK hKK => ?_) AllReadyH.nil)
              refine step_load_row rfl rowDm (.tmp 28) rfl b1 (o1 + k * 2) rfl D.cs (HR1.out _ HB.out.drew) rfl ?_
              refine hKK.out _ _ trivial (fun hHeld => ?_)
              clear hKK KK
              try simp only [Act.put, List.setIfInBounds_toArray, List.set_cons_zero, List.set_cons_succ]
              refine wpAnyH_ready (rs := [7]) (by kernel_rfl) (by simp) ?_
              refine (AllReadyH.cons (get_os (get_os (get_os (get_os (get_os (get_os (get_os (get_o0)))))))) (fun KK hKK => ?_) AllReadyH.nil)
              go_simp
              refine (HSC.out _ HB.out.drew).mono ?_; rintro e' w3 ⟨X, rfl, hXc, hb3, hnew⟩
              replace H := Lib.hid (H.out.add hb3 (rScn X) hnew.1 hnew.2); (try simp only [List.set_cons_zero, List.set_cons_succ, List.cons_append, List.nil_append, List.eraseIdx_cons_zero, List.eraseIdx_cons_succ, List.setIfInBounds_toArray, World.size_alloc, selR, List.getD_cons_zero, List.getD_cons_succ] at H)
              have HXc := Lib.hid hXc
              clear hb3 hnew hXc
              refine hKK.out _ _ trivial (fun hHeld => ?_)
              clear hKK KK
              try simp only [Act.put, List.setIfInBounds_toArray, List.set_cons_zero, List.set_cons_succ]
              refine wpAnyH_ready (rs := [8]) (by kernel_rfl) (by simp) ?_
              refine (AllReadyH.cons (get_os (get_os (get_os (get_os (get_os (get_os (get_os (get_os (get_o0))))))))) (fun KK hKK => ?_) AllReadyH.nil)
              refine step_buildSlice1 rfl E_scn (.tmp 31) rfl (X.cs) rfl rfl (by omega) ?_
              replace H := Lib.hid (H.out.addRow ((Bel.refl _).alloc _) (own_made _ 62 (X.cs) _ rfl)); (try simp only [List.set_cons_zero, List.set_cons_succ, List.cons_append, List.nil_append, List.eraseIdx_cons_zero, List.eraseIdx_cons_succ, List.setIfInBounds_toArray, World.size_alloc, selR, List.getD_cons_zero, List.getD_cons_succ] at H)
              refine hKK.out _ _ trivial (fun hHeld => ?_)
              clear hKK KK
              try simp only [Act.put, List.setIfInBounds_toArray, List.set_cons_zero, List.set_cons_succ]
              refine wpAnyH_ready (rs := [9]) (by kernel_rfl) (by simp) ?_
              refine (AllReadyH.cons (get_os (get_os (get_os (get_os (get_os (get_os (get_os (get_os (get_os (get_o0)))))))))) (fun KK hKK => ?_) AllReadyH.nil)
              refine step_append0 rfl (.tmp 24) (.tmp 32) _ rfl E_scn 0 (Nat.zero_le _) _ k _ rfl (H.out.row 2 rfl) _ 1 1 _ rfl (Rd.of_own (H.out.row 6 rfl)) (scn1_one X) (by unfold maxLen; omega) (by omega) ?_
              intro vq wq howq hgq hatq
              replace H := Lib.hid (H.out.setRow 2 rfl hgq howq hatq); (try simp only [List.set_cons_zero, List.set_cons_succ, List.cons_append, List.nil_append, List.eraseIdx_cons_zero, List.eraseIdx_cons_succ, List.setIfInBounds_toArray, World.size_alloc, selR, List.getD_cons_zero, List.getD_cons_succ] at H)
              clear howq hgq hatq
              obtain ⟨A2, c2, rfl, _⟩ := own_slice (H.out.row 2 rfl)
              refine hKK.out _ _ trivial (fun hHeld => ?_)
              clear hKK KK
              try simp only [Act.put, List.setIfInBounds_toArray, List.set_cons_zero, List.set_cons_succ]
              refine wpAnyH_ready (rs := [10]) (by kernel_rfl) (by simp) ?_
              refine (AllReadyH.cons (get_ot (get_o0)) (fun KK hKK => ?_) AllReadyH.nil)
              go_simp
              refine hKK.out _ _ trivial (fun hHeld => ?_)
              clear hKK KK
              try simp only [Act.put, List.setIfInBounds_toArray, List.set_cons_zero, List.set_cons_succ]
              refine wpAnyH_done (by kernel_rfl) ?_ _
              clear hHeld
              replace H := Lib.hid (H.out.both 3 5 (by omega) rfl rfl (rList rScn (acc ++ [X])) (holds_list_snoc (H.out.get 3 rfl) (H.out.get 5 rfl)) list_snoc_D); (try simp only [List.set_cons_zero, List.set_cons_succ, List.cons_append, List.nil_append, List.eraseIdx_cons_zero, List.eraseIdx_cons_succ, List.setIfInBounds_toArray, World.size_alloc, selR, List.getD_cons_zero, List.getD_cons_succ] at H)
              replace H := Lib.hid (H.out.sel [0, 1, 2, 3] (by decide) (by simp)); (try simp only [List.set_cons_zero, List.set_cons_succ, List.cons_append, List.nil_append, List.eraseIdx_cons_zero, List.eraseIdx_cons_succ, List.setIfInBounds_toArray, World.size_alloc, selR, List.getD_cons_zero, List.getD_cons_succ] at H)
              clear HB
              go_wp2_with fail
              go_roundg (dn - (k + 1))
              case rel => exact ⟨k + 1, acc ++ [X], A2, c2, rfl, by omega, by go_num, rfl, by show _ = _; rw [List.length_append, hac.out]; rfl, by rw [List.flatMap_append, List.flatMap_cons, List.flatMap_nil, List.append_nil]; exact H, by show _ = _; rw [List.map_append, HAC.out, take_snoc_get HSN.out, List.map_cons, List.map_nil, HXc.out]⟩
              case measure => rw [Hgk.out]; omega
          · refine step_load_blk rfl rowPk (.tmp 9) rfl _ rfl (H.out.blk 4 rfl) rfl ?_
            refine hKK.out _ _ trivial (fun hHeld => ?_)
            clear hKK KK
            try simp only [Act.put, List.setIfInBounds_toArray, List.set_cons_zero, List.set_cons_succ]
            refine wpAnyH_ready (rs := [4]) (by kernel_rfl) (by simp) ?_
            refine (AllReadyH.cons (get_os (get_os (get_os (get_os (get_o0))))) (fun KK hKK => ?_) AllReadyH.nil)
            go_simp
            refine hKK.out _ _ trivial (fun hHeld => ?_)
            clear hKK KK
            try simp only [Act.put, List.setIfInBounds_toArray, List.set_cons_zero, List.set_cons_succ]
            refine wpAnyH_ready (rs := [5]) (by kernel_rfl) (by simp) ?_
            refine (AllReadyH.cons (get_os (get_os (get_os (get_os (get_os (get_o0)))))) (fun KK hKK => ?_) AllReadyH.nil)
            refine step_load_row rfl rowDm (.tmp 28) rfl b1 (o1 + k * 2) rfl D.cs (HR1.out _ HB.out.drew) rfl ?_
            refine hKK.out _ _ trivial (fun hHeld => ?_)
            clear hKK KK
            try simp only [Act.put, List.setIfInBounds_toArray, List.set_cons_zero, List.set_cons_succ]
            refine wpAnyH_ready (rs := [7]) (by kernel_rfl) (by simp) ?_
            refine (AllReadyH.cons (get_os (get_os (get_os (get_os (get_os (get_os (get_os (get_o0)))))))) (fun KK hKK => ?_) AllReadyH.nil)
            go_simp
            refine (HSC.out _ HB.out.drew).mono ?_; rintro e' w3 ⟨X, rfl, hXc, hb3, hnew⟩
            replace H := Lib.hid (H.out.add hb3 (rScn X) hnew.1 hnew.2); (try simp only [List.set_cons_zero, List.set_cons_succ, List.cons_append, List.nil_append, List.eraseIdx_cons_zero, List.eraseIdx_cons_succ, List.setIfInBounds_toArray, World.size_alloc, selR, List.getD_cons_zero, List.getD_cons_succ] at H)
            have HXc := Lib.hid hXc
            clear hb3 hnew hXc
            refine hKK.out _ _ trivial (fun hHeld => ?_)
            clear hKK KK
            try simp only [Act.put, List.setIfInBounds_toArray, List.set_cons_zero, List.set_cons_succ]
            refine wpAnyH_ready (rs := [8]) (by kernel_rfl) (by simp) ?_
            refine (AllReadyH.cons (get_os (get_os (get_os (get_os (get_os (get_os (get_os (get_os (get_o0))))))))) (fun KK hKK => ?_) AllReadyH.nil)
            refine step_buildSlice1 rfl E_scn (.tmp 31) rfl (X.cs) rfl rfl (by omega) ?_
            replace H := Lib.hid (H.out.addRow ((Bel.refl _).alloc _) (own_made _ 62 (X.cs) _ rfl)); (try simp only [List.set_cons_zero, List.set_cons_succ, List.cons_append, List.nil_append, List.eraseIdx_cons_zero, List.eraseIdx_cons_succ, List.setIfInBounds_toArray, World.size_alloc, selR, List.getD_cons_zero, List.getD_cons_succ] at H)
            refine hKK.out _ _ trivial (fun hHeld => ?_)
            clear hKK KK
            try simp only [Act.put, List.setIfInBounds_toArray, List.set_cons_zero, List.set_cons_succ]
            refine wpAnyH_ready (rs := [9]) (by kernel_rfl) (by simp) ?_
            refine (AllReadyH.cons (get_os (get_os (get_os (get_os (get_os (get_os (get_os (get_os (get_os (get_o0)))))))))) (fun KK hKK => ?_) AllReadyH.nil)
            refine step_append0 rfl (.tmp 24) (.tmp 32) _ rfl E_scn 0 (Nat.zero_le _) _ k _ rfl (H.out.row 2 rfl) _ 1 1 _ rfl (Rd.of_own (H.out.row 6 rfl)) (scn1_one X) (by unfold maxLen; omega) (by omega) ?_
            intro vq wq howq hgq hatq
            replace H := Lib.hid (H.out.setRow 2 rfl hgq howq hatq); (try simp only [List.set_cons_zero, List.set_cons_succ, List.cons_append, List.nil_append, List.eraseIdx_cons_zero, List.eraseIdx_cons_succ, List.setIfInBounds_toArray, World.size_alloc, selR, List.getD_cons_zero, List.getD_cons_succ] at H)
            clear howq hgq hatq
            obtain ⟨A2, c2, rfl, _⟩ := own_slice (H.out.row 2 rfl)
            refine hKK.out _ _ trivial (fun hHeld => ?_)
            clear hKK KK
            try simp only [Act.put, List.setIfInBounds_toArray, List.set_cons_zero, List.set_cons_succ]
            refine wpAnyH_ready (rs := [10]) (by kernel_rfl) (by simp) ?_
            refine (AllReadyH.cons (get_ot (get_o0)) (fun KK hKK => ?_) AllReadyH.nil)
            go_simp
            refine hKK.out _ _ trivial (fun hHeld => ?_)
            clear hKK KK
            try simp only [Act.put, List.setIfInBounds_toArray, List.set_cons_zero, List.set_cons_succ]
            refine wpAnyH_done (by kernel_rfl) ?_ _
            clear hHeld
            replace H := Lib.hid (H.out.both 3 5 (by omega) rfl rfl (rList rScn (acc ++ [X])) (holds_list_snoc (H.out.get 3 rfl) (H.out.get 5 rfl)) list_snoc_D); (try simp only [List.set_cons_zero, List.set_cons_succ, List.cons_append, List.nil_append, List.eraseIdx_cons_zero, List.eraseIdx_cons_succ, List.setIfInBounds_toArray, World.size_alloc, selR, List.getD_cons_zero, List.getD_cons_succ] at H)
            replace H := Lib.hid (H.out.sel [0, 1, 2, 3] (by decide) (by simp)); (try simp only [List.set_cons_zero, List.set_cons_succ, List.cons_append, List.nil_append, List.eraseIdx_cons_zero, List.eraseIdx_cons_succ, List.setIfInBounds_toArray, World.size_alloc, selR, List.getD_cons_zero, List.getD_cons_succ] at H)
            clear HB
            go_wp2_with fail
            go_roundg (dn - (k + 1))
            case rel => exact ⟨k + 1, acc ++ [X], A2, c2, rfl, by omega, by go_num, rfl, by show _ = _; rw [List.length_append, hac.out]; rfl, by rw [List.flatMap_append, List.flatMap_cons, List.flatMap_nil, List.append_nil]; exact H, by show _ = _; rw [List.map_append, HAC.out, take_snoc_get HSN.out, List.map_cons, List.map_nil, HXc.out]⟩
            case measure => rw [Hgk.out]; omega
        · refine step_load_blk rfl rowPk (.tmp 9) rfl _ rfl (H.out.blk 4 rfl) rfl ?_
          refine hKK.out _ _ trivial (fun hHeld => ?_)
          clear hKK KK
          try simp only [Act.put, List.setIfInBounds_toArray, List.set_cons_zero, List.set_cons_succ]
          refine wpAnyH_ready (rs := [2]) (by kernel_rfl) (by simp) ?_
          refine (AllReadyH.cons (get_os (get_os (get_o0))) (fun KK hKK => ?_) AllReadyH.nil)
          have c1 := (H.out.blk 0 rfl).cell 0; simp only [List.getElem?_toArray, List.getElem?_cons_zero, List.getElem?_cons_succ] at c1
          go_simp
          clear c1
          refine hKK.out _ _ trivial (fun hHeld => ?_)
          clear hKK KK
          try simp only [Act.put, List.setIfInBounds_toArray, List.set_cons_zero, List.set_cons_succ]
          refine wpAnyH_ready (rs := [4]) (by kernel_rfl) (by simp) ?_
          refine (AllReadyH.cons (get_os (get_os (get_os (get_os (get_o0))))) (fun KK hKK => ?_) AllReadyH.nil)
          go_simp
          refine hKK.out _ _ trivial (fun hHeld => ?_)
          clear hKK KK
          try simp only [Act.put, List.setIfInBounds_toArray, List.set_cons_zero, List.set_cons_succ]
          refine wpAnyH_ready (rs := [5]) (by kernel_rfl) (by simp) ?_
          refine (AllReadyH.cons (get_os (get_os (get_os (get_os (get_os (get_o0)))))) (fun KK hKK => ?_) AllReadyH.nil)
          refine step_load_row rfl rowDm (.tmp 28) rfl b1 (o1 + k * 2) rfl D.cs (HR1.out _ HB.out.drew) rfl ?_
          refine hKK.out _ _ trivial (fun hHeld => ?_)
          clear hKK KK
          try simp only [Act.put, List.setIfInBounds_toArray, List.set_cons_zero, List.set_cons_succ]
          refine wpAnyH_ready (rs := [7]) (by kernel_rfl) (by simp) ?_
          refine (AllReadyH.cons (get_os (get_os (get_os (get_os (get_os (get_os (get_os (get_o0)))))))) (fun KK hKK => ?_) AllReadyH.nil)
          go_simp
          refine (HSC.out _ HB.out.drew).mono ?_; rintro e' w3 ⟨X, rfl, hXc, hb3, hnew⟩
          replace H := Lib.hid (H.out.add hb3 (rScn X) hnew.1 hnew.2); (try simp only [List.set_cons_zero, List.set_cons_succ, List.cons_append, List.nil_append, List.eraseIdx_cons_zero, List.eraseIdx_cons_succ, List.setIfInBounds_toArray, World.size_alloc, selR, List.getD_cons_zero, List.getD_cons_succ] at H)
          have HXc := Lib.hid hXc
          clear hb3 hnew hXc
          refine hKK.out _ _ trivial (fun hHeld => ?_)
          clear hKK KK
          try simp only [Act.put, List.setIfInBounds_toArray, List.set_cons_zero, List.set_cons_succ]
          refine wpAnyH_ready (rs := [8]) (by kernel_rfl) (by simp) ?_
          refine (AllReadyH.cons (get_os (get_os (get_os (get_os (get_os (get_os (get_os (get_os (get_o0))))))))) (fun KK hKK => ?_) AllReadyH.nil)
          refine step_buildSlice1 rfl E_scn (.tmp 31) rfl (X.cs) rfl rfl (by omega) ?_
          replace H := Lib.hid (H.out.addRow ((Bel.refl _).alloc _) (own_made _ 62 (X.cs) _ rfl)); (try simp only [List.set_cons_zero, List.set_cons_succ, List.cons_append, List.nil_append, List.eraseIdx_cons_zero, List.eraseIdx_cons_succ, List.setIfInBounds_toArray, World.size_alloc, selR, List.getD_cons_zero, List.getD_cons_succ] at H)
          refine hKK.out _ _ trivial (fun hHeld => ?_)
          clear hKK KK
          try simp only [Act.put, List.setIfInBounds_toArray, List.set_cons_zero, List.set_cons_succ]
          refine wpAnyH_ready (rs := [9]) (by kernel_rfl) (by simp) ?_
          refine (AllReadyH.cons (get_os (get_os (get_os (get_os (get_os (get_os (get_os (get_os (get_os (get_o0)))))))))) (fun KK hKK => ?_) AllReadyH.nil)
          refine step_append0 rfl (.tmp 24) (.tmp 32) _ rfl E_scn 0 (Nat.zero_le _) _ k _ rfl (H.out.row 2 rfl) _ 1 1 _ rfl (Rd.of_own (H.out.row 6 rfl)) (scn1_one X) (by unfold maxLen; omega) (by omega) ?_
          intro vq wq howq hgq hatq
          replace H := Lib.hid (H.out.setRow 2 rfl hgq howq hatq); (try simp only [List.set_cons_zero, List.set_cons_succ, List.cons_append, List.nil_append, List.eraseIdx_cons_zero, List.eraseIdx_cons_succ, List.setIfInBounds_toArray, World.size_alloc, selR, List.getD_cons_zero, List.getD_cons_succ] at H)
          clear howq hgq hatq
          obtain ⟨A2, c2, rfl, _⟩ := own_slice (H.out.row 2 rfl)
          refine hKK.out _ _ trivial (fun hHeld => ?_)
          clear hKK KK
          try simp only [Act.put, List.setIfInBounds_toArray, List.set_cons_zero, List.set_cons_succ]
          refine wpAnyH_ready (rs := [10]) (by kernel_rfl) (by simp) ?_
          refine (AllReadyH.cons (get_ot (get_o0)) (fun KK hKK => ?_) AllReadyH.nil)
          go_simp
          refine hKK.out _ _ trivial (fun hHeld => ?_)
          clear hKK KK
          try simp only [Act.put, List.setIfInBounds_toArray, List.set_cons_zero, List.set_cons_succ]
          refine wpAnyH_done (by kernel_rfl) ?_ _
          clear hHeld
          replace H := Lib.hid (H.out.both 3 5 (by omega) rfl rfl (rList rScn (acc ++ [X])) (holds_list_snoc (H.out.get 3 rfl) (H.out.get 5 rfl)) list_snoc_D); (try simp only [List.set_cons_zero, List.set_cons_succ, List.cons_append, List.nil_append, List.eraseIdx_cons_zero, List.eraseIdx_cons_succ, List.setIfInBounds_toArray, World.size_alloc, selR, List.getD_cons_zero, List.getD_cons_succ] at H)
          replace H := Lib.hid (H.out.sel [0, 1, 2, 3] (by decide) (by simp)); (try simp only [List.set_cons_zero, List.set_cons_succ, List.cons_append, List.nil_append, List.eraseIdx_cons_zero, List.eraseIdx_cons_succ, List.setIfInBounds_toArray, World.size_alloc, selR, List.getD_cons_zero, List.getD_cons_succ] at H)
          clear HB
          go_wp2_with fail
          go_roundg (dn - (k + 1))
          case rel => exact ⟨k + 1, acc ++ [X], A2, c2, rfl, by omega, by go_num, rfl, by show _ = _; rw [List.length_append, hac.out]; rfl, by rw [List.flatMap_append, List.flatMap_cons, List.flatMap_nil, List.append_nil]; exact H, by show _ = _; rw [List.map_append, HAC.out, take_snoc_get HSN.out, List.map_cons, List.map_nil, HXc.out]⟩
          case measure => rw [Hgk.out]; omega
      · have HN : Hid (acc.map Scn.con = l) := by show _ = _; rw [HAC.out, List.take_of_length_le (by have := HLen.out; omega)]
        obtain rfl : k = dn := by omega
        replace H := Lib.hid (H.out.both 2 3 (by omega) rfl rfl (rScns ⟨B, k, cB, acc⟩) (holds_scns (H.out.get 2 rfl) (H.out.get 3 rfl) hn16) (fun g hg => hg)); (try simp only [List.set_cons_zero, List.set_cons_succ, List.cons_append, List.nil_append, List.eraseIdx_cons_zero, List.eraseIdx_cons_succ, List.setIfInBounds_toArray, World.size_alloc, selR, List.getD_cons_zero, List.getD_cons_succ] at H)
        go_wp2
        go_ret2
        (try rw [HE0.out])
        exact ⟨⟨B, k, cB, acc⟩, rfl, by rw [if_pos rfl]; exact HN.out, H.out.to, H.out.get 2 rfl, H.out.new 2 rfl⟩
  · have z1 : (askErr ⟨ds.map Dm.con, ms⟩ (ps.map Pk.con) != 0) = true := by simpa using hE
    have z2 : (askErr ⟨ds.map Dm.con, ms⟩ (ps.map Pk.con) == 0) = false := by simpa using hE
    have HE := Lib.hid hE
    clear hE HSCC HLL
    go_wp2
    go_ret2
    exact ⟨⟨none, 0, 0, []⟩, rfl, by rw [if_neg HE.out]; rfl, H.out.to, holds_scns_nil _, scns_nil_new⟩

end Go.Proofs.Ytelnhhbefdfeoaa
