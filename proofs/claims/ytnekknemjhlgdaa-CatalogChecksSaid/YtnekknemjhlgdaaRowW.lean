/- Rows: how they lie in memory; schema.Row, and the document's. -/
import Derived.Test.YtnekknemjhlgdaaFindT
import Derived.Test.YtnekknemjhlgdaaSchX
namespace Go.Proofs.Ytnekknemjhlgdaa
open Go.RowKit Go.ChangeShapes Go.WideShapes Go.Deep
set_option linter.unusedVariables false
set_option linter.unusedSimpArgs false

/-- A row. -/
structure Rw where
  ts : Row (List UInt8)
  vs : Row Int
abbrev Rw.cs (r : Rw) : Array Value := #[.slice r.ts.A r.ts.n r.ts.c, .slice r.vs.A r.vs.n r.vs.c]
structure Rw.rd (w : World) (r : Rw) : Prop where
  ts : r.ts.rd w
  vs : r.vs.rd w
theorem Rw.rd.mono {w w' : World} {s : Rw} (h : s.rd w) (hb : Bel w w') : s.rd w' := ⟨h.ts.mono hb, h.vs.mono hb⟩
instance instCelRw : Cel Rw where
  size := 2
  bytes := 48
  cells s := s.cs.toList
  ok w s := s.rd w
  len _ := rfl
  pos := by omega
  mono hb h := h.mono hb
structure RC where
  ts : List (List UInt8)
  vs : List Int
deriving DecidableEq
abbrev Rw.con (r : Rw) : RC := ⟨r.ts.l, r.vs.l⟩
theorem rw_one (r : Rw) : r.cs.all (·.oneCell') = true := by simp [Value.oneCell']
theorem rowRw : RowTy Try.prog 87 2 := ⟨⟨_, Try.underlying87, rfl⟩, by kernel_rfl⟩
theorem E_rw : ElemInfo Try.prog 73 87 2 48 := ElemInfo.mk' (z := .agg #[.slice none 0 0, .slice none 0 0]) Try.underlying73 (by kernel_rfl) rfl (by omega)
theorem E_i64 : ElemInfo Try.prog 85 2 1 8 := ElemInfo.mk' (z := .int .i64 0) Try.underlying85 (by kernel_rfl) rfl (by omega)
set_option maxRecDepth 100000 in
theorem c_rw : Try.prog.cellsOf 87 = 2 := by kernel_rfl
set_option maxRecDepth 100000 in
theorem c_i64 : Try.prog.cellsOf 2 = 1 := by kernel_rfl
set_option maxRecDepth 100000 in
theorem c_i64s : Try.prog.cellsOf 85 = 1 := by kernel_rfl
theorem opens_i64s : Opens Try.prog 85 (Row Int) := opens_row Try.underlying85 c_i64 (by kernel_rfl) (opens_i64 Try.underlying2)
theorem opens_rw : Opens Try.prog 87 Rw := by
  intro H enc w base spare held fuel cs x h hz
  have hl := struct_len Try.underlying87 h c_rw
  obtain ⟨a, ha, wa⟩ := field_of Try.underlying87 h hz 0 _ rfl opens_strs c_strs
  obtain ⟨b, hb, wb⟩ := field_of Try.underlying87 h hz 1 _ rfl opens_i64s c_i64s
  refine ⟨⟨a, b⟩, ?_, ⟨Row.ok.rds wa, Row.ok.rds wb⟩⟩
  match cs, hl with
  | [x0, x1], _ =>
    simp [Cel.cells, Row.v] at ha hb
    simp [Cel.cells, ha, hb]
set_option maxRecDepth 100000 in
theorem open_rws {H : Type} {enc : TypeId × Value → H} {w : World} {base b0 : Nat} {spare : Nat → Bool} {held : Bool} {r : Reach} {v : Value} {d : DataW H} {p : List MemPlace}
    (hv : Value.okWide Try.prog w r b0 73 v) (h : DataW.Trod enc Try.prog w base spare held 73 v d p) (hz : Sized Try.prog 73 d) : ∃ x : Row Rw, v = x.v ∧ x.rd w := by
  obtain ⟨x, hx, ho⟩ := open_row Try.underlying73 c_rw (by kernel_rfl) opens_rw hv h hz
  exact ⟨x, hx, ho.rds⟩
theorem Row.rd.rwAt {w : World} {x : Row Rw} (h : x.rd w) {k : Nat} (hk : k < x.n) : ∃ b o t, x.A = some ⟨b, o, none⟩ ∧ b < w.heap.size ∧ x.l[k]? = some t ∧ t.rd w ∧ w.rangeAt b (o + k * 2) t.cs.toList := by
  obtain ⟨b, o, t, e, hb, ht, hc⟩ := rd_range h.r hk
  exact ⟨b, o, t, e, hb, ht, h.all t (List.mem_of_getElem? ht), hc⟩
/-- The places of a row's members. -/
def rowKeys : List DC → List (List UInt8) → Except Int (List Int)
  | d :: ds, t :: ts =>
    match d.trs with
    | [] => .error 2
    | tr :: _ =>
      match posOf t tr.ts with
      | none => .error 13
      | some k =>
        match rowKeys ds ts with
        | .error e => .error e
        | .ok ks => .ok ((k : Int) :: ks)
  | _, _ => .ok []
def rowOf (s : SC) (r : RC) : Except Int (List Int) := if r.ts.length ≠ s.dims.length ∨ r.vs.length ≠ s.ms.length then .error 2 else rowKeys s.dims r.ts
def aheadK (acc : List Int) (o : Except Int (List Int)) : Except Int (List Int) := match o with | .error e => .error e | .ok ks => .ok (acc ++ ks)
theorem aheadK_nil (o : Except Int (List Int)) : aheadK [] o = o := by cases o <;> rfl
theorem aheadK_step {acc : List Int} {k : Int} {o : Except Int (List Int)} : aheadK acc (match o with | .error e => .error e | .ok ks => .ok (k :: ks)) = aheadK (acc ++ [k]) o := by cases o <;> simp [aheadK]
theorem rowKeys_drop {ds : List DC} {ts : List (List UInt8)} {k : Nat} {d : DC} {t : List UInt8} (hd : ds[k]? = some d) (ht : ts[k]? = some t) : rowKeys (ds.drop k) (ts.drop k) = match d.trs with | [] => .error 2 | tr :: _ => match posOf t tr.ts with | none => .error 13 | some p => match rowKeys (ds.drop (k + 1)) (ts.drop (k + 1)) with | .error e => .error e | .ok ks => .ok ((p : Int) :: ks) := by
  obtain ⟨h1, rfl⟩ := List.getElem?_eq_some_iff.1 hd
  obtain ⟨h2, rfl⟩ := List.getElem?_eq_some_iff.1 ht
  rw [List.drop_eq_getElem_cons h1, List.drop_eq_getElem_cons h2, rowKeys]
theorem rowKeys_drop0 {ds : List DC} {ts : List (List UInt8)} {k : Nat} {d : DC} {t : List UInt8} (hd : ds[k]? = some d) (ht : ts[k]? = some t) (h : d.trs = []) : rowKeys (ds.drop k) (ts.drop k) = .error 2 := by rw [rowKeys_drop hd ht, h]
theorem rowKeys_drop1 {ds : List DC} {ts : List (List UInt8)} {k : Nat} {d : DC} {t : List UInt8} {tr : TC} {r : List TC} (hd : ds[k]? = some d) (ht : ts[k]? = some t) (h : d.trs = tr :: r) : rowKeys (ds.drop k) (ts.drop k) = match posOf t tr.ts with | none => .error 13 | some p => match rowKeys (ds.drop (k + 1)) (ts.drop (k + 1)) with | .error e => .error e | .ok ks => .ok ((p : Int) :: ks) := by rw [rowKeys_drop hd ht, h]
/-- How Row ends. -/
def RowPost (o : Except Int (List Int)) (w : World) (e : Ending) (w' : World) : Prop :=
  match o with
  | .error k => e = .returned (.tuple #[.slice none 0 0, .int .i64 k]) ∧ Bel w w'
  | .ok ks => ∃ (A : Option Addr) (c : Nat), e = .returned (.tuple #[.slice A ks.length c, .int .i64 0]) ∧ Bel w w' ∧ w'.ownsRow w.heap.size 3 1 (.slice A ks.length c) ks.length (ks.map (Value.int .i64))

set_option maxRecDepth 100000 in
set_option maxHeartbeats 2000000 in
theorem schrow_any (s : Sch) (r : Rw) (w : World) (hs : s.rd w) (hrw : r.rd w) (hn : s.dm.n ≤ 1000000) (hr : ∀ d ∈ s.dm.l, ∀ t ∈ d.tr.l, RiseT t.ts.l ∧ t.ts.n ≤ 1000000) :
    Calls Try.prog 166 #[.agg s.cs, .agg r.cs] w (RowPost (rowOf s.con r.con) w) := by
  have hl1 : Hid (s.dm.l.length = s.dm.n) := hs.dm.len
  have hl2 : Hid (s.ms.l.length = s.ms.n) := hs.ms.len
  have hl3 : Hid (r.ts.l.length = r.ts.n) := hrw.ts.len
  have hl4 : Hid (r.vs.l.length = r.vs.n) := hrw.vs.len
  have HD := Lib.hid hs.dm
  have HT := Lib.hid hrw.ts
  have HRI := Lib.hid hr
  have n63 := hs.dm.n63
  have m63 := hrw.vs.n63
  have t63 := hrw.ts.n63
  have e63 := hs.ms.n63
  have H := Lib.hid (((SL.start No w).alloc s.cs 25).alloc r.cs 87)
  (try simp only [List.set_cons_zero, List.set_cons_succ, List.cons_append, List.nil_append, List.eraseIdx_cons_zero, List.eraseIdx_cons_succ, List.setIfInBounds_toArray, World.size_alloc, selR, List.getD_cons_zero, List.getD_cons_succ] at H)
  obtain ⟨⟨A, n, c, ds⟩, ⟨A2, n2, c2, ms⟩⟩ := s
  obtain ⟨⟨A3, n3, c3, ts⟩, ⟨A4, n4, c4, vs⟩⟩ := r
  simp only [Sch.cs, Sch.con, Rw.cs, Rw.con] at *
  clear hs hrw hr
  go_enter Try.func166, Try.ntmps166
  have cc0 := (H.out.blk 0 rfl).cell 0; simp only [List.getElem?_toArray, List.getElem?_cons_zero, List.getElem?_cons_succ] at cc0
  have cc1 := (H.out.blk 1 rfl).cell 0; simp only [List.getElem?_toArray, List.getElem?_cons_zero, List.getElem?_cons_succ] at cc1
  have cc5 := (H.out.blk 0 rfl).cell 1; simp only [List.getElem?_toArray, List.getElem?_cons_zero, List.getElem?_cons_succ] at cc5
  have cc6 := (H.out.blk 1 rfl).cell 1; simp only [List.getElem?_toArray, List.getElem?_cons_zero, List.getElem?_cons_succ] at cc6
  by_cases h1 : n3 = n
  · subst h1
    by_cases h2 : n4 = n2
    · subst h2
      have HE : Hid (rowOf ⟨ds.map Dm.con, ms⟩ ⟨ts, vs⟩ = aheadK [] (rowKeys ((ds.map Dm.con).drop 0) (ts.drop 0))) := by
        show _ = _
        unfold rowOf
        rw [if_neg (by have := hl1.out; have := hl2.out; have := hl3.out; have := hl4.out; simp; omega), aheadK_nil]
        rfl
      go_wp2_with fail
      clear cc0 cc1 cc5 cc6
      generalize w.heap.size + 1 = y at *
      generalize w.heap.size = x at *
      replace H := Lib.hid (H.out.addNil 3 1); (try simp only [List.set_cons_zero, List.set_cons_succ, List.cons_append, List.nil_append, List.eraseIdx_cons_zero, List.eraseIdx_cons_succ, List.setIfInBounds_toArray, World.size_alloc, selR, List.getD_cons_zero, List.getD_cons_succ] at H)
      generalize World.alloc _ _ = w1 at *
      go_loopg [6, 30] n3 (fun gg s6 si wr => ∃ (k : Nat) (ks : List Int) (B : Option Addr) (d : Nat), gg = n3 - k ∧ k ≤ n3 ∧ si = .int .i64 k ∧ s6 = .slice B k d ∧ Hid (ks.length = k) ∧ Hid (SL No w wr [rBlk x 25 #[.slice A n3 c, .slice A2 n4 c2], rBlk y 87 #[.slice A3 n3 c3, .slice A4 n4 c4], rRow 3 1 (.slice B k d) k (ks.map (Value.int .i64))]) ∧ Hid (rowOf ⟨ds.map Dm.con, ms⟩ ⟨ts, vs⟩ = aheadK ks (rowKeys ((ds.map Dm.con).drop k) (ts.drop k))))
      case atStart => exact ⟨0, [], none, 0, rfl, by omega, rfl, rfl, rfl, H, HE⟩
      case round =>
        clear H HE
        obtain ⟨k, ks, B, d, hgk, hk, rfl, rfl, hkc, H, HE⟩ := hrel
        have Hgk := Lib.hid hgk
        clear hgk
        by_cases hlt : k < n3
        · obtain ⟨b1, o1, D, hA, hb1, hDk, hDr, hrg⟩ := (HD.out.mono H.out.to).dmAt (k := k) hlt
          simp only at hA
          subst hA
          obtain ⟨b3, o3, t, hA3, htk, htl, q3⟩ := (HT.out.mono H.out.to).textAt (k := k) hlt
          simp only at hA3
          subst hA3
          have hDc : (ds.map Dm.con)[k]? = some D.con := by rw [List.getElem?_map, hDk]; rfl
          have HDc := Lib.hid hDc
          have HTk : Hid (ts[k]? = some t) := htk
          have HDK := Lib.hid hDk
          have q1 := hrg 1 _ rfl
          have htrl : Hid (D.tr.l.length = D.tr.n) := hDr.tr.len
          have HDR := Lib.hid hDr
          have D63 := hDr.tr.n63
          have i0 : (0 : Int) ≤ k := by omega
          have i1 : (k : Int) < n3 := by omega
          have cc0 := (H.out.blk 0 rfl).cell 0; simp only [List.getElem?_toArray, List.getElem?_cons_zero, List.getElem?_cons_succ] at cc0
          have cc1 := (H.out.blk 1 rfl).cell 0; simp only [List.getElem?_toArray, List.getElem?_cons_zero, List.getElem?_cons_succ] at cc1
          clear hDk hrg hDc htk hDr hb1
          by_cases hz : D.tr.n = 0
          · have HN : Hid (rowOf ⟨ds.map Dm.con, ms⟩ ⟨ts, vs⟩ = .error 2) := by
              show _ = _
              rw [HE.out, rowKeys_drop0 HDc.out HTk.out (by show D.tr.l.map Tir.con = []; rw [List.eq_nil_of_length_eq_zero (l := D.tr.l) (by rw [htrl.out]; exact hz)]; rfl)]
              rfl
            have z1 : ((D.tr.n : Int) == 0) = true := by simp [hz]
            have z2 : (D.tr.n == 0) = true := by simp [hz]
            clear HE HDc HTk
            rw [hz] at q1
            clear hz z1 z2
            go_wp2
            go_ret2
            rw [HN.out]
            exact ⟨rfl, H.out.to⟩
          · have z1 : ((D.tr.n : Int) == 0) = false := by simp <;> omega
            have z2 : (D.tr.n == 0) = false := by simp <;> omega
            obtain ⟨b2, o2, T, hT, hb2, hT0, hTr, hrg2⟩ := HDR.out.tr.tirAt (k := 0) (by omega)
            have q2 := hrg2 1 _ rfl
            simp only [Nat.zero_mul, Nat.add_zero] at q2
            rw [hT] at q1
            have j1 : (0 : Int) < D.tr.n := by omega
            have hT0c : (D.tr.l.map Tir.con) = T.con :: (D.tr.l.map Tir.con).tail := by
              cases hl : D.tr.l with
              | nil => rw [hl] at hT0; cases hT0
              | cons a r => rw [hl] at hT0; injection hT0 with hT0; subst hT0; rfl
            have HTC := Lib.hid hT0c
            have HTr := Lib.hid hTr.ts
            obtain ⟨hri, hTn⟩ := HRI.out D (List.mem_of_getElem? HDK.out) T (List.mem_of_getElem? hT0)
            have HRi := Lib.hid hri
            clear hri
            clear hT hT0 hTr hrg2 hT0c hb2
            go_wp2_with fail
            refine (tfind_any T.ts t _ HTr.out HRi.out hTn).mono ?_; rintro e w5 ⟨p, fb, rfl, rfl, hF⟩
            clear cc0 cc1 q1 q2 q3
            cases fb with
            | false =>
              have HN : Hid (rowOf ⟨ds.map Dm.con, ms⟩ ⟨ts, vs⟩ = .error 13) := by show _ = _; rw [HE.out, rowKeys_drop1 HDc.out HTk.out (show D.con.trs = _ from HTC.out)]; show aheadK ks (match posOf t T.ts.l with | none => _ | some k => _) = _; rw [hF.2.2 rfl]; rfl
              clear HE HDc HTk hF
              go_wp2
              go_ret2
              rw [HN.out]
              exact ⟨rfl, H.out.to⟩
            | true =>
              have HN : Hid (rowOf ⟨ds.map Dm.con, ms⟩ ⟨ts, vs⟩ = aheadK (ks ++ [(p : Int)]) (rowKeys ((ds.map Dm.con).drop (k + 1)) (ts.drop (k + 1)))) := by
                show _ = _
                rw [HE.out, rowKeys_drop1 HDc.out HTk.out (show D.con.trs = _ from HTC.out)]
                show aheadK ks (match posOf t T.ts.l with | none => _ | some k => _) = _
                rw [hF.2.1 rfl]
                exact aheadK_step
              clear HE HDc HTk hF
              go_wp2_with ((with_reducible show wpList _ _ _ (⟨some 62, _, _, _, _, _⟩ :: _) _ _); (replace H := Lib.hid (H.out.alloc #[.int .i64 (p : Nat)] 3); (try simp only [List.set_cons_zero, List.set_cons_succ, List.cons_append, List.nil_append, List.eraseIdx_cons_zero, List.eraseIdx_cons_succ, List.setIfInBounds_toArray, World.size_alloc, selR, List.getD_cons_zero, List.getD_cons_succ] at H); refine wpList_append0 rfl (.tmp 59) (.tmp 61) _ rfl E_num 0 (Nat.zero_le _) _ k _ rfl (H.out.row 2 rfl) _ 1 1 [.int .i64 (p : Nat)] rfl (reads_of_block (H.out.blk 3 rfl) rfl) (by simp [Value.oneCell']) (by unfold maxLen; omega) (by omega) ?_; intro vq wq howq hgq hatq; replace H := Lib.hid (H.out.setRow 2 rfl hgq howq hatq); (try simp only [List.set_cons_zero, List.set_cons_succ, List.cons_append, List.nil_append, List.eraseIdx_cons_zero, List.eraseIdx_cons_succ, List.setIfInBounds_toArray, World.size_alloc, selR, List.getD_cons_zero, List.getD_cons_succ] at H); clear howq hgq hatq; obtain ⟨A9, c9, rfl, _⟩ := own_slice (H.out.row 2 rfl)))
              replace H := Lib.hid (H.out.sel [0, 1, 2] (by decide) (by simp)); (try simp only [List.set_cons_zero, List.set_cons_succ, List.cons_append, List.nil_append, List.eraseIdx_cons_zero, List.eraseIdx_cons_succ, List.setIfInBounds_toArray, World.size_alloc, selR, List.getD_cons_zero, List.getD_cons_succ] at H)
              go_roundg (n3 - (k + 1))
              case rel => exact ⟨k + 1, ks ++ [(p : Int)], A9, c9, rfl, by omega, by go_num, rfl, by show _ = _; rw [List.length_append, hkc.out]; rfl, by rw [List.map_append]; exact H, HN⟩
              case measure => rw [Hgk.out]; omega
        · have HN : Hid (rowOf ⟨ds.map Dm.con, ms⟩ ⟨ts, vs⟩ = .ok ks) := by
            show _ = _
            rw [HE.out, List.drop_of_length_le (by have := hl1.out; simp; omega)]
            show aheadK ks (.ok []) = _
            unfold aheadK
            simp
          have hks := hkc.out
          clear HE
          go_wp2
          go_ret2
          rw [HN.out]
          refine ⟨B, d, ?_, H.out.to, ?_⟩
          · rw [hks]; rfl
          · rw [hks]; exact H.out.rowB 2 rfl
    · have HE : Hid (rowOf ⟨ds.map Dm.con, ms⟩ ⟨ts, vs⟩ = .error 2) := by show _ = _; unfold rowOf; rw [if_pos (.inr (by have := hl2.out; have := hl4.out; simp; omega))]
      have g1 : ((n4 : Int) != (n2 : Int)) = true := by simp <;> omega
      have g2 : (n4 != n2) = true := by simp <;> omega
      go_wp2
      go_ret2
      rw [HE.out]
      exact ⟨rfl, H.out.to⟩
  · have HE : Hid (rowOf ⟨ds.map Dm.con, ms⟩ ⟨ts, vs⟩ = .error 2) := by show _ = _; unfold rowOf; rw [if_pos (.inl (by have := hl1.out; have := hl3.out; simp; omega))]
    have g1 : ((n3 : Int) != (n : Int)) = true := by simp <;> omega
    have g2 : (n3 != n) = true := by simp <;> omega
    go_wp2
    go_ret2
    rw [HE.out]
    exact ⟨rfl, H.out.to⟩

set_option maxRecDepth 100000 in
set_option maxHeartbeats 2000000 in
theorem rrow2_any (s : Sch) (r : Rw) (w : World) (hs : s.rd w) (hrw : r.rd w) (hn : s.dm.n ≤ 1000000) :
    Calls Try.prog 105 #[.agg s.cs, .agg r.cs] w (RowPost (rowOf s.con r.con) w) := by
  have hl1 : Hid (s.dm.l.length = s.dm.n) := hs.dm.len
  have hl2 : Hid (s.ms.l.length = s.ms.n) := hs.ms.len
  have hl3 : Hid (r.ts.l.length = r.ts.n) := hrw.ts.len
  have hl4 : Hid (r.vs.l.length = r.vs.n) := hrw.vs.len
  have HD := Lib.hid hs.dm
  have HT := Lib.hid hrw.ts
  have n63 := hs.dm.n63
  have m63 := hrw.vs.n63
  have t63 := hrw.ts.n63
  have e63 := hs.ms.n63
  have H := Lib.hid (((SL.start No w).alloc s.cs 25).alloc r.cs 87)
  (try simp only [List.set_cons_zero, List.set_cons_succ, List.cons_append, List.nil_append, List.eraseIdx_cons_zero, List.eraseIdx_cons_succ, List.setIfInBounds_toArray, World.size_alloc, selR, List.getD_cons_zero, List.getD_cons_succ] at H)
  obtain ⟨⟨A, n, c, ds⟩, ⟨A2, n2, c2, ms⟩⟩ := s
  obtain ⟨⟨A3, n3, c3, ts⟩, ⟨A4, n4, c4, vs⟩⟩ := r
  simp only [Sch.cs, Sch.con, Rw.cs, Rw.con] at *
  clear hs hrw
  go_enter Try.func105, Try.ntmps105
  have cc0 := (H.out.blk 0 rfl).cell 0; simp only [List.getElem?_toArray, List.getElem?_cons_zero, List.getElem?_cons_succ] at cc0
  have cc1 := (H.out.blk 1 rfl).cell 0; simp only [List.getElem?_toArray, List.getElem?_cons_zero, List.getElem?_cons_succ] at cc1
  have cc5 := (H.out.blk 0 rfl).cell 1; simp only [List.getElem?_toArray, List.getElem?_cons_zero, List.getElem?_cons_succ] at cc5
  have cc6 := (H.out.blk 1 rfl).cell 1; simp only [List.getElem?_toArray, List.getElem?_cons_zero, List.getElem?_cons_succ] at cc6
  by_cases h1 : n3 = n
  · subst h1
    by_cases h2 : n4 = n2
    · subst h2
      have HE : Hid (rowOf ⟨ds.map Dm.con, ms⟩ ⟨ts, vs⟩ = aheadK [] (rowKeys ((ds.map Dm.con).drop 0) (ts.drop 0))) := by
        show _ = _
        unfold rowOf
        rw [if_neg (by have := hl1.out; have := hl2.out; have := hl3.out; have := hl4.out; simp; omega), aheadK_nil]
        rfl
      go_wp2_with fail
      clear cc0 cc1 cc5 cc6
      generalize w.heap.size + 1 = y at *
      generalize w.heap.size = x at *
      replace H := Lib.hid (H.out.addNil 3 1); (try simp only [List.set_cons_zero, List.set_cons_succ, List.cons_append, List.nil_append, List.eraseIdx_cons_zero, List.eraseIdx_cons_succ, List.setIfInBounds_toArray, World.size_alloc, selR, List.getD_cons_zero, List.getD_cons_succ] at H)
      generalize World.alloc _ _ = w1 at *
      go_loopg [6, 28] n3 (fun gg s6 si wr => ∃ (k : Nat) (ks : List Int) (B : Option Addr) (d : Nat), gg = n3 - k ∧ k ≤ n3 ∧ si = .int .i64 k ∧ s6 = .slice B k d ∧ Hid (ks.length = k) ∧ Hid (SL No w wr [rBlk x 25 #[.slice A n3 c, .slice A2 n4 c2], rBlk y 87 #[.slice A3 n3 c3, .slice A4 n4 c4], rRow 3 1 (.slice B k d) k (ks.map (Value.int .i64))]) ∧ Hid (rowOf ⟨ds.map Dm.con, ms⟩ ⟨ts, vs⟩ = aheadK ks (rowKeys ((ds.map Dm.con).drop k) (ts.drop k))))
      case atStart => exact ⟨0, [], none, 0, rfl, by omega, rfl, rfl, rfl, H, HE⟩
      case round =>
        clear H HE
        obtain ⟨k, ks, B, d, hgk, hk, rfl, rfl, hkc, H, HE⟩ := hrel
        have Hgk := Lib.hid hgk
        clear hgk
        by_cases hlt : k < n3
        · obtain ⟨b1, o1, D, hA, hb1, hDk, hDr, hrg⟩ := (HD.out.mono H.out.to).dmAt (k := k) hlt
          simp only at hA
          subst hA
          obtain ⟨b3, o3, t, hA3, htk, htl, q3⟩ := (HT.out.mono H.out.to).textAt (k := k) hlt
          simp only at hA3
          subst hA3
          have hDc : (ds.map Dm.con)[k]? = some D.con := by rw [List.getElem?_map, hDk]; rfl
          have HDc := Lib.hid hDc
          have HTk : Hid (ts[k]? = some t) := htk
          have HDK := Lib.hid hDk
          have q1 := hrg 1 _ rfl
          have htrl : Hid (D.tr.l.length = D.tr.n) := hDr.tr.len
          have HDR := Lib.hid hDr
          have D63 := hDr.tr.n63
          have i0 : (0 : Int) ≤ k := by omega
          have i1 : (k : Int) < n3 := by omega
          have cc0 := (H.out.blk 0 rfl).cell 0; simp only [List.getElem?_toArray, List.getElem?_cons_zero, List.getElem?_cons_succ] at cc0
          have cc1 := (H.out.blk 1 rfl).cell 0; simp only [List.getElem?_toArray, List.getElem?_cons_zero, List.getElem?_cons_succ] at cc1
          clear hDk hrg hDc htk hDr hb1
          by_cases hz : D.tr.n = 0
          · have HN : Hid (rowOf ⟨ds.map Dm.con, ms⟩ ⟨ts, vs⟩ = .error 2) := by
              show _ = _
              rw [HE.out, rowKeys_drop0 HDc.out HTk.out (by show D.tr.l.map Tir.con = []; rw [List.eq_nil_of_length_eq_zero (l := D.tr.l) (by rw [htrl.out]; exact hz)]; rfl)]
              rfl
            have z1 : ((D.tr.n : Int) == 0) = true := by simp [hz]
            have z2 : (D.tr.n == 0) = true := by simp [hz]
            clear HE HDc HTk
            rw [hz] at q1
            clear hz z1 z2
            go_wp2
            go_ret2
            rw [HN.out]
            exact ⟨rfl, H.out.to⟩
          · have z1 : ((D.tr.n : Int) == 0) = false := by simp <;> omega
            have z2 : (D.tr.n == 0) = false := by simp <;> omega
            obtain ⟨b2, o2, T, hT, hb2, hT0, hTr, hrg2⟩ := HDR.out.tr.tirAt (k := 0) (by omega)
            have q2 := hrg2 1 _ rfl
            simp only [Nat.zero_mul, Nat.add_zero] at q2
            rw [hT] at q1
            have j1 : (0 : Int) < D.tr.n := by omega
            have hT0c : (D.tr.l.map Tir.con) = T.con :: (D.tr.l.map Tir.con).tail := by
              cases hl : D.tr.l with
              | nil => rw [hl] at hT0; cases hT0
              | cons a r => rw [hl] at hT0; injection hT0 with hT0; subst hT0; rfl
            have HTC := Lib.hid hT0c
            have HTr := Lib.hid hTr.ts
            clear hT hT0 hTr hrg2 hT0c hb2
            go_upto_region 9 with fail
            have f0 := fun u : Over wr => Over.cell cc0 u
            have f1 := fun u : Over wr => Over.cell cc1 u
            have f2 := fun u : Over wr => Over.cell q1 u
            have f3 := fun u : Over wr => Over.cell q2 u
            have f4 := fun u : Over wr => Over.cell q3 u
            refine wp_region_over (by kernel_rfl) (by kernel_rfl) ?_
            repeat (go_big_quiet_step ((go_at_call 164; rename_i u; exact calls_over_same (rat_any T.ts t _ (HTr.out.mono u.bel)))))
            refine wpQuiet_nil ?_
            rintro _ ⟨⟨w5, hw5⟩, rfl⟩
            replace H := Lib.hid (H.out.bel hw5); (try simp only [List.set_cons_zero, List.set_cons_succ, List.cons_append, List.nil_append, List.eraseIdx_cons_zero, List.eraseIdx_cons_succ, List.setIfInBounds_toArray, World.size_alloc, selR, List.getD_cons_zero, List.getD_cons_succ] at H)
            clear hw5 f0 f1 f2 f3 f4 cc0 cc1 q1 q2 q3
            cases hP : posOf t T.ts.l with
            | none =>
              have HN : Hid (rowOf ⟨ds.map Dm.con, ms⟩ ⟨ts, vs⟩ = .error 13) := by show _ = _; rw [HE.out, rowKeys_drop1 HDc.out HTk.out (show D.con.trs = _ from HTC.out)]; show aheadK ks (match posOf t T.ts.l with | none => _ | some k => _) = _; rw [hP]; rfl
              have hAt : atOf t T.ts.l = -1 := by unfold atOf; rw [hP]
              rw [hAt]
              clear HE HDc HTk hP hAt
              go_wp2
              go_ret2
              rw [HN.out]
              exact ⟨rfl, H.out.to⟩
            | some p =>
              have hpl := posOf_lt hP
              have hTn63 := HTr.out.n63
              rw [HTr.out.len] at hpl
              have HN : Hid (rowOf ⟨ds.map Dm.con, ms⟩ ⟨ts, vs⟩ = aheadK (ks ++ [(p : Int)]) (rowKeys ((ds.map Dm.con).drop (k + 1)) (ts.drop (k + 1)))) := by
                show _ = _
                rw [HE.out, rowKeys_drop1 HDc.out HTk.out (show D.con.trs = _ from HTC.out)]
                show aheadK ks (match posOf t T.ts.l with | none => _ | some k => _) = _
                rw [hP]
                exact aheadK_step
              have hAt : atOf t T.ts.l = (p : Int) := by unfold atOf; rw [hP]
              rw [hAt]
              clear HE HDc HTk hP hAt
              go_wp2_with ((with_reducible show wpList _ _ _ (⟨some 59, _, _, _, _, _⟩ :: _) _ _); (replace H := Lib.hid (H.out.alloc #[.int .i64 (p : Nat)] 3); (try simp only [List.set_cons_zero, List.set_cons_succ, List.cons_append, List.nil_append, List.eraseIdx_cons_zero, List.eraseIdx_cons_succ, List.setIfInBounds_toArray, World.size_alloc, selR, List.getD_cons_zero, List.getD_cons_succ] at H); refine wpList_append0 rfl (.tmp 56) (.tmp 58) _ rfl E_num 0 (Nat.zero_le _) _ k _ rfl (H.out.row 2 rfl) _ 1 1 [.int .i64 (p : Nat)] rfl (reads_of_block (H.out.blk 3 rfl) rfl) (by simp [Value.oneCell']) (by unfold maxLen; omega) (by omega) ?_; intro vq wq howq hgq hatq; replace H := Lib.hid (H.out.setRow 2 rfl hgq howq hatq); (try simp only [List.set_cons_zero, List.set_cons_succ, List.cons_append, List.nil_append, List.eraseIdx_cons_zero, List.eraseIdx_cons_succ, List.setIfInBounds_toArray, World.size_alloc, selR, List.getD_cons_zero, List.getD_cons_succ] at H); clear howq hgq hatq; obtain ⟨A9, c9, rfl, _⟩ := own_slice (H.out.row 2 rfl)))
              replace H := Lib.hid (H.out.sel [0, 1, 2] (by decide) (by simp)); (try simp only [List.set_cons_zero, List.set_cons_succ, List.cons_append, List.nil_append, List.eraseIdx_cons_zero, List.eraseIdx_cons_succ, List.setIfInBounds_toArray, World.size_alloc, selR, List.getD_cons_zero, List.getD_cons_succ] at H)
              go_roundg (n3 - (k + 1))
              case rel => exact ⟨k + 1, ks ++ [(p : Int)], A9, c9, rfl, by omega, by go_num, rfl, by show _ = _; rw [List.length_append, hkc.out]; rfl, by rw [List.map_append]; exact H, HN⟩
              case measure => rw [Hgk.out]; omega
        · have HN : Hid (rowOf ⟨ds.map Dm.con, ms⟩ ⟨ts, vs⟩ = .ok ks) := by
            show _ = _
            rw [HE.out, List.drop_of_length_le (by have := hl1.out; simp; omega)]
            show aheadK ks (.ok []) = _
            unfold aheadK
            simp
          have hks := hkc.out
          clear HE
          go_wp2
          go_ret2
          rw [HN.out]
          refine ⟨B, d, ?_, H.out.to, ?_⟩
          · rw [hks]; rfl
          · rw [hks]; exact H.out.rowB 2 rfl
    · have HE : Hid (rowOf ⟨ds.map Dm.con, ms⟩ ⟨ts, vs⟩ = .error 2) := by show _ = _; unfold rowOf; rw [if_pos (.inr (by have := hl2.out; have := hl4.out; simp; omega))]
      have g1 : ((n4 : Int) != (n2 : Int)) = true := by simp <;> omega
      have g2 : (n4 != n2) = true := by simp <;> omega
      go_wp2
      go_ret2
      rw [HE.out]
      exact ⟨rfl, H.out.to⟩
  · have HE : Hid (rowOf ⟨ds.map Dm.con, ms⟩ ⟨ts, vs⟩ = .error 2) := by show _ = _; unfold rowOf; rw [if_pos (.inl (by have := hl1.out; have := hl3.out; simp; omega))]
    have g1 : ((n3 : Int) != (n : Int)) = true := by simp <;> omega
    have g2 : (n3 != n) = true := by simp <;> omega
    go_wp2
    go_ret2
    rw [HE.out]
    exact ⟨rfl, H.out.to⟩


end Go.Proofs.Ytnekknemjhlgdaa
