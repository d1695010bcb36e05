/- plan.Names. -/
import Derived.Test.YtigjghfonpfdlaaPlanB
namespace Go.Proofs.Ytigjghfonpfdlaa
open Go.RowKit
set_option linter.unusedVariables false
set_option linter.unusedSimpArgs false

/-- The members of groups. -/
def namesFrom : List DC → List PC → List Int → List (List UInt8) → Except Int (List (List UInt8))
  | d :: ds, p :: ps, ks, acc =>
    if p.g = true then
      match d.trs[p.by_.toNat]? with
      | none => .error 13
      | some tr =>
        match ks with
        | [] => .error 13
        | k :: ks => if k < 0 then .error 13 else match tr.ts[k.toNat]? with | none => .error 13 | some t => namesFrom ds ps ks (acc ++ [t])
    else namesFrom ds ps ks acc
  | _, _, [], acc => .ok acc
  | _, _, _ :: _, _ => .error 2
def namesOf (s : SC) (q : List PC) (ks : List Int) : Except Int (List (List UInt8)) := if askErr s q ≠ 0 then .error (askErr s q) else namesFrom s.dims q ks []
theorem namesFrom_skip {ds : List DC} {ps : List PC} {k : Nat} {d : DC} {p : PC} {ks : List Int} {acc : List (List UInt8)} (hd : ds[k]? = some d) (hp : ps[k]? = some p) (hg : p.g = false) : namesFrom (ds.drop k) (ps.drop k) ks acc = namesFrom (ds.drop (k + 1)) (ps.drop (k + 1)) ks acc := by
  obtain ⟨h1, rfl⟩ := List.getElem?_eq_some_iff.1 hd
  obtain ⟨h2, rfl⟩ := List.getElem?_eq_some_iff.1 hp
  rw [List.drop_eq_getElem_cons h1, List.drop_eq_getElem_cons h2, namesFrom, if_neg (by rw [hg]; simp)]
theorem namesFrom_take {ds : List DC} {ps : List PC} {k : Nat} {d : DC} {p : PC} {tr : TC} {ks : List Int} {acc : List (List UInt8)} (hd : ds[k]? = some d) (hp : ps[k]? = some p) (hg : p.g = true) (ht : d.trs[p.by_.toNat]? = some tr) :
    namesFrom (ds.drop k) (ps.drop k) ks acc = (match ks with | [] => .error 13 | k' :: ks => if k' < 0 then .error 13 else match tr.ts[k'.toNat]? with | none => .error 13 | some t => namesFrom (ds.drop (k + 1)) (ps.drop (k + 1)) ks (acc ++ [t])) := by
  obtain ⟨h1, rfl⟩ := List.getElem?_eq_some_iff.1 hd
  obtain ⟨h2, rfl⟩ := List.getElem?_eq_some_iff.1 hp
  rw [List.drop_eq_getElem_cons h1, List.drop_eq_getElem_cons h2, namesFrom, if_pos hg, ht]
theorem namesFrom_end {ks : List Int} {acc : List (List UInt8)} : namesFrom [] [] ks acc = (match ks with | [] => .ok acc | _ :: _ => .error 2) := by cases ks <;> rfl
/-- How plan.Names ends. -/
def NamesPost (o : Except Int (List (List UInt8))) (w : World) (e : Ending) (w' : World) : Prop :=
  match o with
  | .error k => e = .returned (.tuple #[.slice none 0 0, .int .i64 k]) ∧ Bel w w'
  | .ok ts => ∃ (A : Option Addr) (c : Nat), e = .returned (.tuple #[.slice A ts.length c, .int .i64 0]) ∧ Bel w w' ∧ w'.ownsRow w.heap.size 9 1 (.slice A ts.length c) ts.length (ts.map tx)
theorem Row.rd.tail {w : World} {b o n c : Nat} {l : List Int} (h : Row.rd w ⟨some ⟨b, o, none⟩, n, c, l⟩) (h1 : 1 ≤ n) (hc : n ≤ c) : Row.rd w ⟨some ⟨b, o + 1, none⟩, n - 1, c - 1, l.drop 1⟩ := by
  have hr := h.r.drop (k := 1) (cap := c) h1 hc
  have hl : l.length = n := h.len
  have h63 : n ≤ _ := h.n63
  refine ⟨?_, fun a ha => h.all a (List.mem_of_mem_drop ha), by show n - 1 ≤ _; omega⟩
  by_cases hc1 : c = 1
  · obtain rfl : n = 1 := by omega
    show Rd w 1 _ 0 ((l.drop 1).flatMap Cel.cells)
    rw [List.drop_of_length_le (by omega)]
    exact Rd.nil
  · rw [if_neg hc1] at hr
    show Rd w 1 _ (n - 1) ((l.drop 1).flatMap Cel.cells)
    rw [flat_ints, List.map_drop]
    simp only at hr
    rw [flat_ints] at hr
    exact hr
theorem drop_split {α : Type} {l : List α} {j : Nat} {x : α} (h : l[j]? = some x) : l.drop j = x :: l.drop (j + 1) := by
  obtain ⟨h1, rfl⟩ := List.getElem?_eq_some_iff.1 h
  exact List.drop_eq_getElem_cons h1
set_option maxRecDepth 100000 in
set_option maxHeartbeats 2000000 in
theorem names_any (s : Sch) (q : Qr) (x : Row Int) (w : World) (hs : s.rd w) (hq : q.rd w) (hx : x.rd w) (hxc : x.n ≤ x.c) (hn : s.dm.n ≤ 1000000) (hm : s.ms.n ≤ 1000000) (hd : ∀ d ∈ s.dm.l, d.tr.n ≤ 1000000 ∧ ∀ t ∈ d.tr.l, t.up.n ≤ 100000) (hp : ∀ p ∈ q.ps.l, p.set.n ≤ 100000) :
    Calls Try.prog 40 #[.agg s.cs, .agg q.cs, .slice x.A x.n x.c] w (NamesPost (namesOf s.con q.con x.l) w) := by
  have HC := Lib.hid (fun w' (hb : Bel w w') => askcheck_any s q w' (hs.mono hb) (Row.rd.mono hq hb) hn hm hd hp)
  have hl1 : Hid (s.dm.l.length = s.dm.n) := hs.dm.len
  have hl2 : Hid (q.ps.l.length = q.ps.n) := Row.rd.len hq
  have HD := Lib.hid hs.dm
  have HQ := Lib.hid (show q.ps.rd w from hq)
  have m63 : q.ps.n ≤ 9223372036854775807 := hq.n63
  have H := Lib.hid (((SL.start No w).alloc s.cs 25).alloc q.cs 30)
  (try simp only [List.set_cons_zero, List.set_cons_succ, List.cons_append, List.nil_append, List.eraseIdx_cons_zero, List.eraseIdx_cons_succ, List.setIfInBounds_toArray, World.size_alloc, selR, List.getD_cons_zero, List.getD_cons_succ] at H)
  have HKR0 : Hid (Row.rd w ⟨x.A, x.n, x.c, x.l.drop 0⟩) := by rw [List.drop_zero]; exact hx
  obtain ⟨⟨DA, dn, dc, ds⟩, ⟨MA, mn, mc, ms⟩⟩ := s
  obtain ⟨⟨A, n, c, ps⟩⟩ := q
  obtain ⟨XA, xn, xc, keys⟩ := x
  simp only [Sch.cs, Qr.cs, Sch.con, Qr.con] at *
  clear hs hq hd hp hx
  go_enter Try.func40, Try.ntmps40
  go_wp2_with (first | ((with_reducible show wpList _ _ _ (⟨some 13, _, _, _, _, _⟩ :: _) _ _); (refine wpList_load_blk rfl rowSch (.tmp 3) rfl _ rfl (H.out.blk 0 rfl) rfl ?_)) | ((with_reducible show wpList _ _ _ (⟨some 14, _, _, _, _, _⟩ :: _) _ _); (refine wpList_load_blk rfl rowQry (.tmp 4) rfl _ rfl (H.out.blk 1 rfl) rfl ?_)))
  refine (HC.out _ H.out.to).mono ?_; rintro e w1 ⟨rfl, hb1⟩
  replace H := Lib.hid (H.out.bel hb1); (try simp only [List.set_cons_zero, List.set_cons_succ, List.cons_append, List.nil_append, List.eraseIdx_cons_zero, List.eraseIdx_cons_succ, List.setIfInBounds_toArray, World.size_alloc, selR, List.getD_cons_zero, List.getD_cons_succ] at H)
  clear hb1 HC
  by_cases hE : askErr ⟨ds.map Dm.con, ms⟩ (ps.map Pk.con) = 0
  · obtain ⟨e1, e2, e3⟩ := askErr_zero hE
    have e4 := (schErr_zero e1).2.1
    have HPO := Lib.hid (fun k d p h1 h2 => pickErr_zero (picksErr_ok e3 e2 k d p h1 h2))
    have hdn : dn = n := by have := hl1.out; have := hl2.out; simp only [List.length_map] at e2 e4; omega
    have hn16 : n ≤ 16 := by have := hl2.out; simp only [List.length_map] at e2 e4; omega
    have HN0 : Hid (namesOf ⟨ds.map Dm.con, ms⟩ (ps.map Pk.con) keys = namesFrom ((ds.map Dm.con).drop 0) ((ps.map Pk.con).drop 0) (keys.drop 0) []) := by show _ = _; unfold namesOf; rw [if_neg (by omega)]; rfl
    rw [hE]
    subst hdn
    clear hE e1 e2 e3 e4
    have cc0 := (H.out.blk 1 rfl).cell 0; simp only [List.getElem?_toArray, List.getElem?_cons_zero, List.getElem?_cons_succ] at cc0
    go_wp2_with fail
    clear cc0
    replace H := Lib.hid (H.out.addNil 9 1); (try simp only [List.set_cons_zero, List.set_cons_succ, List.cons_append, List.nil_append, List.eraseIdx_cons_zero, List.eraseIdx_cons_succ, List.setIfInBounds_toArray, World.size_alloc, selR, List.getD_cons_zero, List.getD_cons_succ] at H)
    generalize w.heap.size + 1 = y at *
    generalize w.heap.size = x at *
    obtain ⟨KA, hKA⟩ : ∃ KA, KA = XA := ⟨_, rfl⟩
    obtain ⟨kn, hkn⟩ : ∃ kn, kn = xn := ⟨_, rfl⟩
    obtain ⟨kc, hkc⟩ : ∃ kc, kc = xc := ⟨_, rfl⟩
    rw [← hKA, ← hkn, ← hkc] at HKR0
    rw [← hkn, ← hkc] at hxc
    go_loopg [9, 2, 22] dn (fun gg s9 s2 i wr => ∃ (k : Nat) (acc : List (List UInt8)) (j : Nat) (B : Option Addr) (cB : Nat) (KA : Option Addr) (kn kc jj : Nat), gg = dn - k ∧ k ≤ dn ∧ i = .int .i64 k ∧ s9 = .slice B j cB ∧ s2 = .slice KA kn kc ∧ Hid (acc.length = j) ∧ Hid (SL No w wr [rBlk x 25 #[.slice DA dn dc, .slice MA mn mc], rBlk y 30 #[.slice A dn c], rRow 9 1 (.slice B j cB) j (acc.map tx)]) ∧ Hid (namesOf ⟨ds.map Dm.con, ms⟩ (ps.map Pk.con) keys = namesFrom ((ds.map Dm.con).drop k) ((ps.map Pk.con).drop k) (keys.drop jj) acc) ∧ Hid (Row.rd w ⟨KA, kn, kc, keys.drop jj⟩) ∧ j ≤ k ∧ kn ≤ kc)
    case atStart => exact ⟨0, [], 0, none, 0, KA, kn, kc, 0, rfl, by omega, rfl, rfl, by rw [hKA, hkn, hkc], rfl, H, HN0, HKR0, Nat.le_refl _, hxc⟩
    case round =>
      clear H HN0 HKR0 hxc hKA hkn hkc KA kn kc
      obtain ⟨k, acc, j, B, cB, KA, kn, kc, jj, hgk, hk, rfl, rfl, rfl, hac, H, HN, HKR, hjk, hkc⟩ := hrel
      have Hgk := Lib.hid hgk
      clear hgk
      have kl : Hid ((keys.drop jj).length = kn) := HKR.out.len
      have k63 := HKR.out.n63
      by_cases hlt : k < dn
      · obtain ⟨b1, o1, D, hA, hb1, hDk, hDr, hrg1⟩ := (HD.out.mono H.out.to).dmAt (k := k) hlt
        simp only at hA
        subst hA
        obtain ⟨b2, o2, p, hB, hb2, hpk, hpr, hrg2⟩ := (HQ.out.mono H.out.to).pkAt (k := k) hlt
        simp only at hB
        subst hB
        have hDc : (ds.map Dm.con)[k]? = some D.con := by rw [List.getElem?_map, hDk]; rfl
        have hpc : (ps.map Pk.con)[k]? = some p.con := by rw [List.getElem?_map, hpk]; rfl
        have HPk := Lib.hid (HPO.out k D.con p.con hDc hpc)
        have HDC := Lib.hid hDc
        have HPC := Lib.hid hpc
        have HR1 := Lib.hid (fun w' (hb : Bel wr w') => rangeAt_bel hb1 hrg1 hb)
        have HDr := Lib.hid (fun w' (hb : Bel wr w') => hDr.tr.mono hb)
        have HDl : Hid (D.tr.l.length = D.tr.n) := hDr.tr.len
        have HR2 := Lib.hid hrg2
        have i0 : (0 : Int) ≤ k := by omega
        have i1 : (k : Int) < dn := by omega
        have D63 := hDr.tr.n63
        clear hDk hpk hrg1 hrg2 hDr hpr hb1 hb2 hDc hpc
        obtain ⟨pf, pt, lo, hi, ⟨A3, n3, c3, set⟩, g, pb⟩ := p
        simp only [Pk.cs, Pk.con] at *
        go_upto_region 8 with (first | ((with_reducible show wpList _ _ _ (⟨some 26, _, _, _, _, _⟩ :: _) _ _); (refine wpList_load_row_at rfl rowPk (.tmp 25) rfl b2 (o2 + k * 7) rfl #[.int .i64 pf, .int .i64 pt, .string ⟨lo.toArray⟩, .string ⟨hi.toArray⟩, .slice A3 n3 c3, .bool g, .int .i64 pb] rfl HR2.out ?_)) | ((with_reducible show wpList _ _ _ (⟨_, .store _ (.tmp 11) _, _, _, _, _⟩ :: _) _ _); (refine wpList_store_new rfl rowPk (.tmp 11) (.tmp 26) rfl rfl rfl (#[.int .i64 pf, .int .i64 pt, .string ⟨lo.toArray⟩, .string ⟨hi.toArray⟩, .slice A3 n3 c3, .bool g, .int .i64 pb]) rfl rfl (by simp [Value.oneCell']) ?_; replace H := Lib.hid (H.out.alloc (#[.int .i64 pf, .int .i64 pt, .string ⟨lo.toArray⟩, .string ⟨hi.toArray⟩, .slice A3 n3 c3, .bool g, .int .i64 pb]) 33); (try simp only [List.set_cons_zero, List.set_cons_succ, List.cons_append, List.nil_append, List.eraseIdx_cons_zero, List.eraseIdx_cons_succ, List.setIfInBounds_toArray, World.size_alloc, selR, List.getD_cons_zero, List.getD_cons_succ] at H))))
        (try simp only [Act.put, List.setIfInBounds_toArray, List.set_cons_zero, List.set_cons_succ])
        have HB := Lib.hid ((Bel.refl wr).alloc (.cells #[.int .i64 pf, .int .i64 pt, .string ⟨lo.toArray⟩, .string ⟨hi.toArray⟩, .slice A3 n3 c3, .bool g, .int .i64 pb] 33))
        clear HR2
        generalize wr.heap.size = z at *
        generalize World.alloc wr _ = w5 at *
        have cp5 := (H.out.blk 3 rfl).cell 5; simp only [List.getElem?_toArray, List.getElem?_cons_zero, List.getElem?_cons_succ] at cp5
        cases g with
        | false =>
          have HN2 : Hid (namesOf ⟨ds.map Dm.con, ms⟩ (ps.map Pk.con) keys = namesFrom ((ds.map Dm.con).drop (k + 1)) ((ps.map Pk.con).drop (k + 1)) (keys.drop jj) acc) := by show _ = _; rw [HN.out, namesFrom_skip HDC.out HPC.out rfl]
          replace H := Lib.hid (H.out.sel [0, 1, 2] (by decide) (by simp)); (try simp only [List.set_cons_zero, List.set_cons_succ, List.cons_append, List.nil_append, List.eraseIdx_cons_zero, List.eraseIdx_cons_succ, List.setIfInBounds_toArray, World.size_alloc, selR, List.getD_cons_zero, List.getD_cons_succ] at H)
          clear HN HPk HDC HPC
          go_wp2_with fail
          go_roundg (dn - (k + 1))
          case rel => exact ⟨k + 1, acc, j, B, cB, KA, kn, kc, jj, rfl, by omega, by go_num, rfl, rfl, hac, H, HN2, HKR, by omega, hkc⟩
          case measure => rw [Hgk.out]; omega
        | true =>
          obtain ⟨pb, rfl⟩ : ∃ b : Nat, pb = b := ⟨pb.toNat, by have hPb := HPk.out.b; simp only at hPb; rcases hPb with h | h; omega; cases h.1⟩
          have hbn : pb < D.tr.n := by
            have := HDl.out
            rcases HPk.out.b with h | h
            · have h2 := h.2.2; simp only [List.length_map] at h2; omega
            · cases h.1
          have q1 := HR1.out w5 HB.out 1 _ rfl
          obtain ⟨b4, o4, Tr, hA4, hbb4, hTk, hTr, hrg4⟩ := (HDr.out w5 HB.out).tirAt (k := pb) hbn
          rw [hA4] at q1
          have q2 := hrg4 1 _ rfl
          have htrc : D.con.trs[(pb : Int).toNat]? = some Tr.con := by rw [Int.toNat_natCast]; show (D.tr.l.map Tir.con)[pb]? = _; rw [List.getElem?_map, hTk]; rfl
          have HN1 := Lib.hid (HN.out.trans (namesFrom_take HDC.out HPC.out rfl htrc))
          have HTr := Lib.hid hTr.ts
          have htl : Hid (Tr.ts.l.length = Tr.ts.n) := hTr.ts.len
          have T63 := hTr.ts.n63
          have j0 : (0 : Int) ≤ pb := by omega
          have j1 : (pb : Int) < D.tr.n := by omega
          have cs0 := (H.out.blk 0 rfl).cell 0; simp only [List.getElem?_toArray, List.getElem?_cons_zero, List.getElem?_cons_succ] at cs0
          have cp6 := (H.out.blk 3 rfl).cell 6; simp only [List.getElem?_toArray, List.getElem?_cons_zero, List.getElem?_cons_succ] at cp6
          clear hTk hTr hrg4 htrc HN HPk HDC HPC HDr HR1 hbb4 hA4
          go_upto_region 9 with fail
          have f_cs0 := fun u : Over w5 => Over.cell cs0 u
          have f_cp6 := fun u : Over w5 => Over.cell cp6 u
          have f_q1 := fun u : Over w5 => Over.cell q1 u
          have f_q2 := fun u : Over w5 => Over.cell q2 u
          refine wp_region_over (by kernel_rfl) (by kernel_rfl) ?_
          (try simp only [Act.put, List.setIfInBounds_toArray, List.set_cons_zero, List.set_cons_succ])
          repeat (go_big_quiet_step (fail))
          refine wpQuiet_nil ?_
          rintro w5 ⟨⟨_, hw5⟩, rfl⟩
          (try dsimp only)
          replace H := Lib.hid (H.out.bel hw5); (try simp only [List.set_cons_zero, List.set_cons_succ, List.cons_append, List.nil_append, List.eraseIdx_cons_zero, List.eraseIdx_cons_succ, List.setIfInBounds_toArray, World.size_alloc, selR, List.getD_cons_zero, List.getD_cons_succ] at H)
          clear f_cs0 f_cp6 f_q1 f_q2 cs0 cp6 q1 q2
          replace HTr := Lib.hid (HTr.out.mono hw5)
          clear hw5 HB
          by_cases hk0 : kn = 0
          · have hnil : keys.drop jj = [] := List.eq_nil_of_length_eq_zero (by rw [kl.out]; exact hk0)
            subst hk0
            have HN2 : Hid (namesOf ⟨ds.map Dm.con, ms⟩ (ps.map Pk.con) keys = .error 13) := by show _ = _; rw [HN1.out]; rw [hnil]
            go_wp2
            go_ret2
            rw [HN2.out]
            exact ⟨rfl, H.out.to⟩
          · obtain ⟨b6, o6, kz, hA6, hkz, hkI, q6⟩ := (HKR.out.mono H.out.to).intAt (k := 0) (by show 0 < kn; omega)
            simp only at hA6 hkz
            subst hA6
            simp only [Nat.add_zero] at q6
            have z1 : ((kn : Int) == 0) = false := by simp <;> omega
            have z2 : (kn == 0) = false := by simp <;> omega
            have z3 : (0 : Int) < kn := by omega
            have z4 : 0 < kn := by omega
            have z5 : 1 ≤ kn := by omega
            have z6 : (1 : Int) ≤ kn := by omega
            have z7 : (kn : Int) ≤ kc := by omega
            have z8 : (1 : Int) ≤ kc := by omega
            have z9 : 1 ≤ kc := by omega
            have hkd : keys.drop jj = kz :: keys.drop (jj + 1) := by
              rw [List.getElem?_drop, Nat.add_zero] at hkz
              exact drop_split hkz
            rw [hkd] at HN1
            by_cases hz0 : kz < 0
            · have d1 : decide (kz < 0) = true := by simpa using hz0
              have HN2 : Hid (namesOf ⟨ds.map Dm.con, ms⟩ (ps.map Pk.con) keys = .error 13) := by show _ = _; rw [HN1.out]; simp only; rw [if_pos hz0]
              go_wp2
              go_ret2
              rw [HN2.out]
              exact ⟨rfl, H.out.to⟩
            · have d1 : decide (kz < 0) = false := by simpa using hz0
              obtain ⟨kv, rfl⟩ : ∃ b : Nat, kz = b := ⟨kz.toNat, by omega⟩
              by_cases hzn : kv < Tr.ts.n
              · have d2 : decide ((Tr.ts.n : Int) ≤ kv) = false := by simp <;> omega
                have d3 : decide (Tr.ts.n ≤ kv) = false := by simp <;> omega
                obtain ⟨b7, o7, nm, hA7, hnk, hnl, q7⟩ := HTr.out.textAt (k := kv) hzn
                have HN : Hid (namesOf ⟨ds.map Dm.con, ms⟩ (ps.map Pk.con) keys = namesFrom ((ds.map Dm.con).drop (k + 1)) ((ps.map Pk.con).drop (k + 1)) (keys.drop (jj + 1)) (acc ++ [nm])) := by
                  show _ = _; rw [HN1.out]; simp only; rw [if_neg hz0, Int.toNat_natCast, show (Tr.con).ts[kv]? = some nm from hnk]
                have i2 : (0 : Int) ≤ kv := by omega
                have i3 : (kv : Int) < Tr.ts.n := by omega
                rw [hA7]
                by_cases hk1 : kc = 1
                · obtain rfl : kn = 1 := by omega
                  subst hk1
                  have HKR2 : Hid (Row.rd w ⟨some ⟨b6, o6, none⟩, 0, 0, keys.drop (jj + 1)⟩) := by
                    have hnil : keys.drop (jj + 1) = [] := by
                      have h := kl.out
                      rw [List.length_drop] at h
                      exact List.drop_of_length_le (by omega)
                    rw [hnil]
                    exact ⟨Rd.nil, (fun a ha => by cases ha), by show (0 : Nat) ≤ _; omega⟩
                  clear hnk HN1 hkd hkz hA7
                  go_upto_region 12 with fail
                  refine wp_region_held_drew (S := fun _ => True) (by kernel_rfl) trivial (fun hHeld => ?_)
                  replace H := Lib.hid (H.out.drew); (try simp only [List.set_cons_zero, List.set_cons_succ, List.cons_append, List.nil_append, List.eraseIdx_cons_zero, List.eraseIdx_cons_succ, List.setIfInBounds_toArray, World.size_alloc, selR, List.getD_cons_zero, List.getD_cons_succ] at H)
                  refine wpAnyH_take (i := 0) (v := ?vq1_0) (get_o0) (by kernel_rfl) (by kernel_rfl) (by kernel_rfl) (by exact fun _ _ _ h => h) (Or.inl ⟨by rfl, ?hyq1_0⟩) (by assumption) ?_
                  case hyq1_0 => (intro w hSw; (try dsimp only at hSw); go_simp) <;> with_reducible rfl
                  try simp only [Act.put, List.setIfInBounds_toArray, List.set_cons_zero, List.set_cons_succ]
                  refine wpAnyH_take (i := 1) (v := ?vq1_1) (get_os (get_o0)) (by kernel_rfl) (by kernel_rfl) (by kernel_rfl) (by exact fun _ _ _ h => h) (Or.inl ⟨by rfl, ?hyq1_1⟩) (by assumption) ?_
                  case hyq1_1 => (intro w hSw; (try dsimp only at hSw); go_simp) <;> with_reducible rfl
                  try simp only [Act.put, List.setIfInBounds_toArray, List.set_cons_zero, List.set_cons_succ]
                  refine wpAnyH_take (i := 2) (v := ?vq1_2) (get_os (get_os (get_o0))) (by kernel_rfl) (by kernel_rfl) (by kernel_rfl) (by exact fun _ _ _ h => h) (Or.inl ⟨by rfl, ?hyq1_2⟩) (by assumption) ?_
                  case hyq1_2 => (intro w hSw; (try dsimp only at hSw); go_simp) <;> with_reducible rfl
                  try simp only [Act.put, List.setIfInBounds_toArray, List.set_cons_zero, List.set_cons_succ]
                  refine wpAnyH_take (i := 9) (v := ?vq1_9) (get_os (get_os (get_os (get_os (get_os (get_os (get_os (get_os (get_os (get_o0)))))))))) (by kernel_rfl) (by kernel_rfl) (by kernel_rfl) (by exact fun _ _ _ h => h) (Or.inl ⟨by rfl, ?hyq1_9⟩) (by assumption) ?_
                  case hyq1_9 => (intro w hSw; (try dsimp only at hSw); go_simp) <;> with_reducible rfl
                  try simp only [Act.put, List.setIfInBounds_toArray, List.set_cons_zero, List.set_cons_succ]
                  refine wpAnyH_take (i := 3) (v := ?vq1_3) (get_os (get_os (get_os (get_o0)))) (by kernel_rfl) (by kernel_rfl) (by kernel_rfl) (by exact fun _ _ _ h => h) (Or.inl ⟨by rfl, ?hyq1_3⟩) (by assumption) ?_
                  case hyq1_3 => (intro w hSw; (try dsimp only at hSw); go_simp) <;> with_reducible rfl
                  try simp only [Act.put, List.setIfInBounds_toArray, List.set_cons_zero, List.set_cons_succ]
                  refine wpAnyH_take (i := 10) (v := ?vq1_10) (get_ot (get_o0)) (by kernel_rfl) (by kernel_rfl) (by kernel_rfl) (by exact fun _ _ _ h => h) (Or.inl ⟨by rfl, ?hyq1_10⟩) (by assumption) ?_
                  case hyq1_10 => (intro w hSw; (try dsimp only at hSw); go_simp) <;> with_reducible rfl
                  try simp only [Act.put, List.setIfInBounds_toArray, List.set_cons_zero, List.set_cons_succ]
                  refine wpAnyH_ready (rs := [4]) (by kernel_rfl) (by simp) ?_
                  refine (AllReadyH.cons (get_os (get_os (get_os (get_os (get_o0))))) (fun KK hKK => ?_) AllReadyH.nil)
                  go_simp
                  refine hKK.out _ _ trivial (fun hHeld => ?_)
                  clear hKK KK
                  try simp only [Act.put, List.setIfInBounds_toArray, List.set_cons_zero, List.set_cons_succ]
                  refine wpAnyH_ready (rs := [5]) (by kernel_rfl) (by simp) ?_
                  refine (AllReadyH.cons (get_os (get_os (get_os (get_os (get_os (get_o0)))))) (fun KK hKK => ?_) AllReadyH.nil)
                  go_simp
                  refine hKK.out _ _ trivial (fun hHeld => ?_)
                  clear hKK KK
                  try simp only [Act.put, List.setIfInBounds_toArray, List.set_cons_zero, List.set_cons_succ]
                  refine wpAnyH_ready (rs := [6]) (by kernel_rfl) (by simp) ?_
                  refine (AllReadyH.cons (get_os (get_os (get_os (get_os (get_os (get_os (get_o0))))))) (fun KK hKK => ?_) AllReadyH.nil)
                  go_simp
                  refine hKK.out _ _ trivial (fun hHeld => ?_)
                  clear hKK KK
                  try simp only [Act.put, List.setIfInBounds_toArray, List.set_cons_zero, List.set_cons_succ]
                  refine wpAnyH_ready (rs := [7]) (by kernel_rfl) (by simp) ?_
                  refine (AllReadyH.cons (get_os (get_os (get_os (get_os (get_os (get_os (get_os (get_o0)))))))) (fun KK hKK => ?_) AllReadyH.nil)
                  refine step_buildSlice1v rfl E_text (.tmp 64) rfl (.string ⟨nm.toArray⟩) rfl #[.string ⟨nm.toArray⟩] rfl rfl (by omega) ?_
                  replace H := Lib.hid (H.out.alloc #[.string ⟨nm.toArray⟩] 9); (try simp only [List.set_cons_zero, List.set_cons_succ, List.cons_append, List.nil_append, List.eraseIdx_cons_zero, List.eraseIdx_cons_succ, List.setIfInBounds_toArray, World.size_alloc, selR, List.getD_cons_zero, List.getD_cons_succ] at H)
                  refine hKK.out _ _ trivial (fun hHeld => ?_)
                  clear hKK KK
                  try simp only [Act.put, List.setIfInBounds_toArray, List.set_cons_zero, List.set_cons_succ]
                  refine wpAnyH_ready (rs := [8]) (by kernel_rfl) (by simp) ?_
                  refine (AllReadyH.cons (get_os (get_os (get_os (get_os (get_os (get_os (get_os (get_os (get_o0))))))))) (fun KK hKK => ?_) AllReadyH.nil)
                  refine step_append0 rfl (.tmp 58) (.tmp 65) _ rfl E_text 0 (Nat.zero_le _) _ j _ rfl (H.out.row 2 rfl) _ 1 1 _ rfl (reads_of_block (H.out.blk 4 rfl) rfl) (by simp [Value.oneCell']) (by unfold maxLen; omega) (by omega) ?_
                  intro vq wq howq hgq hatq
                  replace H := Lib.hid (H.out.setRow 2 rfl hgq howq hatq); (try simp only [List.set_cons_zero, List.set_cons_succ, List.cons_append, List.nil_append, List.eraseIdx_cons_zero, List.eraseIdx_cons_succ, List.setIfInBounds_toArray, World.size_alloc, selR, List.getD_cons_zero, List.getD_cons_succ] at H)
                  clear howq hgq hatq
                  obtain ⟨A9, c9, rfl, _⟩ := own_slice (H.out.row 2 rfl)
                  refine hKK.out _ _ trivial (fun hHeld => ?_)
                  clear hKK KK
                  try simp only [Act.put, List.setIfInBounds_toArray, List.set_cons_zero, List.set_cons_succ]
                  refine wpAnyH_ready (rs := [11]) (by kernel_rfl) (by simp) ?_
                  refine (AllReadyH.cons (get_ot (get_os (get_o0))) (fun KK hKK => ?_) AllReadyH.nil)
                  go_simp
                  refine hKK.out _ _ trivial (fun hHeld => ?_)
                  clear hKK KK
                  try simp only [Act.put, List.setIfInBounds_toArray, List.set_cons_zero, List.set_cons_succ]
                  refine wpAnyH_ready (rs := [12]) (by kernel_rfl) (by simp) ?_
                  refine (AllReadyH.cons (get_ot (get_os (get_os (get_o0)))) (fun KK hKK => ?_) AllReadyH.nil)
                  go_simp
                  refine hKK.out _ _ trivial (fun hHeld => ?_)
                  clear hKK KK
                  try simp only [Act.put, List.setIfInBounds_toArray, List.set_cons_zero, List.set_cons_succ]
                  refine wpAnyH_done (by kernel_rfl) ?_ _
                  clear hHeld
                  replace H := Lib.hid (H.out.sel [0, 1, 2] (by decide) (by simp)); (try simp only [List.set_cons_zero, List.set_cons_succ, List.cons_append, List.nil_append, List.eraseIdx_cons_zero, List.eraseIdx_cons_succ, List.setIfInBounds_toArray, World.size_alloc, selR, List.getD_cons_zero, List.getD_cons_succ] at H)
                  go_wp2_with fail
                  go_roundg (dn - (k + 1))
                  case rel => exact ⟨k + 1, acc ++ [nm], j + 1, A9, c9, _, _, _, _, rfl, by omega, by go_num, rfl, rfl, by show _ = _; rw [List.length_append, hac.out]; rfl, by rw [List.map_append]; exact H, HN, HKR2, by omega⟩
                  case measure => rw [Hgk.out]; omega
                · have HKR2 : Hid (Row.rd w ⟨some ⟨b6, o6 + 1, none⟩, kn - 1, kc - 1, keys.drop (jj + 1)⟩) := by have h := HKR.out.tail z5 hkc; rw [List.drop_drop] at h; exact h
                  have y1 : ¬ kc - 1 = 0 := by omega
                  have y2 : (kc - 1 == 0) = false := by simp <;> omega
                  have y3 : ((kc : Int) - 1 == 0) = false := by simp <;> omega
                  have y4 : ¬ (kc : Int) - 1 = 0 := by omega
                  have y5 : ¬ (kc : Int) = 1 := by omega
                  clear hnk HN1 hkd hkz hA7
                  go_upto_region 12 with fail
                  refine wp_region_held_drew (S := fun _ => True) (by kernel_rfl) trivial (fun hHeld => ?_)
                  replace H := Lib.hid (H.out.drew); (try simp only [List.set_cons_zero, List.set_cons_succ, List.cons_append, List.nil_append, List.eraseIdx_cons_zero, List.eraseIdx_cons_succ, List.setIfInBounds_toArray, World.size_alloc, selR, List.getD_cons_zero, List.getD_cons_succ] at H)
                  refine wpAnyH_take (i := 0) (v := ?vq2_0) (get_o0) (by kernel_rfl) (by kernel_rfl) (by kernel_rfl) (by exact fun _ _ _ h => h) (Or.inl ⟨by rfl, ?hyq2_0⟩) (by assumption) ?_
                  case hyq2_0 => (intro w hSw; (try dsimp only at hSw); go_simp) <;> with_reducible rfl
                  try simp only [Act.put, List.setIfInBounds_toArray, List.set_cons_zero, List.set_cons_succ]
                  refine wpAnyH_take (i := 1) (v := ?vq2_1) (get_os (get_o0)) (by kernel_rfl) (by kernel_rfl) (by kernel_rfl) (by exact fun _ _ _ h => h) (Or.inl ⟨by rfl, ?hyq2_1⟩) (by assumption) ?_
                  case hyq2_1 => (intro w hSw; (try dsimp only at hSw); go_simp) <;> with_reducible rfl
                  try simp only [Act.put, List.setIfInBounds_toArray, List.set_cons_zero, List.set_cons_succ]
                  refine wpAnyH_take (i := 2) (v := ?vq2_2) (get_os (get_os (get_o0))) (by kernel_rfl) (by kernel_rfl) (by kernel_rfl) (by exact fun _ _ _ h => h) (Or.inl ⟨by rfl, ?hyq2_2⟩) (by assumption) ?_
                  case hyq2_2 => (intro w hSw; (try dsimp only at hSw); go_simp) <;> with_reducible rfl
                  try simp only [Act.put, List.setIfInBounds_toArray, List.set_cons_zero, List.set_cons_succ]
                  refine wpAnyH_take (i := 9) (v := ?vq2_9) (get_os (get_os (get_os (get_os (get_os (get_os (get_os (get_os (get_os (get_o0)))))))))) (by kernel_rfl) (by kernel_rfl) (by kernel_rfl) (by exact fun _ _ _ h => h) (Or.inl ⟨by rfl, ?hyq2_9⟩) (by assumption) ?_
                  case hyq2_9 => (intro w hSw; (try dsimp only at hSw); go_simp) <;> with_reducible rfl
                  try simp only [Act.put, List.setIfInBounds_toArray, List.set_cons_zero, List.set_cons_succ]
                  refine wpAnyH_take (i := 3) (v := ?vq2_3) (get_os (get_os (get_os (get_o0)))) (by kernel_rfl) (by kernel_rfl) (by kernel_rfl) (by exact fun _ _ _ h => h) (Or.inl ⟨by rfl, ?hyq2_3⟩) (by assumption) ?_
                  case hyq2_3 => (intro w hSw; (try dsimp only at hSw); go_simp) <;> with_reducible rfl
                  try simp only [Act.put, List.setIfInBounds_toArray, List.set_cons_zero, List.set_cons_succ]
                  refine wpAnyH_take (i := 10) (v := ?vq2_10) (get_ot (get_o0)) (by kernel_rfl) (by kernel_rfl) (by kernel_rfl) (by exact fun _ _ _ h => h) (Or.inl ⟨by rfl, ?hyq2_10⟩) (by assumption) ?_
                  case hyq2_10 => (intro w hSw; (try dsimp only at hSw); go_simp) <;> with_reducible rfl
                  try simp only [Act.put, List.setIfInBounds_toArray, List.set_cons_zero, List.set_cons_succ]
                  refine wpAnyH_ready (rs := [4]) (by kernel_rfl) (by simp) ?_
                  refine (AllReadyH.cons (get_os (get_os (get_os (get_os (get_o0))))) (fun KK hKK => ?_) AllReadyH.nil)
                  go_simp
                  refine hKK.out _ _ trivial (fun hHeld => ?_)
                  clear hKK KK
                  try simp only [Act.put, List.setIfInBounds_toArray, List.set_cons_zero, List.set_cons_succ]
                  refine wpAnyH_ready (rs := [5]) (by kernel_rfl) (by simp) ?_
                  refine (AllReadyH.cons (get_os (get_os (get_os (get_os (get_os (get_o0)))))) (fun KK hKK => ?_) AllReadyH.nil)
                  go_simp
                  refine hKK.out _ _ trivial (fun hHeld => ?_)
                  clear hKK KK
                  try simp only [Act.put, List.setIfInBounds_toArray, List.set_cons_zero, List.set_cons_succ]
                  refine wpAnyH_ready (rs := [6]) (by kernel_rfl) (by simp) ?_
                  refine (AllReadyH.cons (get_os (get_os (get_os (get_os (get_os (get_os (get_o0))))))) (fun KK hKK => ?_) AllReadyH.nil)
                  go_simp
                  refine hKK.out _ _ trivial (fun hHeld => ?_)
                  clear hKK KK
                  try simp only [Act.put, List.setIfInBounds_toArray, List.set_cons_zero, List.set_cons_succ]
                  refine wpAnyH_ready (rs := [7]) (by kernel_rfl) (by simp) ?_
                  refine (AllReadyH.cons (get_os (get_os (get_os (get_os (get_os (get_os (get_os (get_o0)))))))) (fun KK hKK => ?_) AllReadyH.nil)
                  refine step_buildSlice1v rfl E_text (.tmp 64) rfl (.string ⟨nm.toArray⟩) rfl #[.string ⟨nm.toArray⟩] rfl rfl (by omega) ?_
                  replace H := Lib.hid (H.out.alloc #[.string ⟨nm.toArray⟩] 9); (try simp only [List.set_cons_zero, List.set_cons_succ, List.cons_append, List.nil_append, List.eraseIdx_cons_zero, List.eraseIdx_cons_succ, List.setIfInBounds_toArray, World.size_alloc, selR, List.getD_cons_zero, List.getD_cons_succ] at H)
                  refine hKK.out _ _ trivial (fun hHeld => ?_)
                  clear hKK KK
                  try simp only [Act.put, List.setIfInBounds_toArray, List.set_cons_zero, List.set_cons_succ]
                  refine wpAnyH_ready (rs := [8]) (by kernel_rfl) (by simp) ?_
                  refine (AllReadyH.cons (get_os (get_os (get_os (get_os (get_os (get_os (get_os (get_os (get_o0))))))))) (fun KK hKK => ?_) AllReadyH.nil)
                  refine step_append0 rfl (.tmp 58) (.tmp 65) _ rfl E_text 0 (Nat.zero_le _) _ j _ rfl (H.out.row 2 rfl) _ 1 1 _ rfl (reads_of_block (H.out.blk 4 rfl) rfl) (by simp [Value.oneCell']) (by unfold maxLen; omega) (by omega) ?_
                  intro vq wq howq hgq hatq
                  replace H := Lib.hid (H.out.setRow 2 rfl hgq howq hatq); (try simp only [List.set_cons_zero, List.set_cons_succ, List.cons_append, List.nil_append, List.eraseIdx_cons_zero, List.eraseIdx_cons_succ, List.setIfInBounds_toArray, World.size_alloc, selR, List.getD_cons_zero, List.getD_cons_succ] at H)
                  clear howq hgq hatq
                  obtain ⟨A9, c9, rfl, _⟩ := own_slice (H.out.row 2 rfl)
                  refine hKK.out _ _ trivial (fun hHeld => ?_)
                  clear hKK KK
                  try simp only [Act.put, List.setIfInBounds_toArray, List.set_cons_zero, List.set_cons_succ]
                  refine wpAnyH_ready (rs := [11]) (by kernel_rfl) (by simp) ?_
                  refine (AllReadyH.cons (get_ot (get_os (get_o0))) (fun KK hKK => ?_) AllReadyH.nil)
                  go_simp
                  refine hKK.out _ _ trivial (fun hHeld => ?_)
                  clear hKK KK
                  try simp only [Act.put, List.setIfInBounds_toArray, List.set_cons_zero, List.set_cons_succ]
                  refine wpAnyH_ready (rs := [12]) (by kernel_rfl) (by simp) ?_
                  refine (AllReadyH.cons (get_ot (get_os (get_os (get_o0)))) (fun KK hKK => ?_) AllReadyH.nil)
                  go_simp
                  refine hKK.out _ _ trivial (fun hHeld => ?_)
                  clear hKK KK
                  try simp only [Act.put, List.setIfInBounds_toArray, List.set_cons_zero, List.set_cons_succ]
                  refine wpAnyH_done (by kernel_rfl) ?_ _
                  clear hHeld
                  replace H := Lib.hid (H.out.sel [0, 1, 2] (by decide) (by simp)); (try simp only [List.set_cons_zero, List.set_cons_succ, List.cons_append, List.nil_append, List.eraseIdx_cons_zero, List.eraseIdx_cons_succ, List.setIfInBounds_toArray, World.size_alloc, selR, List.getD_cons_zero, List.getD_cons_succ] at H)
                  go_wp2_with fail
                  go_roundg (dn - (k + 1))
                  case rel => exact ⟨k + 1, acc ++ [nm], j + 1, A9, c9, _, _, _, _, rfl, by omega, by go_num, rfl, rfl, by show _ = _; rw [List.length_append, hac.out]; rfl, by rw [List.map_append]; exact H, HN, HKR2, by omega⟩
                  case measure => rw [Hgk.out]; omega
              · have d2 : decide ((Tr.ts.n : Int) ≤ kv) = true := by simp <;> omega
                have d3 : decide (Tr.ts.n ≤ kv) = true := by simp <;> omega
                have HN2 : Hid (namesOf ⟨ds.map Dm.con, ms⟩ (ps.map Pk.con) keys = .error 13) := by show _ = _; rw [HN1.out]; simp only; rw [if_neg hz0, Int.toNat_natCast, show (Tr.con).ts[kv]? = none from List.getElem?_eq_none (by rw [htl.out]; omega)]
                go_wp2
                go_ret2
                rw [HN2.out]
                exact ⟨rfl, H.out.to⟩
      · have HN1 : Hid (namesOf ⟨ds.map Dm.con, ms⟩ (ps.map Pk.con) keys = (match keys.drop jj with | [] => .ok acc | _ :: _ => .error 2)) := by
          show _ = _
          rw [HN.out, List.drop_of_length_le (by have := hl1.out; simp; omega), List.drop_of_length_le (by have := hl2.out; simp; omega), namesFrom_end]
        by_cases hk0 : kn = 0
        · have hnil : keys.drop jj = [] := List.eq_nil_of_length_eq_zero (by rw [kl.out]; exact hk0)
          have HN2 : Hid (namesOf ⟨ds.map Dm.con, ms⟩ (ps.map Pk.con) keys = .ok acc) := by show _ = _; rw [HN1.out, hnil]
          have hjl : acc.length = j := hac.out
          subst hk0
          clear HN HN1
          go_wp2
          go_ret2
          rw [HN2.out]
          refine ⟨B, cB, ?_, H.out.to, ?_⟩
          · rw [hjl]; rfl
          · rw [hjl]; exact H.out.rowB 2 rfl
        · have z3 : decide ((0 : Int) < kn) = true := by simp <;> omega
          have z4 : decide (0 < kn) = true := by simp <;> omega
          have HN2 : Hid (namesOf ⟨ds.map Dm.con, ms⟩ (ps.map Pk.con) keys = .error 2) := by
            show _ = _; rw [HN1.out]
            cases hd : keys.drop jj with
            | nil => exact absurd (by rw [← kl.out, hd]; rfl) hk0
            | cons a r => rfl
          clear HN HN1
          go_wp2
          go_ret2
          rw [HN2.out]
          exact ⟨rfl, H.out.to⟩
  · have HN : Hid (namesOf ⟨ds.map Dm.con, ms⟩ (ps.map Pk.con) keys = .error (askErr ⟨ds.map Dm.con, ms⟩ (ps.map Pk.con))) := by show _ = _; unfold namesOf; rw [if_pos hE]
    have z1 : (askErr ⟨ds.map Dm.con, ms⟩ (ps.map Pk.con) != 0) = true := by simpa using hE
    have z2 : (askErr ⟨ds.map Dm.con, ms⟩ (ps.map Pk.con) == 0) = false := by simpa using hE
    clear hE
    go_wp2
    go_ret2
    rw [HN.out]
    exact ⟨rfl, H.out.to⟩

end Go.Proofs.Ytigjghfonpfdlaa
