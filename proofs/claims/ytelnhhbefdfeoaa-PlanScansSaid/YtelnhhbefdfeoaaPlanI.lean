/- plan.scan. -/
import Derived.Test.YtelnhhbefdfeoaaPlanH
import Derived.Test.YtelnhhbefdfeoaaPlanS
namespace Go.Proofs.Ytelnhhbefdfeoaa
open Go.RowKit
set_option linter.unusedVariables false
set_option linter.unusedSimpArgs false


def ksF (f : Nat → Bool) (n : Nat) : List Nat := (List.range n).filter f
theorem ksF_yes {f : Nat → Bool} {k : Nat} (h : f k = true) : ksF f (k + 1) = ksF f k ++ [k] := by unfold ksF; rw [List.range_succ, List.filter_append, List.filter_cons_of_pos h]; rfl
theorem ksF_no {f : Nat → Bool} {k : Nat} (h : f k = false) : ksF f (k + 1) = ksF f k := by unfold ksF; rw [List.range_succ, List.filter_append, List.filter_cons_of_neg (by rw [h]; simp)]; simp
theorem ksF_lt {f : Nat → Bool} {n j : Nat} (h : j ∈ ksF f n) : j < n := by unfold ksF at h; rw [List.mem_filter, List.mem_range] at h; exact h.1
theorem map_mapI (gl : Nat → Int) (l : List Nat) : (l.map gl).map (Value.int .i64) = l.map (fun (j : Nat) => Value.int .i64 (gl j)) := by rw [List.map_map]; rfl
theorem map_mapK (l : List Nat) : (l.map (fun (j : Nat) => (j : Int))).map (Value.int .i64) = l.map (fun (j : Nat) => Value.int .i64 j) := by rw [List.map_map]; rfl
theorem own_blkF {w : World} {e : TypeId} {size n c : Nat} {A : Option Addr} {xs : List Value} (h : w.ownsRow 0 e size (.slice A n c) n xs) (hn : 0 < n) : ∃ g, A = some ⟨g, 0, none⟩ := by
  rcases h.2 with ⟨h0, h1⟩ | ⟨g', cap, cur, hv, _⟩
  · omega
  · injection hv with hv1 _ _
    exact ⟨g', hv1⟩
theorem own_int {w : World} {base : Nat} {e : TypeId} {g n c k : Nat} {xs : List Int} {v : Int} (h : w.ownsRow base e 1 (.slice (some ⟨g, 0, none⟩) n c) n (xs.map (Value.int .i64))) (hk : xs[k]? = some v) : w.cell? ⟨g, k, none⟩ = some (.int .i64 v) := by
  have hl : n = xs.length := by have := h.1; rw [List.length_map] at this; omega
  have hkn : k < n := by rw [hl]; exact (List.getElem?_eq_some_iff.1 hk).1
  obtain ⟨ad, z, e1, e2, e3⟩ := Rd.int (Rd.of_own h) hkn
  injection e1 with e1
  subst e1
  rw [hk] at e2
  injection e2 with e2
  subst e2
  rw [Addr.add_mid, Nat.zero_add] at e3
  exact e3
set_option maxRecDepth 100000 in
set_option maxHeartbeats 4000000 in
theorem scan_any (D : Dm) (p : Pk) (w : World) (hD : D.rd w) (hp : p.rd w) (hE : pickErr D.con p.con = 0) (hd : dimErr D.con = 0) :
    Calls Try.prog 44 #[.agg D.cs, .agg p.cs] w (ScPost (scanOf D.con p.con) w) := by
  have hd2 := dimErr_zero hd
  have hok : AllOk (D.tr.l.map Tir.con) := dimFrom_ok hd2.2.2.2
  have hDl : D.tr.l.length = D.tr.n := hD.tr.len
  rcases tier_cases hE hd2.2.1 with ⟨e, _, _⟩ | ⟨T, M, B, t⟩
  · have hs := scan_nil D p w hD hp e
    rw [show scanOf D.con p.con = ⟨-1, [], []⟩ by unfold scanOf; rw [if_pos (by omega)]]
    exact hs
  have hml : M < D.tr.l.length := by have := t.ml; rw [show D.con.trs.length = D.tr.l.length from List.length_map ..] at this; exact this
  have hbl : B < D.tr.l.length := by have := t.bl; rw [show D.con.trs.length = D.tr.l.length from List.length_map ..] at this; exact this
  have hn4 : D.tr.n ≤ 4 := by have := hd2.2.2.1; rw [show D.con.trs.length = D.tr.l.length from List.length_map ..] at this; omega
  have htm := t.tm
  have htb := t.tb
  obtain ⟨TT, hTT⟩ : ∃ X, D.tr.l[T]? = some X := ⟨_, List.getElem?_eq_getElem (by omega)⟩
  obtain ⟨TM, hTM⟩ : ∃ X, D.tr.l[M]? = some X := ⟨_, List.getElem?_eq_getElem hml⟩
  obtain ⟨TB, hTB⟩ : ∃ X, D.tr.l[B]? = some X := ⟨_, List.getElem?_eq_getElem hbl⟩
  have hts : ∀ X ∈ D.tr.l, RiseT X.ts.l ∧ X.ts.n ≤ 200 ∧ X.ts.l.length = X.ts.n := fun X hX => by
    have h4 := dim_terms hd X.con (List.mem_map.2 ⟨X, hX, rfl⟩)
    have h5 : X.ts.l.length = X.ts.n := Row.rd.len (Tir.rd.ts (Row.rd.all (Dm.rd.tr hD) X hX))
    exact ⟨riseT_row h4.1, by have := h4.2; simp only at this; omega, h5⟩
  have hMh := hts TM (List.mem_of_getElem? hTM)
  have hNh := hts TT (List.mem_of_getElem? hTT)
  have hBh := hts TB (List.mem_of_getElem? hTB)
  have hNs : sizeAt (D.tr.l.map Tir.con) T = TT.ts.n := by rw [sizeAt_tir hTT]; exact hNh.2.2
  have hMs : sizeAt (D.tr.l.map Tir.con) M = TM.ts.n := by rw [sizeAt_tir hTM]; exact hMh.2.2
  have hBs : sizeAt (D.tr.l.map Tir.con) B = TB.ts.n := by rw [sizeAt_tir hTB]; exact hBh.2.2
  have hlets : ∀ x : Int, letsOf D.con p.con x = letsT p.con ((TM.ts.l[x.toNat]?).getD []) := fun x => by
    unfold letsOf letsT
    by_cases h0 : p.f = 0
    · rw [if_pos (show p.con.f = 0 from h0), if_pos (show p.con.f = 0 from h0)]
    · have hm := t.pm h0
      have ht : termAt D.con p.con.t x = (TM.ts.l[x.toNat]?).getD [] := by
        unfold termAt
        rw [hm, Int.toNat_natCast, show D.con.trs[M]? = some TM.con by show (D.tr.l.map Tir.con)[M]? = _; rw [List.getElem?_map, hTM]; rfl]
        rfl
      rw [ht]
  obtain ⟨f, hf⟩ : ∃ f : Nat → Bool, f = fun (k : Nat) => letsT p.con ((TM.ts.l[(liftOf (D.tr.l.map Tir.con) T M k).toNat]?).getD []) := ⟨_, rfl⟩
  obtain ⟨gl, hgl⟩ : ∃ gl : Nat → Int, gl = fun (k : Nat) => liftOf (D.tr.l.map Tir.con) T B k := ⟨_, rfl⟩
  obtain ⟨FF, hFF⟩ : ∃ F : Nat → Bool, F = fun (k : Nat) => letsT p.con ((TM.ts.l[k]?).getD []) := ⟨_, rfl⟩
  have hscan : scanOf D.con p.con = ⟨T, (ksF f TT.ts.n).map (fun (j : Nat) => (j : Int)), if p.g = true then (ksF f TT.ts.n).map gl else []⟩ := by
    unfold scanOf scanKeys ksF
    rw [if_neg (by have := t.t; omega), t.m, t.b, t.t, Int.toNat_natCast, show sizeAt D.con.trs T = TT.ts.n from hNs, hf, hgl]
    simp only [hlets]
  have HT := Lib.hid (fun w' (hb : Bel w w') => ptier_any p w' (hp.mono hb))
  rw [t.t] at HT
  have HP := Lib.hid (fun w' (hb : Bel w w') => pass_any w w' hb D p hD hp M TM hTM hMh.1 (by omega) t.pm t.f)
  rw [← hFF] at HP
  have t64 : I64 (T : Int) := by unfold I64; omega
  have m64 : I64 (M : Int) := by unfold I64; omega
  have b64 : I64 (B : Int) := by unfold I64; omega
  have HM1 := Lib.hid (fun w' (hb : Bel w w') => dmmap_any D T M w' (hD.mono hb) t64 m64 (by omega) (fun X hX => by have := (hts X hX).2.1; omega))
  have HM2 := Lib.hid (fun w' (hb : Bel w w') => dmmap_any D T B w' (hD.mono hb) t64 b64 (by omega) (fun X hX => by have := (hts X hX).2.1; omega))
  have hxm : (mapOf (D.tr.l.map Tir.con) T M).length = TT.ts.n := by rw [mapOf_len (by omega) (by rw [List.length_map]; omega)]; exact hNs
  have hxb : (mapOf (D.tr.l.map Tir.con) T B).length = TT.ts.n := by rw [mapOf_len (by omega) (by rw [List.length_map]; omega)]; exact hNs
  have HLM : Hid (∀ k, k < TT.ts.n → ∃ j : Nat, (mapOf (D.tr.l.map Tir.con) T M)[k]? = some (j : Int) ∧ j < TM.ts.n ∧ f k = FF j) := fun k hk => by
    have h := lift_within hok htm (by rw [List.length_map]; exact hml) (by rw [hNs]; exact hk)
    refine ⟨(liftOf (D.tr.l.map Tir.con) T M k).toNat, ?_, ?_, by rw [hf, hFF]⟩
    · rw [mapOf_get (by rw [hxm]; exact hk)]
      congr 1
      omega
    · have := h.2.2; rw [hMs] at this; omega
  have HGK : Hid (∀ k, k < TT.ts.n → (mapOf (D.tr.l.map Tir.con) T B)[k]? = some (gl k)) := fun k hk => by rw [mapOf_get (by rw [hxb]; exact hk), hgl]
  have HI1 : Hid (∀ x ∈ (ksF f TT.ts.n).map (fun (j : Nat) => (j : Int)), I64 x) := fun x hx => by
    obtain ⟨j, hj, rfl⟩ := List.mem_map.1 hx
    have := ksF_lt hj
    unfold I64
    omega
  have HI2 : Hid (∀ x ∈ (ksF f TT.ts.n).map gl, I64 x) := fun x hx => by
    obtain ⟨j, hj, rfl⟩ := List.mem_map.1 hx
    have h := lift_within hok htb (by rw [List.length_map]; exact hbl) (by rw [hNs]; exact ksF_lt hj)
    rw [hgl]
    unfold I64
    have h1 := h.2.1
    have h2 := h.2.2
    rw [hBs] at h2
    simp only
    omega
  generalize mapOf (D.tr.l.map Tir.con) T M = XM at *
  generalize mapOf (D.tr.l.map Tir.con) T B = XB at *
  have HXM := Lib.hid hxm
  have HXB := Lib.hid hxb
  have HTT := Lib.hid hTT
  have HD := Lib.hid (fun w' (hb : Bel w w') => hD.tr.mono hb)
  have hTn : T < D.tr.n := by omega
  obtain ⟨N, hN⟩ : ∃ N, N = TT.ts.n := ⟨_, rfl⟩
  obtain ⟨mn, hmn⟩ : ∃ N, N = TM.ts.n := ⟨_, rfl⟩
  have HNN : Hid (TT.ts.n = N) := hN.symm
  have hN200 : N ≤ 200 := by have := hNh.2.1; omega
  have HFin := Lib.hid hscan
  have tm := t.m
  have tb := t.b
  rw [t.t] at tm tb
  have hT64 := t64
  rw [← hN] at HXM HXB HLM HGK HI1 HI2 HFin
  rw [← hmn] at HP HLM
  have H := Lib.hid ((((SL.start No w).alloc D.cs 66).alloc p.cs 59).alloc #[.int .i64 0, .slice none 0 0, .slice none 0 0] 62)
  (try simp only [List.set_cons_zero, List.set_cons_succ, List.cons_append, List.nil_append, List.eraseIdx_cons_zero, List.eraseIdx_cons_succ, List.setIfInBounds_toArray, World.size_alloc, selR, List.getD_cons_zero, List.getD_cons_succ] at H)
  have HQF : Hid (∀ e w', (∃ X : Scn, e = .returned (.agg X.cs) ∧ X.con = scanOf D.con p.con ∧ Bel w w' ∧ NewR w w' (rScn X)) → ScPost (scanOf D.con p.con) w e w') := fun e w' h => h
  generalize scanOf D.con p.con = SO at *
  clear hD hp hE hd hd2 hok t hts hMh hNh hBh hNs hMs hBs hlets hf hgl hFF hscan hxm hxb hTT hTM hTB hml hbl hN hmn m64 b64 t64 hDl htm htb
  obtain ⟨pf, pt, lo, hi, ⟨A, n, c, set⟩, g, pb⟩ := p
  obtain ⟨nm, ⟨A2, n2, cp2, trs⟩⟩ := D
  simp only [Pk.cs, Dm.cs] at *
  cases g with
  | false =>
    simp only [Bool.false_eq_true, if_false] at HFin
    go_enter Try.func44, Try.ntmps44
    go_wp2_with ((with_reducible show wpList _ _ _ (⟨some 10, _, _, _, _, _⟩ :: _) _ _); (refine wpList_load_blk rfl rowPk (.tmp 3) rfl _ rfl (H.out.blk 1 rfl) rfl ?_))
    refine (HT.out _ H.out.to).mono ?_; rintro e w1 ⟨rfl, hb1⟩
    replace H := Lib.hid (H.out.bel hb1); (try simp only [List.set_cons_zero, List.set_cons_succ, List.cons_append, List.nil_append, List.eraseIdx_cons_zero, List.eraseIdx_cons_succ, List.setIfInBounds_toArray, World.size_alloc, selR, List.getD_cons_zero, List.getD_cons_succ] at H)
    clear hb1 HT
    generalize w.heap.size + 1 + 1 = z at *
    generalize w.heap.size + 1 = y at *
    generalize w.heap.size = x at *
    go_upto_region 2 with (first | ((with_reducible show wpList _ _ _ (⟨some 12, _, _, _, _, _⟩ :: _) _ _); refine wpList_build1 (v := .agg #[.int .i64 T, .slice none 0 0, .slice none 0 0]) rfl (.tmp 11) rfl rfl (by intro w; kernel_rfl) ?_) | ((with_reducible show wpList _ _ _ (⟨_, .store _ (.tmp 5) _, _, _, _, _⟩ :: _) _ _); (refine wpList_store_new rfl rowScan (.tmp 5) (.tmp 12) rfl rfl rfl (#[.int .i64 T, .slice none 0 0, .slice none 0 0]) rfl rfl (by simp [Value.oneCell']) ?_; replace H := Lib.hid (H.out.alloc (#[.int .i64 T, .slice none 0 0, .slice none 0 0]) 62); (try simp only [List.set_cons_zero, List.set_cons_succ, List.cons_append, List.nil_append, List.eraseIdx_cons_zero, List.eraseIdx_cons_succ, List.setIfInBounds_toArray, World.size_alloc, selR, List.getD_cons_zero, List.getD_cons_succ] at H))))
    (try simp only [Act.put, List.setIfInBounds_toArray, List.set_cons_zero, List.set_cons_succ])
    generalize w1.heap.size = u at *
    generalize World.alloc w1 _ = w2 at *
    have ct := (H.out.blk 3 rfl).cell 0
    have ct : w2.cell? ⟨u, 0, none⟩ = some (.int .i64 T) := ct
    have t0 : decide ((T : Int) < 0) = false := by simp <;> omega
    go_wp2_with (first | ((with_reducible show wpList _ _ _ (⟨some 17, _, _, _, _, _⟩ :: _) _ _); (refine wpList_load_blk rfl rowDm (.tmp 2) rfl _ rfl (H.out.blk 0 rfl) rfl ?_)) | ((with_reducible show wpList _ _ _ (⟨some 18, _, _, _, _, _⟩ :: _) _ _); (refine wpList_load_blk rfl rowPk (.tmp 3) rfl _ rfl (H.out.blk 1 rfl) rfl ?_)))
    refine (HP.out _ H.out.to).mono ?_; rintro e w3 ⟨FN, caps, DS, rfl, hcf, hb3, hN3⟩
    replace H := Lib.hid (H.out.add hb3 (rPass w FN caps DS mn FF) hN3.1 hN3.2); (try simp only [List.set_cons_zero, List.set_cons_succ, List.cons_append, List.nil_append, List.eraseIdx_cons_zero, List.eraseIdx_cons_succ, List.setIfInBounds_toArray, World.size_alloc, selR, List.getD_cons_zero, List.getD_cons_succ] at H)
    clear hb3 hN3 HP ct
    have ct : w3.cell? ⟨u, 0, none⟩ = some (.int .i64 T) := (H.out.blk 3 rfl).cell 0
    have cp : w3.cell? ⟨y, 1, none⟩ = some (.int .i64 pt) := (H.out.blk 1 rfl).cell 1
    go_wp2_with ((with_reducible show wpList _ _ _ (⟨some 20, _, _, _, _, _⟩ :: _) _ _); (refine wpList_load_blk rfl rowDm (.tmp 2) rfl _ rfl (H.out.blk 0 rfl) rfl ?_))
    refine (HM1.out _ H.out.to).mono ?_; rintro e w4 ⟨LA, lc, rfl, hb4, ho4⟩
    replace H := Lib.hid (H.out.addRow hb4 ho4); (try simp only [List.set_cons_zero, List.set_cons_succ, List.cons_append, List.nil_append, List.eraseIdx_cons_zero, List.eraseIdx_cons_succ, List.setIfInBounds_toArray, World.size_alloc, selR, List.getD_cons_zero, List.getD_cons_succ] at H)
    rw [HXM.out] at H ⊢
    clear hb4 ho4 HM1 ct cp
    have ct : w4.cell? ⟨u, 0, none⟩ = some (.int .i64 T) := (H.out.blk 3 rfl).cell 0
    have cp : w4.cell? ⟨y, 6, none⟩ = some (.int .i64 pb) := (H.out.blk 1 rfl).cell 6
    go_wp2_with ((with_reducible show wpList _ _ _ (⟨some 29, _, _, _, _, _⟩ :: _) _ _); (refine wpList_load_blk rfl rowDm (.tmp 2) rfl _ rfl (H.out.blk 0 rfl) rfl ?_))
    refine (HM2.out _ H.out.to).mono ?_; rintro e w5 ⟨GA, gc, rfl, hb5, ho5⟩
    replace H := Lib.hid (H.out.addRow hb5 ho5); (try simp only [List.set_cons_zero, List.set_cons_succ, List.cons_append, List.nil_append, List.eraseIdx_cons_zero, List.eraseIdx_cons_succ, List.setIfInBounds_toArray, World.size_alloc, selR, List.getD_cons_zero, List.getD_cons_succ] at H)
    rw [HXB.out] at H ⊢
    clear hb5 ho5 HM2 ct cp
    obtain ⟨bt, ot, T', hA, hbt, hT', hTr, hrg⟩ := (HD.out _ H.out.to).tirAt (k := T) hTn
    obtain rfl : TT = T' := by rw [HTT.out] at hT'; injection hT'
    simp only at hA
    subst hA
    have hrc := hrg 1 (.slice TT.ts.A TT.ts.n TT.ts.c) rfl
    rw [HNN.out] at hrc
    have ct : w5.cell? ⟨u, 0, none⟩ = some (.int .i64 T) := (H.out.blk 3 rfl).cell 0
    have cd : w5.cell? ⟨x, 1, none⟩ = some (.slice (some ⟨bt, ot, none⟩) n2 cp2) := (H.out.blk 0 rfl).cell 1
    have i0 : (0 : Int) ≤ T := by omega
    have i1 : (T : Int) < n2 := by omega
    clear hrg hT' hTr
    replace H := Lib.hid (H.out.addNil 3 1); (try simp only [List.set_cons_zero, List.set_cons_succ, List.cons_append, List.nil_append, List.eraseIdx_cons_zero, List.eraseIdx_cons_succ, List.setIfInBounds_toArray, World.size_alloc, selR, List.getD_cons_zero, List.getD_cons_succ] at H)
    skip
    have HL0 : Hid ((ksF f 0).length = 0) := rfl
    go_upto_region 8 with fail
    clear hrc ct cd t0 hbt
    go_loopg [46] N (fun gg s46 wr => ∃ (k q : Nat) (KA : Option Addr) (kc : Nat), gg = N - k ∧ k ≤ N ∧ q ≤ k ∧ s46 = .int .i64 k ∧ Hid ((ksF f k).length = q) ∧ Hid (SL No w wr [rBlk x 66 #[.string ⟨nm.toArray⟩, .slice (some ⟨bt, ot, none⟩) n2 cp2], rBlk y 59 #[.int .i64 pf, .int .i64 pt, .string ⟨lo.toArray⟩, .string ⟨hi.toArray⟩, .slice A n c, .bool false, .int .i64 pb], rBlk z 62 #[.int .i64 0, .slice none 0 0, .slice none 0 0], rBlk u 62 #[.int .i64 T, .slice KA q kc, .slice none 0 0], rPass w FN caps DS mn FF, rRow 3 1 (.slice LA N lc) N (XM.map (Value.int .i64)), rRow 3 1 (.slice GA N gc) N (XB.map (Value.int .i64)), rRow 3 1 (.slice KA q kc) q ((ksF f k).map (fun (j : Nat) => Value.int .i64 j))]))
    case atStart => exact ⟨0, 0, none, 0, rfl, by omega, by omega, rfl, HL0, H⟩
    case round =>
      clear H HL0
      obtain ⟨k, q, KA, kc, hgk, hk, hqk, rfl, HL, H⟩ := hrel
      have Hgk := Lib.hid hgk
      clear hgk
      by_cases hlt : k < N
      · obtain ⟨lb, rfl⟩ := own_blkF (H.out.row 5 rfl) (by omega)
        obtain ⟨j, hj, hjm, hfj⟩ := HLM.out k hlt
        have cl : wr.cell? ⟨lb, k, none⟩ = some (.int .i64 j) := own_int (H.out.row 5 rfl) hj
        have HC := Lib.hid ((H.out.at_ 4 rfl) H.out.to j hjm)
        have k0 : (0 : Int) ≤ k := by omega
        have k1 : (k : Int) < N := by omega
        rw [← hfj] at HC
        clear hj hjm hfj
        cases hfk : f k with
        | false =>
          rw [hfk] at HC
          have HK1 : Hid (ksF f (k + 1) = ksF f k) := ksF_no hfk
          clear hfk
          go_wp2_with fail
          refine HC.out.mono ?_; rintro e w6 ⟨rfl, hb6⟩
          replace H := Lib.hid (H.out.bel hb6); (try simp only [List.set_cons_zero, List.set_cons_succ, List.cons_append, List.nil_append, List.eraseIdx_cons_zero, List.eraseIdx_cons_succ, List.setIfInBounds_toArray, World.size_alloc, selR, List.getD_cons_zero, List.getD_cons_succ] at H)
          clear hb6 HC cl
          go_wp2_with fail
          rw [← HK1.out] at H HL
          go_roundg (N - (k + 1))
          case rel => exact ⟨k + 1, q, KA, kc, rfl, by omega, by omega, by go_num, HL, H⟩
          case measure => rw [Hgk.out]; omega
        | true =>
          rw [hfk] at HC
          have HK1 : Hid ((ksF f (k + 1)).map (fun (j : Nat) => Value.int .i64 j) = (ksF f k).map (fun (j : Nat) => Value.int .i64 j) ++ [.int .i64 k]) := by show _ = _; rw [ksF_yes hfk, List.map_append]; rfl
          have HKL : Hid ((ksF f (k + 1)).length = q + 1) := by show _ = _; rw [ksF_yes hfk, List.length_append, HL.out]; rfl
          clear hfk
          go_wp2_with fail
          refine HC.out.mono ?_; rintro e w6 ⟨rfl, hb6⟩
          replace H := Lib.hid (H.out.bel hb6); (try simp only [List.set_cons_zero, List.set_cons_succ, List.cons_append, List.nil_append, List.eraseIdx_cons_zero, List.eraseIdx_cons_succ, List.setIfInBounds_toArray, World.size_alloc, selR, List.getD_cons_zero, List.getD_cons_succ] at H)
          clear hb6 HC cl
          have ck : w6.cell? ⟨u, 1, none⟩ = some (.slice KA q kc) := (H.out.blk 3 rfl).cell 1
          have cg : w6.cell? ⟨y, 5, none⟩ = some (.bool false) := (H.out.blk 1 rfl).cell 5
          go_upto_region 11 with fail
          go_upto_region 12 with ((with_reducible show wpList _ _ _ (⟨some 60, _, _, _, _, _⟩ :: _) _ _); (replace H := Lib.hid (H.out.alloc #[.int .i64 k] 3); (try simp only [List.set_cons_zero, List.set_cons_succ, List.cons_append, List.nil_append, List.eraseIdx_cons_zero, List.eraseIdx_cons_succ, List.setIfInBounds_toArray, World.size_alloc, selR, List.getD_cons_zero, List.getD_cons_succ] at H); refine wpList_append0 rfl (.tmp 57) (.tmp 59) _ rfl E_num 0 (Nat.zero_le _) _ q _ rfl (H.out.row 7 rfl) _ 1 1 [.int .i64 k] rfl (reads_of_block (H.out.blk 8 rfl) rfl) (by simp [Value.oneCell']) (by unfold maxLen; omega) (by omega) ?_; intro vq wq howq hgq hatq; replace H := Lib.hid (H.out.setRow 7 rfl hgq howq hatq); (try simp only [List.set_cons_zero, List.set_cons_succ, List.cons_append, List.nil_append, List.eraseIdx_cons_zero, List.eraseIdx_cons_succ, List.setIfInBounds_toArray, World.size_alloc, selR, List.getD_cons_zero, List.getD_cons_succ] at H); clear howq hgq hatq; obtain ⟨KA2, kc2, rfl, _⟩ := own_slice (H.out.row 7 rfl); have hz := (H.out.blk 3 rfl).cell 1; have hy := (H.out.blk 3 rfl).frozen 1; simp only [List.getElem?_toArray, List.getElem?_cons_zero, List.getElem?_cons_succ] at hz))
          replace H := Lib.hid (H.out.setCell 3 rfl 1 (.slice KA2 (q + 1) kc2)); (try simp only [List.set_cons_zero, List.set_cons_succ, List.cons_append, List.nil_append, List.eraseIdx_cons_zero, List.eraseIdx_cons_succ, List.setIfInBounds_toArray, World.size_alloc, selR, List.getD_cons_zero, List.getD_cons_succ] at H)
          clear hz hy ck cg
          replace H := Lib.hid (H.out.sel [0, 1, 2, 3, 4, 5, 6, 7] (by decide) (by simp)); (try simp only [List.set_cons_zero, List.set_cons_succ, List.cons_append, List.nil_append, List.eraseIdx_cons_zero, List.eraseIdx_cons_succ, List.setIfInBounds_toArray, World.size_alloc, selR, List.getD_cons_zero, List.getD_cons_succ] at H)
          have cg := (H.out.blk 1 rfl).cell 5
          simp only [List.getElem?_toArray, List.getElem?_cons_zero, List.getElem?_cons_succ] at cg
          go_wp2_with fail
          clear cg
          rw [← HK1.out] at H
          go_roundg (N - (k + 1))
          case rel => exact ⟨k + 1, q + 1, KA2, kc2, rfl, by omega, by omega, by go_num, HKL, H⟩
          case measure => rw [Hgk.out]; omega
      · obtain rfl : k = N := by omega
        have hq100 : q ≤ 1000000 := by omega
        go_wp2_with (first | ((with_reducible show wpList _ _ _ (⟨some 74, _, _, _, _, _⟩ :: _) _ _); (refine wpList_load_blk rfl rowScan (.tmp 5) rfl _ rfl (H.out.blk 3 rfl) rfl ?_)) | ((with_reducible show wpList _ _ _ (⟨_, .store _ (.tmp 4) _, _, _, _, _⟩ :: _) _ _); (refine wpList_store_blk rfl rowScan (.tmp 4) (.tmp 74) rfl _ rfl (H.out.blk 2 rfl) rfl (#[.int .i64 T, .slice KA q kc, .slice none 0 0]) rfl rfl (by simp [Value.oneCell']) ?_; intro wq bq hgq; replace H := Lib.hid (H.out.setBlk 2 rfl hgq bq); (try simp only [List.set_cons_zero, List.set_cons_succ, List.cons_append, List.nil_append, List.eraseIdx_cons_zero, List.eraseIdx_cons_succ, List.setIfInBounds_toArray, World.size_alloc, selR, List.getD_cons_zero, List.getD_cons_succ] at H); clear hgq bq)))
        refine bodyPost_ret (results_blk1 rfl rowScan rfl (H.out.blk 2 rfl) rfl) rfl ?_
        refine ⟨⟨T, ⟨KA, q, kc, (ksF f k).map (fun (j : Nat) => (j : Int))⟩, ⟨none, 0, 0, []⟩⟩, rfl, HFin.out.symm, H.out.to, ?_, ?_⟩
        · exact holds_scn hT64 (by have h := H.out.get 7 rfl; rw [← map_mapK] at h; exact h) (holds_row (World.ownsRow_nil _ 0 _ _)) HI1.out (fun x hx => by cases hx) hq100 (Nat.zero_le _)
        · rintro g (h | h)
          · exact H.out.new 7 rfl g h
          · simp [Row.v, Value.ownBlock] at h
  | true =>
    simp only [if_true] at HFin
    go_enter Try.func44, Try.ntmps44
    go_wp2_with ((with_reducible show wpList _ _ _ (⟨some 10, _, _, _, _, _⟩ :: _) _ _); (refine wpList_load_blk rfl rowPk (.tmp 3) rfl _ rfl (H.out.blk 1 rfl) rfl ?_))
    refine (HT.out _ H.out.to).mono ?_; rintro e w1 ⟨rfl, hb1⟩
    replace H := Lib.hid (H.out.bel hb1); (try simp only [List.set_cons_zero, List.set_cons_succ, List.cons_append, List.nil_append, List.eraseIdx_cons_zero, List.eraseIdx_cons_succ, List.setIfInBounds_toArray, World.size_alloc, selR, List.getD_cons_zero, List.getD_cons_succ] at H)
    clear hb1 HT
    generalize w.heap.size + 1 + 1 = z at *
    generalize w.heap.size + 1 = y at *
    generalize w.heap.size = x at *
    go_upto_region 2 with (first | ((with_reducible show wpList _ _ _ (⟨some 12, _, _, _, _, _⟩ :: _) _ _); refine wpList_build1 (v := .agg #[.int .i64 T, .slice none 0 0, .slice none 0 0]) rfl (.tmp 11) rfl rfl (by intro w; kernel_rfl) ?_) | ((with_reducible show wpList _ _ _ (⟨_, .store _ (.tmp 5) _, _, _, _, _⟩ :: _) _ _); (refine wpList_store_new rfl rowScan (.tmp 5) (.tmp 12) rfl rfl rfl (#[.int .i64 T, .slice none 0 0, .slice none 0 0]) rfl rfl (by simp [Value.oneCell']) ?_; replace H := Lib.hid (H.out.alloc (#[.int .i64 T, .slice none 0 0, .slice none 0 0]) 62); (try simp only [List.set_cons_zero, List.set_cons_succ, List.cons_append, List.nil_append, List.eraseIdx_cons_zero, List.eraseIdx_cons_succ, List.setIfInBounds_toArray, World.size_alloc, selR, List.getD_cons_zero, List.getD_cons_succ] at H))))
    (try simp only [Act.put, List.setIfInBounds_toArray, List.set_cons_zero, List.set_cons_succ])
    generalize w1.heap.size = u at *
    generalize World.alloc w1 _ = w2 at *
    have ct := (H.out.blk 3 rfl).cell 0
    have ct : w2.cell? ⟨u, 0, none⟩ = some (.int .i64 T) := ct
    have t0 : decide ((T : Int) < 0) = false := by simp <;> omega
    go_wp2_with (first | ((with_reducible show wpList _ _ _ (⟨some 17, _, _, _, _, _⟩ :: _) _ _); (refine wpList_load_blk rfl rowDm (.tmp 2) rfl _ rfl (H.out.blk 0 rfl) rfl ?_)) | ((with_reducible show wpList _ _ _ (⟨some 18, _, _, _, _, _⟩ :: _) _ _); (refine wpList_load_blk rfl rowPk (.tmp 3) rfl _ rfl (H.out.blk 1 rfl) rfl ?_)))
    refine (HP.out _ H.out.to).mono ?_; rintro e w3 ⟨FN, caps, DS, rfl, hcf, hb3, hN3⟩
    replace H := Lib.hid (H.out.add hb3 (rPass w FN caps DS mn FF) hN3.1 hN3.2); (try simp only [List.set_cons_zero, List.set_cons_succ, List.cons_append, List.nil_append, List.eraseIdx_cons_zero, List.eraseIdx_cons_succ, List.setIfInBounds_toArray, World.size_alloc, selR, List.getD_cons_zero, List.getD_cons_succ] at H)
    clear hb3 hN3 HP ct
    have ct : w3.cell? ⟨u, 0, none⟩ = some (.int .i64 T) := (H.out.blk 3 rfl).cell 0
    have cp : w3.cell? ⟨y, 1, none⟩ = some (.int .i64 pt) := (H.out.blk 1 rfl).cell 1
    go_wp2_with ((with_reducible show wpList _ _ _ (⟨some 20, _, _, _, _, _⟩ :: _) _ _); (refine wpList_load_blk rfl rowDm (.tmp 2) rfl _ rfl (H.out.blk 0 rfl) rfl ?_))
    refine (HM1.out _ H.out.to).mono ?_; rintro e w4 ⟨LA, lc, rfl, hb4, ho4⟩
    replace H := Lib.hid (H.out.addRow hb4 ho4); (try simp only [List.set_cons_zero, List.set_cons_succ, List.cons_append, List.nil_append, List.eraseIdx_cons_zero, List.eraseIdx_cons_succ, List.setIfInBounds_toArray, World.size_alloc, selR, List.getD_cons_zero, List.getD_cons_succ] at H)
    rw [HXM.out] at H ⊢
    clear hb4 ho4 HM1 ct cp
    have ct : w4.cell? ⟨u, 0, none⟩ = some (.int .i64 T) := (H.out.blk 3 rfl).cell 0
    have cp : w4.cell? ⟨y, 6, none⟩ = some (.int .i64 pb) := (H.out.blk 1 rfl).cell 6
    go_wp2_with ((with_reducible show wpList _ _ _ (⟨some 29, _, _, _, _, _⟩ :: _) _ _); (refine wpList_load_blk rfl rowDm (.tmp 2) rfl _ rfl (H.out.blk 0 rfl) rfl ?_))
    refine (HM2.out _ H.out.to).mono ?_; rintro e w5 ⟨GA, gc, rfl, hb5, ho5⟩
    replace H := Lib.hid (H.out.addRow hb5 ho5); (try simp only [List.set_cons_zero, List.set_cons_succ, List.cons_append, List.nil_append, List.eraseIdx_cons_zero, List.eraseIdx_cons_succ, List.setIfInBounds_toArray, World.size_alloc, selR, List.getD_cons_zero, List.getD_cons_succ] at H)
    rw [HXB.out] at H ⊢
    clear hb5 ho5 HM2 ct cp
    obtain ⟨bt, ot, T', hA, hbt, hT', hTr, hrg⟩ := (HD.out _ H.out.to).tirAt (k := T) hTn
    obtain rfl : TT = T' := by rw [HTT.out] at hT'; injection hT'
    simp only at hA
    subst hA
    have hrc := hrg 1 (.slice TT.ts.A TT.ts.n TT.ts.c) rfl
    rw [HNN.out] at hrc
    have ct : w5.cell? ⟨u, 0, none⟩ = some (.int .i64 T) := (H.out.blk 3 rfl).cell 0
    have cd : w5.cell? ⟨x, 1, none⟩ = some (.slice (some ⟨bt, ot, none⟩) n2 cp2) := (H.out.blk 0 rfl).cell 1
    have i0 : (0 : Int) ≤ T := by omega
    have i1 : (T : Int) < n2 := by omega
    clear hrg hT' hTr
    replace H := Lib.hid (H.out.addNil 3 1); (try simp only [List.set_cons_zero, List.set_cons_succ, List.cons_append, List.nil_append, List.eraseIdx_cons_zero, List.eraseIdx_cons_succ, List.setIfInBounds_toArray, World.size_alloc, selR, List.getD_cons_zero, List.getD_cons_succ] at H)
    replace H := Lib.hid (H.out.addNil 3 1); (try simp only [List.set_cons_zero, List.set_cons_succ, List.cons_append, List.nil_append, List.eraseIdx_cons_zero, List.eraseIdx_cons_succ, List.setIfInBounds_toArray, World.size_alloc, selR, List.getD_cons_zero, List.getD_cons_succ] at H)
    have HL0 : Hid ((ksF f 0).length = 0) := rfl
    go_upto_region 8 with fail
    clear hrc ct cd t0 hbt
    go_loopg [46] N (fun gg s46 wr => ∃ (k q : Nat) (KA : Option Addr) (kc : Nat) (IA : Option Addr) (ic : Nat), gg = N - k ∧ k ≤ N ∧ q ≤ k ∧ s46 = .int .i64 k ∧ Hid ((ksF f k).length = q) ∧ Hid (SL No w wr [rBlk x 66 #[.string ⟨nm.toArray⟩, .slice (some ⟨bt, ot, none⟩) n2 cp2], rBlk y 59 #[.int .i64 pf, .int .i64 pt, .string ⟨lo.toArray⟩, .string ⟨hi.toArray⟩, .slice A n c, .bool true, .int .i64 pb], rBlk z 62 #[.int .i64 0, .slice none 0 0, .slice none 0 0], rBlk u 62 #[.int .i64 T, .slice KA q kc, .slice IA q ic], rPass w FN caps DS mn FF, rRow 3 1 (.slice LA N lc) N (XM.map (Value.int .i64)), rRow 3 1 (.slice GA N gc) N (XB.map (Value.int .i64)), rRow 3 1 (.slice KA q kc) q ((ksF f k).map (fun (j : Nat) => Value.int .i64 j)), rRow 3 1 (.slice IA q ic) q ((ksF f k).map (fun (j : Nat) => Value.int .i64 (gl j)))]))
    case atStart => exact ⟨0, 0, none, 0, none, 0, rfl, by omega, by omega, rfl, HL0, H⟩
    case round =>
      clear H HL0
      obtain ⟨k, q, KA, kc, IA, ic, hgk, hk, hqk, rfl, HL, H⟩ := hrel
      have Hgk := Lib.hid hgk
      clear hgk
      by_cases hlt : k < N
      · obtain ⟨lb, rfl⟩ := own_blkF (H.out.row 5 rfl) (by omega)
        obtain ⟨j, hj, hjm, hfj⟩ := HLM.out k hlt
        have cl : wr.cell? ⟨lb, k, none⟩ = some (.int .i64 j) := own_int (H.out.row 5 rfl) hj
        have HC := Lib.hid ((H.out.at_ 4 rfl) H.out.to j hjm)
        have k0 : (0 : Int) ≤ k := by omega
        have k1 : (k : Int) < N := by omega
        rw [← hfj] at HC
        clear hj hjm hfj
        cases hfk : f k with
        | false =>
          rw [hfk] at HC
          have HK1 : Hid (ksF f (k + 1) = ksF f k) := ksF_no hfk
          clear hfk
          go_wp2_with fail
          refine HC.out.mono ?_; rintro e w6 ⟨rfl, hb6⟩
          replace H := Lib.hid (H.out.bel hb6); (try simp only [List.set_cons_zero, List.set_cons_succ, List.cons_append, List.nil_append, List.eraseIdx_cons_zero, List.eraseIdx_cons_succ, List.setIfInBounds_toArray, World.size_alloc, selR, List.getD_cons_zero, List.getD_cons_succ] at H)
          clear hb6 HC cl
          go_wp2_with fail
          rw [← HK1.out] at H HL
          go_roundg (N - (k + 1))
          case rel => exact ⟨k + 1, q, KA, kc, IA, ic, rfl, by omega, by omega, by go_num, HL, H⟩
          case measure => rw [Hgk.out]; omega
        | true =>
          rw [hfk] at HC
          have HK1 : Hid ((ksF f (k + 1)).map (fun (j : Nat) => Value.int .i64 j) = (ksF f k).map (fun (j : Nat) => Value.int .i64 j) ++ [.int .i64 k]) := by show _ = _; rw [ksF_yes hfk, List.map_append]; rfl
          have HKL : Hid ((ksF f (k + 1)).length = q + 1) := by show _ = _; rw [ksF_yes hfk, List.length_append, HL.out]; rfl
          have HK2 : Hid ((ksF f (k + 1)).map (fun (j : Nat) => Value.int .i64 (gl j)) = (ksF f k).map (fun (j : Nat) => Value.int .i64 (gl j)) ++ [.int .i64 (gl k)]) := by show _ = _; rw [ksF_yes hfk, List.map_append]; rfl
          clear hfk
          go_wp2_with fail
          refine HC.out.mono ?_; rintro e w6 ⟨rfl, hb6⟩
          replace H := Lib.hid (H.out.bel hb6); (try simp only [List.set_cons_zero, List.set_cons_succ, List.cons_append, List.nil_append, List.eraseIdx_cons_zero, List.eraseIdx_cons_succ, List.setIfInBounds_toArray, World.size_alloc, selR, List.getD_cons_zero, List.getD_cons_succ] at H)
          clear hb6 HC cl
          have ck : w6.cell? ⟨u, 1, none⟩ = some (.slice KA q kc) := (H.out.blk 3 rfl).cell 1
          have cg : w6.cell? ⟨y, 5, none⟩ = some (.bool true) := (H.out.blk 1 rfl).cell 5
          go_upto_region 11 with fail
          go_upto_region 12 with ((with_reducible show wpList _ _ _ (⟨some 60, _, _, _, _, _⟩ :: _) _ _); (replace H := Lib.hid (H.out.alloc #[.int .i64 k] 3); (try simp only [List.set_cons_zero, List.set_cons_succ, List.cons_append, List.nil_append, List.eraseIdx_cons_zero, List.eraseIdx_cons_succ, List.setIfInBounds_toArray, World.size_alloc, selR, List.getD_cons_zero, List.getD_cons_succ] at H); refine wpList_append0 rfl (.tmp 57) (.tmp 59) _ rfl E_num 0 (Nat.zero_le _) _ q _ rfl (H.out.row 7 rfl) _ 1 1 [.int .i64 k] rfl (reads_of_block (H.out.blk 9 rfl) rfl) (by simp [Value.oneCell']) (by unfold maxLen; omega) (by omega) ?_; intro vq wq howq hgq hatq; replace H := Lib.hid (H.out.setRow 7 rfl hgq howq hatq); (try simp only [List.set_cons_zero, List.set_cons_succ, List.cons_append, List.nil_append, List.eraseIdx_cons_zero, List.eraseIdx_cons_succ, List.setIfInBounds_toArray, World.size_alloc, selR, List.getD_cons_zero, List.getD_cons_succ] at H); clear howq hgq hatq; obtain ⟨KA2, kc2, rfl, _⟩ := own_slice (H.out.row 7 rfl); have hz := (H.out.blk 3 rfl).cell 1; have hy := (H.out.blk 3 rfl).frozen 1; simp only [List.getElem?_toArray, List.getElem?_cons_zero, List.getElem?_cons_succ] at hz))
          replace H := Lib.hid (H.out.setCell 3 rfl 1 (.slice KA2 (q + 1) kc2)); (try simp only [List.set_cons_zero, List.set_cons_succ, List.cons_append, List.nil_append, List.eraseIdx_cons_zero, List.eraseIdx_cons_succ, List.setIfInBounds_toArray, World.size_alloc, selR, List.getD_cons_zero, List.getD_cons_succ] at H)
          clear hz hy ck cg
          replace H := Lib.hid (H.out.sel [0, 1, 2, 3, 4, 5, 6, 7, 8] (by decide) (by simp)); (try simp only [List.set_cons_zero, List.set_cons_succ, List.cons_append, List.nil_append, List.eraseIdx_cons_zero, List.eraseIdx_cons_succ, List.setIfInBounds_toArray, World.size_alloc, selR, List.getD_cons_zero, List.getD_cons_succ] at H)
          have cg := (H.out.blk 1 rfl).cell 5
          simp only [List.getElem?_toArray, List.getElem?_cons_zero, List.getElem?_cons_succ] at cg
          go_upto_region 13 with fail
          clear cg
          obtain ⟨gb, rfl⟩ := own_blkF (H.out.row 6 rfl) (by omega)
          refine wp_region_held_drew (S := fun w => w.cell? ⟨gb, k, none⟩ = some (.int .i64 (gl k))) (by kernel_rfl) (own_int (H.out.row 6 rfl) (HGK.out k hlt)) (fun hHeld => ?_)
          replace H := Lib.hid (H.out.drew); (try simp only [List.set_cons_zero, List.set_cons_succ, List.cons_append, List.nil_append, List.eraseIdx_cons_zero, List.eraseIdx_cons_succ, List.setIfInBounds_toArray, World.size_alloc, selR, List.getD_cons_zero, List.getD_cons_succ] at H)
          generalize World.drew _ = w8 at *
          refine wpAnyH_take (i := 0) (v := ?vq3_0) (get_o0) (by kernel_rfl) (by kernel_rfl) (by kernel_rfl) (by exact fun _ _ _ h => h) (Or.inl ⟨by rfl, ?hyq3_0⟩) (by assumption) ?_
          case hyq3_0 => (intro w hSw; (try dsimp only at hSw); go_simp) <;> with_reducible rfl
          try simp only [Act.put, List.setIfInBounds_toArray, List.set_cons_zero, List.set_cons_succ]
          refine wpAnyH_take (i := 2) (v := ?vq3_2) (get_os (get_os (get_o0))) (by kernel_rfl) (by kernel_rfl) (by kernel_rfl) (by exact fun _ _ _ h => h) (Or.inl ⟨by rfl, ?hyq3_2⟩) (by assumption) ?_
          case hyq3_2 => (intro w hSw; (try dsimp only at hSw); go_simp) <;> with_reducible rfl
          try simp only [Act.put, List.setIfInBounds_toArray, List.set_cons_zero, List.set_cons_succ]
          refine wpAnyH_take (i := 3) (v := ?vq3_3) (get_os (get_os (get_os (get_o0)))) (by kernel_rfl) (by kernel_rfl) (by kernel_rfl) (by exact fun _ _ _ h => h) (Or.inl ⟨by rfl, ?hyq3_3⟩) (by assumption) ?_
          case hyq3_3 => (intro w hSw; (try dsimp only at hSw); go_simp) <;> with_reducible rfl
          try simp only [Act.put, List.setIfInBounds_toArray, List.set_cons_zero, List.set_cons_succ]
          refine wpAnyH_take (i := 4) (v := ?vq3_4) (get_os (get_os (get_os (get_os (get_o0))))) (by kernel_rfl) (by kernel_rfl) (by kernel_rfl) (by exact fun _ _ _ h => h) (Or.inl ⟨by rfl, ?hyq3_4⟩) (by assumption) ?_
          case hyq3_4 => (intro w hSw; (try dsimp only at hSw); go_simp) <;> with_reducible rfl
          try simp only [Act.put, List.setIfInBounds_toArray, List.set_cons_zero, List.set_cons_succ]
          refine wpAnyH_take (i := 5) (v := ?vq3_5) (get_os (get_os (get_os (get_os (get_os (get_o0)))))) (by kernel_rfl) (by kernel_rfl) (by kernel_rfl) (by exact fun _ _ _ h => h) (Or.inl ⟨by rfl, ?hyq3_5⟩) (by assumption) ?_
          case hyq3_5 => (intro w hSw; (try dsimp only at hSw); go_simp) <;> with_reducible rfl
          try simp only [Act.put, List.setIfInBounds_toArray, List.set_cons_zero, List.set_cons_succ]
          refine wpAnyH_ready (rs := [1, 6]) (by kernel_rfl) (by simp) ?_
          refine (AllReadyH.cons (get_os (get_o0)) (fun KK hKK => ?_) (AllReadyH.cons (get_os (get_os (get_os (get_os (get_os (get_os (get_o0))))))) (fun KK hKK => ?_) AllReadyH.nil))
          · have ca1 := (H.out.blk 3 rfl).cell 2; simp only [List.getElem?_toArray, List.getElem?_cons_zero, List.getElem?_cons_succ] at ca1
            go_simp
            clear ca1
            refine hKK.out _ _ (own_int (H.out.row 6 rfl) (HGK.out k hlt)) (fun hHeld => ?_)
            clear hKK KK
            try simp only [Act.put, List.setIfInBounds_toArray, List.set_cons_zero, List.set_cons_succ]
            refine wpAnyH_ready (rs := [6]) (by kernel_rfl) (by simp) ?_
            refine (AllReadyH.cons (get_os (get_os (get_os (get_os (get_os (get_os (get_o0))))))) (fun KK hKK => ?_) AllReadyH.nil)
            refine step_buildSlice1v rfl E_num (.tmp 69) rfl (.int .i64 (gl k)) rfl #[.int .i64 (gl k)] rfl rfl (by omega) ?_
            replace H := Lib.hid (H.out.alloc #[.int .i64 (gl k)] 3); (try simp only [List.set_cons_zero, List.set_cons_succ, List.cons_append, List.nil_append, List.eraseIdx_cons_zero, List.eraseIdx_cons_succ, List.setIfInBounds_toArray, World.size_alloc, selR, List.getD_cons_zero, List.getD_cons_succ] at H)
            refine hKK.out _ _ (own_int (H.out.row 6 rfl) (HGK.out k hlt)) (fun hHeld => ?_)
            clear hKK KK
            try simp only [Act.put, List.setIfInBounds_toArray, List.set_cons_zero, List.set_cons_succ]
            refine wpAnyH_ready (rs := [7]) (by kernel_rfl) (by simp) ?_
            refine (AllReadyH.cons (get_os (get_os (get_os (get_os (get_os (get_os (get_os (get_o0)))))))) (fun KK hKK => ?_) AllReadyH.nil)
            refine step_append0 rfl (.tmp 65) (.tmp 70) _ rfl E_num 0 (Nat.zero_le _) _ q _ rfl (H.out.row 8 rfl) _ 1 1 [.int .i64 (gl k)] rfl (reads_of_block (H.out.blk 9 rfl) rfl) (by simp [Value.oneCell']) (by unfold maxLen; omega) (by omega) ?_
            intro vq wq howq hgq hatq
            replace H := Lib.hid (H.out.setRow 8 rfl hgq howq hatq); (try simp only [List.set_cons_zero, List.set_cons_succ, List.cons_append, List.nil_append, List.eraseIdx_cons_zero, List.eraseIdx_cons_succ, List.setIfInBounds_toArray, World.size_alloc, selR, List.getD_cons_zero, List.getD_cons_succ] at H)
            clear howq hgq hatq
            obtain ⟨IA2, ic2, rfl, _⟩ := own_slice (H.out.row 8 rfl)
            refine hKK.out _ _ (own_int (H.out.row 6 rfl) (HGK.out k hlt)) (fun hHeld => ?_)
            clear hKK KK
            try simp only [Act.put, List.setIfInBounds_toArray, List.set_cons_zero, List.set_cons_succ]
            refine wpAnyH_take (i := 8) (v := ?vq4_) (get_os (get_os (get_os (get_os (get_os (get_os (get_os (get_os (get_o0))))))))) (by kernel_rfl) (by kernel_rfl) (by kernel_rfl) (by exact fun _ _ _ h => h) (Or.inl ⟨by rfl, ?hyq4_⟩) (by assumption) ?_
            case hyq4_ => (intro w hSw; (try dsimp only at hSw); go_simp) <;> with_reducible rfl
            try simp only [Act.put, List.setIfInBounds_toArray, List.set_cons_zero, List.set_cons_succ]
            refine wpAnyH_ready (rs := [9]) (by kernel_rfl) (by simp) ?_
            refine (AllReadyH.cons (get_os (get_os (get_os (get_os (get_os (get_os (get_os (get_os (get_os (get_o0)))))))))) (fun KK hKK => ?_) AllReadyH.nil)
            have ca9 := (H.out.blk 3 rfl).cell 2; simp only [List.getElem?_toArray, List.getElem?_cons_zero, List.getElem?_cons_succ] at ca9; have fa9 := (H.out.blk 3 rfl).frozen 2
            go_simp
            replace H := Lib.hid (H.out.setCell 3 rfl 2 (.slice IA2 (q + 1) ic2)); (try simp only [List.set_cons_zero, List.set_cons_succ, List.cons_append, List.nil_append, List.eraseIdx_cons_zero, List.eraseIdx_cons_succ, List.setIfInBounds_toArray, World.size_alloc, selR, List.getD_cons_zero, List.getD_cons_succ] at H)
            clear ca9 fa9
            refine hKK.out _ _ (own_int (H.out.row 6 rfl) (HGK.out k hlt)) (fun hHeld => ?_)
            clear hKK KK
            try simp only [Act.put, List.setIfInBounds_toArray, List.set_cons_zero, List.set_cons_succ]
            refine wpAnyH_done (by kernel_rfl) ?_ _
            clear hHeld
            replace H := Lib.hid (H.out.sel [0, 1, 2, 3, 4, 5, 6, 7, 8] (by decide) (by simp)); (try simp only [List.set_cons_zero, List.set_cons_succ, List.cons_append, List.nil_append, List.eraseIdx_cons_zero, List.eraseIdx_cons_succ, List.setIfInBounds_toArray, World.size_alloc, selR, List.getD_cons_zero, List.getD_cons_succ] at H)
            rw [← HK1.out, ← HK2.out] at H
            clear HK1 HK2
            go_wp2_with fail
            go_roundg (N - (k + 1))
            case rel => exact ⟨k + 1, q + 1, KA2, kc2, IA2, ic2, rfl, by omega, by omega, by go_num, HKL, H⟩
            case measure => rw [Hgk.out]; omega
          · refine step_buildSlice1v rfl E_num (.tmp 69) rfl (.int .i64 (gl k)) rfl #[.int .i64 (gl k)] rfl rfl (by omega) ?_
            replace H := Lib.hid (H.out.alloc #[.int .i64 (gl k)] 3); (try simp only [List.set_cons_zero, List.set_cons_succ, List.cons_append, List.nil_append, List.eraseIdx_cons_zero, List.eraseIdx_cons_succ, List.setIfInBounds_toArray, World.size_alloc, selR, List.getD_cons_zero, List.getD_cons_succ] at H)
            refine hKK.out _ _ (own_int (H.out.row 6 rfl) (HGK.out k hlt)) (fun hHeld => ?_)
            clear hKK KK
            try simp only [Act.put, List.setIfInBounds_toArray, List.set_cons_zero, List.set_cons_succ]
            refine wpAnyH_ready (rs := [1]) (by kernel_rfl) (by simp) ?_
            refine (AllReadyH.cons (get_os (get_o0)) (fun KK hKK => ?_) AllReadyH.nil)
            have ca1 := (H.out.blk 3 rfl).cell 2; simp only [List.getElem?_toArray, List.getElem?_cons_zero, List.getElem?_cons_succ] at ca1
            go_simp
            clear ca1
            refine hKK.out _ _ (own_int (H.out.row 6 rfl) (HGK.out k hlt)) (fun hHeld => ?_)
            clear hKK KK
            try simp only [Act.put, List.setIfInBounds_toArray, List.set_cons_zero, List.set_cons_succ]
            refine wpAnyH_ready (rs := [7]) (by kernel_rfl) (by simp) ?_
            refine (AllReadyH.cons (get_os (get_os (get_os (get_os (get_os (get_os (get_os (get_o0)))))))) (fun KK hKK => ?_) AllReadyH.nil)
            refine step_append0 rfl (.tmp 65) (.tmp 70) _ rfl E_num 0 (Nat.zero_le _) _ q _ rfl (H.out.row 8 rfl) _ 1 1 [.int .i64 (gl k)] rfl (reads_of_block (H.out.blk 9 rfl) rfl) (by simp [Value.oneCell']) (by unfold maxLen; omega) (by omega) ?_
            intro vq wq howq hgq hatq
            replace H := Lib.hid (H.out.setRow 8 rfl hgq howq hatq); (try simp only [List.set_cons_zero, List.set_cons_succ, List.cons_append, List.nil_append, List.eraseIdx_cons_zero, List.eraseIdx_cons_succ, List.setIfInBounds_toArray, World.size_alloc, selR, List.getD_cons_zero, List.getD_cons_succ] at H)
            clear howq hgq hatq
            obtain ⟨IA2, ic2, rfl, _⟩ := own_slice (H.out.row 8 rfl)
            refine hKK.out _ _ (own_int (H.out.row 6 rfl) (HGK.out k hlt)) (fun hHeld => ?_)
            clear hKK KK
            try simp only [Act.put, List.setIfInBounds_toArray, List.set_cons_zero, List.set_cons_succ]
            refine wpAnyH_take (i := 8) (v := ?vq5_) (get_os (get_os (get_os (get_os (get_os (get_os (get_os (get_os (get_o0))))))))) (by kernel_rfl) (by kernel_rfl) (by kernel_rfl) (by exact fun _ _ _ h => h) (Or.inl ⟨by rfl, ?hyq5_⟩) (by assumption) ?_
            case hyq5_ => (intro w hSw; (try dsimp only at hSw); go_simp) <;> with_reducible rfl
            try simp only [Act.put, List.setIfInBounds_toArray, List.set_cons_zero, List.set_cons_succ]
            refine wpAnyH_ready (rs := [9]) (by kernel_rfl) (by simp) ?_
            refine (AllReadyH.cons (get_os (get_os (get_os (get_os (get_os (get_os (get_os (get_os (get_os (get_o0)))))))))) (fun KK hKK => ?_) AllReadyH.nil)
            have ca9 := (H.out.blk 3 rfl).cell 2; simp only [List.getElem?_toArray, List.getElem?_cons_zero, List.getElem?_cons_succ] at ca9; have fa9 := (H.out.blk 3 rfl).frozen 2
            go_simp
            replace H := Lib.hid (H.out.setCell 3 rfl 2 (.slice IA2 (q + 1) ic2)); (try simp only [List.set_cons_zero, List.set_cons_succ, List.cons_append, List.nil_append, List.eraseIdx_cons_zero, List.eraseIdx_cons_succ, List.setIfInBounds_toArray, World.size_alloc, selR, List.getD_cons_zero, List.getD_cons_succ] at H)
            clear ca9 fa9
            refine hKK.out _ _ (own_int (H.out.row 6 rfl) (HGK.out k hlt)) (fun hHeld => ?_)
            clear hKK KK
            try simp only [Act.put, List.setIfInBounds_toArray, List.set_cons_zero, List.set_cons_succ]
            refine wpAnyH_done (by kernel_rfl) ?_ _
            clear hHeld
            replace H := Lib.hid (H.out.sel [0, 1, 2, 3, 4, 5, 6, 7, 8] (by decide) (by simp)); (try simp only [List.set_cons_zero, List.set_cons_succ, List.cons_append, List.nil_append, List.eraseIdx_cons_zero, List.eraseIdx_cons_succ, List.setIfInBounds_toArray, World.size_alloc, selR, List.getD_cons_zero, List.getD_cons_succ] at H)
            rw [← HK1.out, ← HK2.out] at H
            clear HK1 HK2
            go_wp2_with fail
            go_roundg (N - (k + 1))
            case rel => exact ⟨k + 1, q + 1, KA2, kc2, IA2, ic2, rfl, by omega, by omega, by go_num, HKL, H⟩
            case measure => rw [Hgk.out]; omega
      · obtain rfl : k = N := by omega
        have hq100 : q ≤ 1000000 := by omega
        go_wp2_with (first | ((with_reducible show wpList _ _ _ (⟨some 74, _, _, _, _, _⟩ :: _) _ _); (refine wpList_load_blk rfl rowScan (.tmp 5) rfl _ rfl (H.out.blk 3 rfl) rfl ?_)) | ((with_reducible show wpList _ _ _ (⟨_, .store _ (.tmp 4) _, _, _, _, _⟩ :: _) _ _); (refine wpList_store_blk rfl rowScan (.tmp 4) (.tmp 74) rfl _ rfl (H.out.blk 2 rfl) rfl (#[.int .i64 T, .slice KA q kc, .slice IA q ic]) rfl rfl (by simp [Value.oneCell']) ?_; intro wq bq hgq; replace H := Lib.hid (H.out.setBlk 2 rfl hgq bq); (try simp only [List.set_cons_zero, List.set_cons_succ, List.cons_append, List.nil_append, List.eraseIdx_cons_zero, List.eraseIdx_cons_succ, List.setIfInBounds_toArray, World.size_alloc, selR, List.getD_cons_zero, List.getD_cons_succ] at H); clear hgq bq)))
        refine bodyPost_ret (results_blk1 rfl rowScan rfl (H.out.blk 2 rfl) rfl) rfl ?_
        refine ⟨⟨T, ⟨KA, q, kc, (ksF f k).map (fun (j : Nat) => (j : Int))⟩, ⟨IA, q, ic, (ksF f k).map gl⟩⟩, rfl, HFin.out.symm, H.out.to, ?_, ?_⟩
        · exact holds_scn hT64 (by have h := H.out.get 7 rfl; rw [← map_mapK] at h; exact h) (by have h := H.out.get 8 rfl; rw [← map_mapI] at h; exact h) HI1.out (HI2.out) hq100 hq100
        · rintro g (h | h)
          · exact H.out.new 7 rfl g h
          · exact H.out.new 8 rfl g h

end Go.Proofs.Ytelnhhbefdfeoaa
