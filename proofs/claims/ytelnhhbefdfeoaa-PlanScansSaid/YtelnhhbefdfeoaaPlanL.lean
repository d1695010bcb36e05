/- The document's Scan. -/
import Derived.Test.YtelnhhbefdfeoaaPlanK
namespace Go.Proofs.Ytelnhhbefdfeoaa
open Go.RowKit
set_option linter.unusedVariables false
set_option linter.unusedSimpArgs false


set_option maxRecDepth 100000 in
set_option maxHeartbeats 1000000 in
theorem rscan_nil (D : Dm) (p : Pk) (w : World) (hp : p.rd w) (h0 : p.f = 0) (hg : p.g = false) :
    Calls Try.prog 26 #[.agg D.cs, .agg p.cs] w (ScPost ⟨-1, [], []⟩ w) := by
  have H := Lib.hid ((((SL.start No w).alloc D.cs 66).alloc p.cs 59).alloc #[.int .i64 0, .slice none 0 0, .slice none 0 0] 62)
  (try simp only [List.set_cons_zero, List.set_cons_succ, List.cons_append, List.nil_append, List.eraseIdx_cons_zero, List.eraseIdx_cons_succ, List.setIfInBounds_toArray, World.size_alloc, selR, List.getD_cons_zero, List.getD_cons_succ] at H)
  obtain ⟨pf, pt, lo, hi, ⟨A, n, c, set⟩, g, pb⟩ := p
  obtain ⟨nm, ⟨A2, n2, cp2, trs⟩⟩ := D
  simp only [Pk.cs, Pk.con, Dm.cs] at *
  subst h0 hg
  clear hp
  go_enter Try.func26, Try.ntmps26
  go_upto_region 1 with fail
  generalize w.heap.size + 1 + 1 = z at *
  generalize w.heap.size + 1 = y at *
  generalize w.heap.size = x at *
  generalize World.alloc (World.alloc (World.alloc _ _) _) _ = w1 at *
  have cf : w1.cell? ⟨y, 0, none⟩ = some (.int .i64 0) := (H.out.blk 1 rfl).cell 0
  have cg : w1.cell? ⟨y, 5, none⟩ = some (.bool false) := (H.out.blk 1 rfl).cell 5
  go_wp2_with (first | ((with_reducible show wpList _ _ _ (⟨some 15, _, _, _, _, _⟩ :: _) _ _); refine wpList_build1 (v := .agg #[.int .i64 (-1), .slice none 0 0, .slice none 0 0]) rfl (.const (.int .i64 (-1))) rfl rfl (by intro w; kernel_rfl) ?_) | ((with_reducible show wpList _ _ _ (⟨_, .store _ (.tmp 4) _, _, _, _, _⟩ :: _) _ _); (refine wpList_store_blk rfl rowScan (.tmp 4) (.tmp 15) rfl _ rfl (H.out.blk 2 rfl) rfl (#[.int .i64 (-1), .slice none 0 0, .slice none 0 0]) rfl rfl (by simp [Value.oneCell']) ?_; intro wq bq hgq; replace H := Lib.hid (H.out.setBlk 2 rfl hgq bq); (try simp only [List.set_cons_zero, List.set_cons_succ, List.cons_append, List.nil_append, List.eraseIdx_cons_zero, List.eraseIdx_cons_succ, List.setIfInBounds_toArray, World.size_alloc, selR, List.getD_cons_zero, List.getD_cons_succ] at H); clear hgq bq)))
  refine bodyPost_ret (results_blk1 rfl rowScan rfl (H.out.blk 2 rfl) rfl) rfl ?_
  refine ⟨⟨-1, ⟨none, 0, 0, []⟩, ⟨none, 0, 0, []⟩⟩, rfl, rfl, H.out.to, holds_scn (by unfold I64; omega) (holds_row (World.ownsRow_nil _ 0 _ _)) (holds_row (World.ownsRow_nil _ 0 _ _)) (fun x hx => by cases hx) (fun x hx => by cases hx) (Nat.zero_le _) (Nat.zero_le _), ?_⟩
  rintro g (h | h)
  · simp [Row.v, Value.ownBlock] at h
  · simp [Row.v, Value.ownBlock] at h
set_option maxRecDepth 100000 in
set_option maxHeartbeats 8000000 in
theorem rscan_any (D : Dm) (p : Pk) (w : World) (hD : D.rd w) (hp : p.rd w) (hE : pickErr D.con p.con = 0) (hd : dimErr D.con = 0) :
    Calls Try.prog 26 #[.agg D.cs, .agg p.cs] w (ScPost (scanOf D.con p.con) w) := by
  have hd2 := dimErr_zero hd
  have hok : AllOk (D.tr.l.map Tir.con) := dimFrom_ok hd2.2.2.2
  have hDl : D.tr.l.length = D.tr.n := hD.tr.len
  rcases tier_cases hE hd2.2.1 with ⟨e, e0, eg⟩ | ⟨T, M, B, t⟩
  · have hs := rscan_nil D p w hp e0 eg
    rw [show scanOf D.con p.con = ⟨-1, [], []⟩ by unfold scanOf; rw [if_pos (by omega)]]
    exact hs
  have hml : M < D.tr.l.length := by have := t.ml; rw [show D.con.trs.length = D.tr.l.length from List.length_map ..] at this; exact this
  have hbl : B < D.tr.l.length := by have := t.bl; rw [show D.con.trs.length = D.tr.l.length from List.length_map ..] at this; exact this
  have hn4 : D.tr.n ≤ 4 := by have := hd2.2.2.1; rw [show D.con.trs.length = D.tr.l.length from List.length_map ..] at this; omega
  have htm := t.tm
  have htb := t.tb
  obtain ⟨TT, hTT⟩ : ∃ X, D.tr.l[T]? = some X := ⟨_, List.getElem?_eq_getElem (by omega)⟩
  obtain ⟨TM, hTM⟩ : ∃ X, D.tr.l[M]? = some X := ⟨_, List.getElem?_eq_getElem hml⟩
  obtain ⟨TB, hTB⟩ : ∃ X, D.tr.l[B]? = some X := ⟨_, List.getElem?_eq_getElem hbl⟩
  have hts : ∀ X ∈ D.tr.l, RiseT X.ts.l ∧ X.ts.n ≤ 200 ∧ X.ts.l.length = X.ts.n := fun X hX => by
    have h4 := dim_terms hd X.con (List.mem_map.2 ⟨X, hX, rfl⟩)
    have h5 : X.ts.l.length = X.ts.n := Row.rd.len (Tir.rd.ts (Row.rd.all (Dm.rd.tr hD) X hX))
    exact ⟨riseT_row h4.1, by have := h4.2; simp only at this; omega, h5⟩
  have hMh := hts TM (List.mem_of_getElem? hTM)
  have hNh := hts TT (List.mem_of_getElem? hTT)
  have hBh := hts TB (List.mem_of_getElem? hTB)
  have hNs : sizeAt (D.tr.l.map Tir.con) T = TT.ts.n := by rw [sizeAt_tir hTT]; exact hNh.2.2
  have hMs : sizeAt (D.tr.l.map Tir.con) M = TM.ts.n := by rw [sizeAt_tir hTM]; exact hMh.2.2
  have hBs : sizeAt (D.tr.l.map Tir.con) B = TB.ts.n := by rw [sizeAt_tir hTB]; exact hBh.2.2
  have hlets : ∀ x : Int, letsOf D.con p.con x = letsT p.con ((TM.ts.l[x.toNat]?).getD []) := fun x => by
    unfold letsOf letsT
    by_cases h0 : p.f = 0
    · rw [if_pos (show p.con.f = 0 from h0), if_pos (show p.con.f = 0 from h0)]
    · have hm := t.pm h0
      have ht : termAt D.con p.con.t x = (TM.ts.l[x.toNat]?).getD [] := by
        unfold termAt
        rw [hm, Int.toNat_natCast, show D.con.trs[M]? = some TM.con by show (D.tr.l.map Tir.con)[M]? = _; rw [List.getElem?_map, hTM]; rfl]
        rfl
      rw [ht]
  obtain ⟨f, hf⟩ : ∃ f : Nat → Bool, f = fun (k : Nat) => letsT p.con ((TM.ts.l[(liftOf (D.tr.l.map Tir.con) T M k).toNat]?).getD []) := ⟨_, rfl⟩
  obtain ⟨gl, hgl⟩ : ∃ gl : Nat → Int, gl = fun (k : Nat) => liftOf (D.tr.l.map Tir.con) T B k := ⟨_, rfl⟩
  obtain ⟨FF, hFF⟩ : ∃ F : Nat → Bool, F = fun (k : Nat) => letsT p.con ((TM.ts.l[k]?).getD []) := ⟨_, rfl⟩
  have hscan : scanOf D.con p.con = ⟨T, (ksF f TT.ts.n).map (fun (j : Nat) => (j : Int)), if p.g = true then (ksF f TT.ts.n).map gl else []⟩ := by
    unfold scanOf scanKeys ksF
    rw [if_neg (by have := t.t; omega), t.m, t.b, t.t, Int.toNat_natCast, show sizeAt D.con.trs T = TT.ts.n from hNs, hf, hgl]
    simp only [hlets]
  have t64 : I64 (T : Int) := by unfold I64; omega
  have HLF : Hid (∀ k, k < TT.ts.n → ∃ j : Nat, j < TM.ts.n ∧ f k = FF j ∧ ∀ w', Bel w w' → Calls Try.prog 47 #[.agg D.cs, .int .i64 T, .int .i64 M, .int .i64 k] w' fun e w'' => e = .returned (.int .i64 j) ∧ Bel w' w'') := fun k hk => by
    have h := lift_within hok htm (by rw [List.length_map]; exact hml) (by rw [hNs]; exact hk)
    have h2 := h.2.2
    rw [hMs] at h2
    refine ⟨(liftOf (D.tr.l.map Tir.con) T M k).toNat, by omega, by rw [hf, hFF], fun w' hb => ?_⟩
    have hc := rlift_any D T M k w' (hD.mono hb) hok htm (by omega) (by rw [hNs]; exact hk)
    rw [show liftOf (D.tr.l.map Tir.con) T M k = ((liftOf (D.tr.l.map Tir.con) T M k).toNat : Int) by omega] at hc
    exact hc
  have HGL : Hid (∀ k, k < TT.ts.n → ∀ w', Bel w w' → Calls Try.prog 47 #[.agg D.cs, .int .i64 T, .int .i64 B, .int .i64 k] w' fun e w'' => e = .returned (.int .i64 (gl k)) ∧ Bel w' w'') := fun k hk w' hb => by
    rw [hgl]
    exact rlift_any D T B k w' (hD.mono hb) hok htb (by omega) (by rw [hNs]; exact hk)
  have HLE : Hid (∀ j, j < TM.ts.n → ∀ w', Bel w w' → Calls Try.prog 46 #[.agg D.cs, .agg p.cs, .int .i64 j] w' fun e w'' => e = .returned (.bool (FF j)) ∧ Bel w' w'') := fun j hj w' hb => by
    have hj2 : j < TM.ts.l.length := by rw [hMh.2.2]; exact hj
    rw [hFF]
    simp only [List.getElem?_eq_getElem hj2, Option.getD_some]
    exact rlets_any D p M j TM _ w' (hD.mono hb) (hp.mono hb) hTM (List.getElem?_eq_getElem hj2) t.pm t.f
  have HF1' : p.f = 0 → ∀ k, f k = true := fun h0 k => by rw [hf]; show letsT p.con _ = true; unfold letsT; rw [if_pos (show p.con.f = 0 from h0)]
  have HI1 : Hid (∀ x ∈ (ksF f TT.ts.n).map (fun (j : Nat) => (j : Int)), I64 x) := fun x hx => by
    obtain ⟨j, hj, rfl⟩ := List.mem_map.1 hx
    have := ksF_lt hj
    unfold I64
    omega
  have HI2 : Hid (∀ x ∈ (ksF f TT.ts.n).map gl, I64 x) := fun x hx => by
    obtain ⟨j, hj, rfl⟩ := List.mem_map.1 hx
    have h := lift_within hok htb (by rw [List.length_map]; exact hbl) (by rw [hNs]; exact ksF_lt hj)
    rw [hgl]
    unfold I64
    have h1 := h.2.1
    have h2 := h.2.2
    rw [hBs] at h2
    simp only
    omega
  have hTn : T < D.tr.n := by omega
  obtain ⟨bt, ot, T', hA, hbt, hT', hTr, hrg⟩ := hD.tr.tirAt (k := T) hTn
  obtain rfl : TT = T' := by rw [hTT] at hT'; injection hT'
  have HRC : Hid (∀ w', Bel w w' → w'.cell? ⟨bt, ot + T * 3 + 1, none⟩ = some (.slice TT.ts.A TT.ts.n TT.ts.c)) := fun w' hb => (hb.cell (p := ⟨bt, ot + T * 3 + 1, none⟩) hbt).trans (hrg 1 (.slice TT.ts.A TT.ts.n TT.ts.c) rfl)
  obtain ⟨N, hN⟩ : ∃ N, N = TT.ts.n := ⟨_, rfl⟩
  obtain ⟨mn, hmn⟩ : ∃ N, N = TM.ts.n := ⟨_, rfl⟩
  have hN200 : N ≤ 200 := by have := hNh.2.1; omega
  have HFin := Lib.hid hscan
  have hT64 := t64
  rw [← hN] at HLF HGL HI1 HI2 HFin HRC
  rw [← hmn] at HLF HLE
  have hpm := t.pm
  have hpb := t.pb
  have hpt := t.t
  have hp0 := t.p0
  have hpf := t.f
  have H := Lib.hid ((((SL.start No w).alloc D.cs 66).alloc p.cs 59).alloc #[.int .i64 0, .slice none 0 0, .slice none 0 0] 62)
  (try simp only [List.set_cons_zero, List.set_cons_succ, List.cons_append, List.nil_append, List.eraseIdx_cons_zero, List.eraseIdx_cons_succ, List.setIfInBounds_toArray, World.size_alloc, selR, List.getD_cons_zero, List.getD_cons_succ] at H)
  generalize scanOf D.con p.con = SO at *
  clear hD hp hE hd hd2 hok t hts hMh hNh hBh hNs hMs hBs hlets hf hgl hFF hscan hTT hTM hTB hml hbl hN hmn t64 hDl htm htb hT' hTr hrg hbt
  obtain ⟨pf, pt, lo, hi, ⟨A, n, c, set⟩, g, pb⟩ := p
  obtain ⟨nm, ⟨A2, n2, cp2, trs⟩⟩ := D
  simp only [Pk.cs, Pk.con, Dm.cs] at *
  subst hA
  unfold tierOf at hpt
  simp only at hpt
  by_cases h0 : pf = 0
  · subst h0
    have HF1 := Lib.hid (HF1' rfl)
    cases g with
    | false => exact absurd hpt (by simp <;> omega)
    | true =>
      have hb := hpb rfl
      subst hb
      simp at hpt
      have HTB : Hid ((B : Int) = T) := by show _ = _; omega
      simp only [if_true] at HFin
      clear hpt hpm hpb hpf HF1'
      go_enter Try.func26, Try.ntmps26
      go_upto_region 1 with fail
      generalize w.heap.size + 1 + 1 = z at *
      generalize w.heap.size + 1 = y at *
      generalize w.heap.size = x at *
      generalize World.alloc (World.alloc (World.alloc _ _) _) _ = w1 at *
      have cf : w1.cell? ⟨y, 0, none⟩ = some (.int .i64 0) := (H.out.blk 1 rfl).cell 0
      have cm : w1.cell? ⟨y, 1, none⟩ = some (.int .i64 pt) := (H.out.blk 1 rfl).cell 1
      have cg : w1.cell? ⟨y, 5, none⟩ = some (.bool true) := (H.out.blk 1 rfl).cell 5
      go_upto_region 4 with (first | ((with_reducible show wpList _ _ _ (⟨some 18, _, _, _, _, _⟩ :: _) _ _); refine wpList_build1 (v := .agg #[.int .i64 pt, .slice none 0 0, .slice none 0 0]) rfl (.tmp 17) rfl rfl (by intro w; kernel_rfl) ?_) | ((with_reducible show wpList _ _ _ (⟨_, .store _ (.tmp 5) _, _, _, _, _⟩ :: _) _ _); (refine wpList_store_new rfl rowScan (.tmp 5) (.tmp 18) rfl rfl rfl (#[.int .i64 pt, .slice none 0 0, .slice none 0 0]) rfl rfl (by simp [Value.oneCell']) ?_; replace H := Lib.hid (H.out.alloc (#[.int .i64 pt, .slice none 0 0, .slice none 0 0]) 62); (try simp only [List.set_cons_zero, List.set_cons_succ, List.cons_append, List.nil_append, List.eraseIdx_cons_zero, List.eraseIdx_cons_succ, List.setIfInBounds_toArray, World.size_alloc, selR, List.getD_cons_zero, List.getD_cons_succ] at H))))
      (try simp only [Act.put, List.setIfInBounds_toArray, List.set_cons_zero, List.set_cons_succ])
      clear cf cm cg
      generalize w1.heap.size = u at *
      generalize World.alloc w1 _ = w2 at *
      have cf : w2.cell? ⟨y, 0, none⟩ = some (.int .i64 0) := (H.out.blk 1 rfl).cell 0
      have cm : w2.cell? ⟨y, 1, none⟩ = some (.int .i64 pt) := (H.out.blk 1 rfl).cell 1
      have cg : w2.cell? ⟨y, 5, none⟩ = some (.bool true) := (H.out.blk 1 rfl).cell 5
      have cb : w2.cell? ⟨y, 6, none⟩ = some (.int .i64 B) := (H.out.blk 1 rfl).cell 6
      have cu : w2.cell? ⟨u, 0, none⟩ = some (.int .i64 pt) := (H.out.blk 3 rfl).cell 0
      have fu := (H.out.blk 3 rfl).frozen 0
      go_upto_region 6 with fail
      rw [show World.setCell w2 ⟨u, 0, none⟩ (.int .i64 (B : Int)) = World.setCell w2 ⟨u, 0, none⟩ (.int .i64 (T : Int)) by rw [HTB.out]]
      replace H := Lib.hid (H.out.setCell 3 rfl 0 (.int .i64 T)); (try simp only [List.set_cons_zero, List.set_cons_succ, List.cons_append, List.nil_append, List.eraseIdx_cons_zero, List.eraseIdx_cons_succ, List.setIfInBounds_toArray, World.size_alloc, selR, List.getD_cons_zero, List.getD_cons_succ] at H)
      clear cf cm cg cb cu fu
      generalize World.setCell w2 _ _ = w3 at *
      have hrc := HRC.out _ H.out.to
      have ct : w3.cell? ⟨u, 0, none⟩ = some (.int .i64 T) := (H.out.blk 3 rfl).cell 0
      have cd : w3.cell? ⟨x, 1, none⟩ = some (.slice (some ⟨bt, ot, none⟩) n2 cp2) := (H.out.blk 0 rfl).cell 1
      have i0 : (0 : Int) ≤ T := by omega
      have i1 : (T : Int) < n2 := by omega
      replace H := Lib.hid (H.out.addNil 3 1); (try simp only [List.set_cons_zero, List.set_cons_succ, List.cons_append, List.nil_append, List.eraseIdx_cons_zero, List.eraseIdx_cons_succ, List.setIfInBounds_toArray, World.size_alloc, selR, List.getD_cons_zero, List.getD_cons_succ] at H)
      replace H := Lib.hid (H.out.addNil 3 1); (try simp only [List.set_cons_zero, List.set_cons_succ, List.cons_append, List.nil_append, List.eraseIdx_cons_zero, List.eraseIdx_cons_succ, List.setIfInBounds_toArray, World.size_alloc, selR, List.getD_cons_zero, List.getD_cons_succ] at H)
      have HL0 : Hid ((ksF f 0).length = 0) := rfl
      go_upto_region 7 with fail
      clear hrc ct cd
      go_loopg [44] N (fun gg s44 wr => ∃ (k q : Nat) (KA : Option Addr) (kc : Nat) (IA : Option Addr) (ic : Nat), gg = N - k ∧ k ≤ N ∧ q ≤ k ∧ s44 = .int .i64 k ∧ Hid ((ksF f k).length = q) ∧ Hid (SL No w wr [rBlk x 66 #[.string ⟨nm.toArray⟩, .slice (some ⟨bt, ot, none⟩) n2 cp2], rBlk y 59 #[.int .i64 0, .int .i64 pt, .string ⟨lo.toArray⟩, .string ⟨hi.toArray⟩, .slice A n c, .bool true, .int .i64 B], rBlk z 62 #[.int .i64 0, .slice none 0 0, .slice none 0 0], rBlk u 62 #[.int .i64 T, .slice KA q kc, .slice IA q ic], rRow 3 1 (.slice KA q kc) q ((ksF f k).map (fun (j : Nat) => Value.int .i64 j)), rRow 3 1 (.slice IA q ic) q ((ksF f k).map (fun (j : Nat) => Value.int .i64 (gl j)))]))
      case atStart => exact ⟨0, 0, none, 0, none, 0, rfl, by omega, by omega, rfl, HL0, H⟩
      case round =>
        clear H HL0
        obtain ⟨k, q, KA, kc, IA, ic, hgk, hk, hqk, rfl, HL, H⟩ := hrel
        have Hgk := Lib.hid hgk
        clear hgk
        by_cases hlt : k < N
        · have k0 : (0 : Int) ≤ k := by omega
          have k1 : (k : Int) < N := by omega
          have hfk : f k = true := HF1.out k
          have HG := Lib.hid (HGL.out k hlt)
          have HK1 : Hid ((ksF f (k + 1)).map (fun (j : Nat) => Value.int .i64 j) = (ksF f k).map (fun (j : Nat) => Value.int .i64 j) ++ [.int .i64 k]) := by show _ = _; rw [ksF_yes hfk, List.map_append]; rfl
          have HKL : Hid ((ksF f (k + 1)).length = q + 1) := by show _ = _; rw [ksF_yes hfk, List.length_append, HL.out]; rfl
          have HK2 : Hid ((ksF f (k + 1)).map (fun (j : Nat) => Value.int .i64 (gl j)) = (ksF f k).map (fun (j : Nat) => Value.int .i64 (gl j)) ++ [.int .i64 (gl k)]) := by show _ = _; rw [ksF_yes hfk, List.map_append]; rfl
          have cf : wr.cell? ⟨y, 0, none⟩ = some (.int .i64 0) := (H.out.blk 1 rfl).cell 0
          go_upto_region 9 with fail
          have f_cf := fun u : Over wr => Over.cell cf u
          refine wp_region_over (by kernel_rfl) (by kernel_rfl) ?_
          (try simp only [Act.put, List.setIfInBounds_toArray, List.set_cons_zero, List.set_cons_succ])
          repeat (go_big_quiet_step (fail))
          refine wpQuiet_nil ?_
          rintro w5 ⟨⟨_, hw5⟩, rfl⟩
          (try dsimp only)
          replace H := Lib.hid (H.out.bel hw5); (try simp only [List.set_cons_zero, List.set_cons_succ, List.cons_append, List.nil_append, List.eraseIdx_cons_zero, List.eraseIdx_cons_succ, List.setIfInBounds_toArray, World.size_alloc, selR, List.getD_cons_zero, List.getD_cons_succ] at H)
          clear f_cf cf
          skip
          have ck : w5.cell? ⟨u, 1, none⟩ = some (.slice KA q kc) := (H.out.blk 3 rfl).cell 1
          have cg : w5.cell? ⟨y, 5, none⟩ = some (.bool true) := (H.out.blk 1 rfl).cell 5
          go_upto_region 10 with fail
          go_upto_region 11 with ((with_reducible show wpList _ _ _ (⟨some 67, _, _, _, _, _⟩ :: _) _ _); (replace H := Lib.hid (H.out.alloc #[.int .i64 k] 3); (try simp only [List.set_cons_zero, List.set_cons_succ, List.cons_append, List.nil_append, List.eraseIdx_cons_zero, List.eraseIdx_cons_succ, List.setIfInBounds_toArray, World.size_alloc, selR, List.getD_cons_zero, List.getD_cons_succ] at H); refine wpList_append0 rfl (.tmp 64) (.tmp 66) _ rfl E_num 0 (Nat.zero_le _) _ q _ rfl (H.out.row 4 rfl) _ 1 1 [.int .i64 k] rfl (reads_of_block (H.out.blk 6 rfl) rfl) (by simp [Value.oneCell']) (by unfold maxLen; omega) (by omega) ?_; intro vq wq howq hgq hatq; replace H := Lib.hid (H.out.setRow 4 rfl hgq howq hatq); (try simp only [List.set_cons_zero, List.set_cons_succ, List.cons_append, List.nil_append, List.eraseIdx_cons_zero, List.eraseIdx_cons_succ, List.setIfInBounds_toArray, World.size_alloc, selR, List.getD_cons_zero, List.getD_cons_succ] at H); clear howq hgq hatq; obtain ⟨KA2, kc2, rfl, _⟩ := own_slice (H.out.row 4 rfl); have hz := (H.out.blk 3 rfl).cell 1; have hy := (H.out.blk 3 rfl).frozen 1; simp only [List.getElem?_toArray, List.getElem?_cons_zero, List.getElem?_cons_succ] at hz))
          replace H := Lib.hid (H.out.setCell 3 rfl 1 (.slice KA2 (q + 1) kc2)); (try simp only [List.set_cons_zero, List.set_cons_succ, List.cons_append, List.nil_append, List.eraseIdx_cons_zero, List.eraseIdx_cons_succ, List.setIfInBounds_toArray, World.size_alloc, selR, List.getD_cons_zero, List.getD_cons_succ] at H)
          clear hz hy ck cg
          replace H := Lib.hid (H.out.sel [0, 1, 2, 3, 4, 5] (by decide) (by simp)); (try simp only [List.set_cons_zero, List.set_cons_succ, List.cons_append, List.nil_append, List.eraseIdx_cons_zero, List.eraseIdx_cons_succ, List.setIfInBounds_toArray, World.size_alloc, selR, List.getD_cons_zero, List.getD_cons_succ] at H)
          have cg := (H.out.blk 1 rfl).cell 5
          simp only [List.getElem?_toArray, List.getElem?_cons_zero, List.getElem?_cons_succ] at cg
          go_upto_region 12 with fail
          clear cg
          refine wp_region_held_drew (S := fun w => w.cell? ⟨x, 0, none⟩ = some (.string ⟨nm.toArray⟩) ∧ w.cell? ⟨x, 1, none⟩ = some (.slice (some ⟨bt, ot, none⟩) n2 cp2) ∧ w.cell? ⟨u, 0, none⟩ = some (.int .i64 T) ∧ w.cell? ⟨y, 6, none⟩ = some (.int .i64 B)) (by kernel_rfl) ⟨(H.out.blk 0 rfl).cell 0, (H.out.blk 0 rfl).cell 1, (H.out.blk 3 rfl).cell 0, (H.out.blk 1 rfl).cell 6⟩ (fun hHeld => ?_)
          replace H := Lib.hid (H.out.drew); (try simp only [List.set_cons_zero, List.set_cons_succ, List.cons_append, List.nil_append, List.eraseIdx_cons_zero, List.eraseIdx_cons_succ, List.setIfInBounds_toArray, World.size_alloc, selR, List.getD_cons_zero, List.getD_cons_succ] at H)
          generalize World.drew _ = w8 at *
          refine wpAnyH_take (i := 0) (v := ?vq6_0) (get_o0) (by kernel_rfl) (by kernel_rfl) (by kernel_rfl) (by exact fun _ _ _ h => h) (Or.inl ⟨by rfl, ?hyq6_0⟩) (by assumption) ?_
          case hyq6_0 => (intro w hSw; (try dsimp only at hSw); go_simp) <;> with_reducible rfl
          try simp only [Act.put, List.setIfInBounds_toArray, List.set_cons_zero, List.set_cons_succ]
          refine wpAnyH_take (i := 2) (v := ?vq6_2) (get_os (get_os (get_o0))) (by kernel_rfl) (by kernel_rfl) (by kernel_rfl) (by exact fun _ _ _ h => h) (Or.inl ⟨by rfl, ?hyq6_2⟩) (by assumption) ?_
          case hyq6_2 => (intro w hSw; (try dsimp only at hSw); go_simp) <;> with_reducible rfl
          try simp only [Act.put, List.setIfInBounds_toArray, List.set_cons_zero, List.set_cons_succ]
          refine wpAnyH_take (i := 3) (v := ?vq6_3) (get_os (get_os (get_os (get_o0)))) (by kernel_rfl) (by kernel_rfl) (by kernel_rfl) (by exact fun _ _ _ h => h) (Or.inl ⟨by rfl, ?hyq6_3⟩) (by assumption) ?_
          case hyq6_3 => (intro w hSw; (try dsimp only at hSw); go_simp) <;> with_reducible rfl
          try simp only [Act.put, List.setIfInBounds_toArray, List.set_cons_zero, List.set_cons_succ]
          refine wpAnyH_take (i := 4) (v := ?vq6_4) (get_os (get_os (get_os (get_os (get_o0))))) (by kernel_rfl) (by kernel_rfl) (by kernel_rfl) (by exact fun _ _ _ h => h) (Or.inl ⟨by rfl, ?hyq6_4⟩) (by assumption) ?_
          case hyq6_4 => (intro w hSw; (try dsimp only at hSw); go_simp) <;> with_reducible rfl
          try simp only [Act.put, List.setIfInBounds_toArray, List.set_cons_zero, List.set_cons_succ]
          refine wpAnyH_take (i := 5) (v := ?vq6_5) (get_os (get_os (get_os (get_os (get_os (get_o0)))))) (by kernel_rfl) (by kernel_rfl) (by kernel_rfl) (by exact fun _ _ _ h => h) (Or.inl ⟨by rfl, ?hyq6_5⟩) (by assumption) ?_
          case hyq6_5 => (intro w hSw; (try dsimp only at hSw); go_simp) <;> with_reducible rfl
          try simp only [Act.put, List.setIfInBounds_toArray, List.set_cons_zero, List.set_cons_succ]
          refine wpAnyH_take (i := 6) (v := ?vq6_6) (get_os (get_os (get_os (get_os (get_os (get_os (get_o0))))))) (by kernel_rfl) (by kernel_rfl) (by kernel_rfl) (by exact fun _ _ _ h => h) (Or.inl ⟨by rfl, ?hyq6_6⟩) (by assumption) ?_
          case hyq6_6 => (intro w hSw; (try dsimp only at hSw); go_simp) <;> with_reducible rfl
          try simp only [Act.put, List.setIfInBounds_toArray, List.set_cons_zero, List.set_cons_succ]
          refine wpAnyH_take (i := 7) (v := ?vq6_7) (get_os (get_os (get_os (get_os (get_os (get_os (get_os (get_o0)))))))) (by kernel_rfl) (by kernel_rfl) (by kernel_rfl) (by exact fun _ _ _ h => h) (Or.inl ⟨by rfl, ?hyq6_7⟩) (by assumption) ?_
          case hyq6_7 => (intro w hSw; (try dsimp only at hSw); go_simp) <;> with_reducible rfl
          try simp only [Act.put, List.setIfInBounds_toArray, List.set_cons_zero, List.set_cons_succ]
          refine wpAnyH_ready (rs := [1, 8]) (by kernel_rfl) (by simp) ?_
          refine (AllReadyH.cons (get_os (get_o0)) (fun KK hKK => ?_) (AllReadyH.cons (get_os (get_os (get_os (get_os (get_os (get_os (get_os (get_os (get_o0))))))))) (fun KK hKK => ?_) AllReadyH.nil))
          · have ca1 := (H.out.blk 3 rfl).cell 2; simp only [List.getElem?_toArray, List.getElem?_cons_zero, List.getElem?_cons_succ] at ca1
            go_simp
            clear ca1
            refine hKK.out _ _ ⟨(H.out.blk 0 rfl).cell 0, (H.out.blk 0 rfl).cell 1, (H.out.blk 3 rfl).cell 0, (H.out.blk 1 rfl).cell 6⟩ (fun hHeld => ?_)
            clear hKK KK
            try simp only [Act.put, List.setIfInBounds_toArray, List.set_cons_zero, List.set_cons_succ]
            refine wpAnyH_ready (rs := [8]) (by kernel_rfl) (by simp) ?_
            refine (AllReadyH.cons (get_os (get_os (get_os (get_os (get_os (get_os (get_os (get_os (get_o0))))))))) (fun KK hKK => ?_) AllReadyH.nil)
            go_simp
            refine (HG.out _ H.out.to).mono ?_; rintro e' w9 ⟨rfl, hb9⟩
            replace H := Lib.hid (H.out.bel hb9); (try simp only [List.set_cons_zero, List.set_cons_succ, List.cons_append, List.nil_append, List.eraseIdx_cons_zero, List.eraseIdx_cons_succ, List.setIfInBounds_toArray, World.size_alloc, selR, List.getD_cons_zero, List.getD_cons_succ] at H)
            clear hb9
            refine hKK.out _ _ ⟨(H.out.blk 0 rfl).cell 0, (H.out.blk 0 rfl).cell 1, (H.out.blk 3 rfl).cell 0, (H.out.blk 1 rfl).cell 6⟩ (fun hHeld => ?_)
            clear hKK KK
            try simp only [Act.put, List.setIfInBounds_toArray, List.set_cons_zero, List.set_cons_succ]
            refine wpAnyH_ready (rs := [9]) (by kernel_rfl) (by simp) ?_
            refine (AllReadyH.cons (get_os (get_os (get_os (get_os (get_os (get_os (get_os (get_os (get_os (get_o0)))))))))) (fun KK hKK => ?_) AllReadyH.nil)
            refine step_buildSlice1v rfl E_num (.tmp 79) rfl (.int .i64 (gl k)) rfl #[.int .i64 (gl k)] rfl rfl (by omega) ?_
            replace H := Lib.hid (H.out.alloc #[.int .i64 (gl k)] 3); (try simp only [List.set_cons_zero, List.set_cons_succ, List.cons_append, List.nil_append, List.eraseIdx_cons_zero, List.eraseIdx_cons_succ, List.setIfInBounds_toArray, World.size_alloc, selR, List.getD_cons_zero, List.getD_cons_succ] at H)
            refine hKK.out _ _ ⟨(H.out.blk 0 rfl).cell 0, (H.out.blk 0 rfl).cell 1, (H.out.blk 3 rfl).cell 0, (H.out.blk 1 rfl).cell 6⟩ (fun hHeld => ?_)
            clear hKK KK
            try simp only [Act.put, List.setIfInBounds_toArray, List.set_cons_zero, List.set_cons_succ]
            refine wpAnyH_ready (rs := [10]) (by kernel_rfl) (by simp) ?_
            refine (AllReadyH.cons (get_ot (get_o0)) (fun KK hKK => ?_) AllReadyH.nil)
            refine step_append0 rfl (.tmp 72) (.tmp 80) _ rfl E_num 0 (Nat.zero_le _) _ q _ rfl (H.out.row 5 rfl) _ 1 1 [.int .i64 (gl k)] rfl (reads_of_block (H.out.blk 6 rfl) rfl) (by simp [Value.oneCell']) (by unfold maxLen; omega) (by omega) ?_
            intro vq wq howq hgq hatq
            replace H := Lib.hid (H.out.setRow 5 rfl hgq howq hatq); (try simp only [List.set_cons_zero, List.set_cons_succ, List.cons_append, List.nil_append, List.eraseIdx_cons_zero, List.eraseIdx_cons_succ, List.setIfInBounds_toArray, World.size_alloc, selR, List.getD_cons_zero, List.getD_cons_succ] at H)
            clear howq hgq hatq
            obtain ⟨IA2, ic2, rfl, _⟩ := own_slice (H.out.row 5 rfl)
            refine hKK.out _ _ ⟨(H.out.blk 0 rfl).cell 0, (H.out.blk 0 rfl).cell 1, (H.out.blk 3 rfl).cell 0, (H.out.blk 1 rfl).cell 6⟩ (fun hHeld => ?_)
            clear hKK KK
            try simp only [Act.put, List.setIfInBounds_toArray, List.set_cons_zero, List.set_cons_succ]
            refine wpAnyH_take (i := 11) (v := ?vq7_) (get_ot (get_os (get_o0))) (by kernel_rfl) (by kernel_rfl) (by kernel_rfl) (by exact fun _ _ _ h => h) (Or.inl ⟨by rfl, ?hyq7_⟩) (by assumption) ?_
            case hyq7_ => (intro w hSw; (try dsimp only at hSw); go_simp) <;> with_reducible rfl
            try simp only [Act.put, List.setIfInBounds_toArray, List.set_cons_zero, List.set_cons_succ]
            refine wpAnyH_ready (rs := [12]) (by kernel_rfl) (by simp) ?_
            refine (AllReadyH.cons (get_ot (get_os (get_os (get_o0)))) (fun KK hKK => ?_) AllReadyH.nil)
            have ca12 := (H.out.blk 3 rfl).cell 2; simp only [List.getElem?_toArray, List.getElem?_cons_zero, List.getElem?_cons_succ] at ca12; have fa12 := (H.out.blk 3 rfl).frozen 2
            go_simp
            replace H := Lib.hid (H.out.setCell 3 rfl 2 (.slice IA2 (q + 1) ic2)); (try simp only [List.set_cons_zero, List.set_cons_succ, List.cons_append, List.nil_append, List.eraseIdx_cons_zero, List.eraseIdx_cons_succ, List.setIfInBounds_toArray, World.size_alloc, selR, List.getD_cons_zero, List.getD_cons_succ] at H)
            clear ca12 fa12
            refine hKK.out _ _ ⟨(H.out.blk 0 rfl).cell 0, (H.out.blk 0 rfl).cell 1, (H.out.blk 3 rfl).cell 0, (H.out.blk 1 rfl).cell 6⟩ (fun hHeld => ?_)
            clear hKK KK
            try simp only [Act.put, List.setIfInBounds_toArray, List.set_cons_zero, List.set_cons_succ]
            refine wpAnyH_done (by kernel_rfl) ?_ _
            clear hHeld
            replace H := Lib.hid (H.out.sel [0, 1, 2, 3, 4, 5] (by decide) (by simp)); (try simp only [List.set_cons_zero, List.set_cons_succ, List.cons_append, List.nil_append, List.eraseIdx_cons_zero, List.eraseIdx_cons_succ, List.setIfInBounds_toArray, World.size_alloc, selR, List.getD_cons_zero, List.getD_cons_succ] at H)
            rw [← HK1.out, ← HK2.out] at H
            clear HK1 HK2
            go_wp2_with fail
            go_roundg (N - (k + 1))
            case rel => exact ⟨k + 1, q + 1, KA2, kc2, IA2, ic2, rfl, by omega, by omega, by go_num, HKL, H⟩
            case measure => rw [Hgk.out]; omega
          · go_simp
            refine (HG.out _ H.out.to).mono ?_; rintro e' w9 ⟨rfl, hb9⟩
            replace H := Lib.hid (H.out.bel hb9); (try simp only [List.set_cons_zero, List.set_cons_succ, List.cons_append, List.nil_append, List.eraseIdx_cons_zero, List.eraseIdx_cons_succ, List.setIfInBounds_toArray, World.size_alloc, selR, List.getD_cons_zero, List.getD_cons_succ] at H)
            clear hb9
            refine hKK.out _ _ ⟨(H.out.blk 0 rfl).cell 0, (H.out.blk 0 rfl).cell 1, (H.out.blk 3 rfl).cell 0, (H.out.blk 1 rfl).cell 6⟩ (fun hHeld => ?_)
            clear hKK KK
            try simp only [Act.put, List.setIfInBounds_toArray, List.set_cons_zero, List.set_cons_succ]
            refine wpAnyH_ready (rs := [1, 9]) (by kernel_rfl) (by simp) ?_
            refine (AllReadyH.cons (get_os (get_o0)) (fun KK hKK => ?_) (AllReadyH.cons (get_os (get_os (get_os (get_os (get_os (get_os (get_os (get_os (get_os (get_o0)))))))))) (fun KK hKK => ?_) AllReadyH.nil))
            · have ca1 := (H.out.blk 3 rfl).cell 2; simp only [List.getElem?_toArray, List.getElem?_cons_zero, List.getElem?_cons_succ] at ca1
              go_simp
              clear ca1
              refine hKK.out _ _ ⟨(H.out.blk 0 rfl).cell 0, (H.out.blk 0 rfl).cell 1, (H.out.blk 3 rfl).cell 0, (H.out.blk 1 rfl).cell 6⟩ (fun hHeld => ?_)
              clear hKK KK
              try simp only [Act.put, List.setIfInBounds_toArray, List.set_cons_zero, List.set_cons_succ]
              refine wpAnyH_ready (rs := [9]) (by kernel_rfl) (by simp) ?_
              refine (AllReadyH.cons (get_os (get_os (get_os (get_os (get_os (get_os (get_os (get_os (get_os (get_o0)))))))))) (fun KK hKK => ?_) AllReadyH.nil)
              refine step_buildSlice1v rfl E_num (.tmp 79) rfl (.int .i64 (gl k)) rfl #[.int .i64 (gl k)] rfl rfl (by omega) ?_
              replace H := Lib.hid (H.out.alloc #[.int .i64 (gl k)] 3); (try simp only [List.set_cons_zero, List.set_cons_succ, List.cons_append, List.nil_append, List.eraseIdx_cons_zero, List.eraseIdx_cons_succ, List.setIfInBounds_toArray, World.size_alloc, selR, List.getD_cons_zero, List.getD_cons_succ] at H)
              refine hKK.out _ _ ⟨(H.out.blk 0 rfl).cell 0, (H.out.blk 0 rfl).cell 1, (H.out.blk 3 rfl).cell 0, (H.out.blk 1 rfl).cell 6⟩ (fun hHeld => ?_)
              clear hKK KK
              try simp only [Act.put, List.setIfInBounds_toArray, List.set_cons_zero, List.set_cons_succ]
              refine wpAnyH_ready (rs := [10]) (by kernel_rfl) (by simp) ?_
              refine (AllReadyH.cons (get_ot (get_o0)) (fun KK hKK => ?_) AllReadyH.nil)
              refine step_append0 rfl (.tmp 72) (.tmp 80) _ rfl E_num 0 (Nat.zero_le _) _ q _ rfl (H.out.row 5 rfl) _ 1 1 [.int .i64 (gl k)] rfl (reads_of_block (H.out.blk 6 rfl) rfl) (by simp [Value.oneCell']) (by unfold maxLen; omega) (by omega) ?_
              intro vq wq howq hgq hatq
              replace H := Lib.hid (H.out.setRow 5 rfl hgq howq hatq); (try simp only [List.set_cons_zero, List.set_cons_succ, List.cons_append, List.nil_append, List.eraseIdx_cons_zero, List.eraseIdx_cons_succ, List.setIfInBounds_toArray, World.size_alloc, selR, List.getD_cons_zero, List.getD_cons_succ] at H)
              clear howq hgq hatq
              obtain ⟨IA2, ic2, rfl, _⟩ := own_slice (H.out.row 5 rfl)
              refine hKK.out _ _ ⟨(H.out.blk 0 rfl).cell 0, (H.out.blk 0 rfl).cell 1, (H.out.blk 3 rfl).cell 0, (H.out.blk 1 rfl).cell 6⟩ (fun hHeld => ?_)
              clear hKK KK
              try simp only [Act.put, List.setIfInBounds_toArray, List.set_cons_zero, List.set_cons_succ]
              refine wpAnyH_take (i := 11) (v := ?vq8_) (get_ot (get_os (get_o0))) (by kernel_rfl) (by kernel_rfl) (by kernel_rfl) (by exact fun _ _ _ h => h) (Or.inl ⟨by rfl, ?hyq8_⟩) (by assumption) ?_
              case hyq8_ => (intro w hSw; (try dsimp only at hSw); go_simp) <;> with_reducible rfl
              try simp only [Act.put, List.setIfInBounds_toArray, List.set_cons_zero, List.set_cons_succ]
              refine wpAnyH_ready (rs := [12]) (by kernel_rfl) (by simp) ?_
              refine (AllReadyH.cons (get_ot (get_os (get_os (get_o0)))) (fun KK hKK => ?_) AllReadyH.nil)
              have ca12 := (H.out.blk 3 rfl).cell 2; simp only [List.getElem?_toArray, List.getElem?_cons_zero, List.getElem?_cons_succ] at ca12; have fa12 := (H.out.blk 3 rfl).frozen 2
              go_simp
              replace H := Lib.hid (H.out.setCell 3 rfl 2 (.slice IA2 (q + 1) ic2)); (try simp only [List.set_cons_zero, List.set_cons_succ, List.cons_append, List.nil_append, List.eraseIdx_cons_zero, List.eraseIdx_cons_succ, List.setIfInBounds_toArray, World.size_alloc, selR, List.getD_cons_zero, List.getD_cons_succ] at H)
              clear ca12 fa12
              refine hKK.out _ _ ⟨(H.out.blk 0 rfl).cell 0, (H.out.blk 0 rfl).cell 1, (H.out.blk 3 rfl).cell 0, (H.out.blk 1 rfl).cell 6⟩ (fun hHeld => ?_)
              clear hKK KK
              try simp only [Act.put, List.setIfInBounds_toArray, List.set_cons_zero, List.set_cons_succ]
              refine wpAnyH_done (by kernel_rfl) ?_ _
              clear hHeld
              replace H := Lib.hid (H.out.sel [0, 1, 2, 3, 4, 5] (by decide) (by simp)); (try simp only [List.set_cons_zero, List.set_cons_succ, List.cons_append, List.nil_append, List.eraseIdx_cons_zero, List.eraseIdx_cons_succ, List.setIfInBounds_toArray, World.size_alloc, selR, List.getD_cons_zero, List.getD_cons_succ] at H)
              rw [← HK1.out, ← HK2.out] at H
              clear HK1 HK2
              go_wp2_with fail
              go_roundg (N - (k + 1))
              case rel => exact ⟨k + 1, q + 1, KA2, kc2, IA2, ic2, rfl, by omega, by omega, by go_num, HKL, H⟩
              case measure => rw [Hgk.out]; omega
            · refine step_buildSlice1v rfl E_num (.tmp 79) rfl (.int .i64 (gl k)) rfl #[.int .i64 (gl k)] rfl rfl (by omega) ?_
              replace H := Lib.hid (H.out.alloc #[.int .i64 (gl k)] 3); (try simp only [List.set_cons_zero, List.set_cons_succ, List.cons_append, List.nil_append, List.eraseIdx_cons_zero, List.eraseIdx_cons_succ, List.setIfInBounds_toArray, World.size_alloc, selR, List.getD_cons_zero, List.getD_cons_succ] at H)
              refine hKK.out _ _ ⟨(H.out.blk 0 rfl).cell 0, (H.out.blk 0 rfl).cell 1, (H.out.blk 3 rfl).cell 0, (H.out.blk 1 rfl).cell 6⟩ (fun hHeld => ?_)
              clear hKK KK
              try simp only [Act.put, List.setIfInBounds_toArray, List.set_cons_zero, List.set_cons_succ]
              refine wpAnyH_ready (rs := [1]) (by kernel_rfl) (by simp) ?_
              refine (AllReadyH.cons (get_os (get_o0)) (fun KK hKK => ?_) AllReadyH.nil)
              have ca1 := (H.out.blk 3 rfl).cell 2; simp only [List.getElem?_toArray, List.getElem?_cons_zero, List.getElem?_cons_succ] at ca1
              go_simp
              clear ca1
              refine hKK.out _ _ ⟨(H.out.blk 0 rfl).cell 0, (H.out.blk 0 rfl).cell 1, (H.out.blk 3 rfl).cell 0, (H.out.blk 1 rfl).cell 6⟩ (fun hHeld => ?_)
              clear hKK KK
              try simp only [Act.put, List.setIfInBounds_toArray, List.set_cons_zero, List.set_cons_succ]
              refine wpAnyH_ready (rs := [10]) (by kernel_rfl) (by simp) ?_
              refine (AllReadyH.cons (get_ot (get_o0)) (fun KK hKK => ?_) AllReadyH.nil)
              refine step_append0 rfl (.tmp 72) (.tmp 80) _ rfl E_num 0 (Nat.zero_le _) _ q _ rfl (H.out.row 5 rfl) _ 1 1 [.int .i64 (gl k)] rfl (reads_of_block (H.out.blk 6 rfl) rfl) (by simp [Value.oneCell']) (by unfold maxLen; omega) (by omega) ?_
              intro vq wq howq hgq hatq
              replace H := Lib.hid (H.out.setRow 5 rfl hgq howq hatq); (try simp only [List.set_cons_zero, List.set_cons_succ, List.cons_append, List.nil_append, List.eraseIdx_cons_zero, List.eraseIdx_cons_succ, List.setIfInBounds_toArray, World.size_alloc, selR, List.getD_cons_zero, List.getD_cons_succ] at H)
              clear howq hgq hatq
              obtain ⟨IA2, ic2, rfl, _⟩ := own_slice (H.out.row 5 rfl)
              refine hKK.out _ _ ⟨(H.out.blk 0 rfl).cell 0, (H.out.blk 0 rfl).cell 1, (H.out.blk 3 rfl).cell 0, (H.out.blk 1 rfl).cell 6⟩ (fun hHeld => ?_)
              clear hKK KK
              try simp only [Act.put, List.setIfInBounds_toArray, List.set_cons_zero, List.set_cons_succ]
              refine wpAnyH_take (i := 11) (v := ?vq9_) (get_ot (get_os (get_o0))) (by kernel_rfl) (by kernel_rfl) (by kernel_rfl) (by exact fun _ _ _ h => h) (Or.inl ⟨by rfl, ?hyq9_⟩) (by assumption) ?_
              case hyq9_ => (intro w hSw; (try dsimp only at hSw); go_simp) <;> with_reducible rfl
              try simp only [Act.put, List.setIfInBounds_toArray, List.set_cons_zero, List.set_cons_succ]
              refine wpAnyH_ready (rs := [12]) (by kernel_rfl) (by simp) ?_
              refine (AllReadyH.cons (get_ot (get_os (get_os (get_o0)))) (fun KK hKK => ?_) AllReadyH.nil)
              have ca12 := (H.out.blk 3 rfl).cell 2; simp only [List.getElem?_toArray, List.getElem?_cons_zero, List.getElem?_cons_succ] at ca12; have fa12 := (H.out.blk 3 rfl).frozen 2
              go_simp
              replace H := Lib.hid (H.out.setCell 3 rfl 2 (.slice IA2 (q + 1) ic2)); (try simp only [List.set_cons_zero, List.set_cons_succ, List.cons_append, List.nil_append, List.eraseIdx_cons_zero, List.eraseIdx_cons_succ, List.setIfInBounds_toArray, World.size_alloc, selR, List.getD_cons_zero, List.getD_cons_succ] at H)
              clear ca12 fa12
              refine hKK.out _ _ ⟨(H.out.blk 0 rfl).cell 0, (H.out.blk 0 rfl).cell 1, (H.out.blk 3 rfl).cell 0, (H.out.blk 1 rfl).cell 6⟩ (fun hHeld => ?_)
              clear hKK KK
              try simp only [Act.put, List.setIfInBounds_toArray, List.set_cons_zero, List.set_cons_succ]
              refine wpAnyH_done (by kernel_rfl) ?_ _
              clear hHeld
              replace H := Lib.hid (H.out.sel [0, 1, 2, 3, 4, 5] (by decide) (by simp)); (try simp only [List.set_cons_zero, List.set_cons_succ, List.cons_append, List.nil_append, List.eraseIdx_cons_zero, List.eraseIdx_cons_succ, List.setIfInBounds_toArray, World.size_alloc, selR, List.getD_cons_zero, List.getD_cons_succ] at H)
              rw [← HK1.out, ← HK2.out] at H
              clear HK1 HK2
              go_wp2_with fail
              go_roundg (N - (k + 1))
              case rel => exact ⟨k + 1, q + 1, KA2, kc2, IA2, ic2, rfl, by omega, by omega, by go_num, HKL, H⟩
              case measure => rw [Hgk.out]; omega
        · obtain rfl : k = N := by omega
          have hq100 : q ≤ 1000000 := by omega
          go_wp2_with (first | ((with_reducible show wpList _ _ _ (⟨some 84, _, _, _, _, _⟩ :: _) _ _); (refine wpList_load_blk rfl rowScan (.tmp 5) rfl _ rfl (H.out.blk 3 rfl) rfl ?_)) | ((with_reducible show wpList _ _ _ (⟨_, .store _ (.tmp 4) _, _, _, _, _⟩ :: _) _ _); (refine wpList_store_blk rfl rowScan (.tmp 4) (.tmp 84) rfl _ rfl (H.out.blk 2 rfl) rfl (#[.int .i64 T, .slice KA q kc, .slice IA q ic]) rfl rfl (by simp [Value.oneCell']) ?_; intro wq bq hgq; replace H := Lib.hid (H.out.setBlk 2 rfl hgq bq); (try simp only [List.set_cons_zero, List.set_cons_succ, List.cons_append, List.nil_append, List.eraseIdx_cons_zero, List.eraseIdx_cons_succ, List.setIfInBounds_toArray, World.size_alloc, selR, List.getD_cons_zero, List.getD_cons_succ] at H); clear hgq bq)))
          refine bodyPost_ret (results_blk1 rfl rowScan rfl (H.out.blk 2 rfl) rfl) rfl ?_
          refine ⟨⟨T, ⟨KA, q, kc, (ksF f k).map (fun (j : Nat) => (j : Int))⟩, ⟨IA, q, ic, (ksF f k).map gl⟩⟩, rfl, HFin.out.symm, H.out.to, ?_, ?_⟩
          · exact holds_scn hT64 (by have h := H.out.get 4 rfl; rw [← map_mapK] at h; exact h) (by have h := H.out.get 5 rfl; rw [← map_mapI] at h; exact h) HI1.out (HI2.out) hq100 hq100
          · rintro g (h | h)
            · exact H.out.new 4 rfl g h
            · exact H.out.new 5 rfl g h
  · have z1 : (pf == 0) = false := by simpa using h0
    have z2 : decide (0 < pf) = true := by have := hpf; simp <;> omega
    have hm := hpm h0
    subst hm
    cases g with
    | false =>
      simp [h0] at hpt
      have HTM : Hid ((M : Int) = T) := by show _ = _; omega
      simp only [Bool.false_eq_true, if_false] at HFin
      clear hpt hpm hpb hpf HF1' h0
      go_enter Try.func26, Try.ntmps26
      go_upto_region 1 with fail
      generalize w.heap.size + 1 + 1 = z at *
      generalize w.heap.size + 1 = y at *
      generalize w.heap.size = x at *
      generalize World.alloc (World.alloc (World.alloc _ _) _) _ = w1 at *
      have cf : w1.cell? ⟨y, 0, none⟩ = some (.int .i64 pf) := (H.out.blk 1 rfl).cell 0
      have cm : w1.cell? ⟨y, 1, none⟩ = some (.int .i64 M) := (H.out.blk 1 rfl).cell 1
      have cg : w1.cell? ⟨y, 5, none⟩ = some (.bool false) := (H.out.blk 1 rfl).cell 5
      go_upto_region 4 with (first | ((with_reducible show wpList _ _ _ (⟨some 18, _, _, _, _, _⟩ :: _) _ _); refine wpList_build1 (v := .agg #[.int .i64 M, .slice none 0 0, .slice none 0 0]) rfl (.tmp 17) rfl rfl (by intro w; kernel_rfl) ?_) | ((with_reducible show wpList _ _ _ (⟨_, .store _ (.tmp 5) _, _, _, _, _⟩ :: _) _ _); (refine wpList_store_new rfl rowScan (.tmp 5) (.tmp 18) rfl rfl rfl (#[.int .i64 M, .slice none 0 0, .slice none 0 0]) rfl rfl (by simp [Value.oneCell']) ?_; replace H := Lib.hid (H.out.alloc (#[.int .i64 M, .slice none 0 0, .slice none 0 0]) 62); (try simp only [List.set_cons_zero, List.set_cons_succ, List.cons_append, List.nil_append, List.eraseIdx_cons_zero, List.eraseIdx_cons_succ, List.setIfInBounds_toArray, World.size_alloc, selR, List.getD_cons_zero, List.getD_cons_succ] at H))))
      (try simp only [Act.put, List.setIfInBounds_toArray, List.set_cons_zero, List.set_cons_succ])
      clear cf cm cg
      generalize w1.heap.size = u at *
      generalize World.alloc w1 _ = w2 at *
      have cf : w2.cell? ⟨y, 0, none⟩ = some (.int .i64 pf) := (H.out.blk 1 rfl).cell 0
      have cm : w2.cell? ⟨y, 1, none⟩ = some (.int .i64 M) := (H.out.blk 1 rfl).cell 1
      have cg : w2.cell? ⟨y, 5, none⟩ = some (.bool false) := (H.out.blk 1 rfl).cell 5
      have cb : w2.cell? ⟨y, 6, none⟩ = some (.int .i64 pb) := (H.out.blk 1 rfl).cell 6
      have cu : w2.cell? ⟨u, 0, none⟩ = some (.int .i64 M) := (H.out.blk 3 rfl).cell 0
      have fu := (H.out.blk 3 rfl).frozen 0
      go_upto_region 6 with fail
      skip
      replace H := Lib.hid (H.out.turn 3 rfl (rBlk u 62 #[.int .i64 T, .slice none 0 0, .slice none 0 0]) (by rw [← HTM.out]; exact H.out.get 3 rfl) (fun g hg => hg)); (try simp only [List.set_cons_zero, List.set_cons_succ, List.cons_append, List.nil_append, List.eraseIdx_cons_zero, List.eraseIdx_cons_succ, List.setIfInBounds_toArray, World.size_alloc, selR, List.getD_cons_zero, List.getD_cons_succ] at H)
      clear cf cm cg cb cu fu
      skip
      have hrc := HRC.out _ H.out.to
      have ct : w2.cell? ⟨u, 0, none⟩ = some (.int .i64 T) := (H.out.blk 3 rfl).cell 0
      have cd : w2.cell? ⟨x, 1, none⟩ = some (.slice (some ⟨bt, ot, none⟩) n2 cp2) := (H.out.blk 0 rfl).cell 1
      have i0 : (0 : Int) ≤ T := by omega
      have i1 : (T : Int) < n2 := by omega
      replace H := Lib.hid (H.out.addNil 3 1); (try simp only [List.set_cons_zero, List.set_cons_succ, List.cons_append, List.nil_append, List.eraseIdx_cons_zero, List.eraseIdx_cons_succ, List.setIfInBounds_toArray, World.size_alloc, selR, List.getD_cons_zero, List.getD_cons_succ] at H)
      skip
      have HL0 : Hid ((ksF f 0).length = 0) := rfl
      go_upto_region 7 with fail
      clear hrc ct cd
      go_loopg [44] N (fun gg s44 wr => ∃ (k q : Nat) (KA : Option Addr) (kc : Nat), gg = N - k ∧ k ≤ N ∧ q ≤ k ∧ s44 = .int .i64 k ∧ Hid ((ksF f k).length = q) ∧ Hid (SL No w wr [rBlk x 66 #[.string ⟨nm.toArray⟩, .slice (some ⟨bt, ot, none⟩) n2 cp2], rBlk y 59 #[.int .i64 pf, .int .i64 M, .string ⟨lo.toArray⟩, .string ⟨hi.toArray⟩, .slice A n c, .bool false, .int .i64 pb], rBlk z 62 #[.int .i64 0, .slice none 0 0, .slice none 0 0], rBlk u 62 #[.int .i64 T, .slice KA q kc, .slice none 0 0], rRow 3 1 (.slice KA q kc) q ((ksF f k).map (fun (j : Nat) => Value.int .i64 j))]))
      case atStart => exact ⟨0, 0, none, 0, rfl, by omega, by omega, rfl, HL0, H⟩
      case round =>
        clear H HL0
        obtain ⟨k, q, KA, kc, hgk, hk, hqk, rfl, HL, H⟩ := hrel
        have Hgk := Lib.hid hgk
        clear hgk
        by_cases hlt : k < N
        · have k0 : (0 : Int) ≤ k := by omega
          have k1 : (k : Int) < N := by omega
          obtain ⟨j, hjm, hfj, hcl⟩ := HLF.out k hlt
          have HC1 := Lib.hid hcl
          have HC2 := Lib.hid (HLE.out j hjm)
          rw [← hfj] at HC2
          skip
          clear hjm hfj hcl
          cases hfk : f k with
          | false =>
            rw [hfk] at HC2
            have HK1 : Hid (ksF f (k + 1) = ksF f k) := ksF_no hfk
            clear hfk
            have cf : wr.cell? ⟨y, 0, none⟩ = some (.int .i64 pf) := (H.out.blk 1 rfl).cell 0
            have cu : wr.cell? ⟨u, 0, none⟩ = some (.int .i64 T) := (H.out.blk 3 rfl).cell 0
            have cm : wr.cell? ⟨y, 1, none⟩ = some (.int .i64 M) := (H.out.blk 1 rfl).cell 1
            have HB := Lib.hid H.out.to
            go_upto_region 9 with fail
            have f_cf := fun u : Over wr => Over.cell cf u
            have f_cu := fun u : Over wr => Over.cell cu u
            have f_cm := fun u : Over wr => Over.cell cm u
            refine wp_region_over (by kernel_rfl) (by kernel_rfl) ?_
            (try simp only [Act.put, List.setIfInBounds_toArray, List.set_cons_zero, List.set_cons_succ])
            repeat (first
              | ((with_reducible show wpQuiet _ _ _ _ (⟨some 51, _, _, _, _, _⟩ :: _) _); refine wpQuiet_load_row (by first | rfl | go_simp) rowDm (.tmp 2) rfl _ (0) rfl _ rfl (H.out.blk 0 rfl).lt (H.out.blk 0 rfl).range ?_; simp only [Act.put, List.setIfInBounds_toArray, List.set_cons_zero, List.set_cons_succ])
              | ((with_reducible show wpQuiet _ _ _ _ (⟨some 52, _, _, _, _, _⟩ :: _) _); refine wpQuiet_load_row (by first | rfl | go_simp) rowPk (.tmp 3) rfl _ (0) rfl _ rfl (H.out.blk 1 rfl).lt (H.out.blk 1 rfl).range ?_; simp only [Act.put, List.setIfInBounds_toArray, List.set_cons_zero, List.set_cons_succ])
              | ((with_reducible show wpQuiet _ _ _ _ (⟨some 53, _, _, _, _, _⟩ :: _) _); refine wpQuiet_load_row (by first | rfl | go_simp) rowDm (.tmp 2) rfl _ (0) rfl _ rfl (H.out.blk 0 rfl).lt (H.out.blk 0 rfl).range ?_; simp only [Act.put, List.setIfInBounds_toArray, List.set_cons_zero, List.set_cons_succ])
              | ((with_reducible show wpQuiet _ _ _ _ (⟨some 59, _, _, _, _, _⟩ :: _) _); go_big_quiet_step ((go_at_call 47; rename_i u; exact calls_over (HC1.out _ (HB.out.trans u.bel)))))
              | ((with_reducible show wpQuiet _ _ _ _ (⟨some 60, _, _, _, _, _⟩ :: _) _); go_big_quiet_step ((go_at_call 46; rename_i u; exact calls_over (HC2.out _ (HB.out.trans u.bel)))))
              | go_big_quiet_step (fail))
            refine wpQuiet_nil ?_
            rintro w5 ⟨⟨_, hw5⟩, rfl⟩
            (try dsimp only)
            replace H := Lib.hid (H.out.bel hw5); (try simp only [List.set_cons_zero, List.set_cons_succ, List.cons_append, List.nil_append, List.eraseIdx_cons_zero, List.eraseIdx_cons_succ, List.setIfInBounds_toArray, World.size_alloc, selR, List.getD_cons_zero, List.getD_cons_succ] at H)
            clear f_cf f_cu f_cm cf cu cm
            clear HB HC1 HC2
            go_wp2_with fail
            rw [← HK1.out] at H HL
            go_roundg (N - (k + 1))
            case rel => exact ⟨k + 1, q, KA, kc, rfl, by omega, by omega, by go_num, HL, H⟩
            case measure => rw [Hgk.out]; omega
          | true =>
            rw [hfk] at HC2
            have HK1 : Hid ((ksF f (k + 1)).map (fun (j : Nat) => Value.int .i64 j) = (ksF f k).map (fun (j : Nat) => Value.int .i64 j) ++ [.int .i64 k]) := by show _ = _; rw [ksF_yes hfk, List.map_append]; rfl
            have HKL : Hid ((ksF f (k + 1)).length = q + 1) := by show _ = _; rw [ksF_yes hfk, List.length_append, HL.out]; rfl
            have cf : wr.cell? ⟨y, 0, none⟩ = some (.int .i64 pf) := (H.out.blk 1 rfl).cell 0
            have cu : wr.cell? ⟨u, 0, none⟩ = some (.int .i64 T) := (H.out.blk 3 rfl).cell 0
            have cm : wr.cell? ⟨y, 1, none⟩ = some (.int .i64 M) := (H.out.blk 1 rfl).cell 1
            have HB := Lib.hid H.out.to
            go_upto_region 9 with fail
            have f_cf := fun u : Over wr => Over.cell cf u
            have f_cu := fun u : Over wr => Over.cell cu u
            have f_cm := fun u : Over wr => Over.cell cm u
            refine wp_region_over (by kernel_rfl) (by kernel_rfl) ?_
            (try simp only [Act.put, List.setIfInBounds_toArray, List.set_cons_zero, List.set_cons_succ])
            repeat (first
              | ((with_reducible show wpQuiet _ _ _ _ (⟨some 51, _, _, _, _, _⟩ :: _) _); refine wpQuiet_load_row (by first | rfl | go_simp) rowDm (.tmp 2) rfl _ (0) rfl _ rfl (H.out.blk 0 rfl).lt (H.out.blk 0 rfl).range ?_; simp only [Act.put, List.setIfInBounds_toArray, List.set_cons_zero, List.set_cons_succ])
              | ((with_reducible show wpQuiet _ _ _ _ (⟨some 52, _, _, _, _, _⟩ :: _) _); refine wpQuiet_load_row (by first | rfl | go_simp) rowPk (.tmp 3) rfl _ (0) rfl _ rfl (H.out.blk 1 rfl).lt (H.out.blk 1 rfl).range ?_; simp only [Act.put, List.setIfInBounds_toArray, List.set_cons_zero, List.set_cons_succ])
              | ((with_reducible show wpQuiet _ _ _ _ (⟨some 53, _, _, _, _, _⟩ :: _) _); refine wpQuiet_load_row (by first | rfl | go_simp) rowDm (.tmp 2) rfl _ (0) rfl _ rfl (H.out.blk 0 rfl).lt (H.out.blk 0 rfl).range ?_; simp only [Act.put, List.setIfInBounds_toArray, List.set_cons_zero, List.set_cons_succ])
              | ((with_reducible show wpQuiet _ _ _ _ (⟨some 59, _, _, _, _, _⟩ :: _) _); go_big_quiet_step ((go_at_call 47; rename_i u; exact calls_over (HC1.out _ (HB.out.trans u.bel)))))
              | ((with_reducible show wpQuiet _ _ _ _ (⟨some 60, _, _, _, _, _⟩ :: _) _); go_big_quiet_step ((go_at_call 46; rename_i u; exact calls_over (HC2.out _ (HB.out.trans u.bel)))))
              | go_big_quiet_step (fail))
            refine wpQuiet_nil ?_
            rintro w5 ⟨⟨_, hw5⟩, rfl⟩
            (try dsimp only)
            replace H := Lib.hid (H.out.bel hw5); (try simp only [List.set_cons_zero, List.set_cons_succ, List.cons_append, List.nil_append, List.eraseIdx_cons_zero, List.eraseIdx_cons_succ, List.setIfInBounds_toArray, World.size_alloc, selR, List.getD_cons_zero, List.getD_cons_succ] at H)
            clear f_cf f_cu f_cm cf cu cm
            clear HB HC1 HC2
            have ck : w5.cell? ⟨u, 1, none⟩ = some (.slice KA q kc) := (H.out.blk 3 rfl).cell 1
            have cg : w5.cell? ⟨y, 5, none⟩ = some (.bool false) := (H.out.blk 1 rfl).cell 5
            go_upto_region 10 with fail
            go_upto_region 11 with ((with_reducible show wpList _ _ _ (⟨some 67, _, _, _, _, _⟩ :: _) _ _); (replace H := Lib.hid (H.out.alloc #[.int .i64 k] 3); (try simp only [List.set_cons_zero, List.set_cons_succ, List.cons_append, List.nil_append, List.eraseIdx_cons_zero, List.eraseIdx_cons_succ, List.setIfInBounds_toArray, World.size_alloc, selR, List.getD_cons_zero, List.getD_cons_succ] at H); refine wpList_append0 rfl (.tmp 64) (.tmp 66) _ rfl E_num 0 (Nat.zero_le _) _ q _ rfl (H.out.row 4 rfl) _ 1 1 [.int .i64 k] rfl (reads_of_block (H.out.blk 5 rfl) rfl) (by simp [Value.oneCell']) (by unfold maxLen; omega) (by omega) ?_; intro vq wq howq hgq hatq; replace H := Lib.hid (H.out.setRow 4 rfl hgq howq hatq); (try simp only [List.set_cons_zero, List.set_cons_succ, List.cons_append, List.nil_append, List.eraseIdx_cons_zero, List.eraseIdx_cons_succ, List.setIfInBounds_toArray, World.size_alloc, selR, List.getD_cons_zero, List.getD_cons_succ] at H); clear howq hgq hatq; obtain ⟨KA2, kc2, rfl, _⟩ := own_slice (H.out.row 4 rfl); have hz := (H.out.blk 3 rfl).cell 1; have hy := (H.out.blk 3 rfl).frozen 1; simp only [List.getElem?_toArray, List.getElem?_cons_zero, List.getElem?_cons_succ] at hz))
            replace H := Lib.hid (H.out.setCell 3 rfl 1 (.slice KA2 (q + 1) kc2)); (try simp only [List.set_cons_zero, List.set_cons_succ, List.cons_append, List.nil_append, List.eraseIdx_cons_zero, List.eraseIdx_cons_succ, List.setIfInBounds_toArray, World.size_alloc, selR, List.getD_cons_zero, List.getD_cons_succ] at H)
            clear hz hy ck cg
            replace H := Lib.hid (H.out.sel [0, 1, 2, 3, 4] (by decide) (by simp)); (try simp only [List.set_cons_zero, List.set_cons_succ, List.cons_append, List.nil_append, List.eraseIdx_cons_zero, List.eraseIdx_cons_succ, List.setIfInBounds_toArray, World.size_alloc, selR, List.getD_cons_zero, List.getD_cons_succ] at H)
            have cg := (H.out.blk 1 rfl).cell 5
            simp only [List.getElem?_toArray, List.getElem?_cons_zero, List.getElem?_cons_succ] at cg
            go_wp2_with fail
            clear cg
            rw [← HK1.out] at H
            go_roundg (N - (k + 1))
            case rel => exact ⟨k + 1, q + 1, KA2, kc2, rfl, by omega, by omega, by go_num, HKL, H⟩
            case measure => rw [Hgk.out]; omega
        · obtain rfl : k = N := by omega
          have hq100 : q ≤ 1000000 := by omega
          go_wp2_with (first | ((with_reducible show wpList _ _ _ (⟨some 84, _, _, _, _, _⟩ :: _) _ _); (refine wpList_load_blk rfl rowScan (.tmp 5) rfl _ rfl (H.out.blk 3 rfl) rfl ?_)) | ((with_reducible show wpList _ _ _ (⟨_, .store _ (.tmp 4) _, _, _, _, _⟩ :: _) _ _); (refine wpList_store_blk rfl rowScan (.tmp 4) (.tmp 84) rfl _ rfl (H.out.blk 2 rfl) rfl (#[.int .i64 T, .slice KA q kc, .slice none 0 0]) rfl rfl (by simp [Value.oneCell']) ?_; intro wq bq hgq; replace H := Lib.hid (H.out.setBlk 2 rfl hgq bq); (try simp only [List.set_cons_zero, List.set_cons_succ, List.cons_append, List.nil_append, List.eraseIdx_cons_zero, List.eraseIdx_cons_succ, List.setIfInBounds_toArray, World.size_alloc, selR, List.getD_cons_zero, List.getD_cons_succ] at H); clear hgq bq)))
          refine bodyPost_ret (results_blk1 rfl rowScan rfl (H.out.blk 2 rfl) rfl) rfl ?_
          refine ⟨⟨T, ⟨KA, q, kc, (ksF f k).map (fun (j : Nat) => (j : Int))⟩, ⟨none, 0, 0, []⟩⟩, rfl, HFin.out.symm, H.out.to, ?_, ?_⟩
          · exact holds_scn hT64 (by have h := H.out.get 4 rfl; rw [← map_mapK] at h; exact h) (holds_row (World.ownsRow_nil _ 0 _ _)) HI1.out (fun x hx => by cases hx) hq100 (Nat.zero_le _)
          · rintro g (h | h)
            · exact H.out.new 4 rfl g h
            · simp [Row.v, Value.ownBlock] at h
    | true =>
      have hb := hpb rfl
      subst hb
      simp [h0] at hpt
      simp only [if_true] at HFin
      by_cases hlow : B < M
      · have z3 : decide ((B : Int) < M) = true := by simp; omega
        have z4 : decide (B < M) = true := by simp; omega
        have HTB : Hid ((B : Int) = T) := by show _ = _; omega
        clear hpt hpm hpb hpf HF1' h0
        go_enter Try.func26, Try.ntmps26
        go_upto_region 1 with fail
        generalize w.heap.size + 1 + 1 = z at *
        generalize w.heap.size + 1 = y at *
        generalize w.heap.size = x at *
        generalize World.alloc (World.alloc (World.alloc _ _) _) _ = w1 at *
        have cf : w1.cell? ⟨y, 0, none⟩ = some (.int .i64 pf) := (H.out.blk 1 rfl).cell 0
        have cm : w1.cell? ⟨y, 1, none⟩ = some (.int .i64 M) := (H.out.blk 1 rfl).cell 1
        have cg : w1.cell? ⟨y, 5, none⟩ = some (.bool true) := (H.out.blk 1 rfl).cell 5
        go_upto_region 4 with (first | ((with_reducible show wpList _ _ _ (⟨some 18, _, _, _, _, _⟩ :: _) _ _); refine wpList_build1 (v := .agg #[.int .i64 M, .slice none 0 0, .slice none 0 0]) rfl (.tmp 17) rfl rfl (by intro w; kernel_rfl) ?_) | ((with_reducible show wpList _ _ _ (⟨_, .store _ (.tmp 5) _, _, _, _, _⟩ :: _) _ _); (refine wpList_store_new rfl rowScan (.tmp 5) (.tmp 18) rfl rfl rfl (#[.int .i64 M, .slice none 0 0, .slice none 0 0]) rfl rfl (by simp [Value.oneCell']) ?_; replace H := Lib.hid (H.out.alloc (#[.int .i64 M, .slice none 0 0, .slice none 0 0]) 62); (try simp only [List.set_cons_zero, List.set_cons_succ, List.cons_append, List.nil_append, List.eraseIdx_cons_zero, List.eraseIdx_cons_succ, List.setIfInBounds_toArray, World.size_alloc, selR, List.getD_cons_zero, List.getD_cons_succ] at H))))
        (try simp only [Act.put, List.setIfInBounds_toArray, List.set_cons_zero, List.set_cons_succ])
        clear cf cm cg
        generalize w1.heap.size = u at *
        generalize World.alloc w1 _ = w2 at *
        have cf : w2.cell? ⟨y, 0, none⟩ = some (.int .i64 pf) := (H.out.blk 1 rfl).cell 0
        have cm : w2.cell? ⟨y, 1, none⟩ = some (.int .i64 M) := (H.out.blk 1 rfl).cell 1
        have cg : w2.cell? ⟨y, 5, none⟩ = some (.bool true) := (H.out.blk 1 rfl).cell 5
        have cb : w2.cell? ⟨y, 6, none⟩ = some (.int .i64 B) := (H.out.blk 1 rfl).cell 6
        have cu : w2.cell? ⟨u, 0, none⟩ = some (.int .i64 M) := (H.out.blk 3 rfl).cell 0
        have fu := (H.out.blk 3 rfl).frozen 0
        go_upto_region 6 with fail
        rw [show World.setCell w2 ⟨u, 0, none⟩ (.int .i64 (B : Int)) = World.setCell w2 ⟨u, 0, none⟩ (.int .i64 (T : Int)) by rw [HTB.out]]
        replace H := Lib.hid (H.out.setCell 3 rfl 0 (.int .i64 T)); (try simp only [List.set_cons_zero, List.set_cons_succ, List.cons_append, List.nil_append, List.eraseIdx_cons_zero, List.eraseIdx_cons_succ, List.setIfInBounds_toArray, World.size_alloc, selR, List.getD_cons_zero, List.getD_cons_succ] at H)
        clear cf cm cg cb cu fu
        generalize World.setCell w2 _ _ = w3 at *
        have hrc := HRC.out _ H.out.to
        have ct : w3.cell? ⟨u, 0, none⟩ = some (.int .i64 T) := (H.out.blk 3 rfl).cell 0
        have cd : w3.cell? ⟨x, 1, none⟩ = some (.slice (some ⟨bt, ot, none⟩) n2 cp2) := (H.out.blk 0 rfl).cell 1
        have i0 : (0 : Int) ≤ T := by omega
        have i1 : (T : Int) < n2 := by omega
        replace H := Lib.hid (H.out.addNil 3 1); (try simp only [List.set_cons_zero, List.set_cons_succ, List.cons_append, List.nil_append, List.eraseIdx_cons_zero, List.eraseIdx_cons_succ, List.setIfInBounds_toArray, World.size_alloc, selR, List.getD_cons_zero, List.getD_cons_succ] at H)
        replace H := Lib.hid (H.out.addNil 3 1); (try simp only [List.set_cons_zero, List.set_cons_succ, List.cons_append, List.nil_append, List.eraseIdx_cons_zero, List.eraseIdx_cons_succ, List.setIfInBounds_toArray, World.size_alloc, selR, List.getD_cons_zero, List.getD_cons_succ] at H)
        have HL0 : Hid ((ksF f 0).length = 0) := rfl
        go_upto_region 7 with fail
        clear hrc ct cd
        go_loopg [44] N (fun gg s44 wr => ∃ (k q : Nat) (KA : Option Addr) (kc : Nat) (IA : Option Addr) (ic : Nat), gg = N - k ∧ k ≤ N ∧ q ≤ k ∧ s44 = .int .i64 k ∧ Hid ((ksF f k).length = q) ∧ Hid (SL No w wr [rBlk x 66 #[.string ⟨nm.toArray⟩, .slice (some ⟨bt, ot, none⟩) n2 cp2], rBlk y 59 #[.int .i64 pf, .int .i64 M, .string ⟨lo.toArray⟩, .string ⟨hi.toArray⟩, .slice A n c, .bool true, .int .i64 B], rBlk z 62 #[.int .i64 0, .slice none 0 0, .slice none 0 0], rBlk u 62 #[.int .i64 T, .slice KA q kc, .slice IA q ic], rRow 3 1 (.slice KA q kc) q ((ksF f k).map (fun (j : Nat) => Value.int .i64 j)), rRow 3 1 (.slice IA q ic) q ((ksF f k).map (fun (j : Nat) => Value.int .i64 (gl j)))]))
        case atStart => exact ⟨0, 0, none, 0, none, 0, rfl, by omega, by omega, rfl, HL0, H⟩
        case round =>
          clear H HL0
          obtain ⟨k, q, KA, kc, IA, ic, hgk, hk, hqk, rfl, HL, H⟩ := hrel
          have Hgk := Lib.hid hgk
          clear hgk
          by_cases hlt : k < N
          · have k0 : (0 : Int) ≤ k := by omega
            have k1 : (k : Int) < N := by omega
            obtain ⟨j, hjm, hfj, hcl⟩ := HLF.out k hlt
            have HC1 := Lib.hid hcl
            have HC2 := Lib.hid (HLE.out j hjm)
            rw [← hfj] at HC2
            have HG := Lib.hid (HGL.out k hlt)
            clear hjm hfj hcl
            cases hfk : f k with
            | false =>
              rw [hfk] at HC2
              have HK1 : Hid (ksF f (k + 1) = ksF f k) := ksF_no hfk
              clear hfk
              have cf : wr.cell? ⟨y, 0, none⟩ = some (.int .i64 pf) := (H.out.blk 1 rfl).cell 0
              have cu : wr.cell? ⟨u, 0, none⟩ = some (.int .i64 T) := (H.out.blk 3 rfl).cell 0
              have cm : wr.cell? ⟨y, 1, none⟩ = some (.int .i64 M) := (H.out.blk 1 rfl).cell 1
              have HB := Lib.hid H.out.to
              go_upto_region 9 with fail
              have f_cf := fun u : Over wr => Over.cell cf u
              have f_cu := fun u : Over wr => Over.cell cu u
              have f_cm := fun u : Over wr => Over.cell cm u
              refine wp_region_over (by kernel_rfl) (by kernel_rfl) ?_
              (try simp only [Act.put, List.setIfInBounds_toArray, List.set_cons_zero, List.set_cons_succ])
              repeat (first
                | ((with_reducible show wpQuiet _ _ _ _ (⟨some 51, _, _, _, _, _⟩ :: _) _); refine wpQuiet_load_row (by first | rfl | go_simp) rowDm (.tmp 2) rfl _ (0) rfl _ rfl (H.out.blk 0 rfl).lt (H.out.blk 0 rfl).range ?_; simp only [Act.put, List.setIfInBounds_toArray, List.set_cons_zero, List.set_cons_succ])
                | ((with_reducible show wpQuiet _ _ _ _ (⟨some 52, _, _, _, _, _⟩ :: _) _); refine wpQuiet_load_row (by first | rfl | go_simp) rowPk (.tmp 3) rfl _ (0) rfl _ rfl (H.out.blk 1 rfl).lt (H.out.blk 1 rfl).range ?_; simp only [Act.put, List.setIfInBounds_toArray, List.set_cons_zero, List.set_cons_succ])
                | ((with_reducible show wpQuiet _ _ _ _ (⟨some 53, _, _, _, _, _⟩ :: _) _); refine wpQuiet_load_row (by first | rfl | go_simp) rowDm (.tmp 2) rfl _ (0) rfl _ rfl (H.out.blk 0 rfl).lt (H.out.blk 0 rfl).range ?_; simp only [Act.put, List.setIfInBounds_toArray, List.set_cons_zero, List.set_cons_succ])
                | ((with_reducible show wpQuiet _ _ _ _ (⟨some 59, _, _, _, _, _⟩ :: _) _); go_big_quiet_step ((go_at_call 47; rename_i u; exact calls_over (HC1.out _ (HB.out.trans u.bel)))))
                | ((with_reducible show wpQuiet _ _ _ _ (⟨some 60, _, _, _, _, _⟩ :: _) _); go_big_quiet_step ((go_at_call 46; rename_i u; exact calls_over (HC2.out _ (HB.out.trans u.bel)))))
                | go_big_quiet_step (fail))
              refine wpQuiet_nil ?_
              rintro w5 ⟨⟨_, hw5⟩, rfl⟩
              (try dsimp only)
              replace H := Lib.hid (H.out.bel hw5); (try simp only [List.set_cons_zero, List.set_cons_succ, List.cons_append, List.nil_append, List.eraseIdx_cons_zero, List.eraseIdx_cons_succ, List.setIfInBounds_toArray, World.size_alloc, selR, List.getD_cons_zero, List.getD_cons_succ] at H)
              clear f_cf f_cu f_cm cf cu cm
              clear HB HC1 HC2
              go_wp2_with fail
              rw [← HK1.out] at H HL
              go_roundg (N - (k + 1))
              case rel => exact ⟨k + 1, q, KA, kc, IA, ic, rfl, by omega, by omega, by go_num, HL, H⟩
              case measure => rw [Hgk.out]; omega
            | true =>
              rw [hfk] at HC2
              have HK1 : Hid ((ksF f (k + 1)).map (fun (j : Nat) => Value.int .i64 j) = (ksF f k).map (fun (j : Nat) => Value.int .i64 j) ++ [.int .i64 k]) := by show _ = _; rw [ksF_yes hfk, List.map_append]; rfl
              have HKL : Hid ((ksF f (k + 1)).length = q + 1) := by show _ = _; rw [ksF_yes hfk, List.length_append, HL.out]; rfl
              have HK2 : Hid ((ksF f (k + 1)).map (fun (j : Nat) => Value.int .i64 (gl j)) = (ksF f k).map (fun (j : Nat) => Value.int .i64 (gl j)) ++ [.int .i64 (gl k)]) := by show _ = _; rw [ksF_yes hfk, List.map_append]; rfl
              have cf : wr.cell? ⟨y, 0, none⟩ = some (.int .i64 pf) := (H.out.blk 1 rfl).cell 0
              have cu : wr.cell? ⟨u, 0, none⟩ = some (.int .i64 T) := (H.out.blk 3 rfl).cell 0
              have cm : wr.cell? ⟨y, 1, none⟩ = some (.int .i64 M) := (H.out.blk 1 rfl).cell 1
              have HB := Lib.hid H.out.to
              go_upto_region 9 with fail
              have f_cf := fun u : Over wr => Over.cell cf u
              have f_cu := fun u : Over wr => Over.cell cu u
              have f_cm := fun u : Over wr => Over.cell cm u
              refine wp_region_over (by kernel_rfl) (by kernel_rfl) ?_
              (try simp only [Act.put, List.setIfInBounds_toArray, List.set_cons_zero, List.set_cons_succ])
              repeat (first
                | ((with_reducible show wpQuiet _ _ _ _ (⟨some 51, _, _, _, _, _⟩ :: _) _); refine wpQuiet_load_row (by first | rfl | go_simp) rowDm (.tmp 2) rfl _ (0) rfl _ rfl (H.out.blk 0 rfl).lt (H.out.blk 0 rfl).range ?_; simp only [Act.put, List.setIfInBounds_toArray, List.set_cons_zero, List.set_cons_succ])
                | ((with_reducible show wpQuiet _ _ _ _ (⟨some 52, _, _, _, _, _⟩ :: _) _); refine wpQuiet_load_row (by first | rfl | go_simp) rowPk (.tmp 3) rfl _ (0) rfl _ rfl (H.out.blk 1 rfl).lt (H.out.blk 1 rfl).range ?_; simp only [Act.put, List.setIfInBounds_toArray, List.set_cons_zero, List.set_cons_succ])
                | ((with_reducible show wpQuiet _ _ _ _ (⟨some 53, _, _, _, _, _⟩ :: _) _); refine wpQuiet_load_row (by first | rfl | go_simp) rowDm (.tmp 2) rfl _ (0) rfl _ rfl (H.out.blk 0 rfl).lt (H.out.blk 0 rfl).range ?_; simp only [Act.put, List.setIfInBounds_toArray, List.set_cons_zero, List.set_cons_succ])
                | ((with_reducible show wpQuiet _ _ _ _ (⟨some 59, _, _, _, _, _⟩ :: _) _); go_big_quiet_step ((go_at_call 47; rename_i u; exact calls_over (HC1.out _ (HB.out.trans u.bel)))))
                | ((with_reducible show wpQuiet _ _ _ _ (⟨some 60, _, _, _, _, _⟩ :: _) _); go_big_quiet_step ((go_at_call 46; rename_i u; exact calls_over (HC2.out _ (HB.out.trans u.bel)))))
                | go_big_quiet_step (fail))
              refine wpQuiet_nil ?_
              rintro w5 ⟨⟨_, hw5⟩, rfl⟩
              (try dsimp only)
              replace H := Lib.hid (H.out.bel hw5); (try simp only [List.set_cons_zero, List.set_cons_succ, List.cons_append, List.nil_append, List.eraseIdx_cons_zero, List.eraseIdx_cons_succ, List.setIfInBounds_toArray, World.size_alloc, selR, List.getD_cons_zero, List.getD_cons_succ] at H)
              clear f_cf f_cu f_cm cf cu cm
              clear HB HC1 HC2
              have ck : w5.cell? ⟨u, 1, none⟩ = some (.slice KA q kc) := (H.out.blk 3 rfl).cell 1
              have cg : w5.cell? ⟨y, 5, none⟩ = some (.bool true) := (H.out.blk 1 rfl).cell 5
              go_upto_region 10 with fail
              go_upto_region 11 with ((with_reducible show wpList _ _ _ (⟨some 67, _, _, _, _, _⟩ :: _) _ _); (replace H := Lib.hid (H.out.alloc #[.int .i64 k] 3); (try simp only [List.set_cons_zero, List.set_cons_succ, List.cons_append, List.nil_append, List.eraseIdx_cons_zero, List.eraseIdx_cons_succ, List.setIfInBounds_toArray, World.size_alloc, selR, List.getD_cons_zero, List.getD_cons_succ] at H); refine wpList_append0 rfl (.tmp 64) (.tmp 66) _ rfl E_num 0 (Nat.zero_le _) _ q _ rfl (H.out.row 4 rfl) _ 1 1 [.int .i64 k] rfl (reads_of_block (H.out.blk 6 rfl) rfl) (by simp [Value.oneCell']) (by unfold maxLen; omega) (by omega) ?_; intro vq wq howq hgq hatq; replace H := Lib.hid (H.out.setRow 4 rfl hgq howq hatq); (try simp only [List.set_cons_zero, List.set_cons_succ, List.cons_append, List.nil_append, List.eraseIdx_cons_zero, List.eraseIdx_cons_succ, List.setIfInBounds_toArray, World.size_alloc, selR, List.getD_cons_zero, List.getD_cons_succ] at H); clear howq hgq hatq; obtain ⟨KA2, kc2, rfl, _⟩ := own_slice (H.out.row 4 rfl); have hz := (H.out.blk 3 rfl).cell 1; have hy := (H.out.blk 3 rfl).frozen 1; simp only [List.getElem?_toArray, List.getElem?_cons_zero, List.getElem?_cons_succ] at hz))
              replace H := Lib.hid (H.out.setCell 3 rfl 1 (.slice KA2 (q + 1) kc2)); (try simp only [List.set_cons_zero, List.set_cons_succ, List.cons_append, List.nil_append, List.eraseIdx_cons_zero, List.eraseIdx_cons_succ, List.setIfInBounds_toArray, World.size_alloc, selR, List.getD_cons_zero, List.getD_cons_succ] at H)
              clear hz hy ck cg
              replace H := Lib.hid (H.out.sel [0, 1, 2, 3, 4, 5] (by decide) (by simp)); (try simp only [List.set_cons_zero, List.set_cons_succ, List.cons_append, List.nil_append, List.eraseIdx_cons_zero, List.eraseIdx_cons_succ, List.setIfInBounds_toArray, World.size_alloc, selR, List.getD_cons_zero, List.getD_cons_succ] at H)
              have cg := (H.out.blk 1 rfl).cell 5
              simp only [List.getElem?_toArray, List.getElem?_cons_zero, List.getElem?_cons_succ] at cg
              go_upto_region 12 with fail
              clear cg
              refine wp_region_held_drew (S := fun w => w.cell? ⟨x, 0, none⟩ = some (.string ⟨nm.toArray⟩) ∧ w.cell? ⟨x, 1, none⟩ = some (.slice (some ⟨bt, ot, none⟩) n2 cp2) ∧ w.cell? ⟨u, 0, none⟩ = some (.int .i64 T) ∧ w.cell? ⟨y, 6, none⟩ = some (.int .i64 B)) (by kernel_rfl) ⟨(H.out.blk 0 rfl).cell 0, (H.out.blk 0 rfl).cell 1, (H.out.blk 3 rfl).cell 0, (H.out.blk 1 rfl).cell 6⟩ (fun hHeld => ?_)
              replace H := Lib.hid (H.out.drew); (try simp only [List.set_cons_zero, List.set_cons_succ, List.cons_append, List.nil_append, List.eraseIdx_cons_zero, List.eraseIdx_cons_succ, List.setIfInBounds_toArray, World.size_alloc, selR, List.getD_cons_zero, List.getD_cons_succ] at H)
              generalize World.drew _ = w8 at *
              refine wpAnyH_take (i := 0) (v := ?vq10_0) (get_o0) (by kernel_rfl) (by kernel_rfl) (by kernel_rfl) (by exact fun _ _ _ h => h) (Or.inl ⟨by rfl, ?hyq10_0⟩) (by assumption) ?_
              case hyq10_0 => (intro w hSw; (try dsimp only at hSw); go_simp) <;> with_reducible rfl
              try simp only [Act.put, List.setIfInBounds_toArray, List.set_cons_zero, List.set_cons_succ]
              refine wpAnyH_take (i := 2) (v := ?vq10_2) (get_os (get_os (get_o0))) (by kernel_rfl) (by kernel_rfl) (by kernel_rfl) (by exact fun _ _ _ h => h) (Or.inl ⟨by rfl, ?hyq10_2⟩) (by assumption) ?_
              case hyq10_2 => (intro w hSw; (try dsimp only at hSw); go_simp) <;> with_reducible rfl
              try simp only [Act.put, List.setIfInBounds_toArray, List.set_cons_zero, List.set_cons_succ]
              refine wpAnyH_take (i := 3) (v := ?vq10_3) (get_os (get_os (get_os (get_o0)))) (by kernel_rfl) (by kernel_rfl) (by kernel_rfl) (by exact fun _ _ _ h => h) (Or.inl ⟨by rfl, ?hyq10_3⟩) (by assumption) ?_
              case hyq10_3 => (intro w hSw; (try dsimp only at hSw); go_simp) <;> with_reducible rfl
              try simp only [Act.put, List.setIfInBounds_toArray, List.set_cons_zero, List.set_cons_succ]
              refine wpAnyH_take (i := 4) (v := ?vq10_4) (get_os (get_os (get_os (get_os (get_o0))))) (by kernel_rfl) (by kernel_rfl) (by kernel_rfl) (by exact fun _ _ _ h => h) (Or.inl ⟨by rfl, ?hyq10_4⟩) (by assumption) ?_
              case hyq10_4 => (intro w hSw; (try dsimp only at hSw); go_simp) <;> with_reducible rfl
              try simp only [Act.put, List.setIfInBounds_toArray, List.set_cons_zero, List.set_cons_succ]
              refine wpAnyH_take (i := 5) (v := ?vq10_5) (get_os (get_os (get_os (get_os (get_os (get_o0)))))) (by kernel_rfl) (by kernel_rfl) (by kernel_rfl) (by exact fun _ _ _ h => h) (Or.inl ⟨by rfl, ?hyq10_5⟩) (by assumption) ?_
              case hyq10_5 => (intro w hSw; (try dsimp only at hSw); go_simp) <;> with_reducible rfl
              try simp only [Act.put, List.setIfInBounds_toArray, List.set_cons_zero, List.set_cons_succ]
              refine wpAnyH_take (i := 6) (v := ?vq10_6) (get_os (get_os (get_os (get_os (get_os (get_os (get_o0))))))) (by kernel_rfl) (by kernel_rfl) (by kernel_rfl) (by exact fun _ _ _ h => h) (Or.inl ⟨by rfl, ?hyq10_6⟩) (by assumption) ?_
              case hyq10_6 => (intro w hSw; (try dsimp only at hSw); go_simp) <;> with_reducible rfl
              try simp only [Act.put, List.setIfInBounds_toArray, List.set_cons_zero, List.set_cons_succ]
              refine wpAnyH_take (i := 7) (v := ?vq10_7) (get_os (get_os (get_os (get_os (get_os (get_os (get_os (get_o0)))))))) (by kernel_rfl) (by kernel_rfl) (by kernel_rfl) (by exact fun _ _ _ h => h) (Or.inl ⟨by rfl, ?hyq10_7⟩) (by assumption) ?_
              case hyq10_7 => (intro w hSw; (try dsimp only at hSw); go_simp) <;> with_reducible rfl
              try simp only [Act.put, List.setIfInBounds_toArray, List.set_cons_zero, List.set_cons_succ]
              refine wpAnyH_ready (rs := [1, 8]) (by kernel_rfl) (by simp) ?_
              refine (AllReadyH.cons (get_os (get_o0)) (fun KK hKK => ?_) (AllReadyH.cons (get_os (get_os (get_os (get_os (get_os (get_os (get_os (get_os (get_o0))))))))) (fun KK hKK => ?_) AllReadyH.nil))
              · have ca1 := (H.out.blk 3 rfl).cell 2; simp only [List.getElem?_toArray, List.getElem?_cons_zero, List.getElem?_cons_succ] at ca1
                go_simp
                clear ca1
                refine hKK.out _ _ ⟨(H.out.blk 0 rfl).cell 0, (H.out.blk 0 rfl).cell 1, (H.out.blk 3 rfl).cell 0, (H.out.blk 1 rfl).cell 6⟩ (fun hHeld => ?_)
                clear hKK KK
                try simp only [Act.put, List.setIfInBounds_toArray, List.set_cons_zero, List.set_cons_succ]
                refine wpAnyH_ready (rs := [8]) (by kernel_rfl) (by simp) ?_
                refine (AllReadyH.cons (get_os (get_os (get_os (get_os (get_os (get_os (get_os (get_os (get_o0))))))))) (fun KK hKK => ?_) AllReadyH.nil)
                go_simp
                refine (HG.out _ H.out.to).mono ?_; rintro e' w9 ⟨rfl, hb9⟩
                replace H := Lib.hid (H.out.bel hb9); (try simp only [List.set_cons_zero, List.set_cons_succ, List.cons_append, List.nil_append, List.eraseIdx_cons_zero, List.eraseIdx_cons_succ, List.setIfInBounds_toArray, World.size_alloc, selR, List.getD_cons_zero, List.getD_cons_succ] at H)
                clear hb9
                refine hKK.out _ _ ⟨(H.out.blk 0 rfl).cell 0, (H.out.blk 0 rfl).cell 1, (H.out.blk 3 rfl).cell 0, (H.out.blk 1 rfl).cell 6⟩ (fun hHeld => ?_)
                clear hKK KK
                try simp only [Act.put, List.setIfInBounds_toArray, List.set_cons_zero, List.set_cons_succ]
                refine wpAnyH_ready (rs := [9]) (by kernel_rfl) (by simp) ?_
                refine (AllReadyH.cons (get_os (get_os (get_os (get_os (get_os (get_os (get_os (get_os (get_os (get_o0)))))))))) (fun KK hKK => ?_) AllReadyH.nil)
                refine step_buildSlice1v rfl E_num (.tmp 79) rfl (.int .i64 (gl k)) rfl #[.int .i64 (gl k)] rfl rfl (by omega) ?_
                replace H := Lib.hid (H.out.alloc #[.int .i64 (gl k)] 3); (try simp only [List.set_cons_zero, List.set_cons_succ, List.cons_append, List.nil_append, List.eraseIdx_cons_zero, List.eraseIdx_cons_succ, List.setIfInBounds_toArray, World.size_alloc, selR, List.getD_cons_zero, List.getD_cons_succ] at H)
                refine hKK.out _ _ ⟨(H.out.blk 0 rfl).cell 0, (H.out.blk 0 rfl).cell 1, (H.out.blk 3 rfl).cell 0, (H.out.blk 1 rfl).cell 6⟩ (fun hHeld => ?_)
                clear hKK KK
                try simp only [Act.put, List.setIfInBounds_toArray, List.set_cons_zero, List.set_cons_succ]
                refine wpAnyH_ready (rs := [10]) (by kernel_rfl) (by simp) ?_
                refine (AllReadyH.cons (get_ot (get_o0)) (fun KK hKK => ?_) AllReadyH.nil)
                refine step_append0 rfl (.tmp 72) (.tmp 80) _ rfl E_num 0 (Nat.zero_le _) _ q _ rfl (H.out.row 5 rfl) _ 1 1 [.int .i64 (gl k)] rfl (reads_of_block (H.out.blk 6 rfl) rfl) (by simp [Value.oneCell']) (by unfold maxLen; omega) (by omega) ?_
                intro vq wq howq hgq hatq
                replace H := Lib.hid (H.out.setRow 5 rfl hgq howq hatq); (try simp only [List.set_cons_zero, List.set_cons_succ, List.cons_append, List.nil_append, List.eraseIdx_cons_zero, List.eraseIdx_cons_succ, List.setIfInBounds_toArray, World.size_alloc, selR, List.getD_cons_zero, List.getD_cons_succ] at H)
                clear howq hgq hatq
                obtain ⟨IA2, ic2, rfl, _⟩ := own_slice (H.out.row 5 rfl)
                refine hKK.out _ _ ⟨(H.out.blk 0 rfl).cell 0, (H.out.blk 0 rfl).cell 1, (H.out.blk 3 rfl).cell 0, (H.out.blk 1 rfl).cell 6⟩ (fun hHeld => ?_)
                clear hKK KK
                try simp only [Act.put, List.setIfInBounds_toArray, List.set_cons_zero, List.set_cons_succ]
                refine wpAnyH_take (i := 11) (v := ?vq11_) (get_ot (get_os (get_o0))) (by kernel_rfl) (by kernel_rfl) (by kernel_rfl) (by exact fun _ _ _ h => h) (Or.inl ⟨by rfl, ?hyq11_⟩) (by assumption) ?_
                case hyq11_ => (intro w hSw; (try dsimp only at hSw); go_simp) <;> with_reducible rfl
                try simp only [Act.put, List.setIfInBounds_toArray, List.set_cons_zero, List.set_cons_succ]
                refine wpAnyH_ready (rs := [12]) (by kernel_rfl) (by simp) ?_
                refine (AllReadyH.cons (get_ot (get_os (get_os (get_o0)))) (fun KK hKK => ?_) AllReadyH.nil)
                have ca12 := (H.out.blk 3 rfl).cell 2; simp only [List.getElem?_toArray, List.getElem?_cons_zero, List.getElem?_cons_succ] at ca12; have fa12 := (H.out.blk 3 rfl).frozen 2
                go_simp
                replace H := Lib.hid (H.out.setCell 3 rfl 2 (.slice IA2 (q + 1) ic2)); (try simp only [List.set_cons_zero, List.set_cons_succ, List.cons_append, List.nil_append, List.eraseIdx_cons_zero, List.eraseIdx_cons_succ, List.setIfInBounds_toArray, World.size_alloc, selR, List.getD_cons_zero, List.getD_cons_succ] at H)
                clear ca12 fa12
                refine hKK.out _ _ ⟨(H.out.blk 0 rfl).cell 0, (H.out.blk 0 rfl).cell 1, (H.out.blk 3 rfl).cell 0, (H.out.blk 1 rfl).cell 6⟩ (fun hHeld => ?_)
                clear hKK KK
                try simp only [Act.put, List.setIfInBounds_toArray, List.set_cons_zero, List.set_cons_succ]
                refine wpAnyH_done (by kernel_rfl) ?_ _
                clear hHeld
                replace H := Lib.hid (H.out.sel [0, 1, 2, 3, 4, 5] (by decide) (by simp)); (try simp only [List.set_cons_zero, List.set_cons_succ, List.cons_append, List.nil_append, List.eraseIdx_cons_zero, List.eraseIdx_cons_succ, List.setIfInBounds_toArray, World.size_alloc, selR, List.getD_cons_zero, List.getD_cons_succ] at H)
                rw [← HK1.out, ← HK2.out] at H
                clear HK1 HK2
                go_wp2_with fail
                go_roundg (N - (k + 1))
                case rel => exact ⟨k + 1, q + 1, KA2, kc2, IA2, ic2, rfl, by omega, by omega, by go_num, HKL, H⟩
                case measure => rw [Hgk.out]; omega
              · go_simp
                refine (HG.out _ H.out.to).mono ?_; rintro e' w9 ⟨rfl, hb9⟩
                replace H := Lib.hid (H.out.bel hb9); (try simp only [List.set_cons_zero, List.set_cons_succ, List.cons_append, List.nil_append, List.eraseIdx_cons_zero, List.eraseIdx_cons_succ, List.setIfInBounds_toArray, World.size_alloc, selR, List.getD_cons_zero, List.getD_cons_succ] at H)
                clear hb9
                refine hKK.out _ _ ⟨(H.out.blk 0 rfl).cell 0, (H.out.blk 0 rfl).cell 1, (H.out.blk 3 rfl).cell 0, (H.out.blk 1 rfl).cell 6⟩ (fun hHeld => ?_)
                clear hKK KK
                try simp only [Act.put, List.setIfInBounds_toArray, List.set_cons_zero, List.set_cons_succ]
                refine wpAnyH_ready (rs := [1, 9]) (by kernel_rfl) (by simp) ?_
                refine (AllReadyH.cons (get_os (get_o0)) (fun KK hKK => ?_) (AllReadyH.cons (get_os (get_os (get_os (get_os (get_os (get_os (get_os (get_os (get_os (get_o0)))))))))) (fun KK hKK => ?_) AllReadyH.nil))
                · have ca1 := (H.out.blk 3 rfl).cell 2; simp only [List.getElem?_toArray, List.getElem?_cons_zero, List.getElem?_cons_succ] at ca1
                  go_simp
                  clear ca1
                  refine hKK.out _ _ ⟨(H.out.blk 0 rfl).cell 0, (H.out.blk 0 rfl).cell 1, (H.out.blk 3 rfl).cell 0, (H.out.blk 1 rfl).cell 6⟩ (fun hHeld => ?_)
                  clear hKK KK
                  try simp only [Act.put, List.setIfInBounds_toArray, List.set_cons_zero, List.set_cons_succ]
                  refine wpAnyH_ready (rs := [9]) (by kernel_rfl) (by simp) ?_
                  refine (AllReadyH.cons (get_os (get_os (get_os (get_os (get_os (get_os (get_os (get_os (get_os (get_o0)))))))))) (fun KK hKK => ?_) AllReadyH.nil)
                  refine step_buildSlice1v rfl E_num (.tmp 79) rfl (.int .i64 (gl k)) rfl #[.int .i64 (gl k)] rfl rfl (by omega) ?_
                  replace H := Lib.hid (H.out.alloc #[.int .i64 (gl k)] 3); (try simp only [List.set_cons_zero, List.set_cons_succ, List.cons_append, List.nil_append, List.eraseIdx_cons_zero, List.eraseIdx_cons_succ, List.setIfInBounds_toArray, World.size_alloc, selR, List.getD_cons_zero, List.getD_cons_succ] at H)
                  refine hKK.out _ _ ⟨(H.out.blk 0 rfl).cell 0, (H.out.blk 0 rfl).cell 1, (H.out.blk 3 rfl).cell 0, (H.out.blk 1 rfl).cell 6⟩ (fun hHeld => ?_)
                  clear hKK KK
                  try simp only [Act.put, List.setIfInBounds_toArray, List.set_cons_zero, List.set_cons_succ]
                  refine wpAnyH_ready (rs := [10]) (by kernel_rfl) (by simp) ?_
                  refine (AllReadyH.cons (get_ot (get_o0)) (fun KK hKK => ?_) AllReadyH.nil)
                  refine step_append0 rfl (.tmp 72) (.tmp 80) _ rfl E_num 0 (Nat.zero_le _) _ q _ rfl (H.out.row 5 rfl) _ 1 1 [.int .i64 (gl k)] rfl (reads_of_block (H.out.blk 6 rfl) rfl) (by simp [Value.oneCell']) (by unfold maxLen; omega) (by omega) ?_
                  intro vq wq howq hgq hatq
                  replace H := Lib.hid (H.out.setRow 5 rfl hgq howq hatq); (try simp only [List.set_cons_zero, List.set_cons_succ, List.cons_append, List.nil_append, List.eraseIdx_cons_zero, List.eraseIdx_cons_succ, List.setIfInBounds_toArray, World.size_alloc, selR, List.getD_cons_zero, List.getD_cons_succ] at H)
                  clear howq hgq hatq
                  obtain ⟨IA2, ic2, rfl, _⟩ := own_slice (H.out.row 5 rfl)
                  refine hKK.out _ _ ⟨(H.out.blk 0 rfl).cell 0, (H.out.blk 0 rfl).cell 1, (H.out.blk 3 rfl).cell 0, (H.out.blk 1 rfl).cell 6⟩ (fun hHeld => ?_)
                  clear hKK KK
                  try simp only [Act.put, List.setIfInBounds_toArray, List.set_cons_zero, List.set_cons_succ]
                  refine wpAnyH_take (i := 11) (v := ?vq12_) (get_ot (get_os (get_o0))) (by kernel_rfl) (by kernel_rfl) (by kernel_rfl) (by exact fun _ _ _ h => h) (Or.inl ⟨by rfl, ?hyq12_⟩) (by assumption) ?_
                  case hyq12_ => (intro w hSw; (try dsimp only at hSw); go_simp) <;> with_reducible rfl
                  try simp only [Act.put, List.setIfInBounds_toArray, List.set_cons_zero, List.set_cons_succ]
                  refine wpAnyH_ready (rs := [12]) (by kernel_rfl) (by simp) ?_
                  refine (AllReadyH.cons (get_ot (get_os (get_os (get_o0)))) (fun KK hKK => ?_) AllReadyH.nil)
                  have ca12 := (H.out.blk 3 rfl).cell 2; simp only [List.getElem?_toArray, List.getElem?_cons_zero, List.getElem?_cons_succ] at ca12; have fa12 := (H.out.blk 3 rfl).frozen 2
                  go_simp
                  replace H := Lib.hid (H.out.setCell 3 rfl 2 (.slice IA2 (q + 1) ic2)); (try simp only [List.set_cons_zero, List.set_cons_succ, List.cons_append, List.nil_append, List.eraseIdx_cons_zero, List.eraseIdx_cons_succ, List.setIfInBounds_toArray, World.size_alloc, selR, List.getD_cons_zero, List.getD_cons_succ] at H)
                  clear ca12 fa12
                  refine hKK.out _ _ ⟨(H.out.blk 0 rfl).cell 0, (H.out.blk 0 rfl).cell 1, (H.out.blk 3 rfl).cell 0, (H.out.blk 1 rfl).cell 6⟩ (fun hHeld => ?_)
                  clear hKK KK
                  try simp only [Act.put, List.setIfInBounds_toArray, List.set_cons_zero, List.set_cons_succ]
                  refine wpAnyH_done (by kernel_rfl) ?_ _
                  clear hHeld
                  replace H := Lib.hid (H.out.sel [0, 1, 2, 3, 4, 5] (by decide) (by simp)); (try simp only [List.set_cons_zero, List.set_cons_succ, List.cons_append, List.nil_append, List.eraseIdx_cons_zero, List.eraseIdx_cons_succ, List.setIfInBounds_toArray, World.size_alloc, selR, List.getD_cons_zero, List.getD_cons_succ] at H)
                  rw [← HK1.out, ← HK2.out] at H
                  clear HK1 HK2
                  go_wp2_with fail
                  go_roundg (N - (k + 1))
                  case rel => exact ⟨k + 1, q + 1, KA2, kc2, IA2, ic2, rfl, by omega, by omega, by go_num, HKL, H⟩
                  case measure => rw [Hgk.out]; omega
                · refine step_buildSlice1v rfl E_num (.tmp 79) rfl (.int .i64 (gl k)) rfl #[.int .i64 (gl k)] rfl rfl (by omega) ?_
                  replace H := Lib.hid (H.out.alloc #[.int .i64 (gl k)] 3); (try simp only [List.set_cons_zero, List.set_cons_succ, List.cons_append, List.nil_append, List.eraseIdx_cons_zero, List.eraseIdx_cons_succ, List.setIfInBounds_toArray, World.size_alloc, selR, List.getD_cons_zero, List.getD_cons_succ] at H)
                  refine hKK.out _ _ ⟨(H.out.blk 0 rfl).cell 0, (H.out.blk 0 rfl).cell 1, (H.out.blk 3 rfl).cell 0, (H.out.blk 1 rfl).cell 6⟩ (fun hHeld => ?_)
                  clear hKK KK
                  try simp only [Act.put, List.setIfInBounds_toArray, List.set_cons_zero, List.set_cons_succ]
                  refine wpAnyH_ready (rs := [1]) (by kernel_rfl) (by simp) ?_
                  refine (AllReadyH.cons (get_os (get_o0)) (fun KK hKK => ?_) AllReadyH.nil)
                  have ca1 := (H.out.blk 3 rfl).cell 2; simp only [List.getElem?_toArray, List.getElem?_cons_zero, List.getElem?_cons_succ] at ca1
                  go_simp
                  clear ca1
                  refine hKK.out _ _ ⟨(H.out.blk 0 rfl).cell 0, (H.out.blk 0 rfl).cell 1, (H.out.blk 3 rfl).cell 0, (H.out.blk 1 rfl).cell 6⟩ (fun hHeld => ?_)
                  clear hKK KK
                  try simp only [Act.put, List.setIfInBounds_toArray, List.set_cons_zero, List.set_cons_succ]
                  refine wpAnyH_ready (rs := [10]) (by kernel_rfl) (by simp) ?_
                  refine (AllReadyH.cons (get_ot (get_o0)) (fun KK hKK => ?_) AllReadyH.nil)
                  refine step_append0 rfl (.tmp 72) (.tmp 80) _ rfl E_num 0 (Nat.zero_le _) _ q _ rfl (H.out.row 5 rfl) _ 1 1 [.int .i64 (gl k)] rfl (reads_of_block (H.out.blk 6 rfl) rfl) (by simp [Value.oneCell']) (by unfold maxLen; omega) (by omega) ?_
                  intro vq wq howq hgq hatq
                  replace H := Lib.hid (H.out.setRow 5 rfl hgq howq hatq); (try simp only [List.set_cons_zero, List.set_cons_succ, List.cons_append, List.nil_append, List.eraseIdx_cons_zero, List.eraseIdx_cons_succ, List.setIfInBounds_toArray, World.size_alloc, selR, List.getD_cons_zero, List.getD_cons_succ] at H)
                  clear howq hgq hatq
                  obtain ⟨IA2, ic2, rfl, _⟩ := own_slice (H.out.row 5 rfl)
                  refine hKK.out _ _ ⟨(H.out.blk 0 rfl).cell 0, (H.out.blk 0 rfl).cell 1, (H.out.blk 3 rfl).cell 0, (H.out.blk 1 rfl).cell 6⟩ (fun hHeld => ?_)
                  clear hKK KK
                  try simp only [Act.put, List.setIfInBounds_toArray, List.set_cons_zero, List.set_cons_succ]
                  refine wpAnyH_take (i := 11) (v := ?vq13_) (get_ot (get_os (get_o0))) (by kernel_rfl) (by kernel_rfl) (by kernel_rfl) (by exact fun _ _ _ h => h) (Or.inl ⟨by rfl, ?hyq13_⟩) (by assumption) ?_
                  case hyq13_ => (intro w hSw; (try dsimp only at hSw); go_simp) <;> with_reducible rfl
                  try simp only [Act.put, List.setIfInBounds_toArray, List.set_cons_zero, List.set_cons_succ]
                  refine wpAnyH_ready (rs := [12]) (by kernel_rfl) (by simp) ?_
                  refine (AllReadyH.cons (get_ot (get_os (get_os (get_o0)))) (fun KK hKK => ?_) AllReadyH.nil)
                  have ca12 := (H.out.blk 3 rfl).cell 2; simp only [List.getElem?_toArray, List.getElem?_cons_zero, List.getElem?_cons_succ] at ca12; have fa12 := (H.out.blk 3 rfl).frozen 2
                  go_simp
                  replace H := Lib.hid (H.out.setCell 3 rfl 2 (.slice IA2 (q + 1) ic2)); (try simp only [List.set_cons_zero, List.set_cons_succ, List.cons_append, List.nil_append, List.eraseIdx_cons_zero, List.eraseIdx_cons_succ, List.setIfInBounds_toArray, World.size_alloc, selR, List.getD_cons_zero, List.getD_cons_succ] at H)
                  clear ca12 fa12
                  refine hKK.out _ _ ⟨(H.out.blk 0 rfl).cell 0, (H.out.blk 0 rfl).cell 1, (H.out.blk 3 rfl).cell 0, (H.out.blk 1 rfl).cell 6⟩ (fun hHeld => ?_)
                  clear hKK KK
                  try simp only [Act.put, List.setIfInBounds_toArray, List.set_cons_zero, List.set_cons_succ]
                  refine wpAnyH_done (by kernel_rfl) ?_ _
                  clear hHeld
                  replace H := Lib.hid (H.out.sel [0, 1, 2, 3, 4, 5] (by decide) (by simp)); (try simp only [List.set_cons_zero, List.set_cons_succ, List.cons_append, List.nil_append, List.eraseIdx_cons_zero, List.eraseIdx_cons_succ, List.setIfInBounds_toArray, World.size_alloc, selR, List.getD_cons_zero, List.getD_cons_succ] at H)
                  rw [← HK1.out, ← HK2.out] at H
                  clear HK1 HK2
                  go_wp2_with fail
                  go_roundg (N - (k + 1))
                  case rel => exact ⟨k + 1, q + 1, KA2, kc2, IA2, ic2, rfl, by omega, by omega, by go_num, HKL, H⟩
                  case measure => rw [Hgk.out]; omega
          · obtain rfl : k = N := by omega
            have hq100 : q ≤ 1000000 := by omega
            go_wp2_with (first | ((with_reducible show wpList _ _ _ (⟨some 84, _, _, _, _, _⟩ :: _) _ _); (refine wpList_load_blk rfl rowScan (.tmp 5) rfl _ rfl (H.out.blk 3 rfl) rfl ?_)) | ((with_reducible show wpList _ _ _ (⟨_, .store _ (.tmp 4) _, _, _, _, _⟩ :: _) _ _); (refine wpList_store_blk rfl rowScan (.tmp 4) (.tmp 84) rfl _ rfl (H.out.blk 2 rfl) rfl (#[.int .i64 T, .slice KA q kc, .slice IA q ic]) rfl rfl (by simp [Value.oneCell']) ?_; intro wq bq hgq; replace H := Lib.hid (H.out.setBlk 2 rfl hgq bq); (try simp only [List.set_cons_zero, List.set_cons_succ, List.cons_append, List.nil_append, List.eraseIdx_cons_zero, List.eraseIdx_cons_succ, List.setIfInBounds_toArray, World.size_alloc, selR, List.getD_cons_zero, List.getD_cons_succ] at H); clear hgq bq)))
            refine bodyPost_ret (results_blk1 rfl rowScan rfl (H.out.blk 2 rfl) rfl) rfl ?_
            refine ⟨⟨T, ⟨KA, q, kc, (ksF f k).map (fun (j : Nat) => (j : Int))⟩, ⟨IA, q, ic, (ksF f k).map gl⟩⟩, rfl, HFin.out.symm, H.out.to, ?_, ?_⟩
            · exact holds_scn hT64 (by have h := H.out.get 4 rfl; rw [← map_mapK] at h; exact h) (by have h := H.out.get 5 rfl; rw [← map_mapI] at h; exact h) HI1.out (HI2.out) hq100 hq100
            · rintro g (h | h)
              · exact H.out.new 4 rfl g h
              · exact H.out.new 5 rfl g h
      · have z3 : decide ((B : Int) < M) = false := by simp; omega
        have z4 : decide (B < M) = false := by simp; omega
        have HTM : Hid ((M : Int) = T) := by show _ = _; omega
        clear hpt hpm hpb hpf HF1' h0
        go_enter Try.func26, Try.ntmps26
        go_upto_region 1 with fail
        generalize w.heap.size + 1 + 1 = z at *
        generalize w.heap.size + 1 = y at *
        generalize w.heap.size = x at *
        generalize World.alloc (World.alloc (World.alloc _ _) _) _ = w1 at *
        have cf : w1.cell? ⟨y, 0, none⟩ = some (.int .i64 pf) := (H.out.blk 1 rfl).cell 0
        have cm : w1.cell? ⟨y, 1, none⟩ = some (.int .i64 M) := (H.out.blk 1 rfl).cell 1
        have cg : w1.cell? ⟨y, 5, none⟩ = some (.bool true) := (H.out.blk 1 rfl).cell 5
        go_upto_region 4 with (first | ((with_reducible show wpList _ _ _ (⟨some 18, _, _, _, _, _⟩ :: _) _ _); refine wpList_build1 (v := .agg #[.int .i64 M, .slice none 0 0, .slice none 0 0]) rfl (.tmp 17) rfl rfl (by intro w; kernel_rfl) ?_) | ((with_reducible show wpList _ _ _ (⟨_, .store _ (.tmp 5) _, _, _, _, _⟩ :: _) _ _); (refine wpList_store_new rfl rowScan (.tmp 5) (.tmp 18) rfl rfl rfl (#[.int .i64 M, .slice none 0 0, .slice none 0 0]) rfl rfl (by simp [Value.oneCell']) ?_; replace H := Lib.hid (H.out.alloc (#[.int .i64 M, .slice none 0 0, .slice none 0 0]) 62); (try simp only [List.set_cons_zero, List.set_cons_succ, List.cons_append, List.nil_append, List.eraseIdx_cons_zero, List.eraseIdx_cons_succ, List.setIfInBounds_toArray, World.size_alloc, selR, List.getD_cons_zero, List.getD_cons_succ] at H))))
        (try simp only [Act.put, List.setIfInBounds_toArray, List.set_cons_zero, List.set_cons_succ])
        clear cf cm cg
        generalize w1.heap.size = u at *
        generalize World.alloc w1 _ = w2 at *
        have cf : w2.cell? ⟨y, 0, none⟩ = some (.int .i64 pf) := (H.out.blk 1 rfl).cell 0
        have cm : w2.cell? ⟨y, 1, none⟩ = some (.int .i64 M) := (H.out.blk 1 rfl).cell 1
        have cg : w2.cell? ⟨y, 5, none⟩ = some (.bool true) := (H.out.blk 1 rfl).cell 5
        have cb : w2.cell? ⟨y, 6, none⟩ = some (.int .i64 B) := (H.out.blk 1 rfl).cell 6
        have cu : w2.cell? ⟨u, 0, none⟩ = some (.int .i64 M) := (H.out.blk 3 rfl).cell 0
        have fu := (H.out.blk 3 rfl).frozen 0
        go_upto_region 6 with fail
        skip
        replace H := Lib.hid (H.out.turn 3 rfl (rBlk u 62 #[.int .i64 T, .slice none 0 0, .slice none 0 0]) (by rw [← HTM.out]; exact H.out.get 3 rfl) (fun g hg => hg)); (try simp only [List.set_cons_zero, List.set_cons_succ, List.cons_append, List.nil_append, List.eraseIdx_cons_zero, List.eraseIdx_cons_succ, List.setIfInBounds_toArray, World.size_alloc, selR, List.getD_cons_zero, List.getD_cons_succ] at H)
        clear cf cm cg cb cu fu
        skip
        have hrc := HRC.out _ H.out.to
        have ct : w2.cell? ⟨u, 0, none⟩ = some (.int .i64 T) := (H.out.blk 3 rfl).cell 0
        have cd : w2.cell? ⟨x, 1, none⟩ = some (.slice (some ⟨bt, ot, none⟩) n2 cp2) := (H.out.blk 0 rfl).cell 1
        have i0 : (0 : Int) ≤ T := by omega
        have i1 : (T : Int) < n2 := by omega
        replace H := Lib.hid (H.out.addNil 3 1); (try simp only [List.set_cons_zero, List.set_cons_succ, List.cons_append, List.nil_append, List.eraseIdx_cons_zero, List.eraseIdx_cons_succ, List.setIfInBounds_toArray, World.size_alloc, selR, List.getD_cons_zero, List.getD_cons_succ] at H)
        replace H := Lib.hid (H.out.addNil 3 1); (try simp only [List.set_cons_zero, List.set_cons_succ, List.cons_append, List.nil_append, List.eraseIdx_cons_zero, List.eraseIdx_cons_succ, List.setIfInBounds_toArray, World.size_alloc, selR, List.getD_cons_zero, List.getD_cons_succ] at H)
        have HL0 : Hid ((ksF f 0).length = 0) := rfl
        go_upto_region 7 with fail
        clear hrc ct cd
        go_loopg [44] N (fun gg s44 wr => ∃ (k q : Nat) (KA : Option Addr) (kc : Nat) (IA : Option Addr) (ic : Nat), gg = N - k ∧ k ≤ N ∧ q ≤ k ∧ s44 = .int .i64 k ∧ Hid ((ksF f k).length = q) ∧ Hid (SL No w wr [rBlk x 66 #[.string ⟨nm.toArray⟩, .slice (some ⟨bt, ot, none⟩) n2 cp2], rBlk y 59 #[.int .i64 pf, .int .i64 M, .string ⟨lo.toArray⟩, .string ⟨hi.toArray⟩, .slice A n c, .bool true, .int .i64 B], rBlk z 62 #[.int .i64 0, .slice none 0 0, .slice none 0 0], rBlk u 62 #[.int .i64 T, .slice KA q kc, .slice IA q ic], rRow 3 1 (.slice KA q kc) q ((ksF f k).map (fun (j : Nat) => Value.int .i64 j)), rRow 3 1 (.slice IA q ic) q ((ksF f k).map (fun (j : Nat) => Value.int .i64 (gl j)))]))
        case atStart => exact ⟨0, 0, none, 0, none, 0, rfl, by omega, by omega, rfl, HL0, H⟩
        case round =>
          clear H HL0
          obtain ⟨k, q, KA, kc, IA, ic, hgk, hk, hqk, rfl, HL, H⟩ := hrel
          have Hgk := Lib.hid hgk
          clear hgk
          by_cases hlt : k < N
          · have k0 : (0 : Int) ≤ k := by omega
            have k1 : (k : Int) < N := by omega
            obtain ⟨j, hjm, hfj, hcl⟩ := HLF.out k hlt
            have HC1 := Lib.hid hcl
            have HC2 := Lib.hid (HLE.out j hjm)
            rw [← hfj] at HC2
            have HG := Lib.hid (HGL.out k hlt)
            clear hjm hfj hcl
            cases hfk : f k with
            | false =>
              rw [hfk] at HC2
              have HK1 : Hid (ksF f (k + 1) = ksF f k) := ksF_no hfk
              clear hfk
              have cf : wr.cell? ⟨y, 0, none⟩ = some (.int .i64 pf) := (H.out.blk 1 rfl).cell 0
              have cu : wr.cell? ⟨u, 0, none⟩ = some (.int .i64 T) := (H.out.blk 3 rfl).cell 0
              have cm : wr.cell? ⟨y, 1, none⟩ = some (.int .i64 M) := (H.out.blk 1 rfl).cell 1
              have HB := Lib.hid H.out.to
              go_upto_region 9 with fail
              have f_cf := fun u : Over wr => Over.cell cf u
              have f_cu := fun u : Over wr => Over.cell cu u
              have f_cm := fun u : Over wr => Over.cell cm u
              refine wp_region_over (by kernel_rfl) (by kernel_rfl) ?_
              (try simp only [Act.put, List.setIfInBounds_toArray, List.set_cons_zero, List.set_cons_succ])
              repeat (first
                | ((with_reducible show wpQuiet _ _ _ _ (⟨some 51, _, _, _, _, _⟩ :: _) _); refine wpQuiet_load_row (by first | rfl | go_simp) rowDm (.tmp 2) rfl _ (0) rfl _ rfl (H.out.blk 0 rfl).lt (H.out.blk 0 rfl).range ?_; simp only [Act.put, List.setIfInBounds_toArray, List.set_cons_zero, List.set_cons_succ])
                | ((with_reducible show wpQuiet _ _ _ _ (⟨some 52, _, _, _, _, _⟩ :: _) _); refine wpQuiet_load_row (by first | rfl | go_simp) rowPk (.tmp 3) rfl _ (0) rfl _ rfl (H.out.blk 1 rfl).lt (H.out.blk 1 rfl).range ?_; simp only [Act.put, List.setIfInBounds_toArray, List.set_cons_zero, List.set_cons_succ])
                | ((with_reducible show wpQuiet _ _ _ _ (⟨some 53, _, _, _, _, _⟩ :: _) _); refine wpQuiet_load_row (by first | rfl | go_simp) rowDm (.tmp 2) rfl _ (0) rfl _ rfl (H.out.blk 0 rfl).lt (H.out.blk 0 rfl).range ?_; simp only [Act.put, List.setIfInBounds_toArray, List.set_cons_zero, List.set_cons_succ])
                | ((with_reducible show wpQuiet _ _ _ _ (⟨some 59, _, _, _, _, _⟩ :: _) _); go_big_quiet_step ((go_at_call 47; rename_i u; exact calls_over (HC1.out _ (HB.out.trans u.bel)))))
                | ((with_reducible show wpQuiet _ _ _ _ (⟨some 60, _, _, _, _, _⟩ :: _) _); go_big_quiet_step ((go_at_call 46; rename_i u; exact calls_over (HC2.out _ (HB.out.trans u.bel)))))
                | go_big_quiet_step (fail))
              refine wpQuiet_nil ?_
              rintro w5 ⟨⟨_, hw5⟩, rfl⟩
              (try dsimp only)
              replace H := Lib.hid (H.out.bel hw5); (try simp only [List.set_cons_zero, List.set_cons_succ, List.cons_append, List.nil_append, List.eraseIdx_cons_zero, List.eraseIdx_cons_succ, List.setIfInBounds_toArray, World.size_alloc, selR, List.getD_cons_zero, List.getD_cons_succ] at H)
              clear f_cf f_cu f_cm cf cu cm
              clear HB HC1 HC2
              go_wp2_with fail
              rw [← HK1.out] at H HL
              go_roundg (N - (k + 1))
              case rel => exact ⟨k + 1, q, KA, kc, IA, ic, rfl, by omega, by omega, by go_num, HL, H⟩
              case measure => rw [Hgk.out]; omega
            | true =>
              rw [hfk] at HC2
              have HK1 : Hid ((ksF f (k + 1)).map (fun (j : Nat) => Value.int .i64 j) = (ksF f k).map (fun (j : Nat) => Value.int .i64 j) ++ [.int .i64 k]) := by show _ = _; rw [ksF_yes hfk, List.map_append]; rfl
              have HKL : Hid ((ksF f (k + 1)).length = q + 1) := by show _ = _; rw [ksF_yes hfk, List.length_append, HL.out]; rfl
              have HK2 : Hid ((ksF f (k + 1)).map (fun (j : Nat) => Value.int .i64 (gl j)) = (ksF f k).map (fun (j : Nat) => Value.int .i64 (gl j)) ++ [.int .i64 (gl k)]) := by show _ = _; rw [ksF_yes hfk, List.map_append]; rfl
              have cf : wr.cell? ⟨y, 0, none⟩ = some (.int .i64 pf) := (H.out.blk 1 rfl).cell 0
              have cu : wr.cell? ⟨u, 0, none⟩ = some (.int .i64 T) := (H.out.blk 3 rfl).cell 0
              have cm : wr.cell? ⟨y, 1, none⟩ = some (.int .i64 M) := (H.out.blk 1 rfl).cell 1
              have HB := Lib.hid H.out.to
              go_upto_region 9 with fail
              have f_cf := fun u : Over wr => Over.cell cf u
              have f_cu := fun u : Over wr => Over.cell cu u
              have f_cm := fun u : Over wr => Over.cell cm u
              refine wp_region_over (by kernel_rfl) (by kernel_rfl) ?_
              (try simp only [Act.put, List.setIfInBounds_toArray, List.set_cons_zero, List.set_cons_succ])
              repeat (first
                | ((with_reducible show wpQuiet _ _ _ _ (⟨some 51, _, _, _, _, _⟩ :: _) _); refine wpQuiet_load_row (by first | rfl | go_simp) rowDm (.tmp 2) rfl _ (0) rfl _ rfl (H.out.blk 0 rfl).lt (H.out.blk 0 rfl).range ?_; simp only [Act.put, List.setIfInBounds_toArray, List.set_cons_zero, List.set_cons_succ])
                | ((with_reducible show wpQuiet _ _ _ _ (⟨some 52, _, _, _, _, _⟩ :: _) _); refine wpQuiet_load_row (by first | rfl | go_simp) rowPk (.tmp 3) rfl _ (0) rfl _ rfl (H.out.blk 1 rfl).lt (H.out.blk 1 rfl).range ?_; simp only [Act.put, List.setIfInBounds_toArray, List.set_cons_zero, List.set_cons_succ])
                | ((with_reducible show wpQuiet _ _ _ _ (⟨some 53, _, _, _, _, _⟩ :: _) _); refine wpQuiet_load_row (by first | rfl | go_simp) rowDm (.tmp 2) rfl _ (0) rfl _ rfl (H.out.blk 0 rfl).lt (H.out.blk 0 rfl).range ?_; simp only [Act.put, List.setIfInBounds_toArray, List.set_cons_zero, List.set_cons_succ])
                | ((with_reducible show wpQuiet _ _ _ _ (⟨some 59, _, _, _, _, _⟩ :: _) _); go_big_quiet_step ((go_at_call 47; rename_i u; exact calls_over (HC1.out _ (HB.out.trans u.bel)))))
                | ((with_reducible show wpQuiet _ _ _ _ (⟨some 60, _, _, _, _, _⟩ :: _) _); go_big_quiet_step ((go_at_call 46; rename_i u; exact calls_over (HC2.out _ (HB.out.trans u.bel)))))
                | go_big_quiet_step (fail))
              refine wpQuiet_nil ?_
              rintro w5 ⟨⟨_, hw5⟩, rfl⟩
              (try dsimp only)
              replace H := Lib.hid (H.out.bel hw5); (try simp only [List.set_cons_zero, List.set_cons_succ, List.cons_append, List.nil_append, List.eraseIdx_cons_zero, List.eraseIdx_cons_succ, List.setIfInBounds_toArray, World.size_alloc, selR, List.getD_cons_zero, List.getD_cons_succ] at H)
              clear f_cf f_cu f_cm cf cu cm
              clear HB HC1 HC2
              have ck : w5.cell? ⟨u, 1, none⟩ = some (.slice KA q kc) := (H.out.blk 3 rfl).cell 1
              have cg : w5.cell? ⟨y, 5, none⟩ = some (.bool true) := (H.out.blk 1 rfl).cell 5
              go_upto_region 10 with fail
              go_upto_region 11 with ((with_reducible show wpList _ _ _ (⟨some 67, _, _, _, _, _⟩ :: _) _ _); (replace H := Lib.hid (H.out.alloc #[.int .i64 k] 3); (try simp only [List.set_cons_zero, List.set_cons_succ, List.cons_append, List.nil_append, List.eraseIdx_cons_zero, List.eraseIdx_cons_succ, List.setIfInBounds_toArray, World.size_alloc, selR, List.getD_cons_zero, List.getD_cons_succ] at H); refine wpList_append0 rfl (.tmp 64) (.tmp 66) _ rfl E_num 0 (Nat.zero_le _) _ q _ rfl (H.out.row 4 rfl) _ 1 1 [.int .i64 k] rfl (reads_of_block (H.out.blk 6 rfl) rfl) (by simp [Value.oneCell']) (by unfold maxLen; omega) (by omega) ?_; intro vq wq howq hgq hatq; replace H := Lib.hid (H.out.setRow 4 rfl hgq howq hatq); (try simp only [List.set_cons_zero, List.set_cons_succ, List.cons_append, List.nil_append, List.eraseIdx_cons_zero, List.eraseIdx_cons_succ, List.setIfInBounds_toArray, World.size_alloc, selR, List.getD_cons_zero, List.getD_cons_succ] at H); clear howq hgq hatq; obtain ⟨KA2, kc2, rfl, _⟩ := own_slice (H.out.row 4 rfl); have hz := (H.out.blk 3 rfl).cell 1; have hy := (H.out.blk 3 rfl).frozen 1; simp only [List.getElem?_toArray, List.getElem?_cons_zero, List.getElem?_cons_succ] at hz))
              replace H := Lib.hid (H.out.setCell 3 rfl 1 (.slice KA2 (q + 1) kc2)); (try simp only [List.set_cons_zero, List.set_cons_succ, List.cons_append, List.nil_append, List.eraseIdx_cons_zero, List.eraseIdx_cons_succ, List.setIfInBounds_toArray, World.size_alloc, selR, List.getD_cons_zero, List.getD_cons_succ] at H)
              clear hz hy ck cg
              replace H := Lib.hid (H.out.sel [0, 1, 2, 3, 4, 5] (by decide) (by simp)); (try simp only [List.set_cons_zero, List.set_cons_succ, List.cons_append, List.nil_append, List.eraseIdx_cons_zero, List.eraseIdx_cons_succ, List.setIfInBounds_toArray, World.size_alloc, selR, List.getD_cons_zero, List.getD_cons_succ] at H)
              have cg := (H.out.blk 1 rfl).cell 5
              simp only [List.getElem?_toArray, List.getElem?_cons_zero, List.getElem?_cons_succ] at cg
              go_upto_region 12 with fail
              clear cg
              refine wp_region_held_drew (S := fun w => w.cell? ⟨x, 0, none⟩ = some (.string ⟨nm.toArray⟩) ∧ w.cell? ⟨x, 1, none⟩ = some (.slice (some ⟨bt, ot, none⟩) n2 cp2) ∧ w.cell? ⟨u, 0, none⟩ = some (.int .i64 T) ∧ w.cell? ⟨y, 6, none⟩ = some (.int .i64 B)) (by kernel_rfl) ⟨(H.out.blk 0 rfl).cell 0, (H.out.blk 0 rfl).cell 1, (H.out.blk 3 rfl).cell 0, (H.out.blk 1 rfl).cell 6⟩ (fun hHeld => ?_)
              replace H := Lib.hid (H.out.drew); (try simp only [List.set_cons_zero, List.set_cons_succ, List.cons_append, List.nil_append, List.eraseIdx_cons_zero, List.eraseIdx_cons_succ, List.setIfInBounds_toArray, World.size_alloc, selR, List.getD_cons_zero, List.getD_cons_succ] at H)
              generalize World.drew _ = w8 at *
              refine wpAnyH_take (i := 0) (v := ?vq14_0) (get_o0) (by kernel_rfl) (by kernel_rfl) (by kernel_rfl) (by exact fun _ _ _ h => h) (Or.inl ⟨by rfl, ?hyq14_0⟩) (by assumption) ?_
              case hyq14_0 => (intro w hSw; (try dsimp only at hSw); go_simp) <;> with_reducible rfl
              try simp only [Act.put, List.setIfInBounds_toArray, List.set_cons_zero, List.set_cons_succ]
              refine wpAnyH_take (i := 2) (v := ?vq14_2) (get_os (get_os (get_o0))) (by kernel_rfl) (by kernel_rfl) (by kernel_rfl) (by exact fun _ _ _ h => h) (Or.inl ⟨by rfl, ?hyq14_2⟩) (by assumption) ?_
              case hyq14_2 => (intro w hSw; (try dsimp only at hSw); go_simp) <;> with_reducible rfl
              try simp only [Act.put, List.setIfInBounds_toArray, List.set_cons_zero, List.set_cons_succ]
              refine wpAnyH_take (i := 3) (v := ?vq14_3) (get_os (get_os (get_os (get_o0)))) (by kernel_rfl) (by kernel_rfl) (by kernel_rfl) (by exact fun _ _ _ h => h) (Or.inl ⟨by rfl, ?hyq14_3⟩) (by assumption) ?_
              case hyq14_3 => (intro w hSw; (try dsimp only at hSw); go_simp) <;> with_reducible rfl
              try simp only [Act.put, List.setIfInBounds_toArray, List.set_cons_zero, List.set_cons_succ]
              refine wpAnyH_take (i := 4) (v := ?vq14_4) (get_os (get_os (get_os (get_os (get_o0))))) (by kernel_rfl) (by kernel_rfl) (by kernel_rfl) (by exact fun _ _ _ h => h) (Or.inl ⟨by rfl, ?hyq14_4⟩) (by assumption) ?_
              case hyq14_4 => (intro w hSw; (try dsimp only at hSw); go_simp) <;> with_reducible rfl
              try simp only [Act.put, List.setIfInBounds_toArray, List.set_cons_zero, List.set_cons_succ]
              refine wpAnyH_take (i := 5) (v := ?vq14_5) (get_os (get_os (get_os (get_os (get_os (get_o0)))))) (by kernel_rfl) (by kernel_rfl) (by kernel_rfl) (by exact fun _ _ _ h => h) (Or.inl ⟨by rfl, ?hyq14_5⟩) (by assumption) ?_
              case hyq14_5 => (intro w hSw; (try dsimp only at hSw); go_simp) <;> with_reducible rfl
              try simp only [Act.put, List.setIfInBounds_toArray, List.set_cons_zero, List.set_cons_succ]
              refine wpAnyH_take (i := 6) (v := ?vq14_6) (get_os (get_os (get_os (get_os (get_os (get_os (get_o0))))))) (by kernel_rfl) (by kernel_rfl) (by kernel_rfl) (by exact fun _ _ _ h => h) (Or.inl ⟨by rfl, ?hyq14_6⟩) (by assumption) ?_
              case hyq14_6 => (intro w hSw; (try dsimp only at hSw); go_simp) <;> with_reducible rfl
              try simp only [Act.put, List.setIfInBounds_toArray, List.set_cons_zero, List.set_cons_succ]
              refine wpAnyH_take (i := 7) (v := ?vq14_7) (get_os (get_os (get_os (get_os (get_os (get_os (get_os (get_o0)))))))) (by kernel_rfl) (by kernel_rfl) (by kernel_rfl) (by exact fun _ _ _ h => h) (Or.inl ⟨by rfl, ?hyq14_7⟩) (by assumption) ?_
              case hyq14_7 => (intro w hSw; (try dsimp only at hSw); go_simp) <;> with_reducible rfl
              try simp only [Act.put, List.setIfInBounds_toArray, List.set_cons_zero, List.set_cons_succ]
              refine wpAnyH_ready (rs := [1, 8]) (by kernel_rfl) (by simp) ?_
              refine (AllReadyH.cons (get_os (get_o0)) (fun KK hKK => ?_) (AllReadyH.cons (get_os (get_os (get_os (get_os (get_os (get_os (get_os (get_os (get_o0))))))))) (fun KK hKK => ?_) AllReadyH.nil))
              · have ca1 := (H.out.blk 3 rfl).cell 2; simp only [List.getElem?_toArray, List.getElem?_cons_zero, List.getElem?_cons_succ] at ca1
                go_simp
                clear ca1
                refine hKK.out _ _ ⟨(H.out.blk 0 rfl).cell 0, (H.out.blk 0 rfl).cell 1, (H.out.blk 3 rfl).cell 0, (H.out.blk 1 rfl).cell 6⟩ (fun hHeld => ?_)
                clear hKK KK
                try simp only [Act.put, List.setIfInBounds_toArray, List.set_cons_zero, List.set_cons_succ]
                refine wpAnyH_ready (rs := [8]) (by kernel_rfl) (by simp) ?_
                refine (AllReadyH.cons (get_os (get_os (get_os (get_os (get_os (get_os (get_os (get_os (get_o0))))))))) (fun KK hKK => ?_) AllReadyH.nil)
                go_simp
                refine (HG.out _ H.out.to).mono ?_; rintro e' w9 ⟨rfl, hb9⟩
                replace H := Lib.hid (H.out.bel hb9); (try simp only [List.set_cons_zero, List.set_cons_succ, List.cons_append, List.nil_append, List.eraseIdx_cons_zero, List.eraseIdx_cons_succ, List.setIfInBounds_toArray, World.size_alloc, selR, List.getD_cons_zero, List.getD_cons_succ] at H)
                clear hb9
                refine hKK.out _ _ ⟨(H.out.blk 0 rfl).cell 0, (H.out.blk 0 rfl).cell 1, (H.out.blk 3 rfl).cell 0, (H.out.blk 1 rfl).cell 6⟩ (fun hHeld => ?_)
                clear hKK KK
                try simp only [Act.put, List.setIfInBounds_toArray, List.set_cons_zero, List.set_cons_succ]
                refine wpAnyH_ready (rs := [9]) (by kernel_rfl) (by simp) ?_
                refine (AllReadyH.cons (get_os (get_os (get_os (get_os (get_os (get_os (get_os (get_os (get_os (get_o0)))))))))) (fun KK hKK => ?_) AllReadyH.nil)
                refine step_buildSlice1v rfl E_num (.tmp 79) rfl (.int .i64 (gl k)) rfl #[.int .i64 (gl k)] rfl rfl (by omega) ?_
                replace H := Lib.hid (H.out.alloc #[.int .i64 (gl k)] 3); (try simp only [List.set_cons_zero, List.set_cons_succ, List.cons_append, List.nil_append, List.eraseIdx_cons_zero, List.eraseIdx_cons_succ, List.setIfInBounds_toArray, World.size_alloc, selR, List.getD_cons_zero, List.getD_cons_succ] at H)
                refine hKK.out _ _ ⟨(H.out.blk 0 rfl).cell 0, (H.out.blk 0 rfl).cell 1, (H.out.blk 3 rfl).cell 0, (H.out.blk 1 rfl).cell 6⟩ (fun hHeld => ?_)
                clear hKK KK
                try simp only [Act.put, List.setIfInBounds_toArray, List.set_cons_zero, List.set_cons_succ]
                refine wpAnyH_ready (rs := [10]) (by kernel_rfl) (by simp) ?_
                refine (AllReadyH.cons (get_ot (get_o0)) (fun KK hKK => ?_) AllReadyH.nil)
                refine step_append0 rfl (.tmp 72) (.tmp 80) _ rfl E_num 0 (Nat.zero_le _) _ q _ rfl (H.out.row 5 rfl) _ 1 1 [.int .i64 (gl k)] rfl (reads_of_block (H.out.blk 6 rfl) rfl) (by simp [Value.oneCell']) (by unfold maxLen; omega) (by omega) ?_
                intro vq wq howq hgq hatq
                replace H := Lib.hid (H.out.setRow 5 rfl hgq howq hatq); (try simp only [List.set_cons_zero, List.set_cons_succ, List.cons_append, List.nil_append, List.eraseIdx_cons_zero, List.eraseIdx_cons_succ, List.setIfInBounds_toArray, World.size_alloc, selR, List.getD_cons_zero, List.getD_cons_succ] at H)
                clear howq hgq hatq
                obtain ⟨IA2, ic2, rfl, _⟩ := own_slice (H.out.row 5 rfl)
                refine hKK.out _ _ ⟨(H.out.blk 0 rfl).cell 0, (H.out.blk 0 rfl).cell 1, (H.out.blk 3 rfl).cell 0, (H.out.blk 1 rfl).cell 6⟩ (fun hHeld => ?_)
                clear hKK KK
                try simp only [Act.put, List.setIfInBounds_toArray, List.set_cons_zero, List.set_cons_succ]
                refine wpAnyH_take (i := 11) (v := ?vq15_) (get_ot (get_os (get_o0))) (by kernel_rfl) (by kernel_rfl) (by kernel_rfl) (by exact fun _ _ _ h => h) (Or.inl ⟨by rfl, ?hyq15_⟩) (by assumption) ?_
                case hyq15_ => (intro w hSw; (try dsimp only at hSw); go_simp) <;> with_reducible rfl
                try simp only [Act.put, List.setIfInBounds_toArray, List.set_cons_zero, List.set_cons_succ]
                refine wpAnyH_ready (rs := [12]) (by kernel_rfl) (by simp) ?_
                refine (AllReadyH.cons (get_ot (get_os (get_os (get_o0)))) (fun KK hKK => ?_) AllReadyH.nil)
                have ca12 := (H.out.blk 3 rfl).cell 2; simp only [List.getElem?_toArray, List.getElem?_cons_zero, List.getElem?_cons_succ] at ca12; have fa12 := (H.out.blk 3 rfl).frozen 2
                go_simp
                replace H := Lib.hid (H.out.setCell 3 rfl 2 (.slice IA2 (q + 1) ic2)); (try simp only [List.set_cons_zero, List.set_cons_succ, List.cons_append, List.nil_append, List.eraseIdx_cons_zero, List.eraseIdx_cons_succ, List.setIfInBounds_toArray, World.size_alloc, selR, List.getD_cons_zero, List.getD_cons_succ] at H)
                clear ca12 fa12
                refine hKK.out _ _ ⟨(H.out.blk 0 rfl).cell 0, (H.out.blk 0 rfl).cell 1, (H.out.blk 3 rfl).cell 0, (H.out.blk 1 rfl).cell 6⟩ (fun hHeld => ?_)
                clear hKK KK
                try simp only [Act.put, List.setIfInBounds_toArray, List.set_cons_zero, List.set_cons_succ]
                refine wpAnyH_done (by kernel_rfl) ?_ _
                clear hHeld
                replace H := Lib.hid (H.out.sel [0, 1, 2, 3, 4, 5] (by decide) (by simp)); (try simp only [List.set_cons_zero, List.set_cons_succ, List.cons_append, List.nil_append, List.eraseIdx_cons_zero, List.eraseIdx_cons_succ, List.setIfInBounds_toArray, World.size_alloc, selR, List.getD_cons_zero, List.getD_cons_succ] at H)
                rw [← HK1.out, ← HK2.out] at H
                clear HK1 HK2
                go_wp2_with fail
                go_roundg (N - (k + 1))
                case rel => exact ⟨k + 1, q + 1, KA2, kc2, IA2, ic2, rfl, by omega, by omega, by go_num, HKL, H⟩
                case measure => rw [Hgk.out]; omega
              · go_simp
                refine (HG.out _ H.out.to).mono ?_; rintro e' w9 ⟨rfl, hb9⟩
                replace H := Lib.hid (H.out.bel hb9); (try simp only [List.set_cons_zero, List.set_cons_succ, List.cons_append, List.nil_append, List.eraseIdx_cons_zero, List.eraseIdx_cons_succ, List.setIfInBounds_toArray, World.size_alloc, selR, List.getD_cons_zero, List.getD_cons_succ] at H)
                clear hb9
                refine hKK.out _ _ ⟨(H.out.blk 0 rfl).cell 0, (H.out.blk 0 rfl).cell 1, (H.out.blk 3 rfl).cell 0, (H.out.blk 1 rfl).cell 6⟩ (fun hHeld => ?_)
                clear hKK KK
                try simp only [Act.put, List.setIfInBounds_toArray, List.set_cons_zero, List.set_cons_succ]
                refine wpAnyH_ready (rs := [1, 9]) (by kernel_rfl) (by simp) ?_
                refine (AllReadyH.cons (get_os (get_o0)) (fun KK hKK => ?_) (AllReadyH.cons (get_os (get_os (get_os (get_os (get_os (get_os (get_os (get_os (get_os (get_o0)))))))))) (fun KK hKK => ?_) AllReadyH.nil))
                · have ca1 := (H.out.blk 3 rfl).cell 2; simp only [List.getElem?_toArray, List.getElem?_cons_zero, List.getElem?_cons_succ] at ca1
                  go_simp
                  clear ca1
                  refine hKK.out _ _ ⟨(H.out.blk 0 rfl).cell 0, (H.out.blk 0 rfl).cell 1, (H.out.blk 3 rfl).cell 0, (H.out.blk 1 rfl).cell 6⟩ (fun hHeld => ?_)
                  clear hKK KK
                  try simp only [Act.put, List.setIfInBounds_toArray, List.set_cons_zero, List.set_cons_succ]
                  refine wpAnyH_ready (rs := [9]) (by kernel_rfl) (by simp) ?_
                  refine (AllReadyH.cons (get_os (get_os (get_os (get_os (get_os (get_os (get_os (get_os (get_os (get_o0)))))))))) (fun KK hKK => ?_) AllReadyH.nil)
                  refine step_buildSlice1v rfl E_num (.tmp 79) rfl (.int .i64 (gl k)) rfl #[.int .i64 (gl k)] rfl rfl (by omega) ?_
                  replace H := Lib.hid (H.out.alloc #[.int .i64 (gl k)] 3); (try simp only [List.set_cons_zero, List.set_cons_succ, List.cons_append, List.nil_append, List.eraseIdx_cons_zero, List.eraseIdx_cons_succ, List.setIfInBounds_toArray, World.size_alloc, selR, List.getD_cons_zero, List.getD_cons_succ] at H)
                  refine hKK.out _ _ ⟨(H.out.blk 0 rfl).cell 0, (H.out.blk 0 rfl).cell 1, (H.out.blk 3 rfl).cell 0, (H.out.blk 1 rfl).cell 6⟩ (fun hHeld => ?_)
                  clear hKK KK
                  try simp only [Act.put, List.setIfInBounds_toArray, List.set_cons_zero, List.set_cons_succ]
                  refine wpAnyH_ready (rs := [10]) (by kernel_rfl) (by simp) ?_
                  refine (AllReadyH.cons (get_ot (get_o0)) (fun KK hKK => ?_) AllReadyH.nil)
                  refine step_append0 rfl (.tmp 72) (.tmp 80) _ rfl E_num 0 (Nat.zero_le _) _ q _ rfl (H.out.row 5 rfl) _ 1 1 [.int .i64 (gl k)] rfl (reads_of_block (H.out.blk 6 rfl) rfl) (by simp [Value.oneCell']) (by unfold maxLen; omega) (by omega) ?_
                  intro vq wq howq hgq hatq
                  replace H := Lib.hid (H.out.setRow 5 rfl hgq howq hatq); (try simp only [List.set_cons_zero, List.set_cons_succ, List.cons_append, List.nil_append, List.eraseIdx_cons_zero, List.eraseIdx_cons_succ, List.setIfInBounds_toArray, World.size_alloc, selR, List.getD_cons_zero, List.getD_cons_succ] at H)
                  clear howq hgq hatq
                  obtain ⟨IA2, ic2, rfl, _⟩ := own_slice (H.out.row 5 rfl)
                  refine hKK.out _ _ ⟨(H.out.blk 0 rfl).cell 0, (H.out.blk 0 rfl).cell 1, (H.out.blk 3 rfl).cell 0, (H.out.blk 1 rfl).cell 6⟩ (fun hHeld => ?_)
                  clear hKK KK
                  try simp only [Act.put, List.setIfInBounds_toArray, List.set_cons_zero, List.set_cons_succ]
                  refine wpAnyH_take (i := 11) (v := ?vq16_) (get_ot (get_os (get_o0))) (by kernel_rfl) (by kernel_rfl) (by kernel_rfl) (by exact fun _ _ _ h => h) (Or.inl ⟨by rfl, ?hyq16_⟩) (by assumption) ?_
                  case hyq16_ => (intro w hSw; (try dsimp only at hSw); go_simp) <;> with_reducible rfl
                  try simp only [Act.put, List.setIfInBounds_toArray, List.set_cons_zero, List.set_cons_succ]
                  refine wpAnyH_ready (rs := [12]) (by kernel_rfl) (by simp) ?_
                  refine (AllReadyH.cons (get_ot (get_os (get_os (get_o0)))) (fun KK hKK => ?_) AllReadyH.nil)
                  have ca12 := (H.out.blk 3 rfl).cell 2; simp only [List.getElem?_toArray, List.getElem?_cons_zero, List.getElem?_cons_succ] at ca12; have fa12 := (H.out.blk 3 rfl).frozen 2
                  go_simp
                  replace H := Lib.hid (H.out.setCell 3 rfl 2 (.slice IA2 (q + 1) ic2)); (try simp only [List.set_cons_zero, List.set_cons_succ, List.cons_append, List.nil_append, List.eraseIdx_cons_zero, List.eraseIdx_cons_succ, List.setIfInBounds_toArray, World.size_alloc, selR, List.getD_cons_zero, List.getD_cons_succ] at H)
                  clear ca12 fa12
                  refine hKK.out _ _ ⟨(H.out.blk 0 rfl).cell 0, (H.out.blk 0 rfl).cell 1, (H.out.blk 3 rfl).cell 0, (H.out.blk 1 rfl).cell 6⟩ (fun hHeld => ?_)
                  clear hKK KK
                  try simp only [Act.put, List.setIfInBounds_toArray, List.set_cons_zero, List.set_cons_succ]
                  refine wpAnyH_done (by kernel_rfl) ?_ _
                  clear hHeld
                  replace H := Lib.hid (H.out.sel [0, 1, 2, 3, 4, 5] (by decide) (by simp)); (try simp only [List.set_cons_zero, List.set_cons_succ, List.cons_append, List.nil_append, List.eraseIdx_cons_zero, List.eraseIdx_cons_succ, List.setIfInBounds_toArray, World.size_alloc, selR, List.getD_cons_zero, List.getD_cons_succ] at H)
                  rw [← HK1.out, ← HK2.out] at H
                  clear HK1 HK2
                  go_wp2_with fail
                  go_roundg (N - (k + 1))
                  case rel => exact ⟨k + 1, q + 1, KA2, kc2, IA2, ic2, rfl, by omega, by omega, by go_num, HKL, H⟩
                  case measure => rw [Hgk.out]; omega
                · refine step_buildSlice1v rfl E_num (.tmp 79) rfl (.int .i64 (gl k)) rfl #[.int .i64 (gl k)] rfl rfl (by omega) ?_
                  replace H := Lib.hid (H.out.alloc #[.int .i64 (gl k)] 3); (try simp only [List.set_cons_zero, List.set_cons_succ, List.cons_append, List.nil_append, List.eraseIdx_cons_zero, List.eraseIdx_cons_succ, List.setIfInBounds_toArray, World.size_alloc, selR, List.getD_cons_zero, List.getD_cons_succ] at H)
                  refine hKK.out _ _ ⟨(H.out.blk 0 rfl).cell 0, (H.out.blk 0 rfl).cell 1, (H.out.blk 3 rfl).cell 0, (H.out.blk 1 rfl).cell 6⟩ (fun hHeld => ?_)
                  clear hKK KK
                  try simp only [Act.put, List.setIfInBounds_toArray, List.set_cons_zero, List.set_cons_succ]
                  refine wpAnyH_ready (rs := [1]) (by kernel_rfl) (by simp) ?_
                  refine (AllReadyH.cons (get_os (get_o0)) (fun KK hKK => ?_) AllReadyH.nil)
                  have ca1 := (H.out.blk 3 rfl).cell 2; simp only [List.getElem?_toArray, List.getElem?_cons_zero, List.getElem?_cons_succ] at ca1
                  go_simp
                  clear ca1
                  refine hKK.out _ _ ⟨(H.out.blk 0 rfl).cell 0, (H.out.blk 0 rfl).cell 1, (H.out.blk 3 rfl).cell 0, (H.out.blk 1 rfl).cell 6⟩ (fun hHeld => ?_)
                  clear hKK KK
                  try simp only [Act.put, List.setIfInBounds_toArray, List.set_cons_zero, List.set_cons_succ]
                  refine wpAnyH_ready (rs := [10]) (by kernel_rfl) (by simp) ?_
                  refine (AllReadyH.cons (get_ot (get_o0)) (fun KK hKK => ?_) AllReadyH.nil)
                  refine step_append0 rfl (.tmp 72) (.tmp 80) _ rfl E_num 0 (Nat.zero_le _) _ q _ rfl (H.out.row 5 rfl) _ 1 1 [.int .i64 (gl k)] rfl (reads_of_block (H.out.blk 6 rfl) rfl) (by simp [Value.oneCell']) (by unfold maxLen; omega) (by omega) ?_
                  intro vq wq howq hgq hatq
                  replace H := Lib.hid (H.out.setRow 5 rfl hgq howq hatq); (try simp only [List.set_cons_zero, List.set_cons_succ, List.cons_append, List.nil_append, List.eraseIdx_cons_zero, List.eraseIdx_cons_succ, List.setIfInBounds_toArray, World.size_alloc, selR, List.getD_cons_zero, List.getD_cons_succ] at H)
                  clear howq hgq hatq
                  obtain ⟨IA2, ic2, rfl, _⟩ := own_slice (H.out.row 5 rfl)
                  refine hKK.out _ _ ⟨(H.out.blk 0 rfl).cell 0, (H.out.blk 0 rfl).cell 1, (H.out.blk 3 rfl).cell 0, (H.out.blk 1 rfl).cell 6⟩ (fun hHeld => ?_)
                  clear hKK KK
                  try simp only [Act.put, List.setIfInBounds_toArray, List.set_cons_zero, List.set_cons_succ]
                  refine wpAnyH_take (i := 11) (v := ?vq17_) (get_ot (get_os (get_o0))) (by kernel_rfl) (by kernel_rfl) (by kernel_rfl) (by exact fun _ _ _ h => h) (Or.inl ⟨by rfl, ?hyq17_⟩) (by assumption) ?_
                  case hyq17_ => (intro w hSw; (try dsimp only at hSw); go_simp) <;> with_reducible rfl
                  try simp only [Act.put, List.setIfInBounds_toArray, List.set_cons_zero, List.set_cons_succ]
                  refine wpAnyH_ready (rs := [12]) (by kernel_rfl) (by simp) ?_
                  refine (AllReadyH.cons (get_ot (get_os (get_os (get_o0)))) (fun KK hKK => ?_) AllReadyH.nil)
                  have ca12 := (H.out.blk 3 rfl).cell 2; simp only [List.getElem?_toArray, List.getElem?_cons_zero, List.getElem?_cons_succ] at ca12; have fa12 := (H.out.blk 3 rfl).frozen 2
                  go_simp
                  replace H := Lib.hid (H.out.setCell 3 rfl 2 (.slice IA2 (q + 1) ic2)); (try simp only [List.set_cons_zero, List.set_cons_succ, List.cons_append, List.nil_append, List.eraseIdx_cons_zero, List.eraseIdx_cons_succ, List.setIfInBounds_toArray, World.size_alloc, selR, List.getD_cons_zero, List.getD_cons_succ] at H)
                  clear ca12 fa12
                  refine hKK.out _ _ ⟨(H.out.blk 0 rfl).cell 0, (H.out.blk 0 rfl).cell 1, (H.out.blk 3 rfl).cell 0, (H.out.blk 1 rfl).cell 6⟩ (fun hHeld => ?_)
                  clear hKK KK
                  try simp only [Act.put, List.setIfInBounds_toArray, List.set_cons_zero, List.set_cons_succ]
                  refine wpAnyH_done (by kernel_rfl) ?_ _
                  clear hHeld
                  replace H := Lib.hid (H.out.sel [0, 1, 2, 3, 4, 5] (by decide) (by simp)); (try simp only [List.set_cons_zero, List.set_cons_succ, List.cons_append, List.nil_append, List.eraseIdx_cons_zero, List.eraseIdx_cons_succ, List.setIfInBounds_toArray, World.size_alloc, selR, List.getD_cons_zero, List.getD_cons_succ] at H)
                  rw [← HK1.out, ← HK2.out] at H
                  clear HK1 HK2
                  go_wp2_with fail
                  go_roundg (N - (k + 1))
                  case rel => exact ⟨k + 1, q + 1, KA2, kc2, IA2, ic2, rfl, by omega, by omega, by go_num, HKL, H⟩
                  case measure => rw [Hgk.out]; omega
          · obtain rfl : k = N := by omega
            have hq100 : q ≤ 1000000 := by omega
            go_wp2_with (first | ((with_reducible show wpList _ _ _ (⟨some 84, _, _, _, _, _⟩ :: _) _ _); (refine wpList_load_blk rfl rowScan (.tmp 5) rfl _ rfl (H.out.blk 3 rfl) rfl ?_)) | ((with_reducible show wpList _ _ _ (⟨_, .store _ (.tmp 4) _, _, _, _, _⟩ :: _) _ _); (refine wpList_store_blk rfl rowScan (.tmp 4) (.tmp 84) rfl _ rfl (H.out.blk 2 rfl) rfl (#[.int .i64 T, .slice KA q kc, .slice IA q ic]) rfl rfl (by simp [Value.oneCell']) ?_; intro wq bq hgq; replace H := Lib.hid (H.out.setBlk 2 rfl hgq bq); (try simp only [List.set_cons_zero, List.set_cons_succ, List.cons_append, List.nil_append, List.eraseIdx_cons_zero, List.eraseIdx_cons_succ, List.setIfInBounds_toArray, World.size_alloc, selR, List.getD_cons_zero, List.getD_cons_succ] at H); clear hgq bq)))
            refine bodyPost_ret (results_blk1 rfl rowScan rfl (H.out.blk 2 rfl) rfl) rfl ?_
            refine ⟨⟨T, ⟨KA, q, kc, (ksF f k).map (fun (j : Nat) => (j : Int))⟩, ⟨IA, q, ic, (ksF f k).map gl⟩⟩, rfl, HFin.out.symm, H.out.to, ?_, ?_⟩
            · exact holds_scn hT64 (by have h := H.out.get 4 rfl; rw [← map_mapK] at h; exact h) (by have h := H.out.get 5 rfl; rw [← map_mapI] at h; exact h) HI1.out (HI2.out) hq100 hq100
            · rintro g (h | h)
              · exact H.out.new 4 rfl g h
              · exact H.out.new 5 rfl g h

end Go.Proofs.Ytelnhhbefdfeoaa
