/- arena.leads. -/
import Derived.Test.YtlclllkjnhgbjaaAreD
import Derived.Test.YtlclllkjnhgbjaaNodG
namespace Go.Proofs.Ytlclllkjnhgbjaa
open Go.RowKit
set_option linter.unusedVariables false
set_option linter.unusedSimpArgs false


theorem firstErr_inv {f : Nat → Int} : ∀ {m j : Nat}, firstErr f m j = 0 → ∀ i, j ≤ i → i < j + m → f i = 0
  | 0, j, _, i, h1, h2 => by omega
  | m + 1, j, h, i, h1, h2 => by
    rw [firstErr] at h
    by_cases h0 : f j = 0
    · rw [if_neg (by omega)] at h
      rcases Nat.eq_or_lt_of_le h1 with e | e
      · rw [← e]; exact h0
      · exact firstErr_inv h i e (by omega)
    · rw [if_pos h0] at h; exact absurd h h0
theorem listErr_cells {nd : Nat} {ms dim size : Int} {l : List Cl} (h : listErr nd ms dim size l = 0) : ∀ c ∈ l, cellOk nd ms dim c = true := fun c hc => by
  unfold listErr at h
  by_cases h0 : l.length = 0
  · rw [if_pos h0] at h; omega
  rw [if_neg h0] at h
  obtain ⟨i, hi, hci⟩ := List.getElem_of_mem hc
  have h1 := firstErr_inv h i (Nat.zero_le _) (by omega)
  unfold cellAt at h1
  rw [List.getElem?_eq_getElem hi, hci] at h1
  simp only at h1
  cases hk : cellOk nd ms dim c with
  | true => rfl
  | false =>
    rw [hk] at h1
    simp only [if_true] at h1
    split at h1
    · omega
    · split at h1 <;> omega
/-- What a node that may be says of its cells. -/
theorem nodeErr_cells {xs : List (List Int)} {ms : Int} {n : NC} (h : nodeErr xs ms n = 0) : (0 ≤ n.dim ∧ n.dim < xs.length) ∧ ∀ c ∈ eachN n, cellOk xs.length ms n.dim c = true := by
  by_cases h1 : n.dim < 0
  · rw [nodeErr_neg h1] at h; omega
  by_cases h2 : xs.length ≤ n.dim.toNat
  · rw [nodeErr_none h1 h2] at h; omega
  have hs : xs[n.dim.toNat]? = some (xs[n.dim.toNat]'(by omega)) := List.getElem?_eq_getElem (by omega)
  rw [nodeErr_some h1 hs] at h
  generalize xs[n.dim.toNat]'(by omega) = sz at h
  by_cases h3 : sz.length = 0 ∨ n.ls.length ≠ sz.length
  · rw [if_pos h3] at h; omega
  rw [if_neg h3] at h
  by_cases h4 : firstErr (listAt xs.length ms n.dim sz n.ls) n.ls.length 0 ≠ 0
  · rw [if_pos h4] at h; exact absurd h h4
  rw [if_neg h4] at h
  have h4 := Classical.not_not.1 h4
  by_cases h5 : n.all.key ≠ 0 ∨ cellOk xs.length ms n.dim n.all = false
  · rw [if_pos h5] at h; omega
  refine ⟨⟨by omega, by omega⟩, fun c hc => ?_⟩
  rcases List.mem_append.1 hc with hc | hc
  · obtain ⟨l, hl, hcl⟩ := List.mem_flatten.1 hc
    obtain ⟨k, hk, hkl⟩ := List.getElem_of_mem hl
    have h6 := firstErr_inv h4 k (Nat.zero_le _) (by omega)
    have hlen : n.ls.length = sz.length := Classical.byContradiction fun e => h3 (.inr e)
    have hz : sz[k]? = some (sz[k]'(by omega)) := List.getElem?_eq_getElem (by omega)
    rw [listAt_some (List.getElem?_eq_getElem hk) hz, hkl] at h6
    by_cases h7 : listErr xs.length ms n.dim (sz[k]'(by omega)) l ≠ 0
    · rw [if_pos h7] at h6; exact absurd h6 h7
    · exact listErr_cells (Classical.not_not.1 h7) c hcl
  · rw [List.mem_singleton] at hc
    subst hc
    cases hk : cellOk xs.length ms n.dim n.all with
    | true => rfl
    | false => exact absurd (.inr hk) h5
theorem cellOk_ch {nd : Nat} {ms dim : Int} {c : Cl} (h : cellOk nd ms dim c = true) : 0 ≤ c.ch := by
  unfold cellOk at h
  split at h
  · simp only [Bool.and_eq_true, decide_eq_true_eq] at h; omega
  · simp only [Bool.and_eq_true, decide_eq_true_eq] at h; exact h.1
/-- So few cells that each count fits. -/
structure SmN (n : Nd) : Prop where
  a : n.ls.n ≤ 1000000
  b : ∀ y ∈ n.ls.l, y.n ≤ 1000000
  t : (n.ls.l.map Row.l).flatten.length ≤ 999999
theorem nd_cells {w : World} {n : Nd} (hn : n.rd w) : ∀ c ∈ eachN n.con, c.ok := fun c hc => by
  rcases List.mem_append.1 hc with hc | hc
  · obtain ⟨l, hl, hcl⟩ := List.mem_flatten.1 hc
    obtain ⟨y, hy, rfl⟩ := List.mem_map.1 hl
    exact (hn.ls.all y hy).all c hcl
  · rw [List.mem_singleton] at hc
    subst hc
    exact hn.all
set_option maxRecDepth 100000 in
set_option maxHeartbeats 2000000 in
theorem leads1_any (b x y : Nat) (nd : Row Nd) (dim : Int) (c : Cl) (w : World) (hx : w.cell? ⟨x, 0, none⟩ = some (.pointer (some ⟨b, 0, none⟩))) (hb : w.cell? ⟨b, 2, none⟩ = some (.slice nd.A nd.n nd.c)) (hy : w.cell? ⟨y, 0, none⟩ = some (.int .i64 dim)) (hnd : nd.rd w) (hd0 : 0 ≤ dim) (hd1 : dim ≤ 1000000) (hc : c.ok) (h0 : 0 ≤ c.ch) :
    Calls Try.prog 104 #[.agg c.cs, .pointer (some ⟨x, 0, none⟩), .pointer (some ⟨y, 0, none⟩)] w fun e w' => e = .returned (.bool (aheadC (nd.l.map Nd.con) dim c)) ∧ Bel w w' := by
  have HCx : Hid (∀ w', Bel w w' → w'.cell? ⟨x, 0, none⟩ = some (.pointer (some ⟨b, 0, none⟩))) := fun w' hb => (hb.cell (p := ⟨x, 0, none⟩) (World.block_lt_of_cell? _ _ hx)).trans hx
  have HCb : Hid (∀ w', Bel w w' → w'.cell? ⟨b, 2, none⟩ = some (.slice nd.A nd.n nd.c)) := fun w' h => (h.cell (p := ⟨b, 2, none⟩) (World.block_lt_of_cell? _ _ hb)).trans hb
  have HCy : Hid (∀ w', Bel w w' → w'.cell? ⟨y, 0, none⟩ = some (.int .i64 dim)) := fun w' hb => (hb.cell (p := ⟨y, 0, none⟩) (World.block_lt_of_cell? _ _ hy)).trans hy
  have HND := Lib.hid (fun w' (hb : Bel w w') => hnd.mono hb)
  have n63 := hnd.n63
  have hnl : Hid (nd.l.length = nd.n) := hnd.len
  have H := Lib.hid ((SL.start No w).alloc c.cs 32)
  (try simp only [List.set_cons_zero, List.set_cons_succ, List.cons_append, List.nil_append, List.eraseIdx_cons_zero, List.eraseIdx_cons_succ, List.setIfInBounds_toArray, World.size_alloc, selR, List.getD_cons_zero, List.getD_cons_succ] at H)
  obtain ⟨k, hk⟩ : ∃ k : Nat, c.ch = k := ⟨c.ch.toNat, by omega⟩
  have HK := Lib.hid hk
  have HCS := Lib.hid (rfl : c.cs = Cl.cs c)
  obtain ⟨R, hR⟩ : ∃ R, R = aheadC (nd.l.map Nd.con) dim c := ⟨_, rfl⟩
  have HR := Lib.hid hR
  rw [← hR]
  have k64 := hc.ch
  unfold I64 at k64
  rw [hk] at k64
  clear hx hb hy hnd hc hR
  go_enter Try.func104, Try.ntmps104
  go_upto_region 1 with fail
  generalize w.heap.size = z at *
  generalize World.alloc w _ = w1 at *
  have cc : w1.cell? ⟨z, 1, none⟩ = some (.int .i64 k) := by have h := (H.out.blk 0 rfl).cell 1; rw [← HK.out]; exact h
  have cx := HCx.out _ H.out.to
  have cy := HCy.out _ H.out.to
  have cb := HCb.out _ H.out.to
  by_cases hlt : k < nd.n
  · obtain ⟨bl, ol, t, hAl, hbl, htk, htr, hrg⟩ := (HND.out _ H.out.to).ndAt (k := k) hlt
    have ct : w1.cell? ⟨bl, ol + k * 14, none⟩ = some (.int .i64 t.dim) := hrg 0 _ rfl
    have HRV : Hid (R = (t.dim == dim + 1)) := by
      show _ = _
      rw [HR.out]
      unfold aheadC
      rw [HK.out, Int.toNat_natCast, List.getElem?_map, htk]
      exact Bool.eq_iff_iff.2 (by simp)
    have d1 : decide ((k : Int) < (nd.n : Int)) = true := by simp <;> omega
    have d1n : decide (k < nd.n) = true := by simp <;> omega
    have k0 : (0 : Int) ≤ k := by omega
    have k1 : (k : Int) < nd.n := by omega
    have t64 := htr.dim
    unfold I64 at t64
    rw [hAl] at cb
    clear hk HR htk htr hrg hAl hbl hlt
    have f_cc := fun u : Over w1 => Over.cell cc u
    have f_cx := fun u : Over w1 => Over.cell cx u
    have f_cy := fun u : Over w1 => Over.cell cy u
    have f_cb := fun u : Over w1 => Over.cell cb u
    have f_ct := fun u : Over w1 => Over.cell ct u
    refine wp_region_over (by kernel_rfl) (by kernel_rfl) ?_
    (try simp only [Act.put, List.setIfInBounds_toArray, List.set_cons_zero, List.set_cons_succ])
    repeat (go_big_quiet_step (fail))
    refine wpQuiet_nil ?_
    rintro w5 ⟨⟨_, hw5⟩, rfl⟩
    (try dsimp only)
    replace H := Lib.hid (H.out.bel hw5); (try simp only [List.set_cons_zero, List.set_cons_succ, List.cons_append, List.nil_append, List.eraseIdx_cons_zero, List.eraseIdx_cons_succ, List.setIfInBounds_toArray, World.size_alloc, selR, List.getD_cons_zero, List.getD_cons_succ] at H)
    clear f_cc f_cx f_cy f_cb f_ct cc cx cy cb ct
    go_wp2_with fail
    go_ret
    rw [HRV.out]
    exact ⟨rfl, H.out.to⟩
  · have HRV : Hid (R = false) := by
      show _ = _
      rw [HR.out]
      unfold aheadC
      rw [HK.out, Int.toNat_natCast, List.getElem?_map, List.getElem?_eq_none (by rw [hnl.out]; omega)]
      rfl
    have d1 : decide ((k : Int) < (nd.n : Int)) = false := by simp <;> omega
    have d1n : decide (k < nd.n) = false := by simp <;> omega
    clear hk HR hlt
    have f_cc := fun u : Over w1 => Over.cell cc u
    have f_cx := fun u : Over w1 => Over.cell cx u
    have f_cy := fun u : Over w1 => Over.cell cy u
    have f_cb := fun u : Over w1 => Over.cell cb u
    refine wp_region_over (by kernel_rfl) (by kernel_rfl) ?_
    (try simp only [Act.put, List.setIfInBounds_toArray, List.set_cons_zero, List.set_cons_succ])
    repeat (go_big_quiet_step (fail))
    refine wpQuiet_nil ?_
    rintro w5 ⟨⟨_, hw5⟩, rfl⟩
    (try dsimp only)
    replace H := Lib.hid (H.out.bel hw5); (try simp only [List.set_cons_zero, List.set_cons_succ, List.cons_append, List.nil_append, List.eraseIdx_cons_zero, List.eraseIdx_cons_succ, List.setIfInBounds_toArray, World.size_alloc, selR, List.getD_cons_zero, List.getD_cons_succ] at H)
    clear f_cc f_cx f_cy f_cb cc cx cy cb
    go_wp2_with fail
    go_ret
    rw [HRV.out]
    exact ⟨rfl, H.out.to⟩
set_option maxRecDepth 100000 in
set_option maxHeartbeats 2000000 in
theorem aleads_any (b : Nat) (x : Arn) (n : Nd) (w : World) (HP : SL (DomL (arP b x)) w w (arP b x)) (ok : x.ok) (hn : n.rd w) (ht : (n.ls.l.map Row.l).flatten.length ≤ 999999) (hz : nodeErr x.shp.con x.ms n.con = 0) :
    Calls Try.prog 88 #[.pointer (some ⟨b, 0, none⟩), .agg n.cs] w fun e w' => e = .returned (.bool (leadsN x.sz.n (x.nd.l.map Nd.con) n.con)) ∧ Bel w w' := by
  have hsr := ar_shp ok (HP.get 1 rfl) (HP.get 2 rfl)
  have HLS := Lib.hid (fun w' (hb : Bel w w') => last_any x.shp n.dim w' (hsr.mono hb) hn.dim)
  have hcc := (HP.blk 0 rfl).cell 2
  have HC2 : Hid (∀ w', Bel w w' → w'.cell? ⟨b, 2, none⟩ = some (.slice x.nd.A x.nd.n x.nd.c)) := fun w' hb => (hb.cell (p := ⟨b, 2, none⟩) (World.block_lt_of_cell? _ _ hcc)).trans hcc
  have hndr := ar_nds ok (HP.get 3 rfl) (HP.get 4 rfl)
  have HND := Lib.hid (fun w' (hb : Bel w w') => hndr.mono hb)
  have HEA := Lib.hid (fun w' (hb : Bel w w') => each_any n w' (hn.mono hb) ht)
  have hbb := (HP.blk 0 rfl).lt
  have hr : w.rangeAt b 0 x.shp.cs.toList := fun j v hv => by
    match j, hv with
    | 0, hv => exact (HP.blk 0 rfl).range 0 v hv
    | 1, hv => exact (HP.blk 0 rfl).range 1 v hv
    | j + 2, hv => simp at hv
  have HR0 := Lib.hid (fun w' (hx : Bel w w') => (fun j v hv => (hx.cell (p := ⟨b, 0 + j, none⟩) hbb).trans (hr j v hv) : w'.rangeAt b 0 x.shp.cs.toList))
  have HBB := Lib.hid (fun w' (hx : Bel w w') => Nat.lt_of_lt_of_le hbb hx.size)
  have hcl := nodeErr_cells hz
  have hxn : x.shp.con.length = x.sz.n := by rw [List.length_map]; exact hsr.sz.len
  rw [hxn] at hcl
  have HOK := Lib.hid (nd_cells hn)
  have HCH := Lib.hid (fun c hc => cellOk_ch (hcl.2 c hc))
  have hdim0 : 0 ≤ n.dim := hcl.1.1
  have hdim1 : n.dim < x.sz.n := hcl.1.2
  have hs16 := ok.s16
  have hel : (eachN n.con).length ≤ 1000000 := by unfold eachN; rw [List.length_append]; show _ + 1 ≤ _; have : n.con.ls = n.ls.l.map Row.l := rfl; rw [this]; omega
  obtain ⟨R, hR⟩ : ∃ R, R = leadsN x.sz.n (x.nd.l.map Nd.con) n.con := ⟨_, rfl⟩
  have HR : Hid (R = (decide (n.dim = (x.sz.n : Int) - 1) || (eachN n.con).all (aheadC (x.nd.l.map Nd.con) n.dim))) := hR
  rw [← hR]
  have H := Lib.hid (((SL.start No w).alloc #[.pointer (some ⟨b, 0, none⟩)] 64).alloc n.cs 34)
  (try simp only [List.set_cons_zero, List.set_cons_succ, List.cons_append, List.nil_append, List.eraseIdx_cons_zero, List.eraseIdx_cons_succ, List.setIfInBounds_toArray, World.size_alloc, selR, List.getD_cons_zero, List.getD_cons_succ] at H)
  clear HP hsr hcc hndr hn ht hbb hr hcl hxn hz hR
  go_enter Try.func88, Try.ntmps88
  go_upto_region 1 with fail
  generalize w.heap.size + 1 = y at *
  generalize w.heap.size = z at *
  generalize World.alloc (World.alloc _ _) _ = w1 at *
  have hbb := HBB.out _ H.out.to
  have HR1 := Lib.hid (HR0.out _ H.out.to)
  have c0 : w1.cell? ⟨z, 0, none⟩ = some (.pointer (some ⟨b, 0, none⟩)) := (H.out.blk 0 rfl).cell 0
  have c1 : w1.cell? ⟨y, 0, none⟩ = some (.int .i64 n.dim) := (H.out.blk 1 rfl).cell 0
  go_upto_region 1 with fail
  have f_c0 := fun u : Over w1 => Over.cell c0 u
  have f_c1 := fun u : Over w1 => Over.cell c1 u
  refine wp_region_over (by kernel_rfl) (by kernel_rfl) ?_
  (try simp only [Act.put, List.setIfInBounds_toArray, List.set_cons_zero, List.set_cons_succ])
  repeat (first
    | ((with_reducible show wpQuiet _ _ _ _ (⟨some 11, _, _, _, _, _⟩ :: _) _); refine wpQuiet_load_row (by first | rfl | go_simp) rowShp2 (.tmp 10) rfl b (0) rfl x.shp.cs rfl hbb HR1.out ?_; simp only [Act.put, List.setIfInBounds_toArray, List.set_cons_zero, List.set_cons_succ])
    | go_big_quiet_step (((go_at_call 69; rename_i u; exact calls_over (HLS.out _ (H.out.to.trans u.bel))))))
  refine wpQuiet_nil ?_
  rintro w5 ⟨⟨_, hw5⟩, rfl⟩
  (try dsimp only)
  replace H := Lib.hid (H.out.bel hw5); (try simp only [List.set_cons_zero, List.set_cons_succ, List.cons_append, List.nil_append, List.eraseIdx_cons_zero, List.eraseIdx_cons_succ, List.setIfInBounds_toArray, World.size_alloc, selR, List.getD_cons_zero, List.getD_cons_succ] at H)
  clear f_c0 f_c1 c0 c1
  clear HLS HR0 HBB hbb HR1
  cases hl : (n.dim == (x.sz.n : Int) - 1) with
  | true =>
    have HRV : Hid (R = true) := by show _ = _; rw [HR.out]; simp only [beq_iff_eq] at hl; rw [hl]; simp
    clear HR
    go_wp2_with fail
    go_ret
    rw [HRV.out]
    exact ⟨rfl, H.out.to⟩
  | false =>
    have HRA : Hid (R = (eachN n.con).all (aheadC (x.nd.l.map Nd.con) n.dim)) := by show _ = _; rw [HR.out]; simp only [beq_eq_false_iff_ne, ne_eq] at hl; simp [hl]
    clear HR
    go_wp2_with ((with_reducible show wpList _ _ _ (⟨some 16, _, _, _, _, _⟩ :: _) _ _); (refine wpList_load_blk rfl rowNd (.tmp 3) rfl _ rfl (H.out.blk 1 rfl) rfl ?_))
    refine (HEA.out _ H.out.to).mono ?_; rintro e w6 ⟨A, cp, rfl, hb6, ho6⟩
    replace H := Lib.hid (H.out.addRow hb6 ho6); (try simp only [List.set_cons_zero, List.set_cons_succ, List.cons_append, List.nil_append, List.eraseIdx_cons_zero, List.eraseIdx_cons_succ, List.setIfInBounds_toArray, World.size_alloc, selR, List.getD_cons_zero, List.getD_cons_succ] at H)
    clear hb6 ho6 HEA hl
    obtain ⟨m, hm⟩ : ∃ m, m = (eachN n.con).length := ⟨_, rfl⟩
    rw [← hm] at H hel ⊢
    have HM := Lib.hid hm
    clear hm
    have HLR : Hid (∀ w', SL No w w' [rBlk z 64 #[.pointer (some ⟨b, 0, none⟩)], rBlk y 34 n.cs, rRow 32 12 (.slice A m cp) m ((eachN n.con).flatMap Cel.cells)] → (Row.mk A m cp (eachN n.con) : Row Cl).rd w') := fun w' h => Row.ok.rds (own_ok (x := ⟨A, m, cp, eachN n.con⟩) (h.row 2 rfl) HOK.out (by show m * 96 ≤ _; omega))
    have HF : Hid (∀ j c, j < 0 → (eachN n.con)[j]? = some c → aheadC (x.nd.l.map Nd.con) n.dim c = true) := fun j c h => by omega
    go_upto_region 5 with fail
    go_loopg [19] m (fun gg s19 wr => ∃ (k : Nat), gg = m - k ∧ k ≤ m ∧ s19 = .int .i64 k ∧ Hid (∀ j c, j < k → (eachN n.con)[j]? = some c → aheadC (x.nd.l.map Nd.con) n.dim c = true) ∧ Hid (SL No w wr [rBlk z 64 #[.pointer (some ⟨b, 0, none⟩)], rBlk y 34 n.cs, rRow 32 12 (.slice A m cp) m ((eachN n.con).flatMap Cel.cells)]))
    case atStart => exact ⟨0, rfl, by omega, rfl, HF, H⟩
    case round =>
      clear H HF
      obtain ⟨k, hgk, hk, rfl, HF, H⟩ := hrel
      have Hgk := Lib.hid hgk
      clear hgk
      by_cases hlt : k < m
      · obtain ⟨bl, ol, c, hAl, hbl, hck, hcok, hrg⟩ := (HLR.out _ H.out).clAt (k := k) hlt
        simp only at hAl hck
        have hcm := List.mem_of_getElem? hck
        have HCK := Lib.hid hck
        have HCO := Lib.hid hcok
        have HRG := Lib.hid hrg
        have hch := HCH.out c hcm
        have k0 : (0 : Int) ≤ k := by omega
        have k1 : (k : Int) < m := by omega
        have HAL := Lib.hid hAl
        rw [hAl]
        clear hck hcok hrg hAl hcm
        go_upto_region 7 with (first | ((with_reducible show wpList _ _ _ (⟨some 22, _, _, _, _, _⟩ :: _) _ _); (refine wpList_load_row_at rfl rowCl (.tmp 21) rfl bl (ol + k * 12) rfl c.cs rfl HRG.out ?_)) | ((with_reducible show wpList _ _ _ (⟨_, .store _ (.tmp 7) _, _, _, _, _⟩ :: _) _ _); (refine wpList_store_new rfl rowCl (.tmp 7) (.tmp 22) rfl rfl rfl (c.cs) rfl rfl (cl_one c) ?_; replace H := Lib.hid (H.out.alloc (c.cs) 32); (try simp only [List.set_cons_zero, List.set_cons_succ, List.cons_append, List.nil_append, List.eraseIdx_cons_zero, List.eraseIdx_cons_succ, List.setIfInBounds_toArray, World.size_alloc, selR, List.getD_cons_zero, List.getD_cons_succ] at H))))
        (try simp only [Act.put, List.setIfInBounds_toArray, List.set_cons_zero, List.set_cons_succ])
        clear HRG hbl
        generalize wr.heap.size = u at *
        generalize World.alloc wr _ = w2 at *
        go_wp2_with ((with_reducible show wpList _ _ _ (⟨some 24, _, _, _, _, _⟩ :: _) _ _); (refine wpList_load_blk rfl rowCl (.tmp 7) rfl _ rfl (H.out.blk 3 rfl) rfl ?_))
        refine (leads1_any b z y x.nd n.dim c w2 ((H.out.blk 0 rfl).cell 0) (HC2.out _ H.out.to) ((H.out.blk 1 rfl).cell 0) (HND.out _ H.out.to) hdim0 (by omega) HCO.out hch).mono ?_; rintro e w9 ⟨rfl, hb9⟩
        replace H := Lib.hid (H.out.bel hb9); (try simp only [List.set_cons_zero, List.set_cons_succ, List.cons_append, List.nil_append, List.eraseIdx_cons_zero, List.eraseIdx_cons_succ, List.setIfInBounds_toArray, World.size_alloc, selR, List.getD_cons_zero, List.getD_cons_succ] at H)
        clear hb9
        replace H := Lib.hid (H.out.sel [0, 1, 2] (by decide) (by simp)); (try simp only [List.set_cons_zero, List.set_cons_succ, List.cons_append, List.nil_append, List.eraseIdx_cons_zero, List.eraseIdx_cons_succ, List.setIfInBounds_toArray, World.size_alloc, selR, List.getD_cons_zero, List.getD_cons_succ] at H)
        cases ha : aheadC (x.nd.l.map Nd.con) n.dim c with
        | true =>
          have HF2 : Hid (∀ j c, j < k + 1 → (eachN n.con)[j]? = some c → aheadC (x.nd.l.map Nd.con) n.dim c = true) := fun j c' hj hc' => by
            rcases (show j < k ∨ j = k by omega) with h | h
            · exact HF.out j c' h hc'
            · subst h
              rw [HCK.out] at hc'
              injection hc' with hc'
              subst hc'
              exact ha
          clear HF ha hch
          go_wp2_with fail
          rw [← HAL.out]
          go_roundg (m - (k + 1))
          case rel => exact ⟨k + 1, rfl, by omega, by go_num, HF2, H⟩
          case measure => rw [Hgk.out]; omega
        | false =>
          have HRV : Hid (R = false) := by
            show _ = _
            rw [HRA.out, List.all_eq_false]
            exact ⟨c, List.mem_of_getElem? HCK.out, by rw [ha]; simp⟩
          clear HF ha hch HRA
          go_wp2_with fail
          go_ret
          rw [HRV.out]
          exact ⟨rfl, H.out.to⟩
      · obtain rfl : k = m := by omega
        have HRV : Hid (R = true) := by
          show _ = _
          rw [HRA.out, List.all_eq_true]
          intro c hc
          obtain ⟨i, hi, hci⟩ := List.getElem_of_mem hc
          exact HF.out i c (by rw [HM.out]; exact hi) (by rw [List.getElem?_eq_getElem hi, hci])
        clear HF HRA
        go_wp2_with fail
        go_ret
        rw [HRV.out]
        exact ⟨rfl, H.out.to⟩

end Go.Proofs.Ytlclllkjnhgbjaa
