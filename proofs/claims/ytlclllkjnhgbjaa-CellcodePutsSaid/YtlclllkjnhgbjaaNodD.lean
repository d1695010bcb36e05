/- The document's Wrong (nodes). -/
import Derived.Test.YtlclllkjnhgbjaaNodC
namespace Go.Proofs.Ytlclllkjnhgbjaa
open Go.RowKit
set_option linter.unusedVariables false
set_option linter.unusedSimpArgs false

set_option maxRecDepth 100000 in
set_option maxHeartbeats 4000000 in
theorem rwrong24_any (s : Shp) (n : Nd) (w : World) (hs : s.rd w) (hn : n.rd w) :
    Calls Try.prog 13 #[.agg s.cs, .agg n.cs] w fun e w' => e = .returned (.int .i64 (nodeErr s.con s.ms n.con)) ∧ Bel w w' := by
  have HC := Lib.hid (fun w' (hb : Bel w w') => rcell_any s n.dim n.all w' (hs.mono hb) hn.dim hn.all)
  have HCC := Lib.hid (fun (c : Cl) w' (hb : Bel w w') (hc : c.ok) => rcell_any s n.dim c w' (hs.mono hb) hn.dim hc)
  have H := Lib.hid (((SL.start No w).alloc s.cs 24).alloc n.cs 34)
  (try simp only [List.set_cons_zero, List.set_cons_succ, List.cons_append, List.nil_append, List.eraseIdx_cons_zero, List.eraseIdx_cons_succ, List.setIfInBounds_toArray, World.size_alloc, selR, List.getD_cons_zero, List.getD_cons_succ] at H)
  have HS := Lib.hid (fun w' (hb : Bel w w') => hs.sz.mono hb)
  have HN := Lib.hid (fun w' (hb : Bel w w') => hn.ls.mono hb)
  have s63 := hs.sz.n63
  have l63 := hn.ls.n63
  have hsl : s.sz.l.length = s.sz.n := hs.sz.len
  have hll : n.ls.l.length = n.ls.n := hn.ls.len
  have HSL := Lib.hid hsl
  have HLL := Lib.hid hll
  have d64 := hn.dim
  unfold I64 at d64
  have hcs : s.cs = #[.slice s.sz.A s.sz.n s.sz.c, .int .i64 s.ms] := rfl
  have HCS := Lib.hid hcs
  clear hcs hs hn
  obtain ⟨xs, hxs⟩ : ∃ xs, xs = s.con := ⟨_, rfl⟩
  have HXS := Lib.hid hxs
  obtain ⟨nls, hnls⟩ : ∃ l, l = n.ls.l.map Row.l := ⟨_, rfl⟩
  have HNLS := Lib.hid hnls
  have HXL : Hid (xs.length = s.sz.n) := by show _ = _; rw [hxs, List.length_map]; exact hsl
  have HNL : Hid (nls.length = n.ls.n) := by show _ = _; rw [hnls, List.length_map]; exact hll
  have HNE : Hid (∃ E, E = nodeErr s.con s.ms n.con) := ⟨_, rfl⟩
  obtain ⟨E, hE⟩ := HNE.out
  clear HNE hsl hll
  rw [← hE]
  rw [← hxs] at hE
  by_cases h1 : n.dim < 0
  · have HV : Hid (E = 2) := by show _ = _; rw [hE]; exact nodeErr_neg h1
    have d1 : decide (n.dim < 0) = true := by simpa using h1
    clear hE h1
    go_enter Try.func13, Try.ntmps13
    go_upto_region 1 with fail
    (try rw [← HCS.out] at *)
    generalize w.heap.size + 1 = y at *
    generalize w.heap.size = x at *
    generalize World.alloc (World.alloc _ _) _ = w1 at *
    have cd : w1.cell? ⟨y, 0, none⟩ = some (.int .i64 n.dim) := (H.out.blk 1 rfl).cell 0
    have cl : w1.cell? ⟨y, 1, none⟩ = some (.slice n.ls.A n.ls.n n.ls.c) := (H.out.blk 1 rfl).cell 1
    have cs : w1.cell? ⟨x, 0, none⟩ = some (.slice s.sz.A s.sz.n s.sz.c) := (H.out.blk 0 rfl).cell 0
    have f_cd := fun u : Over w1 => Over.cell cd u
    have f_cl := fun u : Over w1 => Over.cell cl u
    have f_cs := fun u : Over w1 => Over.cell cs u
    refine wp_region_over (by kernel_rfl) (by kernel_rfl) ?_
    (try simp only [Act.put, List.setIfInBounds_toArray, List.set_cons_zero, List.set_cons_succ])
    repeat (go_big_quiet_step (fail))
    refine wpQuiet_nil ?_
    rintro w5 ⟨⟨_, hw5⟩, rfl⟩
    (try dsimp only)
    replace H := Lib.hid (H.out.bel hw5); (try simp only [List.set_cons_zero, List.set_cons_succ, List.cons_append, List.nil_append, List.eraseIdx_cons_zero, List.eraseIdx_cons_succ, List.setIfInBounds_toArray, World.size_alloc, selR, List.getD_cons_zero, List.getD_cons_succ] at H)
    clear f_cd f_cl f_cs cd cl cs
    go_wp2_with fail
    go_ret
    (try rw [HV.out])
    exact ⟨rfl, H.out.to⟩
  have d1 : decide (n.dim < 0) = false := by simpa using h1
  by_cases h2 : (s.sz.n : Int) ≤ n.dim
  · have HV : Hid (E = 2) := by show _ = _; rw [hE]; exact nodeErr_none h1 (by show xs.length ≤ n.dim.toNat; rw [HXL.out]; omega)
    have d2 : decide ((s.sz.n : Int) ≤ n.dim) = true := by simpa using h2
    clear hE h1 h2
    go_enter Try.func13, Try.ntmps13
    go_upto_region 1 with fail
    (try rw [← HCS.out] at *)
    generalize w.heap.size + 1 = y at *
    generalize w.heap.size = x at *
    generalize World.alloc (World.alloc _ _) _ = w1 at *
    have cd : w1.cell? ⟨y, 0, none⟩ = some (.int .i64 n.dim) := (H.out.blk 1 rfl).cell 0
    have cl : w1.cell? ⟨y, 1, none⟩ = some (.slice n.ls.A n.ls.n n.ls.c) := (H.out.blk 1 rfl).cell 1
    have cs : w1.cell? ⟨x, 0, none⟩ = some (.slice s.sz.A s.sz.n s.sz.c) := (H.out.blk 0 rfl).cell 0
    have f_cd := fun u : Over w1 => Over.cell cd u
    have f_cl := fun u : Over w1 => Over.cell cl u
    have f_cs := fun u : Over w1 => Over.cell cs u
    refine wp_region_over (by kernel_rfl) (by kernel_rfl) ?_
    (try simp only [Act.put, List.setIfInBounds_toArray, List.set_cons_zero, List.set_cons_succ])
    repeat (go_big_quiet_step (fail))
    refine wpQuiet_nil ?_
    rintro w5 ⟨⟨_, hw5⟩, rfl⟩
    (try dsimp only)
    replace H := Lib.hid (H.out.bel hw5); (try simp only [List.set_cons_zero, List.set_cons_succ, List.cons_append, List.nil_append, List.eraseIdx_cons_zero, List.eraseIdx_cons_succ, List.setIfInBounds_toArray, World.size_alloc, selR, List.getD_cons_zero, List.getD_cons_succ] at H)
    clear f_cd f_cl f_cs cd cl cs
    go_wp2_with fail
    go_ret
    (try rw [HV.out])
    exact ⟨rfl, H.out.to⟩
  have d2 : decide ((s.sz.n : Int) ≤ n.dim) = false := by simp <;> omega
  obtain ⟨D, hD⟩ : ∃ D : Nat, n.dim = D := ⟨n.dim.toNat, by omega⟩
  have hDn : D < s.sz.n := by omega
  obtain ⟨bs, os, z, hAs, hzk, hzok, hzc⟩ := (HS.out w (Bel.refl _)).slAt (k := D) hDn
  have HZ := Lib.hid (fun w' (hb : Bel w w') => hzok.mono hb)
  have HZC := Lib.hid (fun w' (hb : Bel w w') => (hb.cell (p := ⟨bs, os + D, none⟩) (World.block_lt_of_cell? _ _ hzc)).trans hzc)
  have hxz : xs[n.con.dim.toNat]? = some z.l := by rw [show n.con.dim.toNat = D by show n.dim.toNat = D; omega, hxs]; show (s.sz.l.map Row.l)[D]? = _; rw [List.getElem?_map, hzk]; rfl
  rw [nodeErr_some (show ¬ n.con.dim < 0 from h1) hxz] at hE
  have hzl : z.l.length = z.n := hzok.len
  have z63 := hzok.size
  have i0 : (0 : Int) ≤ D := by omega
  have i1 : (D : Int) < s.sz.n := by omega
  obtain ⟨sz, hsz⟩ : ∃ sz, sz = z.l := ⟨_, rfl⟩
  have HSZ := Lib.hid hsz
  rw [← hsz] at hE
  have hszl : sz.length = z.n := by rw [hsz]; exact hzl
  replace hE : E = if sz.length = 0 ∨ nls.length ≠ sz.length then 2 else if firstErr (listAt xs.length s.ms n.dim sz nls) nls.length 0 ≠ 0 then firstErr (listAt xs.length s.ms n.dim sz nls) nls.length 0 else if n.all.key ≠ 0 ∨ cellOk xs.length s.ms n.dim n.all = false then 2 else 0 := by rw [hE, hnls]
  rw [hszl, HNL.out] at hE
  rw [hD] at d1 d2
  clear hxs hnls hsz hszl hzl
  have d2n : decide (s.sz.n ≤ D) = false := by simp <;> omega
  have d2m : (s.sz.n ≤ D) = False := by simp <;> omega
  clear hzk hzok hzc hxz h1 h2
  by_cases h4 : z.n = 0
  · have HV : Hid (E = 2) := by show _ = _; rw [hE, if_pos (.inl h4)]
    rw [h4] at HZC
    clear h4
    clear hE
    go_enter Try.func13, Try.ntmps13
    go_upto_region 1 with fail
    (try rw [← HCS.out] at *)
    generalize w.heap.size + 1 = y at *
    generalize w.heap.size = x at *
    generalize World.alloc (World.alloc _ _) _ = w1 at *
    have cd : w1.cell? ⟨y, 0, none⟩ = some (.int .i64 n.dim) := (H.out.blk 1 rfl).cell 0
    have cl : w1.cell? ⟨y, 1, none⟩ = some (.slice n.ls.A n.ls.n n.ls.c) := (H.out.blk 1 rfl).cell 1
    have cs : w1.cell? ⟨x, 0, none⟩ = some (.slice s.sz.A s.sz.n s.sz.c) := (H.out.blk 0 rfl).cell 0
    rw [hD] at cd
    rw [hAs] at cs
    have cy := HZC.out _ H.out.to
    clear hD
    have f_cd := fun u : Over w1 => Over.cell cd u
    have f_cl := fun u : Over w1 => Over.cell cl u
    have f_cs := fun u : Over w1 => Over.cell cs u
    have f_cy := fun u : Over w1 => Over.cell cy u
    refine wp_region_over (by kernel_rfl) (by kernel_rfl) ?_
    (try simp only [Act.put, List.setIfInBounds_toArray, List.set_cons_zero, List.set_cons_succ])
    repeat (go_big_quiet_step (fail))
    refine wpQuiet_nil ?_
    rintro w5 ⟨⟨_, hw5⟩, rfl⟩
    (try dsimp only)
    replace H := Lib.hid (H.out.bel hw5); (try simp only [List.set_cons_zero, List.set_cons_succ, List.cons_append, List.nil_append, List.eraseIdx_cons_zero, List.eraseIdx_cons_succ, List.setIfInBounds_toArray, World.size_alloc, selR, List.getD_cons_zero, List.getD_cons_succ] at H)
    clear f_cd f_cl f_cs f_cy cd cl cs cy
    go_wp2_with fail
    go_ret
    (try rw [HV.out])
    exact ⟨rfl, H.out.to⟩
  have d4 : ((z.n : Int) == 0) = false := by simp; omega
  have d4n : (z.n == 0) = false := by simp; omega
  by_cases h3 : n.ls.n ≠ z.n
  · have HV : Hid (E = 2) := by show _ = _; rw [hE, if_pos (.inr h3)]
    have d3 : ((n.ls.n : Int) != z.n) = true := by simp; omega
    have d3n : (n.ls.n != z.n) = true := by simp; omega
    clear h3
    clear hE
    go_enter Try.func13, Try.ntmps13
    go_upto_region 1 with fail
    (try rw [← HCS.out] at *)
    generalize w.heap.size + 1 = y at *
    generalize w.heap.size = x at *
    generalize World.alloc (World.alloc _ _) _ = w1 at *
    have cd : w1.cell? ⟨y, 0, none⟩ = some (.int .i64 n.dim) := (H.out.blk 1 rfl).cell 0
    have cl : w1.cell? ⟨y, 1, none⟩ = some (.slice n.ls.A n.ls.n n.ls.c) := (H.out.blk 1 rfl).cell 1
    have cs : w1.cell? ⟨x, 0, none⟩ = some (.slice s.sz.A s.sz.n s.sz.c) := (H.out.blk 0 rfl).cell 0
    rw [hD] at cd
    rw [hAs] at cs
    have cy := HZC.out _ H.out.to
    clear hD
    have f_cd := fun u : Over w1 => Over.cell cd u
    have f_cl := fun u : Over w1 => Over.cell cl u
    have f_cs := fun u : Over w1 => Over.cell cs u
    have f_cy := fun u : Over w1 => Over.cell cy u
    refine wp_region_over (by kernel_rfl) (by kernel_rfl) ?_
    (try simp only [Act.put, List.setIfInBounds_toArray, List.set_cons_zero, List.set_cons_succ])
    repeat (go_big_quiet_step (fail))
    refine wpQuiet_nil ?_
    rintro w5 ⟨⟨_, hw5⟩, rfl⟩
    (try dsimp only)
    replace H := Lib.hid (H.out.bel hw5); (try simp only [List.set_cons_zero, List.set_cons_succ, List.cons_append, List.nil_append, List.eraseIdx_cons_zero, List.eraseIdx_cons_succ, List.setIfInBounds_toArray, World.size_alloc, selR, List.getD_cons_zero, List.getD_cons_succ] at H)
    clear f_cd f_cl f_cs f_cy cd cl cs cy
    go_wp2_with fail
    go_ret
    (try rw [HV.out])
    exact ⟨rfl, H.out.to⟩
  replace h3 : n.ls.n = z.n := Classical.not_not.1 h3
  have HE : Hid (E = if firstErr (listAt xs.length s.ms n.dim sz nls) (n.ls.n - 0) 0 ≠ 0 then firstErr (listAt xs.length s.ms n.dim sz nls) (n.ls.n - 0) 0 else if n.all.key ≠ 0 ∨ cellOk xs.length s.ms n.dim n.all = false then 2 else 0) := by show _ = _; rw [hE, if_neg (by rintro (h | h); exact h4 h; exact h h3), Nat.sub_zero]
  have d3 : ((n.ls.n : Int) == 0) = false := by simp; omega
  have d3n : (n.ls.n == 0) = false := by simp; omega
  have d5 : ((n.ls.n : Int) != n.ls.n) = false := by simp
  rw [← h3] at HZC
  have HZN : Hid (z.n = n.ls.n) := h3.symm
  clear hE h3 h4
  go_enter Try.func13, Try.ntmps13
  go_upto_region 1 with fail
  (try rw [← HCS.out] at *)
  generalize w.heap.size + 1 = y at *
  generalize w.heap.size = x at *
  generalize World.alloc (World.alloc _ _) _ = w1 at *
  have cd : w1.cell? ⟨y, 0, none⟩ = some (.int .i64 n.dim) := (H.out.blk 1 rfl).cell 0
  have cl : w1.cell? ⟨y, 1, none⟩ = some (.slice n.ls.A n.ls.n n.ls.c) := (H.out.blk 1 rfl).cell 1
  have cs : w1.cell? ⟨x, 0, none⟩ = some (.slice s.sz.A s.sz.n s.sz.c) := (H.out.blk 0 rfl).cell 0
  rw [hD] at cd
  rw [hAs] at cs
  have cy := HZC.out _ H.out.to
  have f_cd := fun u : Over w1 => Over.cell cd u
  have f_cl := fun u : Over w1 => Over.cell cl u
  have f_cs := fun u : Over w1 => Over.cell cs u
  have f_cy := fun u : Over w1 => Over.cell cy u
  refine wp_region_over (by kernel_rfl) (by kernel_rfl) ?_
  (try simp only [Act.put, List.setIfInBounds_toArray, List.set_cons_zero, List.set_cons_succ])
  repeat (go_big_quiet_step (fail))
  refine wpQuiet_nil ?_
  rintro w5 ⟨⟨_, hw5⟩, rfl⟩
  (try dsimp only)
  replace H := Lib.hid (H.out.bel hw5); (try simp only [List.set_cons_zero, List.set_cons_succ, List.cons_append, List.nil_append, List.eraseIdx_cons_zero, List.eraseIdx_cons_succ, List.setIfInBounds_toArray, World.size_alloc, selR, List.getD_cons_zero, List.getD_cons_succ] at H)
  clear f_cd f_cl f_cs f_cy cd cl cs cy
  clear d1 d2 d2n d2m d3 d3n d4 d4n d5
  have cl : w5.cell? ⟨y, 1, none⟩ = some (.slice n.ls.A n.ls.n n.ls.c) := (H.out.blk 1 rfl).cell 1
  go_upto_region 4 with fail
  clear cl
  have HDD := Lib.hid hD
  clear hD
  have HAS := Lib.hid hAs
  clear hAs
  go_loopg [45] n.ls.n (fun gg s45 wr => ∃ (k : Nat), gg = n.ls.n - k ∧ k ≤ n.ls.n ∧ s45 = .int .i64 k ∧ Hid (E = if firstErr (listAt xs.length s.ms n.dim sz nls) (n.ls.n - k) k ≠ 0 then firstErr (listAt xs.length s.ms n.dim sz nls) (n.ls.n - k) k else if n.all.key ≠ 0 ∨ cellOk xs.length s.ms n.dim n.all = false then 2 else 0) ∧ Hid (SL No w wr [rBlk x 24 s.cs, rBlk y 34 n.cs]))
  case atStart => exact ⟨0, rfl, by omega, rfl, HE, H⟩
  case round =>
    clear H HE
    obtain ⟨k, hgk, hk, rfl, HE, H⟩ := hrel
    have Hgk := Lib.hid hgk
    clear hgk
    by_cases hlt : k < n.ls.n
    · obtain ⟨W0, hW0⟩ : ∃ W0, W0 = wr := ⟨_, rfl⟩
      subst hW0
      obtain ⟨bl, ol, v, hAl, hvk, hvok, hvc⟩ := (HN.out _ H.out.to).clsAt (k := k) hlt
      obtain ⟨bz, oz, size, hAz, hzk, hz64, hzc⟩ := (HZ.out _ H.out.to).int (k := k) (by rw [HZN.out]; exact hlt)
      have hat := listAt_some (nd := xs.length) (ms := s.ms) (dim := n.dim) (ls := nls) (sz := sz) (k := k) (l := v.l) (size := size) (by rw [HNLS.out, List.getElem?_map, hvk]; rfl) (by rw [HSZ.out]; exact hzk)
      rw [HXL.out] at hat
      have HAT := Lib.hid hat
      have HVR := Lib.hid (fun w' (hb : Bel W0 w') => hvok.rds.mono hb)
      have HZC2 := Lib.hid (fun w' (hb : Bel W0 w') => (hb.cell (p := ⟨bz, oz + k, none⟩) (World.block_lt_of_cell? _ _ hzc)).trans hzc)
      have HVC2 := Lib.hid (fun w' (hb : Bel W0 w') => (hb.cell (p := ⟨bl, ol + k, none⟩) (World.block_lt_of_cell? _ _ hvc)).trans hvc)
      have HPV : Hid (0 < k → ∃ p : Row Cl, nls[k - 1]? = some p.l ∧ p.l.length = p.n ∧ p.n ≤ 1466015503700 ∧ ∀ w', Bel w w' → w'.cell? ⟨bl, ol + (k - 1), none⟩ = some (.slice p.A p.n p.c)) := fun h0 => by
        obtain ⟨p, hp⟩ : ∃ p, n.ls.l[k - 1]? = some p := ⟨_, List.getElem?_eq_getElem (by rw [HLL.out]; omega)⟩
        have hpo := (HN.out _ (Bel.refl w)).all p (List.mem_of_getElem? hp)
        refine ⟨p, by rw [HNLS.out, List.getElem?_map, hp]; rfl, hpo.len, rdCls hpo, fun w' hb => ?_⟩
        obtain ⟨b2, o2, p2, hA2, hp2, _, hr2⟩ := (HN.out w' hb).clsAt (k := k - 1) (by omega)
        rw [hp] at hp2
        injection hp2 with hp2
        subst hp2
        rw [hAl] at hA2
        injection hA2 with hA2
        injection hA2 with e1 e2
        subst e1 e2
        exact hr2
      have hvl : Hid (v.l.length = v.n) := hvok.len
      have hvn := rdCls hvok
      have z64 := hz64
      unfold I64 at z64
      have k0 : (0 : Int) ≤ k := by omega
      have k1 : (k : Int) < n.ls.n := by omega
      have k2 : (k : Int) < z.n := by rw [HZN.out]; exact k1
      have cl : W0.cell? ⟨y, 1, none⟩ = some (.slice n.ls.A n.ls.n n.ls.c) := (H.out.blk 1 rfl).cell 1
      rw [hAl] at cl
      have HAL2 := Lib.hid hAl
      have HAZ := Lib.hid hAz
      obtain ⟨LE, hLE⟩ : ∃ e, e = listErr s.sz.n s.ms n.dim size v.l := ⟨_, rfl⟩
      rw [← hLE] at HAT
      have HEL : Hid (LE ≠ 0 → E = LE) := fun he => by rw [HE.out, HXL.out, firstErr_hit hlt (by rw [HAT.out, if_pos he]) he, if_pos he]
      clear hat hvk hvok hzk hz64 hAl hAz
      by_cases hv0 : v.n = 0
      · have HV : Hid (E = 2) := by
          have h2 : LE = 2 := by rw [hLE]; unfold listErr; rw [if_pos (by rw [hvl.out]; exact hv0)]
          show _ = _
          rw [HEL.out (by rw [h2]; decide), h2]
        rw [hv0] at hvc
        clear hLE HE HAT HPV HEL hv0
        go_wp2_with fail
        go_ret
        (try rw [HV.out])
        exact ⟨rfl, H.out.to⟩
      have HLE : Hid (LE = firstErr (cellAt s.sz.n s.ms n.dim size v.l) (v.n - 0) 0) := by show _ = _; rw [hLE]; unfold listErr; rw [if_neg (by rw [hvl.out]; exact hv0), hvl.out, Nat.sub_zero]
      have z0 : ((v.n : Int) == 0) = false := by simp; omega
      have z0n : (v.n == 0) = false := by simp; omega
      obtain ⟨bb, oo, _, hAq, _, _, _, _⟩ := (HVR.out W0 (Bel.refl _)).clAt (k := 0) (by omega)
      rw [hAq] at hvc
      have HAQ := Lib.hid hAq
      clear hLE hv0 hAq
      go_upto_region 10 with fail
      clear z0 z0n hvc hzc cl
      go_loopg [58] v.n (fun gg s58 wr => ∃ (i : Nat), gg = v.n - i ∧ i ≤ v.n ∧ s58 = .int .i64 i ∧ Hid (LE = firstErr (cellAt s.sz.n s.ms n.dim size v.l) (v.n - i) i) ∧ Hid (SL No W0 wr []) ∧ Hid (SL No w wr [rBlk x 24 s.cs, rBlk y 34 n.cs]))
      case atStart => exact ⟨0, rfl, by omega, rfl, HLE, Lib.hid (SL.start No W0), H⟩
      case round =>
        clear H HLE
        obtain ⟨i, hgi, hi, rfl, HLE, HW, H⟩ := hrel
        have Hgi := Lib.hid hgi
        clear hgi
        have cd : wr.cell? ⟨y, 0, none⟩ = some (.int .i64 n.dim) := (H.out.blk 1 rfl).cell 0
        have cs : wr.cell? ⟨x, 0, none⟩ = some (.slice s.sz.A s.sz.n s.sz.c) := (H.out.blk 0 rfl).cell 0
        rw [HAS.out] at cs
        rw [HDD.out] at cd
        have cy := HZC.out _ H.out.to
        rw [HAZ.out] at cy
        have cz := HZC2.out _ HW.out.to
        by_cases hit : i < v.n
        · obtain ⟨b4, o4, q, hA4, hbb, hq, hqok, hqr⟩ := (HVR.out _ HW.out.to).clAt (k := i) hit
          rw [HAQ.out] at hA4
          injection hA4 with hA4
          injection hA4 with e4 e5
          subst e4 e5
          have HATC := Lib.hid (cellAt_some (nd := s.sz.n) (ms := s.ms) (dim := n.dim) (size := size) hq)
          have HQR := Lib.hid (fun w' (hb : Bel wr w') => rangeAt_bel hbb hqr hb)
          have HQ := Lib.hid hqok
          have HQC := Lib.hid (fun w' (hb : Bel w w') => HCC.out q w' hb hqok)
          have cq : wr.cell? ⟨bb, oo + i * 12, none⟩ = some (.int .i64 q.key) := hqr 0 _ rfl
          have HPQ : Hid (0 < i → ∃ p : Cl, v.l[i - 1]? = some p ∧ ∀ w', Bel wr w' → w'.cell? ⟨bb, oo + (i - 1) * 12, none⟩ = some (.int .i64 p.key)) := fun h0 => by
            obtain ⟨p, hp⟩ : ∃ p, v.l[i - 1]? = some p := ⟨_, List.getElem?_eq_getElem (by rw [hvl.out]; omega)⟩
            refine ⟨p, hp, fun w' hb => ?_⟩
            obtain ⟨b2, o2, p2, hA2, _, hp2, _, hr2⟩ := (HVR.out w' (HW.out.to.trans hb)).clAt (k := i - 1) (by omega)
            rw [hp] at hp2
            injection hp2 with hp2
            subst hp2
            rw [HAQ.out] at hA2
            injection hA2 with hA2
            injection hA2 with e1 e2
            subst e1 e2
            exact hr2 0 _ rfl
          have i0' : (0 : Int) ≤ i := by omega
          have i1' : (i : Int) < v.n := by omega
          have D0 : (0 : Int) ≤ D := by omega
          clear hq hqok hqr
          by_cases hb1 : q.key < 0
          · have HV : Hid (E = 13) := by
              have h13 : LE = 13 := by rw [HLE.out]; exact firstErr_hit hit (by rw [HATC.out, if_pos (.inl hb1)]) (by decide)
              show _ = _; rw [HEL.out (by rw [h13]; decide), h13]
            have d1 : decide (q.key < 0) = true := by simpa using hb1
            clear HE HAT HLE HATC HEL hb1 HPV HPQ
            go_upto_region 12 with fail
            have f_cd := fun u : Over wr => Over.cell cd u
            have f_cs := fun u : Over wr => Over.cell cs u
            have f_cy := fun u : Over wr => Over.cell cy u
            have f_cz := fun u : Over wr => Over.cell cz u
            have f_cq := fun u : Over wr => Over.cell cq u
            refine wp_region_over (by kernel_rfl) (by kernel_rfl) ?_
            (try simp only [Act.put, List.setIfInBounds_toArray, List.set_cons_zero, List.set_cons_succ])
            repeat (go_big_quiet_step (fail))
            refine wpQuiet_nil ?_
            rintro w5 ⟨⟨_, hw5⟩, rfl⟩
            (try dsimp only)
            replace H := Lib.hid (H.out.bel hw5); (try simp only [List.set_cons_zero, List.set_cons_succ, List.cons_append, List.nil_append, List.eraseIdx_cons_zero, List.eraseIdx_cons_succ, List.setIfInBounds_toArray, World.size_alloc, selR, List.getD_cons_zero, List.getD_cons_succ] at H)
            clear f_cd f_cs f_cy f_cz f_cq cd cs cy cz cq
            go_wp2_with fail
            go_ret
            (try rw [HV.out])
            exact ⟨rfl, H.out.to⟩
          have d1 : decide (q.key < 0) = false := by simpa using hb1
          by_cases hb2 : size ≤ q.key
          · have HV : Hid (E = 13) := by
              have h13 : LE = 13 := by rw [HLE.out]; exact firstErr_hit hit (by rw [HATC.out, if_pos (.inr hb2)]) (by decide)
              show _ = _; rw [HEL.out (by rw [h13]; decide), h13]
            have d2 : decide (size ≤ q.key) = true := by simpa using hb2
            clear HE HAT HLE HATC HEL hb1 hb2 HPV HPQ
            go_upto_region 12 with fail
            have f_cd := fun u : Over wr => Over.cell cd u
            have f_cs := fun u : Over wr => Over.cell cs u
            have f_cy := fun u : Over wr => Over.cell cy u
            have f_cz := fun u : Over wr => Over.cell cz u
            have f_cq := fun u : Over wr => Over.cell cq u
            refine wp_region_over (by kernel_rfl) (by kernel_rfl) ?_
            (try simp only [Act.put, List.setIfInBounds_toArray, List.set_cons_zero, List.set_cons_succ])
            repeat (go_big_quiet_step (fail))
            refine wpQuiet_nil ?_
            rintro w5 ⟨⟨_, hw5⟩, rfl⟩
            (try dsimp only)
            replace H := Lib.hid (H.out.bel hw5); (try simp only [List.set_cons_zero, List.set_cons_succ, List.cons_append, List.nil_append, List.eraseIdx_cons_zero, List.eraseIdx_cons_succ, List.setIfInBounds_toArray, World.size_alloc, selR, List.getD_cons_zero, List.getD_cons_succ] at H)
            clear f_cd f_cs f_cy f_cz f_cq cd cs cy cz cq
            go_wp2_with fail
            go_ret
            (try rw [HV.out])
            exact ⟨rfl, H.out.to⟩
          have d2 : decide (size ≤ q.key) = false := by simp <;> omega
          have HAT2 : Hid (cellAt s.sz.n s.ms n.dim size v.l i = if 0 < i ∧ q.key ≤ ((v.l[i - 1]?).getD .nil).key then 4 else if cellOk s.sz.n s.ms n.dim q = false then 2 else 0) := by show _ = _; rw [HATC.out, if_neg (by omega)]
          clear HATC hb1 hb2
          go_upto_region 12 with fail
          have f_cd := fun u : Over wr => Over.cell cd u
          have f_cs := fun u : Over wr => Over.cell cs u
          have f_cy := fun u : Over wr => Over.cell cy u
          have f_cz := fun u : Over wr => Over.cell cz u
          have f_cq := fun u : Over wr => Over.cell cq u
          refine wp_region_over (by kernel_rfl) (by kernel_rfl) ?_
          (try simp only [Act.put, List.setIfInBounds_toArray, List.set_cons_zero, List.set_cons_succ])
          repeat (go_big_quiet_step (fail))
          refine wpQuiet_nil ?_
          rintro w5 ⟨⟨_, hw5⟩, rfl⟩
          (try dsimp only)
          replace H := Lib.hid (H.out.bel hw5); (try simp only [List.set_cons_zero, List.set_cons_succ, List.cons_append, List.nil_append, List.eraseIdx_cons_zero, List.eraseIdx_cons_succ, List.setIfInBounds_toArray, World.size_alloc, selR, List.getD_cons_zero, List.getD_cons_succ] at H)
          clear f_cd f_cs f_cy f_cz f_cq cd cs cy cz cq
          replace HW := Lib.hid (HW.out.bel hw5)
          have cq : w5.cell? ⟨bb, oo + i * 12, none⟩ = some (.int .i64 q.key) := HQR.out _ hw5 0 _ rfl
          clear d1 d2
          go_upto_region 14 with fail
          go_cut [99] (fun s99 wx => ∃ bv : Bool, s99 = .bool bv ∧ Hid (cellAt s.sz.n s.ms n.dim size v.l i = if bv = true then 4 else if cellOk s.sz.n s.ms n.dim q = false then 2 else 0) ∧ Hid (Bel wr wx) ∧ Hid (SL No W0 wx []) ∧ Hid (SL No w wx [rBlk x 24 s.cs, rBlk y 34 n.cs]))
          case first =>
            by_cases hi0 : 0 < i
            · obtain ⟨p, hp, hpc⟩ := HPQ.out hi0
              have HAT3 : Hid (cellAt s.sz.n s.ms n.dim size v.l i = if decide (q.key ≤ p.key) = true then 4 else if cellOk s.sz.n s.ms n.dim q = false then 2 else 0) := by
                show _ = _
                rw [HAT2.out, hp]
                simp [hi0]
              have cp := hpc _ hw5
              obtain ⟨j, hj⟩ : ∃ j, i = j + 1 := ⟨i - 1, by omega⟩
              rw [show i - 1 = j by omega] at cp
              have e2 : (i : Int) - 1 = j := by omega
              have m0 : (0 : Int) ≤ j := by omega
              have m1 : (j : Int) < v.n := by omega
              have e1 : decide ((0 : Int) < i) = true := by simp <;> omega
              have e1n : decide (0 < i) = true := by simp <;> omega
              have HB5 := Lib.hid hw5
              clear hp hpc HPQ HAT2 hi0 hw5 hj
              have f_cq := fun u : Over w5 => Over.cell cq u
              have f_cp := fun u : Over w5 => Over.cell cp u
              refine wp_region_over (by kernel_rfl) (by kernel_rfl) ?_
              (try simp only [Act.put, List.setIfInBounds_toArray, List.set_cons_zero, List.set_cons_succ])
              repeat (go_big_quiet_step (fail))
              refine wpQuiet_nil ?_
              rintro w6 ⟨⟨_, hw6⟩, rfl⟩
              (try dsimp only)
              replace H := Lib.hid (H.out.bel hw6); (try simp only [List.set_cons_zero, List.set_cons_succ, List.cons_append, List.nil_append, List.eraseIdx_cons_zero, List.eraseIdx_cons_succ, List.setIfInBounds_toArray, World.size_alloc, selR, List.getD_cons_zero, List.getD_cons_succ] at H)
              clear f_cq f_cp cq cp
              go_wp2_with fail
              go_meet
              exact ⟨_, rfl, HAT3, HB5.out.trans hw6, HW.out.bel hw6, H⟩
            · have e1 : decide ((0 : Int) < i) = false := by simp <;> omega
              have e1n : decide (0 < i) = false := by simp <;> omega
              have HAT3 : Hid (cellAt s.sz.n s.ms n.dim size v.l i = if (false : Bool) = true then 4 else if cellOk s.sz.n s.ms n.dim q = false then 2 else 0) := by
                show _ = _
                rw [HAT2.out, if_neg (fun h => hi0 h.1)]
                simp
              have HB5 := Lib.hid hw5
              clear HAT2 HPQ hw5 hi0
              have f_cq := fun u : Over w5 => Over.cell cq u
              refine wp_region_over (by kernel_rfl) (by kernel_rfl) ?_
              (try simp only [Act.put, List.setIfInBounds_toArray, List.set_cons_zero, List.set_cons_succ])
              repeat (go_big_quiet_step (fail))
              refine wpQuiet_nil ?_
              rintro w6 ⟨⟨_, hw6⟩, rfl⟩
              (try dsimp only)
              replace H := Lib.hid (H.out.bel hw6); (try simp only [List.set_cons_zero, List.set_cons_succ, List.cons_append, List.nil_append, List.eraseIdx_cons_zero, List.eraseIdx_cons_succ, List.setIfInBounds_toArray, World.size_alloc, selR, List.getD_cons_zero, List.getD_cons_succ] at H)
              clear f_cq cq
              go_wp2_with fail
              go_meet
              exact ⟨_, rfl, HAT3, HB5.out.trans hw6, HW.out.bel hw6, H⟩
          case rest =>
            clear H HW cq HAT2 HPQ
            obtain ⟨bv, rfl, HAT2, HBX, HW, H⟩ := hcut
            cases bv with
            | true =>
              have HV : Hid (E = 4) := by
                have h4 : LE = 4 := by rw [HLE.out]; exact firstErr_hit hit (by rw [HAT2.out, if_pos rfl]) (by decide)
                show _ = _; rw [HEL.out (by rw [h4]; decide), h4]
              clear HE HAT HLE HAT2 HEL HPV
              go_wp2_with fail
              go_ret
              (try rw [HV.out])
              exact ⟨rfl, H.out.to⟩
            | false =>
              go_upto_region 16 with fail
              have HRQ := HQR.out _ HBX.out
              have hbx := Nat.lt_of_lt_of_le hbb HBX.out.size
              have cd := (H.out.blk 1 rfl).cell 0
              change _ = some (Value.int .i64 n.dim) at cd
              have HB := Lib.hid H.out.to
              have f_cd := fun u : Over _ => Over.cell cd u
              refine wp_region_over (by kernel_rfl) (by kernel_rfl) ?_
              (try simp only [Act.put, List.setIfInBounds_toArray, List.set_cons_zero, List.set_cons_succ])
              repeat (first
                | ((with_reducible show wpQuiet _ _ _ _ (⟨some 100, _, _, _, _, _⟩ :: _) _); refine wpQuiet_load_row (by first | rfl | go_simp) rowShp2 (.tmp 2) rfl _ (0) rfl _ rfl (H.out.blk 0 rfl).lt (H.out.blk 0 rfl).range ?_; simp only [Act.put, List.setIfInBounds_toArray, List.set_cons_zero, List.set_cons_succ])
                | ((with_reducible show wpQuiet _ _ _ _ (⟨some 106, _, _, _, _, _⟩ :: _) _); refine wpQuiet_load_row (by first | rfl | go_simp) rowCl (.tmp 105) rfl bb (oo + i * 12) rfl q.cs rfl hbx HRQ ?_; simp only [Act.put, List.setIfInBounds_toArray, List.set_cons_zero, List.set_cons_succ])
                | ((with_reducible show wpQuiet _ _ _ _ (⟨some 107, _, _, _, _, _⟩ :: _) _); go_big_quiet_step ((go_at_call 38; rename_i u; exact calls_over (HQC.out _ (HB.out.trans u.bel)))))
                | go_big_quiet_step (fail))
              refine wpQuiet_nil ?_
              rintro w5 ⟨⟨_, hw5⟩, rfl⟩
              (try dsimp only)
              replace H := Lib.hid (H.out.bel hw5); (try simp only [List.set_cons_zero, List.set_cons_succ, List.cons_append, List.nil_append, List.eraseIdx_cons_zero, List.eraseIdx_cons_succ, List.setIfInBounds_toArray, World.size_alloc, selR, List.getD_cons_zero, List.getD_cons_succ] at H)
              clear f_cd cd
              replace HW := Lib.hid (HW.out.bel hw5)
              clear HRQ hbx HB HQC
              cases hck : cellOk s.sz.n s.ms n.dim q with
              | false =>
                have HV : Hid (E = 2) := by
                  have h2 : LE = 2 := by rw [HLE.out]; exact firstErr_hit hit (by rw [HAT2.out, if_neg (by simp), if_pos hck]) (by decide)
                  show _ = _; rw [HEL.out (by rw [h2]; decide), h2]
                clear HE HAT HLE HAT2 HEL HPV hck
                go_wp2_with fail
                go_ret
                (try rw [HV.out])
                exact ⟨rfl, H.out.to⟩
              | true =>
                have HLE2 : Hid (LE = firstErr (cellAt s.sz.n s.ms n.dim size v.l) (v.n - (i + 1)) (i + 1)) := by show _ = _; rw [HLE.out]; exact firstErr_next hit (by rw [HAT2.out, if_neg (by simp), if_neg (by rw [hck]; simp)])
                clear HLE HAT2 hck
                go_wp2_with fail
                go_roundg (v.n - (i + 1))
                case rel => exact ⟨i + 1, rfl, by omega, by go_num, HLE2, HW, H⟩
                case measure => rw [Hgi.out]; omega
        · obtain rfl : i = v.n := by omega
          have hL0 : LE = 0 := by rw [HLE.out, Nat.sub_self]; rfl
          clear cd cs cy cz HLE
          subst hL0
          have cl : wr.cell? ⟨y, 1, none⟩ = some (.slice (some ⟨bl, ol, none⟩) n.ls.n n.ls.c) := by have h := (H.out.blk 1 rfl).cell 1; rw [← HAL2.out]; exact h
          by_cases hk0 : 0 < k
          · obtain ⟨p, hp, hpl, hpn, hpc⟩ := HPV.out hk0
            have cp := hpc wr (H.out.to)
            rw [hp] at HAT
            simp only [Option.getD_some] at HAT
            have HAT1 : Hid (listAt s.sz.n s.ms n.dim sz nls k = if p.n < v.n then 14 else 0) := by show _ = _; rw [HAT.out, if_neg (by simp)]; simp [hk0, hpl, hvl.out]
            obtain ⟨j, hj⟩ : ∃ j, k = j + 1 := ⟨k - 1, by omega⟩
            rw [show k - 1 = j by omega] at cp
            have e2 : (k : Int) - 1 = j := by omega
            have m0 : (0 : Int) ≤ j := by omega
            have m1 : (j : Int) < n.ls.n := by omega
            have e1 : decide ((0 : Int) < k) = true := by simp <;> omega
            have e1n : decide (0 < k) = true := by simp <;> omega
            clear hj
            by_cases hlv : p.n < v.n
            · have HV : Hid (E = 14) := by show _ = _; rw [HE.out, HXL.out, firstErr_hit hlt (by rw [HAT1.out, if_pos hlv]) (by decide)]; rfl
              have d3 : decide ((p.n : Int) < v.n) = true := by simp; omega
              have d3n : decide (p.n < v.n) = true := by simp; omega
              clear hp hpc HPV HAT HAT1 HE hk0 hlv HEL
              go_wp2_with fail
              go_ret
              (try rw [HV.out])
              exact ⟨rfl, H.out.to⟩
            · have HZ0 : Hid (listAt xs.length s.ms n.dim sz nls k = 0) := by show _ = _; rw [HXL.out, HAT1.out, if_neg hlv]
              have d3 : decide ((p.n : Int) < v.n) = false := by simp; omega
              have d3n : decide (p.n < v.n) = false := by simp; omega
              clear hp hpc HPV HAT1 hk0 hlv
              have HE2 : Hid (E = if firstErr (listAt xs.length s.ms n.dim sz nls) (n.ls.n - (k + 1)) (k + 1) ≠ 0 then firstErr (listAt xs.length s.ms n.dim sz nls) (n.ls.n - (k + 1)) (k + 1) else if n.all.key ≠ 0 ∨ cellOk xs.length s.ms n.dim n.all = false then 2 else 0) := by show _ = _; rw [HE.out, firstErr_next hlt HZ0.out]
              clear HE HAT HZ0
              go_wp2_with fail
              go_roundg (n.ls.n - (k + 1))
              case rel => exact ⟨k + 1, rfl, by omega, by go_num, HE2, H⟩
              case measure => rw [Hgk.out]; omega
          · have e1 : decide ((0 : Int) < k) = false := by simp <;> omega
            have e1n : decide (0 < k) = false := by simp <;> omega
            have HZ0 : Hid (listAt xs.length s.ms n.dim sz nls k = 0) := by show _ = _; rw [HXL.out, HAT.out, if_neg (by simp), if_neg (fun h => hk0 h.1)]
            clear HPV hk0
            have HE2 : Hid (E = if firstErr (listAt xs.length s.ms n.dim sz nls) (n.ls.n - (k + 1)) (k + 1) ≠ 0 then firstErr (listAt xs.length s.ms n.dim sz nls) (n.ls.n - (k + 1)) (k + 1) else if n.all.key ≠ 0 ∨ cellOk xs.length s.ms n.dim n.all = false then 2 else 0) := by show _ = _; rw [HE.out, firstErr_next hlt HZ0.out]
            clear HE HAT HZ0
            go_wp2_with fail
            go_roundg (n.ls.n - (k + 1))
            case rel => exact ⟨k + 1, rfl, by omega, by go_num, HE2, H⟩
            case measure => rw [Hgk.out]; omega
    · obtain rfl : k = n.ls.n := by omega
      have HE2 : Hid (E = if n.all.key ≠ 0 ∨ cellOk s.sz.n s.ms n.dim n.all = false then 2 else 0) := by show _ = _; rw [HE.out, Nat.sub_self, show firstErr (listAt xs.length s.ms n.dim sz nls) 0 n.ls.n = 0 from rfl, if_neg (by simp), HXL.out]
      have cd : wr.cell? ⟨y, 0, none⟩ = some (.int .i64 n.dim) := (H.out.blk 1 rfl).cell 0
      have ck : wr.cell? ⟨y, 2, none⟩ = some (.int .i64 n.all.key) := (H.out.blk 1 rfl).cell 2
      have HAL : Hid (wr.rangeAt y 2 n.all.cs.toList) := fun j v hv => by
        have := (H.out.blk 1 rfl).range (j + 2) v (by rw [nd_all]; exact hv)
        rw [show 0 + (j + 2) = 2 + j by omega] at this
        exact this
      clear HE
      by_cases hk0 : n.all.key = 0
      · have z1 : (n.all.key != 0) = false := by simpa using hk0
        have HE3 : Hid (E = if cellOk s.sz.n s.ms n.dim n.all = false then 2 else 0) := by show _ = _; rw [HE2.out]; simp [hk0]
        clear HE2 hk0
        go_wp2_with (first | ((with_reducible show wpList _ _ _ (⟨some 130, _, _, _, _, _⟩ :: _) _ _); refine wpList_load_blkG (by first | rfl | go_simp) rowShp2 (.tmp 2) (by rfl) _ (by rfl) (H.out.blk 0 rfl) rfl ?_) | ((with_reducible show wpList _ _ _ (⟨some 134, _, _, _, _, _⟩ :: _) _ _); go_loud (refine wpList_load_rowG (by first | rfl | go_simp) rowCl (.tmp 133) (by rfl) y 2 (by rfl) n.all.cs rfl HAL.out ?_)))
        refine (HC.out _ H.out.to).mono ?_; rintro e w3 ⟨rfl, hb3⟩
        replace H := Lib.hid (H.out.bel hb3); (try simp only [List.set_cons_zero, List.set_cons_succ, List.cons_append, List.nil_append, List.eraseIdx_cons_zero, List.eraseIdx_cons_succ, List.setIfInBounds_toArray, World.size_alloc, selR, List.getD_cons_zero, List.getD_cons_succ] at H)
        clear hb3
        cases hck : cellOk s.sz.n s.ms n.dim n.all with
        | false =>
          have HV : Hid (E = 2) := by show _ = _; rw [HE3.out, if_pos hck]
          clear HE3 hck
          go_wp2_with fail
          go_ret
          (try rw [HV.out])
          exact ⟨rfl, H.out.to⟩
        | true =>
          have HV : Hid (E = 0) := by show _ = _; rw [HE3.out, if_neg (by rw [hck]; simp)]
          clear HE3 hck
          go_wp2_with fail
          go_ret
          (try rw [HV.out])
          exact ⟨rfl, H.out.to⟩
      · have z1 : (n.all.key != 0) = true := by simpa using hk0
        have HV : Hid (E = 2) := by show _ = _; rw [HE2.out, if_pos (.inl hk0)]
        clear HE2 hk0
        go_wp2_with fail
        go_ret
        (try rw [HV.out])
        exact ⟨rfl, H.out.to⟩

end Go.Proofs.Ytlclllkjnhgbjaa
