/- node.Check. -/
import Derived.Test.YtlclllkjnhgbjaaNodB
namespace Go.Proofs.Ytlclllkjnhgbjaa
open Go.RowKit
set_option linter.unusedVariables false
set_option linter.unusedSimpArgs false


theorem nodeErr_neg {xs : List (List Int)} {ms : Int} {n : NC} (h : n.dim < 0) : nodeErr xs ms n = 2 := by unfold nodeErr; rw [if_pos h]
theorem nodeErr_none {xs : List (List Int)} {ms : Int} {n : NC} (h : ¬ n.dim < 0) (h2 : xs.length ≤ n.dim.toNat) : nodeErr xs ms n = 2 := by unfold nodeErr; rw [if_neg h, List.getElem?_eq_none h2]
theorem nodeErr_some {xs : List (List Int)} {ms : Int} {n : NC} {sz : List Int} (h : ¬ n.dim < 0) (h2 : xs[n.dim.toNat]? = some sz) : nodeErr xs ms n = if sz.length = 0 ∨ n.ls.length ≠ sz.length then 2 else
    if firstErr (listAt xs.length ms n.dim sz n.ls) n.ls.length 0 ≠ 0 then firstErr (listAt xs.length ms n.dim sz n.ls) n.ls.length 0 else
    if n.all.key ≠ 0 ∨ cellOk xs.length ms n.dim n.all = false then 2 else 0 := by unfold nodeErr; rw [if_neg h, h2]
theorem listAt_some {nd : Nat} {ms dim size : Int} {sz : List Int} {ls : List (List Cl)} {k : Nat} {l : List Cl} (h : ls[k]? = some l) (h2 : sz[k]? = some size) : listAt nd ms dim sz ls k = if listErr nd ms dim size l ≠ 0 then listErr nd ms dim size l else if 0 < k ∧ ((ls[k - 1]?).getD []).length < l.length then 14 else 0 := by unfold listAt; rw [h, h2]
set_option maxRecDepth 100000 in
set_option maxHeartbeats 1000000 in
theorem ncheck_any (s : Shp) (n : Nd) (w : World) (hs : s.rd w) (hn : n.rd w) :
    Calls Try.prog 34 #[.agg s.cs, .agg n.cs] w fun e w' => e = .returned (.int .i64 (nodeErr s.con s.ms n.con)) ∧ Bel w w' := by
  have HC := Lib.hid (fun w' (hb : Bel w w') => ncell_any s n.dim n.all w' (hs.mono hb) hn.dim hn.all)
  have HLI := Lib.hid (fun (size : Int) (x : Row Cl) w' (hb : Bel w w') (hz : I64 size) (hx : x.rd w') => nlist_any s n.dim size x w' (hs.mono hb) hn.dim hz hx)
  have H := Lib.hid (((SL.start No w).alloc s.cs 24).alloc n.cs 34)
  (try simp only [List.set_cons_zero, List.set_cons_succ, List.cons_append, List.nil_append, List.eraseIdx_cons_zero, List.eraseIdx_cons_succ, List.setIfInBounds_toArray, World.size_alloc, selR, List.getD_cons_zero, List.getD_cons_succ] at H)
  have HS := Lib.hid (fun w' (hb : Bel w w') => hs.sz.mono hb)
  have HN := Lib.hid (fun w' (hb : Bel w w') => hn.ls.mono hb)
  have s63 := hs.sz.n63
  have l63 := hn.ls.n63
  have hsl : s.sz.l.length = s.sz.n := hs.sz.len
  have hll : n.ls.l.length = n.ls.n := hn.ls.len
  have HSL := Lib.hid hsl
  have HLL := Lib.hid hll
  have d64 := hn.dim
  unfold I64 at d64
  have hcs : s.cs = #[.slice s.sz.A s.sz.n s.sz.c, .int .i64 s.ms] := rfl
  have HCS := Lib.hid hcs
  clear hcs hs hn
  obtain ⟨xs, hxs⟩ : ∃ xs, xs = s.con := ⟨_, rfl⟩
  have HXS := Lib.hid hxs
  obtain ⟨nls, hnls⟩ : ∃ l, l = n.ls.l.map Row.l := ⟨_, rfl⟩
  have HNLS := Lib.hid hnls
  have HXL : Hid (xs.length = s.sz.n) := by show _ = _; rw [hxs, List.length_map]; exact hsl
  have HNL : Hid (nls.length = n.ls.n) := by show _ = _; rw [hnls, List.length_map]; exact hll
  have HNE : Hid (∃ E, E = nodeErr s.con s.ms n.con) := ⟨_, rfl⟩
  obtain ⟨E, hE⟩ := HNE.out
  clear HNE hsl hll
  rw [← hE]
  rw [← hxs] at hE
  by_cases h1 : n.dim < 0
  · have HV : Hid (E = 2) := by show _ = _; rw [hE]; exact nodeErr_neg h1
    have d1 : decide (n.dim < 0) = true := by simpa using h1
    clear hE h1
    go_enter Try.func34, Try.ntmps34
    go_upto_region 1 with fail
    (try rw [← HCS.out] at *)
    generalize w.heap.size + 1 = y at *
    generalize w.heap.size = x at *
    generalize World.alloc (World.alloc _ _) _ = w1 at *
    have cd : w1.cell? ⟨y, 0, none⟩ = some (.int .i64 n.dim) := (H.out.blk 1 rfl).cell 0
    have cl : w1.cell? ⟨y, 1, none⟩ = some (.slice n.ls.A n.ls.n n.ls.c) := (H.out.blk 1 rfl).cell 1
    have cs : w1.cell? ⟨x, 0, none⟩ = some (.slice s.sz.A s.sz.n s.sz.c) := (H.out.blk 0 rfl).cell 0
    have f_cd := fun u : Over w1 => Over.cell cd u
    have f_cl := fun u : Over w1 => Over.cell cl u
    have f_cs := fun u : Over w1 => Over.cell cs u
    refine wp_region_over (by kernel_rfl) (by kernel_rfl) ?_
    (try simp only [Act.put, List.setIfInBounds_toArray, List.set_cons_zero, List.set_cons_succ])
    repeat (go_big_quiet_step (fail))
    refine wpQuiet_nil ?_
    rintro w5 ⟨⟨_, hw5⟩, rfl⟩
    (try dsimp only)
    replace H := Lib.hid (H.out.bel hw5); (try simp only [List.set_cons_zero, List.set_cons_succ, List.cons_append, List.nil_append, List.eraseIdx_cons_zero, List.eraseIdx_cons_succ, List.setIfInBounds_toArray, World.size_alloc, selR, List.getD_cons_zero, List.getD_cons_succ] at H)
    clear f_cd f_cl f_cs cd cl cs
    go_wp2_with fail
    go_ret
    (try rw [HV.out])
    exact ⟨rfl, H.out.to⟩
  have d1 : decide (n.dim < 0) = false := by simpa using h1
  by_cases h2 : (s.sz.n : Int) ≤ n.dim
  · have HV : Hid (E = 2) := by show _ = _; rw [hE]; exact nodeErr_none h1 (by show xs.length ≤ n.dim.toNat; rw [HXL.out]; omega)
    have d2 : decide ((s.sz.n : Int) ≤ n.dim) = true := by simpa using h2
    clear hE h1 h2
    go_enter Try.func34, Try.ntmps34
    go_upto_region 1 with fail
    (try rw [← HCS.out] at *)
    generalize w.heap.size + 1 = y at *
    generalize w.heap.size = x at *
    generalize World.alloc (World.alloc _ _) _ = w1 at *
    have cd : w1.cell? ⟨y, 0, none⟩ = some (.int .i64 n.dim) := (H.out.blk 1 rfl).cell 0
    have cl : w1.cell? ⟨y, 1, none⟩ = some (.slice n.ls.A n.ls.n n.ls.c) := (H.out.blk 1 rfl).cell 1
    have cs : w1.cell? ⟨x, 0, none⟩ = some (.slice s.sz.A s.sz.n s.sz.c) := (H.out.blk 0 rfl).cell 0
    have f_cd := fun u : Over w1 => Over.cell cd u
    have f_cl := fun u : Over w1 => Over.cell cl u
    have f_cs := fun u : Over w1 => Over.cell cs u
    refine wp_region_over (by kernel_rfl) (by kernel_rfl) ?_
    (try simp only [Act.put, List.setIfInBounds_toArray, List.set_cons_zero, List.set_cons_succ])
    repeat (go_big_quiet_step (fail))
    refine wpQuiet_nil ?_
    rintro w5 ⟨⟨_, hw5⟩, rfl⟩
    (try dsimp only)
    replace H := Lib.hid (H.out.bel hw5); (try simp only [List.set_cons_zero, List.set_cons_succ, List.cons_append, List.nil_append, List.eraseIdx_cons_zero, List.eraseIdx_cons_succ, List.setIfInBounds_toArray, World.size_alloc, selR, List.getD_cons_zero, List.getD_cons_succ] at H)
    clear f_cd f_cl f_cs cd cl cs
    go_wp2_with fail
    go_ret
    (try rw [HV.out])
    exact ⟨rfl, H.out.to⟩
  have d2 : decide ((s.sz.n : Int) ≤ n.dim) = false := by simp <;> omega
  obtain ⟨D, hD⟩ : ∃ D : Nat, n.dim = D := ⟨n.dim.toNat, by omega⟩
  have hDn : D < s.sz.n := by omega
  obtain ⟨bs, os, z, hAs, hzk, hzok, hzc⟩ := (HS.out w (Bel.refl _)).slAt (k := D) hDn
  have HZ := Lib.hid (fun w' (hb : Bel w w') => hzok.mono hb)
  have HZC := Lib.hid (fun w' (hb : Bel w w') => (hb.cell (p := ⟨bs, os + D, none⟩) (World.block_lt_of_cell? _ _ hzc)).trans hzc)
  have hxz : xs[n.con.dim.toNat]? = some z.l := by rw [show n.con.dim.toNat = D by show n.dim.toNat = D; omega, hxs]; show (s.sz.l.map Row.l)[D]? = _; rw [List.getElem?_map, hzk]; rfl
  rw [nodeErr_some (show ¬ n.con.dim < 0 from h1) hxz] at hE
  have hzl : z.l.length = z.n := hzok.len
  have z63 := hzok.size
  have i0 : (0 : Int) ≤ D := by omega
  have i1 : (D : Int) < s.sz.n := by omega
  obtain ⟨sz, hsz⟩ : ∃ sz, sz = z.l := ⟨_, rfl⟩
  have HSZ := Lib.hid hsz
  rw [← hsz] at hE
  have hszl : sz.length = z.n := by rw [hsz]; exact hzl
  replace hE : E = if sz.length = 0 ∨ nls.length ≠ sz.length then 2 else if firstErr (listAt xs.length s.ms n.dim sz nls) nls.length 0 ≠ 0 then firstErr (listAt xs.length s.ms n.dim sz nls) nls.length 0 else if n.all.key ≠ 0 ∨ cellOk xs.length s.ms n.dim n.all = false then 2 else 0 := by rw [hE, hnls]
  rw [hszl, HNL.out] at hE
  rw [hD] at d1 d2
  clear hxs hnls hsz hszl hzl
  have d2n : decide (s.sz.n ≤ D) = false := by simp <;> omega
  have d2m : (s.sz.n ≤ D) = False := by simp <;> omega
  clear hzk hzok hzc hxz h1 h2
  by_cases h3 : n.ls.n ≠ z.n
  · have HV : Hid (E = 2) := by show _ = _; rw [hE, if_pos (.inr h3)]
    have d3 : ((n.ls.n : Int) != z.n) = true := by simp; omega
    have d3n : (n.ls.n != z.n) = true := by simp; omega
    clear hE h3
    go_enter Try.func34, Try.ntmps34
    go_upto_region 1 with fail
    (try rw [← HCS.out] at *)
    generalize w.heap.size + 1 = y at *
    generalize w.heap.size = x at *
    generalize World.alloc (World.alloc _ _) _ = w1 at *
    have cd : w1.cell? ⟨y, 0, none⟩ = some (.int .i64 n.dim) := (H.out.blk 1 rfl).cell 0
    have cl : w1.cell? ⟨y, 1, none⟩ = some (.slice n.ls.A n.ls.n n.ls.c) := (H.out.blk 1 rfl).cell 1
    have cs : w1.cell? ⟨x, 0, none⟩ = some (.slice s.sz.A s.sz.n s.sz.c) := (H.out.blk 0 rfl).cell 0
    rw [hD] at cd
    rw [hAs] at cs
    have cy := HZC.out _ H.out.to
    have f_cd := fun u : Over w1 => Over.cell cd u
    have f_cl := fun u : Over w1 => Over.cell cl u
    have f_cs := fun u : Over w1 => Over.cell cs u
    have f_cy := fun u : Over w1 => Over.cell cy u
    refine wp_region_over (by kernel_rfl) (by kernel_rfl) ?_
    (try simp only [Act.put, List.setIfInBounds_toArray, List.set_cons_zero, List.set_cons_succ])
    repeat (go_big_quiet_step (fail))
    refine wpQuiet_nil ?_
    rintro w5 ⟨⟨_, hw5⟩, rfl⟩
    (try dsimp only)
    replace H := Lib.hid (H.out.bel hw5); (try simp only [List.set_cons_zero, List.set_cons_succ, List.cons_append, List.nil_append, List.eraseIdx_cons_zero, List.eraseIdx_cons_succ, List.setIfInBounds_toArray, World.size_alloc, selR, List.getD_cons_zero, List.getD_cons_succ] at H)
    clear f_cd f_cl f_cs f_cy cd cl cs cy
    go_wp2_with fail
    go_ret
    (try rw [HV.out])
    exact ⟨rfl, H.out.to⟩
  replace h3 : n.ls.n = z.n := Classical.not_not.1 h3
  by_cases h4 : z.n = 0
  · have HV : Hid (E = 2) := by show _ = _; rw [hE, if_pos (.inl h4)]
    rw [h4] at h3 HZC
    clear hE
    go_enter Try.func34, Try.ntmps34
    go_upto_region 1 with fail
    (try rw [← HCS.out] at *)
    generalize w.heap.size + 1 = y at *
    generalize w.heap.size = x at *
    generalize World.alloc (World.alloc _ _) _ = w1 at *
    have cd : w1.cell? ⟨y, 0, none⟩ = some (.int .i64 n.dim) := (H.out.blk 1 rfl).cell 0
    have cl : w1.cell? ⟨y, 1, none⟩ = some (.slice n.ls.A n.ls.n n.ls.c) := (H.out.blk 1 rfl).cell 1
    have cs : w1.cell? ⟨x, 0, none⟩ = some (.slice s.sz.A s.sz.n s.sz.c) := (H.out.blk 0 rfl).cell 0
    rw [hD] at cd
    rw [hAs] at cs
    rw [h3] at cl
    have cy := HZC.out _ H.out.to
    clear h3 h4
    have f_cd := fun u : Over w1 => Over.cell cd u
    have f_cl := fun u : Over w1 => Over.cell cl u
    have f_cs := fun u : Over w1 => Over.cell cs u
    have f_cy := fun u : Over w1 => Over.cell cy u
    refine wp_region_over (by kernel_rfl) (by kernel_rfl) ?_
    (try simp only [Act.put, List.setIfInBounds_toArray, List.set_cons_zero, List.set_cons_succ])
    repeat (go_big_quiet_step (fail))
    refine wpQuiet_nil ?_
    rintro w5 ⟨⟨_, hw5⟩, rfl⟩
    (try dsimp only)
    replace H := Lib.hid (H.out.bel hw5); (try simp only [List.set_cons_zero, List.set_cons_succ, List.cons_append, List.nil_append, List.eraseIdx_cons_zero, List.eraseIdx_cons_succ, List.setIfInBounds_toArray, World.size_alloc, selR, List.getD_cons_zero, List.getD_cons_succ] at H)
    clear f_cd f_cl f_cs f_cy cd cl cs cy
    go_wp2_with fail
    go_ret
    (try rw [HV.out])
    exact ⟨rfl, H.out.to⟩
  have HE : Hid (E = if firstErr (listAt xs.length s.ms n.dim sz nls) (n.ls.n - 0) 0 ≠ 0 then firstErr (listAt xs.length s.ms n.dim sz nls) (n.ls.n - 0) 0 else if n.all.key ≠ 0 ∨ cellOk xs.length s.ms n.dim n.all = false then 2 else 0) := by show _ = _; rw [hE, if_neg (by rintro (h | h); exact h4 h; exact h h3), Nat.sub_zero]
  have d3 : ((n.ls.n : Int) == 0) = false := by simp; omega
  have d3n : (n.ls.n == 0) = false := by simp; omega
  have d4 : ((z.n : Int) == 0) = false := by simp; omega
  have d5 : ((n.ls.n : Int) != n.ls.n) = false := by simp
  rw [← h3] at HZC
  have HZN : Hid (z.n = n.ls.n) := h3.symm
  clear hE h3 h4
  go_enter Try.func34, Try.ntmps34
  go_upto_region 1 with fail
  (try rw [← HCS.out] at *)
  generalize w.heap.size + 1 = y at *
  generalize w.heap.size = x at *
  generalize World.alloc (World.alloc _ _) _ = w1 at *
  have cd : w1.cell? ⟨y, 0, none⟩ = some (.int .i64 n.dim) := (H.out.blk 1 rfl).cell 0
  have cl : w1.cell? ⟨y, 1, none⟩ = some (.slice n.ls.A n.ls.n n.ls.c) := (H.out.blk 1 rfl).cell 1
  have cs : w1.cell? ⟨x, 0, none⟩ = some (.slice s.sz.A s.sz.n s.sz.c) := (H.out.blk 0 rfl).cell 0
  rw [hD] at cd
  rw [hAs] at cs
  have cy := HZC.out _ H.out.to
  have f_cd := fun u : Over w1 => Over.cell cd u
  have f_cl := fun u : Over w1 => Over.cell cl u
  have f_cs := fun u : Over w1 => Over.cell cs u
  have f_cy := fun u : Over w1 => Over.cell cy u
  refine wp_region_over (by kernel_rfl) (by kernel_rfl) ?_
  (try simp only [Act.put, List.setIfInBounds_toArray, List.set_cons_zero, List.set_cons_succ])
  repeat (go_big_quiet_step (fail))
  refine wpQuiet_nil ?_
  rintro w5 ⟨⟨_, hw5⟩, rfl⟩
  (try dsimp only)
  replace H := Lib.hid (H.out.bel hw5); (try simp only [List.set_cons_zero, List.set_cons_succ, List.cons_append, List.nil_append, List.eraseIdx_cons_zero, List.eraseIdx_cons_succ, List.setIfInBounds_toArray, World.size_alloc, selR, List.getD_cons_zero, List.getD_cons_succ] at H)
  clear f_cd f_cl f_cs f_cy cd cl cs cy
  clear d1 d2 d2n d2m d3 d3n d4 d5
  have cl : w5.cell? ⟨y, 1, none⟩ = some (.slice n.ls.A n.ls.n n.ls.c) := (H.out.blk 1 rfl).cell 1
  go_upto_region 4 with fail
  clear cl
  have HDD := Lib.hid hD
  clear hD
  go_loopg [41] n.ls.n (fun gg s41 wr => ∃ (k : Nat), gg = n.ls.n - k ∧ k ≤ n.ls.n ∧ s41 = .int .i64 k ∧ Hid (E = if firstErr (listAt xs.length s.ms n.dim sz nls) (n.ls.n - k) k ≠ 0 then firstErr (listAt xs.length s.ms n.dim sz nls) (n.ls.n - k) k else if n.all.key ≠ 0 ∨ cellOk xs.length s.ms n.dim n.all = false then 2 else 0) ∧ Hid (SL No w wr [rBlk x 24 s.cs, rBlk y 34 n.cs]))
  case atStart => exact ⟨0, rfl, by omega, rfl, HE, H⟩
  case round =>
    clear H HE
    obtain ⟨k, hgk, hk, rfl, HE, H⟩ := hrel
    have Hgk := Lib.hid hgk
    clear hgk
    have cd : wr.cell? ⟨y, 0, none⟩ = some (.int .i64 n.dim) := (H.out.blk 1 rfl).cell 0
    have cs : wr.cell? ⟨x, 0, none⟩ = some (.slice s.sz.A s.sz.n s.sz.c) := (H.out.blk 0 rfl).cell 0
    by_cases hlt : k < n.ls.n
    · obtain ⟨bl, ol, v, hAl, hvk, hvok, hvc⟩ := (HN.out _ H.out.to).clsAt (k := k) hlt
      obtain ⟨bz, oz, size, hAz, hzk, hz64, hzc⟩ := (HZ.out _ H.out.to).int (k := k) (by rw [HZN.out]; exact hlt)
      have hat := listAt_some (nd := xs.length) (ms := s.ms) (dim := n.dim) (ls := nls) (sz := sz) (k := k) (l := v.l) (size := size) (by rw [HNLS.out, List.getElem?_map, hvk]; rfl) (by rw [HSZ.out]; exact hzk)
      rw [HXL.out] at hat
      have HAT := Lib.hid hat
      have HL := Lib.hid (fun w' (hb : Bel wr w') => HLI.out size v w' (H.out.to.trans hb) hz64 (hvok.rds.mono hb))
      have HPV : Hid (0 < k → ∃ p : Row Cl, nls[k - 1]? = some p.l ∧ p.l.length = p.n ∧ p.n ≤ 1466015503700 ∧ ∀ w', Bel w w' → w'.cell? ⟨bl, ol + (k - 1), none⟩ = some (.slice p.A p.n p.c)) := fun h0 => by
        obtain ⟨p, hp⟩ : ∃ p, n.ls.l[k - 1]? = some p := ⟨_, List.getElem?_eq_getElem (by rw [HLL.out]; omega)⟩
        have hpo := (HN.out _ (Bel.refl w)).all p (List.mem_of_getElem? hp)
        refine ⟨p, by rw [HNLS.out, List.getElem?_map, hp]; rfl, hpo.len, rdCls hpo, fun w' hb => ?_⟩
        obtain ⟨b2, o2, p2, hA2, hp2, _, hr2⟩ := (HN.out w' hb).clsAt (k := k - 1) (by omega)
        rw [hp] at hp2
        injection hp2 with hp2
        subst hp2
        rw [hAl] at hA2
        injection hA2 with hA2
        injection hA2 with e1 e2
        subst e1 e2
        exact hr2
      have hvl : v.l.length = v.n := hvok.len
      have hvn := rdCls hvok
      have k0 : (0 : Int) ≤ k := by omega
      have k1 : (k : Int) < n.ls.n := by omega
      have k2 : (k : Int) < z.n := by rw [HZN.out]; exact k1
      have cl : wr.cell? ⟨y, 1, none⟩ = some (.slice n.ls.A n.ls.n n.ls.c) := (H.out.blk 1 rfl).cell 1
      rw [hAl] at cl
      rw [hAs] at cs
      have cy := HZC.out _ H.out.to
      rw [hAz] at cy
      rw [HDD.out] at cd
      have i0 : (0 : Int) ≤ D := by omega
      clear hat hvk hvok hzk hz64
      go_upto_region 6 with fail
      have f_cd := fun u : Over wr => Over.cell cd u
      have f_cs := fun u : Over wr => Over.cell cs u
      have f_cy := fun u : Over wr => Over.cell cy u
      have f_hzc := fun u : Over wr => Over.cell hzc u
      refine wp_region_over (by kernel_rfl) (by kernel_rfl) ?_
      (try simp only [Act.put, List.setIfInBounds_toArray, List.set_cons_zero, List.set_cons_succ])
      repeat (first
        | ((with_reducible show wpQuiet _ _ _ _ (⟨some 46, _, _, _, _, _⟩ :: _) _); refine wpQuiet_load_row (by first | rfl | go_simp) rowShp2 (.tmp 2) rfl _ (0) rfl _ rfl (H.out.blk 0 rfl).lt (H.out.blk 0 rfl).range ?_; simp only [Act.put, List.setIfInBounds_toArray, List.set_cons_zero, List.set_cons_succ])
        | ((with_reducible show wpQuiet _ _ _ _ (⟨some 59, _, _, _, _, _⟩ :: _) _); go_big_quiet_step ((go_at_call 66; rename_i u; rw [← HDD.out]; exact calls_over (HL.out _ u.bel))))
        | go_big_quiet_step (fail))
      refine wpQuiet_nil ?_
      rintro w5 ⟨⟨_, hw5⟩, rfl⟩
      (try dsimp only)
      replace H := Lib.hid (H.out.bel hw5); (try simp only [List.set_cons_zero, List.set_cons_succ, List.cons_append, List.nil_append, List.eraseIdx_cons_zero, List.eraseIdx_cons_succ, List.setIfInBounds_toArray, World.size_alloc, selR, List.getD_cons_zero, List.getD_cons_succ] at H)
      clear f_cd f_cs f_cy f_hzc cd cs cy hzc
      clear HL cl
      obtain ⟨LE, hLE⟩ : ∃ e, e = listErr s.sz.n s.ms n.dim size v.l := ⟨_, rfl⟩
      rw [← hLE] at HAT
      (try rw [← hLE])
      clear hLE
      by_cases he : LE = 0
      · subst he
        have z1 : ((0 : Int) != 0) = false := by simp
        have cl : w5.cell? ⟨y, 1, none⟩ = some (.slice (some ⟨bl, ol, none⟩) n.ls.n n.ls.c) := by have h := (H.out.blk 1 rfl).cell 1; rw [← hAl]; exact h
        by_cases hk0 : 0 < k
        · obtain ⟨p, hp, hpl, hpn, hpc⟩ := HPV.out hk0
          have cp := hpc w5 (H.out.to)
          rw [hp] at HAT
          simp only [Option.getD_some] at HAT
          have HAT1 : Hid (listAt s.sz.n s.ms n.dim sz nls k = if p.n < v.n then 14 else 0) := by show _ = _; rw [HAT.out, if_neg (by simp)]; simp [hk0, hpl, hvl]
          obtain ⟨j, rfl⟩ : ∃ j, k = j + 1 := ⟨k - 1, by omega⟩
          rw [show j + 1 - 1 = j from rfl] at cp
          have e2 : (((j + 1 : Nat) : Int)) - 1 = j := by omega
          have m0 : (0 : Int) ≤ j := by omega
          have m1 : (j : Int) < n.ls.n := by omega
          have e1 : decide ((0 : Int) < ((j + 1 : Nat) : Int)) = true := by simp <;> omega
          by_cases hlv : p.n < v.n
          · have HV : Hid (E = 14) := by show _ = _; rw [HE.out, HXL.out, firstErr_hit hlt (by rw [HAT1.out, if_pos hlv]) (by decide)]; rfl
            have d3 : decide ((p.n : Int) < v.n) = true := by simp; omega
            have d3n : decide (p.n < v.n) = true := by simp; omega
            clear hp hpc HPV HAT HAT1 HE hk0 hlv
            go_wp2_with fail
            go_ret
            (try rw [HV.out])
            exact ⟨rfl, H.out.to⟩
          · have HZ0 : Hid (listAt xs.length s.ms n.dim sz nls (j + 1) = 0) := by show _ = _; rw [HXL.out, HAT1.out, if_neg hlv]
            have d3 : decide ((p.n : Int) < v.n) = false := by simp; omega
            have d3n : decide (p.n < v.n) = false := by simp; omega
            clear hp hpc HPV HAT1 hk0 hlv
            have HE2 : Hid (E = if firstErr (listAt xs.length s.ms n.dim sz nls) (n.ls.n - (j + 1 + 1)) (j + 1 + 1) ≠ 0 then firstErr (listAt xs.length s.ms n.dim sz nls) (n.ls.n - (j + 1 + 1)) (j + 1 + 1) else if n.all.key ≠ 0 ∨ cellOk xs.length s.ms n.dim n.all = false then 2 else 0) := by show _ = _; rw [HE.out, firstErr_next hlt HZ0.out]
            clear HE HAT HZ0
            go_wp2_with fail
            go_roundg (n.ls.n - (j + 1 + 1))
            case rel => exact ⟨j + 1 + 1, rfl, by omega, by go_num, HE2, H⟩
            case measure => rw [Hgk.out]; omega
        · obtain rfl : k = 0 := by omega
          have HZ0 : Hid (listAt xs.length s.ms n.dim sz nls 0 = 0) := by show _ = _; rw [HXL.out, HAT.out, if_neg (by simp), if_neg (by simp)]
          clear HPV hk0
          have HE2 : Hid (E = if firstErr (listAt xs.length s.ms n.dim sz nls) (n.ls.n - (0 + 1)) (0 + 1) ≠ 0 then firstErr (listAt xs.length s.ms n.dim sz nls) (n.ls.n - (0 + 1)) (0 + 1) else if n.all.key ≠ 0 ∨ cellOk xs.length s.ms n.dim n.all = false then 2 else 0) := by show _ = _; rw [HE.out, firstErr_next hlt HZ0.out]
          clear HE HAT HZ0
          go_wp2_with fail
          go_roundg (n.ls.n - (0 + 1))
          case rel => exact ⟨0 + 1, rfl, by omega, by go_num, HE2, H⟩
          case measure => rw [Hgk.out]; omega
      · have HV : Hid (E = LE) := by show _ = _; rw [HE.out, HXL.out, firstErr_hit hlt (by rw [HAT.out, if_pos he]) he, if_pos he]
        have z1 : (LE != 0) = true := by simpa using he
        have z2 : (LE == 0) = false := by simpa using he
        clear HE HAT HPV he
        go_wp2_with fail
        go_ret
        (try rw [HV.out])
        exact ⟨rfl, H.out.to⟩
    · obtain rfl : k = n.ls.n := by omega
      have HE2 : Hid (E = if n.all.key ≠ 0 ∨ cellOk s.sz.n s.ms n.dim n.all = false then 2 else 0) := by show _ = _; rw [HE.out, Nat.sub_self, show firstErr (listAt xs.length s.ms n.dim sz nls) 0 n.ls.n = 0 from rfl, if_neg (by simp), HXL.out]
      have ck : wr.cell? ⟨y, 2, none⟩ = some (.int .i64 n.all.key) := (H.out.blk 1 rfl).cell 2
      have HAL : Hid (wr.rangeAt y 2 n.all.cs.toList) := fun j v hv => by
        have := (H.out.blk 1 rfl).range (j + 2) v (by rw [nd_all]; exact hv)
        rw [show 0 + (j + 2) = 2 + j by omega] at this
        exact this
      clear HE
      by_cases hk0 : n.all.key = 0
      · have z1 : (n.all.key != 0) = false := by simpa using hk0
        have HE3 : Hid (E = if cellOk s.sz.n s.ms n.dim n.all = false then 2 else 0) := by show _ = _; rw [HE2.out]; simp [hk0]
        clear HE2 hk0
        go_wp2_with (first | ((with_reducible show wpList _ _ _ (⟨some 83, _, _, _, _, _⟩ :: _) _ _); refine wpList_load_blkG (by first | rfl | go_simp) rowShp2 (.tmp 2) (by rfl) _ (by rfl) (H.out.blk 0 rfl) rfl ?_) | ((with_reducible show wpList _ _ _ (⟨some 87, _, _, _, _, _⟩ :: _) _ _); go_loud (refine wpList_load_rowG (by first | rfl | go_simp) rowCl (.tmp 86) (by rfl) y 2 (by rfl) n.all.cs rfl HAL.out ?_)))
        refine (HC.out _ H.out.to).mono ?_; rintro e w3 ⟨rfl, hb3⟩
        replace H := Lib.hid (H.out.bel hb3); (try simp only [List.set_cons_zero, List.set_cons_succ, List.cons_append, List.nil_append, List.eraseIdx_cons_zero, List.eraseIdx_cons_succ, List.setIfInBounds_toArray, World.size_alloc, selR, List.getD_cons_zero, List.getD_cons_succ] at H)
        clear hb3
        cases hck : cellOk s.sz.n s.ms n.dim n.all with
        | false =>
          have HV : Hid (E = 2) := by show _ = _; rw [HE3.out, if_pos hck]
          clear HE3 hck
          go_wp2_with fail
          go_ret
          (try rw [HV.out])
          exact ⟨rfl, H.out.to⟩
        | true =>
          have HV : Hid (E = 0) := by show _ = _; rw [HE3.out, if_neg (by rw [hck]; simp)]
          clear HE3 hck
          go_wp2_with fail
          go_ret
          (try rw [HV.out])
          exact ⟨rfl, H.out.to⟩
      · have z1 : (n.all.key != 0) = true := by simpa using hk0
        have HV : Hid (E = 2) := by show _ = _; rw [HE2.out, if_pos (.inl hk0)]
        clear HE2 hk0
        go_wp2_with fail
        go_ret
        (try rw [HV.out])
        exact ⟨rfl, H.out.to⟩

end Go.Proofs.Ytlclllkjnhgbjaa
