/- cellcode.body: a node read by a reader. -/
import Derived.Test.YtlclllkjnhgbjaaCelD
import Derived.Test.YtlclllkjnhgbjaaAreD
namespace Go.Proofs.Ytlclllkjnhgbjaa
open Go.RowKit
set_option linter.unusedVariables false
set_option linter.unusedSimpArgs false


theorem grown_trans1 {a w w' : World} {row : Option Nat} (h : a.grownBy w row) (k : w.grownBy w' row) : a.grownBy w' row :=
  ⟨k.os.trans h.os, k.tape.trans h.tape, k.output.trans h.output, Nat.le_trans h.size k.size, fun i hi hn => (k.block i (Nat.lt_of_lt_of_le hi h.size) hn).trans (h.block i hi hn)⟩
theorem wpList_build1N {ops : Array Oper} {rest : List Oper} {o : Oper} {a : Act} {w : World} {Q : Exit → Act → World → Prop} (hgd : o.guard = none) {t : TypeId} (x : Operand) {i : Nat} (ho : o.op = .build t #[(i, x)])
    {vx v : Value} (hx : a.eval x = vx) (hr : ∀ w : World, (Instr.build t #[(i, vx)]).run Try.prog w = .ok v w)
    (h : wpList Try.prog ops Q rest (a.put o.dst v) w) : wpList Try.prog ops Q (o :: rest) a w := by
  refine wpList_plain hgd fun K hK => ?_
  unfold Oper.wp execOp
  simp only [ho, List.map_toArray, List.map_cons, List.map_nil, hx, Sem.run_bind, hr, Result.andThen_ok, Sem.run_pure]
  exact hK _ _ h
theorem cl1_one (c : Cl) : ∀ u ∈ (c.cs.toList : List Value), u.oneCell' = true := fun u hu => Array.all_eq_true_iff_forall_mem.1 (cl_one c) u (by simpa using hu)
/-- How cellcode.body ends. -/
def NdPost (b : Nat) (s : List UInt8) (o : PR NC) (w : World) (e : Ending) (w' : World) : Prop :=
  match o with
  | .error k => RErr b s k w e w'
  | .ok (d, l) => ∃ D : Nd, e = .returned (.agg D.cs) ∧ D.con = d ∧ w.grownBy w' (some b) ∧ Rdr w' b s l ∧ NewR w w' (rNd D)
theorem plists_drop {nd : Nat} {ms d : Int} {zz : List Int} {k : Nat} {z : Int} {acc : List (List Cl)} {r : List UInt8} (h : zz[k]? = some z) :
    plists nd ms d (zz.drop k) acc r = pbind (pbind (pnum z r) fun n r => pcells nd ms d z n (-1) [] r) fun l r => plists nd ms d (zz.drop (k + 1)) (acc ++ [l]) r := by
  obtain ⟨hk, rfl⟩ := List.getElem?_eq_some_iff.1 h
  rw [List.drop_eq_getElem_cons hk]
  rfl
theorem plists_done {nd : Nat} {ms d : Int} {zz : List Int} {acc : List (List Cl)} {r : List UInt8} {k : Nat} (h : zz.length = k) : plists nd ms d (zz.drop k) acc r = .ok (acc, r) := by
  rw [List.drop_eq_nil_of_le (by omega)]
  rfl
theorem pcells_step {nd n k : Nat} {ms d z : Int} (h : k < n) (was : Int) (acc : List Cl) (r : List UInt8) :
    pcells nd ms d z (n - k) was acc r = pbind (pnum z r) fun g r => pbind (pcell nd ms d (keyAt was g) r) fun c r => pcells nd ms d z (n - (k + 1)) (keyAt was g) (acc ++ [c]) r := by
  obtain ⟨m, hm⟩ : ∃ m, n - k = m + 1 := ⟨n - k - 1, by omega⟩
  rw [hm, show n - (k + 1) = m by omega]
  rfl
theorem setAll_ndA (n : Nd) (c : Cl) : setAll n.cs 2 c.cs.toList = (Nd.mk n.dim n.ls c).cs := by
  simp [setAll]
theorem i64_wrap (x : Int) : I64 (wrap64 x) := by
  unfold I64 wrap64
  have h1 := Int.emod_nonneg (x + 9223372036854775808) (show (18446744073709551616 : Int) ≠ 0 by omega)
  have h2 := Int.emod_lt_of_pos (x + 9223372036854775808) (show (0 : Int) < 18446744073709551616 by omega)
  omega

set_option maxRecDepth 100000 in
set_option maxHeartbeats 4000000 in
theorem cbody_any (b : Nat) (s l : List UInt8) (sh : Shp) (w : World) (hR : Rdr w b s l) (hs : ∀ w', w.grownBy w' (some b) → sh.rd w') (h1 : 1 ≤ sh.sz.n) (hsm : SmallS sh) :
    Calls Try.prog 45 #[.pointer (some ⟨b, 0, none⟩), .agg sh.cs] w (NdPost b s (pbody sh.con sh.ms l) w) := by
  have HSH := Lib.hid hs
  have hlen := hR.len
  have hxl : sh.con.length = sh.sz.n := by show (sh.sz.l.map Row.l).length = _; rw [List.length_map]; exact (hs w (grown_of_bel (Bel.refl w) _)).sz.len
  have HXS : Hid (∀ (k : Nat) (z : Row Int), sh.sz.l[k]? = some z → sh.con[k]? = some z.l) := fun k z h => by show (sh.sz.l.map Row.l)[k]? = _; rw [List.getElem?_map, h]; rfl
  have HZ10 : Hid (∀ y ∈ sh.sz.l, y.n ≤ 10) := hsm.2
  have h20 := hsm.1
  have hbw := hR.lt
  have H := Lib.hid (((SL.rdr1 w hR).alloc sh.cs 24).alloc #[.int .i64 0, .slice none 0 0, .int .i64 0, .int .i64 0, .int .i64 0, .int .i64 0, .int .i64 0, .int .i64 0, .int .i64 0, .int .i64 0, .int .i64 0, .int .i64 0, .int .i64 0, .int .i64 0] 34)
  (try simp only [List.set_cons_zero, List.set_cons_succ, List.cons_append, List.nil_append, List.eraseIdx_cons_zero, List.eraseIdx_cons_succ, List.setIfInBounds_toArray, World.size_alloc, selR, List.getD_cons_zero, List.getD_cons_succ] at H)
  obtain ⟨R, hRR⟩ : ∃ R, R = pbody sh.con sh.ms l := ⟨_, rfl⟩
  have HP0 : Hid (R = pbind (pnum ((sh.sz.n : Int) - 1) l) fun d r => pafter sh.sz.n sh.ms (d : Nat) (plists sh.sz.n sh.ms (d : Nat) ((sh.con[d]?).getD []) [] r)) := by show _ = _; rw [hRR]; unfold pbody; rw [hxl]
  rw [← hRR]
  clear hRR hR hs hsm hxl
  have hcs : sh.cs = #[.slice sh.sz.A sh.sz.n sh.sz.c, .int .i64 sh.ms] := rfl
  have HCS := Lib.hid hcs
  clear hcs
  go_enter Try.func45, Try.ntmps45
  go_upto_region 1 with fail
  (try rw [← HCS.out] at *)
  generalize w.heap.size + 1 = y at *
  generalize w.heap.size = x at *
  generalize World.alloc (World.alloc _ _) _ = w1 at *
  have cs0 : w1.cell? ⟨x, 0, none⟩ = some (.slice sh.sz.A sh.sz.n sh.sz.c) := (H.out.blk 1 rfl).cell 0
  have wz : IntKind.i64.wrap ((sh.sz.n : Int) - 1) = (sh.sz.n : Int) - 1 := IntWalk.i64_in _ (by omega)
  have HT := Lib.hid (fun w (hr : Rdr w b s l) => num_any b s l ((sh.sz.n : Int) - 1) w hr (by omega) (by omega))
  go_wp2_with fail
  clear cs0 wz
  cases hx : pnum ((sh.sz.n : Int) - 1) l with
  | error e1 =>
    have HE : Hid (R = .error e1) := by show _ = _; rw [HP0.out, hx]; rfl
    rw [hx] at HT
    clear hx
    refine (HT.out _ (H.out.rdr 0 rfl)).mono ?_; rintro e w3 ⟨rfl, hg, l3, hr⟩
    replace H := Lib.hid (H.out.setRdr 0 rfl hg hr); (try simp only [List.set_cons_zero, List.set_cons_succ, List.cons_append, List.nil_append, List.eraseIdx_cons_zero, List.eraseIdx_cons_succ, List.setIfInBounds_toArray, World.size_alloc, selR, List.getD_cons_zero, List.getD_cons_succ] at H)
    clear hg hr
    go_wp2_with fail
    refine ⟨rfl, ?_⟩
    rw [HE.out]
    exact ⟨rfl, H.out.fr.grown, l3, H.out.rdr 0 rfl⟩
  | ok q =>
    obtain ⟨d, l0⟩ := q
    have hdn := (pnum_ok hx).2.1
    have hl0 := pnum_lt hx
    have HP1 : Hid (R = pafter sh.sz.n sh.ms (d : Nat) (plists sh.sz.n sh.ms (d : Nat) ((sh.con[d]?).getD []) [] l0)) := by show _ = _; rw [HP0.out, hx]; rfl
    rw [hx] at HT
    clear hx HP0
    refine (HT.out _ (H.out.rdr 0 rfl)).mono ?_; rintro e w2 ⟨rfl, hg, hr⟩
    replace H := Lib.hid (H.out.setRdr 0 rfl hg hr); (try simp only [List.set_cons_zero, List.set_cons_succ, List.cons_append, List.nil_append, List.eraseIdx_cons_zero, List.eraseIdx_cons_succ, List.setIfInBounds_toArray, World.size_alloc, selR, List.getD_cons_zero, List.getD_cons_succ] at H)
    clear hg hr HT
    have hdlt : d < sh.sz.n := by omega
    obtain ⟨bz, oz, Z, hZA, hZk, hZok, hZc⟩ := (HSH.out w2 H.out.fr.grown).sz.slAt (k := d) hdlt
    have hZ10 := HZ10.out Z (List.mem_of_getElem? hZk)
    have HZL : Hid (Z.l.length = Z.n) := hZok.len
    have HP2 : Hid (R = pafter sh.sz.n sh.ms (d : Nat) (plists sh.sz.n sh.ms (d : Nat) (Z.l.drop 0) (([] : List (Row Cl)).map Row.l) l0)) := by show _ = _; rw [HP1.out, HXS.out d Z hZk]; rfl
    have HZR : Hid (∀ w', w.grownBy w' (some b) → Z.rd w') := fun w' hw => by
      have := (HSH.out w' hw).sz.all Z (List.mem_of_getElem? hZk)
      exact Row.ok.rds this
    clear HP1 hZok
    have dz0 : (0 : Int) ≤ d := by omega
    have dz1 : (d : Int) < sh.sz.n := by omega
    have HD64 : I64 ((d : Nat) : Int) := by unfold I64; omega
    have hbd : ∀ w : World, (Instr.build 34 #[(0, .int .i64 (d : Nat))]).run Try.prog w = .ok (.agg (Nd.mk (d : Nat) ⟨none, 0, 0, []⟩ .nil).cs) w := fun _ => by kernel_rfl
    go_upto_region 2 with (first | ((with_reducible show wpList _ _ _ (⟨some 17, _, _, _, _, _⟩ :: _) _ _); refine wpList_build1N rfl (.tmp 16) rfl rfl hbd ?_) | ((with_reducible show wpList _ _ _ (⟨_, .store _ (.tmp 5) _, _, _, _, _⟩ :: _) _ _); (refine wpList_store_new rfl rowNd (.tmp 5) (.tmp 17) rfl rfl rfl ((Nd.mk (d : Nat) ⟨none, 0, 0, []⟩ .nil).cs) rfl rfl (nd_one _) ?_; replace H := Lib.hid (H.out.alloc ((Nd.mk (d : Nat) ⟨none, 0, 0, []⟩ .nil).cs) 34); (try simp only [List.set_cons_zero, List.set_cons_succ, List.cons_append, List.nil_append, List.eraseIdx_cons_zero, List.eraseIdx_cons_succ, List.setIfInBounds_toArray, World.size_alloc, selR, List.getD_cons_zero, List.getD_cons_succ] at H))))
    (try simp only [Act.put, List.setIfInBounds_toArray, List.set_cons_zero, List.set_cons_succ])
    have hbel := (Bel.refl w2).alloc (.cells (Nd.mk (d : Nat) ⟨none, 0, 0, []⟩ .nil).cs 34)
    have cz := (hbel.cell (p := ⟨bz, oz + d, none⟩) (World.block_lt_of_cell? _ _ hZc)).trans hZc
    generalize w2.heap.size = g at *
    generalize World.alloc w2 _ = w3 at *
    clear hbel hZc hbd
    replace H := Lib.hid (H.out.addNil 44 1); (try simp only [List.set_cons_zero, List.set_cons_succ, List.cons_append, List.nil_append, List.eraseIdx_cons_zero, List.eraseIdx_cons_succ, List.setIfInBounds_toArray, World.size_alloc, selR, List.getD_cons_zero, List.getD_cons_succ] at H)
    replace H := Lib.hid (H.out.add (Bel.refl _) (rListD rCs []) (holds_listD_nil _ _) listD_nil_D); (try simp only [List.set_cons_zero, List.set_cons_succ, List.cons_append, List.nil_append, List.eraseIdx_cons_zero, List.eraseIdx_cons_succ, List.setIfInBounds_toArray, World.size_alloc, selR, List.getD_cons_zero, List.getD_cons_succ] at H)
    have cs0 : w3.cell? ⟨x, 0, none⟩ = some (.slice sh.sz.A sh.sz.n sh.sz.c) := (H.out.blk 1 rfl).cell 0
    have cd : w3.cell? ⟨g, 0, none⟩ = some (.int .i64 (d : Nat)) := (H.out.blk 3 rfl).cell 0
    have HZA := Lib.hid hZA
    rw [hZA] at cs0
    clear hZA hZk
    go_wp2_with fail
    clear cs0 cd cz
    have HLB : Hid (∀ y ∈ ([] : List (Row Cl)), y.n ≤ 1000000 ∧ ∀ c ∈ y.l, c.ok) := fun y hy => by cases hy
    have hl0' : l0.length ≤ 1000000 := by omega
    have hd20 : d ≤ 20 := by omega
    clear hdn hl0 hlen
    clear dz0 dz1
    generalize ((d : Nat) : Int) = dz at H HP2 HD64 ⊢
    go_loopg [25] Z.n (fun gg s25 wr => ∃ (k : Nat) (L : List (Row Cl)) (B : Option Addr) (e : Nat) (l' : List UInt8), gg = Z.n - k ∧ k ≤ Z.n ∧ s25 = .int .i64 k ∧ Hid (L.length = k) ∧ l'.length ≤ 1000000 ∧ Hid (∀ y ∈ L, y.n ≤ 1000000 ∧ ∀ c ∈ y.l, c.ok) ∧ Hid (SL (One b) w wr [rRdr b s l', rBlk x 24 sh.cs, rBlk y 34 Nd.nil.cs, rBlk g 34 (Nd.mk dz ⟨B, k, e, L⟩ .nil).cs, rRow 44 1 (.slice B k e) k (L.map Row.v), rListD rCs L]) ∧ Hid (R = pafter sh.sz.n sh.ms dz (plists sh.sz.n sh.ms dz (Z.l.drop k) (L.map Row.l) l')))
    case atStart => exact ⟨0, [], none, 0, l0, rfl, by omega, rfl, rfl, hl0', HLB, H, HP2⟩
    case round =>
      clear H HP2 HLB hl0'
      obtain ⟨k, L, B, e, l', hgk, hk, rfl, HLk, hl', HLB, H, HP⟩ := hrel
      have Hgk := Lib.hid hgk
      clear hgk
      by_cases hlt : k < Z.n
      · obtain ⟨bq, oq, z, hAl, hzk, hz64, hzc⟩ := (HZR.out _ H.out.fr.grown).intAt (k := k) hlt
        have HPZ := Lib.hid (HP.out.trans (congrArg _ (plists_drop hzk)))
        have HT := Lib.hid (fun w (hr : Rdr w b s l') => num_any b s l' z w hr hz64.1 hz64.2)
        have HAL := Lib.hid hAl
        have k0 : (0 : Int) ≤ k := by omega
        have k1 : (k : Int) < Z.n := by omega
        rw [hAl]
        clear HP hzk hAl
        go_wp2_with fail
        clear hzc
        cases hx : pnum z l' with
        | error e1 =>
          have HE : Hid (R = .error e1) := by show _ = _; rw [HPZ.out, hx]; rfl
          rw [hx] at HT
          clear hx
          refine (HT.out _ (H.out.rdr 0 rfl)).mono ?_; rintro e w3 ⟨rfl, hg, l3, hr⟩
          replace H := Lib.hid (H.out.setRdr 0 rfl hg hr); (try simp only [List.set_cons_zero, List.set_cons_succ, List.cons_append, List.nil_append, List.eraseIdx_cons_zero, List.eraseIdx_cons_succ, List.setIfInBounds_toArray, World.size_alloc, selR, List.getD_cons_zero, List.getD_cons_succ] at H)
          clear hg hr
          go_wp2_with fail
          refine ⟨rfl, ?_⟩
          rw [HE.out]
          exact ⟨rfl, H.out.fr.grown, l3, H.out.rdr 0 rfl⟩
        | ok q =>
          obtain ⟨m, l2⟩ := q
          have hl2 := pnum_lt hx
          have hm1 := (pnum_ok hx).2.1
          have HP : Hid (R = pafter sh.sz.n sh.ms dz (pbind (pcells sh.sz.n sh.ms dz z (m - 0) (-1) [] l2) fun l r => plists sh.sz.n sh.ms dz (Z.l.drop (k + 1)) (L.map Row.l ++ [l]) r)) := by show _ = _; rw [HPZ.out, hx]; rfl
          rw [hx] at HT
          clear hx HPZ
          refine (HT.out _ (H.out.rdr 0 rfl)).mono ?_; rintro e' w2 ⟨rfl, hg, hr⟩
          replace H := Lib.hid (H.out.setRdr 0 rfl hg hr); (try simp only [List.set_cons_zero, List.set_cons_succ, List.cons_append, List.nil_append, List.eraseIdx_cons_zero, List.eraseIdx_cons_succ, List.setIfInBounds_toArray, World.size_alloc, selR, List.getD_cons_zero, List.getD_cons_succ] at H)
          clear hg hr HT
          replace H := Lib.hid (H.out.addNil 32 12); (try simp only [List.set_cons_zero, List.set_cons_succ, List.cons_append, List.nil_append, List.eraseIdx_cons_zero, List.eraseIdx_cons_succ, List.setIfInBounds_toArray, World.size_alloc, selR, List.getD_cons_zero, List.getD_cons_succ] at H)
          go_wp2_with fail
          have HO : Hid (∀ c ∈ ([] : List Cl), c.ok) := fun c hc => by cases hc
          have hw1 : I64 (-1) := by unfold I64; omega
          have hl2' : 0 + l2.length ≤ 1000000 := by omega
          obtain ⟨W0, hW0⟩ : ∃ W0, W0 = wr := ⟨_, rfl⟩
          subst hW0
          go_loopg [8, 9, 32] m (fun gg s8 s9 s32 wr => ∃ (j : Nat) (was : Int) (acc : List Cl) (A : Option Addr) (c : Nat) (lc : List UInt8), gg = m - j ∧ j ≤ m ∧ s8 = .slice A j c ∧ s9 = .int .i64 was ∧ s32 = .int .i64 j ∧ Hid (acc.length = j) ∧ j + lc.length ≤ 1000000 ∧ I64 was ∧ Hid (∀ c ∈ acc, c.ok) ∧ Hid (SL (One b) w wr [rRdr b s lc, rBlk x 24 sh.cs, rBlk y 34 Nd.nil.cs, rBlk g 34 (Nd.mk dz ⟨B, k, e, L⟩ .nil).cs, rRow 44 1 (.slice B k e) k (L.map Row.v), rListD rCs L, rRow 32 12 (.slice A j c) j (acc.flatMap Cel.cells)]) ∧ Hid (R = pafter sh.sz.n sh.ms dz (pbind (pcells sh.sz.n sh.ms dz z (m - j) was acc lc) fun l r => plists sh.sz.n sh.ms dz (Z.l.drop (k + 1)) (L.map Row.l ++ [l]) r)))
          case atStart => exact ⟨0, -1, [], none, 0, l2, rfl, by omega, rfl, rfl, rfl, rfl, hl2', hw1, HO, H, HP⟩
          case round =>
            clear H HP HO hw1 hl2' hl2
            obtain ⟨j, was, acc, A, c, lc, hgj, hj, rfl, rfl, rfl, HAC, hjl, hwas, HO, H, HP⟩ := hrel
            have Hgj := Lib.hid hgj
            clear hgj
            by_cases hjm : j < m
            · have HP2 := Lib.hid (HP.out.trans (congrArg (fun o => pafter sh.sz.n sh.ms dz (pbind o fun l r => plists sh.sz.n sh.ms dz (Z.l.drop (k + 1)) (L.map Row.l ++ [l]) r)) (pcells_step hjm was acc lc)))
              have HT := Lib.hid (fun w (hr : Rdr w b s lc) => num_any b s lc z w hr hz64.1 hz64.2)
              clear HP
              obtain ⟨u, hu⟩ : ∃ u, u = IntKind.i64.wrap (was + 1) := ⟨_, rfl⟩
              have wu : IntKind.i64.wrap (was + 1) = u := hu.symm
              replace hu := Lib.hid hu
              go_wp2_with fail
              cases hx : pnum z lc with
              | error e1 =>
                have HE : Hid (R = .error e1) := by show _ = _; rw [HP2.out, hx]; rfl
                rw [hx] at HT
                clear hx
                refine (HT.out _ (H.out.rdr 0 rfl)).mono ?_; rintro e w3 ⟨rfl, hg, l3, hr⟩
                replace H := Lib.hid (H.out.setRdr 0 rfl hg hr); (try simp only [List.set_cons_zero, List.set_cons_succ, List.cons_append, List.nil_append, List.eraseIdx_cons_zero, List.eraseIdx_cons_succ, List.setIfInBounds_toArray, World.size_alloc, selR, List.getD_cons_zero, List.getD_cons_succ] at H)
                clear hg hr
                go_wp2_with fail
                refine ⟨rfl, ?_⟩
                rw [HE.out]
                exact ⟨rfl, H.out.fr.grown, l3, H.out.rdr 0 rfl⟩
              | ok q =>
                obtain ⟨gp, lg⟩ := q
                rw [hx] at HT
                refine (HT.out _ (H.out.rdr 0 rfl)).mono ?_; rintro e' w4 ⟨rfl, hg, hr⟩
                replace H := Lib.hid (H.out.setRdr 0 rfl hg hr); (try simp only [List.set_cons_zero, List.set_cons_succ, List.cons_append, List.nil_append, List.eraseIdx_cons_zero, List.eraseIdx_cons_succ, List.setIfInBounds_toArray, World.size_alloc, selR, List.getD_cons_zero, List.getD_cons_succ] at H)
                clear hg hr HT
                obtain ⟨key, hkey⟩ : ∃ key, key = keyAt was ((gp : Nat) : Int) := ⟨_, rfl⟩
                have HK64 : I64 key := by rw [hkey]; exact i64_wrap _
                have wk2 : IntKind.i64.wrap (u + ((gp : Nat) : Int)) = key := by rw [hkey, hu.out]; unfold keyAt; rw [IntWalk.i64_left, IntWalk.i64_left]
                have HP3 : Hid (R = pafter sh.sz.n sh.ms dz (pbind (pbind (pcell sh.sz.n sh.ms dz key lg) fun c r => pcells sh.sz.n sh.ms dz z (m - (j + 1)) key (acc ++ [c]) r) fun l r => plists sh.sz.n sh.ms dz (Z.l.drop (k + 1)) (L.map Row.l ++ [l]) r)) := by show _ = _; rw [HP2.out, hx, hkey]; rfl
                have hlg := pnum_lt hx
                have HC := Lib.hid (fun w1 (hg : w.grownBy w1 (some b)) (hr : Rdr w1 b s lg) => cread_any b s lg sh dz key w1 hr (fun w' hg' => HSH.out w' (grown_trans1 hg hg')) HD64 HK64)
                clear hx HP2 hkey
                go_upto_region 10 with fail
                clear wk2 wu hu
                have cd : w4.cell? ⟨g, 0, none⟩ = some (.int .i64 dz) := (H.out.blk 3 rfl).cell 0
                go_wp2_with ((with_reducible show wpList _ _ _ (⟨some 42, _, _, _, _, _⟩ :: _) _ _); (refine wpList_load_blk rfl rowShp2 (.tmp 3) rfl _ rfl (H.out.blk 1 rfl) rfl ?_))
                clear cd
                cases hx : pcell sh.sz.n sh.ms dz key lg with
                | error e1 =>
                  have HE : Hid (R = .error e1) := by show _ = _; rw [HP3.out, hx]; rfl
                  rw [hx] at HC
                  clear hx
                  refine (HC.out _ H.out.fr.grown (H.out.rdr 0 rfl)).mono ?_; rintro e w3 ⟨rfl, hg, l3, hr⟩
                  replace H := Lib.hid (H.out.setRdr 0 rfl hg hr); (try simp only [List.set_cons_zero, List.set_cons_succ, List.cons_append, List.nil_append, List.eraseIdx_cons_zero, List.eraseIdx_cons_succ, List.setIfInBounds_toArray, World.size_alloc, selR, List.getD_cons_zero, List.getD_cons_succ] at H)
                  clear hg hr
                  go_wp2_with fail
                  refine ⟨rfl, ?_⟩
                  rw [HE.out]
                  exact ⟨rfl, H.out.fr.grown, l3, H.out.rdr 0 rfl⟩
                | ok q =>
                  obtain ⟨cc, lr⟩ := q
                  obtain ⟨co, clen, ckey⟩ := pcell_ok hx HK64
                  have HP4 : Hid (R = pafter sh.sz.n sh.ms dz (pbind (pcells sh.sz.n sh.ms dz z (m - (j + 1)) key (acc ++ [cc]) lr) fun l r => plists sh.sz.n sh.ms dz (Z.l.drop (k + 1)) (L.map Row.l ++ [l]) r)) := by show _ = _; rw [HP3.out, hx]; rfl
                  rw [hx] at HC
                  clear hx HP3 ckey
                  refine (HC.out _ H.out.fr.grown (H.out.rdr 0 rfl)).mono ?_; rintro e' w5 ⟨rfl, hg, hr⟩
                  replace H := Lib.hid (H.out.setRdr 0 rfl hg hr); (try simp only [List.set_cons_zero, List.set_cons_succ, List.cons_append, List.nil_append, List.eraseIdx_cons_zero, List.eraseIdx_cons_succ, List.setIfInBounds_toArray, World.size_alloc, selR, List.getD_cons_zero, List.getD_cons_succ] at H)
                  clear hg hr HC
                  have HO2 : Hid (∀ c ∈ acc ++ [cc], c.ok) := fun c hc => by
                    rcases List.mem_append.1 hc with h | h
                    · exact HO.out c h
                    · rw [List.mem_singleton] at h; subst h; exact co
                  clear HO co
                  go_wp2_with (first | ((with_reducible show wpList _ _ _ (⟨some 47, _, _, _, _, _⟩ :: _) _ _); (refine wpList_buildSlice1 rfl E_cl (.tmp 46) rfl (cc.cs) rfl rfl (by omega) ?_; replace H := Lib.hid (H.out.addRow ((Bel.refl _).alloc _) (own_made _ 32 (cc.cs) _ rfl)); (try simp only [List.set_cons_zero, List.set_cons_succ, List.cons_append, List.nil_append, List.eraseIdx_cons_zero, List.eraseIdx_cons_succ, List.setIfInBounds_toArray, World.size_alloc, selR, List.getD_cons_zero, List.getD_cons_succ] at H))) | ((with_reducible show wpList _ _ _ (⟨some 48, _, _, _, _, _⟩ :: _) _ _); (refine wpList_append0 rfl (.tmp 40) (.tmp 47) _ rfl E_cl 0 (Nat.zero_le _) _ j _ rfl (H.out.row 6 rfl) _ 1 1 _ rfl (Rd.of_own (H.out.row 7 rfl)) (cl1_one cc) (by unfold maxLen; omega) (by omega) ?_; intro vq wq howq hgq hatq; replace H := Lib.hid (H.out.setRow 6 rfl hgq howq hatq); (try simp only [List.set_cons_zero, List.set_cons_succ, List.cons_append, List.nil_append, List.eraseIdx_cons_zero, List.eraseIdx_cons_succ, List.setIfInBounds_toArray, World.size_alloc, selR, List.getD_cons_zero, List.getD_cons_succ] at H); clear howq hgq hatq; obtain ⟨A2, c2, rfl, _⟩ := own_slice (H.out.row 6 rfl))))
                  replace H := Lib.hid (H.out.sel [0, 1, 2, 3, 4, 5, 6] (by decide) (by simp)); (try simp only [List.set_cons_zero, List.set_cons_succ, List.cons_append, List.nil_append, List.eraseIdx_cons_zero, List.eraseIdx_cons_succ, List.setIfInBounds_toArray, World.size_alloc, selR, List.getD_cons_zero, List.getD_cons_succ] at H)
                  go_wp2_with fail
                  go_roundg (m - (j + 1))
                  case rel => exact ⟨j + 1, key, acc ++ [cc], A2, c2, lr, rfl, by omega, rfl, rfl, by go_num, by show _ = _; rw [List.length_append, HAC.out]; rfl, by omega, HK64, HO2, by rw [List.flatMap_append, List.flatMap_cons, List.flatMap_nil, List.append_nil]; exact H, HP4⟩
                  case measure => rw [Hgj.out]; omega
            · obtain rfl : j = m := by omega
              have HP5 : Hid (R = pafter sh.sz.n sh.ms dz (plists sh.sz.n sh.ms dz (Z.l.drop (k + 1)) (L.map Row.l ++ [acc]) lc)) := by show _ = _; rw [HP.out, Nat.sub_self]; rfl
              clear HP
              have c1 := (H.out.blk 3 rfl).cell 1; simp only [List.getElem?_toArray, List.getElem?_cons_zero, List.getElem?_cons_succ] at c1
              go_wp2_with ((with_reducible show wpList _ _ _ (⟨some 55, _, _, _, _, _⟩ :: _) _ _); (replace H := Lib.hid (H.out.alloc #[.slice A j c] 44); (try simp only [List.set_cons_zero, List.set_cons_succ, List.cons_append, List.nil_append, List.eraseIdx_cons_zero, List.eraseIdx_cons_succ, List.setIfInBounds_toArray, World.size_alloc, selR, List.getD_cons_zero, List.getD_cons_succ] at H); refine wpList_append0 rfl (.tmp 52) (.tmp 54) _ rfl E_cls 0 (Nat.zero_le _) _ k _ rfl (H.out.row 4 rfl) _ 1 1 [.slice A j c] rfl (reads_of_block (H.out.blk 7 rfl) rfl) (by simp [Value.oneCell']) (by unfold maxLen; omega) (by omega) ?_; intro vq wq howq hgq hatq; replace H := Lib.hid (H.out.setRow 4 rfl hgq howq hatq); (try simp only [List.set_cons_zero, List.set_cons_succ, List.cons_append, List.nil_append, List.eraseIdx_cons_zero, List.eraseIdx_cons_succ, List.setIfInBounds_toArray, World.size_alloc, selR, List.getD_cons_zero, List.getD_cons_succ] at H); clear howq hgq hatq; obtain ⟨B2, e2, rfl, _⟩ := own_slice (H.out.row 4 rfl); clear c1; have c1 := (H.out.blk 3 rfl).cell 1; simp only [List.getElem?_toArray, List.getElem?_cons_zero, List.getElem?_cons_succ] at c1; have f1 := (H.out.blk 3 rfl).frozen 1))
              replace H := Lib.hid (H.out.setCell 3 rfl 1 (.slice B2 (k + 1) e2)); (try simp only [List.set_cons_zero, List.set_cons_succ, List.cons_append, List.nil_append, List.eraseIdx_cons_zero, List.eraseIdx_cons_succ, List.setIfInBounds_toArray, World.size_alloc, selR, List.getD_cons_zero, List.getD_cons_succ] at H)
              clear c1 f1
              replace H := Lib.hid (H.out.snocD 5 6 (a := ⟨A, j, c, acc⟩) (by omega) rfl rfl); (try simp only [List.set_cons_zero, List.set_cons_succ, List.cons_append, List.nil_append, List.eraseIdx_cons_zero, List.eraseIdx_cons_succ, List.setIfInBounds_toArray, World.size_alloc, selR, List.getD_cons_zero, List.getD_cons_succ] at H)
              replace H := Lib.hid (H.out.sel [0, 1, 2, 3, 4, 5] (by decide) (by simp)); (try simp only [List.set_cons_zero, List.set_cons_succ, List.cons_append, List.nil_append, List.eraseIdx_cons_zero, List.eraseIdx_cons_succ, List.setIfInBounds_toArray, World.size_alloc, selR, List.getD_cons_zero, List.getD_cons_succ] at H)
              have HLB2 : Hid (∀ y ∈ L ++ [Row.mk A j c acc], y.n ≤ 1000000 ∧ ∀ c ∈ y.l, c.ok) := fun y hy => by
                rcases List.mem_append.1 hy with h | h
                · exact HLB.out y h
                · rw [List.mem_singleton] at h; subst h; exact ⟨by show j ≤ _; omega, HO.out⟩
              clear HO HLB
              rw [← HAL.out]
              go_roundg (Z.n - (k + 1))
              case rel => exact ⟨k + 1, L ++ [Row.mk A j c acc], B2, e2, lc, rfl, by omega, by go_num, by show _ = _; rw [List.length_append, HLk.out]; rfl, by omega, HLB2, by rw [List.map_append]; exact H, by rw [List.map_append]; exact HP5⟩
              case measure => rw [Hgk.out]; omega
      · obtain rfl : k = Z.n := by omega
        have HP2 : Hid (R = pbind2 (pcell sh.sz.n sh.ms dz 0 l') fun c => ⟨dz, L.map Row.l, c⟩) := by show _ = _; rw [HP.out, plists_done HZL.out]; rfl
        clear HP
        have HT := Lib.hid (fun w1 (hg : w.grownBy w1 (some b)) (hr : Rdr w1 b s l') => cread_any b s l' sh dz 0 w1 hr (fun w' hg' => HSH.out w' (grown_trans1 hg hg')) HD64 z_i64)
        have cd : wr.cell? ⟨g, 0, none⟩ = some (.int .i64 dz) := (H.out.blk 3 rfl).cell 0
        go_wp2_with ((with_reducible show wpList _ _ _ (⟨some 59, _, _, _, _, _⟩ :: _) _ _); (refine wpList_load_blk rfl rowShp2 (.tmp 3) rfl _ rfl (H.out.blk 1 rfl) rfl ?_))
        clear cd
        cases hx : pcell sh.sz.n sh.ms dz 0 l' with
        | error e1 =>
          have HE : Hid (R = .error e1) := by show _ = _; rw [HP2.out, hx]; rfl
          rw [hx] at HT
          clear hx
          refine (HT.out _ H.out.fr.grown (H.out.rdr 0 rfl)).mono ?_; rintro e w3 ⟨rfl, hg, l3, hr⟩
          replace H := Lib.hid (H.out.setRdr 0 rfl hg hr); (try simp only [List.set_cons_zero, List.set_cons_succ, List.cons_append, List.nil_append, List.eraseIdx_cons_zero, List.eraseIdx_cons_succ, List.setIfInBounds_toArray, World.size_alloc, selR, List.getD_cons_zero, List.getD_cons_succ] at H)
          clear hg hr
          go_wp2_with fail
          refine ⟨rfl, ?_⟩
          rw [HE.out]
          exact ⟨rfl, H.out.fr.grown, l3, H.out.rdr 0 rfl⟩
        | ok q =>
          obtain ⟨cc, lr⟩ := q
          obtain ⟨co, _, _⟩ := pcell_ok hx z_i64
          have HN : Hid (R = .ok (⟨dz, L.map Row.l, cc⟩, lr)) := by show _ = _; rw [HP2.out, hx]; rfl
          rw [hx] at HT
          clear hx HP2
          refine (HT.out _ H.out.fr.grown (H.out.rdr 0 rfl)).mono ?_; rintro e' w5 ⟨rfl, hg, hr⟩
          replace H := Lib.hid (H.out.setRdr 0 rfl hg hr); (try simp only [List.set_cons_zero, List.set_cons_succ, List.cons_append, List.nil_append, List.eraseIdx_cons_zero, List.eraseIdx_cons_succ, List.setIfInBounds_toArray, World.size_alloc, selR, List.getD_cons_zero, List.getD_cons_succ] at H)
          clear hg hr HT
          go_upto_region 16 with ((with_reducible show wpList _ _ _ (⟨_, .store _ (.tmp 63) _, _, _, _, _⟩ :: _) _ _); refine wpList_store_at rfl rowCl (.tmp 63) (.tmp 62) rfl g 2 rfl (H.out.blk 3 rfl) cc.cs rfl (by simp) rfl (cl_one cc) ?_; intro wq bq hgq; replace bq : Blk wq g 34 (Nd.mk dz ⟨B, Z.n, e, L⟩ cc).cs := (by rw [← setAll_ndA (Nd.mk dz ⟨B, Z.n, e, L⟩ .nil) cc]; exact bq); replace H := Lib.hid (H.out.setBlk 3 rfl hgq bq); (try simp only [List.set_cons_zero, List.set_cons_succ, List.cons_append, List.nil_append, List.eraseIdx_cons_zero, List.eraseIdx_cons_succ, List.setIfInBounds_toArray, World.size_alloc, selR, List.getD_cons_zero, List.getD_cons_succ] at H); clear hgq bq)
          obtain ⟨D, hD⟩ : ∃ D : Nd, D = (Nd.mk dz ⟨B, Z.n, e, L⟩ cc) := ⟨_, rfl⟩
          replace H := Lib.hid (H.out.mkNd 4 5 (n := (Nd.mk dz ⟨B, Z.n, e, L⟩ cc)) (by omega) rfl rfl ⟨HD64, co⟩ HLB.out (by show Z.n ≤ _; omega)); (try simp only [List.set_cons_zero, List.set_cons_succ, List.cons_append, List.nil_append, List.eraseIdx_cons_zero, List.eraseIdx_cons_succ, List.setIfInBounds_toArray, World.size_alloc, selR, List.getD_cons_zero, List.getD_cons_succ] at H)
          rw [← hD] at H
          have HN2 : Hid (R = .ok (D.con, lr)) := by show _ = _; rw [HN.out, hD]
          clear hD HN
          go_wp2_with (first | ((with_reducible show wpList _ _ _ (⟨some 64, _, _, _, _, _⟩ :: _) _ _); (refine wpList_load_blk rfl rowNd (.tmp 5) rfl _ rfl (H.out.blk 3 rfl) rfl ?_)) | ((with_reducible show wpList _ _ _ (⟨_, .store _ (.tmp 4) _, _, _, _, _⟩ :: _) _ _); (refine wpList_store_blk rfl rowNd (.tmp 4) (.tmp 64) rfl _ rfl (H.out.blk 2 rfl) rfl (D.cs) rfl rfl (nd_one D) ?_; intro wq bq hgq; replace H := Lib.hid (H.out.setBlk 2 rfl hgq bq); (try simp only [List.set_cons_zero, List.set_cons_succ, List.cons_append, List.nil_append, List.eraseIdx_cons_zero, List.eraseIdx_cons_succ, List.setIfInBounds_toArray, World.size_alloc, selR, List.getD_cons_zero, List.getD_cons_succ] at H); clear hgq bq)))
          refine bodyPost_ret (results_blk1 rfl rowNd rfl (H.out.blk 2 rfl) rfl) rfl ?_
          rw [HN2.out]
          exact ⟨D, rfl, rfl, H.out.fr.grown, H.out.rdr 0 rfl, H.out.get 4 rfl, H.out.new1 4 0 (by omega) rfl rfl rfl⟩

end Go.Proofs.Ytlclllkjnhgbjaa
