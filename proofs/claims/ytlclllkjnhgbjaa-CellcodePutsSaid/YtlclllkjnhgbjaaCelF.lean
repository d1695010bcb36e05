/- cellcode.Take. -/
import Derived.Test.YtlclllkjnhgbjaaCelE
import Derived.Test.YtlclllkjnhgbjaaAreF
import Derived.Test.YtlclllkjnhgbjaaNodC
namespace Go.Proofs.Ytlclllkjnhgbjaa
open Go.RowKit
set_option linter.unusedVariables false
set_option linter.unusedSimpArgs false


theorem wpList_build0N {ops : Array Oper} {rest : List Oper} {o : Oper} {a : Act} {w : World} {Q : Exit → Act → World → Prop} (hgd : o.guard = none) {t : TypeId} (ho : o.op = .build t #[])
    {v : Value} (hr : ∀ w : World, (Instr.build t #[]).run Try.prog w = .ok v w)
    (h : wpList Try.prog ops Q rest (a.put o.dst v) w) : wpList Try.prog ops Q (o :: rest) a w := by
  refine wpList_plain hgd fun K hK => ?_
  unfold Oper.wp execOp
  simp only [ho, List.map_toArray, List.map_nil, Sem.run_bind, hr, Result.andThen_ok, Sem.run_pure]
  exact hK _ _ h
theorem holds_ndnil (w : World) : (rNd .nil).holds w := by
  have h1 := holds_row (World.ownsRow_nil w 0 44 1)
  have h2 := holds_listD_nil rCs w
  refine ⟨fun g hg => hg.elim (h1.1 g) (h2.1 g), fun w' hs hk => ⟨⟨h1.keep hs fun g hg => hk g (.inl hg), h2.keep hs fun g hg => hk g (.inr hg)⟩, ⟨z_i64, ⟨z_i64, z_i64, ag_zero_ok⟩⟩, fun y hy => by (simp at hy), by show (0 : Nat) ≤ _; omega⟩⟩
theorem ndnil_new {m : Nat} : ∀ g, (rNd .nil).D g → m ≤ g := by
  rintro g (h | ⟨T, hT, _⟩)
  · simp [Value.ownBlock] at h
  · cases hT
/-- The node read, and the reader. -/
def Rcel (w0 : World) (s : List UInt8) (B g z y : Nat) (sh : Shp) (o : PR NC) (k : Int) (w' : World) : Prop :=
  k = endErr o ∧ ∃ (D : Nd) (q : List UInt8), SL No w0 w' (rAll B s q [rBlk g 34 D.cs, rNd D, rBlk z 24 sh.cs, rBlk y 34 Nd.nil.cs]) ∧ ∀ d r, o = .ok (d, r) → D.con = d
set_option maxRecDepth 100000 in
set_option maxHeartbeats 2000000 in
theorem celtake1_any (w0 : World) (B g z y : Nat) (s : List UInt8) (sh : Shp) (w : World) (hs : sh.rd w0) (h1 : 1 ≤ sh.sz.n) (hsm : SmallS sh)
    (h : SL No w0 w (rAll B s s [rBlk g 34 Nd.nil.cs, rNd .nil, rBlk z 24 sh.cs, rBlk y 34 Nd.nil.cs])) :
    Calls Try.prog 44 #[.pointer (some ⟨B + 1, 0, none⟩), .pointer (some ⟨z, 0, none⟩), .pointer (some ⟨g, 0, none⟩)] w (AllPost B s (Rcel w0 s B g z y sh (pbody sh.con sh.ms s))) := by
  have hB : w0.heap.size ≤ B + 1 := (h.own 0 _ rfl (B + 1) rfl).elim (fun h => h) (fun h => h.elim)
  have HT := Lib.hid (cbody_any (B + 1) s s sh w (h.rdr 0 rfl) (fun w' hg => hs.mono ⟨hg.os.trans h.fr.os, hg.tape.trans h.fr.tape, hg.output.trans h.fr.output, Nat.le_trans h.fr.size hg.size, fun g hgl => (hg.block g (Nat.lt_of_lt_of_le hgl h.fr.size) (by intro e; injection e with e; omega)).trans (h.fr.block g hgl (fun h => h))⟩) h1 hsm)
  have H : Hid (SL No w0 w [rRdr (B + 1) s s, rBlk B 39 #[.int .i64 0], rBlk (B + 2) 88 #[.pointer (some ⟨B + 1, 0, none⟩)], rBlk g 34 Nd.nil.cs, rNd .nil, rBlk z 24 sh.cs, rBlk y 34 Nd.nil.cs]) := h
  clear h hs hB
  go_enter Try.func44, Try.ntmps44
  go_wp2_with ((with_reducible show wpList _ _ _ (⟨some 5, _, _, _, _, _⟩ :: _) _ _); (refine wpList_load_blk rfl rowShp2 (.tmp 1) rfl _ rfl (H.out.blk 5 rfl) rfl ?_))
  cases ho : pbody sh.con sh.ms s with
  | error k =>
    have Ho := Lib.hid ho
    rw [ho] at HT
    refine HT.out.mono ?_; rintro e w1 ⟨rfl, hg, l1, hr⟩
    replace H := Lib.hid (H.out.setRdr 0 rfl hg hr); (try simp only [List.set_cons_zero, List.set_cons_succ, List.cons_append, List.nil_append, List.eraseIdx_cons_zero, List.eraseIdx_cons_succ, List.setIfInBounds_toArray, World.size_alloc, selR, List.getD_cons_zero, List.getD_cons_succ] at H)
    clear ho hg hr
    go_wp2_with fail
    refine ⟨rfl, ?_⟩
    have H1 : SL No w0 w1 (rAll B s l1 [rBlk g 34 Nd.nil.cs, rNd .nil, rBlk z 24 sh.cs, rBlk y 34 Nd.nil.cs]) := H.out
    exact SL.err H1 ⟨rfl, .nil, l1, H1, fun _ _ h => by cases h⟩
  | ok q =>
    obtain ⟨d, l1⟩ := q
    have Ho := Lib.hid ho
    rw [ho] at HT
    refine HT.out.mono ?_; rintro e w1 ⟨D, rfl, hDc, hg, hr, hnew⟩
    have HDc := Lib.hid hDc
    replace H := Lib.hid (H.out.setRdrAdd 0 rfl hg hr (rNd D) hnew.1 hnew.2); (try simp only [List.set_cons_zero, List.set_cons_succ, List.cons_append, List.nil_append, List.eraseIdx_cons_zero, List.eraseIdx_cons_succ, List.setIfInBounds_toArray, World.size_alloc, selR, List.getD_cons_zero, List.getD_cons_succ] at H)
    clear ho hg hr hDc hnew HT
    go_wp2_with ((with_reducible show wpList _ _ _ (⟨_, .store _ (.tmp 2) _, _, _, _, _⟩ :: _) _ _); (refine wpList_store_blk rfl rowNd (.tmp 2) (.tmp 6) rfl _ rfl (H.out.blk 3 rfl) rfl (D.cs) rfl rfl (nd_one D) ?_; intro wq bq hgq; replace H := Lib.hid (H.out.setBlk 3 rfl hgq bq); (try simp only [List.set_cons_zero, List.set_cons_succ, List.cons_append, List.nil_append, List.eraseIdx_cons_zero, List.eraseIdx_cons_succ, List.setIfInBounds_toArray, World.size_alloc, selR, List.getD_cons_zero, List.getD_cons_succ] at H); clear hgq bq))
    go_end0
    replace H := Lib.hid (H.out.sel [0, 1, 2, 3, 7, 5, 6] (by decide) (by simp)); (try simp only [List.set_cons_zero, List.set_cons_succ, List.cons_append, List.nil_append, List.eraseIdx_cons_zero, List.eraseIdx_cons_succ, List.setIfInBounds_toArray, World.size_alloc, selR, List.getD_cons_zero, List.getD_cons_succ] at H)
    have H1 : SL No w0 _ (rAll B s l1 [rBlk g 34 D.cs, rNd D, rBlk z 24 sh.cs, rBlk y 34 Nd.nil.cs]) := H.out
    exact SL.ok H1 ⟨by rw [Ho.out]; rfl, D, l1, H1, fun d' r' h => by rw [Ho.out] at h; injection h with h; injection h with h _; exact HDc.out.trans h⟩

/-- What Take answers. -/
def Tkcel (o : Option (NC × Nat)) (w : World) (e : Ending) (w' : World) : Prop := ∃ D : Nd, e = .returned (.tuple #[.agg D.cs, .int .i64 (szN (o.map Prod.snd)), .int .i64 (szErr (o.map Prod.snd))]) ∧ D.con = ((o.map Prod.fst).getD .nil) ∧ Bel w w' ∧ NewR w w' (rNd D)

theorem pcells_err {nd : Nat} {ms d z : Int} : ∀ (n : Nat) (was : Int) (acc : List Cl) (r : List UInt8) (k : Int), pcells nd ms d z n was acc r = .error k → k ≠ 0
  | 0, was, acc, r, k, h => by cases h
  | n + 1, was, acc, r, k, h => by
    rw [pcells] at h
    cases h1 : pnum z r with
    | error e => rw [h1, pbind_err] at h; injection h with h; have := pnum_err h1; omega
    | ok q =>
      obtain ⟨g, r1⟩ := q
      rw [h1, pbind_ok] at h
      cases h2 : pcell nd ms d (keyAt was g) r1 with
      | error e => rw [h2, pbind_err] at h; injection h with h; have := pcell_err h2; omega
      | ok q =>
        obtain ⟨c, r2⟩ := q
        rw [h2, pbind_ok] at h
        exact pcells_err n _ _ _ k h
theorem plists_err {nd : Nat} {ms d : Int} : ∀ (zs : List Int) (acc : List (List Cl)) (r : List UInt8) (k : Int), plists nd ms d zs acc r = .error k → k ≠ 0
  | [], acc, r, k, h => by cases h
  | z :: zs, acc, r, k, h => by
    rw [plists] at h
    cases h1 : plist nd ms d z r with
    | error e =>
      rw [h1, pbind_err] at h
      injection h with h
      subst h
      unfold plist at h1
      cases h2 : pnum z r with
      | error e => rw [h2, pbind_err] at h1; injection h1 with h1; have := pnum_err h2; omega
      | ok q =>
        obtain ⟨n, r2⟩ := q
        rw [h2, pbind_ok] at h1
        exact pcells_err n _ _ _ _ h1
    | ok q =>
      obtain ⟨l, r2⟩ := q
      rw [h1, pbind_ok] at h
      exact plists_err zs _ _ k h
theorem pbody_err {xs : List (List Int)} {ms k : Int} {s : List UInt8} (h : pbody xs ms s = .error k) : k ≠ 0 := by
  unfold pbody at h
  cases h1 : pnum ((xs.length : Int) - 1) s with
  | error e => rw [h1, pbind_err] at h; injection h with h; have := pnum_err h1; omega
  | ok q =>
    obtain ⟨d, r⟩ := q
    rw [h1, pbind_ok] at h
    unfold pafter at h
    cases h2 : plists xs.length ms (d : Nat) ((xs[d]?).getD []) [] r with
    | error e => rw [h2, pbind_err] at h; injection h with h; subst h; exact plists_err _ _ _ _ h2
    | ok q =>
      obtain ⟨ls, r2⟩ := q
      rw [h2, pbind_ok] at h
      cases h3 : pcell xs.length ms (d : Nat) 0 r2 with
      | error e => rw [h3, pbind2_err] at h; injection h with h; have := pcell_err h3; omega
      | ok q =>
        obtain ⟨c, r3⟩ := q
        rw [h3, pbind2_ok] at h
        cases h
set_option maxRecDepth 100000 in
set_option maxHeartbeats 4000000 in
theorem celtake_any (sh : Shp) (s : List UInt8) (w : World) (hs : sh.rd w) (hsl : s.length ≤ 1000001) (hsm : SmallS sh) :
    Calls Try.prog 16 #[.agg sh.cs, .string ⟨s.toArray⟩] w (Tkcel (nodeTake sh.con sh.ms s) w) := by
  have hmf : ∀ (fn : Fn) (first cap : Array Value) (w : World), (Instr.makeFunc fn first cap).run Try.prog w = .ok (.func fn first cap) w := fun _ _ _ _ => rfl
  have hb0 : ∀ w : World, (Instr.build 34 #[]).run Try.prog w = .ok (.agg Nd.nil.cs) w := fun _ => by kernel_rfl
  have h20 := hsm.1
  have hxl : sh.con.length = sh.sz.n := by show (sh.sz.l.map Row.l).length = _; rw [List.length_map]; exact hs.sz.len
  have HS1 := Lib.hid hs
  have HCK := Lib.hid (fun (D : Nd) w' (hb : Bel w w') (hD : D.rd w') => ncheck_any sh D w' (hs.mono hb) hD)
  have HSZ := Lib.hid (fun w' => csize_any s w' hsl)
  have H := Lib.hid (((SL.start No w).alloc sh.cs 24).alloc #[.int .i64 0, .slice none 0 0, .int .i64 0, .int .i64 0, .int .i64 0, .int .i64 0, .int .i64 0, .int .i64 0, .int .i64 0, .int .i64 0, .int .i64 0, .int .i64 0, .int .i64 0, .int .i64 0] 34)
  (try simp only [List.set_cons_zero, List.set_cons_succ, List.cons_append, List.nil_append, List.eraseIdx_cons_zero, List.eraseIdx_cons_succ, List.setIfInBounds_toArray, World.size_alloc, selR, List.getD_cons_zero, List.getD_cons_succ] at H)
  obtain ⟨O, hO⟩ : ∃ O, O = nodeTake sh.con sh.ms s := ⟨_, rfl⟩
  have HO := Lib.hid hO
  rw [← hO]
  have hcs : sh.cs = #[.slice sh.sz.A sh.sz.n sh.sz.c, .int .i64 sh.ms] := rfl
  have HCS := Lib.hid hcs
  clear hcs hs hO
  go_enter Try.func16, Try.ntmps16
  go_upto_region 1 with fail
  (try rw [← HCS.out] at *)
  generalize w.heap.size + 1 = y at *
  generalize w.heap.size = x at *
  generalize World.alloc (World.alloc _ _) _ = w1 at *
  go_wp2_with fail
  refine (HSZ.out _).mono ?_; rintro e w2 ⟨rfl, hb2⟩
  replace H := Lib.hid (H.out.bel hb2); (try simp only [List.set_cons_zero, List.set_cons_succ, List.cons_append, List.nil_append, List.eraseIdx_cons_zero, List.eraseIdx_cons_succ, List.setIfInBounds_toArray, World.size_alloc, selR, List.getD_cons_zero, List.getD_cons_succ] at H)
  clear hb2 HSZ
  cases hz : nodeSize s with
  | none =>
    have HV : Hid (O = none) := by show _ = _; rw [HO.out]; unfold nodeTake; rw [hz]
    rw [show szN none = 0 from rfl, show szErr none = 15 from rfl]
    clear hz HO
    go_wp2_with (first | ((with_reducible show wpList _ _ _ (⟨some 32, _, _, _, _, _⟩ :: _) _ _); refine wpList_build0N rfl rfl hb0 ?_) | ((with_reducible show wpList _ _ _ (⟨_, .store _ (.tmp 4) _, _, _, _, _⟩ :: _) _ _); (refine wpList_store_blk rfl rowNd (.tmp 4) (.tmp 32) rfl _ rfl (H.out.blk 1 rfl) rfl (Nd.nil.cs) rfl rfl (nd_one _) ?_; intro wq bq hgq; replace H := Lib.hid (H.out.setBlk 1 rfl hgq bq); (try simp only [List.set_cons_zero, List.set_cons_succ, List.cons_append, List.nil_append, List.eraseIdx_cons_zero, List.eraseIdx_cons_succ, List.setIfInBounds_toArray, World.size_alloc, selR, List.getD_cons_zero, List.getD_cons_succ] at H); clear hgq bq)))
    refine bodyPost_ret (results_blk3 rfl rowNd rfl (H.out.blk 1 rfl) rfl) rfl ?_
    rw [HV.out]
    exact ⟨Nd.nil, rfl, rfl, H.out.to, holds_ndnil _, ndnil_new⟩
  | some z =>
    rw [show szErr (some z) = 0 from rfl, show szN (some z) = (z : Nat) from rfl]
    by_cases hzl : s.length < z
    · have HV : Hid (O = none) := by show _ = _; rw [HO.out]; unfold nodeTake; rw [hz]; simp only; rw [if_pos (.inl hzl)]
      have d1 : decide ((s.length : Int) < (z : Int)) = true := by simpa using hzl
      have d2 : decide (s.length < z) = true := by simpa using hzl
      clear hz HO hzl
      go_wp2_with (first | ((with_reducible show wpList _ _ _ (⟨some 32, _, _, _, _, _⟩ :: _) _ _); refine wpList_build0N rfl rfl hb0 ?_) | ((with_reducible show wpList _ _ _ (⟨_, .store _ (.tmp 4) _, _, _, _, _⟩ :: _) _ _); (refine wpList_store_blk rfl rowNd (.tmp 4) (.tmp 32) rfl _ rfl (H.out.blk 1 rfl) rfl (Nd.nil.cs) rfl rfl (nd_one _) ?_; intro wq bq hgq; replace H := Lib.hid (H.out.setBlk 1 rfl hgq bq); (try simp only [List.set_cons_zero, List.set_cons_succ, List.cons_append, List.nil_append, List.eraseIdx_cons_zero, List.eraseIdx_cons_succ, List.setIfInBounds_toArray, World.size_alloc, selR, List.getD_cons_zero, List.getD_cons_succ] at H); clear hgq bq)))
      refine bodyPost_ret (results_blk3 rfl rowNd rfl (H.out.blk 1 rfl) rfl) rfl ?_
      rw [HV.out]
      exact ⟨Nd.nil, rfl, rfl, H.out.to, holds_ndnil _, ndnil_new⟩
    have d1 : decide ((s.length : Int) < (z : Int)) = false := by simp; omega
    have d2 : decide (s.length < z) = false := by simp; omega
    have cs0 : w2.cell? ⟨x, 0, none⟩ = some (.slice sh.sz.A sh.sz.n sh.sz.c) := (H.out.blk 0 rfl).cell 0
    by_cases hx0 : sh.sz.n = 0
    · have HV : Hid (O = none) := by show _ = _; rw [HO.out]; unfold nodeTake; rw [hz]; simp only; rw [if_pos (.inr (by rw [hxl]; exact hx0))]
      rw [hx0] at cs0
      clear hz HO hxl
      go_wp2_with (first | ((with_reducible show wpList _ _ _ (⟨some 32, _, _, _, _, _⟩ :: _) _ _); refine wpList_build0N rfl rfl hb0 ?_) | ((with_reducible show wpList _ _ _ (⟨_, .store _ (.tmp 4) _, _, _, _, _⟩ :: _) _ _); (refine wpList_store_blk rfl rowNd (.tmp 4) (.tmp 32) rfl _ rfl (H.out.blk 1 rfl) rfl (Nd.nil.cs) rfl rfl (nd_one _) ?_; intro wq bq hgq; replace H := Lib.hid (H.out.setBlk 1 rfl hgq bq); (try simp only [List.set_cons_zero, List.set_cons_succ, List.cons_append, List.nil_append, List.eraseIdx_cons_zero, List.eraseIdx_cons_succ, List.setIfInBounds_toArray, World.size_alloc, selR, List.getD_cons_zero, List.getD_cons_succ] at H); clear hgq bq)))
      refine bodyPost_ret (results_blk3 rfl rowNd rfl (H.out.blk 1 rfl) rfl) rfl ?_
      rw [HV.out]
      exact ⟨Nd.nil, rfl, rfl, H.out.to, holds_ndnil _, ndnil_new⟩
    have d3 : ((sh.sz.n : Int) == 0) = false := by simp; omega
    have d4 : (sh.sz.n == 0) = false := by simp; omega
    obtain ⟨n, k, ok, hn⟩ : ∃ n k ok, ntake s = (n, k, ok) := ⟨_, _, _, rfl⟩
    have hnz : ok = true ∧ n ≤ 1048576 ∧ z = n + k := by
      unfold nodeSize at hz
      rw [hn] at hz
      simp only at hz
      split at hz
      · rename_i h; injection hz with hz; exact ⟨h.1, h.2, hz.symm⟩
      · cases hz
    have hk9 := (ntake_size s).2.1
    rw [hn] at hk9
    simp only at hk9
    have HO2 : Hid (O = match pbody sh.con sh.ms ((s.take z).drop k) with | .error _ => none | .ok (n, r) => if r = [] ∧ nodeErr sh.con sh.ms n = 0 then some (n, z) else none) := by show _ = _; rw [HO.out]; unfold nodeTake; rw [hz]; simp only; rw [if_neg (by rw [hxl]; omega), hn]; rfl
    have HTV := Lib.hid (fun w' => take_val hn w' hsl)
    obtain ⟨rfl, hn1, hn2⟩ := hnz
    clear hz HO hxl
    have k0 : (0 : Int) ≤ k := by omega
    have k1 : (k : Int) ≤ z := by omega
    have k2 : (z : Int) ≤ s.length := by omega
    have hd1 : 1 ≤ sh.sz.n := by omega
    clear hn1 hn2
    go_upto_region 5 with fail
    (try simp only [Act.put, List.setIfInBounds_toArray, List.set_cons_zero, List.set_cons_succ])
    clear cs0 d1 d2 d3 d4
    replace H := Lib.hid (H.out.alloc #[.int .i64 0, .slice none 0 0, .int .i64 0, .int .i64 0, .int .i64 0, .int .i64 0, .int .i64 0, .int .i64 0, .int .i64 0, .int .i64 0, .int .i64 0, .int .i64 0, .int .i64 0, .int .i64 0] 34); (try simp only [List.set_cons_zero, List.set_cons_succ, List.cons_append, List.nil_append, List.eraseIdx_cons_zero, List.eraseIdx_cons_succ, List.setIfInBounds_toArray, World.size_alloc, selR, List.getD_cons_zero, List.getD_cons_succ] at H)
    replace H := Lib.hid (H.out.add (Bel.refl _) (rNd .nil) (holds_ndnil _) ndnil_new); (try simp only [List.set_cons_zero, List.set_cons_succ, List.cons_append, List.nil_append, List.eraseIdx_cons_zero, List.eraseIdx_cons_succ, List.setIfInBounds_toArray, World.size_alloc, selR, List.getD_cons_zero, List.getD_cons_succ] at H)
    replace H := Lib.hid (H.out.sel [2, 3, 0, 1] (by decide) (by simp)); (try simp only [List.set_cons_zero, List.set_cons_succ, List.cons_append, List.nil_append, List.eraseIdx_cons_zero, List.eraseIdx_cons_succ, List.setIfInBounds_toArray, World.size_alloc, selR, List.getD_cons_zero, List.getD_cons_succ] at H)
    generalize w2.heap.size = g at *
    generalize World.alloc w2 _ = w3 at *
    go_wp2_with fail
    refine (HTV.out _).mono ?_; rintro e W ⟨rfl, hb3⟩
    replace H := Lib.hid (H.out.bel hb3); (try simp only [List.set_cons_zero, List.set_cons_succ, List.cons_append, List.nil_append, List.eraseIdx_cons_zero, List.eraseIdx_cons_succ, List.setIfInBounds_toArray, World.size_alloc, selR, List.getD_cons_zero, List.getD_cons_succ] at H)
    clear hb3 HTV
    obtain ⟨q, hq⟩ : ∃ q, q = (s.take z).drop k := ⟨_, rfl⟩
    have hex : (⟨s.toArray⟩ : ByteArray).extract k z = ⟨q.toArray⟩ := by rw [str_extract, hq, List.drop_take]
    have hql : q.length ≤ 1000001 := by rw [hq, List.length_drop, List.length_take]; omega
    rw [← hq] at HO2
    clear hq
    go_wp2_with fail
    clear hex
    refine (all_any 44 #[.pointer (some ⟨x, 0, none⟩), .pointer (some ⟨g, 0, none⟩)] q W hql (Rcel w q W.heap.size g x y sh (pbody sh.con sh.ms q)) (cf_any Try.func44 (by kernel_rfl) (by kernel_rfl)) (fun w4 h1 h2 h3 h4 h5 => celtake1_any w W.heap.size g x y q sh w4 HS1.out hd1 hsm (H.out.begin h1 h3 h4 h5))).mono ?_
    rintro e w5 ⟨ke, w4, rfl, ⟨hke, D, q', hS, hD⟩, hbut, _⟩
    replace H := Lib.hid (hS.ended hbut); (try simp only [List.set_cons_zero, List.set_cons_succ, List.cons_append, List.nil_append, List.eraseIdx_cons_zero, List.eraseIdx_cons_succ, List.setIfInBounds_toArray, World.size_alloc, selR, List.getD_cons_zero, List.getD_cons_succ] at H)
    clear hS hbut
    generalize W.heap.size = B at *
    cases hT : pbody sh.con sh.ms q with
    | error k' =>
      have HV : Hid (O = none) := by show _ = _; rw [HO2.out, hT]
      have hk' := pbody_err hT
      rw [hT] at hke
      have hk2 : ke = k' := hke
      subst hk2
      have dk : (ke == 0) = false := by simpa using hk'
      have dk2 : (ke != 0) = true := by simpa using hk'
      clear hT hke hk' hD HO2
      go_wp2_with (first | ((with_reducible show wpList _ _ _ (⟨some 53, _, _, _, _, _⟩ :: _) _ _); refine wpList_build0N rfl rfl hb0 ?_) | ((with_reducible show wpList _ _ _ (⟨_, .store _ (.tmp 4) _, _, _, _, _⟩ :: _) _ _); (refine wpList_store_blk rfl rowNd (.tmp 4) (.tmp 53) rfl _ rfl (H.out.blk 3 rfl) rfl (Nd.nil.cs) rfl rfl (nd_one _) ?_; intro wq bq hgq; replace H := Lib.hid (H.out.setBlk 3 rfl hgq bq); (try simp only [List.set_cons_zero, List.set_cons_succ, List.cons_append, List.nil_append, List.eraseIdx_cons_zero, List.eraseIdx_cons_succ, List.setIfInBounds_toArray, World.size_alloc, selR, List.getD_cons_zero, List.getD_cons_succ] at H); clear hgq bq)))
      refine bodyPost_ret (results_blk3 rfl rowNd rfl (H.out.blk 3 rfl) rfl) rfl ?_
      rw [HV.out]
      exact ⟨Nd.nil, rfl, rfl, H.out.to, holds_ndnil _, ndnil_new⟩
    | ok r =>
      obtain ⟨nc, r⟩ := r
      rw [hT] at hke
      obtain rfl := hD _ _ hT
      by_cases hr : r = []
      · have hk2 : ke = 0 := by rw [hke]; show (if r = [] then (0 : Int) else 3) = 0; rw [if_pos hr]
        subst hk2
        obtain ⟨E, hE⟩ : ∃ E, E = nodeErr sh.con sh.ms D.con := ⟨_, rfl⟩
        have HV0 : Hid (O = if E = 0 then some (D.con, z) else none) := by show _ = _; rw [HO2.out, hT]; simp only; rw [← hE]; by_cases h : E = 0 <;> simp [h, hr]
        have HC := HCK.out D _ H.out.to (nd_of_own (H.out.get 1 rfl))
        rw [← hE] at HC
        have HC := Lib.hid HC
        clear hT hke hD HO2 hE HCK
        go_wp2_with (first | ((with_reducible show wpList _ _ _ (⟨some 48, _, _, _, _, _⟩ :: _) _ _); refine wpList_load_blkG (by first | rfl | go_simp) rowShp2 (.tmp 2) (by rfl) _ (by rfl) (H.out.blk 2 rfl) rfl ?_) | ((with_reducible show wpList _ _ _ (⟨some 49, _, _, _, _, _⟩ :: _) _ _); refine wpList_load_blkG (by first | rfl | go_simp) rowNd (.tmp 9) (by rfl) _ (by rfl) (H.out.blk 0 rfl) rfl ?_))
        refine HC.out.mono ?_; rintro e w6 ⟨rfl, hb6⟩
        replace H := Lib.hid (H.out.bel hb6); (try simp only [List.set_cons_zero, List.set_cons_succ, List.cons_append, List.nil_append, List.eraseIdx_cons_zero, List.eraseIdx_cons_succ, List.setIfInBounds_toArray, World.size_alloc, selR, List.getD_cons_zero, List.getD_cons_succ] at H)
        clear hb6 HC
        by_cases hE0 : E = 0
        · subst hE0
          have HV : Hid (O = some (D.con, z)) := by show _ = _; rw [HV0.out, if_pos rfl]
          clear HV0
          go_wp2_with (first | ((with_reducible show wpList _ _ _ (⟨some 54, _, _, _, _, _⟩ :: _) _ _); (refine wpList_load_blk rfl rowNd (.tmp 9) rfl _ rfl (H.out.blk 0 rfl) rfl ?_)) | ((with_reducible show wpList _ _ _ (⟨_, .store _ (.tmp 4) _, _, _, _, _⟩ :: _) _ _); (refine wpList_store_blk rfl rowNd (.tmp 4) (.tmp 54) rfl _ rfl (H.out.blk 3 rfl) rfl (D.cs) rfl rfl (nd_one D) ?_; intro wq bq hgq; replace H := Lib.hid (H.out.setBlk 3 rfl hgq bq); (try simp only [List.set_cons_zero, List.set_cons_succ, List.cons_append, List.nil_append, List.eraseIdx_cons_zero, List.eraseIdx_cons_succ, List.setIfInBounds_toArray, World.size_alloc, selR, List.getD_cons_zero, List.getD_cons_succ] at H); clear hgq bq)))
          refine bodyPost_ret (results_blk3 rfl rowNd rfl (H.out.blk 3 rfl) rfl) rfl ?_
          rw [HV.out]
          exact ⟨D, rfl, rfl, H.out.to, H.out.get 1 rfl, H.out.new 1 rfl⟩
        · have HV : Hid (O = none) := by show _ = _; rw [HV0.out, if_neg hE0]
          have dk : (E == 0) = false := by simpa using hE0
          have dk2 : (E != 0) = true := by simpa using hE0
          clear HV0
          go_wp2_with (first | ((with_reducible show wpList _ _ _ (⟨some 53, _, _, _, _, _⟩ :: _) _ _); refine wpList_build0N rfl rfl hb0 ?_) | ((with_reducible show wpList _ _ _ (⟨_, .store _ (.tmp 4) _, _, _, _, _⟩ :: _) _ _); (refine wpList_store_blk rfl rowNd (.tmp 4) (.tmp 53) rfl _ rfl (H.out.blk 3 rfl) rfl (Nd.nil.cs) rfl rfl (nd_one _) ?_; intro wq bq hgq; replace H := Lib.hid (H.out.setBlk 3 rfl hgq bq); (try simp only [List.set_cons_zero, List.set_cons_succ, List.cons_append, List.nil_append, List.eraseIdx_cons_zero, List.eraseIdx_cons_succ, List.setIfInBounds_toArray, World.size_alloc, selR, List.getD_cons_zero, List.getD_cons_succ] at H); clear hgq bq)))
          refine bodyPost_ret (results_blk3 rfl rowNd rfl (H.out.blk 3 rfl) rfl) rfl ?_
          rw [HV.out]
          exact ⟨Nd.nil, rfl, rfl, H.out.to, holds_ndnil _, ndnil_new⟩
      · have HV : Hid (O = none) := by show _ = _; rw [HO2.out, hT]; simp only; rw [if_neg (fun h => hr h.1)]
        have hk2 : ke = 3 := by rw [hke]; show (if r = [] then (0 : Int) else 3) = 3; rw [if_neg hr]
        subst hk2
        clear hT hke hr hD HO2
        go_wp2_with (first | ((with_reducible show wpList _ _ _ (⟨some 53, _, _, _, _, _⟩ :: _) _ _); refine wpList_build0N rfl rfl hb0 ?_) | ((with_reducible show wpList _ _ _ (⟨_, .store _ (.tmp 4) _, _, _, _, _⟩ :: _) _ _); (refine wpList_store_blk rfl rowNd (.tmp 4) (.tmp 53) rfl _ rfl (H.out.blk 3 rfl) rfl (Nd.nil.cs) rfl rfl (nd_one _) ?_; intro wq bq hgq; replace H := Lib.hid (H.out.setBlk 3 rfl hgq bq); (try simp only [List.set_cons_zero, List.set_cons_succ, List.cons_append, List.nil_append, List.eraseIdx_cons_zero, List.eraseIdx_cons_succ, List.setIfInBounds_toArray, World.size_alloc, selR, List.getD_cons_zero, List.getD_cons_succ] at H); clear hgq bq)))
        refine bodyPost_ret (results_blk3 rfl rowNd rfl (H.out.blk 3 rfl) rfl) rfl ?_
        rw [HV.out]
        exact ⟨Nd.nil, rfl, rfl, H.out.to, holds_ndnil _, ndnil_new⟩

end Go.Proofs.Ytlclllkjnhgbjaa
