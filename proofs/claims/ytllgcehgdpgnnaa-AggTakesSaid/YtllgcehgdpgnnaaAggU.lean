/- agg.Read: an aggregate read by a reader. -/
import Derived.Test.YtllgcehgdpgnnaaAggT
import Derived.Test.YtllgcehgdpgnnaaTakeF
namespace Go.Proofs.Ytllgcehgdpgnnaa
open Go.RowKit
set_option linter.unusedVariables false
set_option linter.unusedSimpArgs false

section
variable {P : Program}
/-- A struct stored into the midst of a block that is known whole. -/
theorem wpList_store_at {ops : Array Oper} {rest : List Oper} {op : Oper} {a : Act} {w : World} {Q : Exit → Act → World → Prop} (hgd : op.guard = none) {ty : TypeId} {n : Nat} (R : RowTy P ty n) (x y : Operand) (ho : op.op = .store ty x y)
    (g o : Nat) (hx : a.eval x = .pointer (some ⟨g, o, none⟩)) {t : TypeId} {cs : Array Value} (hb : Blk w g t cs) (cs' : Array Value) (hn' : cs'.size = n) (hfit : o + n ≤ cs.size) (hy : a.eval y = .agg cs') (h1 : cs'.all (·.oneCell') = true)
    (h : ∀ w', Blk w' g t (setAll cs o cs'.toList) → w.grownBy w' (some g) → wpList P ops Q rest (a.put op.dst undef) w') : wpList P ops Q (op :: rest) a w := by
  refine wpList_store_mid hgd ty x y ho g o cs' hx hy (fun j hj => ?_) (by rw [R.hi, hn']) h1 (h _ (Blk.setAll cs'.toList o hb) (setCells_grown w g _ _))
  rw [hb.cell, hb.frozen]
  exact ⟨by rw [Array.getElem?_eq_getElem (by omega)]; rfl, rfl⟩
end
/-- A function's one result, a struct in memory. -/
theorem results_blk1 {P : Program} {fn : Func} {p : Tmp} {ty : TypeId} {n : Nat} (h : fn.results = #[.cell p ty]) (R : RowTy P ty n) {tmps : Array Value} {w : World} {g : Nat} {t : TypeId} {cs : Array Value}
    (hp : tmps.getD p undef = .pointer (some ⟨g, 0, none⟩)) (hb : Blk w g t cs) (hn : cs.size = n) :
    (results fn tmps).run P w = .ok (.agg cs) w := by
  obtain ⟨d, hu, hd⟩ := R.hu
  have hp' : tmps[p]?.getD undef = .pointer (some ⟨g, 0, none⟩) := by simpa using hp
  have hl := run_loadVar_mid (P := P) w g 0 ty cs.toList d hb.range hu hd (by rw [R.hi]; simp [hn])
  simp [results, h, hp', asAddr, hl]
theorem ag_set_cs (a : Ag) (x : Prt) {k : Nat} (hk : k < 3) : setAll a.cs (1 + k * 3) [.int .i64 x.s, .int .i64 x.mn, .int .i64 x.mx] = (a.set k x).cs := by
  rcases (show k = 0 ∨ k = 1 ∨ k = 2 by omega) with rfl | rfl | rfl <;> rfl

/-- A reading of an aggregate under way: the blocks of the result and of what was read so far. -/
structure AgRd (w : World) (b z y : Nat) (s l : List UInt8) (a : Ag) (wr : World) : Prop where
  g : w.grownBy wr (some b)
  r : Rdr wr b s l
  Z : Blk wr z 92 Ag.zero.cs
  A : Blk wr y 92 a.cs
section
variable {w w1 w2 : World} {b z y : Nat} {s l l' : List UInt8} {a a' : Ag}
theorem AgRd.read (h : AgRd w b z y s l a w1) (hz : z ≠ b) (hgb : y ≠ b) (hg : w1.grownBy w2 (some b)) (hr : Rdr w2 b s l') : AgRd w b z y s l' a w2 :=
  ⟨h.g.trans hg, hr, h.Z.grown hg (by simpa using hz), h.A.grown hg (by simpa using hgb)⟩
theorem AgRd.more (h : AgRd w b z y s l a w1) (hb : Bel w1 w2) : AgRd w b z y s l a w2 :=
  ⟨h.g.trans (grown_of_bel hb _), h.r.bel hb, h.Z.bel hb, h.A.bel hb⟩
theorem AgRd.kept (h : AgRd w b z y s l a w1) {j : Nat} (hg : w1.grownBy w2 (some j)) (hj : w.heap.size ≤ j) (h1 : j ≠ b) (h2 : j ≠ z) (h3 : j ≠ y) : AgRd w b z y s l a w2 :=
  ⟨h.g.andThen hg (fun k e => by injection e with e; exact .inl (by omega)), h.r.grown hg (by simp; omega), h.Z.grown hg (by simp; omega), h.A.grown hg (by simp; omega)⟩
theorem AgRd.set (h : AgRd w b z y s l a w1) (hg : w1.grownBy w2 (some y)) (hj : w.heap.size ≤ y) (h1 : y ≠ b) (h2 : y ≠ z) (hA : Blk w2 y 92 a'.cs) : AgRd w b z y s l a' w2 :=
  ⟨h.g.andThen hg (fun k e => by injection e with e; exact .inl (by omega)), h.r.grown hg (by simp; omega), h.Z.grown hg (by simp; omega), hA⟩
end

/-- How a reading ends behind the parts. -/
def pend (m : Int) (o : PR Ag) : PR Ag := match o with | .error e => .error e | .ok (a, r) => if mayAg m a then .ok (a, r) else .error 3
def pnext (k n : Nat) (a : Ag) (o : PR Prt) : PR Ag := match o with | .error e => .error e | .ok (x, r) => prtsFrom (k + 1) n (a.set k x) r
theorem prtsFrom_next (k n : Nat) (a : Ag) (l : List UInt8) : prtsFrom k (n + 1) a l = pnext k n a (pprt a.c l) := by
  rw [prtsFrom]
  unfold pnext
  cases pprt a.c l <;> rfl
theorem pag_ok {m c : Int} {l r : List UInt8} (h : pint l = .ok (c, r)) (hm : mayC m c = true) : pag m l = pend m (prtsFrom 0 m.toNat ⟨c, .zero, .zero, .zero⟩ r) := by
  unfold pag pend
  rw [h]
  simp only
  rw [if_pos hm]
  cases prtsFrom 0 m.toNat ⟨c, .zero, .zero, .zero⟩ r <;> rfl

set_option maxRecDepth 100000 in
set_option maxHeartbeats 1000000 in
theorem aread_any (b : Nat) (s l : List UInt8) (m : Int) (w : World) (hR : Rdr w b s l) (hm : I64 m) :
    Calls Try.prog 74 #[.pointer (some ⟨b, 0, none⟩), .int .i64 m] w (RPost b s (pag m l) (fun a => .agg a.cs) w) := by
  have hb := hR.lt
  have HM := Lib.hid (fun a w => may_any a m w hm)
  obtain ⟨m0, m1⟩ := hm
  have bz := Blk.new w 92 Ag.zero.cs
  have HN := Lib.hid (int_any b s l (w.alloc (.cells Ag.zero.cs 92)) (hR.bel ((Bel.refl w).alloc _)))
  have ez : Ag.zero.cs = #[.int .i64 0, .int .i64 0, .int .i64 0, .int .i64 0, .int .i64 0, .int .i64 0, .int .i64 0, .int .i64 0, .int .i64 0, .int .i64 0] := rfl
  have HZ := Lib.hid bz
  have hgz : w.grownBy (w.alloc (.cells Ag.zero.cs 92)) (some b) := grown_of_bel ((Bel.refl w).alloc _) _
  have HG := Lib.hid hgz
  clear bz hgz hR
  go_enter Try.func74, Try.ntmps74
  go_wp2_with fail
  rw [ez] at HN HG
  cases hp : pint l with
  | error k =>
    have HE : Hid (pag m l = .error k) := by show _ = _; unfold pag; rw [hp]
    rw [hp] at HN
    refine HN.out.mono ?_; rintro e w1 ⟨rfl, hg, hr⟩
    clear hp
    go_wp2
    refine ⟨rfl, ?_⟩
    rw [HE.out]
    exact ⟨rfl, HG.out.trans hg, hr⟩
  | ok q =>
    obtain ⟨c, r⟩ := q
    have hc := (q_pint_back hp).2
    have Hp := Lib.hid hp
    rw [hp] at HN
    refine HN.out.mono ?_; rintro e w1 ⟨rfl, hg, hr⟩
    rw [← ez] at HG
    have H1 : Hid (AgRd w b w.heap.size w1.heap.size s r ⟨c, .zero, .zero, .zero⟩ (w1.alloc (.cells (Ag.mk c .zero .zero .zero).cs 92))) :=
      ⟨(HG.out.trans hg).trans (grown_of_bel ((Bel.refl _).alloc _) _), hr.bel ((Bel.refl _).alloc _), (HZ.out.grown hg (by simp; omega)).alloc _, Blk.new w1 _ _⟩
    have ec : (Ag.mk c .zero .zero .zero).cs = #[.int .i64 c, .int .i64 0, .int .i64 0, .int .i64 0, .int .i64 0, .int .i64 0, .int .i64 0, .int .i64 0, .int .i64 0, .int .i64 0] := rfl
    rw [ec] at H1
    clear ec
    have hz1 : w.heap.size < w1.heap.size := by have := hg.size; simp at this; omega
    clear hp hg hr HN HG HZ
    cases hmc : mayC m c with
    | false =>
      have HE : Hid (pag m l = .error 3) := by show _ = _; unfold pag; rw [Hp.out]; simp [hmc]
      have hcase : m < 0 ∨ (0 ≤ m ∧ 3 < m) ∨ (0 ≤ m ∧ m ≤ 3 ∧ c < 1) := by
        unfold mayC at hmc
        simp at hmc
        omega
      clear hmc
      rcases hcase with h | ⟨h, h'⟩ | ⟨h, h', h''⟩
      rotate_left 2
      · have dc : decide (1 ≤ c) = false := by simp; omega
        go_wp2_with fail
        refine (want_no b s r 3 _ H1.out.r).mono ?_; rintro e w2 ⟨rfl, rfl⟩
        go_wp2_with fail
        refine ⟨rfl, ?_⟩
        rw [HE.out]
        exact ⟨rfl, H1.out.g, _, H1.out.r⟩
      all_goals
        go_wp2_with fail
        refine (want_no b s r 3 _ H1.out.r).mono ?_; rintro e w2 ⟨rfl, rfl⟩
        go_wp2_with fail
        refine ⟨rfl, ?_⟩
        rw [HE.out]
        exact ⟨rfl, H1.out.g, _, H1.out.r⟩
    | true =>
      have HE := Lib.hid (pag_ok Hp.out hmc)
      obtain ⟨h0, h3, h1⟩ : 0 ≤ m ∧ m ≤ 3 ∧ 1 ≤ c := by
        unfold mayC at hmc
        simp only [Bool.and_eq_true, decide_eq_true_eq] at hmc
        omega
      obtain ⟨n, rfl⟩ : ∃ n : Nat, m = n := ⟨m.toNat, by omega⟩
      rw [Int.toNat_natCast] at HE
      have dc : decide (1 ≤ c) = true := by simp; omega
      clear hmc
      go_wp2_with fail
      clear dc
      refine (want_yes b s r 3 _ H1.out.r).mono ?_; rintro e w2 ⟨rfl, rfl⟩
      have q1 : max (n : Int) 0 = n := by omega
      have q2 : min (n : Int) 3 = n := by omega
      go_wp2_with fail
      clear q1 q2
      have hzb : w.heap.size ≠ b := by omega
      have hyb : w1.heap.size ≠ b := by omega
      go_loopg [27] n (fun g i wr => ∃ (k : Nat) (a : Ag) (lr : List UInt8), g = n - k ∧ k ≤ n ∧ i = .int .i64 k ∧ Hid (a.c = c) ∧ Hid (AgRd w b w.heap.size w1.heap.size s lr a wr) ∧ Hid (pag n l = pend n (prtsFrom k (n - k) a lr)))
      case atStart => exact ⟨0, ⟨c, .zero, .zero, .zero⟩, r, rfl, by omega, rfl, (by show _ = _; rfl), H1, HE⟩
      case round =>
        clear H1 HE Hp
        obtain ⟨k, a, lr, hgk, hk, rfl, hac, H, hE⟩ := hrel
        have Hgk := Lib.hid hgk
        clear hgk
        by_cases hlt : k < n
        · have hE2 : pag n l = pend n (pnext k (n - (k + 1)) a (pprt c lr)) := by
            rw [hE.out, show n - k = (n - (k + 1)) + 1 by omega, prtsFrom_next, hac.out]
          have HE2 := Lib.hid hE2
          have HI := Lib.hid (fun w l (h : Rdr w b s l) => int_any b s l w h)
          have i0 : (0 : Int) ≤ k := by omega
          have i1 : (k : Int) < 3 := by omega
          clear hE hE2
          go_wp2_with fail
          have HI1 := Lib.hid (HI.out _ _ H.out.r)
          cases hp : pint lr with
          | error e =>
            have HN : Hid (pag n l = .error e) := by show _ = _; rw [HE2.out]; unfold pprt; rw [hp]; rfl
            rw [hp] at HI1
            refine HI1.out.mono ?_; rintro e' w2 ⟨rfl, hg, hr⟩
            clear hp
            go_wp2_with fail
            refine ⟨rfl, ?_⟩
            rw [HN.out]
            exact ⟨rfl, H.out.g.trans hg, hr⟩
          | ok q =>
            obtain ⟨x, r1⟩ := q
            have Hp := Lib.hid hp
            rw [hp] at HI1
            refine HI1.out.mono ?_; rintro e' w3 ⟨rfl, hg, hr⟩
            have H3 := Lib.hid (H.out.read hzb hyb hg hr)
            have cy := H3.out.A.cell 0
            simp [Ag.cs] at cy
            rw [hac.out] at cy
            have hy3 : w1.heap.size < w3.heap.size := H3.out.A.lt
            clear hp hg hr HI1 H
            by_cases hc1 : 1 < c
            · go_wp2_with (first | ((with_reducible show wpList _ _ _ (⟨_, .store _ (.tmp 7) _, _, _, _, _⟩ :: _) _ _); refine wpList_store_new rfl rowPart (.tmp 7) (.tmp 32) rfl rfl rfl #[.int .i64 x, .int .i64 0, .int .i64 0] rfl rfl (by simp [Value.oneCell']) ?_))
              have H4 := Lib.hid (H3.out.more ((Bel.refl _).alloc (.cells #[.int .i64 x, .int .i64 x, .int .i64 x] 89)))
              have B4 := Lib.hid (Blk.new w3 89 #[.int .i64 x, .int .i64 x, .int .i64 x])
              have HI2 := Lib.hid (HI.out _ _ H4.out.r)
              cases hp2 : pint r1 with
              | error e =>
                have HN : Hid (pag n l = .error e) := by show _ = _; rw [HE2.out]; unfold pprt; rw [Hp.out]; simp only; rw [if_pos hc1, hp2]; rfl
                rw [hp2] at HI2
                refine HI2.out.mono ?_; rintro e' w2 ⟨rfl, hg, hr⟩
                clear hp2
                go_wp2_with fail
                refine ⟨rfl, ?_⟩
                rw [HN.out]
                exact ⟨rfl, H4.out.g.trans hg, hr⟩
              | ok q =>
                obtain ⟨x2, r2⟩ := q
                have Hp2 := Lib.hid hp2
                rw [hp2] at HI2
                refine HI2.out.mono ?_; rintro e' w4 ⟨rfl, hg, hr⟩
                have H5 := Lib.hid (H4.out.read hzb hyb hg hr)
                have B5 := Lib.hid (B4.out.grown hg (by simp; omega))
                clear hp2 hg hr HI2 H4 B4 H3 cy
                go_wp2_with fail
                have HI3 := Lib.hid (HI.out _ _ H5.out.r)
                cases hp3 : pint r2 with
                | error e =>
                  have HN : Hid (pag n l = .error e) := by show _ = _; rw [HE2.out]; unfold pprt; rw [Hp.out]; simp only; rw [if_pos hc1, Hp2.out]; simp only; rw [hp3]; rfl
                  rw [hp3] at HI3
                  refine HI3.out.mono ?_; rintro e' w2 ⟨rfl, hg, hr⟩
                  clear hp3
                  go_wp2_with fail
                  refine ⟨rfl, ?_⟩
                  rw [HN.out]
                  exact ⟨rfl, H5.out.g.trans hg, hr⟩
                | ok q =>
                  obtain ⟨x3, r3⟩ := q
                  have HN : Hid (pag n l = pend n (prtsFrom (k + 1) (n - (k + 1)) (a.set k ⟨x, x2, x3⟩) r3)) := by show _ = _; rw [HE2.out]; unfold pprt; rw [Hp.out]; simp only; rw [if_pos hc1, Hp2.out]; simp only; rw [hp3]; rfl
                  rw [hp3] at HI3
                  refine HI3.out.mono ?_; rintro e' w5 ⟨rfl, hg, hr⟩
                  have H6 := Lib.hid (H5.out.read hzb hyb hg hr)
                  have b6 := B5.out.grown hg (by simp; omega)
                  have hw5 := b6.lt
                  obtain ⟨d0, d1, d2, f0, f1, f2⟩ := b6.three
                  clear hp3 hg hr HI3 H5 B5 b6 HE2 Hp Hp2
                  go_wp2_with (((with_reducible show wpList _ _ _ (⟨_, .store _ (.tmp 51) _, _, _, _, _⟩ :: _) _ _); refine wpList_store_at rfl rowPart (.tmp 51) (.tmp 49) rfl w1.heap.size (1 + k * 3) rfl ((H6.out.A.far (p := ⟨w3.heap.size, 1, none⟩) (by simp; omega) _).far (p := ⟨w3.heap.size, 2, none⟩) (by simp; omega) _) #[.int .i64 x, .int .i64 x2, .int .i64 x3] rfl (by simp [Ag.cs]; omega) rfl (by simp [Value.oneCell']) ?_; intro w9 hA9 hg9))
                  go_roundg (n - (k + 1))
                  case rel => exact ⟨k + 1, a.set k ⟨x, x2, x3⟩, r3, rfl, by omega, by go_num, by show _ = _; rw [Ag.set_c]; exact hac.out, (((H6.out.kept (grownBy_setCell _ _ _ _) (by omega) (by omega) (by omega) (by omega)).kept (grownBy_setCell _ _ _ _) (by omega) (by omega) (by omega) (by omega)).set hg9 (by omega) hyb (by omega) (by rw [← ag_set_cs a ⟨x, x2, x3⟩ (by omega)]; exact hA9)), HN⟩
                  case measure => rw [Hgk.out]; omega
            · have HN : Hid (pag n l = pend n (prtsFrom (k + 1) (n - (k + 1)) (a.set k ⟨x, x, x⟩) r1)) := by show _ = _; rw [HE2.out]; unfold pprt; rw [Hp.out]; simp only; rw [if_neg hc1]; rfl
              have H4 := Lib.hid (H3.out.more ((Bel.refl _).alloc (.cells #[.int .i64 x, .int .i64 x, .int .i64 x] 89)))
              clear HE2 Hp H3
              go_wp2_with (first | ((with_reducible show wpList _ _ _ (⟨_, .store _ (.tmp 7) _, _, _, _, _⟩ :: _) _ _); refine wpList_store_new rfl rowPart (.tmp 7) (.tmp 32) rfl rfl rfl #[.int .i64 x, .int .i64 0, .int .i64 0] rfl rfl (by simp [Value.oneCell']) ?_) | ((with_reducible show wpList _ _ _ (⟨_, .store _ (.tmp 51) _, _, _, _, _⟩ :: _) _ _); refine wpList_store_at rfl rowPart (.tmp 51) (.tmp 49) rfl w1.heap.size (1 + k * 3) rfl H4.out.A #[.int .i64 x, .int .i64 x, .int .i64 x] rfl (by simp [Ag.cs]; omega) rfl (by simp [Value.oneCell']) ?_; intro w9 hA9 hg9))
              go_roundg (n - (k + 1))
              case rel => exact ⟨k + 1, a.set k ⟨x, x, x⟩, r1, rfl, by omega, by go_num, by show _ = _; rw [Ag.set_c]; exact hac.out, (H4.out.set hg9 (by omega) hyb (by omega) (by rw [← ag_set_cs a ⟨x, x, x⟩ (by omega)]; exact hA9)), HN⟩
              case measure => rw [Hgk.out]; omega
        · have HN : Hid (pag n l = pend n (.ok (a, lr))) := by show _ = _; rw [hE.out, show n - k = 0 by omega]; rfl
          have bA := H.out.A
          have HMa := Lib.hid (fun w => HM.out a w)
          clear hE
          go_wp2_with ((with_reducible show wpList _ _ _ (⟨some 55, _, _, _, _, _⟩ :: _) _ _); refine wpList_load_blk rfl rowAg (.tmp 5) rfl w1.heap.size rfl bA rfl ?_)
          refine (HMa.out _).mono ?_; rintro e w5 ⟨rfl, hb5⟩
          have H5 := Lib.hid (H.out.more hb5)
          clear hb5 H bA HMa
          cases hA : mayAg n a with
          | false =>
            replace HN := Lib.hid (HN.out.trans (show pend n (.ok (a, lr)) = .error 3 by unfold pend; simp [hA]))
            go_wp2_with fail
            refine (want_no b s lr 3 _ H5.out.r).mono ?_; rintro e w2 ⟨rfl, rfl⟩
            go_wp2_with fail
            refine ⟨rfl, ?_⟩
            rw [HN.out]
            exact ⟨rfl, H5.out.g, _, H5.out.r⟩
          | true =>
            replace HN := Lib.hid (HN.out.trans (show pend n (.ok (a, lr)) = .ok (a, lr) by unfold pend; simp [hA]))
            go_wp2_with fail
            refine (want_yes b s lr 3 _ H5.out.r).mono ?_; rintro e w2 ⟨rfl, rfl⟩
            have bA := H5.out.A
            have bZ := H5.out.Z
            go_wp2_with (first | ((with_reducible show wpList _ _ _ (⟨some 58, _, _, _, _, _⟩ :: _) _ _); refine wpList_load_blk rfl rowAg (.tmp 5) rfl w1.heap.size rfl bA rfl ?_) | ((with_reducible show wpList _ _ _ (⟨_, .store _ (.tmp 4) _, _, _, _, _⟩ :: _) _ _); refine wpList_store_blk rfl rowAg (.tmp 4) (.tmp 58) rfl w.heap.size rfl bZ rfl a.cs rfl rfl (ag_one a) ?_; intro w7 bC hg7))
            refine bodyPost_ret (results_blk1 rfl rowAg rfl bC rfl) rfl ?_
            rw [HN.out]
            exact ⟨rfl, H5.out.g.andThen hg7 (fun k e => by injection e with e; exact .inl (by omega)), H5.out.r.grown hg7 (by simp; omega)⟩

end Go.Proofs.Ytllgcehgdpgnnaa
