/- The document's Lift. -/
import Derived.Test.YtelnhhbefdfeoaaPlanI
namespace Go.Proofs.Ytelnhhbefdfeoaa
open Go.RowKit
set_option linter.unusedVariables false
set_option linter.unusedSimpArgs false


theorem allok_step {trs : List TC} (h : AllOk trs) {k : Nat} {U V : TC} (hU : trs[k]? = some U) (hV : trs[k + 1]? = some V) : U.up.length = U.ts.length ∧ ∀ z ∈ U.up, 0 ≤ z ∧ z < V.ts.length := by
  have h2 := allOk_drop h k
  obtain ⟨l1, rfl⟩ := List.getElem?_eq_some_iff.1 hU
  obtain ⟨l2, rfl⟩ := List.getElem?_eq_some_iff.1 hV
  rw [List.drop_eq_getElem_cons l1, List.drop_eq_getElem_cons l2] at h2
  exact ⟨(AllOk.step h2).1, (AllOk.step h2).2.1⟩
set_option maxRecDepth 100000 in
set_option maxHeartbeats 2000000 in
theorem rlift_any (d : Dm) (f t i : Nat) (w : World) (hd : d.rd w) (hok : AllOk (d.tr.l.map Tir.con)) (hft : f ≤ t) (htn : t < d.tr.n) (hi : i < sizeAt (d.tr.l.map Tir.con) f) :
    Calls Try.prog 47 #[.agg d.cs, .int .i64 f, .int .i64 t, .int .i64 i] w fun e w' => e = .returned (.int .i64 (liftOf (d.tr.l.map Tir.con) f t i)) ∧ Bel w w' := by
  have hlen : Hid (d.tr.l.length = d.tr.n) := hd.tr.len
  have H := Lib.hid ((SL.start No w).alloc d.cs 66)
  (try simp only [List.set_cons_zero, List.set_cons_succ, List.cons_append, List.nil_append, List.eraseIdx_cons_zero, List.eraseIdx_cons_succ, List.setIfInBounds_toArray, World.size_alloc, selR, List.getD_cons_zero, List.getD_cons_succ] at H)
  have HD := Lib.hid (fun w' (hb : Bel w w') => hd.tr.mono hb)
  have HOK := Lib.hid hok
  have hw := (lift_within hok hft (by rw [List.length_map, hlen.out]; exact htn) hi)
  have HE : Hid (liftOf (d.tr.l.map Tir.con) f t i = liftN ((d.tr.l.map Tir.con).drop f) (t - f) i) := hw.1
  obtain ⟨T, hT⟩ : ∃ X, d.tr.l[f]? = some X := ⟨_, List.getElem?_eq_getElem (by rw [hlen.out]; omega)⟩
  have hTr := hd.tr.all T (List.mem_of_getElem? hT)
  have hTn : sizeAt (d.tr.l.map Tir.con) f = T.ts.n := by rw [sizeAt_tir hT]; exact hTr.ts.len
  have HI : Hid (i < sizeAt (d.tr.l.map Tir.con) f) := hi
  rw [hTn] at hi
  have t63 := hTr.ts.n63
  have d63 := hd.tr.n63
  obtain ⟨bb, oo, T', hA, hbb, hT', _, hrg⟩ := hd.tr.tirAt (k := f) (by omega)
  obtain rfl : T = T' := by rw [hT] at hT'; injection hT'
  have hrc := ((Bel.refl w).alloc (.cells d.cs 66) |>.cell (p := ⟨bb, oo + f * 3 + 1, none⟩) hbb).trans (hrg 1 (.slice T.ts.A T.ts.n T.ts.c) rfl)
  obtain ⟨R, hR⟩ : ∃ R, R = liftOf (d.tr.l.map Tir.con) f t i := ⟨_, rfl⟩
  rw [← hR] at HE hw ⊢
  have hR0 := hw.2.1
  clear hR hw hT hT' hTr hTn hrg hd hok
  obtain ⟨nm, ⟨A, n, c, trs⟩⟩ := d
  simp only [Dm.cs] at *
  subst hA
  go_enter Try.func47, Try.ntmps47
  go_upto_region 1 with fail
  generalize w.heap.size = x at *
  generalize World.alloc w _ = w1 at *
  have cd : w1.cell? ⟨x, 1, none⟩ = some (.slice (some ⟨bb, oo, none⟩) n c) := (H.out.blk 0 rfl).cell 1
  have i0 : (0 : Int) ≤ f := by omega
  have i1 : (f : Int) < n := by omega
  have d1 : decide ((n : Int) ≤ t) = false := by simp; omega
  have d2 : decide ((t : Int) < f) = false := by simp; omega
  have d3 : decide ((T.ts.n : Int) ≤ i) = false := by simp; omega
  have e1 : decide (n ≤ t) = false := by simp; omega
  have e2 : decide (t < f) = false := by simp; omega
  have e3 : decide (T.ts.n ≤ i) = false := by simp; omega
  go_wp2_with fail
  clear cd hrc d1 d2 d3 e1 e2 e3
  go_loopg [3, 9] (t - f) (fun gg s3 s9 wr => ∃ (k j : Nat), gg = t - k ∧ f ≤ k ∧ k ≤ t ∧ s3 = .int .i64 j ∧ s9 = .int .i64 k ∧ Hid (j < sizeAt (trs.map Tir.con) k) ∧ Hid (R = liftN ((trs.map Tir.con).drop k) (t - k) j) ∧ Hid (SL No w wr [rBlk x 66 #[.string ⟨nm.toArray⟩, .slice (some ⟨bb, oo, none⟩) n c]]))
  case atStart => exact ⟨f, i, rfl, by omega, by omega, rfl, rfl, HI, HE, H⟩
  case round =>
    clear H HE HI
    obtain ⟨k, j, hgk, hk0, hk, rfl, rfl, HI, HE, H⟩ := hrel
    have Hgk := Lib.hid hgk
    clear hgk
    by_cases hlt : k < t
    · obtain ⟨b2, o2, U, hA2, hb2, hU, hUr, hrg2⟩ := (HD.out _ H.out.to).tirAt (k := k) (show k < n by omega)
      simp only [Option.some.injEq, Addr.mk.injEq] at hA2
      obtain ⟨rfl, rfl, _⟩ := hA2
      have hUc : (trs.map Tir.con)[k]? = some U.con := by rw [List.getElem?_map, hU]; rfl
      obtain ⟨V, hV⟩ : ∃ X, trs[k + 1]? = some X := ⟨_, List.getElem?_eq_getElem (by rw [hlen.out]; omega)⟩
      have hVc : (trs.map Tir.con)[k + 1]? = some V.con := by rw [List.getElem?_map, hV]; rfl
      obtain ⟨hs1, hs2⟩ := allok_step HOK.out hUc hVc
      have hjU : j < U.up.n := by
        have h := HI.out
        rw [sizeAt_tir hU] at h
        have h2 : U.up.l.length = U.up.n := hUr.up.len
        have h3 : U.up.l.length = U.ts.l.length := hs1
        omega
      obtain ⟨b3, o3, z, hA3, hz, q1⟩ := rd_cell rfl hUr.up.r (k := j) hjU
      have q1 := q1 _ rfl
      have hz2 := hs2 z (List.mem_of_getElem? hz)
      obtain ⟨z, rfl⟩ : ∃ m : Nat, z = m := ⟨z.toNat, by omega⟩
      have HI2 : Hid (z < sizeAt (trs.map Tir.con) (k + 1)) := by
        show _ < _
        rw [sizeAt_tir hV]
        have : (z : Int) < V.ts.l.length := hz2.2
        omega
      have HE2 : Hid (R = liftN ((trs.map Tir.con).drop (k + 1)) (t - (k + 1)) z) := by
        show _ = _
        rw [HE.out, show t - k = (t - (k + 1)) + 1 by omega, liftN_drop hUc (by omega)]
        congr 1
        unfold overOf
        rw [if_neg (by omega), Int.toNat_natCast, show U.con.up[j]? = some (z : Int) from hz]
        rfl
      have hc2 := hrg2 2 (.slice U.up.A U.up.n U.up.c) rfl
      have cd : wr.cell? ⟨x, 1, none⟩ = some (.slice (some ⟨bb, oo, none⟩) n c) := (H.out.blk 0 rfl).cell 1
      rw [hA3] at hc2
      have u63 := hUr.up.n63
      have d4 : decide ((k : Int) < t) = true := by simp; omega
      have e4 : decide (k < t) = true := by simp; omega
      have d5 : decide ((U.up.n : Int) ≤ j) = false := by simp; omega
      have e5 : decide (U.up.n ≤ j) = false := by simp; omega
      have i2 : (0 : Int) ≤ k := by omega
      have i3 : (k : Int) < n := by omega
      have i4 : (0 : Int) ≤ j := by omega
      have i5 : (j : Int) < U.up.n := by omega
      clear hU hV hUc hVc hs1 hs2 hz hz2 hrg2 hUr HE HI hb2 hA3
      generalize U.up.n = un at *
      generalize U.up.c = uc at *
      go_wp2_with fail
      clear q1 hc2 cd
      go_roundg (t - (k + 1))
      case rel => exact ⟨k + 1, z, rfl, by omega, by omega, rfl, by go_num, HI2, HE2, H⟩
      case measure => rw [Hgk.out]; omega
    · obtain rfl : k = t := by omega
      have HRJ : Hid (R = j) := by show _ = _; rw [HE.out, Nat.sub_self, liftN_zero]
      clear HE
      go_wp2
      go_ret
      rw [HRJ.out]
      exact ⟨rfl, H.out.to⟩

end Go.Proofs.Ytelnhhbefdfeoaa
