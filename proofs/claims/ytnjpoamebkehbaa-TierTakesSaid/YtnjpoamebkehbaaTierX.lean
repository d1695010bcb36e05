/- The document's tiers: whether one may be; whether it is small. -/
import Derived.Test.YtnjpoamebkehbaaTierW
namespace Go.Proofs.Ytnjpoamebkehbaa
open Go.RowKit
set_option linter.unusedVariables false
set_option linter.unusedSimpArgs false

set_option maxRecDepth 100000 in
set_option maxHeartbeats 1000000 in
theorem rin_any (A : Option Addr) (n c : Nat) (up : List Int) (x : Int) (w : World) (hr : Rd w 1 A n (up.map (Value.int .i64))) (hn : n ≤ 9223372036854775806) :
    Calls Try.prog 135 #[.slice A n c, .int .i64 x] w fun e w' => e = .returned (.bool (up.contains x)) ∧ w = w' := by
  have hlen : Hid (up.length = n) := by have := hr.len; show _ = _; simpa using this
  have HF0 : Hid (up.contains x = (up.drop 0).contains x) := rfl
  go_enter Try.func135, Try.ntmps135
  go_wp2
  go_loopg [9] n (fun gg i wr => ∃ k : Nat, gg = n - k ∧ k ≤ n ∧ i = .int .i64 k ∧ wr = w ∧ Hid (up.contains x = (up.drop k).contains x))
  case atStart => exact ⟨0, rfl, by omega, rfl, rfl, HF0⟩
  case round =>
    clear HF0
    obtain ⟨k, hgk, hk, rfl, rfl, hF⟩ := hrel
    have Hgk := Lib.hid hgk
    clear hgk
    by_cases hlt : k < n
    · obtain ⟨ad, z, rfl, hz, hc⟩ := Rd.intC hr hlt
      have hd : up.drop k = z :: up.drop (k + 1) := by
        obtain ⟨hk', rfl⟩ := List.getElem?_eq_some_iff.1 hz
        exact List.drop_eq_getElem_cons hk'
      by_cases hzx : z = x
      · have HN : Hid (up.contains x = true) := by show _ = _; rw [hF.out, hd, hzx]; simp
        have e1 : (z == x) = true := by simp [hzx]
        clear hF hd hz hzx
        go_wp2
        go_ret
        rw [HN.out]
        exact ⟨rfl, rfl⟩
      · have HN : Hid (up.contains x = (up.drop (k + 1)).contains x) := by
          show _ = _
          rw [hF.out, hd, List.contains_cons]
          have : (x == z) = false := by simp; exact fun e => hzx e.symm
          rw [this, Bool.false_or]
        have e1 : (z == x) = false := by simp [hzx]
        clear hF hd hz hzx
        go_wp2
        go_roundg (n - (k + 1))
        case rel => exact ⟨k + 1, rfl, by omega, by go_num, rfl, HN⟩
        case measure => rw [Hgk.out]; omega
    · have HN : Hid (up.contains x = false) := by show _ = _; rw [hF.out, List.drop_of_length_le (by have := hlen.out; omega)]; rfl
      clear hF
      go_wp2
      go_ret
      rw [HN.out]
      exact ⟨rfl, rfl⟩

theorem addI_len (xs : List Int) : ∀ acc : List Int, (xs.foldl addI acc).length ≤ acc.length + xs.length := by
  induction xs with
  | nil => intro acc; simp
  | cons x xs ih =>
    intro acc
    rw [List.foldl_cons]
    have h1 := ih (addI acc x)
    have h2 : (addI acc x).length ≤ acc.length + 1 := by unfold addI; split <;> simp
    simp only [List.length_cons]
    omega
theorem all_dropI {up : List Int} {above : Int} {k : Nat} {z : Int} (hz : up[k]? = some z) : (up.drop k).all (fun n => decide (0 ≤ n ∧ n < above)) = (decide (0 ≤ z ∧ z < above) && (up.drop (k + 1)).all (fun n => decide (0 ≤ n ∧ n < above))) := by
  obtain ⟨hk', rfl⟩ := List.getElem?_eq_some_iff.1 hz
  rw [List.drop_eq_getElem_cons hk', List.all_cons]

set_option maxRecDepth 100000 in
set_option maxHeartbeats 1000000 in
theorem rtree_any (t : Tir) (above : Int) (w : World) (ht : t.rd w) (hn : t.ts.n ≤ 200) (ha : I64 above) :
    Calls Try.prog 87 #[.agg t.cs, .int .i64 above] w fun e w' => e = .returned (.bool (treeOk t.up.l t.ts.n above)) ∧ Bel w w' := by
  have hW := (Bel.refl w).alloc (.cells t.cs 30)
  have h1 := ht.mono hW
  obtain ⟨hnm, hts, hup⟩ := ht
  have htl : Hid (t.ts.l.length = t.ts.n) := hts.len
  have hul : Hid (t.up.l.length = t.up.n) := hup.len
  have hn63 := hts.n63
  have hu63 := hup.n63
  obtain ⟨nm, ⟨A, n, c, ts⟩, ⟨A2, n2, c2, up⟩⟩ := t
  simp only [Tir.cs, Tir.con] at *
  have HR := Lib.hid h1.ts.texts
  have HX := Lib.hid h1.ts.txok
  have HU := Lib.hid h1.up.ints
  have HUI := Lib.hid h1.up.all
  have HW := Lib.hid hW
  clear hW h1 hts hup
  obtain ⟨a0, a1⟩ := ha
  have hBK := Blk.new w 30 #[.string ⟨nm.toArray⟩, .slice A n c, .slice A2 n2 c2]
  by_cases h0 : above ≤ 0
  · have HT : Hid (treeOk up n above = decide (n2 = 0)) := by
      show _ = _
      rw [treeOk_top h0, ← hul.out]
      cases up <;> simp
    go_enter Try.func87, Try.ntmps87
    go_wp2
    go_ret
    rw [HT.out]
    refine ⟨ret_bool ?_, HW.out⟩
    by_cases h : n2 = 0 <;> simp [h]
  · have d0 : decide (above ≤ 0) = false := by simp; omega
    by_cases hl : n2 = n
    · subst hl
      by_cases h200 : 200 < above
      · have d2 : decide ((200 : Int) < above) = true := by simp; omega
        have HF : Hid (treeOk up n2 above = false) := by
          show _ = _
          rw [← Bool.not_eq_true]
          intro hT
          obtain ⟨b1, b2, b3⟩ := treeOk_up (by omega) hT
          have := (addI_cover (xs := up) (above := above) (by omega) b2)
          have h4 : (List.range above.toNat).all (fun i => up.contains (i : Int)) = true := by
            rw [List.all_eq_true]
            intro i hi
            have := b3 i (by have := List.mem_range.1 hi; omega)
            simpa using this
          rw [h4] at this
          simp only [decide_eq_true_eq] at this
          have h5 := addI_len up []
          simp at h5
          omega
        go_enter Try.func87, Try.ntmps87
        go_wp2
        go_ret
        rw [HF.out]
        exact ⟨rfl, HW.out⟩
      · have d2 : decide ((200 : Int) < above) = false := by simp; omega
        have HT : Hid (treeOk up n2 above = ((up.drop 0).all (fun n => decide (0 ≤ n ∧ n < above)) && (List.range above.toNat).all (fun i => up.contains (i : Int)))) := by
          show _ = _
          unfold treeOk
          rw [if_neg h0, hul.out]
          simp
        go_enter Try.func87, Try.ntmps87
        go_wp2_with fail
        have hzz : w.heap.size < (w.alloc (.cells #[.string ⟨nm.toArray⟩, .slice A n2 c, .slice A2 n2 c2] 30)).heap.size := by simp
        have cu := hBK.cell 2
        simp only [List.getElem?_toArray, List.getElem?_cons_succ, List.getElem?_cons_zero] at cu
        generalize w.alloc (.cells #[.string ⟨nm.toArray⟩, .slice A n2 c, .slice A2 n2 c2] 30) = W at *
        clear hBK
        go_loopg [28] n2 (fun gg i wr => ∃ k : Nat, gg = n2 - k ∧ k ≤ n2 ∧ i = .int .i64 k ∧ wr = W ∧ Hid (treeOk up n2 above = ((up.drop k).all (fun n => decide (0 ≤ n ∧ n < above)) && (List.range above.toNat).all (fun i => up.contains (i : Int)))))
        case atStart => exact ⟨0, rfl, by omega, rfl, rfl, HT⟩
        case round =>
          clear HT
          obtain ⟨k, hgk, hk, rfl, rfl, hF⟩ := hrel
          have Hgk := Lib.hid hgk
          clear hgk
          by_cases hlt : k < n2
          · obtain ⟨ad, z, rfl, hz, hc⟩ := Rd.intC HU.out hlt
            obtain ⟨z0, z1⟩ := HUI.out z (List.mem_of_getElem? hz)
            have HS := Lib.hid (all_dropI (above := above) hz)
            clear hz
            by_cases hz0 : 0 ≤ z
            · by_cases hz1 : z < above
              · have HN : Hid (treeOk up n2 above = ((up.drop (k + 1)).all (fun n => decide (0 ≤ n ∧ n < above)) && (List.range above.toNat).all (fun i => up.contains (i : Int)))) := by
                  show _ = _
                  rw [hF.out, HS.out]
                  simp [hz0, hz1]
                clear hF HS
                go_wp2
                go_roundg (n2 - (k + 1))
                case rel => exact ⟨k + 1, rfl, by omega, by go_num, rfl, HN⟩
                case measure => rw [Hgk.out]; omega
              · have HN : Hid (treeOk up n2 above = false) := by show _ = _; rw [hF.out, HS.out]; simp [hz1]
                clear hF HS
                go_wp2
                go_ret
                rw [HN.out]
                exact ⟨rfl, HW.out⟩
            · have HN : Hid (treeOk up n2 above = false) := by show _ = _; rw [hF.out, HS.out]; simp [hz0]
              clear hF HS
              go_wp2
              go_ret
              rw [HN.out]
              exact ⟨rfl, HW.out⟩
          · have HN : Hid (treeOk up n2 above = (List.range' 0 (above.toNat - 0)).all (fun i => up.contains (i : Int))) := by
              show _ = _
              rw [hF.out, List.drop_of_length_le (by have := hul.out; omega), List.range_eq_range']
              simp
            clear hF
            go_wp2_with fail
            go_loopg [7] above.toNat (fun gg i wx => ∃ k : Nat, gg = above.toNat - k ∧ (k : Int) ≤ above ∧ i = .int .i64 k ∧ wx = wr ∧ Hid (treeOk up n2 above = (List.range' k (above.toNat - k)).all (fun i => up.contains (i : Int))))
            case atStart => exact ⟨0, rfl, by omega, rfl, rfl, HN⟩
            case round =>
              clear HN
              obtain ⟨j, hgj, hj, rfl, rfl, hF⟩ := hrel
              have Hgj := Lib.hid hgj
              clear hgj
              by_cases hjl : (j : Int) < above
              · have HS : Hid ((List.range' j (above.toNat - j)).all (fun i => up.contains (i : Int)) = (up.contains (j : Int) && (List.range' (j + 1) (above.toNat - (j + 1))).all (fun i => up.contains (i : Int)))) := by
                  show _ = _
                  rw [show above.toNat - j = (above.toNat - (j + 1)) + 1 by omega, List.range'_succ, List.all_cons]
                go_wp2_with fail
                refine (rin_any A2 n2 c2 up j _ HU.out (by omega)).mono ?_; rintro e w1 ⟨rfl, rfl⟩
                cases hC : up.contains (j : Int) with
                | false =>
                  have HN : Hid (treeOk up n2 above = false) := by show _ = _; rw [hF.out, HS.out, hC]; rfl
                  clear hF HS hC
                  go_wp2
                  go_ret
                  rw [HN.out]
                  exact ⟨rfl, HW.out⟩
                | true =>
                  have HN : Hid (treeOk up n2 above = (List.range' (j + 1) (above.toNat - (j + 1))).all (fun i => up.contains (i : Int))) := by show _ = _; rw [hF.out, HS.out, hC]; rfl
                  clear hF HS hC
                  go_wp2
                  go_roundg (above.toNat - (j + 1))
                  case rel => exact ⟨j + 1, rfl, by omega, by go_num, rfl, HN⟩
                  case measure => rw [Hgj.out]; omega
              · have HN : Hid (treeOk up n2 above = true) := by show _ = _; rw [hF.out, show above.toNat - j = 0 by omega]; rfl
                clear hF
                go_wp2
                go_ret
                rw [HN.out]
                exact ⟨rfl, HW.out⟩
    · have HF : Hid (treeOk up n above = false) := by
        show _ = _
        unfold treeOk
        rw [if_neg h0, hul.out]
        simp [hl]
      have dl : ((n2 : Int) != (n : Int)) = true := by simp; omega
      have dl2 : ((n2 : Int) == (n : Int)) = false := by simp; omega
      go_enter Try.func87, Try.ntmps87
      go_wp2
      go_ret
      rw [HF.out]
      exact ⟨rfl, HW.out⟩

set_option maxRecDepth 100000 in
set_option maxHeartbeats 1000000 in
theorem trwrong_any (t : Tir) (above : Int) (w : World) (ht : t.rd w) (ha : I64 above) :
    Calls Try.prog 23 #[.agg t.cs, .int .i64 above] w fun e w' => e = .returned (.int .i64 (tierErr t.con above)) ∧ Bel w w' := by
  have HTR := Lib.hid (fun (hl : t.ts.n ≤ 200) w' (hb : Bel w w') => rtree_any t above w' (ht.mono hb) hl ha)
  have hW := (Bel.refl w).alloc (.cells t.cs 30)
  have h1 := ht.mono hW
  obtain ⟨hnm, hts, hup⟩ := ht
  have htl : Hid (t.ts.l.length = t.ts.n) := hts.len
  have hul : Hid (t.up.l.length = t.up.n) := hup.len
  have hn63 := hts.n63
  obtain ⟨nm, ⟨A, n, c, ts⟩, ⟨A2, n2, c2, up⟩⟩ := t
  simp only [Tir.cs, Tir.con] at *
  have HR := Lib.hid h1.ts.texts
  have HX := Lib.hid h1.ts.txok
  have HU := Lib.hid h1.up.ints
  have HUI := Lib.hid h1.up.all
  have HW := Lib.hid hW
  clear hW h1 hts hup
  cases hN : isName nm with
  | false =>
    have HE : Hid (tierErr ⟨nm, ts, up⟩ above = 2) := by show _ = _; unfold tierErr; simp [hN]
    go_enter Try.func23, Try.ntmps23
    go_wp2_with fail
    refine (rname_any nm _ (by omega)).mono ?_; rintro e w1 ⟨rfl, rfl⟩
    rw [hN]
    go_wp2
    go_ret
    rw [HE.out]
    exact ⟨rfl, HW.out⟩
  | true =>
    by_cases hl : 1 ≤ n ∧ n ≤ 200
    · obtain ⟨hl1, hl2⟩ := hl
      have d1 : decide ((n : Int) < 1) = false := by simp; omega
      have d2 : decide ((200 : Int) < n) = false := by simp; omega
      have HTR2 := Lib.hid (HTR.out hl2)
      clear HTR
      by_cases hE : rowErr ts = 0
      · have HE : Hid (tierErr ⟨nm, ts, up⟩ above = if treeOk up n above then 0 else 14) := by
          show _ = _
          unfold tierErr
          simp only [hN, if_true]
          rw [if_neg (by have := htl.out; omega), if_neg (by omega), htl.out]
        have HE0 := Lib.hid hE
        clear hE
        go_enter Try.func23, Try.ntmps23
        go_wp2_with fail
        refine (rname_any nm _ (by omega)).mono ?_; rintro e w1 ⟨rfl, rfl⟩
        rw [hN]
        go_wp2_with fail
        refine (rtrow_any A n c ts _ HR.out HX.out (by omega)).mono ?_; rintro e w1 ⟨rfl, hb1⟩
        rw [HE0.out]
        have q1 := ((Blk.new w 30 #[.string ⟨nm.toArray⟩, .slice A n c, .slice A2 n2 c2]).bel hb1)
        have HB1 := Lib.hid (HW.out.trans hb1)
        clear hb1
        go_wp2_with ((with_reducible show wpList _ _ _ (⟨some 26, _, _, _, _, _⟩ :: _) _ _); refine wpList_load_blk rfl rowTir (.tmp 2) rfl w.heap.size rfl q1 rfl ?_)
        refine (HTR2.out _ HB1.out).mono ?_; rintro e w2 ⟨rfl, hb2⟩
        cases hT : treeOk up n above with
        | false =>
          rw [hT] at HE
          go_wp2
          go_ret
          rw [HE.out]
          exact ⟨rfl, HB1.out.trans hb2⟩
        | true =>
          rw [hT] at HE
          go_wp2
          go_ret
          rw [HE.out]
          exact ⟨rfl, HB1.out.trans hb2⟩
      · have HE : Hid (tierErr ⟨nm, ts, up⟩ above = rowErr ts) := by
          show _ = _
          unfold tierErr
          simp only [hN, if_true]
          rw [if_neg (by have := htl.out; omega), if_pos hE]
        have dE : (rowErr ts != 0) = true := by simpa using hE
        have dE2 : (rowErr ts == 0) = false := by simpa using hE
        clear hE
        go_enter Try.func23, Try.ntmps23
        go_wp2_with fail
        refine (rname_any nm _ (by omega)).mono ?_; rintro e w1 ⟨rfl, rfl⟩
        rw [hN]
        go_wp2_with fail
        refine (rtrow_any A n c ts _ HR.out HX.out (by omega)).mono ?_; rintro e w1 ⟨rfl, hb1⟩
        go_wp2
        go_ret
        rw [HE.out]
        exact ⟨rfl, HW.out.trans hb1⟩
    · have HE : Hid (tierErr ⟨nm, ts, up⟩ above = 5) := by
        show _ = _
        unfold tierErr
        simp only [hN, if_true]
        rw [if_pos (by have := htl.out; omega)]
      rcases (show n < 1 ∨ (1 ≤ n ∧ 200 < n) by omega) with h | ⟨h, h'⟩
      all_goals
        first | (have d1 : decide ((n : Int) < 1) = true := by simp; omega) | (have d1 : decide ((n : Int) < 1) = false := by simp; omega)
        first | (have d2 : decide ((200 : Int) < n) = true := by simp; omega) | (have d2 : decide ((200 : Int) < n) = false := by simp; omega)
        clear hl
        go_enter Try.func23, Try.ntmps23
        go_wp2_with fail
        refine (rname_any nm _ (by omega)).mono ?_; rintro e w1 ⟨rfl, rfl⟩
        rw [hN]
        go_wp2
        go_ret
        rw [HE.out]
        exact ⟨rfl, HW.out⟩

end Go.Proofs.Ytnjpoamebkehbaa
