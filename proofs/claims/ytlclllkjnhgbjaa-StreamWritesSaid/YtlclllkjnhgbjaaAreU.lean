/- The document's Whole. -/
import Derived.Test.YtlclllkjnhgbjaaBu
import Derived.Test.YtlclllkjnhgbjaaAreK
namespace Go.Proofs.Ytlclllkjnhgbjaa
open Go.RowKit
set_option linter.unusedVariables false
set_option linter.unusedSimpArgs false


set_option maxRecDepth 100000 in
set_option maxHeartbeats 4000000 in
theorem rwhole24_any (s : Shp) (l : Row Nd) (w : World) (hs : s.rd w) (hl : l.rd w) (hdim : ∀ n ∈ l.l, n.dim < s.sz.n) (hsm : ∀ n ∈ l.l, (n.ls.l.map Row.l).flatten.length ≤ 999999) :
    Calls Try.prog 28 #[.agg s.cs, .slice l.A l.n l.c] w fun e w' => e = .returned (.bool (wholeC s.sz.n (l.l.map Nd.con))) ∧ Bel w w' := by
  have HLR := Lib.hid (fun w' (hb : Bel w w') => hl.mono hb)
  have hll : Hid (l.l.length = l.n) := hl.len
  have HDM := Lib.hid hdim
  have HSM := Lib.hid hsm
  have l63 := hl.n63
  have s63 := hs.sz.n63
  have hcs : s.cs = #[.slice s.sz.A s.sz.n s.sz.c, .int .i64 s.ms] := rfl
  have HCS := Lib.hid hcs
  have H := Lib.hid ((SL.start No w).alloc s.cs 24)
  (try simp only [List.set_cons_zero, List.set_cons_succ, List.cons_append, List.nil_append, List.eraseIdx_cons_zero, List.eraseIdx_cons_succ, List.setIfInBounds_toArray, World.size_alloc, selR, List.getD_cons_zero, List.getD_cons_succ] at H)
  obtain ⟨R, hR⟩ : ∃ R, R = wholeC s.sz.n (l.l.map Nd.con) := ⟨_, rfl⟩
  rw [← hR]
  have HR := Lib.hid hR
  obtain ⟨A, n, c, ns⟩ := l
  simp only at *
  clear hs hl hdim hsm hR hcs
  by_cases h0 : n = 0
  · subst h0
    have HV : Hid (R = true) := by show _ = _; rw [HR.out, List.eq_nil_of_length_eq_zero (l := ns.map Nd.con) (by rw [List.length_map]; exact hll.out)]; rfl
    clear HR
    go_enter Try.func28, Try.ntmps28
    go_wp2_with fail
    go_ret
    rw [HV.out]
    exact ⟨rfl, H.out.to⟩
  obtain ⟨N1, rfl⟩ : ∃ N1, n = N1 + 1 := ⟨n - 1, by omega⟩
  have e1 : (((N1 + 1 : Nat) : Int)) - 1 = N1 := by omega
  have z0 : (((N1 + 1 : Nat) : Int) == 0) = false := by simp; omega
  have z0n : (N1 + 1 == 0) = false := by simp
  obtain ⟨last, hla, hlg⟩ := getLast_get (l := ns.map Nd.con) (by intro h; have h2 := congrArg List.length h; rw [List.length_map, hll.out] at h2; simp at h2)
  have hlen : (ns.map Nd.con).length = N1 + 1 := by rw [List.length_map]; exact hll.out
  have HRW : Hid (R = (decide (last.dim = 0) && (List.range N1).all (ledTo s.sz.n (ns.map Nd.con)))) := by show _ = _; rw [HR.out, wholeC_some hlg, hlen, Nat.add_sub_cancel]
  obtain ⟨bl, ol, nl, hAl, hbl, hnk, hnr, hrg⟩ := (HLR.out _ H.out.to).ndAt (k := N1) (by show N1 < N1 + 1; omega)
  simp only at hAl hnk
  have hld : nl.dim = last.dim := by rw [hlen, Nat.add_sub_cancel, List.getElem?_map, hnk] at hla; injection hla with hla; exact congrArg NC.dim hla
  have cn : (w.alloc (.cells s.cs 24)).cell? ⟨bl, ol + N1 * 14, none⟩ = some (.int .i64 nl.dim) := hrg 0 _ rfl
  have N0 : (0 : Int) ≤ N1 := by omega
  have N2 : (N1 : Int) < ((N1 + 1 : Nat) : Int) := by omega
  have HAL := Lib.hid hAl
  have HLN := Lib.hid hlen
  rw [hAl]
  clear HR hla hlg h0 hnk hnr hrg hAl hbl hlen
  by_cases hd0 : nl.dim = 0
  · have d1 : (nl.dim != 0) = false := by simp [hd0]
    have HRA : Hid (R = (List.range N1).all (ledTo s.sz.n (ns.map Nd.con))) := by show _ = _; rw [HRW.out, ← hld, decide_eq_true hd0, Bool.true_and]
    clear HRW hd0 hld
    go_enter Try.func28, Try.ntmps28
    go_upto_region 6 with fail
    (try rw [← HCS.out] at *)
    clear cn d1 z0 z0n
    rw [← HAL.out]
    generalize w.heap.size = x at *
    generalize World.alloc w _ = w1 at *
    have HL0 : Hid (∀ i, i < 0 → ledTo s.sz.n (ns.map Nd.con) i = true) := fun i hi => absurd hi (by omega)
    go_loopg [5] N1 (fun gg s5 wr => ∃ (i : Nat), gg = N1 - i ∧ i ≤ N1 ∧ s5 = .int .i64 i ∧ Hid (∀ k, k < i → ledTo s.sz.n (ns.map Nd.con) k = true) ∧ Hid (SL No w wr [rBlk x 24 s.cs]))
    case atStart => exact ⟨0, rfl, by omega, rfl, HL0, H⟩
    case round =>
      clear HL0 H
      obtain ⟨i, hgi, hi, rfl, HL0, H⟩ := hrel
      have Hgi := Lib.hid hgi
      clear hgi
      by_cases hlt : i < N1
      · have d1 : decide ((i : Int) < (N1 : Int)) = true := by simp <;> omega
        have d1n : decide (i < N1) = true := by simp <;> omega
        have i0 : (0 : Int) ≤ i := by omega
        go_upto_region 10 with fail
        clear d1 d1n
        have HB0 : Hid (false = ledSo s.sz.n (ns.map Nd.con) 0 0 i) := (ledSo_zero _ _ _).symm
        go_loopg [6, 31] (N1 + 1) (fun gg s6 s31 wx => ∃ (j : Nat) (b : Bool), gg = N1 + 1 - j ∧ j ≤ N1 + 1 ∧ s6 = .bool b ∧ s31 = .int .i64 j ∧ Hid (b = ledSo s.sz.n (ns.map Nd.con) j 0 i) ∧ Hid (SL No w wx [rBlk x 24 s.cs]))
        case atStart => exact ⟨0, false, rfl, by omega, rfl, rfl, HB0, H⟩
        case round =>
          clear HB0 H
          obtain ⟨j, b, hgj, hj, rfl, rfl, HB, H⟩ := hrel
          have Hgj := Lib.hid hgj
          clear hgj
          by_cases hjl : j < N1 + 1
          · obtain ⟨bl, ol, t, hAl, hbl, htk, htr, hrg⟩ := (HLR.out _ H.out.to).ndAt (k := j) hjl
            simp only at hAl htk
            have htm := List.mem_of_getElem? htk
            have HKC : Hid ((ns.map Nd.con)[j]? = some t.con) := by show _ = _; rw [List.getElem?_map, htk]; rfl
            have HEA := Lib.hid (fun w' (hb : Bel w w') => reach_any t w' ((HLR.out w' hb).all t htm) (HSM.out t htm))
            have HOK := Lib.hid (nd_cells htr)
            have hel : (eachN t.con).length ≤ 1000000 := by have h := HSM.out t htm; unfold eachN; rw [List.length_append]; show _ + 1 ≤ _; have : t.con.ls = t.ls.l.map Row.l := rfl; rw [this]; omega
            have htd := HDM.out t htm
            have HRG := Lib.hid hrg
            have j0 : (0 : Int) ≤ j := by omega
            have j1 : (j : Int) < ((N1 + 1 : Nat) : Int) := by omega
            have t64 := htr.dim
            unfold I64 at t64
            have HA2 := Lib.hid hAl
            rw [hAl]
            clear htk htr hrg hAl htm
            go_upto_region 12 with (first | ((with_reducible show wpList _ _ _ (⟨some 34, _, _, _, _, _⟩ :: _) _ _); (refine wpList_load_row_at rfl rowNd (.tmp 33) rfl bl (ol + j * 14) rfl t.cs rfl HRG.out ?_)) | ((with_reducible show wpList _ _ _ (⟨_, .store _ (.tmp 8) _, _, _, _, _⟩ :: _) _ _); (refine wpList_store_new rfl rowNd (.tmp 8) (.tmp 34) rfl rfl rfl (t.cs) rfl rfl (nd_one t) ?_; replace H := Lib.hid (H.out.alloc (t.cs) 34); (try simp only [List.set_cons_zero, List.set_cons_succ, List.cons_append, List.nil_append, List.eraseIdx_cons_zero, List.eraseIdx_cons_succ, List.setIfInBounds_toArray, World.size_alloc, selR, List.getD_cons_zero, List.getD_cons_succ] at H))))
            (try simp only [Act.put, List.setIfInBounds_toArray, List.set_cons_zero, List.set_cons_succ])
            clear HRG hbl
            generalize wr.heap.size = u at *
            generalize World.alloc wr _ = w2 at *
            go_wp2_with ((with_reducible show wpList _ _ _ (⟨some 35, _, _, _, _, _⟩ :: _) _ _); (refine wpList_load_blk rfl rowNd (.tmp 8) rfl _ rfl (H.out.blk 1 rfl) rfl ?_))
            refine (HEA.out _ H.out.to).mono ?_; rintro e w6 ⟨CA, cp, rfl, hb6, ho6⟩
            replace H := Lib.hid (H.out.addRow hb6 ho6); (try simp only [List.set_cons_zero, List.set_cons_succ, List.cons_append, List.nil_append, List.eraseIdx_cons_zero, List.eraseIdx_cons_succ, List.setIfInBounds_toArray, World.size_alloc, selR, List.getD_cons_zero, List.getD_cons_succ] at H)
            clear hb6 ho6 HEA
            obtain ⟨m, hm⟩ : ∃ m, m = (eachN t.con).length := ⟨_, rfl⟩
            rw [← hm] at H hel ⊢
            have HM := Lib.hid hm
            clear hm
            have HCR : Hid (∀ w', SL No w w' [rBlk x 24 s.cs, rBlk u 34 t.cs, rRow 32 12 (.slice CA m cp) m ((eachN t.con).flatMap Cel.cells)] → (Row.mk CA m cp (eachN t.con) : Row Cl).rd w') := fun w' h => Row.ok.rds (own_ok (x := ⟨CA, m, cp, eachN t.con⟩) (h.row 2 rfl) HOK.out (by show m * 96 ≤ _; omega))
            go_upto_region 13 with fail
            go_loopg [6, 38] m (fun gg s6 s38 wx => ∃ (q : Nat) (b : Bool), gg = m - q ∧ q ≤ m ∧ s6 = .bool b ∧ s38 = .int .i64 q ∧ Hid (b = ledSo s.sz.n (ns.map Nd.con) j q i) ∧ Hid (SL No w wx [rBlk x 24 s.cs, rBlk u 34 t.cs, rRow 32 12 (.slice CA m cp) m ((eachN t.con).flatMap Cel.cells)]))
            case atStart => exact ⟨0, b, rfl, by omega, rfl, rfl, HB, H⟩
            case round =>
              clear HB H
              obtain ⟨q, b, hgq, hq, rfl, rfl, HB, H⟩ := hrel
              have Hgq := Lib.hid hgq
              clear hgq
              by_cases hql : q < m
              · obtain ⟨b4, o4, c, hA4, hb4, hck, hcok, hrg⟩ := (HCR.out _ H.out).clAt (k := q) hql
                simp only at hA4 hck
                have HCK := Lib.hid hck
                have HRG := Lib.hid hrg
                have c64 := hcok.ch
                unfold I64 at c64
                have q0 : (0 : Int) ≤ q := by omega
                have q1 : (q : Int) < m := by omega
                have HA4 := Lib.hid hA4
                rw [hA4]
                clear hck hcok hrg hA4
                go_upto_region 15 with (first | ((with_reducible show wpList _ _ _ (⟨some 41, _, _, _, _, _⟩ :: _) _ _); (refine wpList_load_row_at rfl rowCl (.tmp 40) rfl b4 (o4 + q * 12) rfl c.cs rfl HRG.out ?_)) | ((with_reducible show wpList _ _ _ (⟨_, .store _ (.tmp 10) _, _, _, _, _⟩ :: _) _ _); (refine wpList_store_new rfl rowCl (.tmp 10) (.tmp 41) rfl rfl rfl (c.cs) rfl rfl (cl_one c) ?_; replace H := Lib.hid (H.out.alloc (c.cs) 32); (try simp only [List.set_cons_zero, List.set_cons_succ, List.cons_append, List.nil_append, List.eraseIdx_cons_zero, List.eraseIdx_cons_succ, List.setIfInBounds_toArray, World.size_alloc, selR, List.getD_cons_zero, List.getD_cons_succ] at H))))
                (try simp only [Act.put, List.setIfInBounds_toArray, List.set_cons_zero, List.set_cons_succ])
                clear HRG hb4
                generalize wr.heap.size = u2 at *
                generalize World.alloc wr _ = w7 at *
                cases b with
                | true =>
                  have HN : Hid (true = ledSo s.sz.n (ns.map Nd.con) j (q + 1) i) := by
                    show _ = _
                    rw [ledSo_cell HKC.out HCK.out, ← HB.out]
                    rfl
                  clear HB
                  replace H := Lib.hid (H.out.sel [0, 1, 2] (by decide) (by simp)); (try simp only [List.set_cons_zero, List.set_cons_succ, List.cons_append, List.nil_append, List.eraseIdx_cons_zero, List.eraseIdx_cons_succ, List.setIfInBounds_toArray, World.size_alloc, selR, List.getD_cons_zero, List.getD_cons_succ] at H)
                  go_wp2_with fail
                  rw [← HA4.out]
                  go_roundg (m - (q + 1))
                  case rel => exact ⟨q + 1, true, rfl, by omega, rfl, by go_num, HN, H⟩
                  case measure => rw [Hgq.out]; omega
                | false =>
                  have cd : w7.cell? ⟨u, 0, none⟩ = some (.int .i64 t.dim) := (H.out.blk 1 rfl).cell 0
                  have cs : w7.cell? ⟨x, 0, none⟩ = some (.slice s.sz.A s.sz.n s.sz.c) := (H.out.blk 0 rfl).cell 0
                  have cc : w7.cell? ⟨u2, 1, none⟩ = some (.int .i64 c.ch) := (H.out.blk 3 rfl).cell 1
                  by_cases hd : t.dim = (s.sz.n : Int) - 1
                  · have d1 : decide (t.dim < (s.sz.n : Int) - 1) = false := by simp <;> omega
                    have HND : Hid (decide (t.con.dim ≠ (s.sz.n : Int) - 1) = false) := decide_eq_false (by rw [show t.con.dim = t.dim from rfl, hd]; simp)
                    clear hd
                    have HN : Hid (false = ledSo s.sz.n (ns.map Nd.con) j (q + 1) i) := by
                      show _ = _
                      rw [ledSo_cell HKC.out HCK.out, ← HB.out]
                      rw [HND.out]; rfl
                    clear HB
                    replace H := Lib.hid (H.out.sel [0, 1, 2] (by decide) (by simp)); (try simp only [List.set_cons_zero, List.set_cons_succ, List.cons_append, List.nil_append, List.eraseIdx_cons_zero, List.eraseIdx_cons_succ, List.setIfInBounds_toArray, World.size_alloc, selR, List.getD_cons_zero, List.getD_cons_succ] at H)
                    go_wp2_with fail
                    rw [← HA4.out]
                    go_roundg (m - (q + 1))
                    case rel => exact ⟨q + 1, false, rfl, by omega, rfl, by go_num, HN, H⟩
                    case measure => rw [Hgq.out]; omega
                  · have d1 : decide (t.dim < (s.sz.n : Int) - 1) = true := by simp <;> omega
                    have HND : Hid (decide (t.con.dim ≠ (s.sz.n : Int) - 1) = true) := decide_eq_true (show t.dim ≠ _ from hd)
                    clear hd
                    by_cases hci : c.ch = (i : Int)
                    · have d2 : (c.ch == (i : Int)) = true := by simpa using hci
                      have HCI : Hid (decide (c.ch = (i : Int)) = true) := decide_eq_true hci
                      clear hci
                      have HN : Hid (true = ledSo s.sz.n (ns.map Nd.con) j (q + 1) i) := by
                        show _ = _
                        rw [ledSo_cell HKC.out HCK.out, ← HB.out]
                        rw [HND.out, HCI.out]; rfl
                      clear HB
                      replace H := Lib.hid (H.out.sel [0, 1, 2] (by decide) (by simp)); (try simp only [List.set_cons_zero, List.set_cons_succ, List.cons_append, List.nil_append, List.eraseIdx_cons_zero, List.eraseIdx_cons_succ, List.setIfInBounds_toArray, World.size_alloc, selR, List.getD_cons_zero, List.getD_cons_succ] at H)
                      go_wp2_with fail
                      rw [← HA4.out]
                      go_roundg (m - (q + 1))
                      case rel => exact ⟨q + 1, true, rfl, by omega, rfl, by go_num, HN, H⟩
                      case measure => rw [Hgq.out]; omega
                    · have d2 : (c.ch == (i : Int)) = false := by simpa using hci
                      have HCI : Hid (decide (c.ch = (i : Int)) = false) := decide_eq_false hci
                      clear hci
                      have HN : Hid (false = ledSo s.sz.n (ns.map Nd.con) j (q + 1) i) := by
                        show _ = _
                        rw [ledSo_cell HKC.out HCK.out, ← HB.out]
                        rw [HND.out, HCI.out]; rfl
                      clear HB
                      replace H := Lib.hid (H.out.sel [0, 1, 2] (by decide) (by simp)); (try simp only [List.set_cons_zero, List.set_cons_succ, List.cons_append, List.nil_append, List.eraseIdx_cons_zero, List.eraseIdx_cons_succ, List.setIfInBounds_toArray, World.size_alloc, selR, List.getD_cons_zero, List.getD_cons_succ] at H)
                      go_wp2_with fail
                      rw [← HA4.out]
                      go_roundg (m - (q + 1))
                      case rel => exact ⟨q + 1, false, rfl, by omega, rfl, by go_num, HN, H⟩
                      case measure => rw [Hgq.out]; omega
              · obtain rfl : q = m := by omega
                have HN : Hid (b = ledSo s.sz.n (ns.map Nd.con) (j + 1) 0 i) := by show _ = _; rw [ledSo_next HKC.out, ← HM.out]; exact HB.out
                clear HB
                replace H := Lib.hid (H.out.sel [0] (by decide) (by simp)); (try simp only [List.set_cons_zero, List.set_cons_succ, List.cons_append, List.nil_append, List.eraseIdx_cons_zero, List.eraseIdx_cons_succ, List.setIfInBounds_toArray, World.size_alloc, selR, List.getD_cons_zero, List.getD_cons_succ] at H)
                rw [← HA2.out]
                go_wp2_with fail
                go_roundg (N1 + 1 - (j + 1))
                case rel => exact ⟨j + 1, b, rfl, by omega, rfl, by go_num, HN, H⟩
                case measure => rw [Hgj.out]; omega
          · obtain rfl : j = N1 + 1 := by omega
            have HBL : Hid (b = ledTo s.sz.n (ns.map Nd.con) i) := by
              have h := ledSo_all (nd := s.sz.n) (l := ns.map Nd.con) i
              rw [HLN.out] at h
              exact HB.out.trans h
            clear HB
            cases b with
            | false =>
              have HV : Hid (R = false) := by
                show _ = _
                rw [HRA.out, List.all_eq_false]
                exact ⟨i, List.mem_range.2 hlt, by rw [← HBL.out]; simp⟩
              clear HRA HL0
              go_wp2_with fail
              go_ret
              rw [HV.out]
              exact ⟨rfl, H.out.to⟩
            | true =>
              have HL2 : Hid (∀ k, k < i + 1 → ledTo s.sz.n (ns.map Nd.con) k = true) := fun k hk => by
                rcases (show k < i ∨ k = i by omega) with h | h
                · exact HL0.out k h
                · rw [h]; exact HBL.out.symm
              clear HL0 HBL
              go_wp2_with fail
              go_roundg (N1 - (i + 1))
              case rel => exact ⟨i + 1, rfl, by omega, by go_num, HL2, H⟩
              case measure => rw [Hgi.out]; omega
      · obtain rfl : i = N1 := by omega
        have HV : Hid (R = true) := by
          show _ = _
          rw [HRA.out, List.all_eq_true]
          exact fun k hk => HL0.out k (List.mem_range.1 hk)
        have d1 : decide ((i : Int) < (i : Int)) = false := by simp
        clear HRA HL0
        go_wp2_with fail
        go_ret
        rw [HV.out]
        exact ⟨rfl, H.out.to⟩
  · have d1 : (nl.dim != 0) = true := by simpa using hd0
    have HV : Hid (R = false) := by show _ = _; rw [HRW.out, ← hld, decide_eq_false hd0]; rfl
    clear HRW hd0 hld
    go_enter Try.func28, Try.ntmps28
    go_wp2_with fail
    go_ret
    rw [HV.out]
    exact ⟨rfl, H.out.to⟩

end Go.Proofs.Ytlclllkjnhgbjaa
