/- agg.Put, and the document's. -/
import Derived.Test.YtllgcehgdpgnnaaAggS
import Derived.Test.YtllgcehgdpgnnaaAggB
import Derived.Test.YtllgcehgdpgnnaaAggN
import Derived.Test.YtllgcehgdpgnnaaMemB
import Derived.Test.YtllgcehgdpgnnaaTail
import Derived.Test.YtllgcehgdpgnnaaTakeE
namespace Go.Proofs.Ytllgcehgdpgnnaa
open Go.RowKit
set_option linter.unusedVariables false
set_option linter.unusedSimpArgs false

theorem prt_range {w : World} {g : Nat} {t : TypeId} {a : Ag} (h : Blk w g t a.cs) {k : Nat} (hk : k < 3) : w.rangeAt g (1 + k * 3) [.int .i64 (a.prt k).s, .int .i64 (a.prt k).mn, .int .i64 (a.prt k).mx] := by
  intro j v hv
  have hc := fun i => h.cell i
  rcases (show k = 0 ∨ k = 1 ∨ k = 2 by omega) with rfl | rfl | rfl <;>
  · rcases (show j = 0 ∨ j = 1 ∨ j = 2 ∨ 3 ≤ j by omega) with rfl | rfl | rfl | hj
    · rw [hc]; simpa [Ag.cs, Ag.prt] using hv
    · rw [hc]; simpa [Ag.cs, Ag.prt] using hv
    · rw [hc]; simpa [Ag.cs, Ag.prt] using hv
    · rw [List.getElem?_eq_none (by simpa using hj)] at hv; cases hv
theorem prt_ok {a : Ag} (h : a.ok) (k : Nat) : (a.prt k).ok := by
  unfold Ag.prt
  split
  · exact h.p
  · exact h.q
  · exact h.r
theorem putsFrom_step {a : Ag} {k m : Nat} (h : k < m) : putsFrom a k (m - k) = prtPut a.c (a.prt k) ++ putsFrom a (k + 1) (m - (k + 1)) := by
  rw [show m - k = (m - (k + 1)) + 1 by omega]
  rfl

set_option maxRecDepth 100000 in
set_option maxHeartbeats 1000000 in
theorem aput_any (a : Ag) (m : Int) (w : World) (ha : a.ok) (hm : I64 m) :
    Calls Try.prog 60 #[.int .i64 m, .agg a.cs] w fun e w' => e = .returned (.tuple #[.string ⟨(agPutV m a).1.toArray⟩, .int .i64 (agPutV m a).2]) ∧ Bel w w' := by
  have HM := Lib.hid (fun w => may_any a m w hm)
  have Ha := Lib.hid ha
  have hc0 := ha.c
  have ea : a.cs = #[.int .i64 a.c, .int .i64 a.p.s, .int .i64 a.p.mn, .int .i64 a.p.mx, .int .i64 a.q.s, .int .i64 a.q.mn, .int .i64 a.q.mx, .int .i64 a.r.s, .int .i64 a.r.mn, .int .i64 a.r.mx] := rfl
  have b0 := Blk.new w 92 a.cs
  have hW := (Bel.refl w).alloc (.cells a.cs 92)
  cases hA : mayAg m a with
  | false =>
    have HV : Hid (agPutV m a = ([], 2)) := by show _ = _; unfold agPutV; rw [hA]; rfl
    rw [hA] at HM
    rw [ea] at *
    clear hA ea b0
    go_enter Try.func60, Try.ntmps60
    go_wp2_with fail
    refine (HM.out _).mono ?_; rintro e w1 ⟨rfl, hb⟩
    go_wp2
    go_ret2
    rw [HV.out]
    exact ⟨rfl, hW.trans hb⟩
  | true =>
    obtain ⟨h0, h3, h1, _⟩ := mayAg_parts hA
    obtain ⟨n, rfl⟩ : ∃ n : Nat, m = n := ⟨m.toNat, by omega⟩
    have HV : Hid (agPutV n a = (agPut n a, 0)) := by show _ = _; unfold agPutV; rw [if_pos hA, Int.toNat_natCast]
    rw [hA] at HM
    have B0 := Lib.hid b0
    have HW := Lib.hid hW
    rw [ea] at HM
    rw [ea]
    clear hA ea b0 hW
    go_enter Try.func60, Try.ntmps60
    go_wp2_with fail
    refine (HM.out _).mono ?_; rintro e w1 ⟨rfl, hb⟩
    have b1 := B0.out.bel hb
    have c1 := b1.cell 0
    simp [Ag.cs] at c1
    have HB1 := Lib.hid b1
    have HW1 := Lib.hid (HW.out.trans hb)
    clear hb b1 B0 HW HM
    go_wp2_with fail
    refine (pputInt_any a.c _ hc0.1 hc0.2).mono ?_; rintro e w2 ⟨rfl, hb⟩
    have HB2 := Lib.hid (HB1.out.bel hb)
    have HW2 := Lib.hid (HW1.out.trans hb)
    clear hb HB1 HW1 c1
    go_wp2_with fail
    have HO : Hid (agPut n a = nput (nfold a.c) ++ putsFrom a 0 (n - 0)) := rfl
    go_loopg [6, 20] n (fun g o i wr => ∃ (k : Nat) (l : List UInt8), g = n - k ∧ k ≤ n ∧ i = .int .i64 k ∧ o = .string ⟨l.toArray⟩ ∧ l.length ≤ 9 + 27 * k ∧ Bel w wr ∧ Blk wr w.heap.size 92 a.cs ∧ Hid (agPut n a = l ++ putsFrom a k (n - k)))
    case atStart => exact ⟨0, _, rfl, by omega, rfl, rfl, by have := nput_le9 (nfold a.c); omega, HW2.out, HB2.out, HO⟩
    case round =>
      clear HB2 HW2 HO
      obtain ⟨k, l, hgk, hk, rfl, rfl, hl, hB, hb, hO⟩ := hrel
      have Hgk := Lib.hid hgk
      have HB := Lib.hid hB
      have Hb := Lib.hid hb
      have hlt0 := hb.lt
      have c1 := hb.cell 0
      simp [Ag.cs] at c1
      clear hgk hB
      by_cases hlt : k < n
      · have HR := Lib.hid (prt_range hb (k := k) (by omega))
        have HX := Lib.hid (prt_ok Ha.out k)
        have HN : Hid (agPut n a = (l ++ prtPut a.c (a.prt k)) ++ putsFrom a (k + 1) (n - (k + 1))) := by show _ = _; rw [hO.out, putsFrom_step hlt, List.append_assoc]
        generalize a.prt k = x at *
        clear hb hO
        have hx := HX.out.s
        have hx1 := HX.out.mn
        have hx2 := HX.out.mx
        have l1 := nput_le9 (nfold x.s)
        have l2 := nput_le9 (nfold x.mn)
        have l3 := nput_le9 (nfold x.mx)
        go_wp2_with (first | ((with_reducible show wpList _ _ _ (⟨some 23, _, _, _, _, _⟩ :: _) _ _); refine wpList_load_row_at rfl rowPart (.tmp 22) rfl w.heap.size (1 + k * 3) rfl #[.int .i64 x.s, .int .i64 x.mn, .int .i64 x.mx] rfl HR.out ?_) | ((with_reducible show wpList _ _ _ (⟨_, .store _ (.tmp 8) _, _, _, _, _⟩ :: _) _ _); refine wpList_store_new rfl rowPart (.tmp 8) (.tmp 23) rfl rfl rfl #[.int .i64 x.s, .int .i64 x.mn, .int .i64 x.mx] rfl rfl (by simp [Value.oneCell']) ?_))
        refine (pputInt_any x.s _ hx.1 hx.2).mono ?_; rintro e w3 ⟨rfl, hb3⟩
        have q3 := (Blk.new wr 89 #[.int .i64 x.s, .int .i64 x.mn, .int .i64 x.mx]).bel hb3
        obtain ⟨d0, d1, d2, _, _, _⟩ := q3.three
        have B3 := Lib.hid ((HB.out.alloc (.cells #[.int .i64 x.s, .int .i64 x.mn, .int .i64 x.mx] 89)).trans hb3)
        have b3 := (Hb.out.alloc (.cells #[.int .i64 x.s, .int .i64 x.mn, .int .i64 x.mx] 89)).bel hb3
        have c3 := b3.cell 0
        simp [Ag.cs] at c3
        have Hb3 := Lib.hid b3
        clear c1 hb3 q3 b3 HB Hb
        by_cases hc : 1 < a.c
        · have HP : Hid (prtPut a.c x = nput (nfold x.s) ++ (nput (nfold x.mn) ++ nput (nfold x.mx))) := by show _ = _; unfold prtPut; rw [if_pos hc]
          go_wp2_with fail
          have f1 := fun u : Over w3 => Over.cell d1 u
          have f2 := fun u : Over w3 => Over.cell d2 u
          refine wp_region_over (by kernel_rfl) (by kernel_rfl) ?_
          repeat (go_big_quiet_step ((go_at_call 34; exact calls_over (pputInt_any _ _ (by first | exact hx1.1 | exact hx2.1) (by first | exact hx1.2 | exact hx2.2)))))
          refine wpQuiet_nil ?_
          rintro _ ⟨u, rfl⟩
          clear f1 f2
          go_wp2
          go_roundg (n - (k + 1))
          case rel => exact ⟨k + 1, l ++ prtPut a.c x, rfl, by omega, by go_num, by rw [HP.out]; simp only [str_append, List.append_assoc], by rw [HP.out]; simp only [List.length_append]; omega, B3.out.trans u.bel, Hb3.out.bel u.bel, HN⟩
          case measure => rw [Hgk.out]; omega
        · have HP : Hid (prtPut a.c x = nput (nfold x.s)) := by show _ = _; unfold prtPut; rw [if_neg hc, List.append_nil]
          go_wp2
          go_roundg (n - (k + 1))
          case rel => exact ⟨k + 1, l ++ prtPut a.c x, rfl, by omega, by go_num, by rw [HP.out]; simp only [str_append], by rw [HP.out]; simp only [List.length_append]; omega, B3.out, Hb3.out, HN⟩
          case measure => rw [Hgk.out]; omega
      · have HN : Hid (agPut n a = l) := by show _ = _; rw [hO.out, show n - k = 0 by omega]; simp [putsFrom]
        clear hO
        go_wp2
        go_ret2
        rw [HV.out, HN.out]
        exact ⟨rfl, HB.out⟩

set_option maxRecDepth 100000 in
set_option maxHeartbeats 1000000 in
theorem raput_any (a : Ag) (m : Int) (w : World) (ha : a.ok) (hm : I64 m) (hA : mayAg m a = true) :
    Calls Try.prog 64 #[.int .i64 m, .agg a.cs] w fun e w' => e = .returned (.string ⟨(agPut m.toNat a).toArray⟩) ∧ Bel w w' := by
  have HM := Lib.hid (fun w => rmay_any a m w hm)
  have Ha := Lib.hid ha
  have hc0 := ha.c
  have ea : a.cs = #[.int .i64 a.c, .int .i64 a.p.s, .int .i64 a.p.mn, .int .i64 a.p.mx, .int .i64 a.q.s, .int .i64 a.q.mn, .int .i64 a.q.mx, .int .i64 a.r.s, .int .i64 a.r.mn, .int .i64 a.r.mx] := rfl
  have b0 := Blk.new w 92 a.cs
  have hW := (Bel.refl w).alloc (.cells a.cs 92)
  obtain ⟨h0, h3, h1, _⟩ := mayAg_parts hA
  obtain ⟨n, rfl⟩ : ∃ n : Nat, m = n := ⟨m.toNat, by omega⟩
  rw [Int.toNat_natCast]
  rw [hA] at HM
  have B0 := Lib.hid b0
  have HW := Lib.hid hW
  rw [ea] at HM
  rw [ea]
  clear hA ea b0 hW
  go_enter Try.func64, Try.ntmps64
  go_wp2_with fail
  refine (HM.out _).mono ?_; rintro e w1 ⟨rfl, hb⟩
  have b1 := B0.out.bel hb
  have c1 := b1.cell 0
  simp [Ag.cs] at c1
  have HB1 := Lib.hid b1
  have HW1 := Lib.hid (HW.out.trans hb)
  clear hb b1 B0 HW HM
  go_wp2_with fail
  refine (rputInt_any a.c _ hc0.1 hc0.2).mono ?_; rintro e w2 ⟨rfl, hb⟩
  have HB2 := Lib.hid (HB1.out.bel hb)
  have HW2 := Lib.hid (HW1.out.trans hb)
  clear hb HB1 HW1 c1
  go_wp2_with fail
  have HO : Hid (agPut n a = nput (nfold a.c) ++ putsFrom a 0 (n - 0)) := rfl
  go_loopg [5, 6] n (fun g o i wr => ∃ (k : Nat) (l : List UInt8), g = n - k ∧ k ≤ n ∧ i = .int .i64 k ∧ o = .string ⟨l.toArray⟩ ∧ l.length ≤ 9 + 27 * k ∧ Bel w wr ∧ Blk wr w.heap.size 92 a.cs ∧ Hid (agPut n a = l ++ putsFrom a k (n - k)))
  case atStart => exact ⟨0, _, rfl, by omega, rfl, rfl, by have := nput_le9 (nfold a.c); omega, HW2.out, HB2.out, HO⟩
  case round =>
    clear HB2 HW2 HO
    obtain ⟨k, l, hgk, hk, rfl, rfl, hl, hB, hb, hO⟩ := hrel
    have Hgk := Lib.hid hgk
    have HB := Lib.hid hB
    have Hb := Lib.hid hb
    have hlt0 := hb.lt
    have c1 := hb.cell 0
    simp [Ag.cs] at c1
    clear hgk hB
    by_cases hlt : k < n
    · have hR := prt_range hb (k := k) (by omega)
      have HX := Lib.hid (prt_ok Ha.out k)
      have HN : Hid (agPut n a = (l ++ prtPut a.c (a.prt k)) ++ putsFrom a (k + 1) (n - (k + 1))) := by show _ = _; rw [hO.out, putsFrom_step hlt, List.append_assoc]
      generalize a.prt k = x at *
      have d0 := hR 0 _ rfl
      have d1 := hR 1 _ rfl
      have d2 := hR 2 _ rfl
      simp only [Nat.add_zero] at d0
      clear hb hO hR
      have hx := HX.out.s
      have hx1 := HX.out.mn
      have hx2 := HX.out.mx
      have l1 := nput_le9 (nfold x.s)
      have l2 := nput_le9 (nfold x.mn)
      have l3 := nput_le9 (nfold x.mx)
      have i0 : (0 : Int) ≤ k := by omega
      have i1 : (k : Int) < 3 := by omega
      go_wp2_with fail
      refine (rputInt_any x.s _ hx.1 hx.2).mono ?_; rintro e w3 ⟨rfl, hb3⟩
      have B3 := Lib.hid (HB.out.trans hb3)
      have b3 := Hb.out.bel hb3
      have c3 := b3.cell 0
      simp [Ag.cs] at c3
      have Hb3 := Lib.hid b3
      replace d1 := (hb3.cell (World.block_lt_of_cell? _ _ d1)).trans d1
      replace d2 := (hb3.cell (World.block_lt_of_cell? _ _ d2)).trans d2
      clear c1 hb3 b3 HB Hb d0
      by_cases hc : 1 < a.c
      · have HP : Hid (prtPut a.c x = nput (nfold x.s) ++ (nput (nfold x.mn) ++ nput (nfold x.mx))) := by show _ = _; unfold prtPut; rw [if_pos hc]
        go_wp2_with fail
        have f1 := fun u : Over w3 => Over.cell d1 u
        have f2 := fun u : Over w3 => Over.cell d2 u
        refine wp_region_over (by kernel_rfl) (by kernel_rfl) ?_
        repeat (go_big_quiet_step ((go_at_call 41; exact calls_over (rputInt_any _ _ (by first | exact hx1.1 | exact hx2.1) (by first | exact hx1.2 | exact hx2.2)))))
        refine wpQuiet_nil ?_
        rintro _ ⟨u, rfl⟩
        clear f1 f2
        go_wp2
        go_roundg (n - (k + 1))
        case rel => exact ⟨k + 1, l ++ prtPut a.c x, rfl, by omega, by go_num, by rw [HP.out]; simp only [str_append, List.append_assoc], by rw [HP.out]; simp only [List.length_append]; omega, B3.out.trans u.bel, Hb3.out.bel u.bel, HN⟩
        case measure => rw [Hgk.out]; omega
      · have HP : Hid (prtPut a.c x = nput (nfold x.s)) := by show _ = _; unfold prtPut; rw [if_neg hc, List.append_nil]
        go_wp2
        go_roundg (n - (k + 1))
        case rel => exact ⟨k + 1, l ++ prtPut a.c x, rfl, by omega, by go_num, by rw [HP.out]; simp only [str_append], by rw [HP.out]; simp only [List.length_append]; omega, B3.out, Hb3.out, HN⟩
        case measure => rw [Hgk.out]; omega
    · have HN : Hid (agPut n a = l) := by show _ = _; rw [hO.out, show n - k = 0 by omega]; simp [putsFrom]
      clear hO
      go_wp2
      go_ret
      rw [HN.out]
      exact ⟨rfl, HB.out⟩

end Go.Proofs.Ytllgcehgdpgnnaa
