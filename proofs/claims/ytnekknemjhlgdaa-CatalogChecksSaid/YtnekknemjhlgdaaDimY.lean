/- Dimensions as bytes. -/
import Derived.Test.YtnekknemjhlgdaaDimZ
import Derived.Test.YtnekknemjhlgdaaTierChecksW
namespace Go.Proofs.Ytnekknemjhlgdaa
open Go.RowKit
set_option linter.unusedVariables false
set_option linter.unusedSimpArgs false

def dimPutV (d : DC) : List UInt8 × Int := if dimErr d = 0 then (dimPut d, 0) else ([], dimErr d)
theorem allOk_at {trs : List TC} : ∀ {k : Nat} {t : TC}, AllOk trs → trs[k]? = some t → tierErr t (aboveOf (trs.drop (k + 1))) = 0 := by
  induction trs with
  | nil => intro k t h ht; simp at ht
  | cons u r ih =>
    intro k t h ht
    cases k with
    | zero =>
      simp at ht
      subst ht
      exact h.1
    | succ k => exact ih h.2 (by simpa using ht)
theorem putDown_step {trs : List TC} {j : Nat} {t : TC} (h : trs[j]? = some t) : (trs.take (j + 1)).reverse.flatMap tierPut = tierPut t ++ (trs.take j).reverse.flatMap tierPut := by
  obtain ⟨hk, rfl⟩ := List.getElem?_eq_some_iff.1 h
  rw [List.take_succ_eq_append_getElem hk, List.reverse_append]
  show List.flatMap tierPut (trs[j] :: (trs.take j).reverse) = _
  rw [List.flatMap_cons]

set_option maxRecDepth 100000 in
set_option maxHeartbeats 2000000 in
theorem dmput_any (d : Dm) (w : World) (hd : d.rd w) (hn : d.tr.n ≤ 1000000) (hu : ∀ t ∈ d.tr.l, t.up.n ≤ 100000) :
    Calls Try.prog 137 #[.agg d.cs] w fun e w' => e = .returned (.tuple #[.string ⟨(dimPutV d.con).1.toArray⟩, .int .i64 (dimPutV d.con).2]) ∧ Bel w w' := by
  have HAB := Lib.hid (fun k (hk : k < d.tr.n) w' (hb : Bel w w') => dabove_any d k w' (hd.mono hb) hk hn)
  have HC := Lib.hid (fun w' (hb : Bel w w') => dmcheck_any d w' (hd.mono hb) hn hu)
  have hW := (Bel.refl w).alloc (.cells d.cs 64)
  have hlen : Hid (d.tr.l.length = d.tr.n) := hd.tr.len
  have hnm := hd.nm
  have HD := Lib.hid hd.tr
  have HU := Lib.hid hu
  obtain ⟨nm, ⟨A, n, c, trs⟩⟩ := d
  simp only [Dm.cs, Dm.con] at *
  have HW := Lib.hid hW
  have Q0 := Lib.hid (Blk.new w 64 #[.string ⟨nm.toArray⟩, .slice A n c])
  clear hW hd hu
  by_cases hE : dimErr ⟨nm, trs.map Tir.con⟩ = 0
  · have HV : Hid (dimPutV ⟨nm, trs.map Tir.con⟩ = (dimPut ⟨nm, trs.map Tir.con⟩, 0)) := by show _ = _; unfold dimPutV; rw [if_pos hE]
    obtain ⟨e1, e2, e3, e4⟩ := dimErr_zero hE
    simp only [List.length_map] at e1 e2 e3
    have HOK := Lib.hid (dimFrom_ok e4)
    have e6 := isName_len e1
    try simp only at e6
    have hn4 : n ≤ 4 := by have := hlen.out; omega
    have hn1 : 1 ≤ n := by have := hlen.out; omega
    have hp : (ptext nm).length ≤ 21 := by unfold ptext; rw [List.length_append]; have := nput_le9 nm.length; omega
    have hp2 := nput_le9 n
    have HO : Hid (dimPut ⟨nm, trs.map Tir.con⟩ = (ptext nm ++ nput n) ++ ((trs.map Tir.con).take n).reverse.flatMap tierPut) := by
      show _ = _
      unfold dimPut
      rw [List.take_of_length_le (by have := hlen.out; simp; omega)]
      simp only [List.length_map, hlen.out]
    rw [hE] at HC
    clear hE e1 e2 e3 e4
    go_enter Try.func137, Try.ntmps137
    go_wp2_with ((with_reducible show wpList _ _ _ (⟨some 9, _, _, _, _, _⟩ :: _) _ _); refine wpList_load_blk rfl rowDm (.tmp 1) rfl w.heap.size rfl Q0.out rfl ?_)
    refine (HC.out _ HW.out).mono ?_; rintro e w1 ⟨rfl, hb1⟩
    have Q1 := Lib.hid (Q0.out.bel hb1)
    have B1 := Lib.hid (HW.out.trans hb1)
    have c0 := Q1.out.cell 0
    have c1 := Q1.out.cell 1
    simp only [List.getElem?_toArray, List.getElem?_cons_zero, List.getElem?_cons_succ] at c0 c1
    clear hb1 Q0 HW HC
    go_wp2_with fail
    have f0 := fun u : Over w1 => Over.cell c0 u
    have f1 := fun u : Over w1 => Over.cell c1 u
    refine wp_region_over (by kernel_rfl) (by kernel_rfl) ?_
    repeat (go_big_quiet_step (first | (go_at_call 138; exact calls_over (putText_any nm _ (by omega))) | (go_at_call 83; exact calls_over (putNum_any (n : Int) _ (by omega) (by omega)))))
    refine wpQuiet_nil ?_
    rintro w2 ⟨⟨_, hw2⟩, rfl⟩
    have Q2 := Lib.hid (Q1.out.bel hw2)
    have B2 := Lib.hid (B1.out.trans hw2)
    have g1 := Q2.out.cell 1
    simp only [List.getElem?_toArray, List.getElem?_cons_zero, List.getElem?_cons_succ] at g1
    try dsimp only
    clear hw2 f0 f1 c0 c1 Q1 B1
    rw [Int.toNat_natCast]
    go_wp2_with fail
    go_loopg [5, 6] n (fun gg o i wr => ∃ (k : Nat) (l : List UInt8), gg = k ∧ k ≤ n ∧ i = .int .i64 ((k : Int) - 1) ∧ o = .string ⟨l.toArray⟩ ∧ l.length ≤ 30 + 10000 * (n - k) ∧ Hid (Bel w wr) ∧ Hid (Blk wr w.heap.size 64 #[.string ⟨nm.toArray⟩, .slice A n c]) ∧ Hid (dimPut ⟨nm, trs.map Tir.con⟩ = l ++ ((trs.map Tir.con).take k).reverse.flatMap tierPut))
    case atStart => exact ⟨n, _, rfl, by omega, rfl, by simp only [str_append], by simp only [List.length_append]; omega, B2, Q2, HO⟩
    case round =>
      clear HO B2 Q2 g1
      obtain ⟨k, l, hgk, hkn, rfl, rfl, hl, hB, hQ, hO⟩ := hrel
      have Hgk := Lib.hid hgk
      clear hgk
      have g1 := hQ.out.cell 1
      simp only [List.getElem?_toArray, List.getElem?_cons_zero, List.getElem?_cons_succ] at g1
      rcases Nat.eq_zero_or_pos k with h0 | h0
      · subst h0
        have HN : Hid (dimPut ⟨nm, trs.map Tir.con⟩ = l) := by show _ = _; rw [hO.out]; simp
        rw [show ((0 : Nat) : Int) - 1 = -1 from rfl]
        clear hO
        go_wp2
        go_ret2
        rw [HV.out, HN.out]
        exact ⟨rfl, hB.out⟩
      · obtain ⟨j, rfl⟩ : ∃ j, k = j + 1 := ⟨k - 1, by omega⟩
        rw [show ((j + 1 : Nat) : Int) - 1 = (j : Int) by omega]
        obtain ⟨bb, oo, t, hA, hbb, ht, htr, hrg⟩ := (HD.out.mono hB.out).tirAt (k := j) (by show j < n; omega)
        simp only at hA
        subst hA
        have htc : (trs.map Tir.con)[j]? = some t.con := by rw [List.getElem?_map, ht]; rfl
        have hE0 := allOk_at HOK.out htc
        have hup := HU.out t (List.mem_of_getElem? ht)
        have hab := above_i64 HD.out.all (j + 1)
        have hlt := tierPut_len hE0
        have HN : Hid (dimPut ⟨nm, trs.map Tir.con⟩ = (l ++ tierPut t.con) ++ ((trs.map Tir.con).take j).reverse.flatMap tierPut) := by show _ = _; rw [hO.out, putDown_step htc, List.append_assoc]
        have hPV : tierPutV t.con (aboveOf ((trs.map Tir.con).drop (j + 1))) = (tierPut t.con, 0) := by unfold tierPutV; rw [if_pos hE0]
        have HAB1 : Hid (∀ w', Bel w w' → Calls Try.prog 185 #[.agg #[.string ⟨nm.toArray⟩, .slice (some ⟨bb, oo, none⟩) n c], .int .i64 j] w' fun e w'' => e = .returned (.int .i64 (aboveOf ((trs.map Tir.con).drop (j + 1)))) ∧ Bel w' w'') := fun w' hb => HAB.out j (by show j < n; omega) w' hb
        have HTP : Hid (∀ w', t.rd w' → Calls Try.prog 188 #[.agg t.cs, .int .i64 (aboveOf ((trs.map Tir.con).drop (j + 1)))] w' fun e w'' => e = .returned (.tuple #[.string ⟨(tierPut t.con).toArray⟩, .int .i64 0]) ∧ Bel w' w'') := by
          intro w' hr
          have := trput_any t (aboveOf ((trs.map Tir.con).drop (j + 1))) w' hr hup hab
          rw [hPV] at this
          exact this
        have RA := Lib.hid hrg
        have HTR := Lib.hid htr
        have i0 : (0 : Int) ≤ j := by omega
        have i1 : (j : Int) < n := by omega
        clear ht htr hrg htc hE0 hO hPV
        generalize aboveOf ((trs.map Tir.con).drop (j + 1)) = ab at *
        go_wp2_with fail
        have f1 := fun u : Over wr => Over.cell g1 u
        refine wp_region_over (by kernel_rfl) (by kernel_rfl) ?_
        repeat (first
          | ((with_reducible show wpQuiet _ _ _ _ (⟨some 35, _, _, _, _, _⟩ :: _) _); refine wpQuiet_load_row rfl rowTir (.tmp 34) rfl bb (oo + j * 3) rfl t.cs rfl hbb RA.out ?_; simp only [Act.put, List.setIfInBounds_toArray, List.set_cons_zero, List.set_cons_succ])
          | ((with_reducible show wpQuiet _ _ _ _ (⟨some 36, _, _, _, _, _⟩ :: _) _); refine wpQuiet_load_row rfl rowDm (.tmp 1) rfl w.heap.size 0 rfl #[.string ⟨nm.toArray⟩, .slice (some ⟨bb, oo, none⟩) n c] rfl hQ.out.lt hQ.out.range ?_; simp only [Act.put, List.setIfInBounds_toArray, List.set_cons_zero, List.set_cons_succ])
          | go_big_quiet_step ((first | (go_at_call 185; rename_i u; exact calls_over (HAB1.out _ (hB.out.trans u.bel))) | (go_at_call 188; rename_i u; exact calls_over (HTP.out _ (HTR.out.mono u.bel))))))
        refine wpQuiet_nil ?_
        rintro w4 ⟨⟨_, hw4⟩, rfl⟩
        have Q4 := Lib.hid (hQ.out.bel hw4)
        have B4 := Lib.hid (hB.out.trans hw4)
        try dsimp only
        clear hw4 f1 g1
        go_wp2
        go_roundg j
        case rel => exact ⟨j, l ++ tierPut t.con, rfl, by omega, rfl, by simp only [str_append], by simp only [List.length_append]; omega, B4, Q4, HN⟩
        case measure => rw [Hgk.out]; omega
  · have HV : Hid (dimPutV ⟨nm, trs.map Tir.con⟩ = ([], dimErr ⟨nm, trs.map Tir.con⟩)) := by show _ = _; unfold dimPutV; rw [if_neg hE]
    have dE : (dimErr ⟨nm, trs.map Tir.con⟩ != 0) = true := by simpa using hE
    have dE2 : (dimErr ⟨nm, trs.map Tir.con⟩ == 0) = false := by simpa using hE
    clear hE
    go_enter Try.func137, Try.ntmps137
    go_wp2_with ((with_reducible show wpList _ _ _ (⟨some 9, _, _, _, _, _⟩ :: _) _ _); refine wpList_load_blk rfl rowDm (.tmp 1) rfl w.heap.size rfl Q0.out rfl ?_)
    refine (HC.out _ HW.out).mono ?_; rintro e w1 ⟨rfl, hb1⟩
    go_wp2
    go_ret2
    rw [HV.out]
    exact ⟨rfl, HW.out.trans hb1⟩

set_option maxRecDepth 100000 in
set_option maxHeartbeats 2000000 in
theorem rdmput_any (d : Dm) (w : World) (hd : d.rd w) (hE : dimErr d.con = 0) :
    Calls Try.prog 149 #[.agg d.cs] w fun e w' => e = .returned (.string ⟨(dimPut d.con).toArray⟩) ∧ Bel w w' := by
  have hW := (Bel.refl w).alloc (.cells d.cs 64)
  have hlen : Hid (d.tr.l.length = d.tr.n) := hd.tr.len
  have hnm := hd.nm
  have HD := Lib.hid hd.tr
  obtain ⟨nm, ⟨A, n, c, trs⟩⟩ := d
  simp only [Dm.cs, Dm.con] at *
  have HW := Lib.hid hW
  have Q1 := Lib.hid (Blk.new w 64 #[.string ⟨nm.toArray⟩, .slice A n c])
  clear hW hd
  obtain ⟨e1, e2, e3, e4⟩ := dimErr_zero hE
  simp only [List.length_map] at e1 e2 e3
  have HOK := Lib.hid (dimFrom_ok e4)
  have e6 := isName_len e1
  try simp only at e6
  have hn4 : n ≤ 4 := by have := hlen.out; omega
  have hn1 : 1 ≤ n := by have := hlen.out; omega
  have hp : (ptext nm).length ≤ 21 := by unfold ptext; rw [List.length_append]; have := nput_le9 nm.length; omega
  have hp2 := nput_le9 n
  have HO : Hid (dimPut ⟨nm, trs.map Tir.con⟩ = (ptext nm ++ nput n) ++ ((trs.map Tir.con).take n).reverse.flatMap tierPut) := by
    show _ = _
    unfold dimPut
    rw [List.take_of_length_le (by have := hlen.out; simp; omega)]
    simp only [List.length_map, hlen.out]
  have c0 := Q1.out.cell 0
  have c1 := Q1.out.cell 1
  simp only [List.getElem?_toArray, List.getElem?_cons_zero, List.getElem?_cons_succ] at c0 c1
  clear hE e1 e2 e3 e4
  go_enter Try.func149, Try.ntmps149
  go_wp2_with fail
  generalize w.alloc (.cells #[.string ⟨nm.toArray⟩, .slice A n c] 64) = w1 at *
  have f0 := fun u : Over w1 => Over.cell c0 u
  have f1 := fun u : Over w1 => Over.cell c1 u
  refine wp_region_over (by kernel_rfl) (by kernel_rfl) ?_
  repeat (go_big_quiet_step (first | (go_at_call 150; exact calls_over (rputText_any nm _ (by omega))) | (go_at_call 93; exact calls_over (rputNum_any (n : Int) _ (by omega) (by omega)))))
  refine wpQuiet_nil ?_
  rintro w2 ⟨⟨_, hw2⟩, rfl⟩
  have Q2 := Lib.hid (Q1.out.bel hw2)
  have B2 := Lib.hid (HW.out.trans hw2)
  have g1 := Q2.out.cell 1
  simp only [List.getElem?_toArray, List.getElem?_cons_zero, List.getElem?_cons_succ] at g1
  try dsimp only
  clear hw2 f0 f1 c0 c1 Q1 HW
  rw [Int.toNat_natCast]
  go_wp2_with fail
  go_loopg [3, 4] n (fun gg o i wr => ∃ (k : Nat) (l : List UInt8), gg = k ∧ k ≤ n ∧ i = .int .i64 ((k : Int) - 1) ∧ o = .string ⟨l.toArray⟩ ∧ l.length ≤ 30 + 10000 * (n - k) ∧ Hid (Bel w wr) ∧ Hid (Blk wr w.heap.size 64 #[.string ⟨nm.toArray⟩, .slice A n c]) ∧ Hid (dimPut ⟨nm, trs.map Tir.con⟩ = l ++ ((trs.map Tir.con).take k).reverse.flatMap tierPut))
  case atStart => exact ⟨n, _, rfl, by omega, rfl, by simp only [str_append], by simp only [List.length_append]; omega, B2, Q2, HO⟩
  case round =>
    clear HO B2 Q2 g1
    obtain ⟨k, l, hgk, hkn, rfl, rfl, hl, hB, hQ, hO⟩ := hrel
    have Hgk := Lib.hid hgk
    clear hgk
    have g1 := hQ.out.cell 1
    simp only [List.getElem?_toArray, List.getElem?_cons_zero, List.getElem?_cons_succ] at g1
    rcases Nat.eq_zero_or_pos k with h0 | h0
    · subst h0
      have HN : Hid (dimPut ⟨nm, trs.map Tir.con⟩ = l) := by show _ = _; rw [hO.out]; simp
      rw [show ((0 : Nat) : Int) - 1 = -1 from rfl]
      clear hO
      go_wp2
      go_ret
      rw [HN.out]
      exact ⟨rfl, hB.out⟩
    · obtain ⟨j, rfl⟩ : ∃ j, k = j + 1 := ⟨k - 1, by omega⟩
      rw [show ((j + 1 : Nat) : Int) - 1 = (j : Int) by omega]
      obtain ⟨bb, oo, t, hA, hbb, ht, htr, hrg⟩ := (HD.out.mono hB.out).tirAt (k := j) (by show j < n; omega)
      simp only at hA
      subst hA
      have htc : (trs.map Tir.con)[j]? = some t.con := by rw [List.getElem?_map, ht]; rfl
      have hE0 := allOk_at HOK.out htc
      have hlt := tierPut_len hE0
      have HE0 := Lib.hid hE0
      have HN : Hid (dimPut ⟨nm, trs.map Tir.con⟩ = (l ++ tierPut t.con) ++ ((trs.map Tir.con).take j).reverse.flatMap tierPut) := by show _ = _; rw [hO.out, putDown_step htc, List.append_assoc]
      have RA := Lib.hid hrg
      have HTR := Lib.hid htr
      have i0 : (0 : Int) ≤ j := by omega
      have i1 : (j : Int) < n := by omega
      clear ht htr hrg htc hE0 hO
      go_wp2_with ((with_reducible show wpList _ _ _ (⟨some 26, _, _, _, _, _⟩ :: _) _ _); refine wpList_load_row_at rfl rowTir (.tmp 25) rfl bb (oo + j * 3) rfl t.cs rfl RA.out ?_)
      refine (rtrput_any t _ _ HTR.out HE0.out).mono ?_; rintro e w4 ⟨rfl, hw4⟩
      have Q4 := Lib.hid (hQ.out.bel hw4)
      have B4 := Lib.hid (hB.out.trans hw4)
      clear hw4 g1
      go_wp2
      go_roundg j
      case rel => exact ⟨j, l ++ tierPut t.con, rfl, by omega, rfl, by simp only [str_append], by simp only [List.length_append]; omega, B4, Q4, HN⟩
      case measure => rw [Hgk.out]; omega

end Go.Proofs.Ytnekknemjhlgdaa
