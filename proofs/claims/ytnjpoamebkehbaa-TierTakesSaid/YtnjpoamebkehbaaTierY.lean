/- Tiers as bytes; two tiers; whether one is small. -/
import Derived.Test.YtnjpoamebkehbaaTierX
import Derived.Test.YtnjpoamebkehbaaTermPutsW
namespace Go.Proofs.Ytnjpoamebkehbaa
open Go.RowKit
set_option linter.unusedVariables false
set_option linter.unusedSimpArgs false

def tierPutV (t : TC) (above : Int) : List UInt8 × Int := if tierErr t above = 0 then (tierPut t, 0) else ([], tierErr t above)
theorem tierErr_up {t : TC} {above : Int} (h : tierErr t above = 0) : t.up.length ≤ 200 := by
  obtain ⟨_, _, h3, _, h5⟩ := tierErr_zero h
  by_cases h0 : 0 < above
  · have := (treeOk_up h0 h5).1
    omega
  · rw [treeOk_top (by omega)] at h5
    have : t.up = [] := by simpa using h5
    rw [this]
    simp

set_option maxRecDepth 100000 in
set_option maxHeartbeats 1000000 in
theorem trput_any (t : Tir) (above : Int) (w : World) (ht : t.rd w) (hn : t.up.n ≤ 100000) (ha : I64 above) :
    Calls Try.prog 22 #[.agg t.cs, .int .i64 above] w fun e w' => e = .returned (.tuple #[.string ⟨(tierPutV t.con above).1.toArray⟩, .int .i64 (tierPutV t.con above).2]) ∧ Bel w w' := by
  have HC := Lib.hid (fun w' (hb : Bel w w') => trcheck_any t above w' (ht.mono hb) hn ha)
  have hW := (Bel.refl w).alloc (.cells t.cs 30)
  have h1 := ht.mono hW
  obtain ⟨hnm, hts, hup⟩ := ht
  have htl : Hid (t.ts.l.length = t.ts.n) := hts.len
  have hul : Hid (t.up.l.length = t.up.n) := hup.len
  have hn63 := hts.n63
  have hu63 := hup.n63
  obtain ⟨nm, ⟨A, n, c, ts⟩, ⟨A2, n2, c2, up⟩⟩ := t
  simp only [Tir.cs, Tir.con] at *
  have HR := Lib.hid h1.ts.texts
  have HX := Lib.hid h1.ts.txok
  have HU := Lib.hid h1.up.ints
  have HUI := Lib.hid h1.up.all
  have HW := Lib.hid hW
  clear hW h1 hts hup
  by_cases hE : tierErr ⟨nm, ts, up⟩ above = 0
  · have HV : Hid (tierPutV ⟨nm, ts, up⟩ above = (tierPut ⟨nm, ts, up⟩, 0)) := by show _ = _; unfold tierPutV; rw [if_pos hE]
    obtain ⟨e1, e2, e3, e4, _⟩ := tierErr_zero hE
    have e5 := tierErr_up hE
    have e6 := isName_len e1
    have e7 := tput_len e4
    simp only at e1 e2 e3 e4 e5 e6 e7
    have htv : Hid (tputV ts = (tput ts, 0)) := by show _ = _; unfold tputV; rw [if_pos e4]
    have hp : (ptext nm).length ≤ 21 := by unfold ptext; rw [List.length_append]; have := nput_le9 nm.length; omega
    have HO : Hid (tierPut ⟨nm, ts, up⟩ = (ptext nm ++ tput ts) ++ upPut (up.drop 0)) := by show _ = _; unfold tierPut; simp
    have hl2 : n ≤ 200 := by have := htl.out; omega
    have hl3 : n2 ≤ 200 := by have := hul.out; omega
    have htl2 : (tput ts).length ≤ 6809 := by omega
    rw [hE] at HC
    clear hE e1 e2 e3 e4 e5 e7
    go_enter Try.func22, Try.ntmps22
    go_wp2_with fail
    refine (HC.out _ HW.out).mono ?_; rintro e w1 ⟨rfl, hb1⟩
    have q1 := ((Blk.new w 30 #[.string ⟨nm.toArray⟩, .slice A n c, .slice A2 n2 c2]).bel hb1)
    obtain ⟨c0, c1, c2', _, _, _⟩ := q1.three
    have HB1 := Lib.hid (HW.out.trans hb1)
    have HR1 := Lib.hid (HR.out.bel hb1)
    have HU1 := Lib.hid (HU.out.bel hb1)
    have hz1 := q1.lt
    clear hb1 HW HR HU HC
    go_wp2_with fail
    refine (tput_any A n c ts _ HR1.out HX.out (by omega)).mono ?_; rintro e w2 ⟨rfl, hb2⟩
    rw [htv.out]
    obtain ⟨d0, d1, d2', _, _, _⟩ := (q1.bel hb2).three
    have q2 := q1.bel hb2
    have HB2 := Lib.hid (HB1.out.trans hb2)
    have HU2' := Lib.hid (HU1.out.bel hb2)
    clear hb2 c0 c1 c2' HB1 HR1 HU1 q1 hz1
    go_wp2_with fail
    refine (putText_any nm _ (by omega)).mono ?_; rintro e w3 ⟨rfl, hb3⟩
    obtain ⟨f0, f1, f2', _, _, _⟩ := (q2.bel hb3).three
    have HWB := Lib.hid (HB2.out.trans hb3)
    have HU2 := Lib.hid (HU2'.out.bel hb3)
    clear hb3 d0 d1 d2' q2 HB2 HU2'
    go_wp2_with fail
    clear f0 f1 f2'
    go_loopg [9, 32] n2 (fun gg o i wr => ∃ (k : Nat) (l : List UInt8), gg = n2 - k ∧ k ≤ n2 ∧ i = .int .i64 k ∧ o = .string ⟨l.toArray⟩ ∧ l.length ≤ 7000 + 9 * k ∧ Hid (Bel w wr) ∧ Hid (Bel w3 wr) ∧ Hid (tierPut ⟨nm, ts, up⟩ = l ++ upPut (up.drop k)))
    case atStart => exact ⟨0, _, rfl, by omega, rfl, by simp only [str_append], by simp only [List.length_append]; omega, HWB, Bel.refl _, HO⟩
    case round =>
      clear HO HWB
      obtain ⟨k, l, hgk, hk, rfl, rfl, hl, hB, hB2, hO⟩ := hrel
      have Hgk := Lib.hid hgk
      clear hgk
      by_cases hlt : k < n2
      · obtain ⟨ad, z, rfl, hz, hc⟩ := Rd.intC (HU2.out.bel hB2.out) hlt
        obtain ⟨z0, z1⟩ := HUI.out z (List.mem_of_getElem? hz)
        have HN : Hid (tierPut ⟨nm, ts, up⟩ = (l ++ nput z.toNat) ++ upPut (up.drop (k + 1))) := by
          show _ = _
          obtain ⟨hk', rfl⟩ := List.getElem?_eq_some_iff.1 hz
          rw [hO.out, List.drop_eq_getElem_cons hk']
          unfold upPut
          rw [List.flatMap_cons, List.append_assoc]
        have hl9 := nput_le9 z.toNat
        clear hz hO
        go_wp2_with fail
        refine (putNum_any z _ z0 z1).mono ?_; rintro e w5 ⟨rfl, hb5⟩
        go_wp2
        go_roundg (n2 - (k + 1))
        case rel => exact ⟨k + 1, l ++ nput z.toNat, rfl, by omega, by go_num, by simp only [str_append], by simp only [List.length_append]; omega, hB.out.trans hb5, hB2.out.trans hb5, HN⟩
        case measure => rw [Hgk.out]; omega
      · have HN : Hid (tierPut ⟨nm, ts, up⟩ = l) := by
          show _ = _
          rw [hO.out, List.drop_of_length_le (by have := hul.out; omega)]
          simp [upPut]
        clear hO
        go_wp2
        go_ret2
        rw [HV.out, HN.out]
        exact ⟨rfl, hB.out⟩
  · have HV : Hid (tierPutV ⟨nm, ts, up⟩ above = ([], tierErr ⟨nm, ts, up⟩ above)) := by show _ = _; unfold tierPutV; rw [if_neg hE]
    have dE : (tierErr ⟨nm, ts, up⟩ above != 0) = true := by simpa using hE
    have dE2 : (tierErr ⟨nm, ts, up⟩ above == 0) = false := by simpa using hE
    clear hE
    go_enter Try.func22, Try.ntmps22
    go_wp2_with fail
    refine (HC.out _ HW.out).mono ?_; rintro e w1 ⟨rfl, hb1⟩
    go_wp2
    go_ret2
    rw [HV.out]
    exact ⟨rfl, HW.out.trans hb1⟩

set_option maxRecDepth 100000 in
set_option maxHeartbeats 1000000 in
theorem rtrput_any (t : Tir) (above : Int) (w : World) (ht : t.rd w) (hE : tierErr t.con above = 0) :
    Calls Try.prog 26 #[.agg t.cs] w fun e w' => e = .returned (.string ⟨(tierPut t.con).toArray⟩) ∧ Bel w w' := by
  have hW := (Bel.refl w).alloc (.cells t.cs 30)
  have h1 := ht.mono hW
  obtain ⟨hnm, hts, hup⟩ := ht
  have htl : Hid (t.ts.l.length = t.ts.n) := hts.len
  have hul : Hid (t.up.l.length = t.up.n) := hup.len
  have hn63 := hts.n63
  have hu63 := hup.n63
  obtain ⟨nm, ⟨A, n, c, ts⟩, ⟨A2, n2, c2, up⟩⟩ := t
  simp only [Tir.cs, Tir.con] at *
  have HR := Lib.hid h1.ts.texts
  have HX := Lib.hid h1.ts.txok
  have HU := Lib.hid h1.up.ints
  have HUI := Lib.hid h1.up.all
  have HW := Lib.hid hW
  clear hW h1 hts hup
  obtain ⟨e1, e2, e3, e4, _⟩ := tierErr_zero hE
  have e5 := tierErr_up hE
  have e6 := isName_len e1
  have e7 := tput_len e4
  simp only at e1 e2 e3 e4 e5 e6 e7
  have hp : (ptext nm).length ≤ 21 := by unfold ptext; rw [List.length_append]; have := nput_le9 nm.length; omega
  have HO : Hid (tierPut ⟨nm, ts, up⟩ = (ptext nm ++ tput ts) ++ upPut (up.drop 0)) := by show _ = _; unfold tierPut; simp
  have hl2 : n ≤ 200 := by have := htl.out; omega
  have hl3 : n2 ≤ 200 := by have := hul.out; omega
  have htl2 : (tput ts).length ≤ 6809 := by omega
  have HE4 := Lib.hid e4
  clear hE e1 e2 e3 e4 e5 e7
  have q0 := Blk.new w 30 #[.string ⟨nm.toArray⟩, .slice A n c, .slice A2 n2 c2]
  obtain ⟨g0, g1, g2, _, _, _⟩ := q0.three
  go_enter Try.func26, Try.ntmps26
  go_wp2_with fail
  have d0 := fun u : Over (w.alloc (.cells #[.string ⟨nm.toArray⟩, .slice A n c, .slice A2 n2 c2] 30)) => Over.cell g0 u
  have d1 := fun u : Over (w.alloc (.cells #[.string ⟨nm.toArray⟩, .slice A n c, .slice A2 n2 c2] 30)) => Over.cell g1 u
  refine wp_region_over (by kernel_rfl) (by kernel_rfl) ?_
  repeat (go_big_quiet_step (first | (go_at_call 92; exact calls_over (rputText_any nm _ (by omega))) | (go_at_call 93; rename_i u; exact calls_over (rtput_any A n c ts _ (HR.out.bel u.bel) HE4.out (by omega)))))
  refine wpQuiet_nil ?_
  rintro _ ⟨u, rfl⟩
  clear d0 d1 g0 g1 g2
  have q3 := q0.bel u.bel
  obtain ⟨f0, f1, f2', _, _, _⟩ := q3.three
  have HWB := Lib.hid (HW.out.trans u.bel)
  have HU2 := Lib.hid (HU.out.bel u.bel)
  have hzz := q3.lt
  generalize u.wd = w3 at *
  clear q0 q3
  go_wp2_with fail
  clear f0 f1 f2'
  go_loopg [3, 16] n2 (fun gg o i wr => ∃ (k : Nat) (l : List UInt8), gg = n2 - k ∧ k ≤ n2 ∧ i = .int .i64 k ∧ o = .string ⟨l.toArray⟩ ∧ l.length ≤ 7000 + 9 * k ∧ Hid (Bel w wr) ∧ Hid (Bel w3 wr) ∧ Hid (tierPut ⟨nm, ts, up⟩ = l ++ upPut (up.drop k)))
  case atStart => exact ⟨0, _, rfl, by omega, rfl, by simp only [str_append], by simp only [List.length_append]; omega, HWB, Bel.refl _, HO⟩
  case round =>
    clear HO HWB
    obtain ⟨k, l, hgk, hk, rfl, rfl, hl, hB, hB2, hO⟩ := hrel
    have Hgk := Lib.hid hgk
    clear hgk
    by_cases hlt : k < n2
    · obtain ⟨ad, z, rfl, hz, hc⟩ := Rd.intC (HU2.out.bel hB2.out) hlt
      obtain ⟨z0, z1⟩ := HUI.out z (List.mem_of_getElem? hz)
      have HN : Hid (tierPut ⟨nm, ts, up⟩ = (l ++ nput z.toNat) ++ upPut (up.drop (k + 1))) := by
        show _ = _
        obtain ⟨hk', rfl⟩ := List.getElem?_eq_some_iff.1 hz
        rw [hO.out, List.drop_eq_getElem_cons hk']
        unfold upPut
        rw [List.flatMap_cons, List.append_assoc]
      have hl9 := nput_le9 z.toNat
      clear hz hO
      go_wp2_with fail
      refine (rputNum_any z _ z0 z1).mono ?_; rintro e w5 ⟨rfl, hb5⟩
      go_wp2
      go_roundg (n2 - (k + 1))
      case rel => exact ⟨k + 1, l ++ nput z.toNat, rfl, by omega, by go_num, by simp only [str_append], by simp only [List.length_append]; omega, hB.out.trans hb5, hB2.out.trans hb5, HN⟩
      case measure => rw [Hgk.out]; omega
    · have HN : Hid (tierPut ⟨nm, ts, up⟩ = l) := by
        show _ = _
        rw [hO.out, List.drop_of_length_le (by have := hul.out; omega)]
        simp [upPut]
      clear hO
      go_wp2
      go_ret
      rw [HN.out]
      exact ⟨rfl, hB.out⟩

end Go.Proofs.Ytnjpoamebkehbaa
