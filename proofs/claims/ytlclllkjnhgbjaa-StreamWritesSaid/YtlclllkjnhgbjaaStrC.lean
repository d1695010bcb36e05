/- The document's search among places. -/
import Derived.Test.YtlclllkjnhgbjaaStrP
namespace Go.Proofs.Ytlclllkjnhgbjaa
open Go.RowKit
set_option linter.unusedVariables false
set_option linter.unusedSimpArgs false


set_option maxRecDepth 100000 in
set_option maxHeartbeats 1000000 in
theorem rin_any (x : Row Int) (v : Int) (w : World) (hx : x.rd w) :
    Calls Try.prog 64 #[.slice x.A x.n x.c, .int .i64 v] w fun e w' => e = .returned (.bool (idxF v x.l 0).isSome) ∧ Bel w w' := by
  have hlen : Hid (x.l.length = x.n) := hx.len
  have HX := Lib.hid (fun w' (hb : Bel w w') => hx.mono hb)
  have n63 := hx.n63
  have H := Lib.hid (SL.start No w)
  obtain ⟨A, n, c, l⟩ := x
  simp only at *
  clear hx
  obtain ⟨R, hR⟩ : ∃ R, R = idxF v l 0 := ⟨_, rfl⟩
  rw [← hR]
  have HR : Hid (R = idxF v (l.drop 0) 0) := hR
  clear hR
  go_enter Try.func64, Try.ntmps64
  go_upto_region 2 with fail
  go_loopg [9] n (fun gg s9 wr => ∃ i : Nat, gg = n - i ∧ i ≤ n ∧ s9 = .int .i64 i ∧ Hid (SL No w wr []) ∧ Hid (R = idxF v (l.drop i) i))
  case atStart => exact ⟨0, rfl, by omega, rfl, H, HR⟩
  case round =>
    clear H HR
    obtain ⟨i, hgk, hi, rfl, H, HR⟩ := hrel
    have Hgk := Lib.hid hgk
    clear hgk
    by_cases hlt : i < n
    · obtain ⟨b, o, t, hA, ht, ht64, hc⟩ := (HX.out _ H.out.to).intAt (k := i) hlt
      simp only at hA ht
      subst hA
      have hdr := drop_consI ht
      have i0 : (0 : Int) ≤ i := by omega
      have i1 : (i : Int) < n := by omega
      by_cases he : t = v
      · have HV : Hid (R = some i) := by show _ = _; rw [HR.out, hdr, idxF, if_pos he]
        have d1 : (t == v) = true := by simpa using he
        clear HR hdr ht he
        skip
        go_wp2_with fail
        go_ret
        rw [HV.out]
        exact ⟨rfl, H.out.to⟩
      · have HV : Hid (R = idxF v (l.drop (i + 1)) (i + 1)) := by show _ = _; rw [HR.out, hdr, idxF, if_neg he]
        have d1 : (t == v) = false := by simpa using he
        clear HR hdr ht he
        skip
        go_wp2_with fail
        go_roundg (n - (i + 1))
        case rel => exact ⟨i + 1, rfl, by omega, by go_num, H, HV⟩
        case measure => rw [Hgk.out]; omega
    · obtain rfl : i = n := by omega
      have HV : Hid (R = none) := by show _ = _; rw [HR.out, List.drop_of_length_le (by rw [hlen.out]; exact Nat.le_refl _)]; rfl
      clear HR
      go_wp2_with fail
      go_ret
      rw [HV.out]
      exact ⟨rfl, H.out.to⟩

set_option maxRecDepth 100000 in
set_option maxHeartbeats 1000000 in
theorem rplace_any (x : Row Int) (v : Int) (w : World) (hx : x.rd w) :
    Calls Try.prog 94 #[.slice x.A x.n x.c, .int .i64 v] w fun e w' => e = .returned (.int .i64 (((idxF v x.l 0).getD 0 : Nat) : Int)) ∧ Bel w w' := by
  have hlen : Hid (x.l.length = x.n) := hx.len
  have HX := Lib.hid (fun w' (hb : Bel w w') => hx.mono hb)
  have n63 := hx.n63
  have H := Lib.hid (SL.start No w)
  obtain ⟨A, n, c, l⟩ := x
  simp only at *
  clear hx
  obtain ⟨R, hR⟩ : ∃ R, R = idxF v l 0 := ⟨_, rfl⟩
  rw [← hR]
  have HR : Hid (R = idxF v (l.drop 0) 0) := hR
  clear hR
  go_enter Try.func94, Try.ntmps94
  go_upto_region 2 with fail
  go_loopg [8] n (fun gg s9 wr => ∃ i : Nat, gg = n - i ∧ i ≤ n ∧ s9 = .int .i64 i ∧ Hid (SL No w wr []) ∧ Hid (R = idxF v (l.drop i) i))
  case atStart => exact ⟨0, rfl, by omega, rfl, H, HR⟩
  case round =>
    clear H HR
    obtain ⟨i, hgk, hi, rfl, H, HR⟩ := hrel
    have Hgk := Lib.hid hgk
    clear hgk
    by_cases hlt : i < n
    · obtain ⟨b, o, t, hA, ht, ht64, hc⟩ := (HX.out _ H.out.to).intAt (k := i) hlt
      simp only at hA ht
      subst hA
      have hdr := drop_consI ht
      have i0 : (0 : Int) ≤ i := by omega
      have i1 : (i : Int) < n := by omega
      by_cases he : t = v
      · have HV : Hid (R = some i) := by show _ = _; rw [HR.out, hdr, idxF, if_pos he]
        have d1 : (t == v) = true := by simpa using he
        clear HR hdr ht he
        skip
        go_wp2_with fail
        go_ret
        rw [HV.out]
        exact ⟨rfl, H.out.to⟩
      · have HV : Hid (R = idxF v (l.drop (i + 1)) (i + 1)) := by show _ = _; rw [HR.out, hdr, idxF, if_neg he]
        have d1 : (t == v) = false := by simpa using he
        clear HR hdr ht he
        skip
        go_wp2_with fail
        go_roundg (n - (i + 1))
        case rel => exact ⟨i + 1, rfl, by omega, by go_num, H, HV⟩
        case measure => rw [Hgk.out]; omega
    · obtain rfl : i = n := by omega
      have HV : Hid (R = none) := by show _ = _; rw [HR.out, List.drop_of_length_le (by rw [hlen.out]; exact Nat.le_refl _)]; rfl
      clear HR
      go_wp2_with fail
      go_ret
      rw [HV.out]
      exact ⟨rfl, H.out.to⟩

end Go.Proofs.Ytlclllkjnhgbjaa
