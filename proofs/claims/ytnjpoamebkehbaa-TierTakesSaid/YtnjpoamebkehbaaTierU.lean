/- tier.Over, tier.Under; two rows of numbers; the chapter's example (law 15). -/
import Derived.Test.YtnjpoamebkehbaaTierZ
import Derived.Test.YtnjpoamebkehbaaTermT
namespace Go.Proofs.Ytnjpoamebkehbaa
open Go.RowKit
set_option linter.unusedVariables false
set_option linter.unusedSimpArgs false

set_option maxRecDepth 100000 in
set_option maxHeartbeats 1000000 in
theorem ints_any (A : Option Addr) (n c : Nat) (xs : List Int) (C : Option Addr) (m d : Nat) (ys : List Int) (w : World) (hx : Rd w 1 A n (xs.map (Value.int .i64))) (hy : Rd w 1 C m (ys.map (Value.int .i64))) (hn : n ≤ 9223372036854775806) (hm : m ≤ 9223372036854775806) :
    Calls Try.prog 77 #[.slice A n c, .slice C m d] w fun e w' => e = .returned (.bool (xs == ys)) ∧ Bel w w' := by
  have hxl : Hid (xs.length = n) := by have := hx.len; show _ = _; simpa using this
  have hyl : Hid (ys.length = m) := by have := hy.len; show _ = _; simpa using this
  go_enter Try.func77, Try.ntmps77
  by_cases hnm : n = m
  · subst hnm
    go_wp2
    go_loopg [13] n (fun g i wr => ∃ k : Nat, g = n - k ∧ k ≤ n ∧ i = .int .i64 k ∧ Bel w wr ∧ Hid ((xs == ys) = (xs.drop k == ys.drop k)))
    case atStart => exact ⟨0, rfl, by omega, rfl, Bel.refl _, rfl⟩
    case round =>
      obtain ⟨k, hgk, hk, rfl, hB, hF⟩ := hrel
      have Hgk := Lib.hid hgk
      clear hgk
      by_cases hlt : k < n
      · obtain ⟨ad, a, rfl, hak, hc⟩ := Rd.intC (hx.bel hB) hlt
        obtain ⟨bd, b, rfl, hbk, hd⟩ := Rd.intC (hy.bel hB) hlt
        have HS := Lib.hid (intsEq_step hak hbk)
        clear hak hbk
        cases hab : (a == b) with
        | true =>
          have HR : Hid ((xs == ys) = (xs.drop (k + 1) == ys.drop (k + 1))) := by show _ = _; rw [hF.out, HS.out, hab]; rfl
          have hne : (a != b) = false := by rw [bne, hab]; rfl
          clear hF HS
          go_wp2_with fail
          go_quiet (fail)
          go_wp2
          go_roundg (n - (k + 1))
          case rel => exact ⟨k + 1, rfl, by omega, by go_num, hB.drewN _, HR⟩
          case measure => rw [Hgk.out]; omega
        | false =>
          have HR : Hid ((xs == ys) = false) := by show _ = _; rw [hF.out, HS.out, hab]; rfl
          have hne : (a != b) = true := by rw [bne, hab]; rfl
          clear hF HS
          go_wp2_with fail
          go_quiet (fail)
          go_wp2
          go_ret
          rw [HR.out]
          exact ⟨rfl, hB.drewN _⟩
      · have HR : Hid ((xs == ys) = true) := by
          show _ = _
          rw [hF.out, List.drop_of_length_le (by have := hxl.out; omega), List.drop_of_length_le (by have := hyl.out; omega)]
          rfl
        clear hF
        go_wp2
        go_ret
        rw [HR.out]
        exact ⟨rfl, hB⟩
  · have HR : Hid ((xs == ys) = false) := by
      show _ = _
      exact beq_len (by have := hxl.out; have := hyl.out; omega)
    go_wp2
    go_ret
    rw [HR.out]
    exact ⟨rfl, Bel.refl _⟩

/-- Under which member one stands. -/
def overOf (up : List Int) (i : Int) : Int := if i < 0 then -1 else (up[i.toNat]?).getD (-1)
set_option maxRecDepth 100000 in
theorem over_any (t : Tir) (i : Int) (w : World) (ht : t.rd w) (hi : I64 i) :
    Calls Try.prog 80 #[.agg t.cs, .int .i64 i] w fun e w' => e = .returned (.int .i64 (overOf t.up.l i)) ∧ Bel w w' := by
  have hW := (Bel.refl w).alloc (.cells t.cs 30)
  have h1 := ht.mono hW
  obtain ⟨hnm, hts, hup⟩ := ht
  have htl : Hid (t.ts.l.length = t.ts.n) := hts.len
  have hul : Hid (t.up.l.length = t.up.n) := hup.len
  have hn63 := hts.n63
  have hu63 := hup.n63
  obtain ⟨nm, ⟨A, n, c, ts⟩, ⟨A2, n2, c2, up⟩⟩ := t
  simp only [Tir.cs, Tir.con] at *
  have HR := Lib.hid h1.ts.texts
  have HX := Lib.hid h1.ts.txok
  have HU := Lib.hid h1.up.ints
  have HUI := Lib.hid h1.up.all
  have HW := Lib.hid hW
  clear hW h1 hts hup
  obtain ⟨i0, i1⟩ := hi
  by_cases h0 : i < 0
  · have HR : Hid (overOf up i = -1) := by show _ = _; unfold overOf; rw [if_pos h0]
    have d0 : decide (i < 0) = true := by simp; omega
    go_enter Try.func80, Try.ntmps80
    go_wp2
    go_ret
    rw [HR.out]
    exact ⟨rfl, HW.out⟩
  · obtain ⟨k, rfl⟩ : ∃ k : Nat, i = k := ⟨i.toNat, by omega⟩
    have d0 : decide ((k : Int) < 0) = false := by simp
    by_cases hk : k < n2
    · obtain ⟨ad, z, rfl, hz, hc⟩ := Rd.intC HU.out hk
      have HR : Hid (overOf up k = z) := by show _ = _; unfold overOf; rw [if_neg (by omega), Int.toNat_natCast, hz]; rfl
      have d1 : decide ((n2 : Int) ≤ (k : Int)) = false := by simp; omega
      have d2 : decide (n2 ≤ k) = false := by simp; omega
      have i2 : (0 : Int) ≤ k := by omega
      have i3 : (k : Int) < n2 := by omega
      clear hz
      go_enter Try.func80, Try.ntmps80
      go_wp2
      go_ret
      rw [HR.out]
      exact ⟨rfl, HW.out⟩
    · have HR : Hid (overOf up k = -1) := by show _ = _; unfold overOf; rw [if_neg (by omega), Int.toNat_natCast, List.getElem?_eq_none (by have := hul.out; omega)]; rfl
      have d1 : decide ((n2 : Int) ≤ (k : Int)) = true := by simp; omega
      have d2 : decide (n2 ≤ k) = true := by simp; omega
      go_enter Try.func80, Try.ntmps80
      go_wp2
      go_ret
      rw [HR.out]
      exact ⟨rfl, HW.out⟩

/-- The places of a number among some. -/
def placesOf (x : Int) : Nat → List Int → List Int
  | _, [] => []
  | k, z :: r => if z = x then (k : Int) :: placesOf x (k + 1) r else placesOf x (k + 1) r
theorem placesOf_drop {up : List Int} {x z : Int} {k : Nat} (h : up[k]? = some z) : placesOf x k (up.drop k) = if z = x then (k : Int) :: placesOf x (k + 1) (up.drop (k + 1)) else placesOf x (k + 1) (up.drop (k + 1)) := by
  obtain ⟨hk, rfl⟩ := List.getElem?_eq_some_iff.1 h
  rw [List.drop_eq_getElem_cons hk]
  rfl
def IntsSaid (w : World) (r : List Int) (e : Ending) (w' : World) : Prop := ∃ A c, e = .returned (.slice A r.length c) ∧ Bel w w' ∧ Rd w' 1 A r.length (r.map (Value.int .i64))

set_option maxRecDepth 100000 in
set_option maxHeartbeats 1000000 in
theorem under_any (t : Tir) (x : Int) (w : World) (ht : t.rd w) (hn : t.up.n ≤ 100000) :
    Calls Try.prog 82 #[.agg t.cs, .int .i64 x] w (IntsSaid w (placesOf x 0 t.up.l)) := by
  have hW := (Bel.refl w).alloc (.cells t.cs 30)
  have h1 := ht.mono hW
  obtain ⟨hnm, hts, hup⟩ := ht
  have htl : Hid (t.ts.l.length = t.ts.n) := hts.len
  have hul : Hid (t.up.l.length = t.up.n) := hup.len
  have hn63 := hts.n63
  have hu63 := hup.n63
  obtain ⟨nm, ⟨A, n, c, ts⟩, ⟨A2, n2, c2, up⟩⟩ := t
  simp only [Tir.cs, Tir.con] at *
  have HR := Lib.hid h1.ts.texts
  have HX := Lib.hid h1.ts.txok
  have HU := Lib.hid h1.up.ints
  have HUI := Lib.hid h1.up.all
  have HW := Lib.hid hW
  clear hW h1 hts hup
  have q0 := Blk.new w 30 #[.string ⟨nm.toArray⟩, .slice A n c, .slice A2 n2 c2]
  have HO0 : Hid (placesOf x 0 up = [] ++ placesOf x 0 (up.drop 0)) := rfl
  go_enter Try.func82, Try.ntmps82
  go_wp2_with fail
  generalize w.alloc (.cells #[.string ⟨nm.toArray⟩, .slice A n c, .slice A2 n2 c2] 30) = W at *
  have O0 : Hid (W.ownsRow W.heap.size 3 1 (.slice none 0 0) ([] : List Int).length (([] : List Int).map (Value.int .i64))) := ⟨rfl, .inl ⟨rfl, rfl⟩⟩
  go_loopg [5, 11] n2 (fun gg s5 i wr => ∃ (k : Nat) (ds : List Int), gg = n2 - k ∧ k ≤ n2 ∧ i = .int .i64 k ∧ ds.length ≤ k ∧ Hid (Bel W wr) ∧ Hid (wr.ownsRow W.heap.size 3 1 s5 ds.length (ds.map (Value.int .i64))) ∧ Hid (placesOf x 0 up = ds ++ placesOf x k (up.drop k)))
  case atStart => exact ⟨0, [], rfl, by omega, rfl, by simp, Bel.refl _, O0, HO0⟩
  case round =>
    clear O0 HO0
    obtain ⟨k, ds, hgk, hk, rfl, hdk, hB, hO, hE⟩ := hrel
    have Hgk := Lib.hid hgk
    clear hgk
    by_cases hlt : k < n2
    · obtain ⟨ad, z, rfl, hz, hc⟩ := Rd.intC (HU.out.bel hB.out) hlt
      have HS := Lib.hid (placesOf_drop (x := x) hz)
      clear hz
      by_cases hzx : z = x
      · have HN : Hid (placesOf x 0 up = (ds ++ [(k : Int)]) ++ placesOf x (k + 1) (up.drop (k + 1))) := by show _ = _; rw [hE.out, HS.out, if_pos hzx, List.append_assoc]; rfl
        have e1 : (z == x) = true := by simp [hzx]
        clear hE HS hzx
        go_wp2_with ((with_reducible show wpList _ _ _ (⟨some 22, _, _, _, _, _⟩ :: _) _ _); refine wpList_append0 rfl (.tmp 19) (.tmp 21) _ rfl E_num W.heap.size ((hB.out.alloc _).size) u5 ds.length _ rfl (own_bel hO.out ((Bel.refl _).alloc _)) _ 1 1 [.int .i64 (k : Int)] rfl (rd_new _ _ _ 1 1 rfl) (by simp [Value.oneCell']) (by unfold maxLen; omega) (by omega) ?_; intro v5 w5 hown5 hg5 hat5)
        go_roundg (n2 - (k + 1))
        case rel => exact ⟨k + 1, ds ++ [(k : Int)], rfl, by omega, by go_num, by simp; omega, (hB.out.alloc _).grown hg5 (fun j e => own_ge hO.out e), by show World.ownsRow _ _ _ _ _ _ _; simpa using hown5, HN⟩
        case measure => rw [Hgk.out]; omega
      · have HN : Hid (placesOf x 0 up = ds ++ placesOf x (k + 1) (up.drop (k + 1))) := by show _ = _; rw [hE.out, HS.out, if_neg hzx]
        have e1 : (z == x) = false := by simp [hzx]
        clear hE HS hzx
        go_wp2
        go_roundg (n2 - (k + 1))
        case rel => exact ⟨k + 1, ds, rfl, by omega, by go_num, by omega, hB, hO, HN⟩
        case measure => rw [Hgk.out]; omega
    · have HN : Hid (placesOf x 0 up = ds) := by show _ = _; rw [hE.out, List.drop_of_length_le (by have := hul.out; omega)]; simp [placesOf]
      clear hE
      obtain ⟨A5, c5, rfl, _⟩ := own_slice hO.out
      go_wp2
      go_ret
      rw [HN.out]
      exact ⟨A5, c5, rfl, HW.out.trans hB.out, Rd.of_own hO.out⟩

set_option maxRecDepth 100000 in
set_option maxHeartbeats 1000000 in
theorem awake15_any (w : World) : Calls Try.prog 21 #[] w fun e w' => e = .returned (.bool true) ∧ Bel w w' := by
  obtain ⟨T, hT⟩ : ∃ T : Tir, T = ⟨[120], ⟨some ⟨w.heap.size, 0, none⟩, 3, 3, [[97], [98], [99]]⟩, ⟨some ⟨w.heap.size + 1, 0, none⟩, 3, 3, [0, 0, 1]⟩⟩ := ⟨_, rfl⟩
  have hW : Bel w (((w.alloc (.cells #[.string ⟨#[97]⟩, .string ⟨#[98]⟩, .string ⟨#[99]⟩] 9)).alloc (.cells #[.int .i64 0, .int .i64 0, .int .i64 1] 3)).alloc (.cells #[.string ⟨#[120]⟩, .slice (some ⟨w.heap.size, 0, none⟩) 3 3, .slice (some ⟨w.heap.size + 1, 0, none⟩) 3 3] 30)) := (((Bel.refl w).alloc _).alloc _).alloc _
  have r1 := ((rd_new w 9 #[.string ⟨#[97]⟩, .string ⟨#[98]⟩, .string ⟨#[99]⟩] 3 1 rfl).bel ((Bel.refl _).alloc (.cells #[.int .i64 0, .int .i64 0, .int .i64 1] 3))).bel ((Bel.refl _).alloc (.cells #[.string ⟨#[120]⟩, .slice (some ⟨w.heap.size, 0, none⟩) 3 3, .slice (some ⟨w.heap.size + 1, 0, none⟩) 3 3] 30))
  have r2 := (rd_new (w.alloc (.cells #[.string ⟨#[97]⟩, .string ⟨#[98]⟩, .string ⟨#[99]⟩] 9)) 3 #[.int .i64 0, .int .i64 0, .int .i64 1] 3 1 rfl).bel ((Bel.refl _).alloc (.cells #[.string ⟨#[120]⟩, .slice (some ⟨w.heap.size, 0, none⟩) 3 3, .slice (some ⟨w.heap.size + 1, 0, none⟩) 3 3] 30))
  have q1 := Blk.new ((w.alloc (.cells #[.string ⟨#[97]⟩, .string ⟨#[98]⟩, .string ⟨#[99]⟩] 9)).alloc (.cells #[.int .i64 0, .int .i64 0, .int .i64 1] 3)) 30 #[.string ⟨#[120]⟩, .slice (some ⟨w.heap.size, 0, none⟩) 3 3, .slice (some ⟨w.heap.size + 1, 0, none⟩) 3 3]
  simp only [World.size_alloc] at r2 q1
  have hcs : T.cs = #[.string ⟨#[120]⟩, .slice (some ⟨w.heap.size, 0, none⟩) 3 3, .slice (some ⟨w.heap.size + 1, 0, none⟩) 3 3] := by subst hT; rfl
  have hrd : T.rd (((w.alloc (.cells #[.string ⟨#[97]⟩, .string ⟨#[98]⟩, .string ⟨#[99]⟩] 9)).alloc (.cells #[.int .i64 0, .int .i64 0, .int .i64 1] 3)).alloc (.cells #[.string ⟨#[120]⟩, .slice (some ⟨w.heap.size, 0, none⟩) 3 3, .slice (some ⟨w.heap.size + 1, 0, none⟩) 3 3] 30)) := by
    subst hT
    exact ⟨by simp, ⟨by rw [flat_texts]; exact r1, by intro t ht; show t.length ≤ _; simp at ht; rcases ht with rfl | rfl | rfl <;> simp, by simp⟩, ⟨by rw [flat_ints]; exact r2, by intro z hz; show I64 z; simp at hz; unfold I64; omega, by simp⟩⟩
  have hE : tierErr T.con 2 = 0 := by subst hT; show tierErr ⟨[120], [[97], [98], [99]], [0, 0, 1]⟩ 2 = 0; decide +kernel
  have hP : placesOf 0 0 T.up.l = [0, 1] := by subst hT; show placesOf 0 0 [0, 0, 1] = [0, 1]; decide +kernel
  have hV : overOf T.up.l 2 = 1 := by subst hT; show overOf [0, 0, 1] 2 = 1; decide +kernel
  have hn : T.up.n ≤ 100000 := by subst hT; simp
  have HC := Lib.hid (fun w h => trcheck_any T 2 w h hn (by unfold I64; omega))
  have HU := Lib.hid (fun w h => under_any T 0 w h hn)
  have HV := Lib.hid (fun w h => over_any T 2 w h (by unfold I64; omega))
  rw [hE] at HC
  rw [hP] at HU
  rw [hV] at HV
  have HCS := Lib.hid hcs
  have HRD := Lib.hid hrd
  have HW := Lib.hid hW
  have Q1 := Lib.hid q1
  clear hT hcs hrd hE hP hV hW r1 r2 q1 hn
  go_enter Try.func21, Try.ntmps21
  go_wp2_with fail
  rw [← HCS.out] at HW HRD Q1
  rw [← HCS.out]
  generalize ((w.alloc (.cells #[.string ⟨#[97]⟩, .string ⟨#[98]⟩, .string ⟨#[99]⟩] 9)).alloc (.cells #[.int .i64 0, .int .i64 0, .int .i64 1] 3)).alloc (.cells T.cs 30) = W at *
  refine (HC.out _ HRD.out).mono ?_; rintro e w1 ⟨rfl, hb1⟩
  have b1 := Q1.out.bel hb1
  go_wp2_with ((with_reducible show wpList _ _ _ (⟨some 9, _, _, _, _, _⟩ :: _) _ _); refine wpList_load_blkG (by first | rfl | go_simp) rowTir (.tmp 1) (by rfl) (w.heap.size + 1 + 1) (by rfl) b1 rfl ?_)
  refine (HU.out _ (HRD.out.mono hb1)).mono ?_; rintro e w2 ⟨A2, c2, rfl, hb2, hr2⟩
  dsimp only [List.length_cons, List.length_nil] at *
  have b2 := Lib.hid (b1.bel hb2)
  have HR2 := Lib.hid hr2
  have B2 := Lib.hid ((HW.out.trans hb1).trans hb2)
  have H2 := Lib.hid ((HRD.out.mono hb1).mono hb2)
  clear b1 hb1 hb2 hr2 HW HRD Q1
  go_wp2_with fail
  refine (ints_any A2 2 c2 [0, 1] (some ⟨w2.heap.size, 0, none⟩) 2 2 [0, 1] _ (HR2.out.bel ((Bel.refl _).alloc _)) (rd_new w2 3 #[.int .i64 0, .int .i64 1] 2 1 rfl) (by omega) (by omega)).mono ?_; rintro e w3 ⟨rfl, hb3⟩
  rw [beq_self_eq_true]
  have b3 := (b2.out.alloc (.cells #[.int .i64 0, .int .i64 1] 3)).bel hb3
  have B3 := Lib.hid ((B2.out.alloc (.cells #[.int .i64 0, .int .i64 1] 3)).trans hb3)
  have H3 := Lib.hid ((H2.out.mono ((Bel.refl _).alloc (.cells #[.int .i64 0, .int .i64 1] 3))).mono hb3)
  clear hb3 b2 B2 H2
  go_wp2_with ((with_reducible show wpList _ _ _ (⟨some 15, _, _, _, _, _⟩ :: _) _ _); refine wpList_load_blkG (by first | rfl | go_simp) rowTir (.tmp 1) (by rfl) (w.heap.size + 1 + 1) (by rfl) b3 rfl ?_)
  refine (HV.out _ H3.out).mono ?_; rintro e w4 ⟨rfl, hb4⟩
  go_wp2
  go_ret
  exact ⟨rfl, B3.out.trans hb4⟩

end Go.Proofs.Ytnjpoamebkehbaa
