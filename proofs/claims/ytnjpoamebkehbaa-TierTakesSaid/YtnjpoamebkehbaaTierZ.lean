/- Two tiers are the same; a tier is small. -/
import Derived.Test.YtnjpoamebkehbaaTierY
namespace Go.Proofs.Ytnjpoamebkehbaa
open Go.RowKit
set_option linter.unusedVariables false
set_option linter.unusedSimpArgs false

def sameC (a b : TC) : Bool := (a.nm == b.nm) && (a.ts == b.ts) && (a.up == b.up)
theorem sameC_iff (a b : TC) : sameC a b = decide (a = b) := by
  obtain ⟨n1, t1, u1⟩ := a
  obtain ⟨n2, t2, u2⟩ := b
  unfold sameC
  rw [Bool.eq_iff_iff]
  simp [and_assoc]
theorem sameC_self (a : TC) : sameC a a = true := by unfold sameC; simp
theorem intsEq_step {xs ys : List Int} {k : Nat} {a b : Int} (ha : xs[k]? = some a) (hb : ys[k]? = some b) : (xs.drop k == ys.drop k) = ((a == b) && (xs.drop (k + 1) == ys.drop (k + 1))) := by
  obtain ⟨h1, rfl⟩ := List.getElem?_eq_some_iff.1 ha
  obtain ⟨h2, rfl⟩ := List.getElem?_eq_some_iff.1 hb
  rw [List.drop_eq_getElem_cons h1, List.drop_eq_getElem_cons h2]
  rfl
theorem beq_len {α : Type} [BEq α] [LawfulBEq α] {xs ys : List α} (h : xs.length ≠ ys.length) : (xs == ys) = false := by
  rw [beq_eq_false_iff_ne]
  intro e
  exact h (by rw [e])

set_option maxRecDepth 100000 in
set_option maxHeartbeats 2000000 in
theorem trsame_any (t s : Tir) (w : World) (ht : t.rd w) (hs : s.rd w) :
    Calls Try.prog 27 #[.agg t.cs, .agg s.cs] w fun e w' => e = .returned (.bool (sameC t.con s.con)) ∧ Bel w w' := by
  have hW := ((Bel.refl w).alloc (.cells t.cs 30)).alloc (.cells s.cs 30)
  have h1 := ht.mono hW
  have h2 := hs.mono hW
  have q1 := (Blk.new w 30 t.cs).alloc (.cells s.cs 30)
  have q2 := Blk.new (w.alloc (.cells t.cs 30)) 30 s.cs
  rw [World.size_alloc] at q2
  have tl1 : Hid (t.ts.l.length = t.ts.n) := ht.ts.len
  have tl2 : Hid (t.up.l.length = t.up.n) := ht.up.len
  have sl1 : Hid (s.ts.l.length = s.ts.n) := hs.ts.len
  have sl2 : Hid (s.up.l.length = s.up.n) := hs.up.len
  have n1 := ht.ts.n63
  have n2 := ht.up.n63
  obtain ⟨nm, ⟨A, n, c, ts⟩, ⟨A2, m, c2, up⟩⟩ := t
  obtain ⟨nm', ⟨A', n', c', ts'⟩, ⟨A2', m', c2', up'⟩⟩ := s
  simp only [Tir.cs, Tir.con] at *
  have HT1 := Lib.hid h1.ts.texts
  have HU1 := Lib.hid h1.up.ints
  have HT2 := Lib.hid h2.ts.texts
  have HU2 := Lib.hid h2.up.ints
  have HW := Lib.hid hW
  obtain ⟨x0, x1, x2, _, _, _⟩ := q1.three
  obtain ⟨y0, y1, y2, _, _, _⟩ := q2.three
  clear h1 h2 ht hs hW
  by_cases hnm : nm = nm'
  · subst hnm
    by_cases hl : n = n'
    · subst hl
      by_cases hl2 : m = m'
      · subst hl2
        have HS0 : Hid (sameC ⟨nm, ts, up⟩ ⟨nm, ts', up'⟩ = ((ts.drop 0 == ts'.drop 0) && (up == up'))) := by show _ = _; unfold sameC; simp
        go_enter Try.func27, Try.ntmps27
        go_wp2_with fail
        generalize (w.alloc (.cells #[.string ⟨nm.toArray⟩, .slice A n c, .slice A2 m c2] 30)).alloc (.cells #[.string ⟨nm.toArray⟩, .slice A' n c', .slice A2' m c2'] 30) = W at *
        have hz := q2.lt
        clear q1 q2
        go_loopg [33] n (fun gg i wr => ∃ k : Nat, gg = n - k ∧ k ≤ n ∧ i = .int .i64 k ∧ Hid (Bel W wr) ∧ Hid (sameC ⟨nm, ts, up⟩ ⟨nm, ts', up'⟩ = ((ts.drop k == ts'.drop k) && (up == up'))))
        case atStart => exact ⟨0, rfl, by omega, rfl, Bel.refl _, HS0⟩
        case round =>
          clear HS0
          obtain ⟨k, hgk, hk, rfl, hB, hF⟩ := hrel
          have Hgk := Lib.hid hgk
          clear hgk
          have x1' := (hB.out.cell (World.block_lt_of_cell? _ _ x1)).trans x1
          have x2' := (hB.out.cell (World.block_lt_of_cell? _ _ x2)).trans x2
          have y1' := (hB.out.cell (World.block_lt_of_cell? _ _ y1)).trans y1
          have y2' := (hB.out.cell (World.block_lt_of_cell? _ _ y2)).trans y2
          by_cases hlt : k < n
          · obtain ⟨ad, a, rfl, hak, hc⟩ := (HT1.out.bel hB.out).tx hlt
            obtain ⟨bd, b, rfl, hbk, hd⟩ := (HT2.out.bel hB.out).tx hlt
            have HS := Lib.hid (txsEq_step hak hbk)
            clear hak hbk
            cases hab : (a == b) with
            | true =>
              have HR : Hid (sameC ⟨nm, ts, up⟩ ⟨nm, ts', up'⟩ = ((ts.drop (k + 1) == ts'.drop (k + 1)) && (up == up'))) := by show _ = _; rw [hF.out, HS.out, hab]; rfl
              clear hF HS
              go_wp2_with fail
              go_quiet (fail)
              go_wp2
              go_roundg (n - (k + 1))
              case rel => exact ⟨k + 1, rfl, by omega, by go_num, hB.out.drewN _, HR⟩
              case measure => rw [Hgk.out]; omega
            | false =>
              have HR : Hid (sameC ⟨nm, ts, up⟩ ⟨nm, ts', up'⟩ = false) := by show _ = _; rw [hF.out, HS.out, hab]; rfl
              clear hF HS
              go_wp2_with fail
              go_quiet (fail)
              go_wp2
              go_ret
              rw [HR.out]
              exact ⟨rfl, (HW.out.trans hB.out).drewN _⟩
          · have HR0 : Hid (sameC ⟨nm, ts, up⟩ ⟨nm, ts', up'⟩ = (up.drop 0 == up'.drop 0)) := by
              show _ = _
              rw [hF.out, List.drop_of_length_le (by have := tl1.out; omega), List.drop_of_length_le (by have := sl1.out; omega)]
              simp
            clear hF
            go_wp2_with fail
            go_loopg [51] m (fun gg i wx => ∃ j : Nat, gg = m - j ∧ j ≤ m ∧ i = .int .i64 j ∧ Hid (Bel W wx) ∧ Hid (sameC ⟨nm, ts, up⟩ ⟨nm, ts', up'⟩ = (up.drop j == up'.drop j)))
            case atStart => exact ⟨0, rfl, by omega, rfl, hB, HR0⟩
            case round =>
              clear HR0 x1' x2' y1' y2'
              obtain ⟨j, hgj, hj, rfl, hBj, hF⟩ := hrel
              have Hgj := Lib.hid hgj
              clear hgj
              have x2' := (hBj.out.cell (World.block_lt_of_cell? _ _ x2)).trans x2
              have y2' := (hBj.out.cell (World.block_lt_of_cell? _ _ y2)).trans y2
              by_cases hjl : j < m
              · obtain ⟨ad, a, rfl, hak, hc⟩ := Rd.intC (HU1.out.bel hBj.out) hjl
                obtain ⟨bd, b, rfl, hbk, hd⟩ := Rd.intC (HU2.out.bel hBj.out) hjl
                have HS := Lib.hid (intsEq_step hak hbk)
                clear hak hbk
                cases hab : (a == b) with
                | true =>
                  have HR : Hid (sameC ⟨nm, ts, up⟩ ⟨nm, ts', up'⟩ = (up.drop (j + 1) == up'.drop (j + 1))) := by show _ = _; rw [hF.out, HS.out, hab]; rfl
                  have hne : (a != b) = false := by rw [bne, hab]; rfl
                  clear hF HS
                  go_wp2_with fail
                  go_quiet (fail)
                  go_wp2
                  go_roundg (m - (j + 1))
                  case rel => exact ⟨j + 1, rfl, by omega, by go_num, hBj.out.drewN _, HR⟩
                  case measure => rw [Hgj.out]; omega
                | false =>
                  have HR : Hid (sameC ⟨nm, ts, up⟩ ⟨nm, ts', up'⟩ = false) := by show _ = _; rw [hF.out, HS.out, hab]; rfl
                  have hne : (a != b) = true := by rw [bne, hab]; rfl
                  clear hF HS
                  go_wp2_with fail
                  go_quiet (fail)
                  go_wp2
                  go_ret
                  rw [HR.out]
                  exact ⟨rfl, (HW.out.trans hBj.out).drewN _⟩
              · have HR : Hid (sameC ⟨nm, ts, up⟩ ⟨nm, ts', up'⟩ = true) := by
                  show _ = _
                  rw [hF.out, List.drop_of_length_le (by have := tl2.out; omega), List.drop_of_length_le (by have := sl2.out; omega)]
                  rfl
                clear hF
                go_wp2
                go_ret
                rw [HR.out]
                exact ⟨rfl, HW.out.trans hBj.out⟩
      · have HR : Hid (sameC ⟨nm, ts, up⟩ ⟨nm, ts', up'⟩ = false) := by
          show _ = _
          unfold sameC
          rw [beq_len (xs := up) (ys := up') (by have := tl2.out; have := sl2.out; omega)]
          simp
        have d1 : ((m : Int) != (m' : Int)) = true := by simp; omega
        have d2 : ((m : Int) == (m' : Int)) = false := by simp; omega
        clear q1 q2
        go_enter Try.func27, Try.ntmps27
        go_wp2
        go_ret
        rw [HR.out]
        exact ⟨rfl, HW.out⟩
    · have HR : Hid (sameC ⟨nm, ts, up⟩ ⟨nm, ts', up'⟩ = false) := by
        show _ = _
        unfold sameC
        rw [beq_len (xs := ts) (ys := ts') (by have := tl1.out; have := sl1.out; omega)]
        simp
      have d1 : ((n : Int) != (n' : Int)) = true := by simp; omega
      have d2 : ((n : Int) == (n' : Int)) = false := by simp; omega
      clear q1 q2
      go_enter Try.func27, Try.ntmps27
      go_wp2
      go_ret
      rw [HR.out]
      exact ⟨rfl, HW.out⟩
  · have HR : Hid (sameC ⟨nm, ts, up⟩ ⟨nm', ts', up'⟩ = false) := by show _ = _; unfold sameC; simp [hnm]
    have d1 : (nm == nm') = false := by simpa using hnm
    clear q1 q2 hnm
    go_enter Try.func27, Try.ntmps27
    go_wp2
    go_ret
    rw [HR.out]
    exact ⟨rfl, HW.out⟩

set_option maxRecDepth 100000 in
set_option maxHeartbeats 1000000 in
theorem trfew_any (t : Tir) (w : World) (ht : t.rd w) :
    Calls Try.prog 20 #[.agg t.cs] w fun e w' => ∃ b : Bool, e = .returned (.bool b) ∧ (b = true → t.ts.n ≤ 220 ∧ t.up.n ≤ 220) ∧ Bel w w' := by
  have hW := (Bel.refl w).alloc (.cells t.cs 30)
  have h1 := ht.mono hW
  obtain ⟨hnm, hts, hup⟩ := ht
  have htl : Hid (t.ts.l.length = t.ts.n) := hts.len
  have hul : Hid (t.up.l.length = t.up.n) := hup.len
  have hn63 := hts.n63
  have hu63 := hup.n63
  obtain ⟨nm, ⟨A, n, c, ts⟩, ⟨A2, n2, c2, up⟩⟩ := t
  simp only [Tir.cs, Tir.con] at *
  have HR := Lib.hid h1.ts.texts
  have HX := Lib.hid h1.ts.txok
  have HU := Lib.hid h1.up.ints
  have HUI := Lib.hid h1.up.all
  have HW := Lib.hid hW
  clear hW h1 hts hup
  have q0 := Blk.new w 30 #[.string ⟨nm.toArray⟩, .slice A n c, .slice A2 n2 c2]
  obtain ⟨g0, g1, g2, _, _, _⟩ := q0.three
  have m0 : (0 : Int) ≤ min (nm.length : Int) 5000 ∧ min (nm.length : Int) 5000 ≤ 5000 := by omega
  obtain ⟨m, hm⟩ : ∃ m : Nat, min (nm.length : Int) 5000 = (m : Int) := ⟨(min (nm.length : Int) 5000).toNat, by omega⟩
  go_enter Try.func20, Try.ntmps20
  go_wp2_with fail
  generalize w.alloc (.cells #[.string ⟨nm.toArray⟩, .slice A n c, .slice A2 n2 c2] 30) = W at *
  have hm5 : m ≤ 5000 := by omega
  have hz := q0.lt
  clear q0 m0 hm
  go_loopg [3, 4] 222 (fun gg s3 i wr => ∃ k x : Nat, gg = 222 - k ∧ k ≤ 221 ∧ k ≤ n ∧ i = .int .i64 k ∧ s3 = .int .i64 x ∧ x ≤ 5000 * (k + 1) ∧ wr = W)
  case atStart => exact ⟨0, m, rfl, by omega, by omega, rfl, rfl, by omega, rfl⟩
  case round =>
    obtain ⟨k, x, hgk, hk, hkn, rfl, rfl, hx, rfl⟩ := hrel
    have Hgk := Lib.hid hgk
    clear hgk
    by_cases hlt : k < n ∧ k ≤ 220
    · obtain ⟨h1, h2⟩ := hlt
      obtain ⟨ad, a, rfl, hak, hc⟩ := HR.out.tx h1
      have ha := HX.out a (List.mem_of_getElem? hak)
      obtain ⟨y, hy⟩ : ∃ y : Nat, min (a.length : Int) 5000 = (y : Int) := ⟨(min (a.length : Int) 5000).toNat, by omega⟩
      have hy5 : y ≤ 5000 := by omega
      have e1 : decide ((k : Int) ≤ 220) = true := by simp; omega
      clear hak
      go_wp2
      go_roundg (222 - (k + 1))
      case rel => exact ⟨k + 1, x + y, rfl, by omega, by omega, by go_num, by go_num, by omega, rfl⟩
      case measure => rw [Hgk.out]; omega
    · have hx2 : (x : Int) ≤ 1200000 := by omega
      have e0 : (decide ((k : Int) < n) = false ∧ decide (k < n) = false ∧ ¬ k < n) ∨ (decide ((k : Int) < n) = true ∧ decide (k < n) = true ∧ k < n ∧ decide ((k : Int) ≤ 220) = false) := by
        by_cases h : k < n
        · right
          refine ⟨by simp; omega, by simp; omega, h, by simp; omega⟩
        · left
          refine ⟨by simp; omega, by simp; omega, h⟩
      clear hlt
      rcases e0 with ⟨e0, e0', e0''⟩ | ⟨e0, e0', e0'', e1⟩
      all_goals
        by_cases h1 : n ≤ 220
        · have f1 : decide ((n : Int) ≤ 220) = true := by simp; omega
          by_cases h2 : n2 ≤ 220
          · have f2 : decide ((n2 : Int) ≤ 220) = true := by simp; omega
            go_wp2
            go_ret
            exact ⟨_, rfl, fun _ => ⟨h1, h2⟩, HW.out⟩
          · have f2 : decide ((n2 : Int) ≤ 220) = false := by simp; omega
            go_wp2
            go_ret
            exact ⟨false, rfl, (fun h => by cases h), HW.out⟩
        · have f1 : decide ((n : Int) ≤ 220) = false := by simp; omega
          go_wp2
          go_ret
          exact ⟨false, rfl, (fun h => by cases h), HW.out⟩

end Go.Proofs.Ytnjpoamebkehbaa
