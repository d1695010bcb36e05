/- The heap of runs: down. -/
import Derived.Test.YtnekknemjhlgdaaKmD
namespace Go.Proofs.Ytnekknemjhlgdaa
open Go.RowKit
set_option linter.unusedVariables false
set_option linter.unusedSimpArgs false


theorem tget {L : List HdR} {m k : Nat} {x : HdR} (h : L[k]? = some x) (hk : k < m) : ((L.take m).map HdR.con)[k]? = some x.con := map_get (by rw [List.getElem?_take_of_lt hk]; exact h)
theorem tmem {L : List HdR} {m k : Nat} {x : HdR} (h : L[k]? = some x) (hk : k < m) : x ∈ L.take m := List.mem_of_getElem? (by rw [List.getElem?_take_of_lt hk]; exact h)
theorem tne {L : List HdR} {w : World} {m k : Nat} {x : HdR} (h : ∀ z ∈ L.take m, z.ok w) (hx : L[k]? = some x) (hk : k < m) : x.con.1 ≠ [] := con_ne h _ (List.mem_map_of_mem (tmem hx hk))
theorem lessH_self (a : Hd) : lessH a a = false := by
  cases hq : lessH a a with
  | false => rfl
  | true => have := lessH_asymm hq; rw [this] at hq; cases hq
set_option maxRecDepth 100000 in
set_option maxHeartbeats 4000000 in
theorem down_any (w0 w : World) (g : Nat) (A : Option Addr) (n m c i0 : Nat) (L0 : List HdR) (rest : List Res) (h : SL No w0 w (rHeap g A n c L0 rest)) (hn : n ≤ 1000000) (hm : m ≤ n) (hok : ∀ x ∈ L0.take m, x.ok w0) (hi : i0 ≤ m) (hu : DownAt ((L0.take m).map HdR.con) m i0) :
    Calls Try.prog 173 #[.iface 183 (.pointer (some ⟨g, 0, none⟩)), .int .i64 i0, .int .i64 m] w fun e w' => (∃ b, e = .returned (.bool b)) ∧ ∃ L, (L.take m).Perm (L0.take m) ∧ L.drop m = L0.drop m ∧ Heap ((L.take m).map HdR.con) m ∧ SL No w0 w' (rHeap g A n c L rest) := by
  have H := Lib.hid h
  have HOK := Lib.hid hok
  have HU := Lib.hid hu
  have HP : Hid ((L0.take m).Perm (L0.take m)) := List.Perm.refl _
  clear h hok hu
  go_enter Try.func173, Try.ntmps173
  go_wp2_with fail
  go_loopg [7, 8, 9, 10] (m - i0) (fun gg s7 s8 s9 s10 wr => ∃ (i : Nat) (L : List HdR), gg = m - i ∧ i ≤ m ∧ s7 = .int .i64 i ∧ Hid ((L.take m).Perm (L0.take m)) ∧ Hid (L.drop m = L0.drop m) ∧ Hid (∀ x ∈ L.take m, x.ok w0) ∧ Hid (DownAt ((L.take m).map HdR.con) m i) ∧ Hid (SL No w0 wr (rHeap g A n c L rest)))
  case atStart => exact ⟨i0, L0, rfl, hi, rfl, HP, Lib.hid rfl, HOK, HU, H⟩
  case round =>
    clear H HU HP HOK hi
    obtain ⟨i, L, hgk, hi, rfl, HP, HD, HOK, HU, H⟩ := hrel
    have Hgk := Lib.hid hgk
    clear hgk
    have HLn : Hid (L.length = n) := rd_len (Rd.of_own (H.out.row 1 rfl))
    obtain ⟨j1, hj1⟩ : ∃ j1, j1 = 2 * i + 1 := ⟨_, rfl⟩
    have e1 : 2 * (i : Int) + 1 = (j1 : Int) := by omega
    have b1 : j1 ≤ 2000001 := by omega
    have l1 : i < j1 := by omega
    have HJ1 := Lib.hid hj1
    have HPj1 : Hid ((j1 - 1) / 2 = i) := by show _ = _; omega
    clear hj1
    have e1p : (0 : Int) ≤ j1 := by omega
    by_cases hb1 : m ≤ j1
    · have HH : Hid (Heap ((L.take m).map HdR.con) m) := down_stop HU.out (fun k a b h0 hk hp ha hb => by have := HJ1.out; omega)
      go_wp2_with fail
      go_returns
      exact ⟨⟨_, rfl⟩, L, HP.out, HD.out, HH.out, H.out⟩
    · obtain ⟨y, hy⟩ : ∃ y, L[i]? = some y := ⟨_, List.getElem?_eq_getElem (by rw [HLn.out]; omega)⟩
      obtain ⟨x, hx⟩ : ∃ x, L[j1]? = some x := ⟨_, List.getElem?_eq_getElem (by rw [HLn.out]; omega)⟩
      have HY := Lib.hid hy
      have HXj1 := Lib.hid hx
      have HLs := Lib.hid (fun (p q : Nat) (a b : HdR) (ha : L[p]? = some a) (hb : L[q]? = some b) (hp : p < m) (hq : q < m) w' (hb2 : Bel w0 w') (ho : w'.ownsRow 0 188 2 (.slice A n c) n (L.flatMap Cel.cells)) => hless_any A n c p q L a b w' ho hn ha hb ((HOK.out a (tmem ha hp)).mono hb2) ((HOK.out b (tmem hb hq)).mono hb2))
      clear hx hy
      obtain ⟨j2, hj2⟩ : ∃ j2, j2 = j1 + 1 := ⟨_, rfl⟩
      have e2 : (j1 : Int) + 1 = (j2 : Int) := by omega
      have l2 : j1 < j2 := by omega
      have b2 : j2 ≤ 2000002 := by omega
      have HJ2 := Lib.hid hj2
      have HPj2 : Hid ((j2 - 1) / 2 = i) := by show _ = _; have := HJ1.out; omega
      clear hj2
      by_cases hb2 : j2 < m
      · obtain ⟨x2, hx2⟩ : ∃ x, L[j2]? = some x := ⟨_, List.getElem?_eq_getElem (by rw [HLn.out]; omega)⟩
        have HXj2 := Lib.hid hx2
        clear hx2
        have cm := (H.out.blk 0 rfl).cell 0; simp only [List.getElem?_toArray, List.getElem?_cons_zero, List.getElem?_cons_succ] at cm
        have mm := fun k => meth_Less k g cm
        clear cm
        go_wp2_with fail
        clear mm
        refine (HLs.out j2 j1 x2 x HXj2.out HXj1.out (by omega) (by omega) _ H.out.to (H.out.row 1 rfl)).mono ?_; rintro e w2 ⟨rfl, hb2⟩
        replace H := Lib.hid (H.out.bel hb2); (try simp only [List.set_cons_zero, List.set_cons_succ, List.cons_append, List.nil_append, List.eraseIdx_cons_zero, List.eraseIdx_cons_succ, List.setIfInBounds_toArray, World.size_alloc, selR, List.getD_cons_zero, List.getD_cons_succ] at H)
        clear hb2
        cases hq : lessH x2.con x.con with
        | true =>
          have HM : Hid (∀ k c, 0 < k → k < m → (k - 1) / 2 = i → ((L.take m).map HdR.con)[k]? = some c → lessH c x2.con = false) := fun k c h0 hk hp hc => by
            rcases (show k = j1 ∨ k = j2 by have := HJ1.out; have := HJ2.out; omega) with rfl | rfl
            · rw [tget HXj1.out (by omega)] at hc; injection hc with hc; subst hc; exact lessH_asymm hq
            · rw [tget HXj2.out (by omega)] at hc; injection hc with hc; subst hc; exact lessH_self _
          clear hq
          have cm := (H.out.blk 0 rfl).cell 0; simp only [List.getElem?_toArray, List.getElem?_cons_zero, List.getElem?_cons_succ] at cm
          have mm := fun k => meth_Less k g cm
          clear cm
          go_wp2_with fail
          clear mm
          refine (HLs.out j2 i x2 y HXj2.out HY.out (by omega) (by omega) _ H.out.to (H.out.row 1 rfl)).mono ?_; rintro e w2 ⟨rfl, hb2⟩
          replace H := Lib.hid (H.out.bel hb2); (try simp only [List.set_cons_zero, List.set_cons_succ, List.cons_append, List.nil_append, List.eraseIdx_cons_zero, List.eraseIdx_cons_succ, List.setIfInBounds_toArray, World.size_alloc, selR, List.getD_cons_zero, List.getD_cons_succ] at H)
          clear hb2
          cases hL : lessH x2.con y.con with
          | false =>
            have HH : Hid (Heap ((L.take m).map HdR.con) m) := down_stop HU.out (fun k a b h0 hk hp ha hb => by
              rw [tget HY.out (by omega)] at hb
              injection hb with hb; subst hb
              exact lessH_ntrans (tne HOK.out HXj2.out (by omega)) hL (HM.out k a h0 hk hp ha))
            clear hL
            go_wp2_with fail
            go_returns
            exact ⟨⟨_, rfl⟩, L, HP.out, HD.out, HH.out, H.out⟩
          | true =>
            have HT : Hid ((((L.set i x2).set j2 y).take m).map HdR.con = swapL ((L.take m).map HdR.con) i j2 y.con x2.con) := by show _ = _; rw [List.take_set, List.take_set, map_swap]
            have HU2 : Hid (DownAt ((((L.set i x2).set j2 y).take m).map HdR.con) m j2) := by
              show DownAt _ _ _
              rw [HT.out]
              exact down_step (by rw [List.length_map, List.length_take, HLn.out]; omega) (by omega) (by omega) HPj2.out HU.out (con_ne (w := w0) HOK.out) (tget HXj2.out (by omega)) (tget HY.out (by omega)) hL HM.out
            have HP2 : Hid ((((L.set i x2).set j2 y).take m).Perm (L0.take m)) := by
              show List.Perm _ _
              rw [List.take_set, List.take_set]
              exact (swap_perm (by omega) (by rw [List.getElem?_take_of_lt (by omega)]; exact HY.out) (by rw [List.getElem?_take_of_lt (by omega)]; exact HXj2.out)).trans HP.out
            have HD2 : Hid (((L.set i x2).set j2 y).drop m = L0.drop m) := by show _ = _; rw [List.drop_set_of_lt (by omega), List.drop_set_of_lt (by omega), HD.out]
            have HOK2 : Hid (∀ z ∈ ((L.set i x2).set j2 y).take m, z.ok w0) := fun z hz => HOK.out z ((HP.out.mem_iff).2 (HP2.out.mem_iff.1 hz))
            clear hL HT
            have cm := (H.out.blk 0 rfl).cell 0; simp only [List.getElem?_toArray, List.getElem?_cons_zero, List.getElem?_cons_succ] at cm
            have mm := fun k => meth_Swap k g cm
            clear cm
            go_wp2_with fail
            clear mm
            refine (hswap_any w0 _ g A n c i j2 L rest y x2 H.out hn HY.out HXj2.out).mono ?_; rintro e w3 ⟨rfl, hh3⟩
            replace H := Lib.hid hh3
            clear hh3
            go_wp2_with fail
            go_roundg (m - j2)
            case rel => exact ⟨j2, _, rfl, by omega, by go_num, HP2, HD2, HOK2, HU2, H⟩
            case measure => rw [Hgk.out]; omega
        | false =>
          have HM : Hid (∀ k c, 0 < k → k < m → (k - 1) / 2 = i → ((L.take m).map HdR.con)[k]? = some c → lessH c x.con = false) := fun k c h0 hk hp hc => by
            rcases (show k = j1 ∨ k = j2 by have := HJ1.out; have := HJ2.out; omega) with rfl | rfl
            · rw [tget HXj1.out (by omega)] at hc; injection hc with hc; subst hc; exact lessH_self _
            · rw [tget HXj2.out (by omega)] at hc; injection hc with hc; subst hc; exact hq
          clear hq
          have cm := (H.out.blk 0 rfl).cell 0; simp only [List.getElem?_toArray, List.getElem?_cons_zero, List.getElem?_cons_succ] at cm
          have mm := fun k => meth_Less k g cm
          clear cm
          go_wp2_with fail
          clear mm
          refine (HLs.out j1 i x y HXj1.out HY.out (by omega) (by omega) _ H.out.to (H.out.row 1 rfl)).mono ?_; rintro e w2 ⟨rfl, hb2⟩
          replace H := Lib.hid (H.out.bel hb2); (try simp only [List.set_cons_zero, List.set_cons_succ, List.cons_append, List.nil_append, List.eraseIdx_cons_zero, List.eraseIdx_cons_succ, List.setIfInBounds_toArray, World.size_alloc, selR, List.getD_cons_zero, List.getD_cons_succ] at H)
          clear hb2
          cases hL : lessH x.con y.con with
          | false =>
            have HH : Hid (Heap ((L.take m).map HdR.con) m) := down_stop HU.out (fun k a b h0 hk hp ha hb => by
              rw [tget HY.out (by omega)] at hb
              injection hb with hb; subst hb
              exact lessH_ntrans (tne HOK.out HXj1.out (by omega)) hL (HM.out k a h0 hk hp ha))
            clear hL
            go_wp2_with fail
            go_returns
            exact ⟨⟨_, rfl⟩, L, HP.out, HD.out, HH.out, H.out⟩
          | true =>
            have HT : Hid ((((L.set i x).set j1 y).take m).map HdR.con = swapL ((L.take m).map HdR.con) i j1 y.con x.con) := by show _ = _; rw [List.take_set, List.take_set, map_swap]
            have HU2 : Hid (DownAt ((((L.set i x).set j1 y).take m).map HdR.con) m j1) := by
              show DownAt _ _ _
              rw [HT.out]
              exact down_step (by rw [List.length_map, List.length_take, HLn.out]; omega) (by omega) (by omega) HPj1.out HU.out (con_ne (w := w0) HOK.out) (tget HXj1.out (by omega)) (tget HY.out (by omega)) hL HM.out
            have HP2 : Hid ((((L.set i x).set j1 y).take m).Perm (L0.take m)) := by
              show List.Perm _ _
              rw [List.take_set, List.take_set]
              exact (swap_perm (by omega) (by rw [List.getElem?_take_of_lt (by omega)]; exact HY.out) (by rw [List.getElem?_take_of_lt (by omega)]; exact HXj1.out)).trans HP.out
            have HD2 : Hid (((L.set i x).set j1 y).drop m = L0.drop m) := by show _ = _; rw [List.drop_set_of_lt (by omega), List.drop_set_of_lt (by omega), HD.out]
            have HOK2 : Hid (∀ z ∈ ((L.set i x).set j1 y).take m, z.ok w0) := fun z hz => HOK.out z ((HP.out.mem_iff).2 (HP2.out.mem_iff.1 hz))
            clear hL HT
            have cm := (H.out.blk 0 rfl).cell 0; simp only [List.getElem?_toArray, List.getElem?_cons_zero, List.getElem?_cons_succ] at cm
            have mm := fun k => meth_Swap k g cm
            clear cm
            go_wp2_with fail
            clear mm
            refine (hswap_any w0 _ g A n c i j1 L rest y x H.out hn HY.out HXj1.out).mono ?_; rintro e w3 ⟨rfl, hh3⟩
            replace H := Lib.hid hh3
            clear hh3
            go_wp2_with fail
            go_roundg (m - j1)
            case rel => exact ⟨j1, _, rfl, by omega, by go_num, HP2, HD2, HOK2, HU2, H⟩
            case measure => rw [Hgk.out]; omega
      · have HM : Hid (∀ k c, 0 < k → k < m → (k - 1) / 2 = i → ((L.take m).map HdR.con)[k]? = some c → lessH c x.con = false) := fun k c h0 hk hp hc => by
          obtain rfl : k = j1 := by have := HJ1.out; have := HJ2.out; omega
          rw [tget HXj1.out (by omega)] at hc; injection hc with hc; subst hc; exact lessH_self _
        have cm := (H.out.blk 0 rfl).cell 0; simp only [List.getElem?_toArray, List.getElem?_cons_zero, List.getElem?_cons_succ] at cm
        have mm := fun k => meth_Less k g cm
        clear cm
        go_wp2_with fail
        clear mm
        refine (HLs.out j1 i x y HXj1.out HY.out (by omega) (by omega) _ H.out.to (H.out.row 1 rfl)).mono ?_; rintro e w2 ⟨rfl, hb2⟩
        replace H := Lib.hid (H.out.bel hb2); (try simp only [List.set_cons_zero, List.set_cons_succ, List.cons_append, List.nil_append, List.eraseIdx_cons_zero, List.eraseIdx_cons_succ, List.setIfInBounds_toArray, World.size_alloc, selR, List.getD_cons_zero, List.getD_cons_succ] at H)
        clear hb2
        cases hL : lessH x.con y.con with
        | false =>
          have HH : Hid (Heap ((L.take m).map HdR.con) m) := down_stop HU.out (fun k a b h0 hk hp ha hb => by
            rw [tget HY.out (by omega)] at hb
            injection hb with hb; subst hb
            exact lessH_ntrans (tne HOK.out HXj1.out (by omega)) hL (HM.out k a h0 hk hp ha))
          clear hL
          go_wp2_with fail
          go_returns
          exact ⟨⟨_, rfl⟩, L, HP.out, HD.out, HH.out, H.out⟩
        | true =>
          have HT : Hid ((((L.set i x).set j1 y).take m).map HdR.con = swapL ((L.take m).map HdR.con) i j1 y.con x.con) := by show _ = _; rw [List.take_set, List.take_set, map_swap]
          have HU2 : Hid (DownAt ((((L.set i x).set j1 y).take m).map HdR.con) m j1) := by
            show DownAt _ _ _
            rw [HT.out]
            exact down_step (by rw [List.length_map, List.length_take, HLn.out]; omega) (by omega) (by omega) HPj1.out HU.out (con_ne (w := w0) HOK.out) (tget HXj1.out (by omega)) (tget HY.out (by omega)) hL HM.out
          have HP2 : Hid ((((L.set i x).set j1 y).take m).Perm (L0.take m)) := by
            show List.Perm _ _
            rw [List.take_set, List.take_set]
            exact (swap_perm (by omega) (by rw [List.getElem?_take_of_lt (by omega)]; exact HY.out) (by rw [List.getElem?_take_of_lt (by omega)]; exact HXj1.out)).trans HP.out
          have HD2 : Hid (((L.set i x).set j1 y).drop m = L0.drop m) := by show _ = _; rw [List.drop_set_of_lt (by omega), List.drop_set_of_lt (by omega), HD.out]
          have HOK2 : Hid (∀ z ∈ ((L.set i x).set j1 y).take m, z.ok w0) := fun z hz => HOK.out z ((HP.out.mem_iff).2 (HP2.out.mem_iff.1 hz))
          clear hL HT
          have cm := (H.out.blk 0 rfl).cell 0; simp only [List.getElem?_toArray, List.getElem?_cons_zero, List.getElem?_cons_succ] at cm
          have mm := fun k => meth_Swap k g cm
          clear cm
          go_wp2_with fail
          clear mm
          refine (hswap_any w0 _ g A n c i j1 L rest y x H.out hn HY.out HXj1.out).mono ?_; rintro e w3 ⟨rfl, hh3⟩
          replace H := Lib.hid hh3
          clear hh3
          go_wp2_with fail
          go_roundg (m - j1)
          case rel => exact ⟨j1, _, rfl, by omega, by go_num, HP2, HD2, HOK2, HU2, H⟩
          case measure => rw [Hgk.out]; omega

end Go.Proofs.Ytnekknemjhlgdaa
