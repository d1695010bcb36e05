/- The heap of runs: container/heap's Push, Pop, Fix. -/
import Derived.Test.YtnekknemjhlgdaaKmE
import Derived.Test.YtnekknemjhlgdaaKmC
namespace Go.Proofs.Ytnekknemjhlgdaa
open Go.RowKit
set_option linter.unusedVariables false
set_option linter.unusedSimpArgs false


set_option maxRecDepth 100000 in
set_option maxHeartbeats 2000000 in
theorem hpPush_any (w0 w : World) (g : Nat) (A : Option Addr) (n c : Nat) (L : List HdR) (rest : List Res) (a : HdR) (h : SL No w0 w (rHeap g A n c L rest)) (hn : n ≤ 999999) (hok : ∀ x ∈ L, x.ok w0) (ha : a.ok w0) (hh : Heap (L.map HdR.con) n) :
    Calls Try.prog 113 #[.iface 183 (.pointer (some ⟨g, 0, none⟩)), .iface 188 (.agg a.cs)] w fun e w' => e = .returned (.tuple #[]) ∧ ∃ (A' : Option Addr) (c' : Nat) (L' : List HdR), L'.Perm (L ++ [a]) ∧ Heap (L'.map HdR.con) (n + 1) ∧ SL No w0 w' (rHeap g A' (n + 1) c' L' rest) := by
  have hl : L.length = n := rd_len (Rd.of_own (h.row 1 rfl))
  have HOK : Hid (∀ x ∈ L ++ [a], x.ok w0) := fun x hx => (List.mem_append.1 hx).elim (hok x) (fun h => by rw [List.mem_singleton] at h; subst h; exact ha)
  have HU : Hid (UpAt ((L ++ [a]).map HdR.con) n) := by
    constructor
    · intro k x y h0 hk hP hx hy
      rw [List.length_map, List.length_append, List.length_singleton] at hk
      rw [List.map_append, List.getElem?_append_left (by rw [List.length_map]; omega)] at hx hy
      exact hh k x y h0 (by omega) (fun h => h) hx hy
    · intro k x y h0 h1 hk hx hy
      have := (List.getElem?_eq_some_iff.1 hx).1
      rw [List.length_map, List.length_append, List.length_singleton] at this
      omega
  have HP := Lib.hid (hpush_any w0 w g A n c L rest a h (by omega))
  clear h hok ha hh hl
  go_enter Try.func113, Try.ntmps113
  have mm := fun k w => meth_Push k (.pointer (some ⟨g, 0, none⟩)) w
  go_wp2_with fail
  clear mm
  refine HP.out.mono ?_; rintro e w2 ⟨rfl, A2, c2, h2⟩
  have H := Lib.hid h2
  clear h2 HP
  have cm := (H.out.blk 0 rfl).cell 0; simp only [List.getElem?_toArray, List.getElem?_cons_zero, List.getElem?_cons_succ] at cm
  have mm := fun k => meth_Len k g cm
  clear cm
  go_wp2_with fail
  clear mm
  refine (hlen_any _ _ _ _).mono ?_; rintro e w3 ⟨rfl, rfl⟩
  have e1 : ((n + 1 : Nat) : Int) - 1 = n := by omega
  go_wp2_with fail
  refine (up_any w0 _ g A2 (n + 1) c2 n (L ++ [a]) rest H.out (by omega) HOK.out (by omega) HU.out).mono ?_; rintro e w4 ⟨rfl, L', hp, hh, hs⟩
  have HR : Hid (∃ (A' : Option Addr) (c' : Nat) (L' : List HdR), L'.Perm (L ++ [a]) ∧ Heap (L'.map HdR.con) (n + 1) ∧ SL No w0 w4 (rHeap g A' (n + 1) c' L' rest)) := ⟨A2, c2, L', hp, hh, hs⟩
  clear hp hh hs
  go_wp2
  go_returns
  exact ⟨rfl, HR.out⟩
set_option maxRecDepth 100000 in
set_option maxHeartbeats 2000000 in
theorem hpFix_any (w0 w : World) (g : Nat) (A : Option Addr) (n c : Nat) (L : List HdR) (rest : List Res) (h : SL No w0 w (rHeap g A n c L rest)) (hn : n ≤ 1000000) (h1 : 1 ≤ n) (hok : ∀ x ∈ L, x.ok w0) (hu : DownAt (L.map HdR.con) n 0) :
    Calls Try.prog 116 #[.iface 183 (.pointer (some ⟨g, 0, none⟩)), .int .i64 0] w fun e w' => e = .returned (.tuple #[]) ∧ ∃ (L' : List HdR), L'.Perm L ∧ Heap (L'.map HdR.con) n ∧ SL No w0 w' (rHeap g A n c L' rest) := by
  have hl : L.length = n := rd_len (Rd.of_own (h.row 1 rfl))
  have ht : L.take n = L := List.take_of_length_le (by omega)
  have HDn := Lib.hid (down_any w0 w g A n n c 0 L rest h hn (Nat.le_refl _) (by rw [ht]; exact hok) (Nat.zero_le _) (by rw [ht]; exact hu))
  have HOK := Lib.hid hok
  have HT := Lib.hid ht
  have H := Lib.hid h
  clear h hok hu hl ht
  go_enter Try.func116, Try.ntmps116
  have cm := (H.out.blk 0 rfl).cell 0; simp only [List.getElem?_toArray, List.getElem?_cons_zero, List.getElem?_cons_succ] at cm
  have mm := fun k => meth_Len k g cm
  clear cm
  go_wp2_with fail
  clear mm
  refine (hlen_any _ _ _ _).mono ?_; rintro e w3 ⟨rfl, rfl⟩
  go_wp2_with fail
  refine HDn.out.mono ?_; rintro e w4 ⟨⟨b, rfl⟩, L', hp, hd, hh, hs⟩
  have hl2 : L'.length = n := rd_len (Rd.of_own (hs.row 1 rfl))
  have ht2 : L'.take n = L' := List.take_of_length_le (by omega)
  rw [ht2, HT.out] at hp
  rw [ht2] at hh
  have HP := Lib.hid hp
  have HH := Lib.hid hh
  have HU : Hid (UpAt (L'.map HdR.con) 0) := ⟨fun k x y h0 hk hP hx hy => by
    rw [List.length_map, hl2] at hk
    exact hh k x y h0 hk (fun h => h) hx hy, fun k x y h0 => by omega⟩
  have HOK2 : Hid (∀ x ∈ L', x.ok w0) := fun x hx => HOK.out x (hp.mem_iff.1 hx)
  clear H HDn hp hd hh hl2 ht2
  have H := Lib.hid hs
  clear hs
  cases b with
  | true =>
    go_wp2
    go_returns
    exact ⟨rfl, L', HP.out, HH.out, H.out⟩
  | false =>
    go_wp2_with fail
    refine (up_any w0 _ g A n c 0 L' rest H.out hn HOK2.out (by omega) HU.out).mono ?_; rintro e w5 ⟨rfl, L2, hp2, hh2, hs2⟩
    have HR : Hid (∃ (L2 : List HdR), L2.Perm L ∧ Heap (L2.map HdR.con) n ∧ SL No w0 w5 (rHeap g A n c L2 rest)) := ⟨L2, hp2.trans HP.out, hh2, hs2⟩
    clear hp2 hh2 hs2
    go_wp2
    go_returns
    exact ⟨rfl, HR.out⟩
set_option maxRecDepth 100000 in
set_option maxHeartbeats 2000000 in
theorem hpPop_any (w0 w : World) (g : Nat) (A : Option Addr) (m c : Nat) (L : List HdR) (rest : List Res) (r : HdR) (h : SL No w0 w (rHeap g A (m + 1) c L rest)) (hn : m ≤ 999999) (hr : L[0]? = some r) (hok : ∀ k x, 0 < k → L[k]? = some x → x.ok w0) (hh : Heap (L.map HdR.con) (m + 1)) :
    Calls Try.prog 115 #[.iface 183 (.pointer (some ⟨g, 0, none⟩))] w fun e w' => (∃ v, e = .returned v) ∧ ∃ (L' : List HdR), (L' ++ [r]).Perm L ∧ Heap (L'.map HdR.con) m ∧ SL No w0 w' (rHeap g A m c L' rest) := by
  have hl : L.length = m + 1 := rd_len (Rd.of_own (h.row 1 rfl))
  obtain ⟨z, hz⟩ : ∃ z, L[m]? = some z := ⟨_, List.getElem?_eq_getElem (by omega)⟩
  obtain ⟨L1, hL1⟩ : ∃ L1, L1 = (L.set 0 z).set m r := ⟨_, rfl⟩
  have get1 : ∀ k, L1[k]? = if k = m then some r else if k = 0 then some z else L[k]? := fun k => by
    rw [hL1]
    by_cases e1 : k = m
    · rw [if_pos e1, e1, List.getElem?_set_self (by simp; omega)]
    · rw [if_neg e1, List.getElem?_set_ne (fun h => e1 h.symm)]
      by_cases e2 : k = 0
      · rw [if_pos e2, e2, List.getElem?_set_self (by omega)]
      · rw [if_neg e2, List.getElem?_set_ne (fun h => e2 h.symm)]
  have hl1 : L1.length = m + 1 := by rw [hL1]; simp [hl]
  have hp1 : L1.Perm L := by
    rw [hL1]
    by_cases e : m = 0
    · subst e
      rw [hr] at hz; injection hz with hz; subst hz
      rw [List.set_set]
      rw [show L.set 0 r = L from List.ext_getElem? fun k => by
        by_cases e : k = 0
        · rw [e, List.getElem?_set_self (by omega), hr]
        · rw [List.getElem?_set_ne (fun h => e h.symm)]]
    · exact swap_perm (by omega) hr hz
  have HOK : Hid (∀ x ∈ L1.take m, x.ok w0) := fun x hx => by
    obtain ⟨k, hk⟩ := List.mem_iff_getElem?.1 hx
    rw [List.getElem?_take] at hk
    split at hk
    · rename_i hkm
      rw [get1, if_neg (by omega)] at hk
      split at hk
      · injection hk with hk; subst hk
        exact hok m z (by omega) hz
      · exact hok k x (by omega) hk
    · cases hk
  have HU : Hid (DownAt ((L1.take m).map HdR.con) m 0) := by
    constructor
    · intro k x y h0 hk hP hx hy
      rw [List.getElem?_map, List.getElem?_take_of_lt hk, get1, if_neg (by omega), if_neg (by omega), ← List.getElem?_map] at hx
      rw [List.getElem?_map, List.getElem?_take_of_lt (by omega), get1, if_neg (by omega), if_neg hP, ← List.getElem?_map] at hy
      exact hh k x y h0 (by omega) (fun h => h) hx hy
    · intro k x y h0; omega
  have HSw := Lib.hid (hswap_any w0 w g A (m + 1) c 0 m L rest r z h (by omega) hr hz)
  rw [← hL1] at HSw
  have HG : Hid (L1 = L1.take m ++ [r]) := by
    show _ = _
    have := List.take_append_drop m L1
    conv => lhs; rw [← this]
    congr 1
    rw [List.drop_eq_getElem_cons (by omega), List.drop_of_length_le (by omega)]
    have hg := get1 m
    rw [if_pos rfl, List.getElem?_eq_getElem (by omega)] at hg
    injection hg with hg
    rw [hg]
  have HP1 := Lib.hid hp1
  have H := Lib.hid h
  clear h hok hh hl hr hz hL1 get1 hl1 hp1
  go_enter Try.func115, Try.ntmps115
  have cm := (H.out.blk 0 rfl).cell 0; simp only [List.getElem?_toArray, List.getElem?_cons_zero, List.getElem?_cons_succ] at cm
  have mm := fun k => meth_Len k g cm
  clear cm
  go_wp2_with fail
  clear mm
  refine (hlen_any _ _ _ _).mono ?_; rintro e w3 ⟨rfl, rfl⟩
  have e1 : ((m + 1 : Nat) : Int) - 1 = m := by omega
  have cm := (H.out.blk 0 rfl).cell 0; simp only [List.getElem?_toArray, List.getElem?_cons_zero, List.getElem?_cons_succ] at cm
  have mm := fun k => meth_Swap k g cm
  clear cm
  go_wp2_with fail
  clear mm
  refine HSw.out.mono ?_; rintro e w4 ⟨rfl, h4⟩
  replace H := Lib.hid h4
  clear h4 HSw
  go_wp2_with fail
  refine (down_any w0 _ g A (m + 1) m c 0 L1 rest H.out (by omega) (by omega) HOK.out (Nat.zero_le _) HU.out).mono ?_; rintro e w5 ⟨⟨b, rfl⟩, L2, hp, hd, hh, hs⟩
  have HP2 := Lib.hid hp
  have HH := Lib.hid hh
  clear H HU HOK hp hd hh
  have H := Lib.hid hs
  clear hs
  have mm := fun k w => meth_Pop k (.pointer (some ⟨g, 0, none⟩)) w
  go_wp2_with fail
  clear mm
  refine (hpop_any w0 _ g A m c L2 rest H.out (by omega)).mono ?_; rintro e w6 ⟨⟨v, rfl⟩, h6⟩
  have HR : Hid (∃ (L' : List HdR), (L' ++ [r]).Perm L ∧ Heap (L'.map HdR.con) m ∧ SL No w0 w6 (rHeap g A m c L' rest)) := ⟨L2.take m, ((HP2.out.append_right [r]).trans (by rw [← HG.out])).trans HP1.out, HH.out, h6⟩
  clear h6 HP2 HH H
  go_wp2
  go_returns
  exact ⟨⟨_, rfl⟩, HR.out⟩

end Go.Proofs.Ytnekknemjhlgdaa
