/- The heap of runs: up. -/
import Derived.Test.YtnekknemjhlgdaaKmB
namespace Go.Proofs.Ytnekknemjhlgdaa
open Go.RowKit
set_option linter.unusedVariables false
set_option linter.unusedSimpArgs false


theorem map_swap {L : List HdR} {i j : Nat} {a b : HdR} : ((L.set i a).set j b).map HdR.con = swapL (L.map HdR.con) i j b.con a.con := by rw [List.map_set, List.map_set]; rfl
theorem map_get {L : List HdR} {i : Nat} {a : HdR} (h : L[i]? = some a) : (L.map HdR.con)[i]? = some a.con := by rw [List.getElem?_map, h]; rfl
theorem con_ne {L : List HdR} {w : World} (h : ∀ x ∈ L, x.ok w) : ∀ x ∈ L.map HdR.con, x.1 ≠ [] := fun x hx e => by
  obtain ⟨y, hy, rfl⟩ := List.mem_map.1 hx
  have h1 := (h y hy).n1
  have h2 := (h y hy).left.len
  have h3 : (cons y.left.l).length = 0 := by rw [show cons y.left.l = [] from e]; rfl
  rw [cons_len] at h3
  omega
set_option maxRecDepth 100000 in
set_option maxHeartbeats 2000000 in
theorem up_any (w0 w : World) (g : Nat) (A : Option Addr) (n c j0 : Nat) (L0 : List HdR) (rest : List Res) (h : SL No w0 w (rHeap g A n c L0 rest)) (hn : n ≤ 1000000) (hok : ∀ x ∈ L0, x.ok w0) (hj : j0 < n) (hu : UpAt (L0.map HdR.con) j0) :
    Calls Try.prog 172 #[.iface 183 (.pointer (some ⟨g, 0, none⟩)), .int .i64 j0] w fun e w' => e = .returned (.tuple #[]) ∧ ∃ L, L.Perm L0 ∧ Heap (L.map HdR.con) n ∧ SL No w0 w' (rHeap g A n c L rest) := by
  have H := Lib.hid h
  have HOK := Lib.hid hok
  have hl0 : L0.length = n := rd_len (Rd.of_own (h.row 1 rfl))
  have HU := Lib.hid hu
  have HP : Hid (L0.Perm L0) := List.Perm.refl _
  have HL0 := Lib.hid hl0
  clear h hok hu hl0
  go_enter Try.func172, Try.ntmps172
  go_wp2_with fail
  go_loopg [1, 4] j0 (fun gg s1 s4 wr => ∃ (j : Nat) (L : List HdR), gg = j ∧ j < n ∧ s1 = .int .i64 j ∧ Hid (L.Perm L0) ∧ Hid (UpAt (L.map HdR.con) j) ∧ Hid (SL No w0 wr (rHeap g A n c L rest)))
  case atStart => exact ⟨j0, L0, rfl, hj, rfl, HP, HU, H⟩
  case round =>
    clear H HU HP hj
    obtain ⟨j, L, hgk, hj, rfl, HP, HU, H⟩ := hrel
    have Hgk := Lib.hid hgk
    clear hgk
    have HLn : Hid (L.length = n) := rd_len (Rd.of_own (H.out.row 1 rfl))
    by_cases hj0 : j = 0
    · subst hj0
      have HH : Hid (Heap (L.map HdR.con) n) := by have h := up_stop0 HU.out; rw [List.length_map, HLn.out] at h; exact h
      go_wp2_with fail
      go_returns
      exact ⟨rfl, L, HP.out, HH.out, H.out⟩
    · obtain ⟨k, rfl⟩ : ∃ k, j = k + 1 := ⟨j - 1, by omega⟩
      have e1 : ((k + 1 : Nat) : Int) - 1 = k := by omega
      have e2 : (k : Int).tdiv 2 = ((k / 2 : Nat) : Int) := rfl
      have e3 : ¬ ((k / 2 : Nat) : Int) = ((k + 1 : Nat) : Int) := by omega
      have e4 : ((((k / 2 : Nat) : Int)) == ((k + 1 : Nat) : Int)) = false := by simp <;> omega
      obtain ⟨x, hx⟩ : ∃ x, L[k + 1]? = some x := ⟨_, List.getElem?_eq_getElem (by rw [HLn.out]; exact hj)⟩
      obtain ⟨y, hy⟩ : ∃ y, L[k / 2]? = some y := ⟨_, List.getElem?_eq_getElem (by rw [HLn.out]; omega)⟩
      have HX := Lib.hid hx
      have HY := Lib.hid hy
      have HLs := Lib.hid (fun w' (hb : Bel w0 w') (ho : w'.ownsRow 0 188 2 (.slice A n c) n (L.flatMap Cel.cells)) => hless_any A n c (k + 1) (k / 2) L x y w' ho hn hx hy ((HOK.out x (HP.out.mem_iff.1 (List.mem_of_getElem? hx))).mono hb) ((HOK.out y (HP.out.mem_iff.1 (List.mem_of_getElem? hy))).mono hb))
      clear hx hy
      have cm := (H.out.blk 0 rfl).cell 0; simp only [List.getElem?_toArray, List.getElem?_cons_zero, List.getElem?_cons_succ] at cm
      have mm := fun k => meth_Less k g cm
      clear cm
      go_wp2_with fail
      clear mm
      refine (HLs.out _ H.out.to (H.out.row 1 rfl)).mono ?_; rintro e w2 ⟨rfl, hb2⟩
      replace H := Lib.hid (H.out.bel hb2); (try simp only [List.set_cons_zero, List.set_cons_succ, List.cons_append, List.nil_append, List.eraseIdx_cons_zero, List.eraseIdx_cons_succ, List.setIfInBounds_toArray, World.size_alloc, selR, List.getD_cons_zero, List.getD_cons_succ] at H)
      clear hb2 HLs
      cases hL : lessH x.con y.con with
      | false =>
        have HH : Hid (Heap (L.map HdR.con) n) := by have h := up_stop HU.out (map_get HX.out) (map_get HY.out) hL; rw [List.length_map, HLn.out] at h; exact h
        clear hL
        go_wp2_with fail
        go_returns
        exact ⟨rfl, L, HP.out, HH.out, H.out⟩
      | true =>
        have HU2 : Hid (UpAt (((L.set (k / 2) x).set (k + 1) y).map HdR.con) (k / 2)) := by show UpAt _ _; rw [map_swap]; exact up_step (j := k + 1) (by omega) HU.out (con_ne (w := w0) fun z hz => HOK.out z (HP.out.mem_iff.1 hz)) (map_get HX.out) (map_get HY.out) hL
        have HP2 : Hid (((L.set (k / 2) x).set (k + 1) y).Perm L0) := (swap_perm (by omega) HY.out HX.out).trans HP.out
        clear hL HU HP
        have cm := (H.out.blk 0 rfl).cell 0; simp only [List.getElem?_toArray, List.getElem?_cons_zero, List.getElem?_cons_succ] at cm
        have mm := fun k => meth_Swap k g cm
        clear cm
        go_wp2_with fail
        clear mm
        refine (hswap_any w0 _ g A n c (k / 2) (k + 1) L rest y x H.out hn HY.out HX.out).mono ?_; rintro e w3 ⟨rfl, hh3⟩
        replace H := Lib.hid hh3
        clear hh3
        go_wp2_with fail
        go_roundg (k / 2)
        case rel => exact ⟨k / 2, _, rfl, by omega, by go_num, HP2, HU2, H⟩
        case measure => rw [Hgk.out]; omega

end Go.Proofs.Ytnekknemjhlgdaa
