/- slices.Concat of cells; node.Each. -/
import Derived.Test.YtlclllkjnhgbjaaNodF
namespace Go.Proofs.Ytlclllkjnhgbjaa
open Go.RowKit
set_option linter.unusedVariables false
set_option linter.unusedSimpArgs false


theorem flat_nextG {L : List (List Cl)} {k : Nat} {l : List Cl} (h : L[k]? = some l) : (L.take (k + 1)).flatten = (L.take k).flatten ++ l := by
  rw [take_snoc_get h, List.flatten_append]; simp
theorem flat_leG (L : List (List Cl)) (k : Nat) : (L.take k).flatten.length ≤ L.flatten.length := by
  conv => rhs; rw [← List.take_append_drop k L, List.flatten_append, List.length_append]
  omega
set_option maxRecDepth 100000 in
set_option maxHeartbeats 2000000 in
theorem concat_any (x : Row (Row Cl)) (w : World) (hx : x.rd w) (ht : (x.l.map Row.l).flatten.length ≤ 1000000) :
    Calls Try.prog 105 #[.slice x.A x.n x.c] w fun e w' => ∃ (A : Option Addr) (c : Nat), e = .returned (.slice A (x.l.map Row.l).flatten.length c) ∧ Bel w w' ∧ w'.ownsRow w.heap.size 32 12 (.slice A (x.l.map Row.l).flatten.length c) (x.l.map Row.l).flatten.length ((x.l.map Row.l).flatten.flatMap Cel.cells) := by
  have HX := Lib.hid (fun w' (hb : Bel w w') => hx.mono hb)
  have hll : Hid (x.l.length = x.n) := hx.len
  have n63 := hx.n63
  have H := Lib.hid (SL.start No w)
  have HT := Lib.hid ht
  have HS0 : Hid (0 = ((x.l.map Row.l).take (0)).flatten.length) := rfl
  clear hx ht
  go_enter Try.func105, Try.ntmps105
  go_upto_region 3 with fail
  go_loopg [3, 11] x.n (fun gg s3 s11 wr => ∃ (k m : Nat), gg = x.n - k ∧ k ≤ x.n ∧ s3 = .int .i64 m ∧ s11 = .int .i64 k ∧ Hid (m = ((x.l.map Row.l).take (k)).flatten.length) ∧ Hid (SL No w wr []))
  case atStart => exact ⟨0, 0, rfl, by omega, rfl, rfl, HS0, H⟩
  case round =>
    clear H
    obtain ⟨k, m, hgk, hk, rfl, rfl, HM, H⟩ := hrel
    have Hgk := Lib.hid hgk
    clear hgk
    by_cases hlt : k < x.n
    · obtain ⟨bl, ol, v, hAl, hvk, hvok, hvc⟩ := (HX.out _ H.out.to).clsAt (k := k) hlt
      have hvl : v.l.length = v.n := hvok.rds.len
      have hnx := flat_nextG (L := x.l.map Row.l) (k := k) (l := v.l) (by rw [List.getElem?_map, hvk]; rfl)
      have hle := flat_leG (x.l.map Row.l) (k + 1)
      have HM2 : Hid (m + v.n = ((x.l.map Row.l).take (k + 1)).flatten.length) := by show _ = _; rw [hnx, List.length_append, ← HM.out, hvl]
      have hm2 : m + v.n ≤ 1000000 := by have := HM2.out; have := HT.out; omega
      have k0 : (0 : Int) ≤ k := by omega
      have k1 : (k : Int) < x.n := by omega
      have d0 : decide ((m : Int) + (v.n : Int) < 0) = false := by simp <;> omega
      have HAL := Lib.hid hAl
      rw [hAl]
      clear hvk hvok hvl hnx hle hAl HM
      go_wp2_with fail
      rw [← HAL.out]
      go_roundg (x.n - (k + 1))
      case rel => exact ⟨k + 1, m + v.n, rfl, by omega, by go_num, by go_num, HM2, H⟩
      case measure => rw [Hgk.out]; omega
    · obtain rfl : k = x.n := by omega
      have HMT : Hid (m = (x.l.map Row.l).flatten.length) := by show _ = _; rw [HM.out, List.take_of_length_le (by rw [List.length_map, hll.out]; exact Nat.le_refl _)]
      have hmm : m ≤ 1000000 := by have := HMT.out; have := HT.out; omega
      clear HM
      go_wp2_with fail
      refine (grow_any m _ hmm).mono ?_; rintro e w2 ⟨A, c, rfl, hb2, ho2⟩
      replace H := Lib.hid (H.out.addRow hb2 ho2); (try simp only [List.set_cons_zero, List.set_cons_succ, List.cons_append, List.nil_append, List.eraseIdx_cons_zero, List.eraseIdx_cons_succ, List.setIfInBounds_toArray, World.size_alloc, selR, List.getD_cons_zero, List.getD_cons_succ] at H)
      clear hb2 ho2 HMT
      go_upto_region 11 with fail
      have HR0 : Hid (SL No w w2 [rRow 32 12 (.slice A 0 c) 0 (((x.l.map Row.l).take (0)).flatten.flatMap Cel.cells)]) := H
      go_loopg [6, 27] x.n (fun gg s6 s27 wr => ∃ (k m : Nat) (B : Option Addr) (d : Nat), gg = x.n - k ∧ k ≤ x.n ∧ s6 = .slice B m d ∧ s27 = .int .i64 k ∧ Hid (m = ((x.l.map Row.l).take (k)).flatten.length) ∧ Hid (SL No w wr [rRow 32 12 (.slice B m d) m (((x.l.map Row.l).take (k)).flatten.flatMap Cel.cells)]))
      case atStart => exact ⟨0, 0, A, c, rfl, by omega, rfl, rfl, HS0, HR0⟩
      case round =>
        clear H HR0
        obtain ⟨k, m, B, d, hgk, hk, rfl, rfl, HM, H⟩ := hrel
        have Hgk := Lib.hid hgk
        clear hgk
        by_cases hlt : k < x.n
        · obtain ⟨bl, ol, v, hAl, hvk, hvok, hvc⟩ := (HX.out _ H.out.to).clsAt (k := k) hlt
          have hvl : v.l.length = v.n := hvok.rds.len
          have hnx := flat_nextG (L := x.l.map Row.l) (k := k) (l := v.l) (by rw [List.getElem?_map, hvk]; rfl)
          have hle := flat_leG (x.l.map Row.l) (k + 1)
          have HM2 : Hid (m + v.n = ((x.l.map Row.l).take (k + 1)).flatten.length) := by show _ = _; rw [hnx, List.length_append, ← HM.out, hvl]
          have hm2 : m + v.n ≤ 1000000 := by have := HM2.out; have := HT.out; omega
          have HFM : Hid ((((x.l.map Row.l).take (k + 1)).flatten.flatMap Cel.cells : List Value) = ((x.l.map Row.l).take (k)).flatten.flatMap Cel.cells ++ v.l.flatMap Cel.cells) := by show _ = _; rw [hnx, List.flatMap_append]
          have HRR := Lib.hid hvok.rds.r
          have k0 : (0 : Int) ≤ k := by omega
          have k1 : (k : Int) < x.n := by omega
          have HAL := Lib.hid hAl
          rw [hAl]
          clear hvk hvok hvl hnx hle hAl HM
          go_wp2_with ((with_reducible show wpList _ _ _ (⟨some 33, _, _, _, _, _⟩ :: _) _ _); (refine wpList_append0 rfl (.tmp 31) (.tmp 32) _ rfl E_cl 0 (Nat.zero_le _) _ m _ rfl (H.out.row 0 rfl) v.A v.n v.c (v.l.flatMap Cel.cells) rfl (HRR.out) (cls_one v.l) (by unfold maxLen; omega) (by omega) ?_; intro vq wq howq hgq hatq; replace H := Lib.hid (H.out.setRow 0 rfl hgq howq hatq); (try simp only [List.set_cons_zero, List.set_cons_succ, List.cons_append, List.nil_append, List.eraseIdx_cons_zero, List.eraseIdx_cons_succ, List.setIfInBounds_toArray, World.size_alloc, selR, List.getD_cons_zero, List.getD_cons_succ] at H); clear howq hgq hatq; obtain ⟨A2, c2, rfl, _⟩ := own_slice (H.out.row 0 rfl)))
          rw [← HAL.out]
          rw [← HFM.out] at H
          go_roundg (x.n - (k + 1))
          case rel => exact ⟨k + 1, m + v.n, A2, c2, rfl, by omega, by rfl, by go_num, HM2, H⟩
          case measure => rw [Hgk.out]; omega
        · obtain rfl : k = x.n := by omega
          have hT : (x.l.map Row.l).take x.n = x.l.map Row.l := List.take_of_length_le (by rw [List.length_map, hll.out]; exact Nat.le_refl _)
          rw [hT] at H HM
          have HMM := Lib.hid HM.out
          clear hT HM
          go_wp2_with fail
          go_ret
          rw [HMM.out] at H ⊢
          exact ⟨B, d, rfl, H.out.to, H.out.rowB 0 rfl⟩
set_option maxRecDepth 100000 in
set_option maxHeartbeats 1000000 in
theorem each_any (n : Nd) (w : World) (hn : n.rd w) (ht : (n.ls.l.map Row.l).flatten.length ≤ 999999) :
    Calls Try.prog 89 #[.agg n.cs] w fun e w' => ∃ (A : Option Addr) (c : Nat), e = .returned (.slice A (eachN n.con).length c) ∧ Bel w w' ∧ w'.ownsRow w.heap.size 32 12 (.slice A (eachN n.con).length c) (eachN n.con).length ((eachN n.con).flatMap Cel.cells) := by
  have HC := Lib.hid (fun w' (hb : Bel w w') => concat_any n.ls w' (hn.ls.mono hb) (by omega))
  have H := Lib.hid ((SL.start No w).alloc n.cs 34)
  (try simp only [List.set_cons_zero, List.set_cons_succ, List.cons_append, List.nil_append, List.eraseIdx_cons_zero, List.eraseIdx_cons_succ, List.setIfInBounds_toArray, World.size_alloc, selR, List.getD_cons_zero, List.getD_cons_succ] at H)
  obtain ⟨m, hm⟩ : ∃ m, m = (n.ls.l.map Row.l).flatten.length := ⟨_, rfl⟩
  have he1 : (eachN n.con).length = m + 1 := by unfold eachN; rw [List.length_append, ← hm]; rfl
  have he2 : ((eachN n.con).flatMap Cel.cells : List Value) = (n.ls.l.map Row.l).flatten.flatMap Cel.cells ++ n.all.cs.toList := by unfold eachN; rw [List.flatMap_append]; simp [Cel.cells]
  rw [he1, he2]
  rw [← hm] at HC ht
  clear hn he1 he2 hm
  go_enter Try.func89, Try.ntmps89
  go_upto_region 1 with fail
  generalize w.heap.size = x at *
  generalize World.alloc w _ = w1 at *
  have cl : w1.cell? ⟨x, 1, none⟩ = some (.slice n.ls.A n.ls.n n.ls.c) := (H.out.blk 0 rfl).cell 1
  go_wp2_with fail
  refine (HC.out _ H.out.to).mono ?_; rintro e w2 ⟨A, c, rfl, hb2, ho2⟩
  replace H := Lib.hid (H.out.addRow hb2 ho2); (try simp only [List.set_cons_zero, List.set_cons_succ, List.cons_append, List.nil_append, List.eraseIdx_cons_zero, List.eraseIdx_cons_succ, List.setIfInBounds_toArray, World.size_alloc, selR, List.getD_cons_zero, List.getD_cons_succ] at H)
  clear hb2 ho2 cl
  have HAL : Hid (w2.rangeAt x 2 n.all.cs.toList) := fun j v hv => by
    have := (H.out.blk 0 rfl).range (j + 2) v (by rw [nd_all]; exact hv)
    rw [show 0 + (j + 2) = 2 + j by omega] at this
    exact this
  go_wp2_with (first | ((with_reducible show wpList _ _ _ (⟨some 9, _, _, _, _, _⟩ :: _) _ _); (refine wpList_load_row_at rfl rowCl (.tmp 8) rfl x (2) rfl n.all.cs rfl HAL.out ?_)) | ((with_reducible show wpList _ _ _ (⟨some 10, _, _, _, _, _⟩ :: _) _ _); (refine wpList_buildSlice1 rfl E_cl (.tmp 9) rfl (n.all.cs) rfl rfl (by omega) ?_; replace H := Lib.hid (H.out.addRow ((Bel.refl _).alloc _) (own_made _ 32 (n.all.cs) _ rfl)); (try simp only [List.set_cons_zero, List.set_cons_succ, List.cons_append, List.nil_append, List.eraseIdx_cons_zero, List.eraseIdx_cons_succ, List.setIfInBounds_toArray, World.size_alloc, selR, List.getD_cons_zero, List.getD_cons_succ] at H))) | ((with_reducible show wpList _ _ _ (⟨some 11, _, _, _, _, _⟩ :: _) _ _); (refine wpList_append0 rfl (.tmp 7) (.tmp 10) _ rfl E_cl 0 (Nat.zero_le _) _ m _ rfl (H.out.row 1 rfl) _ 1 1 _ rfl (Rd.of_own (H.out.row 2 rfl)) (by simp [Value.oneCell']) (by unfold maxLen; omega) (by omega) ?_; intro vq wq howq hgq hatq; replace H := Lib.hid (H.out.setRow 1 rfl hgq howq hatq); (try simp only [List.set_cons_zero, List.set_cons_succ, List.cons_append, List.nil_append, List.eraseIdx_cons_zero, List.eraseIdx_cons_succ, List.setIfInBounds_toArray, World.size_alloc, selR, List.getD_cons_zero, List.getD_cons_succ] at H); clear howq hgq hatq; obtain ⟨A2, c2, rfl, _⟩ := own_slice (H.out.row 1 rfl))))
  go_ret
  exact ⟨A2, c2, rfl, H.out.to, H.out.rowB 1 rfl⟩

end Go.Proofs.Ytlclllkjnhgbjaa
